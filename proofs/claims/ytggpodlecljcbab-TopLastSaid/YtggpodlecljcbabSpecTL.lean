/- Plain: where no two copies are the same, the one of the greatest turn is right. -/
import Derived.Test.YtggpodlecljcbabWalkD4
namespace Go.Proofs.Ytggpodlecljcbab
set_option linter.unusedSimpArgs false
set_option linter.unusedVariables false
theorem sameC_comm (a b : Copy) : sameCopy a b = sameCopy b a := by
  unfold sameCopy
  rw [Bool.eq_iff_iff]
  simp only [Bool.and_eq_true, beq_iff_eq, Bool.or_eq_true, Bool.not_eq_true', decide_eq_true_eq]
  constructor
  · rintro ⟨h1, h2⟩; exact ⟨h1.symm, by rw [← h1]; exact h2.imp id Eq.symm⟩
  · rintro ⟨h1, h2⟩; exact ⟨h1.symm, by rw [← h1]; exact h2.imp id Eq.symm⟩
theorem sameC_is {a b : Copy} (h : sameCopy a b = true) : a.is = b.is := by
  simp only [sameCopy, Bool.and_eq_true, beq_iff_eq] at h; exact h.1
/-- No two copies are the same. -/
structure Apart (t : Trio) : Prop where
  ba : (t.b.is && sameCopy t.b t.a) = false
  ca : (t.c.is && sameCopy t.c t.a) = false
  cb : (t.c.is && sameCopy t.c t.b) = false
theorem Apart.twin0 {t : Trio} (h : Apart t) : twin t 0 = false := by
  have h1 := h.ba
  have h2 := h.ca
  unfold twin
  simp only [Trio.at]
  cases e1 : sameCopy t.a t.b
  · cases e2 : sameCopy t.a t.c
    · simp
    · have i2 := sameC_is e2
      rw [sameC_comm, e2] at h2
      simp only [Bool.and_true] at h2
      simp [i2, h2]
  · have i1 := sameC_is e1
    rw [sameC_comm, e1] at h1
    simp only [Bool.and_true] at h1
    simp [i1, h1]
theorem Apart.twin1 {t : Trio} (h : Apart t) : twin t 1 = false := by
  have h2 := h.cb
  unfold twin
  simp only [Trio.at]
  cases e2 : sameCopy t.b t.c
  · simp
  · have i2 := sameC_is e2
    rw [sameC_comm, e2] at h2
    simp only [Bool.and_true] at h2
    simp [i2, h2]
/-- What is right then. -/
structure Right (t : Trio) (i : Nat) : Prop where
  lt : i < 3
  is : (t.at i).is = true
  top : ∀ j, j < 3 → (t.at j).is = true → (t.at j).quilt.turn ≤ (t.at i).quilt.turn
theorem last_best (t : Trio) : (bestTo t 3 = -1 ∧ t.a.is = false ∧ t.b.is = false ∧ t.c.is = false) ∨ ∃ i : Nat, bestTo t 3 = i ∧ Right t i := by
  have key : ∀ k, k ≤ 3 → (bestTo t k = -1 ∧ ∀ j, j < k → (t.at j).is = false) ∨ ∃ i : Nat, bestTo t k = i ∧ i < k ∧ (t.at i).is = true ∧ ∀ j, j < k → (t.at j).is = true → (t.at j).quilt.turn ≤ (t.at i).quilt.turn := by
    intro k
    induction k with
    | zero => intro _; exact Or.inl ⟨rfl, fun j hj => absurd hj (Nat.not_lt_zero _)⟩
    | succ k ih =>
      intro hk
      have hstep : bestTo t (k + 1) = if better t (bestTo t k) k then (k : Int) else bestTo t k := rfl
      rcases ih (by omega) with ⟨h1, h2⟩ | ⟨i, h1, h2, h3, h4⟩
      · cases his : (t.at k).is
        · left
          refine ⟨?_, fun j hj => ?_⟩
          · rw [hstep, if_neg (by simp [better, his])]; exact h1
          · by_cases e : j = k
            · subst e; exact his
            · exact h2 j (by omega)
        · right
          refine ⟨k, ?_, by omega, his, fun j hj hij => ?_⟩
          · rw [hstep, if_pos (by simp [better, his, h1])]
          · by_cases e : j = k
            · subst e; exact Int.le_refl _
            · rw [h2 j (by omega)] at hij; cases hij
      · right
        have hi0 : ¬ ((i : Int) < 0) := by omega
        cases hb : better t (bestTo t k) k
        · refine ⟨i, by rw [hstep, hb]; exact h1, by omega, h3, fun j hj hij => ?_⟩
          by_cases e : j = k
          · subst e
            rw [h1] at hb
            simp [better, hij, hi0] at hb
            omega
          · exact h4 j (by omega) hij
        · rw [h1] at hb
          simp [better, hi0] at hb
          refine ⟨k, by rw [hstep, h1, if_pos (by simp [better, hi0, hb])], by omega, hb.1, fun j hj hij => ?_⟩
          by_cases e : j = k
          · subst e; exact Int.le_refl _
          · have := h4 j (by omega) hij
            omega
  rcases key 3 (Nat.le_refl _) with ⟨h1, h2⟩ | ⟨i, h1, h2, h3, h4⟩
  · exact Or.inl ⟨h1, h2 0 (by decide), h2 1 (by decide), h2 2 (by decide)⟩
  · exact Or.inr ⟨i, h1, h2, h3, h4⟩
theorem last_none {t : Trio} (h : Apart t) (hb : bestTo t 3 = -1) : votedE t = 4 := (votedN t h.twin0 h.twin1 hb).2
theorem last_some {t : Trio} (h : Apart t) {i : Nat} (hb : bestTo t 3 = i) : votedQ t = (t.at i).quilt ∧ votedE t = 0 := votedB t i h.twin0 h.twin1 hb
theorem wrong_is (t : Trio) {i j : Nat} (hi : (t.at i).is = true) (hs : ((t.at j).is && sameCopy (t.at j) (t.at i)) = false) : wrongAt t (t.at i).quilt j = true := by
  unfold wrongAt
  have e0 : ∀ c : Copy, c.is = true → (⟨true, c.quilt⟩ : Copy) = c := by
    rintro ⟨x, q⟩ h
    obtain rfl : x = true := h
    rfl
  have e := e0 _ hi
  rw [e]
  cases hs2 : sameCopy (t.at j) (t.at i)
  · rfl
  · rw [hs2, sameC_is hs2, hi] at hs
    cases hs
theorem wrong_self (t : Trio) {i : Nat} (hi : (t.at i).is = true) : wrongAt t (t.at i).quilt i = false := by
  simp [wrongAt, sameCopy, hi]
theorem apart_swap {x y : Copy} (h : (x.is && sameCopy x y) = false) : (y.is && sameCopy y x) = false := by
  cases e : sameCopy y x
  · simp
  · have i := sameC_is e
    rw [sameC_comm, e] at h
    simp only [Bool.and_true] at h
    simp [i, h]
theorem last_wrong {t : Trio} (h : Apart t) {i : Nat} (hr : Right t i) : (wrongs t (t.at i).quilt).length = 2 := by
  have h0 := h.ba
  have h1 := h.ca
  have h2 := h.cb
  have key : ∀ j, j < 3 → j ≠ i → wrongAt t (t.at i).quilt j = true := by
    intro j hj hne
    refine wrong_is t hr.is ?_
    have := hr.lt
    match i, j, this, hj with
    | 0, 1, _, _ => exact h0
    | 0, 2, _, _ => exact h1
    | 1, 0, _, _ => exact apart_swap h0
    | 1, 2, _, _ => exact h2
    | 2, 0, _, _ => exact apart_swap h1
    | 2, 1, _, _ => exact apart_swap h2
    | 0, 0, _, _ => exact absurd rfl hne
    | 1, 1, _, _ => exact absurd rfl hne
    | 2, 2, _, _ => exact absurd rfl hne
  have hs := wrong_self t hr.is
  have hl := hr.lt
  unfold wrongs wrongTo
  rw [show List.range 3 = [0, 1, 2] from rfl]
  match i, hl with
  | 0, _ => simp [hs, key 1 (by decide) (by decide), key 2 (by decide) (by decide)]
  | 1, _ => simp [hs, key 0 (by decide) (by decide), key 2 (by decide) (by decide)]
  | 2, _ => simp [hs, key 0 (by decide) (by decide), key 1 (by decide) (by decide)]
end Go.Proofs.Ytggpodlecljcbab
