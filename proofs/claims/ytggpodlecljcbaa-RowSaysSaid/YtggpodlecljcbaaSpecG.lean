/- Plain: files that rise, and the place of a name among them. -/
import Derived.Test.YtggpodlecljcbaaSpecF
namespace Go.Proofs.Ytggpodlecljcbaa
set_option linter.unusedSimpArgs false
set_option linter.unusedVariables false
open Go.Lib
def cmpB (a b : ByteArray) : Int := Lib.compareBytes a.data.toList b.data.toList
theorem bytes_list (a : ByteArray) : a.toList = a.data.toList := ByteArray.toList_eq a
theorem cmpL_lt : ∀ (x y : List UInt8), (Lib.compareBytes x y < 0) ↔ Op.bytesLess x y = true
  | [], [] => by simp [compareBytes, Op.bytesLess]
  | [], _ :: _ => by simp [compareBytes, Op.bytesLess]
  | _ :: _, [] => by simp [compareBytes, Op.bytesLess]
  | a :: x, b :: y => by
    have ih := cmpL_lt x y
    unfold compareBytes Op.bytesLess
    by_cases h : a < b
    · simp [h]
    · by_cases h2 : b < a
      · have h3 : a ≠ b := by rintro rfl; exact h h2
        simp [h, h2, h3]
      · have h3 : a = b := by
          apply UInt8.toNat_inj.mp
          simp only [UInt8.lt_iff_toNat_lt] at h h2
          omega
        subst h3
        simp [h, ih]
theorem cmpL_eq0 : ∀ (x y : List UInt8), (Lib.compareBytes x y = 0) ↔ x = y
  | [], [] => by simp [compareBytes]
  | [], _ :: _ => by simp [compareBytes]
  | _ :: _, [] => by simp [compareBytes]
  | a :: x, b :: y => by
    have ih := cmpL_eq0 x y
    unfold compareBytes
    by_cases h : a < b
    · have h3 : a ≠ b := by rintro rfl; simp at h
      simp [h, h3]
    · by_cases h2 : b < a
      · have h3 : a ≠ b := by rintro rfl; exact h h2
        simp [h, h2, h3]
      · have h3 : a = b := by
          apply UInt8.toNat_inj.mp
          simp only [UInt8.lt_iff_toNat_lt] at h h2
          omega
        subst h3
        simp [h, ih]
theorem less_trans : ∀ (x y z : List UInt8), Op.bytesLess x y = true → Op.bytesLess y z = true → Op.bytesLess x z = true
  | _, _, [], _, h => by simp [Op.bytesLess] at h
  | [], _, _ :: _, _, _ => by simp [Op.bytesLess]
  | _ :: _, [], _ :: _, h, _ => by simp [Op.bytesLess] at h
  | a :: x, b :: y, c :: z, h1, h2 => by
    have ih := less_trans x y z
    simp only [Op.bytesLess, Bool.or_eq_true, decide_eq_true_eq, Bool.and_eq_true, beq_iff_eq, UInt8.lt_iff_toNat_lt, ← UInt8.toNat_inj] at *
    rcases h1 with h1 | ⟨h1, h1'⟩ <;> rcases h2 with h2 | ⟨h2, h2'⟩
    · left; omega
    · left; omega
    · left; omega
    · right; exact ⟨by omega, ih h1' h2'⟩
theorem less_irrefl (x : List UInt8) : Op.bytesLess x x = false := by
  have h := cmpL_lt x x
  have h0 := (cmpL_eq0 x x).mpr rfl
  rw [h0] at h
  simpa using h
theorem less_total (x y : List UInt8) (h : Op.bytesLess x y = false) (hn : x ≠ y) : Op.bytesLess y x = true := by
  induction x generalizing y with
  | nil => cases y <;> simp_all [Op.bytesLess]
  | cons a x ih =>
    cases y with
    | nil => simp [Op.bytesLess]
    | cons b y =>
      simp only [Op.bytesLess, Bool.or_eq_true, Bool.or_eq_false_iff, decide_eq_true_eq, decide_eq_false_iff_not, Bool.and_eq_true, beq_iff_eq, UInt8.lt_iff_toNat_lt, ← UInt8.toNat_inj] at *
      by_cases e : a.toNat = b.toNat
      · right
        have e' : a = b := UInt8.toNat_inj.mp e
        subst e'
        refine ⟨rfl, ih y ?_ ?_⟩
        · simpa using h.2
        · rintro rfl; exact hn rfl
      · left; omega
theorem cmpB_lt (a b : ByteArray) : cmpB a b < 0 ↔ bLt a b = true := by unfold cmpB bLt; rw [bytes_list, bytes_list]; exact cmpL_lt _ _
theorem cmpB_eq (a b : ByteArray) : cmpB a b = 0 ↔ (a.toList == b.toList) = true := by unfold cmpB; rw [bytes_list, bytes_list, beq_iff_eq]; exact cmpL_eq0 _ _
theorem bLt_trans {a b c : ByteArray} (h1 : bLt a b = true) (h2 : bLt b c = true) : bLt a c = true := less_trans _ _ _ h1 h2
theorem bLt_irrefl (a : ByteArray) : bLt a a = false := less_irrefl _
theorem bLt_of_not_le {a b : ByteArray} (h : bLe a b = false) : bLt b a = true := by
  unfold bLe at h
  simp only [Bool.or_eq_false_iff] at h
  exact less_total _ _ h.1 (by simpa using h.2)
/-- Files rise. -/
def Rises (l : List File) : Prop := l.Pairwise (fun a b => bLt a.name b.name = true)
theorem rises_of (l : List File) : ∀ (p : Option ByteArray), faultFrom p l = 0 → Rises l ∧ (∀ q, p = some q → ∀ f ∈ l, bLt q f.name = true) := by
  induction l with
  | nil => intro p _; exact ⟨List.Pairwise.nil, fun _ _ f hf => by simp at hf⟩
  | cons f r ih =>
    intro p h
    have key : fileFault f = 0 := by
      by_cases h1 : fileFault f = 0
      · exact h1
      · unfold faultFrom at h; rw [if_pos h1] at h; exact absurd h h1
    have key2 : (∀ q, p = some q → bLe f.name q = false) ∧ faultFrom (some f.name) r = 0 := by
      unfold faultFrom at h
      rw [if_neg (by simp [key])] at h
      cases p with
      | none => exact ⟨(fun q hq => by cases hq), by simpa using h⟩
      | some q =>
        cases hq : bLe f.name q
        · refine ⟨fun q' e => by cases e; exact hq, ?_⟩
          simpa [hq] using h
        · simp [hq] at h
    obtain ⟨hr, hl⟩ := ih _ key2.2
    refine ⟨List.Pairwise.cons (fun g hg => hl _ rfl g hg) hr, ?_⟩
    rintro q rfl g hg
    have hq : bLt q f.name = true := bLt_of_not_le (key2.1 q rfl)
    rcases List.mem_cons.mp hg with rfl | hg
    · exact hq
    · exact bLt_trans hq (hl _ rfl g hg)
theorem Rises.at {l : List File} (h : Rises l) (i j : Nat) (hij : i < j) (hj : j < l.length) : bLt (l[i]'(by omega)).name l[j].name = true := List.pairwise_iff_getElem.mp h i j (by omega) hj hij
theorem Rises.mono {l : List File} (h : Rises l) (name : ByteArray) (i j : Nat) (hij : i ≤ j) (hj : j < l.length) (hl : bLt l[j].name name = true) : bLt (l[i]'(by omega)).name name = true := by
  by_cases e : i = j
  · subst e; exact hl
  · exact bLt_trans (h.at i j (by omega) hj) hl
/-- The place of a name. -/
def rank (l : List File) (name : ByteArray) : Nat := (l.takeWhile (fun f => bLt f.name name)).length
theorem rank_of (name : ByteArray) : ∀ (l : List File) (i : Nat), i ≤ l.length → (∀ t, (ht : t < l.length) → t < i → bLt l[t].name name = true) → (∀ t, (ht : t < l.length) → i ≤ t → bLt l[t].name name = false) → rank l name = i
  | [], i, h, _, _ => by simp at h; simp [rank, h]
  | f :: r, 0, _, _, h2 => by
    have := h2 0 (by simp) (Nat.le_refl _)
    simp at this
    simp [rank, this]
  | f :: r, i + 1, h, h1, h2 => by
    have ha := h1 0 (by simp) (by omega)
    have ih := rank_of name r i (by simpa using h) (fun t ht hti => h1 (t + 1) (by simpa using ht) (by omega)) (fun t ht hti => h2 (t + 1) (by simpa using ht) (by omega))
    simp at ha
    unfold rank at ih ⊢
    simp [ha, ih]
def isAt (l : List File) (name : ByteArray) (i : Nat) : Bool := match l[i]? with | some f => f.name.toList == name.toList | none => false
theorem isAt_lt (l : List File) (name : ByteArray) (i : Nat) (h : i < l.length) : isAt l name i = (l[i].name.toList == name.toList) := by unfold isAt; rw [List.getElem?_eq_getElem h]
theorem isAt_ge (l : List File) (name : ByteArray) (i : Nat) (h : ¬ i < l.length) : isAt l name i = false := by unfold isAt; rw [List.getElem?_eq_none (by omega)]
end Go.Proofs.Ytggpodlecljcbaa
