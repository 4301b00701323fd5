/- Plain: chapter 4: what patching does. -/
import Derived.Test.YtggpodlecljcbacSpecDt
namespace Go.Proofs.Ytggpodlecljcbac
set_option linter.unusedSimpArgs false
set_option linter.unusedVariables false
theorem get_dropStep {l : List File} (h : Rises l) (n x : ByteArray) : getAt (dropStep l n) x = if x = n then none else getAt l x := by
  unfold dropStep
  by_cases hs : (getAt l n).isSome = true
  · rw [if_pos hs, drop_is hs]
    by_cases e : x = n
    · subst e; rw [if_pos rfl]; exact get_drop_same l x
    · rw [if_neg e]; exact get_drop_other h n x (fun h => e (bts h))
  · rw [if_neg hs]
    by_cases e : x = n
    · subst e; rw [if_pos rfl]
      cases h2 : getAt l x with
      | none => rfl
      | some f => rw [h2] at hs; exact absurd rfl hs
    · rw [if_neg e]
open Classical in
theorem get_dropsTo {l : List File} (h : Fine l) (names : List ByteArray) (x : ByteArray) : ∀ k, k ≤ names.length → getAt (dropsTo l names k) x = if x ∈ names.take k then none else getAt l x
  | 0, _ => by simp [dropsTo_zero]
  | k + 1, hk => by
    have hk' : k < names.length := by omega
    rw [dropsTo_next l names k hk', get_dropStep (dropsTo_fine h names k (by omega)).rises, get_dropsTo h names x k (by omega), List.take_succ_eq_append_getElem hk']
    by_cases e : x = names[k]
    · rw [if_pos e, if_pos (List.mem_append_right _ (List.mem_singleton.2 e))]
    · rw [if_neg e]
      by_cases h2 : x ∈ names.take k
      · rw [if_pos h2, if_pos (List.mem_append_left _ h2)]
      · rw [if_neg h2, if_neg (by rw [List.mem_append]; simp [h2, e])]
theorem put_err {l : List File} {f : File} (hf : fileFault f = 0) (h0 : (putAt l f).2 ≠ 0) : (putAt l f).2 = 7 := by
  unfold putAt at h0 ⊢
  rw [if_neg (by simp [hf])] at h0 ⊢
  split
  · rfl
  · rename_i h; rw [if_neg h] at h0; exact absurd rfl h0
theorem get_put {l : List File} {f : File} (h : Rises l) (h0 : (putAt l f).2 = 0) (x : ByteArray) : getAt (putAt l f).1 x = if x = f.name then some f else getAt l x := by
  rw [(put_ok h0).1]
  by_cases e : x = f.name
  · subst e; rw [if_pos rfl]; exact get_put_same f h
  · rw [if_neg e]; exact get_put_other f h x (fun h => e (bts h))
theorem puts_err {b : List File} (hb : Fine b) : ∀ (names : List ByteArray) (l : List File), (putsFrom b l names).2 ≠ 0 → (putsFrom b l names).2 = 7
  | [], l, h => by rw [putsFrom] at h; exact absurd rfl h
  | n :: r, l, h => by
    rw [putsFrom] at h ⊢
    cases hg : getAt b n with
    | none => rw [hg] at h; exact puts_err hb r l h
    | some f =>
      rw [hg] at h
      simp only at h ⊢
      by_cases h0 : (putAt l f).2 = 0
      · rw [if_pos h0] at h ⊢; exact puts_err hb r _ h
      · rw [if_neg h0]; exact put_err (hb.each f (hb.mem hg).1) h0
open Classical in
theorem get_puts {b : List File} (hb : Fine b) : ∀ (names : List ByteArray) (l : List File), Fine l → (putsFrom b l names).2 = 0 → Fine (putsFrom b l names).1 ∧ ∀ x, getAt (putsFrom b l names).1 x = if x ∈ names ∧ (getAt b x).isSome = true then getAt b x else getAt l x
  | [], l, hl, h => by rw [putsFrom]; exact ⟨hl, fun x => by simp⟩
  | n :: r, l, hl, h => by
    rw [putsFrom] at h ⊢
    cases hg : getAt b n with
    | none =>
      rw [hg] at h
      simp only at h ⊢
      obtain ⟨h1, h2⟩ := get_puts hb r l hl h
      refine ⟨h1, fun x => ?_⟩
      rw [h2]
      by_cases e : x = n
      · subst e; simp [hg]
      · simp [e]
    | some f =>
      have hfn : f.name = n := bts (hb.mem hg).2
      rw [hg] at h
      simp only at h ⊢
      by_cases h0 : (putAt l f).2 = 0
      · rw [if_pos h0] at h ⊢
        obtain ⟨h1, h2⟩ := get_puts hb r _ (put_fine hl f) h
        refine ⟨h1, fun x => ?_⟩
        rw [h2, get_put hl.rises h0 x, hfn]
        by_cases e : x = n
        · subst e; simp [hg]
        · simp [e]
      · rw [if_neg h0] at h; exact absurd h h0
open Classical in
theorem patched_get {a b : Quilt} (ha : Good a) (hb : Good b) (names : List ByteArray) (h0 : (patchedQ a b names).2 = 0) :
    Fine (patchedQ a b names).1.files ∧ (patchedQ a b names).1.turn = b.turn ∧ ∀ x, getAt (patchedQ a b names).1.files x = if x ∈ names then getAt b.files x else getAt a.files x := by
  unfold patchedQ at h0 ⊢
  by_cases he : (putsFrom b.files (dropsTo a.files names names.length) names).2 = 0
  · rw [if_pos he]
    obtain ⟨h1, h2⟩ := get_puts hb.fine names _ (dropsTo_fine ha.fine names _ (Nat.le_refl _)) he
    refine ⟨h1, rfl, fun x => ?_⟩
    show getAt (putsFrom b.files (dropsTo a.files names names.length) names).1 x = _
    rw [h2, get_dropsTo ha.fine names x _ (Nat.le_refl _), List.take_length]
    by_cases hx : x ∈ names
    · rw [if_pos hx, if_pos hx]
      cases hgx : getAt b.files x with
      | none => simp
      | some f => simp [hx]
    · rw [if_neg hx, if_neg hx, if_neg (fun h => hx h.1)]
  · rw [if_neg he] at h0; exact absurd h0 he
theorem patched_err {a b : Quilt} (hb : Good b) (names : List ByteArray) (h0 : (patchedQ a b names).2 ≠ 0) : (patchedQ a b names).2 = 7 := by
  unfold patchedQ at h0 ⊢
  by_cases he : (putsFrom b.files (dropsTo a.files names names.length) names).2 = 0
  · rw [if_pos he] at h0; exact absurd rfl h0
  · rw [if_neg he]; exact puts_err hb.fine names _ he
theorem files_nodup {l : List File} (h : Rises l) : l.Nodup := by
  refine List.Pairwise.imp ?_ h
  intro x y hxy e
  rw [e, bLt_irrefl] at hxy
  cases hxy
theorem puts_sub {b : List File} (hb : Fine b) : ∀ (names : List ByteArray) (l : List File), Fine l → (∀ f ∈ l, f ∈ b) → (putsFrom b l names).2 = 0
  | [], l, _, _ => by rw [putsFrom]
  | n :: r, l, hl, hs => by
    rw [putsFrom]
    cases hg : getAt b n with
    | none => exact puts_sub hb r l hl hs
    | some f =>
      have hfb := (hb.mem hg).1
      have hok : putAt l f = (putAll l f, 0) := by
        refine put_to (hb.each f hfb) ?_
        by_cases hs1 : (getAt l f.name).isSome = true
        · exact Or.inl hs1
        · right
          have hnm : f ∉ l := fun hm => hs1 (by rw [get_self hl.rises hm]; rfl)
          have h1 : (f :: l).length ≤ b.length := List.Nodup.length_le_of_subset (List.nodup_cons.2 ⟨hnm, files_nodup hl.rises⟩) (fun g hg => by rcases List.mem_cons.1 hg with rfl | hg; exact hfb; exact hs g hg)
          have h2 := hb.len
          simp only [List.length_cons] at h1
          omega
      simp only
      have h0 : (putAt l f).2 = 0 := by rw [hok]
      rw [if_pos h0]
      refine puts_sub hb r _ (put_fine hl f) fun g hg => ?_
      rw [hok] at hg
      rcases (mem_putAll f hl.rises g).1 hg with rfl | ⟨hg, _⟩
      · exact hfb
      · exact hs g hg
/-- D2: patched in what differs a quilt is the other one. -/
theorem patched_all {a b : Quilt} (ha : Good a) (hb : Good b) : patchedQ a b (mergeD a.files b.files) = (b, 0) := by
  have he : (putsFrom b.files (dropsTo a.files (mergeD a.files b.files) (mergeD a.files b.files).length) (mergeD a.files b.files)).2 = 0 := by
    refine puts_sub hb.fine _ _ (dropsTo_fine ha.fine _ _ (Nat.le_refl _)) fun f hf => ?_
    have h1 := get_self (dropsTo_fine ha.fine (mergeD a.files b.files) _ (Nat.le_refl _)).rises hf
    rw [get_dropsTo ha.fine _ _ _ (Nat.le_refl _), List.take_length] at h1
    by_cases hx : f.name ∈ mergeD a.files b.files
    · rw [if_pos hx] at h1; cases h1
    · rw [if_neg hx] at h1
      rw [mem_mergeD _ _ ha.fine.rises hb.fine.rises] at hx
      have h2 : getAt a.files f.name = getAt b.files f.name := Classical.byContradiction hx
      rw [h2] at h1
      exact (get_at2 hb.fine.rises h1).1
  have h2 : (patchedQ a b (mergeD a.files b.files)).2 = 0 := by unfold patchedQ; rw [if_pos he]
  obtain ⟨h3, h4, h5⟩ := patched_get ha hb _ h2
  have h6 : (patchedQ a b (mergeD a.files b.files)).1.files = b.files := get_ext h3.rises hb.fine.rises fun x => by
    rw [h5]
    by_cases hx : x ∈ mergeD a.files b.files
    · rw [if_pos hx]
    · rw [if_neg hx]
      rw [mem_mergeD _ _ ha.fine.rises hb.fine.rises] at hx
      exact Classical.byContradiction hx
  have h7 : ∀ p : Quilt × Nat, p.2 = 0 → p.1.turn = b.turn → p.1.files = b.files → p = (b, 0) := by
    rintro ⟨⟨x, y⟩, n⟩ e1 e2 e3
    obtain ⟨u, v⟩ := b
    dsimp only at e1 e2 e3
    rw [e1, e2, e3]
  exact h7 _ h2 h4 h6
/-- D2: patched in less it differs in no more. -/
theorem patched_part {a b : Quilt} (ha : Good a) (hb : Good b) (r : Nat) (hr : r ≤ (mergeD a.files b.files).length) (h0 : (patchedQ a b ((mergeD a.files b.files).take r)).2 = 0) :
    (mergeD (patchedQ a b ((mergeD a.files b.files).take r)).1.files b.files).length = (mergeD a.files b.files).length - r := by
  obtain ⟨h3, h4, h5⟩ := patched_get ha hb _ h0
  have hup := up_mergeD a.files b.files ha.fine.rises hb.fine.rises
  have hnd := up_nodup hup
  have key : mergeD (patchedQ a b ((mergeD a.files b.files).take r)).1.files b.files = (mergeD a.files b.files).drop r := by
    refine up_ext (up_mergeD _ _ h3.rises hb.fine.rises) (List.Pairwise.sublist (List.drop_sublist _ _) hup) fun x => ?_
    rw [mem_mergeD _ _ h3.rises hb.fine.rises, h5]
    have hm := mem_mergeD a.files b.files ha.fine.rises hb.fine.rises x
    have hsplit : x ∈ mergeD a.files b.files ↔ x ∈ (mergeD a.files b.files).take r ∨ x ∈ (mergeD a.files b.files).drop r := by
      rw [← List.mem_append, List.take_append_drop]
    have hdis : x ∈ (mergeD a.files b.files).take r → x ∉ (mergeD a.files b.files).drop r := fun h1 h2 => by
      have h := hnd
      rw [← List.take_append_drop r (mergeD a.files b.files), List.nodup_append] at h
      exact h.2.2 x h1 x h2 rfl
    by_cases hx : x ∈ (mergeD a.files b.files).take r
    · rw [if_pos hx]
      exact ⟨fun h => absurd rfl h, fun h => absurd h (hdis hx)⟩
    · rw [if_neg hx, ← hm, hsplit]
      exact ⟨fun h => h.resolve_left hx, Or.inr⟩
  rw [key, List.length_drop]
theorem td_patch : patchedQ ⟨[], 1⟩ ⟨[tdA], 1⟩ [⟨#[97]⟩] = (⟨[tdA], 1⟩, 0) := by
  have hp : putAt [] tdA = ([tdA], 0) := put_new [] tdA (by decide) List.Pairwise.nil 0 rfl rfl (by decide)
  have hg : getAt [tdA] ⟨#[97]⟩ = some tdA := by unfold getAt; simp [tdA]
  have hd : dropsTo [] [(⟨#[97]⟩ : ByteArray)] 1 = [] := by unfold dropsTo; simp [dropStep, getAt]
  have h1 : putsFrom [tdA] [] [⟨#[97]⟩] = ([tdA], 0) := by
    rw [putsFrom, hg]
    simp only [hp, if_true]
    rw [putsFrom]
  unfold patchedQ
  show (if (putsFrom [tdA] (dropsTo [] [(⟨#[97]⟩ : ByteArray)] 1) [⟨#[97]⟩]).2 = 0 then ((⟨(putsFrom [tdA] (dropsTo [] [(⟨#[97]⟩ : ByteArray)] 1) [⟨#[97]⟩]).1, 1⟩ : Quilt), 0) else _) = _
  rw [hd, h1]
  rfl
end Go.Proofs.Ytggpodlecljcbac
