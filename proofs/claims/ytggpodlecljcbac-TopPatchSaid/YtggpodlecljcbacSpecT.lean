/- Plain: what putting and dropping does, by membership; quilts grown by acts. -/
import Derived.Test.YtggpodlecljcbacSpecQ2
import Derived.Test.YtggpodlecljcbacWalkR2
namespace Go.Proofs.Ytggpodlecljcbac
set_option linter.unusedSimpArgs false
set_option linter.unusedVariables false
theorem get_iff {l : List File} (h : Rises l) (n : ByteArray) (g : File) : getAt l n = some g ↔ g ∈ l ∧ g.name.toList = n.toList := by
  constructor
  · intro hg
    unfold getAt at hg
    exact ⟨List.mem_of_find?_eq_some hg, by simpa using List.find?_some hg⟩
  · rintro ⟨hm, he⟩
    cases hg : getAt l n with
    | none =>
      unfold getAt at hg
      rw [List.find?_eq_none] at hg
      exact absurd (by simpa using he) (hg g hm)
    | some g' =>
      unfold getAt at hg
      have h1 := List.mem_of_find?_eq_some hg
      have h2 : g'.name.toList = n.toList := by simpa using List.find?_some hg
      rw [name_inj h h1 hm (by rw [h2, he])]
theorem get_none_iff (l : List File) (n : ByteArray) : getAt l n = none ↔ ∀ g ∈ l, g.name.toList ≠ n.toList := by
  unfold getAt
  rw [List.find?_eq_none]
  simp
theorem mem_putAll {l : List File} (f : File) (h : Rises l) (g : File) : g ∈ putAll l f ↔ g = f ∨ (g ∈ l ∧ g.name.toList ≠ f.name.toList) := by
  have hrise := rises_put f h
  have hf : f ∈ putAll l f := by
    rw [put_rises l f h _ rfl]
    simp
  constructor
  · intro hg
    by_cases e : g.name.toList = f.name.toList
    · exact Or.inl (name_inj hrise hg hf e)
    · rcases mem_put f h g hg with rfl | hm
      · exact absurd rfl e
      · exact Or.inr ⟨hm, e⟩
  · rintro (rfl | ⟨hm, e⟩)
    · exact hf
    · rw [put_rises l f h _ rfl]
      obtain ⟨r, hr⟩ : ∃ r, r = rank l f.name := ⟨_, rfl⟩
      rw [← hr]
      obtain ⟨t, ht, rfl⟩ := List.getElem_of_mem hm
      by_cases h1 : t < r
      · exact List.mem_append_left _ (List.mem_iff_getElem.mpr ⟨t, by rw [List.length_take]; omega, by rw [List.getElem_take]⟩)
      · refine List.mem_append_right _ (List.mem_cons_of_mem _ ?_)
        by_cases hi : isAt l f.name r = true
        · rw [if_pos hi]
          have hne : t ≠ r := by
            rintro rfl
            rw [isAt_lt l f.name t ht] at hi
            exact e (by simpa using hi)
          exact List.mem_iff_getElem.mpr ⟨t - (r + 1), by rw [List.length_drop]; omega, by rw [List.getElem_drop]; congr 1; omega⟩
        · rw [if_neg hi]
          exact List.mem_iff_getElem.mpr ⟨t - r, by rw [List.length_drop]; omega, by rw [List.getElem_drop]; congr 1; omega⟩
def dropL (l : List File) (n : ByteArray) : List File := l.filter (fun f => f.name.toList != n.toList)
theorem mem_dropL (l : List File) (n : ByteArray) (g : File) : g ∈ dropL l n ↔ g ∈ l ∧ g.name.toList ≠ n.toList := by
  unfold dropL; rw [List.mem_filter]; simp
theorem rises_dropL {l : List File} (h : Rises l) (n : ByteArray) : Rises (dropL l n) := rises_filter h _
theorem bLt_asymm {a b : ByteArray} (h : bLt a b = true) : bLt b a = false := by
  cases e : bLt b a
  · rfl
  · have := bLt_trans h e
    rw [bLt_irrefl] at this; cases this
theorem rises_ext : ∀ {a b : List File}, Rises a → Rises b → (∀ g, g ∈ a ↔ g ∈ b) → a = b
  | [], [], _, _, _ => rfl
  | [], y :: b, _, _, h => absurd ((h y).2 (by simp)) (by simp)
  | x :: a, [], _, _, h => absurd ((h x).1 (by simp)) (by simp)
  | x :: a, y :: b, ha, hb, h => by
    have ha' := List.pairwise_cons.mp ha
    have hb' := List.pairwise_cons.mp hb
    have hxy : x = y := by
      rcases List.mem_cons.mp ((h x).1 (by simp)) with e | hx
      · exact e
      · rcases List.mem_cons.mp ((h y).2 (by simp)) with e | hy
        · exact e.symm
        · have h1 := hb'.1 x hx
          have h2 := ha'.1 y hy
          rw [bLt_asymm h1] at h2; cases h2
    subst hxy
    have : a = b := rises_ext ha'.2 hb'.2 (fun g => by
      constructor
      · intro hg
        rcases List.mem_cons.mp ((h g).1 (by simp [hg])) with e | hh
        · subst e; have := ha'.1 g hg; rw [bLt_irrefl] at this; cases this
        · exact hh
      · intro hg
        rcases List.mem_cons.mp ((h g).2 (by simp [hg])) with e | hh
        · subst e; have := hb'.1 g hg; rw [bLt_irrefl] at this; cases this
        · exact hh)
    rw [this]
theorem drop_is {l : List File} {n : ByteArray} (h : (getAt l n).isSome = true) : dropAt l n = (dropL l n, 0) := by unfold dropAt; rw [if_pos h]; rfl
theorem drop_isnt {l : List File} {n : ByteArray} (h : (getAt l n).isSome = false) : dropAt l n = ([], 5) := by unfold dropAt; rw [if_neg (by simp [h])]
theorem put_ok {l : List File} {f : File} (h0 : (putAt l f).2 = 0) : putAt l f = (putAll l f, 0) ∧ fileFault f = 0 ∧ ¬ ((getAt l f.name).isSome = false ∧ 8 ≤ l.length) := by
  unfold putAt at h0 ⊢
  by_cases hf : fileFault f = 0
  · rw [if_neg (by simp [hf])] at h0 ⊢
    split
    · rename_i hh; rw [if_pos hh] at h0; cases h0
    · rename_i hh; exact ⟨rfl, hf, hh⟩
  · rw [if_pos hf] at h0; exact absurd h0 hf
theorem put_to {l : List File} {f : File} (hf : fileFault f = 0) (h : (getAt l f.name).isSome = true ∨ l.length < 8) : putAt l f = (putAll l f, 0) := by
  unfold putAt
  rw [if_neg (by simp [hf]), if_neg]
  rintro ⟨h1, h2⟩
  rcases h with h | h
  · rw [h1] at h; cases h
  · omega
theorem next_ok {q : Quilt} {p : List File × Nat} (h0 : (nextQ q p).2 = 0) : nextQ q p = (⟨p.1, q.turn + 1⟩, 0) ∧ p.2 = 0 ∧ q.turn < 9999 := by
  unfold nextQ at h0 ⊢
  split
  · rename_i hh; rw [if_pos hh] at h0; exact absurd h0 hh
  · rename_i hh
    rw [if_neg hh] at h0
    split
    · rename_i h9; rw [if_pos h9] at h0; cases h0
    · rename_i h9; exact ⟨rfl, by simpa using hh, by omega⟩
theorem next_to {q : Quilt} {l : List File} (h : q.turn < 9999) : nextQ q (l, 0) = (⟨l, q.turn + 1⟩, 0) := by
  unfold nextQ; rw [if_neg (by simp), if_neg (by omega)]
theorem get_put_same {l : List File} (f : File) (h : Rises l) : getAt (putAll l f) f.name = some f :=
  (get_iff (rises_put f h) _ _).2 ⟨(mem_putAll f h f).2 (Or.inl rfl), rfl⟩
theorem opt_ext {α : Type} {a b : Option α} (h : ∀ x, a = some x ↔ b = some x) : a = b := by
  cases a with
  | none =>
    cases b with
    | none => rfl
    | some y => exact absurd ((h y).2 rfl) (by simp)
  | some x => exact ((h x).1 rfl).symm
theorem get_put_other {l : List File} (f : File) (h : Rises l) (n : ByteArray) (hn : n.toList ≠ f.name.toList) : getAt (putAll l f) n = getAt l n := by
  refine opt_ext fun g => ?_
  rw [get_iff (rises_put f h), get_iff h, mem_putAll f h]
  constructor
  · rintro ⟨rfl | ⟨h1, _⟩, h3⟩
    · exact absurd h3.symm hn
    · exact ⟨h1, h3⟩
  · rintro ⟨h1, h3⟩
    exact ⟨Or.inr ⟨h1, by rw [h3]; exact hn⟩, h3⟩
theorem get_drop_same (l : List File) (n : ByteArray) : getAt (dropL l n) n = none := by
  rw [get_none_iff]
  intro g hg
  exact ((mem_dropL l n g).1 hg).2
theorem get_drop_other {l : List File} (h : Rises l) (n m : ByteArray) (hn : m.toList ≠ n.toList) : getAt (dropL l n) m = getAt l m := by
  refine opt_ext fun g => ?_
  rw [get_iff (rises_dropL h n), get_iff h, mem_dropL]
  constructor
  · rintro ⟨⟨h1, _⟩, h3⟩; exact ⟨h1, h3⟩
  · rintro ⟨h1, h3⟩; exact ⟨⟨h1, by rw [h3]; exact hn⟩, h3⟩
theorem put_len {l : List File} (f : File) (h : Rises l) : (putAll l f).length = if (getAt l f.name).isSome = true then l.length else l.length + 1 := put_length f h
theorem dropL_len {l : List File} (h : Rises l) (n : ByteArray) (hg : (getAt l n).isSome = true) : (dropL l n).length + 1 = l.length := by
  cases hi : isAt l n (rank l n)
  · rw [get_noneR l n h hi] at hg; cases hg
  · have hl := isAt_len hi
    have := drop_rises l n h _ rfl hi
    unfold dropL
    rw [this]
    simp
    omega
/-- Acts, one behind the other; what can't be done is left out. -/
def stepQ (q : Quilt) (a : Act) : Quilt := if (doAct q a).2 = 0 then (doAct q a).1 else q
def grownTo (al : List Act) (k : Nat) : Quilt := (al.take k).foldl stepQ ⟨[], 1⟩
def grownQ (al : List Act) : Quilt := grownTo al al.length
theorem grown_next (al : List Act) (k : Nat) (h : k < al.length) : grownTo al (k + 1) = stepQ (grownTo al k) al[k] := by
  unfold grownTo; rw [List.take_succ_eq_append_getElem h, List.foldl_append]; rfl
theorem do_turn {q : Quilt} (h : Good q) (a : Act) (h0 : (doAct q a).2 = 0) : (doAct q a).1.turn ≤ q.turn + 1 := by
  unfold doAct at h0 ⊢
  split
  · rename_i hh; rw [if_pos hh] at h0; rw [(written_good h _ _ h0).2]; omega
  · rename_i hh
    rw [if_neg hh] at h0
    split
    · rename_i hh; rw [if_pos hh] at h0; rw [(dropped_good h _ h0).2]; omega
    · rename_i hh
      rw [if_neg hh] at h0
      split
      · rename_i hh; rw [if_pos hh] at h0; rw [(renamed_good h _ _ h0).2]; omega
      · rename_i hh
        rw [if_neg hh] at h0
        split
        · rename_i hh; rw [if_pos hh] at h0; rw [(swapped_good h _ _ h0).2]; omega
        · show q.turn ≤ q.turn + 1; omega
theorem grown_good (al : List Act) : ∀ k, k ≤ al.length → Good (grownTo al k) ∧ (grownTo al k).turn ≤ k + 1
  | 0, _ => ⟨good_new, by simp [grownTo]⟩
  | k + 1, h => by
    obtain ⟨h1, h2⟩ := grown_good al k (by omega)
    rw [grown_next al k (by omega)]
    unfold stepQ
    split
    · rename_i h0
      have := do_turn h1 al[k] h0
      exact ⟨do_good h1 _ h0, by omega⟩
    · exact ⟨h1, by omega⟩
theorem grown_all (al : List Act) : Good (grownQ al) ∧ (grownQ al).turn ≤ al.length + 1 := by
  have := grown_good al al.length (Nat.le_refl _)
  exact ⟨this.1, by unfold grownQ; exact this.2⟩
end Go.Proofs.Ytggpodlecljcbac
