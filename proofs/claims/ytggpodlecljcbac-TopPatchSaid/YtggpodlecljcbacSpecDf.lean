/- Plain: chapter 4: in which files two differ. -/
import Derived.Test.YtggpodlecljcbacSpecT
import Derived.Sort.Walk0
namespace Go.Proofs.Ytggpodlecljcbac
set_option linter.unusedSimpArgs false
set_option linter.unusedVariables false
theorem bts {a b : ByteArray} (h : a.toList = b.toList) : a = b := (bytes_eq_iff a b).1 h
def sameIn (b : List File) (f : File) : Bool := decide (getAt b f.name = some f)
def raw1 (a b : List File) : List ByteArray := (a.filter (fun f => !sameIn b f)).map File.name
def raw2 (a b : List File) : List ByteArray := (b.filter (fun g => (getAt a g.name).isNone)).map File.name
def rawD (a b : List File) : List ByteArray := raw1 a b ++ raw2 a b
theorem get_self {l : List File} (h : Rises l) {f : File} (hf : f ∈ l) : getAt l f.name = some f := (get_iff h f.name f).2 ⟨hf, rfl⟩
theorem get_at2 {l : List File} (h : Rises l) {x : ByteArray} {f : File} (hg : getAt l x = some f) : f ∈ l ∧ f.name = x := by
  obtain ⟨h1, h2⟩ := (get_iff h x f).1 hg
  exact ⟨h1, bts h2⟩
theorem mem_raw1 {a b : List File} (ha : Rises a) (x : ByteArray) : x ∈ raw1 a b ↔ ∃ f, getAt a x = some f ∧ getAt b x ≠ some f := by
  unfold raw1
  rw [List.mem_map]
  constructor
  · rintro ⟨f, hf, rfl⟩
    rw [List.mem_filter] at hf
    exact ⟨f, get_self ha hf.1, by simpa [sameIn] using hf.2⟩
  · rintro ⟨f, h1, h2⟩
    obtain ⟨hm, rfl⟩ := get_at2 ha h1
    exact ⟨f, List.mem_filter.mpr ⟨hm, by simpa [sameIn] using h2⟩, rfl⟩
theorem mem_raw2 {a b : List File} (hb : Rises b) (x : ByteArray) : x ∈ raw2 a b ↔ getAt a x = none ∧ ∃ g, getAt b x = some g := by
  unfold raw2
  rw [List.mem_map]
  constructor
  · rintro ⟨f, hf, rfl⟩
    rw [List.mem_filter] at hf
    exact ⟨by simpa using hf.2, f, get_self hb hf.1⟩
  · rintro ⟨h1, f, h2⟩
    obtain ⟨hm, rfl⟩ := get_at2 hb h2
    exact ⟨f, List.mem_filter.mpr ⟨hm, by simp [h1]⟩, rfl⟩
theorem mem_rawD {a b : List File} (ha : Rises a) (hb : Rises b) (x : ByteArray) : x ∈ rawD a b ↔ getAt a x ≠ getAt b x := by
  unfold rawD
  rw [List.mem_append, mem_raw1 ha, mem_raw2 hb]
  cases h1 : getAt a x with
  | none =>
    cases h2 : getAt b x with
    | none => simp
    | some g => simp
  | some f => simp [eq_comm]
theorem names_nodup {l : List File} (h : Rises l) (p : File → Bool) : ((l.filter p).map File.name).Nodup := by
  unfold List.Nodup
  rw [List.pairwise_map]
  refine List.Pairwise.imp ?_ (List.Pairwise.filter p h)
  intro x y hxy e
  rw [e, bLt_irrefl] at hxy
  cases hxy
theorem rawD_nodup {a b : List File} (ha : Rises a) (hb : Rises b) : (rawD a b).Nodup := by
  unfold rawD
  rw [List.nodup_append]
  refine ⟨names_nodup ha _, names_nodup hb _, ?_⟩
  intro x hx y hy e
  subst e
  obtain ⟨f, hf, _⟩ := (mem_raw1 ha x).1 hx
  rw [(mem_raw2 hb x).1 hy |>.1] at hf
  cases hf
/-- D1: both lists, side by side. -/
def mergeD : List File → List File → List ByteArray
  | [], b => b.map File.name
  | f :: a, [] => (f :: a).map File.name
  | f :: a, g :: b => if bLt f.name g.name then f.name :: mergeD a (g :: b) else if bLt g.name f.name then g.name :: mergeD (f :: a) b else (if f = g then [] else [f.name]) ++ mergeD a b
termination_by a b => a.length + b.length
def UpL (l : List ByteArray) : Prop := l.Pairwise (fun a b => bLt a b = true)
theorem get_cons (f : File) (l : List File) (x : ByteArray) : getAt (f :: l) x = if f.name = x then some f else getAt l x := by
  unfold getAt
  rw [List.find?_cons]
  by_cases h : f.name = x
  · subst h; simp
  · have h2 : (f.name.toList == x.toList) = false := by
      rw [beq_eq_false_iff_ne]; intro e; exact h (bts e)
    simp only [h2, if_neg h]
theorem get_low {l : List File} {x : ByteArray} (h : ∀ g ∈ l, bLt x g.name = true) : getAt l x = none := by
  rw [get_none_iff]
  intro g hg e
  have := h g hg
  rw [bts e, bLt_irrefl] at this
  cases this
theorem rises_cons {f : File} {l : List File} (h : Rises (f :: l)) : (∀ g ∈ l, bLt f.name g.name = true) ∧ Rises l := List.pairwise_cons.1 h
theorem get_mem_name {l : List File} (x : ByteArray) : (∃ f, getAt l x = some f) → ∃ f ∈ l, f.name = x := by
  rintro ⟨f, hf⟩
  unfold getAt at hf
  exact ⟨f, List.mem_of_find?_eq_some hf, bts (by simpa using List.find?_some hf)⟩
theorem mem_names {l : List File} (h : Rises l) (x : ByteArray) : x ∈ l.map File.name ↔ getAt l x ≠ none := by
  rw [List.mem_map]
  constructor
  · rintro ⟨f, hf, rfl⟩ e
    rw [get_self h hf] at e
    cases e
  · intro hne
    cases e : getAt l x with
    | none => exact absurd e hne
    | some f => exact get_mem_name x ⟨f, e⟩
theorem bLt_eq {a b : ByteArray} (h1 : bLt a b = false) (h2 : bLt b a = false) : a = b := by
  refine bts (Classical.byContradiction fun hn => ?_)
  have := less_total _ _ h1 hn
  unfold bLt at h2
  rw [h2] at this
  cases this
theorem mem_mergeD : ∀ (a b : List File), Rises a → Rises b → ∀ x, x ∈ mergeD a b ↔ getAt a x ≠ getAt b x
  | [], b, _, hb, x => by
    unfold mergeD
    rw [mem_names hb]
    show _ ↔ (none : Option File) ≠ _
    exact ⟨fun h e => h e.symm, fun h e => h e.symm⟩
  | f :: a, [], ha, _, x => by
    unfold mergeD
    rw [mem_names ha]
    show _ ↔ _ ≠ (none : Option File)
    rfl
  | f :: a, g :: b, ha, hb, x => by
    obtain ⟨la, ra⟩ := rises_cons ha
    obtain ⟨lb, rb⟩ := rises_cons hb
    unfold mergeD
    cases h1 : bLt f.name g.name
    · cases h2 : bLt g.name f.name
      · have e : f.name = g.name := bLt_eq h1 h2
        have ih := mem_mergeD a b ra rb x
        simp only [Bool.false_eq_true, if_false]
        rw [List.mem_append, ih, get_cons f, get_cons g, ← e]
        by_cases hx : f.name = x
        · subst hx
          rw [if_pos rfl, if_pos rfl, get_low la, get_low (by rw [e]; exact lb)]
          by_cases hfg : f = g
          · simp [hfg]
          · simp [hfg]
        · rw [if_neg hx, if_neg hx]
          have : x ∉ (if f = g then [] else [f.name]) := by
            split
            · simp
            · simp; exact fun h => hx h.symm
          simp [this]
      · have ih := mem_mergeD (f :: a) b ha rb x
        simp only [Bool.false_eq_true, if_false, if_true]
        rw [List.mem_cons, ih, get_cons g]
        by_cases hx : g.name = x
        · subst hx
          rw [if_pos rfl, get_low (l := f :: a) (fun y hy => by rcases List.mem_cons.1 hy with rfl | hy; exact h2; exact bLt_trans h2 (la y hy))]
          simp
        · rw [if_neg hx]
          simp
          exact fun h => absurd h.symm hx
    · have ih := mem_mergeD a (g :: b) ra hb x
      simp only [if_true]
      rw [List.mem_cons, ih, get_cons f]
      by_cases hx : f.name = x
      · subst hx
        rw [if_pos rfl, get_low (l := g :: b) (fun y hy => by rcases List.mem_cons.1 hy with rfl | hy; exact h1; exact bLt_trans h1 (lb y hy))]
        simp
      · rw [if_neg hx]
        simp
        exact fun h => absurd h.symm hx
termination_by a b => a.length + b.length
theorem mem_merge_names {a b : List File} (ha : Rises a) (hb : Rises b) {x : ByteArray} (h : x ∈ mergeD a b) : (∃ f ∈ a, f.name = x) ∨ ∃ g ∈ b, g.name = x := by
  rw [mem_mergeD a b ha hb] at h
  cases e : getAt a x with
  | some f => exact Or.inl (get_mem_name x ⟨f, e⟩)
  | none =>
    cases e2 : getAt b x with
    | some f => exact Or.inr (get_mem_name x ⟨f, e2⟩)
    | none => exact absurd (e.trans e2.symm) h
theorem up_names {l : List File} (h : Rises l) : UpL (l.map File.name) := by
  unfold UpL
  rw [List.pairwise_map]
  exact h
theorem up_mergeD : ∀ (a b : List File), Rises a → Rises b → UpL (mergeD a b)
  | [], b, _, hb => by unfold mergeD; exact up_names hb
  | f :: a, [], ha, _ => by unfold mergeD; exact up_names ha
  | f :: a, g :: b, ha, hb => by
    obtain ⟨la, ra⟩ := rises_cons ha
    obtain ⟨lb, rb⟩ := rises_cons hb
    unfold mergeD
    cases h1 : bLt f.name g.name
    · cases h2 : bLt g.name f.name
      · have e : f.name = g.name := bLt_eq h1 h2
        have ih := up_mergeD a b ra rb
        simp only [Bool.false_eq_true, if_false]
        split
        · exact ih
        · refine List.Pairwise.cons ?_ ih
          intro x hx
          rcases mem_merge_names ra rb hx with ⟨y, hy, rfl⟩ | ⟨y, hy, rfl⟩
          · exact la y hy
          · rw [e]; exact lb y hy
      · have ih := up_mergeD (f :: a) b ha rb
        simp only [Bool.false_eq_true, if_false, if_true]
        refine List.Pairwise.cons ?_ ih
        intro x hx
        rcases mem_merge_names ha rb hx with ⟨y, hy, rfl⟩ | ⟨y, hy, rfl⟩
        · rcases List.mem_cons.1 hy with rfl | hy
          · exact h2
          · exact bLt_trans h2 (la y hy)
        · exact lb y hy
    · have ih := up_mergeD a (g :: b) ra hb
      simp only [if_true]
      refine List.Pairwise.cons ?_ ih
      intro x hx
      rcases mem_merge_names ra hb hx with ⟨y, hy, rfl⟩ | ⟨y, hy, rfl⟩
      · exact la y hy
      · rcases List.mem_cons.1 hy with rfl | hy
        · exact h1
        · exact bLt_trans h1 (lb y hy)
termination_by a b => a.length + b.length
theorem up_nodup {l : List ByteArray} (h : UpL l) : l.Nodup := by
  refine List.Pairwise.imp ?_ h
  intro x y hxy e
  rw [e, bLt_irrefl] at hxy
  cases hxy
theorem merge_perm {a b : List File} (ha : Rises a) (hb : Rises b) : (rawD a b).Perm (mergeD a b) := by
  rw [List.perm_ext_iff_of_nodup (rawD_nodup ha hb) (up_nodup (up_mergeD a b ha hb))]
  intro x
  rw [mem_rawD ha hb, mem_mergeD a b ha hb]
def bts_of (s : ByteArray) : List UInt8 := s.data.toList
theorem bts_of_mk (s : ByteArray) : (⟨(bts_of s).toArray⟩ : ByteArray) = s := by cases s; simp [bts_of]
theorem bLt_lt (a b : ByteArray) : bLt a b = true ↔ bts_of a < bts_of b := by
  unfold bLt bts_of
  rw [bytes_list, bytes_list, Go.Proofs.bytesLess_eq]
  simp
/-- What the library's sort leaves of names that stand for a rising list. -/
theorem sort_up {l m : List ByteArray} (hp : l.Perm m) (hm : UpL m) : (l.map bts_of).mergeSort (fun x y => decide (x ≤ y)) = m.map bts_of := by
  have h1 : ((l.map bts_of).mergeSort (fun x y => decide (x ≤ y))).Perm (m.map bts_of) := (List.mergeSort_perm _ _).trans (hp.map _)
  have h2 : ((l.map bts_of).mergeSort (fun x y => decide (x ≤ y))).Pairwise (fun x y => decide (x ≤ y) = true) := List.pairwise_mergeSort (fun a b c h1 h2 => by simp only [decide_eq_true_eq] at *; exact List.le_trans h1 h2) (fun a b => by simp only [Bool.or_eq_true, decide_eq_true_eq]; exact List.le_total a b) _
  have h3 : (m.map bts_of).Pairwise (fun x y => decide (x ≤ y) = true) := by
    rw [List.pairwise_map]
    refine List.Pairwise.imp ?_ hm
    intro x y hxy
    rw [decide_eq_true_eq]
    exact List.le_of_lt ((bLt_lt x y).1 hxy)
  exact List.Perm.eq_of_pairwise (fun x y _ _ h1 h2 => List.le_antisymm (of_decide_eq_true h1) (of_decide_eq_true h2)) h2 h3 h1
end Go.Proofs.Ytggpodlecljcbac
