/- Plain: renamed and back; dropped and written anew; how often a file of a grown quilt was written. -/
import Derived.Test.YtggpodlecljcbabWalkT2
namespace Go.Proofs.Ytggpodlecljcbab
set_option linter.unusedSimpArgs false
set_option linter.unusedVariables false
theorem same_bytes {a b : ByteArray} (h : a.toList = b.toList) : a = b := (bytes_eq_iff a b).1 h
theorem renamed_ok {q : Quilt} {a b : ByteArray} (h0 : (renamedQ q a b).2 = 0) :
    ∃ f, getAt q.files a = some f ∧ (getAt q.files b).isSome = false ∧ (renamedQ q a b).1 = ⟨putAll (dropL q.files a) ⟨b, f.text, f.times⟩, q.turn + 1⟩ := by
  unfold renamedQ at h0 ⊢
  cases hg : getAt q.files a with
  | none => rw [hg] at h0; cases h0
  | some f =>
    rw [hg] at h0
    simp only at h0 ⊢
    by_cases h1 : nameFault b.data.toList = 0
    · rw [if_neg (by simp [h1])] at h0 ⊢
      cases h2 : (getAt q.files b).isSome
      · rw [h2, if_neg (by simp)] at h0
        rw [if_neg (by simp)]
        have hd : dropAt q.files a = (dropL q.files a, 0) := drop_is (by rw [hg]; rfl)
        rw [hd] at h0 ⊢
        obtain ⟨e1, e2, _⟩ := next_ok h0
        obtain ⟨e3, _, _⟩ := put_ok e2
        exact ⟨f, rfl, rfl, by rw [e1, e3]⟩
      · rw [h2, if_pos rfl] at h0; cases h0
    · rw [if_pos h1] at h0; exact absurd h0 h1
theorem file_name_eq {l : List File} {n : ByteArray} {f : File} (hg : getAt l n = some f) : f = ⟨n, f.text, f.times⟩ := by
  have := same_bytes (get_name hg)
  cases f; simp only at this; subst this; rfl
/-- TopBack: renamed and back. -/
theorem back_spec {q : Quilt} (h : Good q) (ht : q.turn ≤ 61) {a b : ByteArray} (h0 : (renamedQ q a b).2 = 0) :
    getAt (renamedQ q a b).1.files a = none ∧ renamedQ (renamedQ q a b).1 b a = (⟨q.files, q.turn + 2⟩, 0) := by
  obtain ⟨f, hf, hb, e⟩ := renamed_ok h0
  rw [e]
  have hr := h.fine.rises
  have hrd : Rises (dropL q.files a) := rises_dropL hr a
  have hab : a.toList ≠ b.toList := by
    intro e
    have := same_bytes e
    subst this
    rw [hf] at hb; cases hb
  have hna : getAt (putAll (dropL q.files a) ⟨b, f.text, f.times⟩) a = none := by
    rw [get_none_iff]
    intro g hg
    rcases (mem_putAll _ hrd g).1 hg with rfl | ⟨hg, _⟩
    · exact fun e => hab e.symm
    · exact ((mem_dropL q.files a g).1 hg).2
  refine ⟨hna, ?_⟩
  have hfm := h.fine.mem hf
  have hfg := h.fine.each f hfm.1
  have hfe := file_name_eq hf
  have hnf : nameFault a.data.toList = 0 := by
    have := (file_good hfg).1
    rw [hfe] at this; exact this
  have hgb : getAt (putAll (dropL q.files a) ⟨b, f.text, f.times⟩) b = some ⟨b, f.text, f.times⟩ := get_put_same (l := dropL q.files a) ⟨b, f.text, f.times⟩ hrd
  have hlen : (dropL q.files a).length + 1 = q.files.length := dropL_len hr a (by rw [hf]; rfl)
  have hbn : (getAt (dropL q.files a) b).isSome = false := by
    rw [get_drop_other hr a b (fun e => hab e.symm)]; exact hb
  have hpl : (putAll (dropL q.files a) ⟨b, f.text, f.times⟩).length = (dropL q.files a).length + 1 := by
    rw [put_len _ hrd, if_neg (by rw [show (⟨b, f.text, f.times⟩ : File).name = b from rfl, hbn]; simp)]
  have hrp := rises_put (⟨b, f.text, f.times⟩ : File) hrd
  have hdl : (dropL (putAll (dropL q.files a) ⟨b, f.text, f.times⟩) b).length + 1 = (dropL q.files a).length + 1 := by
    rw [dropL_len hrp b (by rw [hgb]; rfl), hpl]
  have hrr := rises_dropL hrp b
  have hall : putAll (dropL (putAll (dropL q.files a) ⟨b, f.text, f.times⟩) b) f = q.files := by
    refine rises_ext (rises_put f hrr) hr fun g => ?_
    rw [mem_putAll f hrr, mem_dropL, mem_putAll _ hrd, mem_dropL]
    have hfn : f.name.toList = a.toList := hfm.2
    constructor
    · rintro (rfl | ⟨⟨rfl | ⟨⟨h1, h2⟩, h3⟩, h4⟩, h5⟩)
      · exact hfm.1
      · exact absurd rfl h4
      · exact h1
    · intro hg
      by_cases e : g.name.toList = f.name.toList
      · exact Or.inl (name_inj hr hg hfm.1 e)
      · refine Or.inr ⟨⟨Or.inr ⟨⟨hg, by rw [← hfn]; exact e⟩, ?_⟩, ?_⟩, e⟩
        · intro e2
          have : (getAt q.files b).isSome = true := (get_isSome q.files b).2 ⟨g, hg, e2⟩
          rw [hb] at this; cases this
        · intro e2
          have : (getAt q.files b).isSome = true := (get_isSome q.files b).2 ⟨g, hg, e2⟩
          rw [hb] at this; cases this
  unfold renamedQ
  rw [show (⟨putAll (dropL q.files a) ⟨b, f.text, f.times⟩, q.turn + 1⟩ : Quilt).files = putAll (dropL q.files a) ⟨b, f.text, f.times⟩ from rfl, hgb]
  simp only
  rw [if_neg (by simp [hnf]), if_neg (by rw [hna]; simp), drop_is (by rw [hgb]; rfl)]
  simp only
  have hfe' : (⟨a, f.text, f.times⟩ : File) = f := hfe.symm
  rw [hfe', put_to hfg (Or.inr (by have := h.fine.len; omega)), hall, next_to (by show q.turn + 1 < 9999; omega)]
  show ((⟨q.files, q.turn + 1 + 1⟩ : Quilt), 0) = _
  rw [show q.turn + 1 + 1 = q.turn + 2 by omega]
/-- TopDropped: dropped, and written anew. -/
theorem dropped_none {q : Quilt} (ht : q.turn ≤ 61) {a : ByteArray} (h0 : (droppedQ q a).2 ≠ 0) : (droppedQ q a).2 = 5 ∧ (getAt q.files a).isSome = false := by
  unfold droppedQ at h0 ⊢
  cases hi : (getAt q.files a).isSome
  · rw [drop_isnt hi]; exact ⟨rfl, rfl⟩
  · rw [drop_is hi, next_to (by omega)] at h0; exact absurd rfl h0
theorem dropped_again {q : Quilt} (h : Good q) (ht : q.turn ≤ 61) {a t : ByteArray} (hts : t.size ≤ 12) (h0 : (droppedQ q a).2 = 0) :
    getAt (droppedQ q a).1.files a = none ∧ (writtenQ (droppedQ q a).1 a t).2 = 0 ∧ getAt (writtenQ (droppedQ q a).1 a t).1.files a = some ⟨a, t, 1⟩ ∧ (writtenQ (droppedQ q a).1 a t).1.files.length = q.files.length := by
  obtain ⟨e, hi⟩ := dropped_ok h h0
  rw [e]
  have hr := h.fine.rises
  have hn : getAt (dropL q.files a) a = none := get_drop_same q.files a
  have hlen := dropL_len hr a hi
  have hrd := rises_dropL hr a
  obtain ⟨f, hf⟩ := Option.isSome_iff_exists.1 hi
  have hfm := h.fine.mem hf
  have hnf : nameFault a.data.toList = 0 := by
    have := (file_good (h.fine.each f hfm.1)).1
    rw [file_name_eq hf] at this; exact this
  have hw : writtenQ ⟨dropL q.files a, q.turn + 1⟩ a t = (⟨putAll (dropL q.files a) ⟨a, t, 1⟩, q.turn + 2⟩, 0) := by
    unfold writtenQ
    have htm : timesOf ⟨dropL q.files a, q.turn + 1⟩ a = 0 := by unfold timesOf; rw [show (⟨dropL q.files a, q.turn + 1⟩ : Quilt).files = dropL q.files a from rfl, hn]; rfl
    rw [htm]
    show nextQ _ (putAt (dropL q.files a) ⟨a, t, 1⟩) = _
    rw [put_to (file_fault_of hnf hts (by omega) (by omega)) (Or.inr (by have := h.fine.len; omega)), next_to (by show q.turn + 1 < 9999; omega)]
    show ((⟨putAll (dropL q.files a) ⟨a, t, 1⟩, q.turn + 1 + 1⟩ : Quilt), 0) = _
    rw [show q.turn + 1 + 1 = q.turn + 2 by omega]
  rw [hw]
  refine ⟨hn, rfl, get_put_same (l := dropL q.files a) ⟨a, t, 1⟩ hrd, ?_⟩
  show (putAll (dropL q.files a) ⟨a, t, 1⟩).length = _
  rw [put_len _ hrd, if_neg (by rw [show (⟨a, t, 1⟩ : File).name = a from rfl, hn]; simp)]
  exact hlen
/-- No file was written more often than there were turns. -/
def Seldom (q : Quilt) : Prop := ∀ f ∈ q.files, f.times ≤ q.turn
theorem seldom_write {q : Quilt} (h : Good q) (hs : Seldom q) {n t : ByteArray} (h0 : (writtenQ q n t).2 = 0) : Seldom (writtenQ q n t).1 := by
  obtain ⟨e, _, _⟩ := written_ok h h0
  rw [e]
  intro f hf
  have ht : (fileOr (getAt q.files n)).times ≤ q.turn := by
    cases hg : getAt q.files n with
    | none => show (0 : Int) ≤ _; have := h.lo; omega
    | some g => exact hs g (h.fine.mem hg).1
  rcases (mem_putAll _ h.fine.rises f).1 hf with rfl | ⟨hm, _⟩
  · show (fileOr (getAt q.files n)).times + 1 ≤ q.turn + 1; omega
  · have := hs f hm; show f.times ≤ q.turn + 1; omega
theorem seldom_drop {q : Quilt} (h : Good q) (hs : Seldom q) {n : ByteArray} (h0 : (droppedQ q n).2 = 0) : Seldom (droppedQ q n).1 := by
  obtain ⟨e, _⟩ := dropped_ok h h0
  rw [e]
  intro f hf
  have := hs f ((mem_dropL q.files n f).1 hf).1
  show f.times ≤ q.turn + 1; omega
theorem seldom_rename {q : Quilt} (h : Good q) (hs : Seldom q) {a b : ByteArray} (h0 : (renamedQ q a b).2 = 0) : Seldom (renamedQ q a b).1 := by
  obtain ⟨f, hf, _, e⟩ := renamed_ok h0
  rw [e]
  intro g hg
  rcases (mem_putAll _ (rises_dropL h.fine.rises a) g).1 hg with rfl | ⟨hm, _⟩
  · have := hs f (h.fine.mem hf).1; show f.times ≤ q.turn + 1; omega
  · have := hs g ((mem_dropL q.files a g).1 hm).1; show g.times ≤ q.turn + 1; omega
theorem swapped_ok {q : Quilt} {a b : ByteArray} (h0 : (swappedQ q a b).2 = 0) :
    ∃ x y, getAt q.files a = some x ∧ getAt q.files b = some y ∧ ¬ (x.times = 9999 ∨ y.times = 9999) ∧
      (((a.toList == b.toList) = true ∧ (swappedQ q a b).1 = ⟨q.files, q.turn + 1⟩) ∨ ((a.toList == b.toList) = false ∧ (swappedQ q a b).1 = ⟨q.files.map (swapF a b x y), q.turn + 1⟩)) := by
  unfold swappedQ at h0 ⊢
  cases ha : getAt q.files a with
  | none => rw [ha] at h0; cases h0
  | some x =>
    cases hb : getAt q.files b with
    | none => rw [ha, hb] at h0; cases h0
    | some y =>
      rw [ha, hb] at h0
      simp only at h0 ⊢
      by_cases h9 : x.times = 9999 ∨ y.times = 9999
      · rw [if_pos h9] at h0; cases h0
      · rw [if_neg h9] at h0 ⊢
        refine ⟨x, y, rfl, rfl, h9, ?_⟩
        cases hab : (a.toList == b.toList)
        · rw [hab, if_neg (by simp)] at h0
          obtain ⟨e1, _, _⟩ := next_ok h0
          exact Or.inr ⟨rfl, by rw [if_neg (by simp), e1]⟩
        · rw [hab, if_pos rfl] at h0
          obtain ⟨e1, _, _⟩ := next_ok h0
          exact Or.inl ⟨rfl, by rw [if_pos rfl, e1]⟩
theorem seldom_swap {q : Quilt} (h : Good q) (hs : Seldom q) {a b : ByteArray} (h0 : (swappedQ q a b).2 = 0) : Seldom (swappedQ q a b).1 := by
  obtain ⟨x, y, hx, hy, _, (⟨_, e⟩ | ⟨_, e⟩)⟩ := swapped_ok h0
  · rw [e]; intro f hf; have := hs f hf; show f.times ≤ q.turn + 1; omega
  · rw [e]
    intro f hf
    obtain ⟨g, hg, rfl⟩ := List.mem_map.1 hf
    have := hs g hg
    show (swapF a b x y g).times ≤ q.turn + 1
    unfold swapF
    split
    · show g.times + 1 ≤ _; omega
    · split
      · show g.times + 1 ≤ _; omega
      · omega
theorem seldom_do {q : Quilt} (h : Good q) (hs : Seldom q) (a : Act) (h0 : (doAct q a).2 = 0) : Seldom (doAct q a).1 := by
  unfold doAct at h0 ⊢
  split
  · rename_i hh; rw [if_pos hh] at h0; exact seldom_write h hs h0
  · rename_i hh
    rw [if_neg hh] at h0
    split
    · rename_i hh; rw [if_pos hh] at h0; exact seldom_drop h hs h0
    · rename_i hh
      rw [if_neg hh] at h0
      split
      · rename_i hh; rw [if_pos hh] at h0; exact seldom_rename h hs h0
      · rename_i hh
        rw [if_neg hh] at h0
        split
        · rename_i hh; rw [if_pos hh] at h0; exact seldom_swap h hs h0
        · exact hs
theorem grown_seldom (al : List Act) : ∀ k, k ≤ al.length → Seldom (grownTo al k)
  | 0, _ => by intro f hf; simp [grownTo] at hf
  | k + 1, h => by
    rw [grown_next al k (by omega)]
    unfold stepQ
    split
    · rename_i h0; exact seldom_do (grown_good al k (by omega)).1 (grown_seldom al k (by omega)) _ h0
    · exact grown_seldom al k (by omega)
theorem grown_times {al : List Act} (hl : lightActs al 60 = true) : ∀ f ∈ (grownQ al).files, f.times ≤ 61 := by
  intro f hf
  have h1 := grown_seldom al al.length (Nat.le_refl _) f hf
  have h2 := (grown_fit hl).2
  unfold grownQ at h2
  omega
/-- TopFew: when a file can be written. -/
theorem few_full {q : Quilt} {n t : ByteArray} (h8 : q.files.length = 8) (hi : (getAt q.files n).isSome = false) : (writtenQ q n t).2 ≠ 0 := by
  intro h0
  unfold writtenQ at h0
  obtain ⟨_, h2, _⟩ := next_ok h0
  obtain ⟨_, _, h6⟩ := put_ok h2
  exact h6 ⟨hi, by omega⟩
theorem few_is {q : Quilt} (h : Good q) (ht : q.turn ≤ 61) (hs : ∀ f ∈ q.files, f.times ≤ 61) {n t : ByteArray} (hi : (getAt q.files n).isSome = true) : ((writtenQ q n t).2 = 0 ↔ t.size ≤ 12) := by
  obtain ⟨f, hf⟩ := Option.isSome_iff_exists.1 hi
  have hfm := h.fine.mem hf
  have hg := file_good (h.fine.each f hfm.1)
  have htm : timesOf q n = f.times := by unfold timesOf; rw [hf]; rfl
  constructor
  · intro h0
    have := (written_ok h h0).2.1
    exact (file_good this).2.1
  · intro hts
    have hnf : nameFault n.data.toList = 0 := by
      have := hg.1
      rw [file_name_eq hf] at this; exact this
    unfold writtenQ
    rw [htm, put_to (file_fault_of hnf hts (by have := hg.2.2.1; omega) (by have := hs f hfm.1; omega)) (Or.inl hi), next_to (by omega)]
end Go.Proofs.Ytggpodlecljcbab
