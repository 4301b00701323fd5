/- The walks of slices.Clone on texts, of disk.New. -/
import Derived.Test.YtggpodlecljcbabWalkK10
namespace Go.Proofs.Ytggpodlecljcbab
open Go.RowKit Go.Sort
set_option linter.unusedSimpArgs false
set_option linter.unusedVariables false
set_option maxRecDepth 100000 in
theorem texts_Clone (g cap : Nat) (l : List ByteArray) (w : World) (h : w.ownsRow 0 9 1 (.slice (some ⟨g, 0, none⟩) l.length cap) l.length (l.map .string)) (h0 : 0 < l.length) (hl : l.length ≤ 1000) :
    Calls Try.prog 50 #[.slice (some ⟨g, 0, none⟩) l.length cap] w fun e w' => ∃ g' c', e = .returned (.slice (some ⟨g', 0, none⟩) l.length c') ∧ w'.ownsRow 0 9 1 (.slice (some ⟨g', 0, none⟩) l.length c') l.length (l.map .string) ∧ w.heap.size ≤ g' ∧ Below w.heap.size w w' := by
  have hcm := (owns_cap h).2
  have hcc := (owns_cap h).1
  unfold maxLen at hcm
  have HN : Hid (∀ j v, (l.map Value.string)[j]? = some v → (w.alloc (.cells #[] 9)).cell? ((⟨g, 0, none⟩ : Addr).add j) = some v) := Lib.hid fun j v hj => by
    have := h.cells (g := g) rfl j v hj
    rw [Addr.add_lit] at this ⊢
    exact cell_on' (below_alloc w _) this
  have HP := Lib.hid h0
  have HM := Lib.hid (World.ownsRow_made w (e := 9) (size := 1) #[] 0 (Nat.le_refl w.heap.size) (Nat.zero_le _) (by simp))
  have hq1 : 0 + l.length ≤ 1000000000 := by omega
  have HB := Lib.hid (below_alloc w (.cells #[] 9))
  have q22 : ∀ (w : World) (a : Option Addr) (n c n' c' : Nat), (binOp .eql 93 (.slice a n c) (.slice none n' c')).run Try.prog w = .ok (.bool a.isNone) w := fun w a n c n' c' => Lib.run_eql_slice_nil w _ _ a n c n' c' Try.underlying93
  clear h h0
  go_enter Try.func50, Try.ntmps50
  go_wp2_with (at_builtin; refine wpList_lies I_texts' rfl _ _ rfl w.heap.size (.slice (some ⟨w.heap.size, 0, none⟩) 0 0) 0 [] rfl HM.out ⟨g, 0, none⟩ l.length cap (l.map .string) rfl (by simp) HN.out (strs_one _) HP.out hq1 (by simp) (w.heap.size + 1) (by simp) ?_; intro g' c' w' ho hg hor hlt; have HY := Lib.hid (And.intro ho (And.intro hg hor)); clear ho hg hor hlt)
  go_wp2_with fail
  go_ret
  obtain ⟨ho, hg, hor⟩ := HY.out
  rw [Nat.zero_add, List.nil_append] at ho
  have hg' : w.heap.size ≤ g' := by
    rcases hor with h | h
    · simp [Value.ownBlock] at h; omega
    · omega
  exact ⟨g', c', by simp, owns_zero ho, hg', HB.out.grown hg (by simp) (fun k hk => by simp [Value.ownBlock] at hk; omega)⟩
theorem full_none : fullS ⟨#[]⟩ = zeros 40 := by
  have h : (⟨#[]⟩ : ByteArray).size = 0 := rfl
  apply ByteArray.ext
  simp [fullS, zeros, h]
set_option maxRecDepth 100000 in
theorem disk_New_bad (n : Int) (w : World) (h : n < 1 ∨ 60 < n) :
    Calls Try.prog 19 #[.int .i64 n] w fun e w' => e = .returned (.tuple #[.pointer none, errV 1]) ∧ w' = w := by
  rcases h with h | h
  · go_enter Try.func19, Try.ntmps19
    go_wp2_with fail
    refine bodyPost_ret (v := .tuple #[.pointer none, errV 1]) (by simp [results, Try.results19, go_sem, errV]) rfl ?_
    exact ⟨rfl, rfl⟩
  · have h2 : ¬ n < 1 := by omega
    go_enter Try.func19, Try.ntmps19
    go_wp2_with fail
    refine bodyPost_ret (v := .tuple #[.pointer none, errV 1]) (by simp [results, Try.results19, go_sem, errV]) rfl ?_
    exact ⟨rfl, rfl⟩
set_option maxRecDepth 100000 in
set_option maxHeartbeats 1000000 in
theorem disk_New (n : Nat) (w : World) (h1 : 1 ≤ n) (h2 : n ≤ 60) :
    Calls Try.prog 19 #[.int .i64 n] w fun e w' => ∃ L : Dk, e = .returned (.tuple #[.pointer (some ⟨L.b, 0, none⟩), .nilIface]) ∧ DiskAt w' L (newD n) ∧ Below w.heap.size w w' ∧ ∀ k, L.foot k → w.heap.size ≤ k := by
  have CF := Lib.hid (disk_full ⟨#[]⟩ (by decide) w)
  rw [full_none] at CF
  go_enter Try.func19, Try.ntmps19
  go_wp2_with fail
  refine CF.out.mono ?_
  rintro e w1 ⟨rfl, hb1⟩
  have HB1 := Lib.hid hb1
  obtain ⟨z40, hz⟩ : ∃ z, z = zeros 40 := ⟨_, rfl⟩
  have HZ := Lib.hid hz
  rw [← hz]
  clear hb1 hz
  have CR := Lib.hid (texts_Repeat w1.heap.size 0 1 n z40 (w1.alloc (.cells #[.string z40] 9)) (by simp) (Nat.le_refl _) (by decide) h1 h2)
  go_wp2_with fail
  refine CR.out.mono ?_
  rintro e w2 ⟨rfl, hh, hb2⟩
  have HH := Lib.hid hh
  have HB2 := Lib.hid (two (two HB1.out (below_alloc _ _)) hb2)
  have HOW := Lib.hid (half_own HH.out (by omega))
  have hs2 : w1.heap.size + 1 ≤ w2.heap.size := by have := hb2.size; simpa using this
  have hsz : (w1.alloc (.cells #[.string z40] 9)).heap.size = w1.heap.size + 1 := by simp
  rw [hsz] at HOW HH ⊢
  have hlt : w1.heap.size + 1 < w2.heap.size := by
    have := (HOW.out.lt _ rfl).2; exact this
  clear hh hb2 hsz
  have CC := texts_Clone (w1.heap.size + 1) n (List.replicate n z40) w2 (by simpa using HOW.out) (by simp; omega) (by simp; omega)
  rw [List.length_replicate] at CC
  replace CC := Lib.hid CC
  have HS2 := Lib.hid hs2
  have HLT := Lib.hid hlt
  clear hs2 hlt
  go_wp2_with fail
  refine CC.out.mono ?_
  rintro e w3 ⟨g', c', rfl, ho3, hg3, hb3⟩
  have HO3 := Lib.hid ho3
  have HG3 := Lib.hid hg3
  have HB3 := Lib.hid hb3
  clear ho3 hg3 hb3
  go_wp2_with fail
  refine bodyPost_ret (v := .tuple #[.pointer (some ⟨w3.heap.size, 0, none⟩), .nilIface]) (by simp [results, Try.results19, go_sem]) rfl ?_
  have hs1 := HB1.out.size
  have hs2 := HS2.out
  have hs3 := HB3.out.size
  have hg3 := HG3.out
  have hlt := HLT.out
  have hgl := (HO3.out.lt g' rfl).2
  have hkr : w3.ownsRow 0 9 1 (.slice (some ⟨w1.heap.size + 1, 0, none⟩) n n) n ((List.replicate n z40).map .string) := owns_of_block HOW.out fun k hk => by cases hk; exact HB3.out.block _ hlt
  have bo : ∀ o, Below w3.heap.size w3 (w3.alloc o) := fun o => below_alloc w3 o
  refine ⟨⟨w3.heap.size, w1.heap.size + 1, g', n, c', .slice none 0 0⟩, rfl, ?_, two (two HB2.out HB3.out) (below_alloc _ _), ?_⟩
  · refine ⟨?_, ?_, ?_, World.ownsRow_nil _ _ _ _, by show w1.heap.size + 1 ≠ w3.heap.size; omega, by show g' ≠ w3.heap.size; omega, by show w1.heap.size + 1 ≠ g'; omega, by simp [Value.ownBlock], by simp [Value.ownBlock], by simp [Value.ownBlock]⟩
    · show (w3.alloc _).heap[w3.heap.size]? = _
      rw [heap_alloc_new]
      simp [newD]
    · have := hkr.alloc (.cells #[.slice (some ⟨w1.heap.size + 1, 0, none⟩) n n, .slice (some ⟨g', 0, none⟩) n c', .slice none 0 0, .int .i64 (-1), .bool false] 99)
      simpa [newD, HZ.out] using this
    · have := HO3.out.alloc (.cells #[.slice (some ⟨w1.heap.size + 1, 0, none⟩) n n, .slice (some ⟨g', 0, none⟩) n c', .slice none 0 0, .int .i64 (-1), .bool false] 99)
      simpa [newD, HZ.out] using this
  · intro k hk
    rcases hk with hk | hk | hk | hk
    · simp only at hk; omega
    · simp only at hk; omega
    · simp only at hk; omega
    · simp [Value.ownBlock] at hk
end Go.Proofs.Ytggpodlecljcbab
