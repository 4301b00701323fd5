/- The walk of slices.Repeat on one text. The walks of slices.Clone on texts, of disk.New. -/
import Derived.Test.YtggpodlecljcbacWalkK6
import Derived.Test.YtggpodlecljcbacShelf
namespace Go.Proofs.Ytggpodlecljcbac
open Go.RowKit Go.Sort
set_option linter.unusedSimpArgs false
set_option linter.unusedVariables false
theorem texts_info : (Try.prog.info? 9).map (fun i => (i.zero, i.size, i.bytes)) = some (some (.string ⟨#[]⟩), 1, 16) := by kernel_rfl
theorem make_texts (n : Nat) (hn : n ≤ 1000) (w : World) : (Instr.makeSlice 42 (.int .i64 (n : Int)) (.int .i64 (n : Int))).run Try.prog w = .ok (.slice (some ⟨w.heap.size, 0, none⟩) n n) (w.alloc (.cells (madeCells #[.string ⟨#[]⟩] n) 9)) :=
  run_make_row' (P := Try.prog) 42 9 (.string ⟨#[]⟩) 16 Try.underlying42 texts_info rfl .i64 .i64 n (by omega) (by omega) w
def halfRow (s : ByteArray) (n m : Nat) : List Value := List.replicate m (.string s) ++ List.replicate (n - m) (.string ⟨#[]⟩)
theorem half_len (s : ByteArray) {n m : Nat} (h : m ≤ n) : (halfRow s n m).length = n := by simp [halfRow]; omega
theorem half_made (n : Nat) (s : ByteArray) : madeCells #[.string ⟨#[]⟩] n = (halfRow s n 0).toArray := by
  apply Array.toList_inj.1
  apply List.ext_getElem
  · simp [madeCells, halfRow]
  · intro i h1 h2
    simp [madeCells, halfRow, Nat.mod_one]
/-- Block g holds n texts, the first m are s. -/
def Half (w : World) (g n m : Nat) (s : ByteArray) : Prop := w.heap[g]? = some (.cells (halfRow s n m).toArray 9 (0, 0))
theorem half_set {w : World} {g n m k : Nat} {s : ByteArray} (h : Half w g n m s) (hk : m + k ≤ n) : Half (w.setCells g m (List.replicate k (.string s))) g n (m + k) s := by
  unfold Half at h ⊢
  rw [heap_sets_self g _ m w _ _ _ h (by simp [halfRow]; omega)]
  congr 3
  simp only [halfRow, List.length_replicate]
  rw [List.take_left' (by simp), List.drop_append]
  simp only [List.length_replicate, List.drop_replicate]
  rw [show m - (m + k) = 0 by omega, show m + k - m = k by omega, show n - m - k = n - (m + k) by omega]
  simp [List.replicate_append_replicate, ← List.append_assoc]
theorem half_cell {w : World} {g n m : Nat} {s : ByteArray} (h : Half w g n m s) (hm : m ≤ n) (j : Nat) (hj : j < n) : w.cell? ⟨g, j, none⟩ = some ((halfRow s n m)[j]'(by rw [half_len s hm]; exact hj)) := by
  unfold Half at h
  have hl := half_len s hm
  simp [World.cell?, h, hl, hj]
theorem half_frozen {w : World} {g n m : Nat} {s : ByteArray} (h : Half w g n m s) (j : Nat) : w.frozen? ⟨g, j, none⟩ = false := by
  unfold Half at h
  simp [World.frozen?, h]
theorem half_own {w : World} {g n : Nat} {s : ByteArray} (h : Half w g n n s) (hn : n ≤ 1000) : w.ownsRow 0 9 1 (.slice (some ⟨g, 0, none⟩) n n) n ((List.replicate n s).map .string) := by
  refine ⟨by simp, Or.inr ⟨g, n, _, rfl, Nat.zero_le _, h, Nat.le_refl _, by unfold maxLen; omega, by simp [half_len s (Nat.le_refl n)], ?_⟩⟩
  simp [halfRow]
set_option maxRecDepth 100000 in
set_option maxHeartbeats 2000000 in
theorem texts_Repeat (xb xo xc n : Nat) (s : ByteArray) (w : World) (hx : w.cell? ⟨xb, xo, none⟩ = some (.string s)) (hxc : 1 ≤ xc) (hxm : xc ≤ 9223372036854775807) (h1 : 1 ≤ n) (h2 : n ≤ 60) :
    Calls Try.prog 68 #[.slice (some ⟨xb, xo, none⟩) 1 xc, .int .i64 n] w fun e w' => e = .returned (.slice (some ⟨w.heap.size, 0, none⟩) n n) ∧ Half w' w.heap.size n n s ∧ Below w.heap.size w w' := by
  have CM := Try.bits_Mul 1 n (by decide) (by omega) w
  rw [show 1 * n / 18446744073709551616 = 0 by omega, show 1 * n % 18446744073709551616 = n by omega] at CM
  replace CM := Lib.hid CM
  have hmk := make_texts n (by omega)
  have hmod : (n : Int) % 18446744073709551616 = n := by omega
  have hmod2 : (n : Int) % 9223372036854775808 = n := by omega
  go_enter Try.func68, Try.ntmps68
  go_wp2_with fail
  refine CM.out.mono ?_
  rintro e w2 ⟨rfl, hq⟩
  rw [hq]
  clear hq
  have HX := Lib.hid hx
  have HM0 : Hid (Half (w.alloc (.cells (madeCells #[.string ⟨#[]⟩] n) 9)) w.heap.size n 0 s) := Lib.hid (by unfold Half; rw [← half_made n s]; exact heap_alloc_new w _)
  have HCP : Hid (∀ ty, (Builtin.copy_ #[42, 42] ty #[.slice (some ⟨w.heap.size, 0, none⟩) n n, .slice (some ⟨xb, xo, none⟩) 1 xc]).run Try.prog (w.alloc (.cells (madeCells #[.string ⟨#[]⟩] n) 9)) = .ok (.int .i64 1) ((w.alloc (.cells (madeCells #[.string ⟨#[]⟩] n) 9)).setCell ⟨w.heap.size, 0, none⟩ (.string s))) := Lib.hid fun ty => by
    have hbx := World.block_lt_of_cell? w _ HX.out
    have hm1 : Nat.min 1 n = 1 := by show min 1 n = 1; omega
    have h := run_copy_kcells (P := Try.prog) (w.alloc (.cells (madeCells #[.string ⟨#[]⟩] n) 9)) 42 42 ty 9 1 w.heap.size 0 n n ⟨xb, xo, none⟩ 1 xc [.string s] Try.underlying42 text_info (by rw [hm1]; rfl)
      (fun j v hj => by
        have hj0 : j = 0 := by have := (List.getElem?_eq_some_iff.1 hj).1; simp at this; omega
        subst hj0
        simp at hj
        subst hj
        rw [Addr.add_lit, Nat.add_zero, (below_alloc w _).cell hbx]
        exact HX.out) (fun j hj => by rw [half_cell HM0.out (Nat.zero_le _) _ (by simp at hj; omega)]; rfl) (fun j hj => half_frozen HM0.out _) (fun v hv => by simp at hv; subst hv; rfl)
    rw [hm1] at h
    exact h
  have HM1 : Hid (Half ((w.alloc (.cells (madeCells #[.string ⟨#[]⟩] n) 9)).setCell ⟨w.heap.size, 0, none⟩ (.string s)) w.heap.size n (0 + 1) s) := Lib.hid (half_set (k := 1) HM0.out (by omega))
  have HB1 : Hid (Below w.heap.size w ((w.alloc (.cells (madeCells #[.string ⟨#[]⟩] n) 9)).setCell ⟨w.heap.size, 0, none⟩ (.string s))) := Lib.hid ((below_alloc w _).setCell (Nat.le_refl _) _)
  clear hx
  go_wp2_with (simp only [HCP.out])
  have hWE : (w.alloc (.cells (madeCells #[.string ⟨#[]⟩] n) 9)).setCell ⟨w.heap.size, 0, none⟩ (.string s) = w.alloc (.cells ((madeCells #[.string ⟨#[]⟩] n).setIfInBounds 0 (.string s)) 9) := by simp [go_sem]
  rw [hWE] at HM1 HB1
  clear hWE
  obtain ⟨W1, hW1⟩ : ∃ W1, W1 = w.alloc (.cells ((madeCells #[.string ⟨#[]⟩] n).setIfInBounds 0 (.string s)) 9) := ⟨_, rfl⟩
  rw [← hW1] at HM1 HB1 ⊢
  clear hW1 HCP HM0 hmk hmod hmod2 CM
  go_loopw [8] (fun i wr => ∃ (m : Nat), 1 ≤ m ∧ m ≤ n ∧ i = .int .i64 m ∧ Half wr w.heap.size n m s ∧ Below w.heap.size w wr) (fun i _ => n - (intOf i).toNat)
  case atStart => exact ⟨1, Nat.le_refl _, h1, rfl, by simpa using HM1.out, HB1.out⟩
  case round =>
    obtain ⟨m, hm1, hmn, rfl, hh, hb⟩ := hrel
    have HH := Lib.hid hh
    have HB := Lib.hid hb
    clear hh hb
    by_cases hlt : m < n
    · obtain ⟨k, hk⟩ : ∃ k, k = Nat.min m (n - m) := ⟨_, rfl⟩
      have hk1 : k ≤ m := by rw [hk]; exact Nat.min_le_left _ _
      have hk2 : k ≤ n - m := by rw [hk]; exact Nat.min_le_right _ _
      have hk3 : 1 ≤ k := by rw [hk]; show 1 ≤ min m (n - m); omega
      have HHD : Hid (Half wr.drew w.heap.size n m s) := Lib.hid HH.out
      have HC : Hid (∀ ty, (Builtin.copy_ #[42, 42] ty #[.slice (some ⟨w.heap.size, m, none⟩) (n - m) (n - m), .slice (some ⟨w.heap.size, 0, none⟩) m n]).run Try.prog wr.drew = .ok (goInt k) (wr.drew.setCells w.heap.size m (List.replicate k (.string s)))) := Lib.hid fun ty => by
        rw [hk]
        refine run_copy_kcells (P := Try.prog) wr.drew 42 42 ty 9 1 w.heap.size m (n - m) (n - m) ⟨w.heap.size, 0, none⟩ m n _ Try.underlying42 text_info (by simp) (fun j v hj => ?_) (fun j hj => ?_) (fun j hj => ?_) (fun v hv => ?_)
        · have hj' : j < Nat.min m (n - m) := by have := (List.getElem?_eq_some_iff.1 hj).1; simpa using this
          rw [← hk] at hj'
          rw [Addr.add_lit, Nat.zero_add, half_cell HHD.out hmn j (by omega)]
          rw [List.getElem?_replicate, if_pos (by rw [← hk]; exact hj')] at hj
          rw [← hj]
          simp only [halfRow]
          rw [List.getElem_append_left (by simp; omega)]
          simp
        · have hj' : j < Nat.min m (n - m) := by simpa using hj
          rw [← hk] at hj'
          rw [half_cell HHD.out hmn (m + j) (by omega)]; rfl
        · have := HHD.out
          unfold Half at this
          simp [World.frozen?, this]
        · obtain ⟨_, rfl⟩ := List.mem_replicate.1 hv; rfl
      have HN := Lib.hid (half_set (k := k) HHD.out (by omega))
      have HBN : Hid (Below w.heap.size w (wr.drew.setCells w.heap.size m (List.replicate k (.string s)))) := Lib.hid (below_cells (Nat.le_refl _) _ _ _ HB.out.drew)
      have q1 : (m : Int) ≤ (n : Int) := by omega
      have q3 : ¬ n = m := by omega
      have q5 : IntKind.i64.wrap ((m : Int) + (k : Int)) = (m : Int) + (k : Int) := by rw [IntKind.wrap_i64]; omega
      clear hk
      have mixed : Try.prog.follows .mixedOrders = true := by kernel_rfl
      go_wp2_with fail
      go_region_law (refine step_copy_runI rfl (.tmp 41) (.tmp 44) 42 42 rfl (.slice (some ⟨w.heap.size, m, none⟩) (n - m) (n - m)) (.slice (some ⟨w.heap.size, 0, none⟩) m n) (by simp [Act.eval, Act.put]) (by simp [Act.eval, Act.put]) (HC.out 3) ?_)
      all_goals
        try go_simp
        try go_wp2_with fail
        go_roundw
        case rel => exact ⟨m + k, by omega, by omega, by go_num, HN.out, HBN.out⟩
        case measure => simp [intOf]; omega
    · have hme : m = n := by omega
      have HE : Hid (Half wr w.heap.size n n s) := Lib.hid (by rw [← hme]; exact hme ▸ HH.out)
      have hlt2 : ((m : Int) < (n : Int)) = False := by simp; omega
      clear hme
      go_wp2_with fail
      go_ret
      exact ⟨rfl, HE.out, HB.out⟩
end Go.Proofs.Ytggpodlecljcbac
namespace Go.Proofs.Ytggpodlecljcbac
open Go.RowKit Go.Sort
set_option linter.unusedSimpArgs false
set_option linter.unusedVariables false
set_option maxRecDepth 100000 in
theorem texts_Clone (g cap : Nat) (l : List ByteArray) (w : World) (h : w.ownsRow 0 9 1 (.slice (some ⟨g, 0, none⟩) l.length cap) l.length (l.map .string)) (h0 : 0 < l.length) (hl : l.length ≤ 1000) :
    Calls Try.prog 70 #[.slice (some ⟨g, 0, none⟩) l.length cap] w fun e w' => ∃ g' c', e = .returned (.slice (some ⟨g', 0, none⟩) l.length c') ∧ w'.ownsRow 0 9 1 (.slice (some ⟨g', 0, none⟩) l.length c') l.length (l.map .string) ∧ w.heap.size ≤ g' ∧ Below w.heap.size w w' := by
  have hcm := (owns_cap h).2
  have hcc := (owns_cap h).1
  unfold maxLen at hcm
  have HN : Hid (∀ j v, (l.map Value.string)[j]? = some v → (w.alloc (.cells #[] 9)).cell? ((⟨g, 0, none⟩ : Addr).add j) = some v) := Lib.hid fun j v hj => by
    have := h.cells (g := g) rfl j v hj
    rw [Addr.add_lit] at this ⊢
    exact cell_on' (below_alloc w _) this
  have HP := Lib.hid h0
  have HM := Lib.hid (World.ownsRow_made w (e := 9) (size := 1) #[] 0 (Nat.le_refl w.heap.size) (Nat.zero_le _) (by simp))
  have hq1 : 0 + l.length ≤ 1000000000 := by omega
  have HB := Lib.hid (below_alloc w (.cells #[] 9))
  have q22 : ∀ (w : World) (a : Option Addr) (n c n' c' : Nat), (binOp .eql 42 (.slice a n c) (.slice none n' c')).run Try.prog w = .ok (.bool a.isNone) w := fun w a n c n' c' => Lib.run_eql_slice_nil w _ _ a n c n' c' Try.underlying42
  clear h h0
  go_enter Try.func70, Try.ntmps70
  go_wp2_with (at_builtin; refine wpList_lies I_texts' rfl _ _ rfl w.heap.size (.slice (some ⟨w.heap.size, 0, none⟩) 0 0) 0 [] rfl HM.out ⟨g, 0, none⟩ l.length cap (l.map .string) rfl (by simp) HN.out (strs_one _) HP.out hq1 (by simp) (w.heap.size + 1) (by simp) ?_; intro g' c' w' ho hg hor hlt; have HY := Lib.hid (And.intro ho (And.intro hg hor)); clear ho hg hor hlt)
  go_wp2_with fail
  go_ret
  obtain ⟨ho, hg, hor⟩ := HY.out
  rw [Nat.zero_add, List.nil_append] at ho
  have hg' : w.heap.size ≤ g' := by
    rcases hor with h | h
    · simp [Value.ownBlock] at h; omega
    · omega
  exact ⟨g', c', by simp, owns_zero ho, hg', HB.out.grown hg (by simp) (fun k hk => by simp [Value.ownBlock] at hk; omega)⟩
theorem full_none : fullS ⟨#[]⟩ = zeros 40 := by
  have h : (⟨#[]⟩ : ByteArray).size = 0 := rfl
  apply ByteArray.ext
  simp [fullS, zeros, h]
set_option maxRecDepth 100000 in
theorem disk_New_bad (n : Int) (w : World) (h : n < 1 ∨ 60 < n) :
    Calls Try.prog 39 #[.int .i64 n] w fun e w' => e = .returned (.tuple #[.pointer none, errV 1]) ∧ w' = w := by
  rcases h with h | h
  · go_enter Try.func39, Try.ntmps39
    go_wp2_with fail
    refine bodyPost_ret (v := .tuple #[.pointer none, errV 1]) (by simp [results, Try.results39, go_sem, errV]) rfl ?_
    exact ⟨rfl, rfl⟩
  · have h2 : ¬ n < 1 := by omega
    go_enter Try.func39, Try.ntmps39
    go_wp2_with fail
    refine bodyPost_ret (v := .tuple #[.pointer none, errV 1]) (by simp [results, Try.results39, go_sem, errV]) rfl ?_
    exact ⟨rfl, rfl⟩
set_option maxRecDepth 100000 in
set_option maxHeartbeats 1000000 in
theorem disk_New (n : Nat) (w : World) (h1 : 1 ≤ n) (h2 : n ≤ 60) :
    Calls Try.prog 39 #[.int .i64 n] w fun e w' => ∃ L : Dk, e = .returned (.tuple #[.pointer (some ⟨L.b, 0, none⟩), .nilIface]) ∧ DiskAt w' L (newD n) ∧ Below w.heap.size w w' ∧ ∀ k, L.foot k → w.heap.size ≤ k := by
  have CF := Lib.hid (disk_full ⟨#[]⟩ (by decide) w)
  rw [full_none] at CF
  go_enter Try.func39, Try.ntmps39
  go_wp2_with fail
  refine CF.out.mono ?_
  rintro e w1 ⟨rfl, hb1⟩
  have HB1 := Lib.hid hb1
  obtain ⟨z40, hz⟩ : ∃ z, z = zeros 40 := ⟨_, rfl⟩
  have HZ := Lib.hid hz
  rw [← hz]
  clear hb1 hz
  have CR := Lib.hid (texts_Repeat w1.heap.size 0 1 n z40 (w1.alloc (.cells #[.string z40] 9)) (by simp) (Nat.le_refl _) (by decide) h1 h2)
  go_wp2_with fail
  refine CR.out.mono ?_
  rintro e w2 ⟨rfl, hh, hb2⟩
  have HH := Lib.hid hh
  have HB2 := Lib.hid (two (two HB1.out (below_alloc _ _)) hb2)
  have HOW := Lib.hid (half_own HH.out (by omega))
  have hs2 : w1.heap.size + 1 ≤ w2.heap.size := by have := hb2.size; simpa using this
  have hsz : (w1.alloc (.cells #[.string z40] 9)).heap.size = w1.heap.size + 1 := by simp
  rw [hsz] at HOW HH ⊢
  have hlt : w1.heap.size + 1 < w2.heap.size := by
    have := (HOW.out.lt _ rfl).2; exact this
  clear hh hb2 hsz
  have CC := texts_Clone (w1.heap.size + 1) n (List.replicate n z40) w2 (by simpa using HOW.out) (by simp; omega) (by simp; omega)
  rw [List.length_replicate] at CC
  replace CC := Lib.hid CC
  have HS2 := Lib.hid hs2
  have HLT := Lib.hid hlt
  clear hs2 hlt
  go_wp2_with fail
  refine CC.out.mono ?_
  rintro e w3 ⟨g', c', rfl, ho3, hg3, hb3⟩
  have HO3 := Lib.hid ho3
  have HG3 := Lib.hid hg3
  have HB3 := Lib.hid hb3
  clear ho3 hg3 hb3
  go_wp2_with fail
  refine bodyPost_ret (v := .tuple #[.pointer (some ⟨w3.heap.size, 0, none⟩), .nilIface]) (by simp [results, Try.results39, go_sem]) rfl ?_
  have hs1 := HB1.out.size
  have hs2 := HS2.out
  have hs3 := HB3.out.size
  have hg3 := HG3.out
  have hlt := HLT.out
  have hgl := (HO3.out.lt g' rfl).2
  have hkr : w3.ownsRow 0 9 1 (.slice (some ⟨w1.heap.size + 1, 0, none⟩) n n) n ((List.replicate n z40).map .string) := owns_of_block HOW.out fun k hk => by cases hk; exact HB3.out.block _ hlt
  have bo : ∀ o, Below w3.heap.size w3 (w3.alloc o) := fun o => below_alloc w3 o
  refine ⟨⟨w3.heap.size, w1.heap.size + 1, g', n, c', .slice none 0 0⟩, rfl, ?_, two (two HB2.out HB3.out) (below_alloc _ _), ?_⟩
  · refine ⟨?_, ?_, ?_, World.ownsRow_nil _ _ _ _, by show w1.heap.size + 1 ≠ w3.heap.size; omega, by show g' ≠ w3.heap.size; omega, by show w1.heap.size + 1 ≠ g'; omega, by simp [Value.ownBlock], by simp [Value.ownBlock], by simp [Value.ownBlock]⟩
    · show (w3.alloc _).heap[w3.heap.size]? = _
      rw [heap_alloc_new]
      simp [newD]
    · have := hkr.alloc (.cells #[.slice (some ⟨w1.heap.size + 1, 0, none⟩) n n, .slice (some ⟨g', 0, none⟩) n c', .slice none 0 0, .int .i64 (-1), .bool false] 81)
      simpa [newD, HZ.out] using this
    · have := HO3.out.alloc (.cells #[.slice (some ⟨w1.heap.size + 1, 0, none⟩) n n, .slice (some ⟨g', 0, none⟩) n c', .slice none 0 0, .int .i64 (-1), .bool false] 81)
      simpa [newD, HZ.out] using this
  · intro k hk
    rcases hk with hk | hk | hk | hk
    · simp only at hk; omega
    · simp only at hk; omega
    · simp only at hk; omega
    · simp [Value.ownBlock] at hk
end Go.Proofs.Ytggpodlecljcbac
