/- The walks of chapter 2: are files fine? -/
import Derived.Test.YtggpodlecljcbaaSpecF
namespace Go.Proofs.Ytggpodlecljcbaa
open Go.RowKit Go.Sort

set_option maxHeartbeats 1000000 in
theorem ref_FilesFault (va : Value) (l : List File) (w : World) (ha : Files w va l) (hok : ∀ f ∈ l, f.ok) :
    Calls Try.prog 65 #[va] w fun e w' => e = .returned (.int .i64 (filesFault l)) ∧ Below w.heap.size w w' := by
  obtain ⟨ao, ca, rfl, hca, hca'⟩ := ha.parts
  have HA := Lib.hid ha
  have HOK := Lib.hid hok
  clear ha hok
  by_cases hl : l.length ≤ 8
  · have HL : Hid (filesFault l = faultFrom none l) := by show filesFault l = _; unfold filesFault; rw [if_neg (by omega)]
    go_enter Try.func65, Try.ntmps65
    go_wp2_with fail
    go_loopw [3] (fun i wr => ∃ k : Nat, k ≤ l.length ∧ i = .int .i64 k ∧ faultFrom (prevAt l k) (l.drop k) = faultFrom none l ∧ Below w.heap.size w wr) (fun i _ => l.length - (intOf i).toNat)
    case atStart => exact ⟨0, Nat.zero_le _, rfl, rfl, Below.refl _ _⟩
    case round =>
      obtain ⟨k, hk, rfl, htk, hbw⟩ := hrel
      have HT := Lib.hid htk
      have HW := Lib.hid hbw
      clear htk
      by_cases hlt : k < l.length
      · obtain ⟨ba, oa, rfl, _, x0, x1, x2⟩ := Files.cell (HA.out.below hbw) k hlt
        have C := fun W => ref_FileFault l[k] W (HOK.out l[k] (List.getElem_mem hlt))
        unfold File.val at C
        clear hbw
        by_cases hf : fileFault l[k] = 0
        · rw [hf] at C
          replace C := Lib.hid C
          cases k with
          | zero =>
            have HN := Lib.hid (ff_next l 0 hlt (prevAt l 0) hf (fun q h => by cases h))
            clear hf
            simp only [Nat.zero_mul, Nat.add_zero] at x0 x1 x2
            go_wp2_with fail
            refine (C.out _).mono ?_
            rintro e w2 ⟨rfl, hb2⟩
            have HB2 := Lib.hid (two HW.out hb2)
            clear hb2 x0 x1 x2
            go_wp2_with fail
            refine wp_region_q (by kernel_rfl) (by kernel_rfl) ?_
            repeat (go_big_quiet_step (fail))
            refine wpQuiet_nil ?_
            intro w3 hb3
            have HB3 := Lib.hid (two HB2.out hb3)
            clear hb3
            go_wp2_with fail
            go_roundw
            case rel => exact ⟨1, by omega, by go_num, by rw [← HN.out]; exact HT.out, HB3.out⟩
            case measure => simp [intOf]; omega
          | succ m =>
            obtain ⟨bb, ob, eb, _, y0, y1, y2⟩ := Files.cell (HA.out.below HW.out) m (by omega)
            simp only [Option.some.injEq, Addr.mk.injEq, and_true] at eb
            obtain ⟨rfl, rfl⟩ := eb
            have hp := prev_succ l m (by omega)
            have hgt : (0 : Int) < ((m + 1 : Nat) : Int) := by omega
            have hgt' : decide ((0 : Int) < ((m + 1 : Nat) : Int)) = true := by simp
            by_cases hle : bLe l[m + 1].name (l[m]'(by omega)).name = true
            · have HN := Lib.hid (ff_order l (m + 1) hlt _ hf hle)
              have hle2 : (Op.bytesLess l[m + 1].name.toList (l[m]'(by omega)).name.toList || l[m + 1].name.toList == (l[m]'(by omega)).name.toList) = true := hle
              rw [hp] at HT
              clear hf hle hp
              go_wp2_with fail
              refine (C.out _).mono ?_
              rintro e w2 ⟨rfl, hb2⟩
              have HB2 := Lib.hid (two HW.out hb2)
              replace x0 := regrown_cell (cell_on' hb2 x0)
              replace y0 := regrown_cell (cell_on' hb2 y0)
              clear hb2 x1 x2 y1 y2
              go_wp2_with fail
              refine wp_region_q (by kernel_rfl) (by kernel_rfl) ?_
              repeat (go_big_quiet_step (fail))
              refine wpQuiet_nil ?_
              intro w3 hb3
              have HB3 := Lib.hid (two HB2.out hb3)
              clear hb3
              go_wp2_with fail
              go_ret
              exact ⟨ret_int (by rw [HL.out, ← HT.out, HN.out]; rfl), HB3.out⟩
            · have hle1 : bLe l[m + 1].name (l[m]'(by omega)).name = false := by simpa using hle
              have HN := Lib.hid (ff_next l (m + 1) hlt (prevAt l (m + 1)) hf (fun q hq => by rw [hp] at hq; cases hq; exact hle1))
              have hle2 : (Op.bytesLess l[m + 1].name.toList (l[m]'(by omega)).name.toList || l[m + 1].name.toList == (l[m]'(by omega)).name.toList) = false := hle1
              clear hf hle hle1 hp
              go_wp2_with fail
              refine (C.out _).mono ?_
              rintro e w2 ⟨rfl, hb2⟩
              have HB2 := Lib.hid (two HW.out hb2)
              replace x0 := regrown_cell (cell_on' hb2 x0)
              replace y0 := regrown_cell (cell_on' hb2 y0)
              clear hb2 x1 x2 y1 y2
              go_wp2_with fail
              refine wp_region_q (by kernel_rfl) (by kernel_rfl) ?_
              repeat (go_big_quiet_step (fail))
              refine wpQuiet_nil ?_
              intro w3 hb3
              have HB3 := Lib.hid (two HB2.out hb3)
              clear hb3
              go_wp2_with fail
              go_roundw
              case rel => exact ⟨m + 1 + 1, by omega, by go_num, by rw [← HN.out]; exact HT.out, HB3.out⟩
              case measure => simp [intOf]; omega
        · have HN := Lib.hid (ff_stop l k _ hlt (prevAt l k) rfl hf)
          have hf' : 0 < (fileFault l[k] : Int) := by omega
          replace C := Lib.hid C
          clear hf
          cases k with
          | zero =>
            simp only [Nat.zero_mul, Nat.add_zero] at x0 x1 x2
            go_wp2_with fail
            refine (C.out _).mono ?_
            rintro e w2 ⟨rfl, hb2⟩
            have HB2 := Lib.hid (two HW.out hb2)
            clear hb2
            go_wp2_with fail
            go_ret
            exact ⟨ret_int (by rw [HL.out, ← HT.out, HN.out]), HB2.out⟩
          | succ m =>
            go_wp2_with fail
            refine (C.out _).mono ?_
            rintro e w2 ⟨rfl, hb2⟩
            have HB2 := Lib.hid (two HW.out hb2)
            clear hb2
            go_wp2_with fail
            go_ret
            exact ⟨ret_int (by rw [HL.out, ← HT.out, HN.out]), HB2.out⟩
      · have HN := Lib.hid (ff_end l k hlt (prevAt l k))
        clear hbw
        go_wp2_with fail
        go_ret
        exact ⟨ret_int (by rw [HL.out, ← HT.out, HN.out]; rfl), HW.out⟩
  · have HL : Hid (filesFault l = 2) := by show filesFault l = _; unfold filesFault; rw [if_pos (by omega)]
    go_enter Try.func65, Try.ntmps65
    go_wp2_with fail
    go_ret
    exact ⟨ret_int (by rw [HL.out]; rfl), Below.refl _ _⟩

set_option maxHeartbeats 1000000 in
theorem shelf_Check (va : Value) (l : List File) (w : World) (ha : Files w va l) (hok : ∀ f ∈ l, f.ok) :
    Calls Try.prog 64 #[va] w fun e w' => e = .returned (errV (filesFault l)) ∧ Below w.heap.size w w' := by
  obtain ⟨ao, ca, rfl, hca, hca'⟩ := ha.parts
  have HA := Lib.hid ha
  have HOK := Lib.hid hok
  clear ha hok
  by_cases hl : l.length ≤ 8
  · have HL : Hid (filesFault l = faultFrom none l) := by show filesFault l = _; unfold filesFault; rw [if_neg (by omega)]
    go_enter Try.func64, Try.ntmps64
    go_wp2_with fail
    go_loopw [12] (fun i wr => ∃ k : Nat, k ≤ l.length ∧ i = .int .i64 k ∧ faultFrom (prevAt l k) (l.drop k) = faultFrom none l ∧ Below w.heap.size w wr) (fun i _ => l.length - (intOf i).toNat)
    case atStart => exact ⟨0, Nat.zero_le _, rfl, rfl, Below.refl _ _⟩
    case round =>
      obtain ⟨k, hk, rfl, htk, hbw⟩ := hrel
      have HT := Lib.hid htk
      have HW := Lib.hid hbw
      clear htk
      by_cases hlt : k < l.length
      · obtain ⟨ba, oa, rfl, hlb, x0, x1, x2⟩ := Files.cell (HA.out.below hbw) k hlt
        have C := fun W => file_Check l[k] W (HOK.out l[k] (List.getElem_mem hlt))
        unfold File.val at C
        have B1 := below_alloc wr (.cells #[.string l[k].name, .string l[k].text, .int .i64 l[k].times] 23)
        have HB1 := Lib.hid (two HW.out B1)
        clear hbw
        by_cases hf : fileFault l[k] = 0
        · rw [hf, errV_zero] at C
          replace C := Lib.hid C
          cases k with
          | zero =>
            have HN := Lib.hid (ff_next l 0 hlt (prevAt l 0) hf (fun q h => by cases h))
            clear hf B1
            simp only [Nat.zero_mul, Nat.add_zero] at x0 x1 x2
            go_wp2_with fail
            refine (C.out _).mono ?_
            rintro e w2 ⟨rfl, hb2⟩
            have HB2 := Lib.hid (two HB1.out hb2)
            clear hb2 x0 x1 x2
            go_wp2_with fail
            refine wp_region_q (by kernel_rfl) (by kernel_rfl) ?_
            repeat (go_big_quiet_step (fail))
            refine wpQuiet_nil ?_
            intro w3 hb3
            have HB3 := Lib.hid (two HB2.out hb3)
            clear hb3
            go_wp2_with fail
            go_roundw
            case rel => exact ⟨1, by omega, by go_num, by rw [← HN.out]; exact HT.out, HB3.out⟩
            case measure => simp [intOf]; omega
          | succ m =>
            obtain ⟨bb, ob, eb, _, y0, y1, y2⟩ := Files.cell (HA.out.below HW.out) m (by omega)
            simp only [Option.some.injEq, Addr.mk.injEq, and_true] at eb
            obtain ⟨rfl, rfl⟩ := eb
            have hp := prev_succ l m (by omega)
            have hgt : (0 : Int) < ((m + 1 : Nat) : Int) := by omega
            have hgt' : decide ((0 : Int) < ((m + 1 : Nat) : Int)) = true := by simp
            have Y0 := Lib.hid (cell_on' B1 y0)
            by_cases hle : bLe l[m + 1].name (l[m]'(by omega)).name = true
            · have HN := Lib.hid (ff_order l (m + 1) hlt _ hf hle)
              have hle2 : (Op.bytesLess l[m + 1].name.toList (l[m]'(by omega)).name.toList || l[m + 1].name.toList == (l[m]'(by omega)).name.toList) = true := hle
              rw [hp] at HT
              clear hf hle hp B1 y0 y1 y2
              go_wp2_with fail
              refine (C.out _).mono ?_
              rintro e w2 ⟨rfl, hb2⟩
              have HB2 := Lib.hid (two HB1.out hb2)
              have y0 := regrown_cell (cell_on' hb2 Y0.out)
              have z0 := regrown_cell (cell_on' hb2 (b := wr.heap.size) (o := 0) (v := .string l[m + 1].name) (by simp))
              clear hb2 x0 x1 x2
              go_wp2_with fail
              refine wp_region_q (by kernel_rfl) (by kernel_rfl) ?_
              repeat (go_big_quiet_step (fail))
              refine wpQuiet_nil ?_
              intro w3 hb3
              have HB3 := Lib.hid (two HB2.out hb3)
              clear hb3
              go_wp2_with fail
              go_ret
              exact ⟨by rw [HL.out, ← HT.out, HN.out]; rfl, HB3.out⟩
            · have hle1 : bLe l[m + 1].name (l[m]'(by omega)).name = false := by simpa using hle
              have HN := Lib.hid (ff_next l (m + 1) hlt (prevAt l (m + 1)) hf (fun q hq => by rw [hp] at hq; cases hq; exact hle1))
              have hle2 : (Op.bytesLess l[m + 1].name.toList (l[m]'(by omega)).name.toList || l[m + 1].name.toList == (l[m]'(by omega)).name.toList) = false := hle1
              clear hf hle hle1 hp B1 y0 y1 y2
              go_wp2_with fail
              refine (C.out _).mono ?_
              rintro e w2 ⟨rfl, hb2⟩
              have HB2 := Lib.hid (two HB1.out hb2)
              have y0 := regrown_cell (cell_on' hb2 Y0.out)
              have z0 := regrown_cell (cell_on' hb2 (b := wr.heap.size) (o := 0) (v := .string l[m + 1].name) (by simp))
              clear hb2 x0 x1 x2
              go_wp2_with fail
              refine wp_region_q (by kernel_rfl) (by kernel_rfl) ?_
              repeat (go_big_quiet_step (fail))
              refine wpQuiet_nil ?_
              intro w3 hb3
              have HB3 := Lib.hid (two HB2.out hb3)
              clear hb3
              go_wp2_with fail
              go_roundw
              case rel => exact ⟨m + 1 + 1, by omega, by go_num, by rw [← HN.out]; exact HT.out, HB3.out⟩
              case measure => simp [intOf]; omega
        · have HN := Lib.hid (ff_stop l k _ hlt (prevAt l k) rfl hf)
          have HE := Lib.hid (errV_pos hf)
          rw [errV_pos hf] at C
          replace C := Lib.hid C
          clear hf B1
          cases k with
          | zero =>
            simp only [Nat.zero_mul, Nat.add_zero] at x0 x1 x2
            go_wp2_with fail
            refine (C.out _).mono ?_
            rintro e w2 ⟨rfl, hb2⟩
            have HB2 := Lib.hid (two HB1.out hb2)
            clear hb2
            go_wp2_with fail
            go_ret
            exact ⟨by rw [HL.out, ← HT.out, HN.out, HE.out]; rfl, HB2.out⟩
          | succ m =>
            go_wp2_with fail
            refine (C.out _).mono ?_
            rintro e w2 ⟨rfl, hb2⟩
            have HB2 := Lib.hid (two HB1.out hb2)
            clear hb2
            go_wp2_with fail
            go_ret
            exact ⟨by rw [HL.out, ← HT.out, HN.out, HE.out]; rfl, HB2.out⟩
      · have HN := Lib.hid (ff_end l k hlt (prevAt l k))
        clear hbw
        go_wp2_with fail
        go_ret
        exact ⟨by rw [HL.out, ← HT.out, HN.out]; rfl, HW.out⟩
  · have HL : Hid (filesFault l = 2) := by show filesFault l = _; unfold filesFault; rw [if_pos (by omega)]
    go_enter Try.func64, Try.ntmps64
    go_wp2_with fail
    go_ret
    exact ⟨by rw [HL.out]; rfl, Below.refl _ _⟩
end Go.Proofs.Ytggpodlecljcbaa
