/- The walk of the statement Names. -/
import Derived.Test.YtggpodlecljcbaaDoorProg
import Derived.Test.YtggpodlecljcbaaDoorBase
import Derived.Test.YtggpodlecljcbaaDoorBaseE
namespace Go.Proofs.YtggpodlecljcbaaDoor
open Go.RowKit Go.Sort
set_option linter.unusedSimpArgs false
set_option linter.unusedVariables false
def intCells (n : Int) : List Value := [.int .i64 n]
theorem intCells_len (s : Int) : (intCells s).length = 1 := rfl
abbrev Nums := Rd 1 intCells
section
variable {w : World} {ao : Option Addr} {n cap : Nat}
theorem Nums.cell {l : List Int} (h : Nums w (.slice ao n cap) l) (i : Nat) (hi : i < l.length) :
    ∃ b off, ao = some ⟨b, off, none⟩ ∧ b < w.heap.size ∧ w.cell? ⟨b, off + i, none⟩ = some (.int .i64 l[i]) := by
  obtain ⟨b, off, e, hb, hc⟩ := Rd.at intCells_len (by decide) h i hi
  exact ⟨b, off, e, hb, by have := hc 0 _ rfl; simpa using this⟩
end
@[go_sem] theorem ta_errno (m : Int) (w : World) : (Instr.typeAssert (.iface 23 (.int .i64 m)) 27 23 true).run Tryd.prog w = .ok (.tuple #[.int .i64 m, .bool true]) w := by kernel_rfl

set_option maxHeartbeats 400000 in
theorem law_same (n : Nat) (f : Int) (w : World) :
    Calls Tryd.prog 4 #[errV n, .int .i64 f] w fun e w' => e = .returned (.bool (decide ((n : Int) = f))) ∧ w = w' := by
  by_cases h : n = 0
  · subst h
    rw [errV_zero]
    go_enter Tryd.func4, Tryd.ntmps4
    go_wp2
    go_ret
    exact ⟨ret_bool (by rw [Bool.eq_iff_iff]; simp; omega), rfl⟩
  · rw [errV_pos h]
    go_enter Tryd.func4, Tryd.ntmps4
    go_wp2
    · go_ret
      exact ⟨ret_bool (by rw [Bool.eq_iff_iff]; simp), rfl⟩
    · go_ret
      exact ⟨ret_bool (by simp; omega), rfl⟩

set_option maxHeartbeats 400000 in
theorem ref_SameNumbers (va vb : Value) (a b : List Int) (w : World) (ha : Nums w va a) (hb : Nums w vb b) :
    Calls Tryd.prog 5 #[va, vb] w fun e w' => e = .returned (.bool (decide (a = b))) ∧ Below w.heap.size w w' := by
  obtain ⟨ao, ca, rfl, hca, hca'⟩ := ha.parts
  obtain ⟨bo, cb, rfl, hcb, hcb'⟩ := hb.parts
  have HA := Lib.hid ha
  have HB := Lib.hid hb
  clear ha hb
  by_cases hl : a.length = b.length
  · have HL := Lib.hid hl
    have e1 : ((a.length : Int) != (b.length : Int)) = false := by simp [hl]
    clear hl
    go_enter Tryd.func5, Tryd.ntmps5
    go_wp2
    go_loopw [5] (fun i wr => ∃ k : Nat, k ≤ a.length ∧ i = .int .i64 k ∧ a.take k = b.take k ∧ Below w.heap.size w wr) (fun i _ => a.length - (intOf i).toNat)
    case atStart => exact ⟨0, Nat.zero_le _, rfl, rfl, Below.refl _ _⟩
    case round =>
      obtain ⟨k, hk, rfl, htk, hbw⟩ := hrel
      have HT := Lib.hid htk
      clear htk
      by_cases hlt : k < a.length
      · have hlt2 : k < b.length := by have := HL.out; omega
        obtain ⟨ba, oa, rfl, _, x0⟩ := Nums.cell (HA.out.below hbw) k hlt
        obtain ⟨bb, ob, rfl, _, y0⟩ := Nums.cell (HB.out.below hbw) k hlt2
        have HW := Lib.hid hbw
        replace x0 := regrown_cell x0
        replace y0 := regrown_cell y0
        clear hbw
        by_cases hf : a[k] = b[k]
        · have hs : (a[k] == b[k]) = true := by simp [hf]
          have HF := Lib.hid hf
          clear hf
          go_wp2
          refine wp_region_q (by kernel_rfl) (by kernel_rfl) ?_
          repeat (quiet_step (fail))
          refine wpQuiet_nil ?_
          intro w2 hb2
          have HW2 := Lib.hid hb2
          clear hb2
          go_wp2
          go_roundw
          case rel => exact ⟨k + 1, by omega, by go_num, take_next _ _ _ HT.out hlt hlt2 HF.out, HW.out.trans (HW2.out.mono HW.out.size)⟩
          case measure => simp [intOf]; omega
        · have hs : (a[k] == b[k]) = false := by simp [hf]
          have HF := Lib.hid hf
          clear hf
          go_wp2
          refine wp_region_q (by kernel_rfl) (by kernel_rfl) ?_
          repeat (quiet_step (fail))
          refine wpQuiet_nil ?_
          intro w2 hb2
          have HW2 := Lib.hid hb2
          clear hb2
          go_wp2
          go_ret
          exact ⟨ret_bool (by simp [ne_of_at a b k hlt hlt2 HF.out]), HW.out.trans (HW2.out.mono HW.out.size)⟩
      · have HW := Lib.hid hbw
        clear hbw
        go_wp2
        go_ret
        exact ⟨ret_bool (by simp [eq_of_take a b k HT.out hlt HL.out]), HW.out⟩
  · have HL := Lib.hid hl
    have e1 : ((a.length : Int) != (b.length : Int)) = true := by simpa using (by omega : ¬ (a.length : Int) = b.length)
    clear hl
    go_enter Tryd.func5, Tryd.ntmps5
    go_wp2
    go_ret
    exact ⟨ret_bool (by simp [ne_of_length HL.out]), Below.refl _ _⟩

theorem names_small (w : World) : Calls Tryd.prog 10 #[.int .i64 8] w fun e w' => e = .returned (.string ⟨#[56]⟩) ∧ w' = w := by
  go_enter Tryd.func10, Tryd.ntmps10
  go_wp2_with fail
  go_ret
  exact ⟨rfl, rfl⟩
theorem names_FormatInt (w : World) : Calls Tryd.prog 9 #[.int .i64 8, .int .i64 10] w fun e w' => e = .returned (.string ⟨#[56]⟩) ∧ w' = w := by
  go_enter Tryd.func9, Tryd.ntmps9
  go_wp2_with fail
  refine (names_small _).mono ?_
  rintro e w1 ⟨rfl, rfl⟩
  go_wp2_with fail
  go_ret
  exact ⟨rfl, rfl⟩
theorem names_Itoa0 (w : World) : Calls Tryd.prog 8 #[.int .i64 8] w fun e w' => e = .returned (.string ⟨#[56]⟩) ∧ w' = w := by
  go_enter Tryd.func8, Tryd.ntmps8
  go_wp2_with fail
  refine (names_FormatInt _).mono ?_
  rintro e w1 ⟨rfl, rfl⟩
  go_wp2_with fail
  go_ret
  exact ⟨rfl, rfl⟩
theorem names_Itoa (w : World) : Calls Tryd.prog 7 #[.int .i64 8] w fun e w' => e = .returned (.string ⟨#[56]⟩) ∧ w' = w := by
  go_enter Tryd.func7, Tryd.ntmps7
  go_wp2_with fail
  refine (names_Itoa0 _).mono ?_
  rintro e w1 ⟨rfl, rfl⟩
  go_wp2_with fail
  go_ret
  exact ⟨rfl, rfl⟩
def names8 : ByteArray := ⟨#[112, 97, 116, 99, 104, 113, 117, 105, 108, 116, 58, 32, 101, 114, 114, 111, 114, 32, 56]⟩
theorem names_cat : (⟨#[112, 97, 116, 99, 104, 113, 117, 105, 108, 116, 58, 32, 101, 114, 114, 111, 114, 32]⟩ : ByteArray) ++ ⟨#[56]⟩ = names8 := by decide +kernel
theorem names_Error (w : World) : Calls Tryd.prog 6 #[.int .i64 8] w fun e w' => e = .returned (.string names8) ∧ w' = w := by
  go_enter Tryd.func6, Tryd.ntmps6
  go_wp2_with fail
  refine (names_Itoa _).mono ?_
  rintro e w1 ⟨rfl, rfl⟩
  go_wp2_with fail
  go_ret
  exact ⟨by first | rfl | (rw [← names_cat]; rfl) | rw [names_cat], rfl⟩
def namesL : List Int := [6, 12, 8, 9999, 3, 8, 16, 14, 12, 40, 60, 80, 50]
theorem nums13 {w : World} {b : Nat} (h : ∀ j (hj : j < namesL.length), w.cell? ⟨b, j, none⟩ = some (.int .i64 namesL[j])) : Nums w (.slice (some ⟨b, 0, none⟩) 13 13) namesL := by
  refine ⟨rfl, some ⟨b, 0, none⟩, 13, rfl, Nat.le_refl _, by decide, (fun _ h => by cases h), fun j u hj => ⟨b, 0, rfl, ?_⟩⟩
  rw [Nat.zero_add]
  have hfl : namesL.flatMap intCells = namesL.map (.int .i64 ·) := rfl
  rw [hfl, List.getElem?_map] at hj
  have hjl : j < namesL.length := by
    by_cases h2 : j < namesL.length
    · exact h2
    · rw [List.getElem?_eq_none (by omega)] at hj; cases hj
  rw [List.getElem?_eq_getElem hjl] at hj
  rw [h j hjl]
  exact hj
theorem nums13_new (w : World) (ty : TypeId) : Nums (w.alloc (.cells #[.int .i64 6, .int .i64 12, .int .i64 8, .int .i64 9999, .int .i64 3, .int .i64 8, .int .i64 16, .int .i64 14, .int .i64 12, .int .i64 40, .int .i64 60, .int .i64 80, .int .i64 50] ty)) (.slice (some ⟨w.heap.size, 0, none⟩) 13 13) namesL := nums13 fun j hj => by
  rw [World.cell?_alloc_new]
  match j, hj with
  | 0, _ => rfl
  | 1, _ => rfl
  | 2, _ => rfl
  | 3, _ => rfl
  | 4, _ => rfl
  | 5, _ => rfl
  | 6, _ => rfl
  | 7, _ => rfl
  | 8, _ => rfl
  | 9, _ => rfl
  | 10, _ => rfl
  | 11, _ => rfl
  | 12, _ => rfl
  | j + 13, hj => exact absurd hj (by simp [namesL])
theorem errs8 (w : World) (k : Nat) (hk : k < 8) (ty : TypeId) : (w.alloc (.cells #[.iface 23 (.int .i64 1), .iface 23 (.int .i64 2), .iface 23 (.int .i64 3), .iface 23 (.int .i64 4), .iface 23 (.int .i64 5), .iface 23 (.int .i64 6), .iface 23 (.int .i64 7), .iface 23 (.int .i64 8)] ty)).cell? ⟨w.heap.size, k, none⟩ = some (.iface 23 (.int .i64 (k + 1 : Nat))) := by
  rw [World.cell?_alloc_new]
  match k, hk with
  | 0, _ => rfl
  | 1, _ => rfl
  | 2, _ => rfl
  | 3, _ => rfl
  | 4, _ => rfl
  | 5, _ => rfl
  | 6, _ => rfl
  | 7, _ => rfl
set_option maxRecDepth 100000 in
set_option maxHeartbeats 2000000 in
theorem law_Names (w : World) : Calls Tryd.prog 3 #[] w fun e w' => e = .returned (.bool true) ∧ Below w.heap.size w w' := by
  have CL : Hid (∀ (n : Nat) (W : World), Calls Tryd.prog 4 #[.iface 23 (.int .i64 (n + 1 : Nat)), .int .i64 (n + 1 : Nat)] W fun e w' => e = .returned (.bool true) ∧ W = w') := Lib.hid fun n W => by
    have c := law_same (n + 1) (n + 1 : Nat) W
    rw [errV_pos (Nat.succ_ne_zero n), decide_eq_true (rfl : ((n + 1 : Nat) : Int) = ((n + 1 : Nat) : Int))] at c
    exact c
  obtain ⟨W1, hW1⟩ : ∃ W1, W1 = w.alloc (.cells #[.int .i64 6, .int .i64 12, .int .i64 8, .int .i64 9999, .int .i64 3, .int .i64 8, .int .i64 16, .int .i64 14, .int .i64 12, .int .i64 40, .int .i64 60, .int .i64 80, .int .i64 50] 3) := ⟨_, rfl⟩
  have N1 : Nums W1 (.slice (some ⟨w.heap.size, 0, none⟩) 13 13) namesL := by rw [hW1]; exact nums13_new w _
  have B1 : Below w.heap.size w W1 := by rw [hW1]; exact below_alloc _ _
  have z1 : W1.heap.size = w.heap.size + 1 := by rw [hW1]; simp
  obtain ⟨W2, hW2⟩ : ∃ W2, W2 = W1.alloc (.cells #[.int .i64 6, .int .i64 12, .int .i64 8, .int .i64 9999, .int .i64 3, .int .i64 8, .int .i64 16, .int .i64 14, .int .i64 12, .int .i64 40, .int .i64 60, .int .i64 80, .int .i64 50] 3) := ⟨_, rfl⟩
  have N2 : Nums W2 (.slice (some ⟨w.heap.size + 1, 0, none⟩) 13 13) namesL := by rw [hW2, ← z1]; exact nums13_new W1 _
  have B2 : Below W1.heap.size W1 W2 := by rw [hW2]; exact below_alloc _ _
  have z2 : W2.heap.size = w.heap.size + 1 + 1 := by rw [hW2]; simp [z1]
  obtain ⟨W3, hW3⟩ : ∃ W3, W3 = W2.alloc (.cells #[.iface 23 (.int .i64 1), .iface 23 (.int .i64 2), .iface 23 (.int .i64 3), .iface 23 (.int .i64 4), .iface 23 (.int .i64 5), .iface 23 (.int .i64 6), .iface 23 (.int .i64 7), .iface 23 (.int .i64 8)] 27) := ⟨_, rfl⟩
  have B3 : Below W2.heap.size W2 W3 := by rw [hW3]; exact below_alloc _ _
  have E3 : Hid (∀ k, k < 8 → W3.cell? ⟨w.heap.size + 1 + 1, k, none⟩ = some (.iface 23 (.int .i64 (k + 1 : Nat)))) := Lib.hid fun k hk => by rw [hW3, ← z2]; exact errs8 W2 k hk _
  have CS := ref_SameNumbers _ _ namesL namesL W3 ((N1.below B2).below B3) (N2.below B3)
  rw [decide_eq_true (rfl : namesL = namesL)] at CS
  replace CS := Lib.hid CS
  have HB := Lib.hid (two (two B1 B2) B3)
  have HW1 := Lib.hid hW1
  have HW2 := Lib.hid hW2
  have HW3 := Lib.hid hW3
  clear hW1 hW2 hW3 N1 N2 B1 B2 B3 z1 z2
  go_enter Tryd.func3, Tryd.ntmps3
  go_wp2_with fail
  rw [← HW1.out, ← HW2.out, ← HW3.out]
  go_loopw [4] (fun i wr => ∃ k : Nat, k ≤ 8 ∧ i = .int .i64 k ∧ wr = W3) (fun i _ => 8 - (intOf i).toNat)
  case atStart => exact ⟨0, Nat.zero_le _, rfl, rfl⟩
  case round =>
    obtain ⟨k, hk, rfl, rfl⟩ := hrel
    by_cases hlt : k < 8
    · have x0 := E3.out k hlt
      have C := CL.out k wr
      replace C := Lib.hid C
      go_wp2_with fail
      refine C.out.mono ?_
      rintro e w4 ⟨rfl, hq⟩
      rw [← hq]
      clear hq x0
      go_wp2_with fail
      go_roundw
      case rel => exact ⟨k + 1, by omega, by go_num, trivial⟩
      case measure => simp [intOf]; omega
    · go_wp2_with fail
      refine CS.out.mono ?_
      rintro e w4 ⟨rfl, hb4⟩
      have HB4 := Lib.hid (two HB.out hb4)
      clear hb4
      go_wp2_with fail
      refine (names_Error _).mono ?_
      rintro e w5 ⟨rfl, hq⟩
      rw [hq]
      clear hq
      unfold names8
      go_wp2_with fail
      go_ret
      exact ⟨rfl, HB4.out⟩
end Go.Proofs.YtggpodlecljcbaaDoor
