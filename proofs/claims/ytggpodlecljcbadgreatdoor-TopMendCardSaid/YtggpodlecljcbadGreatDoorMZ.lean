/- (*strings.Builder).WriteString at this dump. The walks of package store's small functions: four, unfour, headOf, head.text. The walk of store.all. The walk of store.parse. The walk of store.Format. -/
import Derived.Shelf.Strings.Builder1
import Derived.Shelf.Small.Strs
import Derived.Test.YtggpodlecljcbadGreatDoorShelf
import Derived.Test.YtggpodlecljcbadGreatDoorProg
import Derived.Deep.CutRange
import Derived.Test.YtggpodlecljcbadGreatDoorMSY
import Derived.Test.YtggpodlecljcbadGreatDoorMY7
namespace Go.Proofs
open Go.Shelf
def Tryz.laysB166_ren : Go.Shelf.Ren := ⟨fun | 166 => 137 | 240 => 153 | 276 => 166 | n => n, fun | 0 => 0 | 3 => 3 | 4 => 4 | 9 => 9 | 20 => 20 | 37 => 154 | 5 => 5 | 70 => 193 | 72 => 195 | 75 => 39 | 80 => 150 | 164 => 223 | n => n, fun | n => n⟩
theorem Tryz.laysB166 : Go.Proofs.Lays.n166 Tryz.prog Tryz.laysB166_ren := {
  mixed := by kernel_rfl
  f166 := Tryz.func137.trans (congrArg some (by kernel_rfl))
  f240 := Tryz.func153.trans (congrArg some (by kernel_rfl))
  f276 := Tryz.func166.trans (congrArg some (by kernel_rfl))
  t0 := Tryz.underlying0
  a0 := Tryz.isAgg0
  z0 := Tryz.sizeOf0
  v0 := Tryz.zeroValue0
  t3 := Tryz.underlying3
  a3 := Tryz.isAgg3
  z3 := Tryz.sizeOf3
  v3 := Tryz.zeroValue3
  t4 := Tryz.underlying4
  a4 := Tryz.isAgg4
  z4 := Tryz.sizeOf4
  v4 := Tryz.zeroValue4
  t9 := Tryz.underlying9
  a9 := Tryz.isAgg9
  z9 := Tryz.sizeOf9
  v9 := Tryz.zeroValue9
  t20 := Tryz.underlying20
  a20 := Tryz.isAgg20
  z20 := Tryz.sizeOf20
  v20 := Tryz.zeroValue20
  t37 := Tryz.underlying154
  a37 := Tryz.isAgg154
  z37 := Tryz.sizeOf154
  v37 := Tryz.zeroValue154
  t70 := Tryz.underlying193
  a70 := Tryz.isAgg193
  z70 := Tryz.sizeOf193
  v70 := Tryz.zeroValue193
  t72 := Tryz.underlying195
  a72 := Tryz.isAgg195
  z72 := Tryz.sizeOf195
  v72 := Tryz.zeroValue195
  t75 := Tryz.underlying39
  a75 := Tryz.isAgg39
  z75 := Tryz.sizeOf39
  v75 := Tryz.zeroValue39
  t164 := Tryz.underlying223
  a164 := Tryz.isAgg223
  z164 := Tryz.sizeOf223
  v164 := Tryz.zeroValue223 }
theorem Tryz.Builder_ExtraB : Builder.Extra Tryz.prog Tryz.laysB166_ren := {
  sizeBuilder := by kernel_rfl
  liesBuilder := by kernel_rfl
  t5 := Tryz.underlying5
  a5 := Tryz.isAgg5
  z5 := Tryz.sizeOf5
  v5 := Tryz.zeroValue5
  infoByte := by kernel_rfl
  cellsByte := by kernel_rfl
  sizeByte := by kernel_rfl
  neB5 := by decide }
open Go.RowKit in
theorem Tryz.Builder_WriteString (B b : Nat) (bs : List Value) (s : ByteArray) (w : World) (h : Lib.IsBuilder 195 5 B b bs w) (hlen : bs.length + s.size ≤ 140737488355328) (hBw : B ≤ w.heap.size) :
    Calls Tryz.prog 137 #[.pointer (some ⟨b, 0, none⟩), .string s] w fun e w' => e = .returned (.tuple #[.int .i64 s.size, .nilIface]) ∧ (Lib.BuilderAt 195 5 B b (.pointer (some ⟨b, 0, none⟩)) (bs ++ Lib.strCells s) w' ∧ Below B w w') := Any.Builder_WriteString Tryz.laysB166 Tryz.Builder_ExtraB B b bs s w h hlen hBw
end Go.Proofs
namespace Go.Proofs.YtggpodlecljcbadGreatDoor
set_option linter.unusedSimpArgs false
set_option linter.unusedVariables false
open Go.RowKit Go.Sort
set_option maxRecDepth 100000 in
set_option maxHeartbeats 2000000 in
theorem store_four (n : Nat) (w : World) (hn : n ≤ 4000000000) :
    Calls Tryz.prog 119 #[.int .i64 n] w fun e w' => e = .returned (.string (fourB n)) ∧ Below w.heap.size w w' := by
  have hcv := conv_four n ((n : Int) % 256) ((n : Int) / 256 % 256) ((n : Int) / 65536 % 256) ((n : Int) / 16777216) (by omega) (by omega) (by omega) (by omega) w
  have hb := below_alloc w (.cells #[.int .u8 ((n : Int) % 256), .int .u8 ((n : Int) / 256 % 256), .int .u8 ((n : Int) / 65536 % 256), .int .u8 ((n : Int) / 16777216)] 5)
  go_enter Tryz.func119, Tryz.ntmps119
  go_wp2_with fail
  go_ret
  exact ⟨rfl, hb⟩
theorem wrap_i64 (n : Nat) (h : n < 9223372036854775808) : IntKind.i64.wrap (n : Int) = n := by
  have h2 : (n : Int) % 2 ^ 64 = n := by omega
  simp only [IntKind.wrap, IntKind.signed, IntKind.bits, h2]
  rw [if_neg (by simp; omega)]
theorem bits_or_i64 (a b : Nat) (ha : a < 4294967296) (hb : b < 4294967296) : bits .or .i64 (a : Int) (b : Int) = ((a ||| b : Nat) : Int) := by
  have hx : a ||| b < 2 ^ 32 := Nat.or_lt_two_pow (by omega) (by omega)
  have h1 : (BitVec.ofInt 64 (a : Int)).toNat = a := by
    rw [BitVec.ofInt_natCast, BitVec.toNat_ofNat]; exact Nat.mod_eq_of_lt (by omega)
  have h2 : (BitVec.ofInt 64 (b : Int)).toNat = b := by
    rw [BitVec.ofInt_natCast, BitVec.toNat_ofNat]; exact Nat.mod_eq_of_lt (by omega)
  show IntKind.i64.wrap ((BitVec.ofInt 64 (a : Int) ||| BitVec.ofInt 64 (b : Int)).toNat : Int) = _
  rw [BitVec.toNat_or, h1, h2]
  exact wrap_i64 _ (by omega)
theorem or_step (a b k : Nat) (ha : a < 2 ^ k) : a ||| b * 2 ^ k = a + b * 2 ^ k := by
  have := Nat.two_pow_add_eq_or_of_lt ha b
  rw [Nat.or_comm, Nat.mul_comm b, ← this, Nat.add_comm]
theorem or_four (a b c d : UInt8) : bits .or .i64 (a.toNat : Int) ((b.toNat : Int) * 256) = (a.toNat : Int) + 256 * (b.toNat : Int) ∧ bits .or .i64 ((a.toNat : Int) + 256 * (b.toNat : Int)) ((c.toNat : Int) * 65536) = (a.toNat : Int) + 256 * (b.toNat : Int) + 65536 * (c.toNat : Int)
    ∧ bits .or .i64 ((a.toNat : Int) + 256 * (b.toNat : Int) + 65536 * (c.toNat : Int)) ((d.toNat : Int) * 16777216) = (u4 a b c d : Int) := by
  have ha := a.toNat_lt
  have hb := b.toNat_lt
  have hc := c.toNat_lt
  have hd := d.toNat_lt
  refine ⟨?_, ?_, ?_⟩
  · have e := or_step a.toNat b.toNat 8 (by omega)
    rw [show ((b.toNat : Int) * 256) = ((b.toNat * 2 ^ 8 : Nat) : Int) by omega, bits_or_i64 _ _ (by omega) (by omega), e]
    omega
  · have e := or_step (a.toNat + 256 * b.toNat) c.toNat 16 (by omega)
    rw [show ((c.toNat : Int) * 65536) = ((c.toNat * 2 ^ 16 : Nat) : Int) by omega, show (a.toNat : Int) + 256 * (b.toNat : Int) = ((a.toNat + 256 * b.toNat : Nat) : Int) by omega, bits_or_i64 _ _ (by omega) (by omega), e]
    omega
  · have e := or_step (a.toNat + 256 * b.toNat + 65536 * c.toNat) d.toNat 24 (by omega)
    rw [show ((d.toNat : Int) * 16777216) = ((d.toNat * 2 ^ 24 : Nat) : Int) by omega, show (a.toNat : Int) + 256 * (b.toNat : Int) + 65536 * (c.toNat : Int) = ((a.toNat + 256 * b.toNat + 65536 * c.toNat : Nat) : Int) by omega, bits_or_i64 _ _ (by omega) (by omega), e]
    unfold u4
    omega
set_option maxRecDepth 100000 in
set_option maxHeartbeats 2000000 in
theorem store_unfour (s : ByteArray) (hs : s.size = 4) (w : World) :
    Calls Tryz.prog 113 #[.string s] w fun e w' => e = .returned (.int .i64 (u4 (s[0]'(by omega)) (s[1]'(by omega)) (s[2]'(by omega)) (s[3]'(by omega)))) ∧ w' = w.drew := by
  obtain ⟨o1, o2, o3⟩ := or_four (s[0]'(by omega)) (s[1]'(by omega)) (s[2]'(by omega)) (s[3]'(by omega))
  obtain ⟨U, hU⟩ : ∃ U, U = u4 (s[0]'(by omega)) (s[1]'(by omega)) (s[2]'(by omega)) (s[3]'(by omega)) := ⟨_, rfl⟩
  have a1 : (s[0]'(by omega)).toNat ≤ 255 := by have := (s[0]'(by omega)).toNat_lt; omega
  have b1 : (s[1]'(by omega)).toNat ≤ 255 := by have := (s[1]'(by omega)).toNat_lt; omega
  have c1 : (s[2]'(by omega)).toNat ≤ 255 := by have := (s[2]'(by omega)).toNat_lt; omega
  have d1 : (s[3]'(by omega)).toNat ≤ 255 := by have := (s[3]'(by omega)).toNat_lt; omega
  rw [← hU] at o3 ⊢
  clear hU
  go_enter Tryz.func113, Tryz.ntmps113
  go_wp2_with fail
  go_region
  go_wp2_with fail
  go_ret
  exact ⟨rfl, rfl⟩
theorem extract_at (s : ByteArray) (i j k : Nat) (h : i + k < s.size) (h2 : i + k < j) (h3 : k < (s.extract i j).size) : (s.extract i j)[k] = s[i + k] := by
  rw [get_data, get_data s]
  simp only [extract_data]
  rw [List.getElem_drop, List.getElem_take]
def unfB (t : ByteArray) : Nat := if h : t.size = 4 then u4 (t[0]'(by omega)) (t[1]'(by omega)) (t[2]'(by omega)) (t[3]'(by omega)) else 0
theorem store_unf (t : ByteArray) (h : t.size = 4) (w : World) : Calls Tryz.prog 113 #[.string t] w fun e w' => e = .returned (.int .i64 (unfB t)) ∧ w' = w.drew := by
  have := store_unfour t h w
  unfold unfB
  rw [dif_pos h]
  exact this
theorem unf_at (s : ByteArray) (i j : Nat) (hj : j = i + 4) (hs : i + 4 ≤ s.size) : unfB (s.extract i j) = u4 (s[i]'(by omega)) (s[i + 1]'(by omega)) (s[i + 2]'(by omega)) (s[i + 3]'(by omega)) := by
  subst hj
  have hz : (s.extract i (i + 4)).size = 4 := by rw [ByteArray.size_extract]; omega
  unfold unfB
  rw [dif_pos hz, extract_at s i (i + 4) 0 (by omega) (by omega) (by omega), extract_at s i (i + 4) 1 (by omega) (by omega) (by omega), extract_at s i (i + 4) 2 (by omega) (by omega) (by omega), extract_at s i (i + 4) 3 (by omega) (by omega) (by omega)]
  rfl
theorem unf_lt (t : ByteArray) : unfB t < 4294967296 := by
  unfold unfB
  split
  · exact u4_lt _ _ _ _
  · decide
theorem head_at (s : ByteArray) (hs : s.size = 40) : headOf s.data.toList = headIs (s[0]'(by omega)) ⟨u4 (s[1]'(by omega)) (s[2]'(by omega)) (s[3]'(by omega)) (s[4]'(by omega)), u4 (s[5]'(by omega)) (s[6]'(by omega)) (s[7]'(by omega)) (s[8]'(by omega)), u4 (s[9]'(by omega)) (s[10]'(by omega)) (s[11]'(by omega)) (s[12]'(by omega)), u4 (s[13]'(by omega)) (s[14]'(by omega)) (s[15]'(by omega)) (s[16]'(by omega))⟩ := by
  have hl := data_len s
  rw [hs] at hl
  have hx : ∀ (l : List UInt8) (h : l.length = 40), headOf l = headIs (l[0]'(by omega)) ⟨u4 (l[1]'(by omega)) (l[2]'(by omega)) (l[3]'(by omega)) (l[4]'(by omega)), u4 (l[5]'(by omega)) (l[6]'(by omega)) (l[7]'(by omega)) (l[8]'(by omega)), u4 (l[9]'(by omega)) (l[10]'(by omega)) (l[11]'(by omega)) (l[12]'(by omega)), u4 (l[13]'(by omega)) (l[14]'(by omega)) (l[15]'(by omega)) (l[16]'(by omega))⟩ := fun l h => by
    match l, h with
    | x :: a0 :: a1 :: a2 :: a3 :: b0 :: b1 :: b2 :: b3 :: c0 :: c1 :: c2 :: c3 :: d0 :: d1 :: d2 :: d3 :: r, _ => rfl
  rw [hx _ hl]
  simp only [get_data]
def Hd.val (h : Hd) : Value := .agg #[.int .i64 h.epoch, .int .i64 h.side, .int .i64 h.size, .int .i64 h.first]
set_option maxRecDepth 100000 in
set_option maxHeartbeats 40000000 in
theorem store_headOf (s : ByteArray) (hs : s.size = 40) (w : World) :
    Calls Tryz.prog 82 #[.string s] w fun e w' => e = .returned (headOf s.data.toList).val ∧ Below w.heap.size w w' := by
  have hh := head_at s hs
  rw [← unf_at s 1 5 rfl (by omega), ← unf_at s 5 9 rfl (by omega), ← unf_at s 9 13 rfl (by omega), ← unf_at s 13 17 rfl (by omega)] at hh
  have U := Lib.hid store_unf
  have z1 : (s.extract 1 5).size = 4 := by rw [ByteArray.size_extract]; omega
  have z2 : (s.extract 5 9).size = 4 := by rw [ByteArray.size_extract]; omega
  have z3 : (s.extract 9 13).size = 4 := by rw [ByteArray.size_extract]; omega
  have z4 : (s.extract 13 17).size = 4 := by rw [ByteArray.size_extract]; omega
  have a1 := unf_lt (s.extract 1 5)
  have b1 := unf_lt (s.extract 5 9)
  have c1 := unf_lt (s.extract 9 13)
  have d1 := unf_lt (s.extract 13 17)
  obtain ⟨x, hx⟩ : ∃ x, x = s[0]'(by omega) := ⟨_, rfl⟩
  rw [← hx] at hh
  rw [hh]
  obtain ⟨R, hR⟩ : ∃ R, R = headIs x ⟨unfB (s.extract 1 5), unfB (s.extract 5 9), unfB (s.extract 9 13), unfB (s.extract 13 17)⟩ := ⟨_, rfl⟩
  rw [← hR]
  have HR := Lib.hid hR
  have HX := Lib.hid hx
  have hx1 : (s[0]'(by omega)).toNat ≤ 255 := by have := (s[0]'(by omega)).toNat_lt; omega
  clear hh hR hx
  go_enter Tryz.func82, Tryz.ntmps82
  go_upto_region 1 with fail
  go_cut [3] from 4 (fun s3 wx => s3 = .pointer (some ⟨w.heap.size + 1, 0, none⟩) ∧ wx = ((w.alloc (.cells #[.int .i64 0, .int .i64 0, .int .i64 0, .int .i64 0] 132)).alloc (.cells #[.int .i64 (unfB (s.extract 1 5)), .int .i64 (unfB (s.extract 5 9)), .int .i64 (unfB (s.extract 9 13)), .int .i64 (unfB (s.extract 13 17))] 132)).drew.drew.drew.drew.drew)
  case first =>
    go_region_law (first
      | (go_simp; go_at_call 113; refine (U.out _ (by assumption) _).mono ?_; rintro e wA ⟨rfl, rfl⟩))
    all_goals (go_wp2_with fail; go_meet; exact ⟨rfl, rfl⟩)
  case rest =>
  obtain ⟨rfl, rfl⟩ := hcut
  have hbb : Below w.heap.size w ((w.alloc (.cells #[.int .i64 0, .int .i64 0, .int .i64 0, .int .i64 0] 132)).alloc (.cells #[.int .i64 (unfB (s.extract 1 5)), .int .i64 (unfB (s.extract 5 9)), .int .i64 (unfB (s.extract 9 13)), .int .i64 (unfB (s.extract 13 17))] 132)).drew.drew.drew.drew.drew := (two (below_alloc _ _) (below_alloc _ _)).drew.drew.drew.drew.drew
  have HBB := Lib.hid hbb
  clear hbb
  generalize unfB (s.extract 1 5) = a at *
  generalize unfB (s.extract 5 9) = b at *
  generalize unfB (s.extract 9 13) = c at *
  generalize unfB (s.extract 13 17) = d at *
  clear z1 z2 z3 z4 U
  by_cases h1 : x.toNat = 72
  rotate_left
  · have k1 : ((s[0].toNat : Int) != 72) = true := by rw [← HX.out]; simp; omega
    have hz : R = zeroH := by rw [HR.out, headIs, if_pos (Or.inl h1)]
    subst hz
    go_wp2_with fail
    refine bodyPost_ret (v := zeroH.val) (by simp [results, Tryz.results82, go_sem, Hd.val, zeroH]) rfl ?_
    exact ⟨rfl, HBB.out⟩
  have k1 : ((s[0].toNat : Int) != 72) = false := by rw [← HX.out]; simp; omega
  by_cases h2 : 1 < b
  · have hz : R = zeroH := by rw [HR.out, headIs, if_pos (Or.inr (Or.inl h2))]
    have h2' : (1 : Int) < (b : Int) := by omega
    subst hz
    go_wp2_with fail
    refine bodyPost_ret (v := zeroH.val) (by simp [results, Tryz.results82, go_sem, Hd.val, zeroH]) rfl ?_
    exact ⟨rfl, HBB.out⟩
  by_cases h3 : 480 < c
  · have hz : R = zeroH := by rw [HR.out, headIs, if_pos (Or.inr (Or.inr (Or.inl h3)))]
    have h2' : ¬ (1 : Int) < (b : Int) := by omega
    have h3' : (480 : Int) < (c : Int) := by omega
    subst hz
    go_wp2_with fail
    refine bodyPost_ret (v := zeroH.val) (by simp [results, Tryz.results82, go_sem, Hd.val, zeroH]) rfl ?_
    exact ⟨rfl, HBB.out⟩
  by_cases h4 : d < 1
  · have hz : R = zeroH := by rw [HR.out, headIs, if_pos (Or.inr (Or.inr (Or.inr h4)))]
    have h2' : ¬ (1 : Int) < (b : Int) := by omega
    have h3' : ¬ (480 : Int) < (c : Int) := by omega
    have h4' : (d : Int) < 1 := by omega
    subst hz
    go_wp2_with fail
    refine bodyPost_ret (v := zeroH.val) (by simp [results, Tryz.results82, go_sem, Hd.val, zeroH]) rfl ?_
    exact ⟨rfl, HBB.out⟩
  have hz : R = ⟨a, b, c, d⟩ := by rw [HR.out, headIs, if_neg (by simp only [not_or, Nat.not_lt]; exact ⟨by simpa using h1, by omega, by omega, by omega⟩)]
  have h2' : ¬ (1 : Int) < (b : Int) := by omega
  have h3' : ¬ (480 : Int) < (c : Int) := by omega
  have h4' : ¬ (d : Int) < 1 := by omega
  subst hz
  go_wp2_with fail
  refine bodyPost_ret (v := (⟨a, b, c, d⟩ : Hd).val) (by simp [results, Tryz.results82, go_sem, Hd.val]) rfl ?_
  exact ⟨rfl, (two (below_alloc _ _) (below_alloc _ _)).drew.drew.drew.drew.drew⟩
set_option maxRecDepth 100000 in
set_option maxHeartbeats 4000000 in
theorem store_text (h : Hd) (w : World) (h1 : h.epoch ≤ 4000000000) (h2 : h.side ≤ 1) (h3 : h.size ≤ 480) (h4 : h.first ≤ 4000000000) :
    Calls Tryz.prog 89 #[h.val] w fun e w' => e = .returned (.string (headText h)) ∧ Below w.heap.size w w' := by
  obtain ⟨a, b, c, d⟩ := h
  simp only at h1 h2 h3 h4
  have g2 : b ≤ 4000000000 := by omega
  have g3 : c ≤ 4000000000 := by omega
  obtain ⟨fB, hfB⟩ : ∃ f, f = fourB := ⟨_, rfl⟩
  have CF : Hid (∀ (n : Nat) W, n ≤ 4000000000 → Calls Tryz.prog 119 #[.int .i64 (n : Int)] W fun e w' => e = .returned (.string (fB n)) ∧ Below W.heap.size W w') := Lib.hid (fun n W hn => by rw [hfB]; exact store_four n W hn)
  have z0 : ∀ n, (fB n).size = 4 := fun n => by rw [hfB]; rfl
  have HR : Hid (headText ⟨a, b, c, d⟩ = (⟨#[72]⟩ : ByteArray) ++ fB a ++ fB b ++ fB c ++ fB d) := Lib.hid (by rw [hfB]; rfl)
  rw [HR.out]
  have y0 : ((⟨#[72]⟩ : ByteArray) ++ fB a).size = 5 := by rw [ByteArray.size_append, z0]; rfl
  have y1 : ((⟨#[72]⟩ : ByteArray) ++ fB a ++ fB b).size = 9 := by rw [ByteArray.size_append, y0, z0]
  have y2 : ((⟨#[72]⟩ : ByteArray) ++ fB a ++ fB b ++ fB c).size = 13 := by rw [ByteArray.size_append, y1, z0]
  have y3 : ((⟨#[72]⟩ : ByteArray) ++ fB a ++ fB b ++ fB c ++ fB d).size = 17 := by rw [ByteArray.size_append, y2, z0]
  clear hfB
  unfold Hd.val
  go_enter Tryz.func89, Tryz.ntmps89
  go_wp2_with fail
  obtain ⟨W0, hW0⟩ : ∃ W0, W0 = w.alloc (.cells #[.int .i64 a, .int .i64 b, .int .i64 c, .int .i64 d] 132) := ⟨_, rfl⟩
  have q0 : W0.cell? ⟨w.heap.size, 0, none⟩ = some (.int .i64 a) := by rw [hW0]; simp
  have q1 : W0.cell? ⟨w.heap.size, 1, none⟩ = some (.int .i64 b) := by rw [hW0]; simp
  have q2 : W0.cell? ⟨w.heap.size, 2, none⟩ = some (.int .i64 c) := by rw [hW0]; simp
  have q3 : W0.cell? ⟨w.heap.size, 3, none⟩ = some (.int .i64 d) := by rw [hW0]; simp
  have HB0 : Hid (Below w.heap.size w W0) := Lib.hid (by rw [hW0]; exact below_alloc _ _)
  rw [← hW0]
  clear hW0
  have q0r := regrown_cell (w := W0) q0
  have q1r := regrown_cell (w := W0) q1
  have q2r := regrown_cell (w := W0) q2
  have q3r := regrown_cell (w := W0) q3
  refine wp_region_q (by kernel_rfl) (by kernel_rfl) ?_
  repeat (go_big_quiet_step (first
    | (go_at_call 119; exact Calls.regrown_of (CF.out _ _ (by assumption)))))
  refine wpQuiet_nil ?_
  intro w1 hb1
  have HB1 := Lib.hid (two HB0.out hb1)
  clear hb1
  go_wp2_with fail
  go_ret
  exact ⟨rfl, HB1.out⟩
end Go.Proofs.YtggpodlecljcbadGreatDoor
namespace Go.Proofs.YtggpodlecljcbadGreatDoor
set_option linter.unusedSimpArgs false
set_option linter.unusedVariables false
open Go.RowKit Go.Sort
theorem all_takeZ (l : List Change) (k : Nat) (h : k < l.length) : (allText (l.take (k + 1))).data.toList = (allText (l.take k)).data.toList ++ (rowText l[k]).data.toList := by
  have hh : ∀ (a : List Change) (c : Change), (allText (a ++ [c])).data.toList = (allText a).data.toList ++ (rowText c).data.toList := fun a c => by
    induction a with
    | nil => simp [allText, ByteArray.append_eq, ByteArray.data_append]
    | cons x r ih =>
      have e : ∀ y z, (allText (y :: z)).data.toList = (rowText y).data.toList ++ (allText z).data.toList := fun y z => by simp [allText, ByteArray.append_eq, ByteArray.data_append]
      rw [List.cons_append, e, ih, e, List.append_assoc]
  rw [List.take_succ_eq_append_getElem h, hh]
theorem builder_new (w : World) : Lib.BuilderAt 195 5 w.heap.size w.heap.size (.pointer none) [] (w.alloc (.cells #[.pointer none, .slice none 0 0] 195)) :=
  ⟨Nat.le_refl _, .slice none 0 0, by show (w.heap.push _)[w.heap.size]? = _; simp, World.ownsRow_nil _ _ _ _, by simp [Value.ownBlock]⟩
theorem builder_below {T e : TypeId} {B b : Nat} {bs : List Value} {w w' : World} (h : Lib.IsBuilder T e B b bs w) (hb : Below w.heap.size w w') : Lib.IsBuilder T e B b bs w' := by
  have one : ∀ p, Lib.BuilderAt T e B b p bs w → Lib.BuilderAt T e B b p bs w' := fun p hp => by
    have hlt := hp.lt
    obtain ⟨hB, v, hv, ho, hn⟩ := hp
    exact ⟨hB, v, by rw [hb.block _ hlt]; exact hv, owns_of_block ho (fun g hg => hb.block g (ho.lt g hg).2), hn⟩
  rcases h with h | h
  · exact Or.inl (one _ h)
  · exact Or.inr (one _ h)
theorem conv_three (k v : Nat) (hk : k ≤ 255) (hv : v ≤ 255) (W : World) : (convert 154 9 (.slice (some ⟨W.heap.size, 0, none⟩) 3 3)).run Tryz.prog (W.alloc (.cells #[.int .u8 (k : Int), .int .u8 (v : Int), .int .u8 ((v : Int) / 256)] 5)) = .ok (.string ⟨#[k.toUInt8, v.toUInt8, (v / 256).toUInt8]⟩) (W.alloc (.cells #[.int .u8 (k : Int), .int .u8 (v : Int), .int .u8 ((v : Int) / 256)] 5)) := by
  refine run_convert_bytes_back (P := Tryz.prog) _ 154 9 5 ⟨W.heap.size, 0, none⟩ 3 [k.toUInt8, v.toUInt8, (v / 256).toUInt8] Tryz.underlying154 Tryz.underlying5 Tryz.underlying9 (fun j hj => ?_)
  rw [Addr.add_lit]
  have e1 : k.toUInt8.toNat = k := by simp; omega
  have e2 : v.toUInt8.toNat = v := by simp; omega
  have e3 : (v / 256).toUInt8.toNat = v / 256 := by simp; omega
  match j, hj with
  | 0, _ => simp [e1]
  | 1, _ => simp [e2]
  | 2, _ => simp [e3]
set_option maxRecDepth 100000 in
set_option maxHeartbeats 4000000 in
theorem store_all (va : Value) (l : List Change) (w : World) (ha : Changes w va l) (hc : ∀ c ∈ l, changeFault c = 0) (hl : l.length ≤ 1000) :
    Calls Tryz.prog 104 #[va] w fun e w' => e = .returned (.string (allText l)) ∧ Below w.heap.size w w' := by
  obtain ⟨ao, ca, rfl, hca, hca'⟩ := ha.parts
  have HA := Lib.hid ha
  have HC := Lib.hid hc
  have HN : Hid (Lib.IsBuilder 195 5 w.heap.size w.heap.size (Lib.byteCells (allText (l.take 0)).data.toList) (w.alloc (.cells #[.pointer none, .slice none 0 0] 195))) := Lib.hid (Or.inl (builder_new w))
  have HZ : Hid ((allText (l.take 0)).data.toList.length ≤ 27 * 0) := Lib.hid (by simp [allText])
  clear ha hc
  go_enter Tryz.func104, Tryz.ntmps104
  go_wp2_with fail
  go_loopw [8] (fun i wr => ∃ k : Nat, k ≤ l.length ∧ i = .int .i64 k ∧ Lib.IsBuilder 195 5 w.heap.size w.heap.size (Lib.byteCells (allText (l.take k)).data.toList) wr ∧ (allText (l.take k)).data.toList.length ≤ 27 * k ∧ Below w.heap.size w wr) (fun i _ => l.length - (intOf i).toNat)
  case atStart => exact ⟨0, Nat.zero_le _, rfl, HN.out, HZ.out, below_alloc _ _⟩
  case round =>
    obtain ⟨k, hk, rfl, hib, hzl, hbw⟩ := hrel
    have HIB := Lib.hid hib
    have HZL := Lib.hid hzl
    have HBW := Lib.hid hbw
    clear hib hzl hbw
    by_cases hlt : k < l.length
    · obtain ⟨cb, cof, rfl, hlb, x0, x1, x2⟩ := Changes.cell (HA.out.below HBW.out) k hlt
      have hnx := all_takeZ l k hlt
      have hfc := HC.out _ (List.getElem_mem hlt)
      obtain ⟨c, hcd⟩ : ∃ c, c = l[k] := ⟨_, rfl⟩
      rw [← hcd] at x0 x1 x2 hnx hfc
      obtain ⟨hk8, hv16⟩ := cf_sizes hfc
      obtain ⟨ky, vl, g⟩ := c
      dsimp only at hk8 hv16 x0 x1 x2
      have HNX := Lib.hid hnx
      clear hfc hcd hnx
      obtain ⟨W1, hW1⟩ : ∃ W1, W1 = wr.alloc (.cells #[.string ky, .string vl, .bool g] 91) := ⟨_, rfl⟩
      have B1 : Hid (Below wr.heap.size wr W1) := Lib.hid (by rw [hW1]; exact below_alloc wr _)
      have CE : Hid (∀ W, Below W1.heap.size W1 W → W.cell? ⟨wr.heap.size, 0, none⟩ = some (.string ky) ∧ W.cell? ⟨wr.heap.size, 1, none⟩ = some (.string vl) ∧ W.cell? ⟨wr.heap.size, 2, none⟩ = some (.bool g)) := Lib.hid fun W hb => ⟨cell_on' hb (by rw [hW1]; simp), cell_on' hb (by rw [hW1]; simp), cell_on' hb (by rw [hW1]; simp)⟩
      have HW1 := Lib.hid hW1
      clear hW1
      obtain ⟨c0, c1, c2⟩ := CE.out _ (Below.refl _ _)
      obtain ⟨W2, hW2⟩ : ∃ W2, W2 = W1.alloc (.cells #[.int .u8 (ky.size : Int), .int .u8 (vl.size : Int), .int .u8 ((vl.size : Int) / 256)] 5) := ⟨_, rfl⟩
      have B2 : Hid (Below wr.heap.size wr W2) := Lib.hid (by rw [hW2]; exact two B1.out (below_alloc _ _))
      obtain ⟨e0, e1, e2⟩ := CE.out W2 (by rw [hW2]; exact below_alloc _ _)
      have hcv := conv_three ky.size vl.size (by omega) (by omega) W1
      obtain ⟨tb, htb⟩ : ∃ tb, tb = (⟨#[ky.size.toUInt8, vl.size.toUInt8, (vl.size / 256).toUInt8]⟩ : ByteArray) := ⟨_, rfl⟩
      rw [← hW2, ← htb] at hcv
      have z1 : tb.size = 3 := by rw [htb]; rfl
      have z2 : (tb ++ ky).size = 3 + ky.size := by rw [ByteArray.size_append, z1]
      have z3 : (tb ++ ky ++ vl).size = 3 + ky.size + vl.size := by rw [ByteArray.size_append, z2]
      have HRT : Hid (rowText ⟨ky, vl, g⟩ = tb ++ ky ++ vl) := Lib.hid (by rw [htb]; rfl)
      have HTB := Lib.hid htb
      have HW2 := Lib.hid hW2
      have CW := Lib.hid (Tryz.Builder_WriteString w.heap.size w.heap.size _ (tb ++ ky ++ vl) W2 (builder_below HIB.out B2.out) (by rw [Lib.byteCells_length, z3]; have := HZL.out; omega) (by have := HBW.out.size; have := B2.out.size; omega))
      clear htb hW2
      rw [HW2.out, HW1.out] at hcv
      clear c0 c1 c2 e0 e1 e2
      have hsz : (wr.alloc (.cells #[.string ky, .string vl, .bool g] 91)).heap.size = wr.heap.size + 1 := by simp
      rw [hsz] at hcv
      clear hsz
      go_wp2_with fail
      rw [show (wr.alloc (.cells #[.string ky, .string vl, .bool g] 91)).alloc (.cells #[.int .u8 (ky.size : Int), .int .u8 (vl.size : Int), .int .u8 ((vl.size : Int) / 256)] 5) = W2 by rw [HW2.out, HW1.out]]
      refine CW.out.mono ?_
      rintro e w3 ⟨rfl, hb3, hbe⟩
      have HIB3 : Hid (Lib.IsBuilder 195 5 w.heap.size w.heap.size (Lib.byteCells (allText (l.take (k + 1))).data.toList) w3) := Lib.hid (Or.inr (by rw [HNX.out, HRT.out, Lib.byteCells_append, ← Lib.strCells_eq]; exact hb3))
      have HZ3 : Hid ((allText (l.take (k + 1))).data.toList.length ≤ 27 * (k + 1)) := Lib.hid (by have h7 := data_len (tb ++ ky ++ vl); rw [z3] at h7; have := HZL.out; rw [HNX.out, List.length_append, HRT.out, h7]; omega)
      have HB3 := Lib.hid ((HBW.out.trans (B2.out.mono HBW.out.size)).trans hbe)
      clear hb3 hbe
      go_wp2_with fail
      go_roundw
      case rel => exact ⟨k + 1, by omega, by go_num, HIB3.out, HZ3.out, HB3.out⟩
      case measure => simp [intOf]; omega
    · obtain rfl : l.length = k := by omega
      have CST := Lib.hid (Tryz.Builder_String_any w.heap.size w.heap.size _ wr HIB.out HBW.out.size)
      go_wp2_with fail
      refine CST.out.mono ?_
      rintro e wS ⟨rfl, hb⟩
      have HB := Lib.hid (HBW.out.trans hb)
      clear hb
      go_wp2_with fail
      go_ret
      exact ⟨rfl, HB.out⟩
end Go.Proofs.YtggpodlecljcbadGreatDoor
namespace Go.Proofs.YtggpodlecljcbadGreatDoor
set_option linter.unusedSimpArgs false
set_option linter.unusedVariables false
open Go.RowKit Go.Sort
/-- the row at a text's head. -/
def headRow (s : ByteArray) (k m : Nat) : Change := ⟨s.extract 3 (3 + k), s.extract (3 + k) (3 + k + m), false⟩
theorem parse_step (s : ByteArray) (h : 3 ≤ s.size) (f : Nat) (acc : List Change) :
    parseL (f + 1) s.data.toList acc = if s.size < 3 + (s[0]'(by omega)).toNat + (s[1]'(by omega)).toNat + 256 * (s[2]'(by omega)).toNat then none
      else if changeFault (headRow s (s[0]'(by omega)).toNat ((s[1]'(by omega)).toNat + 256 * (s[2]'(by omega)).toNat)) ≠ 0 then none
      else parseL f (s.extract (3 + (s[0]'(by omega)).toNat + (s[1]'(by omega)).toNat + 256 * (s[2]'(by omega)).toNat) s.size).data.toList (appX acc (headRow s (s[0]'(by omega)).toNat ((s[1]'(by omega)).toNat + 256 * (s[2]'(by omega)).toNat))) := by
  have hl := data_len s
  simp only [get_data]
  have hx : ∀ (l : List UInt8) (hl : l.length = s.size) (hd : s.data.toList = l) (h3 : 3 ≤ l.length), parseL (f + 1) l acc = if s.size < 3 + (l[0]'(by omega)).toNat + (l[1]'(by omega)).toNat + 256 * (l[2]'(by omega)).toNat then none
      else if changeFault (headRow s (l[0]'(by omega)).toNat ((l[1]'(by omega)).toNat + 256 * (l[2]'(by omega)).toNat)) ≠ 0 then none
      else parseL f (s.extract (3 + (l[0]'(by omega)).toNat + (l[1]'(by omega)).toNat + 256 * (l[2]'(by omega)).toNat) s.size).data.toList (appX acc (headRow s (l[0]'(by omega)).toNat ((l[1]'(by omega)).toNat + 256 * (l[2]'(by omega)).toNat))) := fun l hl hd h3 => by
    match l, h3 with
    | k :: v :: u :: r, _ =>
      simp only [List.length_cons] at hl
      have e1 : (⟨⟨(r.take k.toNat).toArray⟩, ⟨((r.drop k.toNat).take (v.toNat + 256 * u.toNat)).toArray⟩, false⟩ : Change) = headRow s k.toNat (v.toNat + 256 * u.toNat) := by
        unfold headRow
        have q1 : (⟨(r.take k.toNat).toArray⟩ : ByteArray) = s.extract 3 (3 + k.toNat) := ba_ext (by rw [extract_data, hd, Nat.add_comm 3 k.toNat]; simp [List.drop_take])
        have q2 : (⟨((r.drop k.toNat).take (v.toNat + 256 * u.toNat)).toArray⟩ : ByteArray) = s.extract (3 + k.toNat) (3 + k.toNat + (v.toNat + 256 * u.toNat)) := ba_ext (by
          rw [extract_data, hd, List.drop_take, show 3 + k.toNat + (v.toNat + 256 * u.toNat) - (3 + k.toNat) = v.toNat + 256 * u.toNat by omega, Nat.add_comm 3 k.toNat]
          simp)
        rw [q1, q2]
      have e2 : (s.extract (3 + k.toNat + v.toNat + 256 * u.toNat) s.size).data.toList = r.drop (k.toNat + v.toNat + 256 * u.toNat) := by
        rw [extract_data, hd, List.take_of_length_le (by simp; omega), show 3 + k.toNat + v.toNat + 256 * u.toNat = (k.toNat + v.toNat + 256 * u.toNat) + 3 by omega]
        simp
      simp only [List.getElem_cons_zero, List.getElem_cons_succ]
      rw [e2]
      simp only [parseL]
      rw [e1]
      by_cases hc : r.length < k.toNat + v.toNat + 256 * u.toNat
      · rw [if_pos hc, if_pos (by omega)]
      · have hn : ¬ s.size < 3 + k.toNat + v.toNat + 256 * u.toNat := by omega
        rw [if_neg hc, if_neg hn]
  exact hx _ hl rfl (by omega)
theorem parse_short (s : ByteArray) (h : s.size < 3) (h0 : s.size ≠ 0) (f : Nat) (acc : List Change) : parseL (f + 1) s.data.toList acc = none := by
  have hl := data_len s
  generalize s.data.toList = l at hl
  match l, hl with
  | [], hl => simp at hl; omega
  | [a], _ => rfl
  | [a, b], _ => rfl
  | a :: b :: c :: r, hl => simp at hl; omega
theorem parse_end (s : ByteArray) (h : s.size = 0) (f : Nat) (acc : List Change) : parseL (f + 1) s.data.toList acc = some acc := by
  have hl := data_len s
  rw [h] at hl
  rw [List.eq_nil_of_length_eq_zero hl]
  rfl
theorem one_changeZ {w : World} {b : Nat} (f : Change) (h0 : w.cell? ⟨b, 0, none⟩ = some (.string f.key)) (h1 : w.cell? ⟨b, 1, none⟩ = some (.string f.val)) (h2 : w.cell? ⟨b, 2, none⟩ = some (.bool f.gone)) : Changes w (.slice (some ⟨b, 0, none⟩) 1 1) [f] := by
  refine ⟨rfl, some ⟨b, 0, none⟩, 1, rfl, Nat.le_refl _, by decide, (fun _ h => by cases h), fun j u hj => ⟨b, 0, rfl, ?_⟩⟩
  rw [Nat.zero_add]
  match j, hj with
  | 0, hj => simp [Change.cells] at hj; subst hj; exact h0
  | 1, hj => simp [Change.cells] at hj; subst hj; exact h1
  | 2, hj => simp [Change.cells] at hj; subst hj; exact h2
  | j + 3, hj => simp [Change.cells] at hj
theorem changesF_own {w : World} {base B : Nat} {v : Value} {l : List Change} (h : w.ownsRow base 91 3 v l.length (l.flatMap Change.cells)) (hB : B ≤ base) : ChangesF (fun x => x < B) w v l :=
  ⟨SL.of_own h, fun a n c e hn hf => far_own h a n c e hn (Nat.lt_of_lt_of_le hf hB)⟩
theorem empty_toList (s : ByteArray) : (s.toList == []) = decide (s.size = 0) := by
  have e : (⟨#[]⟩ : ByteArray).toList = [] := by decide +kernel
  by_cases h : s.size = 0
  · have hs : s = ⟨#[]⟩ := ba_ext (List.eq_nil_of_length_eq_zero ((data_len s).trans h))
    subst hs
    decide +kernel
  · rw [decide_eq_false h]
    cases hb : (s.toList == [])
    · rfl
    · exfalso
      have h1 : s.toList = (⟨#[]⟩ : ByteArray).toList := by rw [e]; simpa using hb
      have h2 := (bytes_eq_iff _ _).1 h1
      exact h (by rw [h2]; rfl)
set_option maxRecDepth 100000 in
set_option maxHeartbeats 8000000 in
theorem store_parse (t : ByteArray) (w : World) (ht : t.size ≤ 480) :
    Calls Tryz.prog 83 #[.string t] w fun e w' => (parseL 481 t.data.toList [] = none ∧ e = .returned (.tuple #[.slice none 0 0, .bool false]) ∨ ∃ l v, parseL 481 t.data.toList [] = some l ∧ e = .returned (.tuple #[v, .bool true]) ∧ ChangesF (fun x => x < w.heap.size) w' v l ∧ RisesX l ∧ l.length ≤ 160) ∧ Below w.heap.size w w' := by
  obtain ⟨R, hR⟩ : ∃ R, R = parseL 481 t.data.toList [] := ⟨_, rfl⟩
  have HR := Lib.hid hR.symm
  rw [← hR]
  clear hR
  go_enter Tryz.func83, Tryz.ntmps83
  go_wp2_with fail
  go_loopw [0, 4] (fun tv lv wr => ∃ (s : ByteArray) (f : Nat) (acc : List Change), tv = .string s ∧ ChangesF (fun x => x < w.heap.size) wr lv acc ∧ RisesX acc ∧ 3 * acc.length + s.size ≤ 480 ∧ s.size < f ∧ parseL f s.data.toList acc = R ∧ Below w.heap.size w wr) (fun tv _ _ => match tv with | .string s => s.size | _ => 0)
  case atStart => exact ⟨t, 481, [], rfl, ⟨Rd.nil _, fun a n c h => by simp at h⟩, List.Pairwise.nil, by simpa using ht, by omega, HR.out, Below.refl _ _⟩
  case round =>
    obtain ⟨s, f, acc, rfl, hca, hri, hln, hf, hp, hbw⟩ := hrel
    obtain ⟨ao, ac, rfl, hac, hac'⟩ := hca.rd.parts
    have HCA := Lib.hid hca
    have HRI := Lib.hid hri
    have HP := Lib.hid hp
    have HBW := Lib.hid hbw
    clear hca hri hp hbw
    obtain ⟨f, rfl⟩ : ∃ g, f = g + 1 := ⟨f - 1, by omega⟩
    by_cases h0 : s.size = 0
    · have e0 : (s.toList == []) = true := by rw [empty_toList, decide_eq_true h0]
      have e1 : (s.toList != []) = false := by rw [bne, e0]; rfl
      have hr : R = some acc := by rw [← HP.out]; exact parse_end s h0 f acc
      have HRS := Lib.hid hr
      clear hr
      go_wp2_with fail
      refine bodyPost_ret (v := .tuple #[.slice ao acc.length ac, .bool true]) (by simp [results, Tryz.results83, go_sem]) rfl ?_
      exact ⟨Or.inr ⟨acc, _, HRS.out, rfl, HCA.out, HRI.out, by omega⟩, HBW.out⟩
    have e0 : (s.toList == []) = false := by rw [empty_toList, decide_eq_false h0]
    have e1 : (s.toList != []) = true := by rw [bne, e0]; rfl
    by_cases h3 : s.size < 3
    · have hr : R = none := by rw [← HP.out]; exact parse_short s h3 h0 f acc
      have HRS := Lib.hid hr
      have h3' : (s.size : Int) < 3 := by omega
      clear hr
      go_wp2_with fail
      go_region
      go_wp2_with fail
      refine bodyPost_ret (v := .tuple #[.slice none 0 0, .bool false]) (by simp [results, Tryz.results83, go_sem]) rfl ?_
      exact ⟨Or.inl ⟨HRS.out, rfl⟩, HBW.out.drew⟩
    have h3' : ¬ (s.size : Int) < 3 := by omega
    have h3d : decide ((s.size : Int) < 3) = false := decide_eq_false h3'
    have i0 : 0 < s.size := by omega
    have i1 : (1 : Int) < (s.size : Int) := by omega
    have i2 : (2 : Int) < (s.size : Int) := by omega
    have hps := parse_step s (by omega) f acc
    have b0 : s[0].toNat ≤ 255 := by have := (s[0]'(by omega)).toNat_lt; omega
    have b1 : s[1].toNat ≤ 255 := by have := (s[1]'(by omega)).toNat_lt; omega
    have b2 : s[2].toNat ≤ 255 := by have := (s[2]'(by omega)).toNat_lt; omega
    have HPS := Lib.hid hps
    clear hps
    by_cases hs : s.size < 3 + s[0].toNat + s[1].toNat + 256 * s[2].toNat
    · have hr : R = none := by rw [← HP.out, HPS.out, if_pos hs]
      have HRS := Lib.hid hr
      have hs' : (s.size : Int) < 3 + (s[0].toNat : Int) + (s[1].toNat : Int) + 256 * (s[2].toNat : Int) := by omega
      clear hr
      go_wp2_with fail
      refine wp_region_q (by kernel_rfl) (by kernel_rfl) ?_
      repeat (go_big_quiet_step (fail))
      refine wpQuiet_nil ?_
      intro w2 hb2
      have HB2 := Lib.hid (two HBW.out hb2)
      clear hb2
      go_wp2_with fail
      refine bodyPost_ret (v := .tuple #[.slice none 0 0, .bool false]) (by simp [results, Tryz.results83, go_sem]) rfl ?_
      exact ⟨Or.inl ⟨HRS.out, rfl⟩, HB2.out⟩
    have hs' : ¬ (s.size : Int) < 3 + (s[0].toNat : Int) + (s[1].toNat : Int) + 256 * (s[2].toNat : Int) := by omega
    go_wp2_with fail
    refine wp_region_q (by kernel_rfl) (by kernel_rfl) ?_
    repeat (go_big_quiet_step (fail))
    refine wpQuiet_nil ?_
    intro w2 hb2
    have HB2 := Lib.hid (two HBW.out hb2)
    have HCA2 := Lib.hid (HCA.out.below hb2)
    clear hb2
    go_wp2_with fail
    go_region
    go_wp2_with fail
    go_region
    go_wp2_with fail
    obtain ⟨KY, hKY⟩ : ∃ x, x = s.extract 3 (3 + s[0].toNat) := ⟨_, rfl⟩
    obtain ⟨VL, hVL⟩ : ∃ x, x = s.extract (3 + s[0].toNat) (3 + s[0].toNat + s[1].toNat + 256 * s[2].toNat) := ⟨_, rfl⟩
    have hk1 : KY.size ≤ 480 := by rw [hKY, ByteArray.size_extract]; omega
    have hv1 : VL.size ≤ 480 := by rw [hVL, ByteArray.size_extract]; omega
    have hHR : headRow s s[0].toNat (s[1].toNat + 256 * s[2].toNat) = ⟨KY, VL, false⟩ := by unfold headRow; rw [hKY, hVL, ← Nat.add_assoc]
    rw [← hKY, ← hVL]
    clear hKY hVL
    obtain ⟨W1, hW1⟩ : ∃ W1, W1 = (w2.alloc (.cells #[.string KY, .string VL, .bool false] 91)).drew.drew := ⟨_, rfl⟩
    have B1 : Hid (Below w2.heap.size w2 W1) := Lib.hid (by rw [hW1]; exact (below_alloc w2 _).drew.drew)
    have CE : Hid (∀ W, Below W1.heap.size W1 W → W.cell? ⟨w2.heap.size, 0, none⟩ = some (.string KY) ∧ W.cell? ⟨w2.heap.size, 1, none⟩ = some (.string VL) ∧ W.cell? ⟨w2.heap.size, 2, none⟩ = some (.bool false)) := Lib.hid fun W hb => ⟨cell_on' hb (by rw [hW1]; simp), cell_on' hb (by rw [hW1]; simp), cell_on' hb (by rw [hW1]; simp)⟩
    rw [← hW1]
    have CC := Lib.hid (row_Check KY VL false W1 (by unfold maxLen; omega) (by unfold maxLen; omega))
    have HHR := Lib.hid hHR
    clear hW1 hHR
    refine CC.out.mono ?_
    rintro e w3 ⟨rfl, hb3⟩
    have HB3 := Lib.hid (two HB2.out (two B1.out hb3))
    have HCA3 := Lib.hid (HCA2.out.below (two B1.out hb3))
    obtain ⟨q0, q1, q2⟩ := CE.out _ hb3
    clear hb3
    by_cases hcf : changeFault ⟨KY, VL, false⟩ = 0
    rotate_left
    · have he : errV (changeFault ⟨KY, VL, false⟩) = .iface 100 (.int .i64 (changeFault ⟨KY, VL, false⟩)) := errV_pos hcf
      have hr : R = none := by rw [← HP.out, HPS.out, if_neg hs, HHR.out, if_pos hcf]
      have HRS := Lib.hid hr
      clear hr hcf
      go_wp2_with fail
      refine bodyPost_ret (v := .tuple #[.slice none 0 0, .bool false]) (by simp [results, Tryz.results83, go_sem]) rfl ?_
      exact ⟨Or.inl ⟨HRS.out, rfl⟩, HB3.out⟩
    have he : errV (changeFault ⟨KY, VL, false⟩) = .nilIface := by rw [hcf]; rfl
    obtain ⟨NX, hNX⟩ : ∃ x, x = s.extract (3 + s[0].toNat + s[1].toNat + 256 * s[2].toNat) s.size := ⟨_, rfl⟩
    have hnx1 : NX.size = s.size - (3 + s[0].toNat + s[1].toNat + 256 * s[2].toNat) := by rw [hNX, ByteArray.size_extract]; omega
    have hpn : parseL f NX.data.toList (appX acc ⟨KY, VL, false⟩) = R := by rw [← HP.out, HPS.out, if_neg hs, HHR.out, if_neg (by simp [hcf]), hNX]
    have HPN := Lib.hid hpn
    have HNX := Lib.hid hNX
    clear hpn hcf hNX
    obtain ⟨W4, hW4⟩ : ∃ W4, W4 = w3.alloc (.cells #[.string KY, .string VL, .bool false] 91) := ⟨_, rfl⟩
    have hone : Changes W4 (.slice (some ⟨w3.heap.size, 0, none⟩) 1 1) [⟨KY, VL, false⟩] := one_changeZ (b := w3.heap.size) ⟨KY, VL, false⟩ (by rw [hW4]; simp) (by rw [hW4]; simp) (by rw [hW4]; simp)
    have HB4 : Hid (Below w.heap.size w W4) := Lib.hid (by rw [hW4]; exact two HB3.out (below_alloc _ _))
    have CA := Lib.hid (row_ApplyO _ _ acc [⟨KY, VL, false⟩] W4 (by rw [hW4]; exact (HCA3.out.below (below_alloc _ _)).rd) hone HRI.out (by omega) (by simp))
    have HW4 := Lib.hid hW4
    clear hone hW4
    go_wp2_with fail
    rw [show w3.alloc (.cells #[.string KY, .string VL, .bool false] 91) = W4 from HW4.out.symm]
    refine CA.out.mono ?_
    rintro e w5 ⟨v5, rfl, hch5, hb5⟩
    have HCH5 : Hid (ChangesF (fun x => x < w.heap.size) w5 v5 (appX acc ⟨KY, VL, false⟩)) := Lib.hid (changesF_own (l := appX acc ⟨KY, VL, false⟩) hch5 HB4.out.size)
    have HB5 := Lib.hid (two HB4.out hb5)
    clear hch5 hb5
    have hln2 := app_len acc ⟨KY, VL, false⟩
    have HRI2 := Lib.hid (app_rises (⟨KY, VL, false⟩ : Change) HRI.out)
    go_wp2_with fail
    rw [← HNX.out]
    go_roundw
    case rel => exact ⟨NX, f, appX acc ⟨KY, VL, false⟩, rfl, HCH5.out, HRI2.out, by omega, by omega, HPN.out, HB5.out⟩
    case measure => simp; omega
end Go.Proofs.YtggpodlecljcbadGreatDoor
namespace Go.Proofs.YtggpodlecljcbadGreatDoor
set_option linter.unusedSimpArgs false
set_option linter.unusedVariables false
open Go.RowKit Go.Sort
theorem thenD_z (E : DiskS) (f : DiskS → DiskS × Nat) : thenD (E, 0) f = f E := rfl
theorem thenD_b (E : DiskS) (n : Nat) (f : DiskS → DiskS × Nat) (h : n ≠ 0) : thenD (E, n) f = (E, n) := thenD_bad (p := (E, n)) h
/-- a disk that was turned since w: it lies at L'. -/
structure TurnedTo (w : World) (L : Dk) (L' : Dk) (D' : DiskS) (w' : World) : Prop where
  eq : L'.b = L.b
  d : DiskAt w' L' D'
  off : Off L.foot w w'
  grow : ∀ k, L'.foot k → L.foot k ∨ w.heap.size ≤ k
theorem TurnedTo.turned {w w' : World} {L L' : Dk} {D' : DiskS} (h : TurnedTo w L L' D' w') : Turned 68 72 w L D' w' := ⟨L', h.eq, h.d, h.off, h.grow⟩
theorem TurnedTo.next {w w1 w2 : World} {L L1 : Dk} {D1 D2 : DiskS} (h : TurnedTo w L L1 D1 w1) (ht : Turned 68 72 w1 L1 D2 w2) : ∃ L2, TurnedTo w L L2 D2 w2 := by
  obtain ⟨L2, e, d, o, g⟩ := Turned.trans h.eq h.off h.grow ht
  exact ⟨L2, e, d, o, g⟩
theorem TurnedTo.refl {w : World} {L : Dk} {D : DiskS} (h : DiskAt w L D) : TurnedTo w L L D w := ⟨rfl, h, Off.refl _ _, fun _ h => Or.inl h⟩
theorem TurnedTo.of {w w' : World} {L : Dk} {D' : DiskS} (ht : Turned 68 72 w L D' w') : ∃ L', TurnedTo w L L' D' w' := by
  obtain ⟨L2, e, d, o, g⟩ := ht
  exact ⟨L2, e, d, o, g⟩
theorem TurnedTo.below {w w1 w2 : World} {L L1 : Dk} {D1 : DiskS} (h : TurnedTo w L L1 D1 w1) (hb : Below w1.heap.size w1 w2) : TurnedTo w L L1 D1 w2 :=
  ⟨h.eq, h.d.below hb, h.off.trans (off_below hb L.foot) (fun _ _ h => h), h.grow⟩
set_option maxRecDepth 100000 in
set_option maxHeartbeats 8000000 in
theorem store_Format (L : Dk) (D : DiskS) (w : World) (h : DiskAt w L D) (hok : D.ok) (hwl : D.wait.length ≤ 900000) :
    Calls Tryz.prog 54 #[.pointer (some ⟨L.b, 0, none⟩)] w fun e w' => e = .returned (errV (formatD D).2) ∧ Turned 68 72 w L (formatD D).1 w' := by
  have hn60 := hok.few
  have CS := Lib.hid (disk_Sectors L D w h)
  have HD := Lib.hid h
  have HOK := Lib.hid hok
  obtain ⟨b, hb⟩ : ∃ b, b = L.b := ⟨_, rfl⟩
  by_cases h42 : D.now.length < 42
  · have hR : formatD D = (D, 7) := by unfold formatD; rw [if_pos h42]
    have h42' : (D.now.length : Int) < 42 := by omega
    rw [hR]
    rw [← hb] at CS ⊢
    have HB := Lib.hid hb
    clear h hok hb hR
    go_enter Tryz.func54, Tryz.ntmps54
    go_wp2_with fail
    refine CS.out.mono ?_
    rintro e w1 ⟨rfl, rfl⟩
    go_wp2_with fail
    go_ret
    exact ⟨rfl, (TurnedTo.refl HD.out).turned⟩
  have h42' : ¬ (D.now.length : Int) < 42 := by omega
  obtain ⟨T1, hT1⟩ : ∃ T, T = thenD (writeD D ((0 : Nat) : Int) ⟨#[]⟩) (blanksD 26 (D.now.length - 26)) := ⟨_, rfl⟩
  have hR : formatD D = thenD (thenD (thenD T1 flushD) (fun E => writeD E ((1 : Nat) : Int) (headText ⟨1, 0, 0, 1⟩))) flushD := by rw [hT1]; unfold formatD; rw [if_neg h42]
  have CW := disk_Write L D ((0 : Nat) : Int) ⟨#[]⟩ w h hok (by omega)
  have hw1 := hok.write ((0 : Nat) : Int) ⟨#[]⟩
  have hw2 := write_now D ((0 : Nat) : Int) ⟨#[]⟩
  have hw3 := write_wait D ((0 : Nat) : Int) ⟨#[]⟩
  obtain ⟨⟨E0, f0⟩, hp⟩ : ∃ p, p = writeD D ((0 : Nat) : Int) ⟨#[]⟩ := ⟨_, rfl⟩
  rw [← hp] at CW hw1 hw2 hw3 hT1
  have CW0 := Lib.hid CW
  have HE0 : Hid (E0.ok ∧ E0.now.length = D.now.length ∧ E0.wait.length ≤ 900001) := Lib.hid ⟨hw1, hw2, by show E0.wait.length ≤ _; have h5 : E0.wait.length ≤ D.wait.length + 1 := hw3; omega⟩
  have HT1 := Lib.hid hT1
  rw [hR]
  obtain ⟨FR, hFR⟩ : ∃ x, x = thenD (thenD (thenD T1 flushD) (fun E => writeD E ((1 : Nat) : Int) (headText ⟨1, 0, 0, 1⟩))) flushD := ⟨_, rfl⟩
  rw [← hFR]
  have HFR := Lib.hid hFR
  clear hFR
  rw [← hb] at CS CW0 ⊢
  have HB := Lib.hid hb
  clear h hok hb hR CW hw1 hw2 hw3 hp hT1
  go_enter Tryz.func54, Tryz.ntmps54
  go_wp2_with fail
  refine CS.out.mono ?_
  rintro e w1 ⟨rfl, rfl⟩
  go_wp2_with fail
  refine CW0.out.mono ?_
  rintro e w2 ⟨rfl, ht⟩
  have HT := Lib.hid ht
  clear ht
  go_wp2_with fail
  go_loopw [3, 4] (fun ev iv wr => ∃ (i : Nat) (E : DiskS) (f : Nat) (L' : Dk), 26 ≤ i ∧ i ≤ D.now.length ∧ iv = .int .i64 i ∧ ev = errV f ∧ thenD (E, f) (blanksD i (D.now.length - i)) = T1 ∧ TurnedTo w1 L L' E wr ∧ E.ok ∧ E.now.length = D.now.length ∧ E.wait.length ≤ 900001 + i) (fun _ iv _ => D.now.length - (intOf iv).toNat)
  case atStart =>
    obtain ⟨L', hL'⟩ := TurnedTo.of HT.out
    exact ⟨26, E0, f0, L', Nat.le_refl _, by omega, rfl, rfl, HT1.out.symm, hL', HE0.out.1, HE0.out.2.1, by have := HE0.out.2.2; omega⟩
  case round =>
    obtain ⟨i, E, f, L', hi26, hil, rfl, rfl, hth, htt, hEok, hEl, hEw⟩ := hrel
    have HTH := Lib.hid hth
    have HTT := Lib.hid htt
    have HEK : Hid (E.ok ∧ E.now.length = D.now.length ∧ E.wait.length ≤ 900001 + i) := Lib.hid ⟨hEok, hEl, hEw⟩
    have CS2 := disk_Sectors L' E wr htt.d
    rw [htt.eq, ← HB.out, hEl] at CS2
    have HCS2 := Lib.hid CS2
    clear hth htt hEok hEl hEw CS2
    by_cases hf : f = 0
    rotate_left
    · have hT : T1 = (E, f) := by rw [← HTH.out, thenD_b _ _ _ hf]
      have hA : FR = (E, f) := by rw [HFR.out, hT, thenD_b _ _ _ hf, thenD_b _ _ _ hf, thenD_b _ _ _ hf]
      clear HFR hT
      subst hA
      rw [errV_pos hf]
      by_cases hlt : i < D.now.length
      · go_wp2_with fail
        refine HCS2.out.mono ?_
        rintro e w3 ⟨rfl, rfl⟩
        go_wp2_with fail
        go_ret
        exact ⟨(congrArg Ending.returned (errV_pos hf)).symm, HTT.out.turned⟩
      · go_wp2_with fail
        refine HCS2.out.mono ?_
        rintro e w3 ⟨rfl, rfl⟩
        go_wp2_with fail
        go_ret
        exact ⟨(congrArg Ending.returned (errV_pos hf)).symm, HTT.out.turned⟩
    subst hf
    rw [errV_zero]
    by_cases hlt : i < D.now.length
    · have hb2 : blanksD i (D.now.length - i) E = thenD (writeD E (i : Int) ⟨#[]⟩) (blanksD (i + 1) (D.now.length - (i + 1))) := by
        rw [show D.now.length - i = (D.now.length - (i + 1)) + 1 by omega]; rfl
      have CW := disk_Write L' E (i : Int) ⟨#[]⟩ wr HTT.out.d HEK.out.1 (by have := HEK.out.2.2; omega)
      have hw1 := HEK.out.1.write (i : Int) ⟨#[]⟩
      have hw2 := write_now E (i : Int) ⟨#[]⟩
      have hw3 := write_wait E (i : Int) ⟨#[]⟩
      have hth2 := HTH.out
      rw [thenD_z, hb2] at hth2
      obtain ⟨⟨E2, f2⟩, hp⟩ : ∃ p, p = writeD E (i : Int) ⟨#[]⟩ := ⟨_, rfl⟩
      rw [← hp] at CW hw1 hw2 hw3 hth2
      rw [HTT.out.eq, ← HB.out] at CW
      have HCW := Lib.hid CW
      have HTH2 := Lib.hid hth2
      have HEK2 : Hid (E2.ok ∧ E2.now.length = D.now.length ∧ E2.wait.length ≤ 900001 + (i + 1)) := Lib.hid ⟨hw1, hw2.trans HEK.out.2.1, by have h5 : E2.wait.length ≤ E.wait.length + 1 := hw3; have := HEK.out.2.2; omega⟩
      clear CW hw1 hw2 hw3 hth2 hp hb2
      go_wp2_with fail
      refine HCS2.out.mono ?_
      rintro e w3 ⟨rfl, rfl⟩
      go_wp2_with fail
      refine HCW.out.mono ?_
      rintro e w4 ⟨rfl, ht4⟩
      obtain ⟨L4, hL4⟩ := HTT.out.next ht4
      have HL4 := Lib.hid hL4
      clear ht4 hL4
      go_wp2_with fail
      go_roundw
      case rel => exact ⟨i + 1, E2, f2, L4, by omega, by omega, by go_num, rfl, HTH2.out, HL4.out, HEK2.out.1, HEK2.out.2.1, HEK2.out.2.2⟩
      case measure => simp [intOf]; omega
    obtain rfl : i = D.now.length := by omega
    have hT : T1 = (E, 0) := by rw [← HTH.out, thenD_z, Nat.sub_self]; rfl
    have hS0 : FR = thenD (thenD (flushD E) (fun E => writeD E ((1 : Nat) : Int) (headText ⟨1, 0, 0, 1⟩))) flushD := by rw [HFR.out, hT, thenD_z]
    have CF := disk_Flush L' E wr HTT.out.d HEK.out.1
    have hw1 := HEK.out.1.flush
    have hw2 := flush_now E
    have hw3 := flush_wait E
    obtain ⟨⟨E2, f2⟩, hp⟩ : ∃ p, p = flushD E := ⟨_, rfl⟩
    rw [← hp] at CF hw1 hw2 hw3 hS0
    have HS0 := Lib.hid hS0
    rw [HTT.out.eq, ← HB.out] at CF
    have HCF := Lib.hid CF
    have HEK2 : Hid (E2.ok ∧ E2.wait.length ≤ 900100) := Lib.hid ⟨hw1, by have h5 : E2.wait.length ≤ E.wait.length := hw3; have := HEK.out.2.2; omega⟩
    clear CF hw1 hw2 hw3 hp hS0 hT
    go_wp2_with fail
    refine HCS2.out.mono ?_
    rintro e w3 ⟨rfl, rfl⟩
    go_wp2_with fail
    refine HCF.out.mono ?_
    rintro e w4 ⟨rfl, ht4⟩
    obtain ⟨L4, hL4⟩ := HTT.out.next ht4
    have HL4 := Lib.hid hL4
    clear ht4 hL4
    by_cases hf2 : f2 = 0
    rotate_left
    · have hA : FR = (E2, f2) := by rw [HS0.out, thenD_b _ _ _ hf2, thenD_b _ _ _ hf2]
      clear HFR HS0
      subst hA
      rw [errV_pos hf2]
      go_wp2_with fail
      go_ret
      exact ⟨(congrArg Ending.returned (errV_pos hf2)).symm, HL4.out.turned⟩
    subst hf2
    have hS1 := HS0.out
    rw [thenD_z] at hS1
    rw [errV_zero]
    have CT := store_text ⟨1, 0, 0, 1⟩ w4 (by decide) (by decide) (by decide) (by decide)
    obtain ⟨tx, htx⟩ : ∃ x, x = headText ⟨1, 0, 0, 1⟩ := ⟨_, rfl⟩
    rw [← htx] at CT hS1
    have HS1 := Lib.hid hS1
    have HCT : Hid (Calls Tryz.prog 89 #[.agg #[.int .i64 1, .int .i64 0, .int .i64 0, .int .i64 1]] w4 fun e w' => e = .returned (.string tx) ∧ Below w4.heap.size w4 w') := Lib.hid CT
    clear CT htx hS1
    go_wp2_with fail
    refine HCT.out.mono ?_
    rintro e w5 ⟨rfl, hb5⟩
    have HL5 := Lib.hid (HL4.out.below hb5)
    clear hb5
    have CW := disk_Write L4 E2 ((1 : Nat) : Int) tx w5 HL5.out.d HEK2.out.1 (by have := HEK2.out.2; omega)
    have hw1 := HEK2.out.1.write ((1 : Nat) : Int) tx
    obtain ⟨⟨E3, f3⟩, hp⟩ : ∃ p, p = writeD E2 ((1 : Nat) : Int) tx := ⟨_, rfl⟩
    have hS2 := HS1.out
    rw [← hp] at CW hw1 hS2
    have HS2 := Lib.hid hS2
    clear hS2
    rw [HL5.out.eq, ← HB.out] at CW
    have HCW : Hid (Calls Tryz.prog 37 #[.pointer (some ⟨b, 0, none⟩), .int .i64 1, .string tx] w5 _) := Lib.hid CW
    have HE3 : Hid E3.ok := Lib.hid hw1
    clear CW hw1 hp
    go_wp2_with fail
    refine HCW.out.mono ?_
    rintro e w6 ⟨rfl, ht6⟩
    obtain ⟨L6, hL6⟩ := HL5.out.next ht6
    have HL6 := Lib.hid hL6
    clear ht6 hL6
    by_cases hf3 : f3 = 0
    rotate_left
    · have hA : FR = (E3, f3) := by rw [HS2.out, thenD_b _ _ _ hf3]
      clear HFR HS0 HS1 HS2
      subst hA
      rw [errV_pos hf3]
      go_wp2_with fail
      go_ret
      exact ⟨(congrArg Ending.returned (errV_pos hf3)).symm, HL6.out.turned⟩
    subst hf3
    have hS3 := HS2.out
    rw [thenD_z] at hS3
    rw [errV_zero]
    have CF := disk_Flush L6 E3 w6 HL6.out.d HE3.out
    obtain ⟨⟨E4, f4⟩, hp⟩ : ∃ p, p = flushD E3 := ⟨_, rfl⟩
    rw [← hp] at CF hS3
    clear HFR HS0 HS1 HS2
    subst hS3
    rw [HL6.out.eq, ← HB.out] at CF
    have HCF2 := Lib.hid CF
    clear CF hp
    go_wp2_with fail
    refine HCF2.out.mono ?_
    rintro e w7 ⟨rfl, ht7⟩
    obtain ⟨L7, hL7⟩ := HL6.out.next ht7
    have HL7 := Lib.hid hL7
    clear ht7 hL7
    go_wp2_with fail
    go_ret
    exact ⟨rfl, HL7.out.turned⟩
end Go.Proofs.YtggpodlecljcbadGreatDoor
