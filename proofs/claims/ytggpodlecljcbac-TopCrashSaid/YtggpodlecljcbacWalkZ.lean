/- The walks of package store's small functions: four, unfour, headOf, head.text. -/
import Derived.Test.YtggpodlecljcbacSpecZ
import Derived.Test.YtggpodlecljcbacWalkY6
import Derived.Deep.CutRange
namespace Go.Proofs.Ytggpodlecljcbac
set_option linter.unusedSimpArgs false
set_option linter.unusedVariables false
open Go.RowKit Go.Sort
set_option maxRecDepth 100000 in
set_option maxHeartbeats 2000000 in
theorem store_four (n : Nat) (w : World) (hn : n ≤ 4000000000) :
    Calls Try.prog 75 #[.int .i64 n] w fun e w' => e = .returned (.string (fourB n)) ∧ Below w.heap.size w w' := by
  have hcv := conv_four n ((n : Int) % 256) ((n : Int) / 256 % 256) ((n : Int) / 65536 % 256) ((n : Int) / 16777216) (by omega) (by omega) (by omega) (by omega) w
  have hb := below_alloc w (.cells #[.int .u8 ((n : Int) % 256), .int .u8 ((n : Int) / 256 % 256), .int .u8 ((n : Int) / 65536 % 256), .int .u8 ((n : Int) / 16777216)] 5)
  go_enter Try.func75, Try.ntmps75
  go_wp2_with fail
  go_ret
  exact ⟨rfl, hb⟩
theorem wrap_i64 (n : Nat) (h : n < 9223372036854775808) : IntKind.i64.wrap (n : Int) = n := by
  have h2 : (n : Int) % 2 ^ 64 = n := by omega
  simp only [IntKind.wrap, IntKind.signed, IntKind.bits, h2]
  rw [if_neg (by simp; omega)]
theorem bits_or_i64 (a b : Nat) (ha : a < 4294967296) (hb : b < 4294967296) : bits .or .i64 (a : Int) (b : Int) = ((a ||| b : Nat) : Int) := by
  have hx : a ||| b < 2 ^ 32 := Nat.or_lt_two_pow (by omega) (by omega)
  have h1 : (BitVec.ofInt 64 (a : Int)).toNat = a := by
    rw [BitVec.ofInt_natCast, BitVec.toNat_ofNat]; exact Nat.mod_eq_of_lt (by omega)
  have h2 : (BitVec.ofInt 64 (b : Int)).toNat = b := by
    rw [BitVec.ofInt_natCast, BitVec.toNat_ofNat]; exact Nat.mod_eq_of_lt (by omega)
  show IntKind.i64.wrap ((BitVec.ofInt 64 (a : Int) ||| BitVec.ofInt 64 (b : Int)).toNat : Int) = _
  rw [BitVec.toNat_or, h1, h2]
  exact wrap_i64 _ (by omega)
theorem or_step (a b k : Nat) (ha : a < 2 ^ k) : a ||| b * 2 ^ k = a + b * 2 ^ k := by
  have := Nat.two_pow_add_eq_or_of_lt ha b
  rw [Nat.or_comm, Nat.mul_comm b, ← this, Nat.add_comm]
theorem or_four (a b c d : UInt8) : bits .or .i64 (a.toNat : Int) ((b.toNat : Int) * 256) = (a.toNat : Int) + 256 * (b.toNat : Int) ∧ bits .or .i64 ((a.toNat : Int) + 256 * (b.toNat : Int)) ((c.toNat : Int) * 65536) = (a.toNat : Int) + 256 * (b.toNat : Int) + 65536 * (c.toNat : Int)
    ∧ bits .or .i64 ((a.toNat : Int) + 256 * (b.toNat : Int) + 65536 * (c.toNat : Int)) ((d.toNat : Int) * 16777216) = (u4 a b c d : Int) := by
  have ha := a.toNat_lt
  have hb := b.toNat_lt
  have hc := c.toNat_lt
  have hd := d.toNat_lt
  refine ⟨?_, ?_, ?_⟩
  · have e := or_step a.toNat b.toNat 8 (by omega)
    rw [show ((b.toNat : Int) * 256) = ((b.toNat * 2 ^ 8 : Nat) : Int) by omega, bits_or_i64 _ _ (by omega) (by omega), e]
    omega
  · have e := or_step (a.toNat + 256 * b.toNat) c.toNat 16 (by omega)
    rw [show ((c.toNat : Int) * 65536) = ((c.toNat * 2 ^ 16 : Nat) : Int) by omega, show (a.toNat : Int) + 256 * (b.toNat : Int) = ((a.toNat + 256 * b.toNat : Nat) : Int) by omega, bits_or_i64 _ _ (by omega) (by omega), e]
    omega
  · have e := or_step (a.toNat + 256 * b.toNat + 65536 * c.toNat) d.toNat 24 (by omega)
    rw [show ((d.toNat : Int) * 16777216) = ((d.toNat * 2 ^ 24 : Nat) : Int) by omega, show (a.toNat : Int) + 256 * (b.toNat : Int) + 65536 * (c.toNat : Int) = ((a.toNat + 256 * b.toNat + 65536 * c.toNat : Nat) : Int) by omega, bits_or_i64 _ _ (by omega) (by omega), e]
    unfold u4
    omega
set_option maxRecDepth 100000 in
set_option maxHeartbeats 2000000 in
theorem store_unfour (s : ByteArray) (hs : s.size = 4) (w : World) :
    Calls Try.prog 88 #[.string s] w fun e w' => e = .returned (.int .i64 (u4 (s[0]'(by omega)) (s[1]'(by omega)) (s[2]'(by omega)) (s[3]'(by omega)))) ∧ w' = w.drew := by
  obtain ⟨o1, o2, o3⟩ := or_four (s[0]'(by omega)) (s[1]'(by omega)) (s[2]'(by omega)) (s[3]'(by omega))
  obtain ⟨U, hU⟩ : ∃ U, U = u4 (s[0]'(by omega)) (s[1]'(by omega)) (s[2]'(by omega)) (s[3]'(by omega)) := ⟨_, rfl⟩
  have a1 : (s[0]'(by omega)).toNat ≤ 255 := by have := (s[0]'(by omega)).toNat_lt; omega
  have b1 : (s[1]'(by omega)).toNat ≤ 255 := by have := (s[1]'(by omega)).toNat_lt; omega
  have c1 : (s[2]'(by omega)).toNat ≤ 255 := by have := (s[2]'(by omega)).toNat_lt; omega
  have d1 : (s[3]'(by omega)).toNat ≤ 255 := by have := (s[3]'(by omega)).toNat_lt; omega
  rw [← hU] at o3 ⊢
  clear hU
  go_enter Try.func88, Try.ntmps88
  go_wp2_with fail
  go_region
  go_wp2_with fail
  go_ret
  exact ⟨rfl, rfl⟩
theorem extract_at (s : ByteArray) (i j k : Nat) (h : i + k < s.size) (h2 : i + k < j) (h3 : k < (s.extract i j).size) : (s.extract i j)[k] = s[i + k] := by
  rw [get_data, get_data s]
  simp only [extract_data]
  rw [List.getElem_drop, List.getElem_take]
def unfB (t : ByteArray) : Nat := if h : t.size = 4 then u4 (t[0]'(by omega)) (t[1]'(by omega)) (t[2]'(by omega)) (t[3]'(by omega)) else 0
theorem store_unf (t : ByteArray) (h : t.size = 4) (w : World) : Calls Try.prog 88 #[.string t] w fun e w' => e = .returned (.int .i64 (unfB t)) ∧ w' = w.drew := by
  have := store_unfour t h w
  unfold unfB
  rw [dif_pos h]
  exact this
theorem unf_at (s : ByteArray) (i j : Nat) (hj : j = i + 4) (hs : i + 4 ≤ s.size) : unfB (s.extract i j) = u4 (s[i]'(by omega)) (s[i + 1]'(by omega)) (s[i + 2]'(by omega)) (s[i + 3]'(by omega)) := by
  subst hj
  have hz : (s.extract i (i + 4)).size = 4 := by rw [ByteArray.size_extract]; omega
  unfold unfB
  rw [dif_pos hz, extract_at s i (i + 4) 0 (by omega) (by omega) (by omega), extract_at s i (i + 4) 1 (by omega) (by omega) (by omega), extract_at s i (i + 4) 2 (by omega) (by omega) (by omega), extract_at s i (i + 4) 3 (by omega) (by omega) (by omega)]
  rfl
theorem unf_lt (t : ByteArray) : unfB t < 4294967296 := by
  unfold unfB
  split
  · exact u4_lt _ _ _ _
  · decide
theorem head_at (s : ByteArray) (hs : s.size = 40) : headOf s.data.toList = headIs (s[0]'(by omega)) ⟨u4 (s[1]'(by omega)) (s[2]'(by omega)) (s[3]'(by omega)) (s[4]'(by omega)), u4 (s[5]'(by omega)) (s[6]'(by omega)) (s[7]'(by omega)) (s[8]'(by omega)), u4 (s[9]'(by omega)) (s[10]'(by omega)) (s[11]'(by omega)) (s[12]'(by omega)), u4 (s[13]'(by omega)) (s[14]'(by omega)) (s[15]'(by omega)) (s[16]'(by omega))⟩ := by
  have hl := data_len s
  rw [hs] at hl
  have hx : ∀ (l : List UInt8) (h : l.length = 40), headOf l = headIs (l[0]'(by omega)) ⟨u4 (l[1]'(by omega)) (l[2]'(by omega)) (l[3]'(by omega)) (l[4]'(by omega)), u4 (l[5]'(by omega)) (l[6]'(by omega)) (l[7]'(by omega)) (l[8]'(by omega)), u4 (l[9]'(by omega)) (l[10]'(by omega)) (l[11]'(by omega)) (l[12]'(by omega)), u4 (l[13]'(by omega)) (l[14]'(by omega)) (l[15]'(by omega)) (l[16]'(by omega))⟩ := fun l h => by
    match l, h with
    | x :: a0 :: a1 :: a2 :: a3 :: b0 :: b1 :: b2 :: b3 :: c0 :: c1 :: c2 :: c3 :: d0 :: d1 :: d2 :: d3 :: r, _ => rfl
  rw [hx _ hl]
  simp only [get_data]
def Hd.val (h : Hd) : Value := .agg #[.int .i64 h.epoch, .int .i64 h.side, .int .i64 h.size, .int .i64 h.first]
set_option maxRecDepth 100000 in
set_option maxHeartbeats 40000000 in
theorem store_headOf (s : ByteArray) (hs : s.size = 40) (w : World) :
    Calls Try.prog 55 #[.string s] w fun e w' => e = .returned (headOf s.data.toList).val ∧ Below w.heap.size w w' := by
  have hh := head_at s hs
  rw [← unf_at s 1 5 rfl (by omega), ← unf_at s 5 9 rfl (by omega), ← unf_at s 9 13 rfl (by omega), ← unf_at s 13 17 rfl (by omega)] at hh
  have U := Lib.hid store_unf
  have z1 : (s.extract 1 5).size = 4 := by rw [ByteArray.size_extract]; omega
  have z2 : (s.extract 5 9).size = 4 := by rw [ByteArray.size_extract]; omega
  have z3 : (s.extract 9 13).size = 4 := by rw [ByteArray.size_extract]; omega
  have z4 : (s.extract 13 17).size = 4 := by rw [ByteArray.size_extract]; omega
  have a1 := unf_lt (s.extract 1 5)
  have b1 := unf_lt (s.extract 5 9)
  have c1 := unf_lt (s.extract 9 13)
  have d1 := unf_lt (s.extract 13 17)
  obtain ⟨x, hx⟩ : ∃ x, x = s[0]'(by omega) := ⟨_, rfl⟩
  rw [← hx] at hh
  rw [hh]
  obtain ⟨R, hR⟩ : ∃ R, R = headIs x ⟨unfB (s.extract 1 5), unfB (s.extract 5 9), unfB (s.extract 9 13), unfB (s.extract 13 17)⟩ := ⟨_, rfl⟩
  rw [← hR]
  have HR := Lib.hid hR
  have HX := Lib.hid hx
  have hx1 : (s[0]'(by omega)).toNat ≤ 255 := by have := (s[0]'(by omega)).toNat_lt; omega
  clear hh hR hx
  go_enter Try.func55, Try.ntmps55
  go_upto_region 1 with fail
  go_cut [3] from 4 (fun s3 wx => s3 = .pointer (some ⟨w.heap.size + 1, 0, none⟩) ∧ wx = ((w.alloc (.cells #[.int .i64 0, .int .i64 0, .int .i64 0, .int .i64 0] 85)).alloc (.cells #[.int .i64 (unfB (s.extract 1 5)), .int .i64 (unfB (s.extract 5 9)), .int .i64 (unfB (s.extract 9 13)), .int .i64 (unfB (s.extract 13 17))] 85)).drew.drew.drew.drew.drew)
  case first =>
    go_region_law (first
      | (go_simp; go_at_call 88; refine (U.out _ (by assumption) _).mono ?_; rintro e wA ⟨rfl, rfl⟩))
    all_goals (go_wp2_with fail; go_meet; exact ⟨rfl, rfl⟩)
  case rest =>
  obtain ⟨rfl, rfl⟩ := hcut
  have hbb : Below w.heap.size w ((w.alloc (.cells #[.int .i64 0, .int .i64 0, .int .i64 0, .int .i64 0] 85)).alloc (.cells #[.int .i64 (unfB (s.extract 1 5)), .int .i64 (unfB (s.extract 5 9)), .int .i64 (unfB (s.extract 9 13)), .int .i64 (unfB (s.extract 13 17))] 85)).drew.drew.drew.drew.drew := (two (below_alloc _ _) (below_alloc _ _)).drew.drew.drew.drew.drew
  have HBB := Lib.hid hbb
  clear hbb
  generalize unfB (s.extract 1 5) = a at *
  generalize unfB (s.extract 5 9) = b at *
  generalize unfB (s.extract 9 13) = c at *
  generalize unfB (s.extract 13 17) = d at *
  clear z1 z2 z3 z4 U
  by_cases h1 : x.toNat = 72
  rotate_left
  · have k1 : ((s[0].toNat : Int) != 72) = true := by rw [← HX.out]; simp; omega
    have hz : R = zeroH := by rw [HR.out, headIs, if_pos (Or.inl h1)]
    subst hz
    go_wp2_with fail
    refine bodyPost_ret (v := zeroH.val) (by simp [results, Try.results55, go_sem, Hd.val, zeroH]) rfl ?_
    exact ⟨rfl, HBB.out⟩
  have k1 : ((s[0].toNat : Int) != 72) = false := by rw [← HX.out]; simp; omega
  by_cases h2 : 1 < b
  · have hz : R = zeroH := by rw [HR.out, headIs, if_pos (Or.inr (Or.inl h2))]
    have h2' : (1 : Int) < (b : Int) := by omega
    subst hz
    go_wp2_with fail
    refine bodyPost_ret (v := zeroH.val) (by simp [results, Try.results55, go_sem, Hd.val, zeroH]) rfl ?_
    exact ⟨rfl, HBB.out⟩
  by_cases h3 : 480 < c
  · have hz : R = zeroH := by rw [HR.out, headIs, if_pos (Or.inr (Or.inr (Or.inl h3)))]
    have h2' : ¬ (1 : Int) < (b : Int) := by omega
    have h3' : (480 : Int) < (c : Int) := by omega
    subst hz
    go_wp2_with fail
    refine bodyPost_ret (v := zeroH.val) (by simp [results, Try.results55, go_sem, Hd.val, zeroH]) rfl ?_
    exact ⟨rfl, HBB.out⟩
  by_cases h4 : d < 1
  · have hz : R = zeroH := by rw [HR.out, headIs, if_pos (Or.inr (Or.inr (Or.inr h4)))]
    have h2' : ¬ (1 : Int) < (b : Int) := by omega
    have h3' : ¬ (480 : Int) < (c : Int) := by omega
    have h4' : (d : Int) < 1 := by omega
    subst hz
    go_wp2_with fail
    refine bodyPost_ret (v := zeroH.val) (by simp [results, Try.results55, go_sem, Hd.val, zeroH]) rfl ?_
    exact ⟨rfl, HBB.out⟩
  have hz : R = ⟨a, b, c, d⟩ := by rw [HR.out, headIs, if_neg (by simp only [not_or, Nat.not_lt]; exact ⟨by simpa using h1, by omega, by omega, by omega⟩)]
  have h2' : ¬ (1 : Int) < (b : Int) := by omega
  have h3' : ¬ (480 : Int) < (c : Int) := by omega
  have h4' : ¬ (d : Int) < 1 := by omega
  subst hz
  go_wp2_with fail
  refine bodyPost_ret (v := (⟨a, b, c, d⟩ : Hd).val) (by simp [results, Try.results55, go_sem, Hd.val]) rfl ?_
  exact ⟨rfl, (two (below_alloc _ _) (below_alloc _ _)).drew.drew.drew.drew.drew⟩
set_option maxRecDepth 100000 in
set_option maxHeartbeats 4000000 in
theorem store_text (h : Hd) (w : World) (h1 : h.epoch ≤ 4000000000) (h2 : h.side ≤ 1) (h3 : h.size ≤ 480) (h4 : h.first ≤ 4000000000) :
    Calls Try.prog 46 #[h.val] w fun e w' => e = .returned (.string (headText h)) ∧ Below w.heap.size w w' := by
  obtain ⟨a, b, c, d⟩ := h
  simp only at h1 h2 h3 h4
  have g2 : b ≤ 4000000000 := by omega
  have g3 : c ≤ 4000000000 := by omega
  obtain ⟨fB, hfB⟩ : ∃ f, f = fourB := ⟨_, rfl⟩
  have CF : Hid (∀ (n : Nat) W, n ≤ 4000000000 → Calls Try.prog 75 #[.int .i64 (n : Int)] W fun e w' => e = .returned (.string (fB n)) ∧ Below W.heap.size W w') := Lib.hid (fun n W hn => by rw [hfB]; exact store_four n W hn)
  have z0 : ∀ n, (fB n).size = 4 := fun n => by rw [hfB]; rfl
  have HR : Hid (headText ⟨a, b, c, d⟩ = (⟨#[72]⟩ : ByteArray) ++ fB a ++ fB b ++ fB c ++ fB d) := Lib.hid (by rw [hfB]; rfl)
  rw [HR.out]
  have y0 : ((⟨#[72]⟩ : ByteArray) ++ fB a).size = 5 := by rw [ByteArray.size_append, z0]; rfl
  have y1 : ((⟨#[72]⟩ : ByteArray) ++ fB a ++ fB b).size = 9 := by rw [ByteArray.size_append, y0, z0]
  have y2 : ((⟨#[72]⟩ : ByteArray) ++ fB a ++ fB b ++ fB c).size = 13 := by rw [ByteArray.size_append, y1, z0]
  have y3 : ((⟨#[72]⟩ : ByteArray) ++ fB a ++ fB b ++ fB c ++ fB d).size = 17 := by rw [ByteArray.size_append, y2, z0]
  clear hfB
  unfold Hd.val
  go_enter Try.func46, Try.ntmps46
  go_wp2_with fail
  obtain ⟨W0, hW0⟩ : ∃ W0, W0 = w.alloc (.cells #[.int .i64 a, .int .i64 b, .int .i64 c, .int .i64 d] 85) := ⟨_, rfl⟩
  have q0 : W0.cell? ⟨w.heap.size, 0, none⟩ = some (.int .i64 a) := by rw [hW0]; simp
  have q1 : W0.cell? ⟨w.heap.size, 1, none⟩ = some (.int .i64 b) := by rw [hW0]; simp
  have q2 : W0.cell? ⟨w.heap.size, 2, none⟩ = some (.int .i64 c) := by rw [hW0]; simp
  have q3 : W0.cell? ⟨w.heap.size, 3, none⟩ = some (.int .i64 d) := by rw [hW0]; simp
  have HB0 : Hid (Below w.heap.size w W0) := Lib.hid (by rw [hW0]; exact below_alloc _ _)
  rw [← hW0]
  clear hW0
  have q0r := regrown_cell (w := W0) q0
  have q1r := regrown_cell (w := W0) q1
  have q2r := regrown_cell (w := W0) q2
  have q3r := regrown_cell (w := W0) q3
  refine wp_region_q (by kernel_rfl) (by kernel_rfl) ?_
  repeat (go_big_quiet_step (first
    | (go_at_call 75; exact Calls.regrown_of (CF.out _ _ (by assumption)))))
  refine wpQuiet_nil ?_
  intro w1 hb1
  have HB1 := Lib.hid (two HB0.out hb1)
  clear hb1
  go_wp2_with fail
  go_ret
  exact ⟨rfl, HB1.out⟩
end Go.Proofs.Ytggpodlecljcbac
