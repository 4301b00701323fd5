/- The walk of the statement TopTwo. -/
import Derived.Test.YtggpodlecljcbaaLawD
namespace Go.Proofs.Ytggpodlecljcbaa
open Go.RowKit Go.Sort

theorem and1023 (n : Int) : ∃ m : Nat, bits .and .i64 n 1023 = (m : Int) ∧ m ≤ 1023 := by
  refine ⟨(BitVec.ofInt 64 n &&& BitVec.ofInt 64 1023).toNat, ?_, ?_⟩
  · show IntKind.i64.wrap ((BitVec.ofInt 64 n &&& BitVec.ofInt 64 1023).toNat : Int) = _
    have h : (BitVec.ofInt 64 n &&& BitVec.ofInt 64 1023).toNat ≤ 1023 := by
      rw [BitVec.toNat_and]
      exact Nat.le_trans Nat.and_le_right (by decide)
    rw [IntKind.wrap_i64]
    omega
  · rw [BitVec.toNat_and]
    exact Nat.le_trans Nat.and_le_right (by decide)

def mixT (a b : Copy) (k : Nat) : Trio := match k with | 0 => ⟨b, a, a⟩ | 1 => ⟨a, b, a⟩ | _ => ⟨a, a, b⟩
def mixV (a b : CopyV) (k : Nat) : TrioV := match k with | 0 => ⟨b, a, a⟩ | 1 => ⟨a, b, a⟩ | _ => ⟨a, a, b⟩
theorem mix_is {w : World} {av bv : CopyV} {a b : Copy} (ha : IsCopy w av a) (hb : IsCopy w bv b) (k : Nat) : IsTrio w (mixV av bv k) (mixT a b k) := by
  unfold mixV mixT
  split <;> exact ⟨by assumption, by assumption, by assumption⟩
theorem same_refl (a : Copy) : sameCopy a a = true := by simp [sameCopy]
theorem same_comm (a b : Copy) : sameCopy a b = sameCopy b a := by
  unfold sameCopy
  rw [Bool.eq_iff_iff]
  simp only [Bool.and_eq_true, beq_iff_eq, Bool.or_eq_true, Bool.not_eq_true', decide_eq_true_eq]
  constructor
  · rintro ⟨h1, h2⟩; exact ⟨h1.symm, by rw [← h1]; exact h2.imp id Eq.symm⟩
  · rintro ⟨h1, h2⟩; exact ⟨h1.symm, by rw [← h1]; exact h2.imp id Eq.symm⟩
theorem same_quilt {a b : Copy} (ha : a.is = true) (h : sameCopy a b = true) : a.quilt = b.quilt := by
  simp only [sameCopy, ha, Bool.and_eq_true, beq_iff_eq, Bool.not_true, Bool.false_or, decide_eq_true_eq] at h
  exact h.2
theorem mix_voted (a b : Copy) (k : Nat) (ha : a.is = true) : votedQ (mixT a b k) = a.quilt ∧ votedE (mixT a b k) = 0 := by
  unfold mixT
  split
  · by_cases h : twin ⟨b, a, a⟩ 0 = true
    · have := voted0 _ h
      refine ⟨this.1.trans ?_, this.2⟩
      simp only [twin, Trio.at, Bool.and_eq_true, Bool.or_self] at h
      exact same_quilt h.1 h.2
    · exact voted1 _ (by simpa using h) (by simp [twin, Trio.at, ha, same_refl])
  · exact voted0 _ (by simp [twin, Trio.at, ha, same_refl])
  · exact voted0 _ (by simp [twin, Trio.at, ha, same_refl])
theorem copy_eta {a : Copy} (ha : a.is = true) : (⟨true, a.quilt⟩ : Copy) = a := by obtain ⟨i, q⟩ := a; simp only at ha; subst ha; rfl
theorem mix_wrong (a b : Copy) (k : Nat) (hk : k < 3) (ha : a.is = true) : wrongs (mixT a b k) a.quilt = if sameCopy a b then [] else [(k : Int)] := by
  have h1 : wrongAt (mixT a b k) a.quilt = fun i => if i = k then !sameCopy b a else (if i < 3 then false else wrongAt (mixT a b k) a.quilt i) := by
    funext i
    unfold wrongAt
    rw [copy_eta ha]
    match k, hk, i with
    | 0, _, 0 => rfl
    | 0, _, 1 => simp [mixT, Trio.at, same_refl]
    | 0, _, 2 => simp [mixT, Trio.at, same_refl]
    | 1, _, 0 => simp [mixT, Trio.at, same_refl]
    | 1, _, 1 => rfl
    | 1, _, 2 => simp [mixT, Trio.at, same_refl]
    | 2, _, 0 => simp [mixT, Trio.at, same_refl]
    | 2, _, 1 => simp [mixT, Trio.at, same_refl]
    | 2, _, 2 => rfl
    | 0, _, n + 3 => simp
    | 1, _, n + 3 => simp
    | 2, _, n + 3 => simp
  unfold wrongs wrongTo
  rw [show List.range 3 = [0, 1, 2] from rfl, h1, same_comm a b]
  cases sameCopy b a <;> match k, hk with
    | 0, _ => simp
    | 1, _ => simp
    | 2, _ => simp

def RetTrio (av bv : CopyV) (k : Nat) (w : World) (e : Ending) (w' : World) : Prop := e = .returned (mixV av bv k).val ∧ Below w.heap.size w w'
set_option maxRecDepth 100000 in
set_option maxHeartbeats 1000000 in
theorem top_mixed (av bv : CopyV) (k : Nat) (w : World) (hk : k < 3) (hva : ∃ o n c, av.v = .slice o n c) (hvb : ∃ o n c, bv.v = .slice o n c) :
    Calls Try.prog 94 #[av.val, bv.val, .int .i64 k] w (RetTrio av bv k w) := by
  obtain ⟨a0, a1, a2⟩ := av
  obtain ⟨b0, b1, b2⟩ := bv
  obtain ⟨a3, a4, a5, e⟩ := hva
  dsimp only at e
  subst e
  obtain ⟨b3, b4, b5, e⟩ := hvb
  dsimp only at e
  subst e
  unfold CopyV.val
  obtain rfl | rfl | rfl : k = 0 ∨ k = 1 ∨ k = 2 := by omega
  · go_enter Try.func94, Try.ntmps94
    go_wp2_with fail
    exact bodyPost_ret (v := .agg #[.bool b0, .slice b3 b4 b5, .int .i64 b2, .bool a0, .slice a3 a4 a5, .int .i64 a2, .bool a0, .slice a3 a4 a5, .int .i64 a2]) (by simp [results, Try.results94, go_sem]) rfl
      ⟨rfl, two (below_alloc w _) (two (below_alloc _ _) (two (below_alloc _ _) (below_alloc _ _)))⟩
  · go_enter Try.func94, Try.ntmps94
    go_wp2_with fail
    exact bodyPost_ret (v := .agg #[.bool a0, .slice a3 a4 a5, .int .i64 a2, .bool b0, .slice b3 b4 b5, .int .i64 b2, .bool a0, .slice a3 a4 a5, .int .i64 a2]) (by simp [results, Try.results94, go_sem]) rfl
      ⟨rfl, two (below_alloc w _) (two (below_alloc _ _) (two (below_alloc _ _) (below_alloc _ _)))⟩
  · go_enter Try.func94, Try.ntmps94
    go_wp2_with fail
    exact bodyPost_ret (v := .agg #[.bool a0, .slice a3 a4 a5, .int .i64 a2, .bool a0, .slice a3 a4 a5, .int .i64 a2, .bool b0, .slice b3 b4 b5, .int .i64 b2]) (by simp [results, Try.results94, go_sem]) rfl
      ⟨rfl, two (below_alloc w _) (two (below_alloc _ _) (two (below_alloc _ _) (below_alloc _ _)))⟩

theorem set_far (w : World) {b b' o o' : Nat} (v : Value) (h : b ≠ b') : (w.setCell ⟨b', o', none⟩ v).cell? ⟨b, o, none⟩ = w.cell? ⟨b, o, none⟩ := World.cell?_of_block (a := ⟨b, o, none⟩) (Below.heap_setCell w ⟨b', o', none⟩ v b h)
/-- A block of two cells that may be written. -/
def QBlock (w : World) (b : Nat) : Prop := ∃ u v, w.cell? ⟨b, 0, none⟩ = some u ∧ w.cell? ⟨b, 1, none⟩ = some v ∧ w.frozen? ⟨b, 0, none⟩ = false ∧ w.frozen? ⟨b, 1, none⟩ = false
theorem QBlock.below {w w' : World} {b : Nat} (h : QBlock w b) (hb : Below w.heap.size w w') : QBlock w' b := by
  obtain ⟨u, v, h1, h2, h3, h4⟩ := h
  have hl := World.block_lt_of_cell? w _ h1
  exact ⟨u, v, cell_on hb h1, cell_on hb h2, by rw [hb.frozen (p := ⟨b, 0, none⟩) hl]; exact h3, by rw [hb.frozen (p := ⟨b, 1, none⟩) hl]; exact h4⟩
theorem one_num (w : World) (k : Int) (t : TypeId) : Nums (w.alloc (.cells #[.int .i64 k] t)) (.slice (some ⟨w.heap.size, 0, none⟩) 1 1) [k] := by
  refine ⟨rfl, _, 1, rfl, Nat.le_refl _, by decide, (fun h _ => by simp at h), fun j u hj => ⟨w.heap.size, 0, rfl, ?_⟩⟩
  match j, hj with
  | 0, hj => rw [show u = .int .i64 k from (Option.some.inj hj).symm]; simp
theorem rem3 (m : Nat) : ∃ k : Nat, k < 3 ∧ ((m : Int) % 3) = (k : Int) := ⟨m % 3, Nat.mod_lt _ (by decide), by omega⟩
set_option maxRecDepth 100000 in
set_option maxHeartbeats 2000000 in
theorem law_TopTwo (av bv : CopyV) (a b : Copy) (at_ : Int) (w : World) (ha : IsCopy w av a) (hb : IsCopy w bv b) (haok : ∀ f ∈ a.quilt.files, f.ok) (hbok : ∀ f ∈ b.quilt.files, f.ok) :
    Calls Try.prog 12 #[av.val, bv.val, .int .i64 at_] w fun e w' => e = .returned (.bool true) ∧ Below w.heap.size w w' := by
  have HA := Lib.hid ha
  have HB := Lib.hid hb
  obtain ⟨a0, av, a2⟩ := av
  obtain ⟨b0, bv, b2⟩ := bv
  have PA := ha.2.2.parts
  have PB := hb.2.2.parts
  dsimp only at PA PB
  obtain ⟨a3, a5, rfl, _, _⟩ := PA
  obtain ⟨b3, b5, rfl, _, _⟩ := PB
  have ea : a.is = a0 := ha.1.symm
  generalize a.quilt.files.length = a4 at *
  generalize b.quilt.files.length = b4 at *
  clear ha hb
  unfold CopyV.val
  obtain ⟨W2, hW2⟩ : ∃ W2, W2 = (w.alloc (.cells #[.bool a0, .slice a3 a4 a5, .int .i64 a2] 36)).alloc (.cells #[.bool b0, .slice b3 b4 b5, .int .i64 b2] 36) := ⟨_, rfl⟩
  have B2 : Below w.heap.size w W2 := by rw [hW2]; exact two (below_alloc w _) (below_alloc _ _)
  have CE : ∀ W, Below W2.heap.size W2 W → Hid (W.cell? ⟨w.heap.size, 0, none⟩ = some (.bool a0) ∧ W.cell? ⟨w.heap.size, 1, none⟩ = some (.slice a3 a4 a5) ∧ W.cell? ⟨w.heap.size, 2, none⟩ = some (.int .i64 a2) ∧
      W.cell? ⟨w.heap.size + 1, 0, none⟩ = some (.bool b0) ∧ W.cell? ⟨w.heap.size + 1, 1, none⟩ = some (.slice b3 b4 b5) ∧ W.cell? ⟨w.heap.size + 1, 2, none⟩ = some (.int .i64 b2)) := by
    intro W hb
    refine ⟨cell_on hb ?_, cell_on hb ?_, cell_on hb ?_, cell_on hb ?_, cell_on hb ?_, cell_on hb ?_⟩ <;> (rw [hW2]; simp)
  have hz : W2.heap.size = w.heap.size + 2 := by rw [hW2]; simp
  have HZ := Lib.hid hz
  have HW2 := Lib.hid hW2
  replace B2 := Lib.hid B2
  replace CE := Lib.hid CE
  have HAOK := Lib.hid haok
  have HBOK := Lib.hid hbok
  clear hW2 hz haok hbok
  have M1 := Lib.hid fun W => top_mixed ⟨true, .slice none 0 0, 3⟩ ⟨false, .slice none 0 0, 0⟩ 1 W (by decide) ⟨_, _, _, rfl⟩ ⟨_, _, _, rfl⟩
  have V1 := fun W => vote_Of (mixV ⟨true, .slice none 0 0, 3⟩ ⟨false, .slice none 0 0, 0⟩ 1) (mixT ⟨true, ⟨[], 3⟩⟩ ⟨false, ⟨[], 0⟩⟩ 1) W (mix_is ⟨rfl, rfl, Rd.nil _⟩ ⟨rfl, rfl, Rd.nil _⟩ 1)
  rw [(mix_voted ⟨true, ⟨[], 3⟩⟩ ⟨false, ⟨[], 0⟩⟩ 1 rfl).1, (mix_voted ⟨true, ⟨[], 3⟩⟩ ⟨false, ⟨[], 0⟩⟩ 1 rfl).2] at V1
  replace V1 := Lib.hid V1
  have LA := fun W (hb : Below W2.heap.size W2 W) => law_LightQuilt (.agg #[.slice a3 a4 a5, .int .i64 a2]) a.quilt W ⟨_, by rw [← HA.out.2.1], (HA.out.2.2.below B2.out).below hb⟩ HAOK.out
  have LB := fun W (hb : Below W2.heap.size W2 W) => law_LightQuilt (.agg #[.slice b3 b4 b5, .int .i64 b2]) b.quilt W ⟨_, by rw [← HB.out.2.1], (HB.out.2.2.below B2.out).below hb⟩ HBOK.out
  go_enter Try.func12, Try.ntmps12
  go_wp2_with fail
  rw [← HW2.out]
  have B3 := below_alloc W2 (.cells #[.bool true, .slice none 0 0, .int .i64 3] 36)
  have E3 := Lib.hid B3
  refine (M1.out _).mono ?_
  rintro e w4 ⟨rfl, hb4⟩
  have E4 := Lib.hid (two E3.out hb4)
  clear B3 hb4
  unfold mixV TrioV.val TrioV.arr
  dsimp only
  go_wp2_with fail
  refine (V1.out _).mono ?_
  rintro e w5 ⟨qv, rfl, ⟨qs, rfl, hq⟩, hb5⟩
  obtain ⟨qo, qc, rfl, _, _⟩ := hq.parts
  rw [errV_zero]
  have E5 := Lib.hid (two E4.out hb5)
  have B6 := below_alloc w5 (.cells #[.slice qo 0 qc, .int .i64 3] 34)
  have E6 := Lib.hid (two E5.out B6)
  obtain ⟨x0, x1, x2, x3, x4, x5⟩ := (CE.out _ E6.out).out
  clear hq hb5 B6
  cases la : lightFiles a.quilt.files
  · rw [la] at LA
    replace LA := Lib.hid LA
    clear LB la
    go_wp2_with fail
    refine (LA.out _ E6.out).mono ?_
    rintro e w7 ⟨rfl, hb7⟩
    have HB7 := Lib.hid (two E6.out hb7)
    clear hb7
    go_wp2_with fail
    go_ret
    exact ⟨rfl, two B2.out HB7.out⟩
  · rw [la] at LA
    replace LA := Lib.hid LA
    clear la
    cases lb : lightFiles b.quilt.files
    · rw [lb] at LB
      replace LB := Lib.hid LB
      clear lb
      go_wp2_with fail
      refine (LA.out _ E6.out).mono ?_
      rintro e w7 ⟨rfl, hb7⟩
      have E7 := Lib.hid (two E6.out hb7)
      obtain ⟨x0, x1, x2, x3, x4, x5⟩ := (CE.out _ E7.out).out
      clear hb7
      go_wp2_with fail
      refine (LB.out _ E7.out).mono ?_
      rintro e w8 ⟨rfl, hb8⟩
      have E8 := Lib.hid (two E7.out hb8)
      clear hb8
      go_wp2_with fail
      go_ret
      exact ⟨rfl, two B2.out E8.out⟩
    · rw [lb] at LB
      replace LB := Lib.hid LB
      clear lb
      go_wp2_with fail
      refine (LA.out _ E6.out).mono ?_
      rintro e w7 ⟨rfl, hb7⟩
      have E7 := Lib.hid (two E6.out hb7)
      have hz7 : w5.heap.size < w7.heap.size := by have := hb7.size; simp at this; omega
      have y7 : w7.frozen? ⟨w5.heap.size, 0, none⟩ = false ∧ w7.frozen? ⟨w5.heap.size, 1, none⟩ = false := ⟨by rw [hb7.frozen (p := ⟨w5.heap.size, 0, none⟩) (by simp)]; simp, by rw [hb7.frozen (p := ⟨w5.heap.size, 1, none⟩) (by simp)]; simp⟩
      have y8 : w7.cell? ⟨w5.heap.size, 0, none⟩ = some (.slice qo 0 qc) ∧ w7.cell? ⟨w5.heap.size, 1, none⟩ = some (.int .i64 3) := ⟨cell_on hb7 (by simp), cell_on hb7 (by simp)⟩
      replace y7 := Lib.hid y7
      replace y8 := Lib.hid y8
      obtain ⟨x0, x1, x2, x3, x4, x5⟩ := (CE.out _ E7.out).out
      clear hb7
      go_wp2_with fail
      refine (LB.out _ E7.out).mono ?_
      rintro e w8 ⟨rfl, hb8⟩
      have E8 := Lib.hid (two E7.out hb8)
      have hz8 : w5.heap.size < w8.heap.size := by have := hb8.size; omega
      have y9 := (hb8.frozen (p := ⟨w5.heap.size, 0, none⟩) hz7).trans y7.out.1
      have y10 := (hb8.frozen (p := ⟨w5.heap.size, 1, none⟩) hz7).trans y7.out.2
      have y11 := cell_on hb8 y8.out.1
      have y12 := cell_on hb8 y8.out.2
      clear x0 x1 x2 x3 x4 x5
      obtain ⟨x0, x1, x2, x3, x4, x5⟩ := (CE.out _ E8.out).out
      clear hb8
      cases a0
      · go_wp2_with fail
        go_ret
        exact ⟨rfl, two B2.out E8.out⟩
      · obtain ⟨m, hm, hm2⟩ := and1023 at_
        obtain ⟨k, hk, hk2⟩ := rem3 m
        have M2 := fun W => top_mixed ⟨true, .slice a3 a4 a5, a2⟩ ⟨b0, .slice b3 b4 b5, b2⟩ k W hk ⟨_, _, _, rfl⟩ ⟨_, _, _, rfl⟩
        have HTV := (mix_is HA.out HB.out k).below B2.out
        have MV := mix_voted a b k ea
        have MW := Lib.hid (mix_wrong a b k hk ea)
        unfold RetTrio at M2
        generalize mixV ⟨true, .slice a3 a4 a5, a2⟩ ⟨b0, .slice b3 b4 b5, b2⟩ k = TV at M2 HTV
        obtain ⟨⟨c0, c1, c2⟩, ⟨d0, d1, d2⟩, ⟨f0, f1, f2⟩⟩ := TV
        have PC := HTV.1.2.2.parts
        have PD := HTV.2.1.2.2.parts
        have PF := HTV.2.2.2.2.parts
        dsimp only at PC PD PF
        obtain ⟨c3, c4, rfl, _, _⟩ := PC
        obtain ⟨d3, d4, rfl, _, _⟩ := PD
        obtain ⟨f3, f4, rfl, _, _⟩ := PF
        generalize (mixT a b k).a.quilt.files.length = c5 at *
        generalize (mixT a b k).b.quilt.files.length = d5 at *
        generalize (mixT a b k).c.quilt.files.length = f5 at *
        unfold TrioV.val TrioV.arr at M2
        dsimp only at M2
        have VV := fun W (hb : Below W2.heap.size W2 W) => vote_Of_at W2 ⟨⟨c0, .slice c3 c5 c4, c2⟩, ⟨d0, .slice d3 d5 d4, d2⟩, ⟨f0, .slice f3 f5 f4, f2⟩⟩ (mixT a b k) W HTV hb
        rw [MV.1, MV.2] at VV
        have KW := Lib.hid fun W (hb : Below W2.heap.size W2 W) qv (hq : Quilts W qv a.quilt) => vote_Wrong ⟨⟨c0, .slice c3 c5 c4, c2⟩, ⟨d0, .slice d3 d5 d4, d2⟩, ⟨f0, .slice f3 f5 f4, f2⟩⟩ (mixT a b k) qv a.quilt W (HTV.below hb) hq
        replace VV := Lib.hid VV
        replace M2 := Lib.hid M2
        replace HTV := Lib.hid HTV
        have qb : QBlock w8 w5.heap.size := ⟨_, _, y11, y12, y9, y10⟩
        have QB := Lib.hid qb
        clear qb
        clear MV y7 y8 M1 V1 LA LB y9 y10 y11 y12 hz7
        replace hm2 := Lib.hid hm2
        go_wp2_with fail
        refine (M2.out _).mono ?_
        rintro e w9 ⟨rfl, hb9⟩
        have E9 := Lib.hid (two E8.out hb9)
        have hz9 : w5.heap.size < w9.heap.size := by have := hb9.size; omega
        have QB9 := QB.out.below hb9
        have B10 := below_alloc w9 (.cells #[.bool c0, .slice c3 c5 c4, .int .i64 c2, .bool d0, .slice d3 d5 d4, .int .i64 d2, .bool f0, .slice f3 f5 f4, .int .i64 f2] 37)
        have QB10 := QB9.below B10
        have E10 := Lib.hid (two E9.out B10)
        clear hb9 QB9 B10
        go_wp2_with fail
        refine (VV.out _ E10.out).mono ?_
        rintro e w11 ⟨rv, rfl, ⟨rs, rfl, hr⟩, hb11⟩
        obtain ⟨ro, rc, rfl, _, _⟩ := hr.parts
        have hz10 : w9.heap.size < w11.heap.size := by have := hb11.size; simp at this; omega
        have hne : w9.heap.size ≠ w5.heap.size := by omega
        have G : w11.cell? ⟨w9.heap.size, 0, none⟩ = some (.bool c0) ∧ w11.cell? ⟨w9.heap.size, 1, none⟩ = some (.slice c3 c5 c4) ∧ w11.cell? ⟨w9.heap.size, 2, none⟩ = some (.int .i64 c2) ∧ w11.cell? ⟨w9.heap.size, 3, none⟩ = some (.bool d0) ∧ w11.cell? ⟨w9.heap.size, 4, none⟩ = some (.slice d3 d5 d4) ∧ w11.cell? ⟨w9.heap.size, 5, none⟩ = some (.int .i64 d2) ∧ w11.cell? ⟨w9.heap.size, 6, none⟩ = some (.bool f0) ∧ w11.cell? ⟨w9.heap.size, 7, none⟩ = some (.slice f3 f5 f4) ∧ w11.cell? ⟨w9.heap.size, 8, none⟩ = some (.int .i64 f2) :=
          ⟨cell_on hb11 (by simp), cell_on hb11 (by simp), cell_on hb11 (by simp), cell_on hb11 (by simp), cell_on hb11 (by simp), cell_on hb11 (by simp), cell_on hb11 (by simp), cell_on hb11 (by simp), cell_on hb11 (by simp)⟩
        obtain ⟨u0, u1, z0, z1, z2, z3⟩ := QB10.below hb11
        have E11 := two E10.out hb11
        have hz2 : W2.heap.size ≤ w5.heap.size := E5.out.size
        have E12 := (E11.setCell (p := ⟨w5.heap.size, 0, none⟩) hz2 (.slice ro a.quilt.files.length rc)).setCell (p := ⟨w5.heap.size, 1, none⟩) hz2 (.int .i64 a.quilt.turn)
        have S0 : ((w11.setCell ⟨w5.heap.size, 0, none⟩ (.slice ro a.quilt.files.length rc)).setCell ⟨w5.heap.size, 1, none⟩ (.int .i64 a.quilt.turn)).cell? ⟨w5.heap.size, 0, none⟩ = some (.slice ro a.quilt.files.length rc) := by go_simp
        have S1 : ((w11.setCell ⟨w5.heap.size, 0, none⟩ (.slice ro a.quilt.files.length rc)).setCell ⟨w5.heap.size, 1, none⟩ (.int .i64 a.quilt.turn)).cell? ⟨w5.heap.size, 1, none⟩ = some (.int .i64 a.quilt.turn) := by go_simp
        have SG : ∀ o v, w11.cell? ⟨w9.heap.size, o, none⟩ = some v → ((w11.setCell ⟨w5.heap.size, 0, none⟩ (.slice ro a.quilt.files.length rc)).setCell ⟨w5.heap.size, 1, none⟩ (.int .i64 a.quilt.turn)).cell? ⟨w9.heap.size, o, none⟩ = some v := fun o v h => by rw [set_far _ _ hne, set_far _ _ hne]; exact h
        have HAR : Files ((w11.setCell ⟨w5.heap.size, 0, none⟩ (.slice ro a.quilt.files.length rc)).setCell ⟨w5.heap.size, 1, none⟩ (.int .i64 a.quilt.turn)) (.slice ro a.quilt.files.length rc) a.quilt.files := hr.below E12
        have HAA : Files ((w11.setCell ⟨w5.heap.size, 0, none⟩ (.slice ro a.quilt.files.length rc)).setCell ⟨w5.heap.size, 1, none⟩ (.int .i64 a.quilt.turn)) (.slice a3 a4 a5) a.quilt.files := (HA.out.2.2.below B2.out).below E12
        clear x0 x1 x2 x3 x4 x5
        obtain ⟨x0, x1, x2, x3, x4, x5⟩ := (CE.out _ E12).out
        obtain ⟨S, hS⟩ : ∃ S, S = (w11.setCell ⟨w5.heap.size, 0, none⟩ (.slice ro a.quilt.files.length rc)).setCell ⟨w5.heap.size, 1, none⟩ (.int .i64 a.quilt.turn) := ⟨_, rfl⟩
        rw [← hS] at E12 S0 S1 SG HAR HAA
        have HS := Lib.hid hS
        clear hS
        have K := ref_SameQuilt (.agg #[.slice ro a.quilt.files.length rc, .int .i64 a.quilt.turn]) (.agg #[.slice a3 a4 a5, .int .i64 a2]) a.quilt a.quilt S ⟨_, rfl, HAR⟩ ⟨_, by rw [← HA.out.2.1], HAA⟩
        rw [decide_eq_true rfl] at K
        replace K := Lib.hid K
        replace E12 := Lib.hid E12
        replace SG := Lib.hid SG
        replace HAR := Lib.hid HAR
        rw [errV_zero]
        clear hb11 hr QB10 E11 HAA
        replace G := Lib.hid G
        go_wp2_with fail
        rw [← HS.out]
        refine K.out.mono ?_
        rintro e w12 ⟨rfl, hb12⟩
        have E13 := Lib.hid (two E12.out hb12)
        have t0 := cell_on hb12 (SG.out 0 _ G.out.1)
        have t1 := cell_on hb12 (SG.out 1 _ G.out.2.1)
        have t2 := cell_on hb12 (SG.out 2 _ G.out.2.2.1)
        have t3 := cell_on hb12 (SG.out 3 _ G.out.2.2.2.1)
        have t4 := cell_on hb12 (SG.out 4 _ G.out.2.2.2.2.1)
        have t5 := cell_on hb12 (SG.out 5 _ G.out.2.2.2.2.2.1)
        have t6 := cell_on hb12 (SG.out 6 _ G.out.2.2.2.2.2.2.1)
        have t7 := cell_on hb12 (SG.out 7 _ G.out.2.2.2.2.2.2.2.1)
        have t8 := cell_on hb12 (SG.out 8 _ G.out.2.2.2.2.2.2.2.2)
        have t9 := cell_on hb12 S0
        have t10 := cell_on hb12 S1
        have HAR2 := Lib.hid (HAR.out.below hb12)
        clear x0 x1 x2 x3 x4 x5 S0 S1 hb12
        obtain ⟨x0, x1, x2, x3, x4, x5⟩ := (CE.out _ E13.out).out
        go_wp2_with fail
        refine (KW.out _ E13.out _ ⟨_, rfl, HAR2.out⟩).mono ?_
        rintro e w14 ⟨wv, rfl, hwn, hb14⟩
        obtain ⟨wo, wc, rfl, hw1, hw2⟩ := hwn.parts
        have E14 := Lib.hid (two E13.out hb14)
        have HWN := Lib.hid hwn
        clear x0 x1 x2 x3 x4 x5 t0 t1 t2 t3 t4 t5 t6 t7 t8 t9 t10 hb14 hwn
        obtain ⟨x0, x1, x2, x3, x4, x5⟩ := (CE.out _ E14.out).out
        have KS := vote_Same (CopyV.val ⟨true, .slice a3 a4 a5, a2⟩) (CopyV.val ⟨b0, .slice b3 b4 b5, b2⟩) a b w14 ((HA.out.below B2.out).below E14.out).copies ((HB.out.below B2.out).below E14.out).copies
        have hwr := MW.out
        cases hs : sameCopy a b
        · rw [hs] at KS hwr
          simp only [Bool.false_eq_true, if_false] at hwr
          rw [hwr] at HWN hw1 ⊢
          replace KS := Lib.hid KS
          clear hs hwr
          go_wp2_with fail
          refine KS.out.mono ?_
          rintro e w15 ⟨rfl, hb15⟩
          have HWN2 := Lib.hid ((HWN.out.below hb15).below (below_alloc w15 (.cells #[.int .i64 k] 3)))
          have E15 := Lib.hid (two (two E14.out hb15) (below_alloc w15 (.cells #[.int .i64 k] 3)))
          have HK1 := Lib.hid (one_num w15 k 3)
          clear hb15
          go_wp2_with fail
          refine (ref_SameNumbers _ _ [(k : Int)] [(k : Int)] _ HWN2.out HK1.out).mono ?_
          rintro e w16 ⟨rfl, hb16⟩
          have E16 := Lib.hid (two E15.out hb16)
          clear hb16
          go_wp2_with fail
          go_ret
          exact ⟨ret_bool (by simp), two B2.out E16.out⟩
        · rw [hs] at KS hwr
          simp only [if_true] at hwr
          rw [hwr] at HWN hw1 ⊢
          replace KS := Lib.hid KS
          clear hs hwr
          go_wp2_with fail
          refine KS.out.mono ?_
          rintro e w15 ⟨rfl, hb15⟩
          have E15 := Lib.hid (two E14.out hb15)
          clear hb15
          go_wp2_with fail
          go_ret
          exact ⟨rfl, two B2.out E15.out⟩
end Go.Proofs.Ytggpodlecljcbaa
