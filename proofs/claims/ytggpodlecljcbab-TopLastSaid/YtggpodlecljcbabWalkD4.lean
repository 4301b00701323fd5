/- The walk of vote.Of. -/
import Derived.Test.YtggpodlecljcbabWalkD3
namespace Go.Proofs.Ytggpodlecljcbab
set_option linter.unusedSimpArgs false
set_option linter.unusedVariables false
open Go.RowKit Go.Sort

def better (t : Trio) (b : Int) (i : Nat) : Bool := (t.at i).is && (decide (b < 0) || decide ((t.at b.toNat).quilt.turn < (t.at i).quilt.turn))
def bestTo (t : Trio) : Nat → Int
  | 0 => -1
  | k + 1 => if better t (bestTo t k) k then (k : Int) else bestTo t k
def twin (t : Trio) (i : Nat) : Bool := (t.at i).is && (match i with | 0 => sameCopy t.a t.b || sameCopy t.a t.c | 1 => sameCopy t.b t.c | _ => false)
/-- Which copy is right. -/
def votedAt (t : Trio) : Option Nat := if twin t 0 then some 0 else if twin t 1 then some 1 else if bestTo t 3 < 0 then none else some (bestTo t 3).toNat
def votedQ (t : Trio) : Quilt := match votedAt t with | none => ⟨[], 0⟩ | some i => (t.at i).quilt
def votedE (t : Trio) : Nat := match votedAt t with | none => 4 | some _ => 0
theorem bestTo_range (t : Trio) : ∀ k, -1 ≤ bestTo t k ∧ bestTo t k < k
  | 0 => by simp [bestTo]
  | k + 1 => by
    have := bestTo_range t k
    simp only [bestTo]
    split <;> omega
theorem twin_ge (t : Trio) : twin t 2 = false := by simp [twin]
theorem best_yes (t : Trio) (k : Nat) (b : Int) (hb : bestTo t k = b) (h : better t b k = true) : bestTo t (k + 1) = k := by simp [bestTo, hb, h]
theorem best_no (t : Trio) (k : Nat) (b : Int) (hb : bestTo t k = b) (h : better t b k = false) : bestTo t (k + 1) = b := by simp [bestTo, hb, h]
theorem voted0 (t : Trio) (h : twin t 0 = true) : votedQ t = t.a.quilt ∧ votedE t = 0 := by simp [votedQ, votedE, votedAt, h]; rfl
theorem voted1 (t : Trio) (h0 : twin t 0 = false) (h : twin t 1 = true) : votedQ t = t.b.quilt ∧ votedE t = 0 := by simp [votedQ, votedE, votedAt, h, h0]; rfl
theorem votedN (t : Trio) (h0 : twin t 0 = false) (h : twin t 1 = false) (hb : bestTo t 3 = -1) : votedQ t = ⟨[], 0⟩ ∧ votedE t = 4 := by simp [votedQ, votedE, votedAt, h, h0, hb]
theorem votedB (t : Trio) (i : Nat) (h0 : twin t 0 = false) (h : twin t 1 = false) (hb : bestTo t 3 = i) : votedQ t = (t.at i).quilt ∧ votedE t = 0 := by
  have : ¬ ((i : Int) < 0) := by omega
  simp [votedQ, votedE, votedAt, h, h0, hb, this]
/-- A quilt and an error's number. -/
def RetQ (q : Quilt) (n : Nat) (w : World) (e : Ending) (w' : World) : Prop := ∃ qv, e = .returned (.tuple #[qv, errV n]) ∧ Quilts w' qv q ∧ Below w.heap.size w w'
/-- A quilt and a number. -/
def RetQI (q : Quilt) (n : Nat) (w : World) (e : Ending) (w' : World) : Prop := ∃ qv, e = .returned (.tuple #[qv, .int .i64 n]) ∧ Quilts w' qv q ∧ Below w.heap.size w w'
/-- The same, the quilt read in an older world. -/
def RetQ0 (W0 : World) (q : Quilt) (n : Nat) (w : World) (e : Ending) (w' : World) : Prop := ∃ qv, e = .returned (.tuple #[qv, errV n]) ∧ Quilts W0 qv q ∧ Below w.heap.size w w'
theorem noFiles (w : World) : Files w (.slice none 0 0) [] := Rd.nil w

def Trio.list (t : Trio) : List Copy := [t.a, t.b, t.c]
def TrioV.list (t : TrioV) : List CopyV := [t.a, t.b, t.c]
theorem IsTrio.list {w : World} {tv : TrioV} {t : Trio} (h : IsTrio w tv t) : IsCopies w tv.list t.list :=
  ⟨rfl, fun i h1 _ => by match i, h1 with | 0, _ => exact h.1 | 1, _ => exact h.2.1 | 2, _ => exact h.2.2⟩
theorem Trio.list_at (t : Trio) (i : Nat) (h : i < t.list.length) : t.list[i] = t.at i := by match i, h with | 0, _ => rfl | 1, _ => rfl | 2, _ => rfl
theorem trio_rd {w : World} {b : Nat} (tv : TrioV) (h : ∀ j u, tv.arr[j]? = some u → w.cell? ⟨b, j, none⟩ = some u) : CopyVs w (.slice (some ⟨b, 0, none⟩) 3 3) tv.list := by
  refine ⟨rfl, _, 3, rfl, Nat.le_refl _, by decide, (fun h _ => by simp [TrioV.list] at h), fun j u hj => ⟨b, 0, rfl, ?_⟩⟩
  rw [Nat.zero_add]
  exact h j u (by simpa [TrioV.arr, TrioV.list, CopyV.cells] using hj)
theorem Rd.drop {α : Type} {k : Nat} {enc : α → List Value} (henc : ∀ x, (enc x).length = k) {w : World} {b off n cap : Nat} {l : List α} (h : Rd k enc w (.slice (some ⟨b, off, none⟩) n cap) l) (i : Nat) (hi : i ≤ l.length) (hn : n = l.length) :
    Rd k enc w (.slice (some ⟨b, off + i * k, none⟩) (n - i) (cap - i)) (l.drop i) := by
  obtain ⟨h1, ao, cap', e, h3, h4, _, h5⟩ := h
  simp only [Value.slice.injEq] at e
  obtain ⟨rfl, rfl, rfl⟩ := e
  have hfl : ∀ (l : List α) (i : Nat), (l.drop i).flatMap enc = (l.flatMap enc).drop (i * k) := by
    intro l
    induction l with
    | nil => simp
    | cons x l ih =>
      intro i
      cases i with
      | zero => simp
      | succ i =>
        simp only [List.drop_succ_cons, List.flatMap_cons, ih]
        rw [Nat.add_mul, Nat.one_mul, Nat.add_comm, ← List.drop_drop, ← henc x, List.drop_left]
  refine ⟨flat_length henc _, some ⟨b, off + i * k, none⟩, cap - i, by rw [List.length_drop], by rw [List.length_drop]; omega, by omega, (fun _ h => by cases h), fun j u hj => ?_⟩
  rw [hfl, List.getElem?_drop] at hj
  obtain ⟨b1, off1, e1, c1⟩ := h5 _ _ hj
  simp only [Option.some.injEq, Addr.mk.injEq, and_true] at e1
  obtain ⟨rfl, rfl⟩ := e1
  exact ⟨b, _, rfl, by rw [Nat.add_assoc]; exact c1⟩
theorem IsCopies.drop {w : World} {cvs : List CopyV} {cs : List Copy} (h : IsCopies w cvs cs) (i : Nat) : IsCopies w (cvs.drop i) (cs.drop i) :=
  ⟨by simp [h.1], fun j h1 h2 => by simpa using h.2 (i + j) (by simp at h1; omega) (by simp at h2; omega)⟩
theorem tail_none (w : World) (a : Addr) : CopyVs w (.slice (some a) 0 0) ([] : List CopyV) :=
  ⟨rfl, _, 0, rfl, Nat.le_refl _, by decide, (fun _ _ => rfl), fun j u hj => by simp at hj⟩
theorem twin_any (t : Trio) (k : Nat) (hk : k < 3) (h : (t.at k).is = true) : twin t k = (t.list.drop (k + 1)).any (sameCopy (t.at k)) := by
  match k, hk with
  | 0, _ => simp only [twin, h, Trio.list]; simp [Trio.at]
  | 1, _ => simp only [twin, h, Trio.list]; simp [Trio.at]
  | 2, _ => simp [twin, Trio.list]
theorem twin_not (t : Trio) (k : Nat) (h : (t.at k).is = false) : twin t k = false := by simp [twin, h]
theorem better_not (t : Trio) (b : Int) (k : Nat) (h : (t.at k).is = false) : better t b k = false := by simp [better, h]
theorem better_neg (t : Trio) (b : Int) (k : Nat) (h : (t.at k).is = true) (hb : b < 0) : better t b k = true := by simp [better, h, hb]
theorem better_pos (t : Trio) (m : Nat) (k : Nat) (h : (t.at k).is = true) : better t m k = decide ((t.at m).quilt.turn < (t.at k).quilt.turn) := by
  have : ¬ ((m : Int) < 0) := by omega
  simp [better, h, this]
theorem voted_twin (t : Trio) (k : Nat) (hk : k < 3) (hl : ∀ i, i < k → twin t i = false) (h : twin t k = true) : votedQ t = (t.at k).quilt ∧ votedE t = 0 := by
  match k, hk with
  | 0, _ => exact voted0 t h
  | 1, _ => exact voted1 t (hl 0 (by omega)) h
  | 2, _ => rw [twin_ge] at h; cases h
theorem slice_trio0 (b : Nat) (W : World) : (Instr.sliceAt 27 (.pointer (some ⟨b, 0, none⟩)) (some (.int .i64 1)) none none).run Try.prog W = .ok (.slice (some ⟨b, 3, none⟩) 2 2) W := by kernel_rfl
theorem slice_trio1 (b : Nat) (W : World) : (Instr.sliceAt 27 (.pointer (some ⟨b, 0, none⟩)) (some (.int .i64 2)) none none).run Try.prog W = .ok (.slice (some ⟨b, 6, none⟩) 1 1) W := by kernel_rfl
theorem slice_trio2 (b : Nat) (W : World) : (Instr.sliceAt 27 (.pointer (some ⟨b, 0, none⟩)) (some (.int .i64 3)) none none).run Try.prog W = .ok (.slice (some ⟨b, 0, none⟩) 0 0) W := by kernel_rfl
def tailOff (k : Nat) : Nat := if k = 2 then 0 else (k + 1) * 3
theorem slice_trio (k : Nat) (h : k < 3) (b : Nat) (W : World) : (Instr.sliceAt 27 (.pointer (some ⟨b, 0, none⟩)) (some (.int .i64 ((k : Int) + 1))) none none).run Try.prog W = .ok (.slice (some ⟨b, tailOff k, none⟩) (2 - k) (2 - k)) W := by
  match k, h with
  | 0, _ => exact slice_trio0 b W
  | 1, _ => exact slice_trio1 b W
  | 2, _ => exact slice_trio2 b W

theorem trio_tail {w : World} {b : Nat} {L : List CopyV} (hl : L.length = 3) (h : CopyVs w (.slice (some ⟨b, 0, none⟩) 3 3) L) (k : Nat) (hk : k < 3) : CopyVs w (.slice (some ⟨b, tailOff k, none⟩) (2 - k) (2 - k)) (L.drop (k + 1)) := by
  by_cases h2 : k = 2
  · subst h2
    rw [List.drop_of_length_le (by omega)]
    exact tail_none _ _
  · have := Rd.drop CopyV.cells_len h (k + 1) (by omega) hl.symm
    rw [show (2 - k) = 3 - (k + 1) by omega]
    simpa [tailOff, h2] using this
set_option maxRecDepth 100000 in
set_option maxHeartbeats 1000000 in
theorem vote_Of_at (W0 : World) (tv : TrioV) (t : Trio) (w : World) (ht : IsTrio W0 tv t) (hb0 : Below W0.heap.size W0 w) :
    Calls Try.prog 13 #[tv.val] w (RetQ0 W0 (votedQ t) (votedE t) w) := by
  have HT := Lib.hid (ht.below hb0)
  have HT0 := Lib.hid ht
  clear hb0
  have hidx : ∀ (k : Nat) (h : k < tv.list.length) (W : World), (Instr.index 27 tv.val (.int .i64 k)).run Try.prog W = .ok (.agg #[.bool tv.list[k].is, tv.list[k].v, .int .i64 tv.list[k].turn]) W := by
    intro k h W
    match k, h with
    | 0, _ => exact index_trio0 ..
    | 1, _ => exact index_trio1 ..
    | 2, _ => exact index_trio2 ..
  clear ht
  obtain ⟨W2, hW2⟩ : ∃ W2, W2 = (w.alloc (.cells tv.arr 27)).alloc (.cells #[.slice none 0 0, .int .i64 0] 24) := ⟨_, rfl⟩
  have B2 : Below w.heap.size w W2 := by rw [hW2]; exact two (below_alloc w _) (below_alloc _ _)
  have hrd : CopyVs W2 (.slice (some ⟨w.heap.size, 0, none⟩) 3 3) tv.list := trio_rd tv fun j u hj => by
    rw [hW2]
    simp only [TrioV.arr] at hj ⊢
    match j, hj with
    | 0, hj | 1, hj | 2, hj | 3, hj | 4, hj | 5, hj | 6, hj | 7, hj | 8, hj => simp at hj; subst hj; simp
  have g0 : W2.cell? ⟨w.heap.size + 1, 0, none⟩ = some (.slice none 0 0) := by rw [hW2]; simp
  have g1 : W2.cell? ⟨w.heap.size + 1, 1, none⟩ = some (.int .i64 0) := by rw [hW2]; simp
  have g2 : W2.frozen? ⟨w.heap.size + 1, 0, none⟩ = false := by rw [hW2]; simp
  have g3 : W2.frozen? ⟨w.heap.size + 1, 1, none⟩ = false := by rw [hW2]; simp
  have hz : W2.heap.size = w.heap.size + 2 := by rw [hW2]; simp
  have HL := Lib.hid ((HT.out.list.below B2))
  have hlen : tv.list.length = 3 := rfl
  have hlen2 : t.list.length = 3 := rfl
  obtain ⟨⟨a0, a1, a2⟩, ⟨b0, b1, b2⟩, ⟨d0, d1, d2⟩⟩ := tv
  unfold TrioV.val TrioV.arr at *
  obtain ⟨L, hL⟩ : ∃ L, L = TrioV.list ⟨⟨a0, a1, a2⟩, ⟨b0, b1, b2⟩, ⟨d0, d1, d2⟩⟩ := ⟨_, rfl⟩
  have HL0 : IsCopies W0 L t.list := by rw [hL]; exact HT0.out.list
  rw [← hL] at hidx HL hrd hlen
  replace HL0 := Lib.hid HL0
  have PA := HT.out.1.2.2.parts
  have PB := HT.out.2.1.2.2.parts
  have PD := HT.out.2.2.2.2.parts
  have HIDX := Lib.hid hidx
  have HRD := Lib.hid hrd
  have HW2 := Lib.hid hW2
  have HZ := Lib.hid hz
  have HLEN := Lib.hid hlen
  have HLEN2 := Lib.hid hlen2
  replace g0 := Lib.hid g0
  replace g1 := Lib.hid g1
  replace g2 := Lib.hid g2
  replace g3 := Lib.hid g3
  replace B2 := Lib.hid B2
  clear HT0
  dsimp only at PA PB PD
  obtain ⟨a3, a4, rfl, _, _⟩ := PA
  obtain ⟨b3, b4, rfl, _, _⟩ := PB
  obtain ⟨d3, d4, rfl, _, _⟩ := PD
  generalize t.a.quilt.files.length = a5, t.b.quilt.files.length = b5, t.c.quilt.files.length = d5 at *
  clear hL hidx hrd hW2 hz hlen hlen2
  go_enter Try.func13, Try.ntmps13
  go_wp2_with fail
  rw [← HW2.out]
  go_loopw [4, 8] (fun o i wr => ∃ k : Nat, k ≤ 3 ∧ i = .int .i64 k ∧ o = .int .i64 (bestTo t k) ∧ (∀ i, i < k → twin t i = false) ∧ Below W2.heap.size W2 wr) (fun _ i _ => 3 - (intOf i).toNat)
  case atStart => exact ⟨0, Nat.zero_le _, rfl, rfl, fun _ h => by omega, Below.refl _ _⟩
  case round =>
    obtain ⟨k, hk, rfl, rfl, htw, hbw⟩ := hrel
    obtain ⟨hc, hfz⟩ := bcell hbw
    have r0 := (hc (w.heap.size + 1) 0 (by rw [HZ.out]; omega)).trans g0.out
    have r1 := (hc (w.heap.size + 1) 1 (by rw [HZ.out]; omega)).trans g1.out
    have r2 := (hfz (w.heap.size + 1) 0 (by rw [HZ.out]; omega)).trans g2.out
    have r3 := (hfz (w.heap.size + 1) 1 (by rw [HZ.out]; omega)).trans g3.out
    have hzr : w.heap.size + 1 < wr.heap.size := by have := hbw.size; rw [HZ.out] at this; omega
    have HTW := Lib.hid htw
    have HW := Lib.hid hbw
    have hbr := bestTo_range t k
    clear htw hbw hc hfz
    by_cases hlt : k < 3
    · have hk1 : k < L.length := by rw [HLEN.out]; exact hlt
      have hk2 : k < t.list.length := hlt
      have hi := HIDX.out k hk1
      have HC : Hid (IsCopy wr L[k] (t.at k)) := by rw [← Trio.list_at t k hk2]; exact (HL.out.below HW.out).2 k hk1 hk2
      have HC0 : Hid (IsCopy W0 L[k] (t.at k)) := by rw [← Trio.list_at t k hk2]; exact HL0.out.2 k hk1 hk2
      generalize hcv : L[k] = cv at hi HC HC0
      obtain ⟨is, v, turn⟩ := cv
      obtain ⟨ao, n, hv, _, _⟩ := HC.out.2.2.parts
      dsimp only at hv hi
      subst hv
      have HCV := Lib.hid hcv
      clear hcv
      have Bc := below_alloc wr (.cells #[.bool is, .slice ao (t.at k).quilt.files.length n, .int .i64 turn] 26)
      generalize (t.at k).quilt.files.length = len at *
      cases is
      · have HF : Hid ((t.at k).is = false) := HC.out.1.symm
        have HBN := Lib.hid (best_no t k _ rfl (better_not t _ k HF.out))
        replace Bc := Lib.hid Bc
        go_wp2_with fail
        go_roundw
        case rel => exact ⟨k + 1, by omega, by go_num, by rw [HBN.out], (fun i hi => by rcases Nat.lt_succ_iff_lt_or_eq.1 hi with h | rfl; exact HTW.out i h; exact twin_not t _ HF.out), two HW.out Bc.out⟩
        case measure => simp [intOf]; omega
      · have HF : Hid ((t.at k).is = true) := HC.out.1.symm
        have HTE := Lib.hid (twin_any t k hlt HF.out)
        have hst := slice_trio k hlt w.heap.size
        have HSL := Lib.hid (trio_tail HLEN.out ((HRD.out.below HW.out).below Bc) k hlt)
        have C := slices_ContainsFunc (.slice (some ⟨w.heap.size, tailOff k, none⟩) (2 - k) (2 - k)) (L.drop (k + 1)) (t.list.drop (k + 1)) ⟨true, .slice ao len n, turn⟩ (t.at k) wr.heap.size (wr.alloc (.cells #[.bool true, .slice ao len n, .int .i64 turn] 26))
          HSL.out (((HL.out.below HW.out).below Bc).drop (k + 1)) (HC.out.below Bc) (by simp) (by simp) (by simp)
        rw [← HTE.out] at C
        have HBc := Lib.hid Bc
        obtain ⟨hBc, hBf⟩ := bcell Bc
        have s0 := (hBc (w.heap.size + 1) 0 hzr).trans r0
        have s1 := (hBc (w.heap.size + 1) 1 hzr).trans r1
        have s2 := (hBf (w.heap.size + 1) 0 hzr).trans r2
        have s3 := (hBf (w.heap.size + 1) 1 hzr).trans r3
        clear Bc hBc hBf r0 r1 r2 r3
        by_cases htn : twin t k = true
        · rw [htn] at C
          have V := Lib.hid (voted_twin t k hlt HTW.out htn)
          replace C := Lib.hid C
          clear htn
          go_wp2_with fail
          refine C.out.mono ?_
          rintro e w2 ⟨rfl, hb2⟩
          obtain ⟨hc2, hf2⟩ := bcell hb2
          have z0 := hc2 wr.heap.size 1 (by simp)
          have z1 := hc2 wr.heap.size 2 (by simp)
          have z2 := (hc2 (w.heap.size + 1) 0 (by simp; omega)).trans s0
          have z3 := (hc2 (w.heap.size + 1) 1 (by simp; omega)).trans s1
          have z4 := (hf2 (w.heap.size + 1) 0 (by simp; omega)).trans s2
          have z5 := (hf2 (w.heap.size + 1) 1 (by simp; omega)).trans s3
          simp at z0 z1
          have HB2 := Lib.hid hb2
          clear hb2 hc2 hf2 s0 s1 s2 s3 hi
          go_wp2_with fail
          have HBF := ((two B2.out (two HW.out (two HBc.out HB2.out))).setCell (p := ⟨w.heap.size + 1, 0, none⟩) (by simp) (.slice ao len n)).setCell (p := ⟨w.heap.size + 1, 1, none⟩) (by simp) (.int .i64 turn)
          exact bodyPost_ret (v := .tuple #[.agg #[.slice ao len n, .int .i64 turn], .nilIface]) (by simp [results, Try.results13, go_sem, z2, z3, z4, z5]) rfl
            ⟨_, by rw [V.out.2]; rfl, by rw [V.out.1]; exact ⟨_, by rw [← HC.out.2.1], HC0.out.2.2⟩, HBF⟩
        · have htn' : twin t k = false := by simpa using htn
          rw [htn'] at C
          have HTN := Lib.hid htn'
          replace C := Lib.hid C
          clear htn htn' s0 s1 s2 s3
          by_cases hneg : bestTo t k < 0
          · have HBY := Lib.hid (best_yes t k _ rfl (better_neg t _ k HF.out hneg))
            go_wp2_with fail
            refine C.out.mono ?_
            rintro e w2 ⟨rfl, hb2⟩
            have HB2 := Lib.hid hb2
            clear hb2
            go_wp2_with fail
            refine wp_region_q (by kernel_rfl) (by kernel_rfl) ?_
            repeat (go_big_quiet_step (fail))
            refine wpQuiet_nil ?_
            intro w3 hb3
            have HB3 := Lib.hid hb3
            clear hb3
            go_wp2_with fail
            go_roundw
            case rel => exact ⟨k + 1, by omega, by go_num, by rw [HBY.out], (fun i hi => by rcases Nat.lt_succ_iff_lt_or_eq.1 hi with h | rfl; exact HTW.out i h; exact HTN.out), two HW.out (two HBc.out (two HB2.out HB3.out))⟩
            case measure => simp [intOf]; omega
          · obtain ⟨m, hm⟩ : ∃ m : Nat, bestTo t k = m := ⟨(bestTo t k).toNat, by omega⟩
            have hm1 : m < L.length := by rw [HLEN.out]; omega
            have hm2 : m < t.list.length := by show m < 3; omega
            obtain ⟨bm, om, em, _, m0, m1, m2⟩ := CopyVs.cell ((HRD.out.below HW.out).below HBc.out) m hm1
            simp only [Option.some.injEq, Addr.mk.injEq, and_true] at em
            obtain ⟨rfl, rfl⟩ := em
            have hdn : decide ((m : Int) < 0) = false := by simp
            have HM := Lib.hid ((HL0.out).2 m hm1 hm2)
            have htm : L[m].turn = (t.at m).quilt.turn := by rw [← Trio.list_at t m hm2]; exact HM.out.2.1
            have htk : turn = (t.at k).quilt.turn := HC.out.2.1
            rw [htm] at m2
            rw [Nat.zero_add] at m2
            rw [hm]
            rw [hm] at hneg hbr
            by_cases hgt : (t.at m).quilt.turn < turn
            · have HBY := Lib.hid (best_yes t k m hm (by rw [better_pos t m k HF.out, ← htk]; simpa using hgt))
              clear hm htm htk m0 m1
              go_wp2_with fail
              refine C.out.mono ?_
              rintro e w2 ⟨rfl, hb2⟩
              obtain ⟨hc2, _⟩ := bcell hb2
              have z1 := hc2 wr.heap.size 2 (by simp)
              simp at z1
              replace z1 := regrown_cell z1
              have z2 := regrown_cell ((hc2 w.heap.size (m * 3 + 2) (by simp; omega)).trans m2)
              have HB2 := Lib.hid hb2
              clear hb2 hc2 m2
              go_wp2_with fail
              refine wp_region_q (by kernel_rfl) (by kernel_rfl) ?_
              repeat (go_big_quiet_step (fail))
              refine wpQuiet_nil ?_
              intro w3 hb3
              have HB3 := Lib.hid hb3
              clear hb3
              go_wp2_with fail
              go_roundw
              case rel => exact ⟨k + 1, by omega, by go_num, by rw [HBY.out], (fun i hi => by rcases Nat.lt_succ_iff_lt_or_eq.1 hi with h | rfl; exact HTW.out i h; exact HTN.out), two HW.out (two HBc.out (two HB2.out HB3.out))⟩
              case measure => simp [intOf]; omega
            · have HBY := Lib.hid (best_no t k m hm (by rw [better_pos t m k HF.out, ← htk]; simpa using hgt))
              clear hm htm htk m0 m1
              go_wp2_with fail
              refine C.out.mono ?_
              rintro e w2 ⟨rfl, hb2⟩
              obtain ⟨hc2, _⟩ := bcell hb2
              have z1 := hc2 wr.heap.size 2 (by simp)
              simp at z1
              replace z1 := regrown_cell z1
              have z2 := regrown_cell ((hc2 w.heap.size (m * 3 + 2) (by simp; omega)).trans m2)
              have HB2 := Lib.hid hb2
              clear hb2 hc2 m2
              go_wp2_with fail
              refine wp_region_q (by kernel_rfl) (by kernel_rfl) ?_
              repeat (go_big_quiet_step (fail))
              refine wpQuiet_nil ?_
              intro w3 hb3
              have HB3 := Lib.hid hb3
              clear hb3
              go_wp2_with fail
              go_roundw
              case rel => exact ⟨k + 1, by omega, by go_num, by rw [HBY.out], (fun i hi => by rcases Nat.lt_succ_iff_lt_or_eq.1 hi with h | rfl; exact HTW.out i h; exact HTN.out), two HW.out (two HBc.out (two HB2.out HB3.out))⟩
              case measure => simp [intOf]; omega
    · obtain rfl : k = 3 := by omega
      have H0 := Lib.hid (HTW.out 0 (by omega))
      have H1 := Lib.hid (HTW.out 1 (by omega))
      by_cases hneg : bestTo t 3 < 0
      · have V := Lib.hid (votedN t H0.out H1.out (by omega))
        go_wp2_with fail
        have HBF := ((two B2.out HW.out).setCell (p := ⟨w.heap.size + 1, 0, none⟩) (by simp) (.slice none 0 0)).setCell (p := ⟨w.heap.size + 1, 1, none⟩) (by simp) (.int .i64 0)
        exact bodyPost_ret (v := .tuple #[.agg #[.slice none 0 0, .int .i64 0], .iface 91 (.int .i64 4)]) (by simp [results, Try.results13, go_sem, r0, r1, r2, r3]) rfl
          ⟨_, by rw [V.out.2]; rfl, by rw [V.out.1]; exact ⟨_, rfl, noFiles _⟩, HBF⟩
      · obtain ⟨m, hm⟩ : ∃ m : Nat, bestTo t 3 = m := ⟨(bestTo t 3).toNat, by omega⟩
        have hm1 : m < L.length := by rw [HLEN.out]; omega
        have hm2 : m < t.list.length := by show m < 3; omega
        have V := Lib.hid (votedB t m H0.out H1.out hm)
        obtain ⟨bm, om, em, _, m0, m1, m2⟩ := CopyVs.cell (HRD.out.below HW.out) m hm1
        simp only [Option.some.injEq, Addr.mk.injEq, and_true] at em
        obtain ⟨rfl, rfl⟩ := em
        have HM : Hid (IsCopy W0 L[m] (t.at m)) := by rw [← Trio.list_at t m hm2]; exact (HL0.out).2 m hm1 hm2
        rw [Nat.zero_add] at m1 m2
        generalize hcv : L[m] = cv at m1 m2 HM
        obtain ⟨is, v, turn⟩ := cv
        obtain ⟨ao, n, hv, _, _⟩ := HM.out.2.2.parts
        dsimp only at hv m1 m2
        subst hv
        have HCV := Lib.hid hcv
        clear hcv m0
        generalize (t.at m).quilt.files.length = len at *
        rw [hm]
        rw [hm] at hneg hbr
        clear hm
        go_wp2_with fail
        have HBF := ((two B2.out HW.out).setCell (p := ⟨w.heap.size + 1, 0, none⟩) (by simp) (.slice ao len n)).setCell (p := ⟨w.heap.size + 1, 1, none⟩) (by simp) (.int .i64 turn)
        exact bodyPost_ret (v := .tuple #[.agg #[.slice ao len n, .int .i64 turn], .nilIface]) (by simp [results, Try.results13, go_sem, r0, r1, r2, r3]) rfl
          ⟨_, by rw [V.out.2]; rfl, by rw [V.out.1]; exact ⟨_, by rw [← HM.out.2.1], HM.out.2.2⟩, HBF⟩
theorem vote_Of (tv : TrioV) (t : Trio) (w : World) (ht : IsTrio w tv t) :
    Calls Try.prog 13 #[tv.val] w (RetQ (votedQ t) (votedE t) w) :=
  (vote_Of_at w tv t w ht (Below.refl _ _)).mono fun _ _ ⟨qv, h1, h2, h3⟩ => ⟨qv, h1, h2.below h3, h3⟩
end Go.Proofs.Ytggpodlecljcbab
