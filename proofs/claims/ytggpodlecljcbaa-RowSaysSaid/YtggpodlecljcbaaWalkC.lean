/- The walks over quilts and copies that hold two against each other. -/
import Derived.Test.YtggpodlecljcbaaWalkB
namespace Go.Proofs.Ytggpodlecljcbaa
open Go.RowKit Go.Sort

structure Quilt where
  files : List File
  turn : Int
  deriving DecidableEq
def Quilts (w : World) (qv : Value) (q : Quilt) : Prop := ∃ v, qv = .agg #[v, .int .i64 q.turn] ∧ Files w v q.files
theorem Quilts.below {w w' : World} {v : Value} {q : Quilt} (h : Quilts w v q) (hb : Below w.heap.size w w') : Quilts w' v q := by
  obtain ⟨u, e, h⟩ := h
  exact ⟨u, e, h.below hb⟩
/-- A copy: is there one, and which. -/
structure Copy where
  is : Bool
  quilt : Quilt
def Copies (w : World) (cv : Value) (c : Copy) : Prop := ∃ v, cv = .agg #[.bool c.is, v, .int .i64 c.quilt.turn] ∧ Files w v c.quilt.files
def sameCopy (a b : Copy) : Bool := a.is == b.is && (!a.is || decide (a.quilt = b.quilt))

theorem quilt_eq (a b : Quilt) : a = b ↔ a.turn = b.turn ∧ a.files = b.files := by
  obtain ⟨x, y⟩ := a; obtain ⟨z, t⟩ := b; simp; exact and_comm

set_option maxHeartbeats 400000 in
theorem quilt_Same (va vb : Value) (a b : Quilt) (w : World) (ha : Quilts w va a) (hb : Quilts w vb b) :
    Calls Try.prog 76 #[va, vb] w fun e w' => e = .returned (.bool (decide (a = b))) ∧ Below w.heap.size w w' := by
  obtain ⟨va, rfl, ha⟩ := ha
  obtain ⟨vb, rfl, hb⟩ := hb
  obtain ⟨ao, ca, rfl, hca, hca'⟩ := ha.parts
  obtain ⟨bo, cb, rfl, hcb, hcb'⟩ := hb.parts
  have HA := Lib.hid ha
  have HB := Lib.hid hb
  clear ha hb
  by_cases ht : a.turn = b.turn
  · have e1 : (a.turn == b.turn) = true := by simp [ht]
    have HT := Lib.hid ht
    clear ht
    go_enter Try.func76, Try.ntmps76
    go_wp2_with fail
    have B2 := Lib.hid (two (below_alloc w (.cells #[.slice ao a.files.length ca, .int .i64 a.turn] 34)) (below_alloc _ (.cells #[.slice bo b.files.length cb, .int .i64 b.turn] 34)))
    refine (slices_Equal_files _ _ _ _ _ (HA.out.below B2.out) (HB.out.below B2.out)).mono ?_
    rintro e w1 ⟨rfl, hb1⟩
    have HB1 := Lib.hid hb1
    clear hb1
    go_wp2_with fail
    go_ret
    exact ⟨ret_bool (by rw [Bool.eq_iff_iff]; simp [quilt_eq, HT.out]), two B2.out HB1.out⟩
  · have e1 : (a.turn == b.turn) = false := by simp [ht]
    have HT := Lib.hid ht
    clear ht
    go_enter Try.func76, Try.ntmps76
    go_wp2_with fail
    go_ret
    exact ⟨ret_bool (by simp [quilt_eq, HT.out]), two (below_alloc w _) (below_alloc _ _)⟩

set_option maxHeartbeats 400000 in
theorem ref_SameQuilt (va vb : Value) (a b : Quilt) (w : World) (ha : Quilts w va a) (hb : Quilts w vb b) :
    Calls Try.prog 22 #[va, vb] w fun e w' => e = .returned (.bool (decide (a = b))) ∧ Below w.heap.size w w' := by
  obtain ⟨va, rfl, ha⟩ := ha
  obtain ⟨vb, rfl, hb⟩ := hb
  obtain ⟨ao, ca, rfl, hca, hca'⟩ := ha.parts
  obtain ⟨bo, cb, rfl, hcb, hcb'⟩ := hb.parts
  have HA := Lib.hid ha
  have HB := Lib.hid hb
  clear ha hb
  have B2 := Lib.hid (two (below_alloc w (.cells #[.slice ao a.files.length ca, .int .i64 a.turn] 34)) (below_alloc _ (.cells #[.slice bo b.files.length cb, .int .i64 b.turn] 34)))
  have C := ref_SameFiles _ _ _ _ _ (HA.out.below B2.out) (HB.out.below B2.out)
  by_cases hf : a.files = b.files
  · have H : Hid (decide (a.files = b.files) = true) := by simp [Hid, hf]
    rw [H.out] at C
    have HC := Lib.hid C
    have HF := Lib.hid hf
    clear hf C
    go_enter Try.func22, Try.ntmps22
    go_wp2_with fail
    refine HC.out.mono ?_
    rintro e w1 ⟨rfl, hb1⟩
    obtain ⟨hc, _⟩ := bcell hb1
    have HB1 := Lib.hid hb1
    clear hb1
    go_wp2_with fail
    go_ret
    exact ⟨ret_bool (by rw [Bool.eq_iff_iff]; simp [quilt_eq, HF.out]), two B2.out HB1.out⟩
  · have H : Hid (decide (a.files = b.files) = false) := by simp [Hid, hf]
    rw [H.out] at C
    have HC := Lib.hid C
    have HF := Lib.hid hf
    clear hf C
    go_enter Try.func22, Try.ntmps22
    go_wp2_with fail
    refine HC.out.mono ?_
    rintro e w1 ⟨rfl, hb1⟩
    obtain ⟨hc, _⟩ := bcell hb1
    have HB1 := Lib.hid hb1
    clear hb1
    go_wp2_with fail
    go_ret
    exact ⟨ret_bool (by simp [quilt_eq, HF.out]), two B2.out HB1.out⟩

theorem sc_is {a b : Copy} (h : a.is ≠ b.is) : sameCopy a b = false := by simp [sameCopy, h]
theorem sc_none {a b : Copy} (h : a.is = b.is) (ha : a.is = false) : sameCopy a b = true := by simp [sameCopy, ha, ← h]
theorem sc_both {a b : Copy} (ha : a.is = true) (hb : b.is = true) : sameCopy a b = decide (a.quilt = b.quilt) := by simp [sameCopy, ha, hb]

set_option maxHeartbeats 400000 in
theorem vote_Same (va vb : Value) (a b : Copy) (w : World) (ha : Copies w va a) (hb : Copies w vb b) :
    Calls Try.prog 23 #[va, vb] w fun e w' => e = .returned (.bool (sameCopy a b)) ∧ Below w.heap.size w w' := by
  obtain ⟨va, rfl, ha⟩ := ha
  obtain ⟨vb, rfl, hb⟩ := hb
  obtain ⟨ao, ca, rfl, hca, hca'⟩ := ha.parts
  obtain ⟨bo, cb, rfl, hcb, hcb'⟩ := hb.parts
  have HA := Lib.hid ha
  have HB := Lib.hid hb
  clear ha hb
  have B2 := Lib.hid (two (below_alloc w (.cells #[.bool a.is, .slice ao a.quilt.files.length ca, .int .i64 a.quilt.turn] 36)) (below_alloc _ (.cells #[.bool b.is, .slice bo b.quilt.files.length cb, .int .i64 b.quilt.turn] 36)))
  cases hia : a.is <;> cases hib : b.is
  · have H := Lib.hid (sc_none (a := a) (b := b) (by rw [hia, hib]) hia)
    rw [hia, hib] at B2
    clear hia hib
    go_enter Try.func23, Try.ntmps23
    go_wp2_with fail
    go_ret
    exact ⟨ret_bool (by rw [H.out]), B2.out⟩
  · have H := Lib.hid (sc_is (a := a) (b := b) (by rw [hia, hib]; decide))
    rw [hia, hib] at B2
    clear hia hib
    go_enter Try.func23, Try.ntmps23
    go_wp2_with fail
    go_ret
    exact ⟨ret_bool (by rw [H.out]), B2.out⟩
  · have H := Lib.hid (sc_is (a := a) (b := b) (by rw [hia, hib]; decide))
    rw [hia, hib] at B2
    clear hia hib
    go_enter Try.func23, Try.ntmps23
    go_wp2_with fail
    go_ret
    exact ⟨ret_bool (by rw [H.out]), B2.out⟩
  · have H := Lib.hid (sc_both hia hib)
    rw [hia, hib] at B2
    clear hia hib
    go_enter Try.func23, Try.ntmps23
    go_wp2_with fail
    refine (quilt_Same _ _ a.quilt b.quilt _ ⟨_, rfl, HA.out.below B2.out⟩ ⟨_, rfl, HB.out.below B2.out⟩).mono ?_
    rintro e w1 ⟨rfl, hb1⟩
    have HB1 := Lib.hid hb1
    clear hb1
    go_wp2_with fail
    go_ret
    exact ⟨ret_bool (by rw [H.out]), two B2.out HB1.out⟩

set_option maxHeartbeats 400000 in
theorem ref_SameCopy (va vb : Value) (a b : Copy) (w : World) (ha : Copies w va a) (hb : Copies w vb b) :
    Calls Try.prog 24 #[va, vb] w fun e w' => e = .returned (.bool (sameCopy a b)) ∧ Below w.heap.size w w' := by
  obtain ⟨va, rfl, ha⟩ := ha
  obtain ⟨vb, rfl, hb⟩ := hb
  obtain ⟨ao, ca, rfl, hca, hca'⟩ := ha.parts
  obtain ⟨bo, cb, rfl, hcb, hcb'⟩ := hb.parts
  have HA := Lib.hid ha
  have HB := Lib.hid hb
  clear ha hb
  have B2 := Lib.hid (two (below_alloc w (.cells #[.bool a.is, .slice ao a.quilt.files.length ca, .int .i64 a.quilt.turn] 36)) (below_alloc _ (.cells #[.bool b.is, .slice bo b.quilt.files.length cb, .int .i64 b.quilt.turn] 36)))
  cases hia : a.is <;> cases hib : b.is
  · have H := Lib.hid (sc_none (a := a) (b := b) (by rw [hia, hib]) hia)
    rw [hia, hib] at B2
    clear hia hib
    go_enter Try.func24, Try.ntmps24
    go_wp2_with fail
    go_ret
    exact ⟨ret_bool (by rw [H.out]), B2.out⟩
  · have H := Lib.hid (sc_is (a := a) (b := b) (by rw [hia, hib]; decide))
    rw [hia, hib] at B2
    clear hia hib
    go_enter Try.func24, Try.ntmps24
    go_wp2_with fail
    go_ret
    exact ⟨ret_bool (by rw [H.out]), B2.out⟩
  · have H := Lib.hid (sc_is (a := a) (b := b) (by rw [hia, hib]; decide))
    rw [hia, hib] at B2
    clear hia hib
    go_enter Try.func24, Try.ntmps24
    go_wp2_with fail
    go_ret
    exact ⟨ret_bool (by rw [H.out]), B2.out⟩
  · have H := Lib.hid (sc_both hia hib)
    rw [hia, hib] at B2
    clear hia hib
    go_enter Try.func24, Try.ntmps24
    go_wp2_with fail
    refine (ref_SameQuilt _ _ a.quilt b.quilt _ ⟨_, rfl, HA.out.below B2.out⟩ ⟨_, rfl, HB.out.below B2.out⟩).mono ?_
    rintro e w1 ⟨rfl, hb1⟩
    have HB1 := Lib.hid hb1
    clear hb1
    go_wp2_with fail
    go_ret
    exact ⟨ret_bool (by rw [H.out]), two B2.out HB1.out⟩
end Go.Proofs.Ytggpodlecljcbaa
