/- The walks over quilts and copies that hold two against each other. -/
import Derived.Test.YtggpodlecljcbacWalkB
namespace Go.Proofs.Ytggpodlecljcbac
open Go.RowKit Go.Sort

structure Quilt where
  files : List File
  turn : Int
  deriving DecidableEq
def Quilts (w : World) (qv : Value) (q : Quilt) : Prop := ∃ v, qv = .agg #[v, .int .i64 q.turn] ∧ Files w v q.files
theorem Quilts.below {w w' : World} {v : Value} {q : Quilt} (h : Quilts w v q) (hb : Below w.heap.size w w') : Quilts w' v q := by
  obtain ⟨u, e, h⟩ := h
  exact ⟨u, e, h.below hb⟩
/-- A copy: is there one, and which. -/
structure Copy where
  is : Bool
  quilt : Quilt
def Copies (w : World) (cv : Value) (c : Copy) : Prop := ∃ v, cv = .agg #[.bool c.is, v, .int .i64 c.quilt.turn] ∧ Files w v c.quilt.files
def sameCopy (a b : Copy) : Bool := a.is == b.is && (!a.is || decide (a.quilt = b.quilt))

theorem quilt_eq (a b : Quilt) : a = b ↔ a.turn = b.turn ∧ a.files = b.files := by
  obtain ⟨x, y⟩ := a; obtain ⟨z, t⟩ := b; simp; exact and_comm

set_option maxHeartbeats 400000 in
theorem ref_SameQuilt (va vb : Value) (a b : Quilt) (w : World) (ha : Quilts w va a) (hb : Quilts w vb b) :
    Calls Try.prog 11 #[va, vb] w fun e w' => e = .returned (.bool (decide (a = b))) ∧ Below w.heap.size w w' := by
  obtain ⟨va, rfl, ha⟩ := ha
  obtain ⟨vb, rfl, hb⟩ := hb
  obtain ⟨ao, ca, rfl, hca, hca'⟩ := ha.parts
  obtain ⟨bo, cb, rfl, hcb, hcb'⟩ := hb.parts
  have HA := Lib.hid ha
  have HB := Lib.hid hb
  clear ha hb
  have B2 := Lib.hid (two (below_alloc w (.cells #[.slice ao a.files.length ca, .int .i64 a.turn] 27)) (below_alloc _ (.cells #[.slice bo b.files.length cb, .int .i64 b.turn] 27)))
  have C := ref_SameFiles _ _ _ _ _ (HA.out.below B2.out) (HB.out.below B2.out)
  by_cases hf : a.files = b.files
  · have H : Hid (decide (a.files = b.files) = true) := by simp [Hid, hf]
    rw [H.out] at C
    have HC := Lib.hid C
    have HF := Lib.hid hf
    clear hf C
    go_enter Try.func11, Try.ntmps11
    go_wp2_with fail
    refine HC.out.mono ?_
    rintro e w1 ⟨rfl, hb1⟩
    obtain ⟨hc, _⟩ := bcell hb1
    have HB1 := Lib.hid hb1
    clear hb1
    go_wp2_with fail
    go_ret
    exact ⟨ret_bool (by rw [Bool.eq_iff_iff]; simp [quilt_eq, HF.out]), two B2.out HB1.out⟩
  · have H : Hid (decide (a.files = b.files) = false) := by simp [Hid, hf]
    rw [H.out] at C
    have HC := Lib.hid C
    have HF := Lib.hid hf
    clear hf C
    go_enter Try.func11, Try.ntmps11
    go_wp2_with fail
    refine HC.out.mono ?_
    rintro e w1 ⟨rfl, hb1⟩
    obtain ⟨hc, _⟩ := bcell hb1
    have HB1 := Lib.hid hb1
    clear hb1
    go_wp2_with fail
    go_ret
    exact ⟨ret_bool (by simp [quilt_eq, HF.out]), two B2.out HB1.out⟩

theorem sc_is {a b : Copy} (h : a.is ≠ b.is) : sameCopy a b = false := by simp [sameCopy, h]
theorem sc_none {a b : Copy} (h : a.is = b.is) (ha : a.is = false) : sameCopy a b = true := by simp [sameCopy, ha, ← h]
theorem sc_both {a b : Copy} (ha : a.is = true) (hb : b.is = true) : sameCopy a b = decide (a.quilt = b.quilt) := by simp [sameCopy, ha, hb]

end Go.Proofs.Ytggpodlecljcbac
