/- The closed fact of chapter 6; two disks side by side. -/
import Derived.Test.YtggpodlecljcbacWalkK10
import Derived.Test.YtggpodlecljcbacWalkA
namespace Go.Proofs.Ytggpodlecljcbac
open Go.RowKit Go.Sort
set_option linter.unusedSimpArgs false
set_option linter.unusedVariables false
def textXY : ByteArray := ⟨#[120, 121]⟩
def diskB : DiskS := ⟨[zeros 40, zeros 40, zeros 40], [zeros 40, fullS textXY, zeros 40], [⟨1, fullS textXY⟩], -1, false⟩
def diskC : DiskS := ⟨[zeros 40, fullS textXY, zeros 40], [zeros 40, fullS textXY, zeros 40], [], -1, false⟩
theorem spin1 : writeD (newD 3) 1 textXY = (diskB, 0) := rfl
theorem spin2 : flushD diskB = (diskC, 0) := rfl
theorem spin3 : restartD diskC 0 = diskC := rfl
theorem spin4 : readD diskC 1 = (fullS textXY, 0) := rfl
theorem textXY_full : (fullS textXY).size = 40 := fullS_size _ (by decide)
theorem textXY_two : (fullS textXY).extract 0 2 = textXY := by decide +kernel
theorem diskB_ok : diskB.ok := by have h := (newD_ok (n := 3) (by decide) (by decide)).write 1 textXY; rw [spin1] at h; exact h
theorem diskC_ok : diskC.ok := by have h := diskB_ok.flush; rw [spin2] at h; exact h
theorem Turned.below {ty tt : TypeId} {w w' : World} {L : Dk} {D' : DiskS} (h : Turned ty tt w L D' w') (B : Nat) (hB : B ≤ w.heap.size) (hF : ∀ k, L.foot k → B ≤ k) : ∃ L', L'.b = L.b ∧ DAt ty tt w' L' D' ∧ Below B w w' ∧ ∀ k, L'.foot k → B ≤ k := by
  obtain ⟨L', hb, hd, ho, hf⟩ := h
  exact ⟨L', hb, hd, ho.below B hB hF, fun k hk => (hf k hk).elim (hF k) (fun h => Nat.le_trans hB h)⟩
section
variable {w w' : World} {B b m : Nat} {L M : Dk} {D E D' : DiskS}
end
end Go.Proofs.Ytggpodlecljcbac
