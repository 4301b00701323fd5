/- The closed fact of chapter 6; two disks side by side. -/
import Derived.Test.YtggpodlecljcbaaWalkK10
import Derived.Test.YtggpodlecljcbaaWalkA
namespace Go.Proofs.Ytggpodlecljcbaa
open Go.RowKit Go.Sort
set_option linter.unusedSimpArgs false
set_option linter.unusedVariables false
theorem same_is (n : Nat) (w : World) :
    Calls Try.prog 14 #[errV n, .int .i64 n] w fun e w' => e = .returned (.bool true) ∧ Below w.heap.size w w' :=
  (law_same n n w).mono fun e w' ⟨h1, h2⟩ => ⟨by rw [h1]; exact ret_bool (by simp), h2 ▸ Below.refl _ _⟩
def textXY : ByteArray := ⟨#[120, 121]⟩
def diskB : DiskS := ⟨[zeros 40, zeros 40, zeros 40], [zeros 40, fullS textXY, zeros 40], [⟨1, fullS textXY⟩], -1, false⟩
def diskC : DiskS := ⟨[zeros 40, fullS textXY, zeros 40], [zeros 40, fullS textXY, zeros 40], [], -1, false⟩
theorem spin1 : writeD (newD 3) 1 textXY = (diskB, 0) := rfl
theorem spin2 : flushD diskB = (diskC, 0) := rfl
theorem spin3 : restartD diskC 0 = diskC := rfl
theorem spin4 : readD diskC 1 = (fullS textXY, 0) := rfl
theorem textXY_full : (fullS textXY).size = 40 := fullS_size _ (by decide)
theorem textXY_two : (fullS textXY).extract 0 2 = textXY := by decide +kernel
theorem diskB_ok : diskB.ok := by have h := (newD_ok (n := 3) (by decide) (by decide)).write 1 textXY; rw [spin1] at h; exact h
theorem diskC_ok : diskC.ok := by have h := diskB_ok.flush; rw [spin2] at h; exact h
theorem Turned.below {ty tt : TypeId} {w w' : World} {L : Dk} {D' : DiskS} (h : Turned ty tt w L D' w') (B : Nat) (hB : B ≤ w.heap.size) (hF : ∀ k, L.foot k → B ≤ k) : ∃ L', L'.b = L.b ∧ DAt ty tt w' L' D' ∧ Below B w w' ∧ ∀ k, L'.foot k → B ≤ k := by
  obtain ⟨L', hb, hd, ho, hf⟩ := h
  exact ⟨L', hb, hd, ho.below B hB hF, fun k hk => (hf k hk).elim (hF k) (fun h => Nat.le_trans hB h)⟩
/-- A disk and the document's, apart. -/
structure TwoD (w : World) (B b m : Nat) (L M : Dk) (D E : DiskS) : Prop where
  d : DiskAt w L D
  r : RefAt w M E
  lb : L.b = b
  mb : M.b = m
  apart : ∀ k, L.foot k → ¬ M.foot k
  lf : ∀ k, L.foot k → B ≤ k
  mf : ∀ k, M.foot k → B ≤ k
section
variable {w w' : World} {B b m : Nat} {L M : Dk} {D E D' : DiskS}
theorem TwoD.left (h : TwoD w B b m L M D E) (t : Turned 148 151 w L D' w') (hB : B ≤ w.heap.size) : ∃ L', TwoD w' B b m L' M D' E ∧ Below B w w' := by
  obtain ⟨L', hb, hd, ho, hf⟩ := t
  refine ⟨L', ⟨hd, h.r.off ho (fun k hk hl => h.apart k hl hk), hb.trans h.lb, h.mb, fun k hk hm => ?_, fun k hk => (hf k hk).elim (h.lf k) (fun h => Nat.le_trans hB h), h.mf⟩, ho.below B hB h.lf⟩
  rcases hf k hk with h1 | h1
  · exact h.apart k h1 hm
  · have := h.r.lt k hm; omega
theorem TwoD.right (h : TwoD w B b m L M D E) (t : Turned 74 153 w M D' w') (hB : B ≤ w.heap.size) : ∃ M', TwoD w' B b m L M' D D' ∧ Below B w w' := by
  obtain ⟨M', hb, hd, ho, hf⟩ := t
  refine ⟨M', ⟨h.d.off ho (fun k hk hl => h.apart k hk hl), hd, h.lb, hb.trans h.mb, fun k hk hm => ?_, h.lf, fun k hk => (hf k hk).elim (h.mf k) (fun h => Nat.le_trans hB h)⟩, ho.below B hB h.mf⟩
  rcases hf k hm with h1 | h1
  · exact h.apart k hk h1
  · have := h.d.lt k hk; omega
theorem TwoD.below (h : TwoD w B b m L M D E) (hb : Below w.heap.size w w') : TwoD w' B b m L M D E := ⟨h.d.below hb, h.r.below hb, h.lb, h.mb, h.apart, h.lf, h.mf⟩
end
set_option maxRecDepth 100000 in
set_option maxHeartbeats 2000000 in
theorem law_spins (w : World) : Calls Try.prog 28 #[] w fun e w' => e = .returned (.bool true) ∧ Below w.heap.size w w' := by
  have CN := Lib.hid (disk_New 3 w (by decide) (by decide))
  go_enter Try.func28, Try.ntmps28
  go_wp2_with fail
  refine CN.out.mono ?_
  rintro e w1 ⟨L, rfl, hd, hb, hf⟩
  have C := disk_Write L (newD 3) 1 textXY w1 hd (newD_ok (by decide) (by decide)) (by decide)
  rw [spin1] at C
  have HB1 := Lib.hid hb
  have HF := Lib.hid hf
  replace C := Lib.hid C
  clear hd hb hf
  go_wp2_with fail
  refine C.out.mono ?_
  rintro e w2 ⟨rfl, ht⟩
  obtain ⟨L2, hl2, hd2, hb2, hf2⟩ := ht.below w.heap.size HB1.out.size HF.out
  have HB2 := Lib.hid (HB1.out.trans hb2)
  have HF2 := Lib.hid hf2
  have C := disk_Flush L2 diskB w2 hd2 diskB_ok
  rw [spin2, hl2] at C
  replace C := Lib.hid C
  have HL2 := Lib.hid hl2
  clear ht hd2 hb2 hf2 hl2
  have he : errV ((diskB, 0) : DiskS × Nat).2 = .nilIface := rfl
  rw [he]
  go_wp2_with fail
  refine C.out.mono ?_
  rintro e w3 ⟨rfl, ht⟩
  obtain ⟨L3, hl3, hd3, hb3, hf3⟩ := ht.below w.heap.size HB2.out.size HF2.out
  have HB3 := Lib.hid (HB2.out.trans hb3)
  have HF3 := Lib.hid hf3
  have C := disk_Restart L3 diskC 0 w3 hd3 diskC_ok (by decide) (by decide) (by decide)
  rw [spin3, hl3, HL2.out] at C
  have HL3 := Lib.hid (hl3.trans HL2.out)
  replace C := Lib.hid C
  clear ht hd3 hb3 hf3 hl3
  have he2 : errV ((diskC, 0) : DiskS × Nat).2 = .nilIface := rfl
  rw [he2]
  go_wp2_with fail
  refine C.out.mono ?_
  rintro e w4 ⟨rfl, ht⟩
  obtain ⟨L4, hl4, hd4, hb4, hf4⟩ := ht.below w.heap.size HB3.out.size HF3.out
  have HB4 := Lib.hid (HB3.out.trans hb4)
  have C := disk_Read L4 diskC 1 w4 hd4
  rw [spin4, hl4, HL3.out] at C
  have CS := Lib.hid fun W hb => disk_Sectors L4 diskC W (hd4.below hb)
  have HL4 := Lib.hid (hl4.trans HL3.out)
  replace C := Lib.hid C
  clear ht hd4 hb4 hf4 hl4
  go_wp2_with fail
  refine C.out.mono ?_
  rintro e w5 ⟨rfl, hq⟩
  rw [hq]
  clear hq
  have hs0 := textXY_full
  have hs1 := textXY_two
  obtain ⟨F, hF⟩ : ∃ F, F = fullS textXY := ⟨_, rfl⟩
  rw [← hF] at hs0 hs1
  have hF3 : errV 0 = .nilIface := rfl
  rw [← hF, hF3]
  clear hF hF3
  have HS0 := Lib.hid hs0
  have HS1 := Lib.hid hs1
  clear hs0 hs1
  go_wp2_with fail
  refine (same_is 0 _).mono ?_
  rintro e w6 ⟨rfl, hb6⟩
  have HB6 := Lib.hid (HB4.out.trans (hb6.mono HB4.out.size))
  have H6 := Lib.hid hb6
  clear hb6
  go_wp2_with fail
  refine (same_is 0 _).mono ?_
  rintro e w7 ⟨rfl, hb7⟩
  have HB7 := Lib.hid (HB6.out.trans (hb7.mono HB6.out.size))
  have H7 := Lib.hid (two H6.out hb7)
  clear hb7
  go_wp2_with fail
  refine (same_is 0 _).mono ?_
  rintro e w8 ⟨rfl, hb8⟩
  have HB8 := Lib.hid (HB7.out.trans (hb8.mono HB7.out.size))
  have H8 := Lib.hid (two H7.out hb8)
  clear hb8
  have hs0 := HS0.out
  have hs1 : F.extract 0 2 = ⟨#[120, 121]⟩ := HS1.out
  have C := CS.out w8 H8.out
  rw [HL4.out] at C
  replace C := Lib.hid C
  go_wp2_with fail
  refine C.out.mono ?_
  rintro e w9 ⟨rfl, hq⟩
  rw [hq]
  go_wp2_with fail
  go_ret
  exact ⟨rfl, HB8.out⟩
end Go.Proofs.Ytggpodlecljcbaa
