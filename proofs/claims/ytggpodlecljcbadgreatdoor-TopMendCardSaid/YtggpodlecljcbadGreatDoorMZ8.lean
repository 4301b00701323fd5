/- The walks of (*store.Store).Commit, Room, Rows. The walk of the document's (*Store).Commit. The closed fact of chapter 6; two disks side by side. The walk of the closed fact of chapter 8. A log on a disk, as a law holds it. What a store on a disk is for a law; Stored, stores. A store and the document's store beside it. -/
import Derived.Test.YtggpodlecljcbadGreatDoorMZ7
import Derived.Test.YtggpodlecljcbadGreatDoorMSY
import Derived.Test.YtggpodlecljcbadGreatDoorMX7
import Derived.Test.YtggpodlecljcbadGreatDoorMY8
import Derived.Test.YtggpodlecljcbadGreatDoorMK4
import Derived.Test.YtggpodlecljcbadGreatDoorMB
import Derived.Test.YtggpodlecljcbadGreatDoorMY7
namespace Go.Proofs.YtggpodlecljcbadGreatDoor
set_option linter.unusedSimpArgs false
set_option linter.unusedVariables false
open Go.RowKit Go.Sort Go.Shelf
attribute [local go_sem] Oper.semAt_some
theorem check_first (many : Nat) (S : StS) (D : DiskS) : (checkZ many S D).2.1.h.first ≤ S.h.first + many := by
  unfold checkZ
  simp only []
  split
  · exact Nat.le_add_right _ _
  · exact Nat.le_refl _
theorem StoreTo.after {w w1 w' : World} {sb lb many : Nat} {L : Dk} {S' : StS} {D' : DiskS} {rv : Value} (hb : Below w.heap.size w w1) (h : StoreTo w1 L lb sb rv many D' S' w') : StoreTo w L lb sb rv many D' S' w' := by
  obtain ⟨L', lb', rv', e, d, s, o, g, f⟩ := h
  have hz := hb.size
  refine ⟨L', lb', rv', e, d, s, (off_below hb _).trans o (fun _ _ h => h), fun k hk => ?_, ?_⟩
  · rcases g k hk with h | h
    · exact Or.inl h
    · exact Or.inr (by omega)
  · rcases f with f | f
    · exact Or.inl f
    · exact Or.inr (fun a n c e p q => f a n c e p (by have : a.block < w.heap.size := q; show a.block < w1.heap.size; omega))
/-- behind an Add that was refused, or that failed. -/
theorem StoreTo.added {w w5 w6 : World} {sb lb many : Nat} {L : Dk} {S5 : StS} {D6 : DiskS} {rv : Value} {L5 : Dk} {lb5 : Nat} {rv5 : Value} (e5 : L5.b = L.b) (s5 : StAt w5 sb lb5 L5 S5 many rv5) (o5 : Off (stF L lb sb) w w5) (g5 : ∀ k, stF L5 lb5 sb k → stF L lb sb k ∨ w.heap.size ≤ k) (f5 : rv5 = rv ∨ far (fun k => k < w.heap.size) rv5) {nx : Nat} (ha : Added w5 L5 lb5 26 many S5.h.first nx D6 w6) :
    StoreTo w L lb sb rv many D6 ⟨S5.h, nx, S5.rows⟩ w6 := by
  obtain ⟨L6, e6, d6, l6, o6, g6⟩ := ha
  have hsl := s5.lt
  have hll := (Array.getElem?_eq_some_iff.1 s5.log.box).1
  have hz := o5.size
  have hsub : ∀ x, x < w.heap.size → (L5.foot x ∨ x = lb5) → stF L lb sb x := fun x hx h => by
    rcases g5 x (by rcases h with h | h; exact Or.inl h; exact Or.inr (Or.inl h)) with h | h
    · exact h
    · omega
  have hg6 : ∀ k, stF L6 lb5 sb k → stF L5 lb5 sb k ∨ w5.heap.size ≤ k := fun k hk => by
    rcases hk with hk | hk
    · rcases g6 k hk with h | h
      · exact Or.inl (Or.inl h)
      · exact Or.inr h
    · exact Or.inl (Or.inr hk)
  refine ⟨L6, lb5, rv5, e6.trans e5, d6, ⟨?_, l6, s5.rows.turned (by decide) (o6.mono (fun k hk => ?_)) hg6, s5.ls, fun hf => ?_, fun hf => ?_⟩, o5.trans o6 hsub, fun k hk => ?_, f5⟩
  · rw [o6.block sb hsl (fun h => by
      rcases h with h | h
      · exact s5.sf h
      · exact s5.ls h.symm), s5.box]
    unfold boxZ
    rw [e6]
  · rcases hk with hk | hk
    · exact Or.inl hk
    · exact Or.inr (Or.inl hk)
  · rcases g6 _ hf with h | h
    · exact s5.sf h
    · omega
  · rcases g6 _ hf with h | h
    · exact s5.lf h
    · omega
  · rcases hg6 k hk with h | h
    · exact g5 k h
    · exact Or.inr (by omega)
/-- other rows are laid into a store. -/
theorem StoreTo.set {w0 w w6 : World} {sb lb many : Nat} {L : Dk} {S : StS} {D6 : DiskS} {rv v : Value} {rows : List Change} (hb : Below w0.heap.size w0 w) (h : StoreTo w L lb sb rv many D6 S w6) (hr : ChangesF (stF L lb sb) w v rows) (hf : far (fun k => k < w0.heap.size) v) :
    StoreTo w0 L lb sb rv many D6 ⟨S.h, S.next, rows⟩ (w6.setCell ⟨sb, 6, none⟩ v) := by
  obtain ⟨L', lb', rv', e, d, s, o, g, f⟩ := h
  have hz := hb.size
  have hO : Off (fun k => k = sb) w6 (w6.setCell ⟨sb, 6, none⟩ v) := off_setCell (F := fun k => k = sb) w6 ⟨sb, 6, none⟩ rfl v
  refine ⟨L', lb', v, e, d.off hO (fun k hk h => s.sf (h ▸ hk)), ⟨?_, s.log.off hO s.ls rfl, ?_, s.ls, s.sf, s.lf⟩, ((off_below hb _).trans o (fun _ _ h => h)).trans hO (fun x _ h => Or.inr (Or.inr h)), fun k hk => ?_, Or.inr hf⟩
  · exact heap_set_self _ _ _ _ s.box
  · exact (hr.turned (by decide) o g).off (hO.mono (fun x h => Or.inr (Or.inr h)))
  · rcases g k hk with h | h
    · exact Or.inl h
    · exact Or.inr (by omega)
theorem commit_many {many : Nat} {S : StS} {c : List Change} {D : DiskS} (h : 14 < c.length) : commitZ many S c D = (D, S, 2) := by
  have h1 : commitFault many S.rows c = 2 := by unfold commitFault; rw [if_pos h]
  unfold commitZ
  rw [h1, if_pos (by decide)]
theorem commit_fault {many : Nat} {S : StS} {c : List Change} {D : DiskS} {n : Nat} (h : ¬ 14 < c.length) (hn : n ≠ 0) (hf : faultsY c = n) : commitZ many S c D = (D, S, n) := by
  have h1 : commitFault many S.rows c = n := by unfold commitFault; rw [if_neg h, if_pos (by rw [hf]; exact hn), hf]
  unfold commitZ
  rw [h1, if_pos hn]
theorem commit_full {many : Nat} {S : StS} {c : List Change} {D : DiskS} (h : ¬ 14 < c.length) (hf : faultsY c = 0) (hx : 12 < (appsTo S.rows c c.length).length ∨ many < c.length + 1) : commitZ many S c D = (D, S, 7) := by
  have h1 : commitFault many S.rows c = 7 := by unfold commitFault; rw [if_neg h, if_neg (by simp [hf]), if_pos hx]
  unfold commitZ
  rw [h1, if_pos (by decide)]
theorem commit_room {many : Nat} {S : StS} {c : List Change} {D : DiskS} (h : ¬ 14 < c.length) (hf : faultsY c = 0) (hx : ¬ 12 < (appsTo S.rows c c.length).length) (hy : ¬ many < c.length + 1) :
    commitZ many S c D = if (roomZ many S c.length D).2.2 ≠ 0 then roomZ many S c.length D else putZ many c (appsTo S.rows c c.length) (roomZ many S c.length D) := by
  have h1 : commitFault many S.rows c = 0 := by unfold commitFault; rw [if_neg h, if_neg (by simp [hf]), if_neg (by omega)]
  unfold commitZ
  rw [h1, if_neg (by decide)]
set_option maxRecDepth 100000 in
set_option maxHeartbeats 16000000 in
theorem store_Commit (sb lb : Nat) (L : Dk) (D : DiskS) (S : StS) (many : Nat) (rv vc : Value) (c : List Change) (w : World) (hs : StAt w sb lb L S many rv) (h : DiskAt w L D) (hok : D.ok) (hI : InvZ many D S) (hE : S.h.epoch ≤ 20000) (hc : ChangesF (stF L lb sb) w vc c) (hco : ∀ x ∈ c, x.ok) (hcl : c.length ≤ 1000) :
    Calls Tryz.prog 47 #[.pointer (some ⟨sb, 0, none⟩), vc] w fun e w' => e = .returned (errV (commitZ many S c D).2.2) ∧ StoreTo w L lb sb rv many (commitZ many S c D).1 (commitZ many S c D).2.1 w' := by
  obtain ⟨ro, rc, rfl, hrc, hrc'⟩ := hs.rows.rd.parts
  obtain ⟨co, cc, rfl, hcc, hcc'⟩ := hc.rd.parts
  obtain ⟨FZ, hFZ⟩ : ∃ x, x = commitZ many S c D := ⟨_, rfl⟩
  rw [← hFZ]
  have HFZ := Lib.hid hFZ
  have HS := Lib.hid hs
  have HD := Lib.hid h
  have HOK := Lib.hid hok
  have HI := Lib.hid hI
  have HE := Lib.hid hE
  have HF : Hid (S.h.first ≤ 800000) := Lib.hid (by have := hI.f1; omega)
  have HC := Lib.hid hc
  have HCO := Lib.hid hco
  have HM := Lib.hid (And.intro hI.m1 hI.m2)
  have HLEN := Lib.hid hI.len
  have HFEW := Lib.hid hI.few
  obtain ⟨q1, q2, q3, q4, hnx⟩ := hI.parts
  have HWT := Lib.hid q2
  have HNX := Lib.hid hnx
  have H40 := Lib.hid q4
  have HBX : Hid (∀ W, Below w.heap.size w W → W.heap[sb]? = some (.cells (boxZ L S.h (.pointer (some ⟨lb, 0, none⟩)) (.slice ro S.rows.length rc)) 135 (0, 0))) := Lib.hid (fun W hW => (hs.below hW).box)
  clear hFZ hs h hok hI hE hc hco q1 q2 q3 q4 hnx
  have SAME : Hid (∀ W, Below w.heap.size w W → StoreTo w L lb sb (.slice ro S.rows.length rc) many D S W) := Lib.hid (fun W hW => StoreTo.same HS.out (off_below hW _) rfl (HD.out.below hW) (fun k hk => Or.inl hk))
  by_cases h14 : 14 < c.length
  · have h14' : (14 : Int) < (c.length : Int) := by omega
    have HZ : Hid (FZ = (D, S, 2)) := Lib.hid (HFZ.out.trans (commit_many h14))
    clear h14
    go_enter Tryz.func47, Tryz.ntmps47
    go_wp2_with fail
    go_ret
    rw [HZ.out]
    exact ⟨by rw [errV_pos (by simp)]; rfl, SAME.out _ (Below.refl _ _)⟩
  have h14' : ¬ (14 : Int) < (c.length : Int) := by omega
  have H14 := Lib.hid h14
  clear h14
  go_enter Tryz.func47, Tryz.ntmps47
  go_wp2_with fail
  go_loopw [17] (fun iv wr => ∃ k : Nat, k ≤ c.length ∧ iv = .int .i64 k ∧ faultsY (c.drop k) = faultsY c ∧ Below w.heap.size w wr) (fun iv _ => c.length - (intOf iv).toNat)
  case atStart => exact ⟨0, Nat.zero_le _, rfl, rfl, Below.refl _ _⟩
  case round =>
    obtain ⟨k, hk, rfl, hfk, hbw⟩ := hrel
    have HFK := Lib.hid hfk
    have HBW := Lib.hid hbw
    clear hfk hbw
    by_cases hlt : k < c.length
    · obtain ⟨cb, cof, rfl, hlb, x0, x1, x2⟩ := Changes.cell (HC.out.below HBW.out).rd k hlt
      obtain ⟨x, hx⟩ : ∃ x, x = c[k] := ⟨_, rfl⟩
      have hxo : x.ok := by rw [hx]; exact HCO.out _ (List.getElem_mem hlt)
      have CK := fun W => row_Check x.key x.val x.gone W hxo.1 hxo.2
      obtain ⟨n, hn⟩ : ∃ n, n = changeFault x := ⟨_, rfl⟩
      rw [show (⟨x.key, x.val, x.gone⟩ : Change) = x from rfl, ← hn] at CK
      replace CK := Lib.hid CK
      rw [← hx] at x0 x1 x2
      have HNX1 : Hid (changeFault c[k] = n) := Lib.hid (by rw [hn, hx])
      obtain ⟨W3, hW3⟩ : ∃ W3, W3 = wr.alloc (.cells #[.string x.key, .string x.val, .bool x.gone] 91) := ⟨_, rfl⟩
      have HB3 : Hid (Below w.heap.size w W3) := Lib.hid (by rw [hW3]; exact two HBW.out (below_alloc _ _))
      have HW3 := Lib.hid hW3
      clear hx hxo hn hW3
      go_wp2_with fail
      rw [← HW3.out]
      refine (CK.out _).mono ?_
      rintro e w4 ⟨rfl, hb4⟩
      have HB4 := Lib.hid (two HB3.out hb4)
      clear hb4 x0 x1 x2
      by_cases hn0 : n = 0
      · have HNN := Lib.hid (faults_next hlt HFK.out (by rw [HNX1.out]; simp [hn0]))
        rw [show errV n = .nilIface by rw [hn0]; rfl]
        clear hn0
        go_wp2_with fail
        go_roundw
        case rel => exact ⟨k + 1, by omega, by go_num, HNN.out, HB4.out⟩
        case measure => simp [intOf]; omega
      · have HNN := Lib.hid (faults_bad hlt HFK.out (by rw [HNX1.out]; exact hn0))
        have HZ : Hid (FZ = (D, S, n)) := Lib.hid (HFZ.out.trans (commit_fault H14.out hn0 (by rw [HNN.out, HNX1.out])))
        have HN0 := Lib.hid hn0
        rw [errV_pos hn0]
        clear hn0
        go_wp2_with fail
        go_ret
        rw [HZ.out]
        exact ⟨by rw [errV_pos HN0.out]; rfl, SAME.out _ HB4.out⟩
    · obtain rfl : k = c.length := by omega
      obtain ⟨wx, hwx⟩ : ∃ wx : World, wx = wr := ⟨_, rfl⟩
      subst hwx
      have HF0 : Hid (faultsY c = 0) := Lib.hid (by rw [← HFK.out, List.drop_length]; rfl)
      obtain ⟨c0, c1, c2, c3, c4, c5, c6, cf⟩ := box_cell (HBX.out wx HBW.out)
      clear c1 c2 c3 c4
      have CA := row_ApplyO (.slice ro S.rows.length rc) (.slice co c.length cc) S.rows c wx (HS.out.rows.rd.below HBW.out) (HC.out.rd.below HBW.out) HI.out.rises (by have := HFEW.out; omega) (by have := H14.out; omega)
      obtain ⟨rn, hrn⟩ : ∃ x, x = appsTo S.rows c c.length := ⟨_, rfl⟩
      rw [← hrn] at CA
      have HRN := Lib.hid hrn
      have HCA := Lib.hid CA
      clear CA hrn
      go_wp2_with fail
      refine HCA.out.mono ?_
      rintro e w3 ⟨v3, rfl, ho3, hb3⟩
      obtain ⟨ao3, ac3, rfl, hac3, hac3'⟩ := own_slice ho3
      have HO3 := Lib.hid ho3
      have HB3 := Lib.hid (two HBW.out hb3)
      clear ho3 hb3 c0 c5 c6 cf
      by_cases h12 : 12 < rn.length
      · have h12' : (12 : Int) < (rn.length : Int) := by omega
        have HZ : Hid (FZ = (D, S, 7)) := Lib.hid (HFZ.out.trans (commit_full H14.out HF0.out (Or.inl (by rw [← HRN.out]; exact h12))))
        clear h12
        go_wp2_with fail
        go_ret
        rw [HZ.out]
        exact ⟨by rw [errV_pos (by simp)]; rfl, SAME.out _ HB3.out⟩
      have h12' : ¬ (12 : Int) < (rn.length : Int) := by omega
      have H12 := Lib.hid h12
      clear h12
      obtain ⟨nl, hnl⟩ : ∃ x, x = D.now.length := ⟨_, rfl⟩
      have HNL : Hid (nl = 26 + many) := Lib.hid (hnl.trans HLEN.out)
      have hnl1 : 26 ≤ nl := by rw [HNL.out]; omega
      have hnl2 : nl ≤ 60 := by rw [HNL.out]; have := HM.out.2; omega
      have CS : Hid (∀ W, Below w.heap.size w W → Calls Tryz.prog 74 #[.pointer (some ⟨L.b, 0, none⟩)] W fun e w' => e = .returned (.int .i64 nl) ∧ Below W.heap.size W w') := Lib.hid (fun V hV => by
        have := disk_Sectors L D V (HD.out.below hV)
        rw [← hnl] at this
        exact this.mono fun e w' h => ⟨h.1, by rw [h.2]; exact Below.refl _ _⟩)
      have CR : Hid (∀ W, Below w.heap.size w W → Calls Tryz.prog 75 #[.pointer (some ⟨lb, 0, none⟩)] W fun e w' => e = .returned (.int .i64 ((many : Int) - S.next)) ∧ Below W.heap.size W w') := Lib.hid fun W hW => log_Room lb L 26 many S.h.first S.next W (HS.out.below hW).log HNX.out (by have := HM.out.2; omega)
      have hw26 : IntKind.i64.wrap ((nl : Int) - 26) = (nl : Int) - 26 := by rw [IntKind.wrap_i64]; omega
      clear hnl
      obtain ⟨c0, c1, c2, c3, c4, c5, c6, cf⟩ := box_cell (HBX.out w3 HB3.out)
      clear c1 c2 c3 c4 c5 c6 cf
      go_wp2_with fail
      refine (CS.out _ HB3.out).mono ?_
      rintro e w4 ⟨rfl, hb4⟩
      have HO34 := Lib.hid hb4
      have HB4 := Lib.hid (two HB3.out hb4)
      clear hb4 c0
      by_cases hmc : many < c.length + 1
      · have hmc' : ((nl : Int) - 26) < (c.length : Int) + 1 := by rw [HNL.out]; omega
        have HZ : Hid (FZ = (D, S, 7)) := Lib.hid (HFZ.out.trans (commit_full H14.out HF0.out (Or.inr hmc)))
        clear hmc
        go_wp2_with fail
        go_ret
        rw [HZ.out]
        exact ⟨by rw [errV_pos (by simp)]; rfl, SAME.out _ HB4.out⟩
      have hmc' : ¬ ((nl : Int) - 26) < (c.length : Int) + 1 := by rw [HNL.out]; omega
      have HZR : Hid (FZ = if (roomZ many S c.length D).2.2 ≠ 0 then roomZ many S c.length D else putZ many c rn (roomZ many S c.length D)) := Lib.hid (by rw [HFZ.out, HRN.out]; exact commit_room H14.out HF0.out (by rw [← HRN.out]; exact H12.out) hmc)
      clear hmc
      obtain ⟨c0, c1, c2, c3, c4, c5, c6, cf⟩ := box_cell (HBX.out w4 HB4.out)
      clear c0 c1 c2 c3 c4 c6 cf
      go_wp2_with fail
      refine (CR.out _ HB4.out).mono ?_
      rintro e wq ⟨rfl, hbq⟩
      have HO3Q := Lib.hid (two HO34.out hbq)
      have HBQ := Lib.hid (two HB4.out hbq)
      clear hbq c5
      have HCQ : Hid (ChangesF (stF L lb sb) wq (.slice co c.length cc) c) := Lib.hid (HC.out.below HBQ.out)
      have HVQ : Hid (ChangesF (stF L lb sb) wq (.slice ao3 rn.length ac3) rn ∧ far (fun k => k < w.heap.size) (.slice ao3 rn.length ac3)) := Lib.hid (by
        have hsz := HBW.out.size
        have hfr := far_own HO3.out
        have hsl := HS.out.lt
        have hll := (Array.getElem?_eq_some_iff.1 HS.out.log.box).1
        have hfw : far (fun k => k < w.heap.size) (.slice ao3 rn.length ac3) := fun a n cp e hn hf => hfr a n cp e hn (by have : a.block < w.heap.size := hf; show a.block < wx.heap.size; omega)
        refine ⟨⟨Rd.below (SL.of_own HO3.out) HO3Q.out, fun a n cp e hn hf => hfw a n cp e hn ?_⟩, hfw⟩
        show a.block < w.heap.size
        rcases hf with hf | hf | hf
        · exact HD.out.lt _ hf
        · rw [hf]; exact hll
        · rw [hf]; exact hsl)
      by_cases hro : many < S.next + c.length + 1
      · have hro' : ((many : Int) - S.next) < (c.length : Int) + 1 := by omega
        have CC := store_Checkpoint sb lb L D S many (.slice ro S.rows.length rc) wq (HS.out.below HBQ.out) (HD.out.below HBQ.out) HOK.out H40.out HLEN.out (by have := HM.out.1; omega) (fun x hx => (HI.out.good x hx).1) HFEW.out (by have := HE.out; omega) HI.out.hok.2.1 HI.out.hok.2.2.2.1 (by have := HF.out; omega) (by rw [HWT.out]; exact Nat.zero_le _)
        have hcf := check_first many S D
        have hok5 := keep_checkZ keptY_ok many S D HOK.out
        have hcs := checkZ_cases HI.out (by have := HE.out; omega)
        have hrz : roomZ many S c.length D = checkZ many S D := by unfold roomZ; rw [if_pos hro]
        obtain ⟨⟨D5, S5, n5⟩, hp5⟩ : ∃ p, p = checkZ many S D := ⟨_, rfl⟩
        rw [← hp5] at CC hcf hok5 hcs hrz
        dsimp only at CC hcf hok5
        have HZ1 : Hid (FZ = if n5 ≠ 0 then (D5, S5, n5) else putZ many c rn (D5, S5, n5)) := Lib.hid (by rw [HZR.out, hrz])
        have HCC := Lib.hid CC
        have HCF := Lib.hid hcf
        have HOK5 := Lib.hid hok5
        have HCS := Lib.hid hcs
        clear hro CC hcf hok5 hcs hrz hp5
        go_wp2_with fail
        refine HCC.out.mono ?_
        rintro e w5 ⟨rfl, hst⟩
        have HST5 := Lib.hid hst
        clear hst
        by_cases hn5 : n5 = 0
        · have HPUT : Hid (FZ = putZ many c rn (D5, S5, 0)) := Lib.hid (by rw [HZ1.out, hn5, if_neg (by simp)])
          have HI5 : Hid (InvZ many D5 S5) := Lib.hid (by
            rcases HCS.out with ⟨E, S', h1, h2, _⟩ | ⟨E, h1, _⟩
            · simp only [Prod.mk.injEq] at h1
              rw [h1.1, h1.2.1]; exact h2
            · simp only [Prod.mk.injEq] at h1
              rw [hn5] at h1
              exact absurd h1.2.2 (by decide))
          have HFI5 : Hid (S5.h.first ≤ 900000) := Lib.hid (by have h1 := HCF.out; have h2 := HF.out; have h3 := HM.out.2; omega)
          rw [show errV n5 = .nilIface by rw [hn5]; rfl]
          clear hn5
          obtain ⟨L5, lb5, rv5, e5, d5, s5, o5, g5, f5⟩ := HST5.out
          have hcq := HCQ.out.turned (G := stF L5 lb5 sb) (by decide) o5 g5
          have CAD := log_Add lb5 L5 D5 26 many S5.h.first S5.next (.slice co c.length cc) c w5 s5.log d5 HOK5.out s5.lf (hcq.moved (by decide) (fun x hx => Or.inl (Or.inl hx))) HCO.out (by rw [HI5.out.parts.2.1]; exact Nat.zero_le _) hcl (by have := HM.out.2; omega) HI5.out.parts.2.2.2.2 (by have := HFI5.out; omega)
          have hpu := HPUT.out
          unfold putZ at hpu
          dsimp only at hpu
          obtain ⟨⟨D6, n6⟩, hq6⟩ : ∃ q, q = addY 26 many S5.h.first S5.next c D5 := ⟨_, rfl⟩
          rw [← hq6] at CAD hpu
          dsimp only at CAD hpu
          have HCAD := Lib.hid CAD
          have HPU := Lib.hid hpu
          have HAD : Hid (∀ nx w6, Added w5 L5 lb5 26 many S5.h.first nx D6 w6 → StoreTo wq L lb sb (.slice ro S.rows.length rc) many D6 ⟨S5.h, nx, S5.rows⟩ w6) := Lib.hid (fun nx w6 ha => StoreTo.added e5 s5 o5 g5 f5 ha)
          obtain ⟨c0, c1, c2, c3, c4, c5, c6, cf⟩ := box_cell s5.box
          clear c0 c1 c2 c3 c4 c6 cf e5 d5 s5 o5 g5 f5 hcq CAD hpu hq6
          go_wp2_with fail
          refine HCAD.out.mono ?_
          rintro e w6 ⟨rfl, ha⟩
          clear c5
          by_cases hn6 : n6 = 0
          · have hto := HAD.out _ _ ha
            rw [hn6, nextY, if_pos rfl] at hto
            have HTO := Lib.hid hto
            have HZ : Hid (FZ = (D6, ⟨S5.h, S5.next + c.length + 1, rn⟩, 0)) := Lib.hid (by rw [HPU.out, if_pos hn6])
            obtain ⟨L6, lb6, rv6, e6, d6, s6, o6, g6, f6⟩ := hto
            obtain ⟨c0, c1, c2, c3, c4, c5, c6, cf⟩ := box_cell s6.box
            rw [show errV n6 = .nilIface by rw [hn6]; rfl]
            clear hn6 ha c0 c1 c2 c3 c4 c5 e6 d6 s6 o6 g6 f6
            go_wp2_with fail
            go_ret
            rw [HZ.out]
            exact ⟨rfl, StoreTo.set HBQ.out HTO.out HVQ.out.1 HVQ.out.2⟩
          · have hto := HAD.out _ _ ha
            rw [nextY, if_neg hn6] at hto
            have HTO := Lib.hid (hto.after HBQ.out)
            have HZ : Hid (FZ = (D6, S5, n6)) := Lib.hid (by rw [HPU.out, if_neg hn6])
            have HN6 := Lib.hid hn6
            rw [errV_pos hn6]
            clear hn6 ha hto
            go_wp2_with fail
            go_ret
            rw [HZ.out]
            exact ⟨by rw [errV_pos HN6.out]; rfl, HTO.out⟩
        · have HZ : Hid (FZ = (D5, S5, n5)) := Lib.hid (by rw [HZ1.out, if_pos hn5])
          have HN5 := Lib.hid hn5
          rw [errV_pos hn5]
          clear hn5
          go_wp2_with fail
          go_ret
          rw [HZ.out]
          exact ⟨by rw [errV_pos HN5.out]; rfl, HST5.out.after HBQ.out⟩
      · have hro' : ¬ ((many : Int) - S.next) < (c.length : Int) + 1 := by omega
        have HPUT : Hid (FZ = putZ many c rn (D, S, 0)) := Lib.hid (by rw [HZR.out, show roomZ many S c.length D = (D, S, 0) by unfold roomZ; rw [if_neg hro]]; rfl)
        have HST5 : Hid (StoreTo wq L lb sb (.slice ro S.rows.length rc) many D S wq) := Lib.hid (StoreTo.same (HS.out.below HBQ.out) (Off.refl _ _) rfl (HD.out.below HBQ.out) (fun k hk => Or.inl hk))
        have HI5 := HI
        have HOK5 := HOK
        have HFI5 : Hid (S.h.first ≤ 900000) := Lib.hid (by have := HF.out; omega)
        clear hro
        obtain ⟨L5, lb5, rv5, e5, d5, s5, o5, g5, f5⟩ := HST5.out
        have hcq := HCQ.out.turned (G := stF L5 lb5 sb) (by decide) o5 g5
        have CAD := log_Add lb5 L5 D 26 many S.h.first S.next (.slice co c.length cc) c wq s5.log d5 HOK5.out s5.lf (hcq.moved (by decide) (fun x hx => Or.inl (Or.inl hx))) HCO.out (by rw [HI5.out.parts.2.1]; exact Nat.zero_le _) hcl (by have := HM.out.2; omega) HI5.out.parts.2.2.2.2 (by have := HFI5.out; omega)
        have hpu := HPUT.out
        unfold putZ at hpu
        dsimp only at hpu
        obtain ⟨⟨D6, n6⟩, hq6⟩ : ∃ q, q = addY 26 many S.h.first S.next c D := ⟨_, rfl⟩
        rw [← hq6] at CAD hpu
        dsimp only at CAD hpu
        have HCAD := Lib.hid CAD
        have HPU := Lib.hid hpu
        have HAD : Hid (∀ nx w6, Added wq L5 lb5 26 many S.h.first nx D6 w6 → StoreTo wq L lb sb (.slice ro S.rows.length rc) many D6 ⟨S.h, nx, S.rows⟩ w6) := Lib.hid (fun nx w6 ha => StoreTo.added e5 s5 o5 g5 f5 ha)
        obtain ⟨c0, c1, c2, c3, c4, c5, c6, cf⟩ := box_cell s5.box
        clear c0 c1 c2 c3 c4 c6 cf e5 d5 s5 o5 g5 f5 hcq CAD hpu hq6
        go_wp2_with fail
        refine HCAD.out.mono ?_
        rintro e w6 ⟨rfl, ha⟩
        clear c5
        by_cases hn6 : n6 = 0
        · have hto := HAD.out _ _ ha
          rw [hn6, nextY, if_pos rfl] at hto
          have HTO := Lib.hid hto
          have HZ : Hid (FZ = (D6, ⟨S.h, S.next + c.length + 1, rn⟩, 0)) := Lib.hid (by rw [HPU.out, if_pos hn6])
          obtain ⟨L6, lb6, rv6, e6, d6, s6, o6, g6, f6⟩ := hto
          obtain ⟨c0, c1, c2, c3, c4, c5, c6, cf⟩ := box_cell s6.box
          rw [show errV n6 = .nilIface by rw [hn6]; rfl]
          clear hn6 ha c0 c1 c2 c3 c4 c5 e6 d6 s6 o6 g6 f6
          go_wp2_with fail
          go_ret
          rw [HZ.out]
          exact ⟨rfl, StoreTo.set HBQ.out HTO.out HVQ.out.1 HVQ.out.2⟩
        · have hto := HAD.out _ _ ha
          rw [nextY, if_neg hn6] at hto
          have HTO := Lib.hid (hto.after HBQ.out)
          have HZ : Hid (FZ = (D6, S, n6)) := Lib.hid (by rw [HPU.out, if_neg hn6])
          have HN6 := Lib.hid hn6
          rw [errV_pos hn6]
          clear hn6 ha hto
          go_wp2_with fail
          go_ret
          rw [HZ.out]
          exact ⟨by rw [errV_pos HN6.out]; rfl, HTO.out⟩
theorem store_Rows (sb lb : Nat) (L : Dk) (S : StS) (many : Nat) (rv : Value) (w : World) (hs : StAt w sb lb L S many rv) (hn : S.rows.length ≤ 1000) :
    Calls Tryz.prog 53 #[.pointer (some ⟨sb, 0, none⟩)] w fun e w' => ∃ v, e = .returned v ∧ w'.ownsRow w.heap.size 91 3 v S.rows.length (S.rows.flatMap Change.cells) ∧ Below w.heap.size w w' := by
  have CR := Lib.hid (changes_Clone rv S.rows w hs.rows.rd hn)
  obtain ⟨c0, c1, c2, c3, c4, c5, c6, cf⟩ := box_cell hs.box
  clear c0 c1 c2 c3 c4 c5 hs
  go_enter Tryz.func53, Tryz.ntmps53
  go_wp2_with fail
  refine CR.out.mono ?_
  rintro e w1 ⟨v, rfl, ho, hb⟩
  go_wp2_with fail
  go_ret
  exact ⟨_, rfl, ho, hb⟩
end Go.Proofs.YtggpodlecljcbadGreatDoor
namespace Go.Proofs.YtggpodlecljcbadGreatDoor
set_option linter.unusedSimpArgs false
set_option linter.unusedVariables false
open Go.RowKit Go.Sort Go.Shelf
attribute [local go_sem] Oper.semAt_some
end Go.Proofs.YtggpodlecljcbadGreatDoor
namespace Go.Proofs.YtggpodlecljcbadGreatDoor
open Go.RowKit Go.Sort
set_option linter.unusedSimpArgs false
set_option linter.unusedVariables false
theorem Turned.below {ty tt : TypeId} {w w' : World} {L : Dk} {D' : DiskS} (h : Turned ty tt w L D' w') (B : Nat) (hB : B ≤ w.heap.size) (hF : ∀ k, L.foot k → B ≤ k) : ∃ L', L'.b = L.b ∧ DAt ty tt w' L' D' ∧ Below B w w' ∧ ∀ k, L'.foot k → B ≤ k := by
  obtain ⟨L', hb, hd, ho, hf⟩ := h
  exact ⟨L', hb, hd, ho.below B hB hF, fun k hk => (hf k hk).elim (hF k) (fun h => Nat.le_trans hB h)⟩
section
variable {w w' : World} {B b m : Nat} {L M : Dk} {D E D' : DiskS}
end
end Go.Proofs.YtggpodlecljcbadGreatDoor
namespace Go.Proofs.YtggpodlecljcbadGreatDoor
set_option linter.unusedSimpArgs false
set_option linter.unusedVariables false
open Go.RowKit Go.Sort
/-- a log on a disk; all lies in memory from B on. -/
structure LogD (w : World) (B lb b : Nat) (L : Dk) (D : DiskS) (fr many first next : Nat) : Prop where
  d : DiskAt w L D
  eq : L.b = b
  l : LogAt w lb L fr many first next
  out : ¬ L.foot lb
  low : ∀ k, L.foot k → B ≤ k
  blow : B ≤ lb
def logF (L : Dk) (lb : Nat) : Nat → Prop := fun k => L.foot k ∨ k = lb
section
variable {w w' : World} {B lb b : Nat} {L : Dk} {D D' : DiskS} {fr many first next n' : Nat}
theorem LogD.below (h : LogD w B lb b L D fr many first next) (hb : Below w.heap.size w w') : LogD w' B lb b L D fr many first next := ⟨h.d.below hb, h.eq, h.l.below hb, h.out, h.low, h.blow⟩
theorem LogD.added (h : LogD w B lb b L D fr many first next) (hB : B ≤ w.heap.size) (ha : Added w L lb fr many first n' D' w') : ∃ L', LogD w' B lb b L' D' fr many first n' ∧ Below B w w' ∧ Off (logF L lb) w w' ∧ ∀ k, logF L' lb k → logF L lb k ∨ w.heap.size ≤ k := by
  obtain ⟨L', e, d, l, o, g⟩ := ha
  refine ⟨L', ⟨d, e.trans h.eq, l, fun hf => ?_, fun k hk => ?_, h.blow⟩, ?_, o, fun k hk => ?_⟩
  · rcases g lb hf with hf | hf
    · exact h.out hf
    · have := h.l.lt; omega
  · rcases g k hk with hf | hf
    · exact h.low k hf
    · omega
  · exact o.below B hB (fun x hx => by
      rcases hx with hx | hx
      · exact h.low x hx
      · rw [hx]; exact h.blow)
  · rcases hk with hk | hk
    · rcases g k hk with hf | hf
      · exact Or.inl (Or.inl hf)
      · exact Or.inr hf
    · exact Or.inl (Or.inr hk)
theorem Deeds.log {v : Value} {ds : List (List Change)} (h : Deeds (fun x => x < B ∨ x = lb) w' v ds) (hL : ∀ k, L.foot k → k < B) : Deeds (logF L lb) w' v ds := h.mono fun x hx => by
  rcases hx with hx | hx
  · exact Or.inl (hL x hx)
  · exact Or.inr hx
end
theorem LogD.lt {w : World} {L : Dk} {D : DiskS} {lb B b fr many first next : Nat} (hl : LogD w B lb b L D fr many first next) : ∀ k, logF L lb k → k < w.heap.size := fun x hx => by
  rcases hx with hx | hx
  · exact hl.d.lt x hx
  · rw [hx]; exact hl.l.lt
theorem LogD.as {w : World} {L : Dk} {D : DiskS} {lb B b fr many first n n' : Nat} (h : LogD w B lb b L D fr many first n) (e : n = n') : LogD w B lb b L D fr many first n' := e ▸ h
theorem newD_calm (n : Nat) : Calm (newD n) := ⟨rfl, rfl⟩
theorem newD_40 (n : Nat) : ∀ s ∈ (newD n).now, s.size = 40 := fun s hs => by
  have : s = zeros 40 := List.eq_of_mem_replicate hs
  rw [this]; exact zeros_size 40
theorem newD_len (n : Nat) : (newD n).now.length = n := by simp [newD]
end Go.Proofs.YtggpodlecljcbadGreatDoor
namespace Go.Proofs.YtggpodlecljcbadGreatDoor
set_option linter.unusedSimpArgs false
set_option linter.unusedVariables false
open Go.RowKit Go.Sort
/-- a store on a disk. -/
structure StD (w : World) (B sb b many : Nat) (L : Dk) (lb : Nat) (rv : Value) (D : DiskS) (S : StS) : Prop where
  d : DiskAt w L D
  eq : L.b = b
  s : StAt w sb lb L S many rv
  low : ∀ k, stF L lb sb k → B ≤ k
  inv : InvZ many D S
  ok : D.ok
section
variable {w w' : World} {B sb b many : Nat} {L : Dk} {lb : Nat} {rv : Value} {D D' : DiskS} {S S' : StS}
theorem StD.below (h : StD w B sb b many L lb rv D S) (hb : Below w.heap.size w w') : StD w' B sb b many L lb rv D S := ⟨h.d.below hb, h.eq, h.s.below hb, h.low, h.inv, h.ok⟩
theorem StD.lt (h : StD w B sb b many L lb rv D S) : ∀ k, stF L lb sb k → k < w.heap.size := fun k hk => by
  rcases hk with hk | hk | hk
  · exact h.d.lt _ hk
  · rw [hk]; exact (Array.getElem?_eq_some_iff.1 h.s.log.box).1
  · rw [hk]; exact h.s.lt
theorem StD.to (h : StD w B sb b many L lb rv D S) (hB : B ≤ w.heap.size) (ht : StoreTo w L lb sb rv many D' S' w') (hI : InvZ many D' S') (hok : D'.ok) :
    ∃ L' lb' rv', StD w' B sb b many L' lb' rv' D' S' ∧ Below B w w' ∧ Off (stF L lb sb) w w' ∧ (∀ k, stF L' lb' sb k → stF L lb sb k ∨ w.heap.size ≤ k) ∧ (rv' = rv ∨ far (fun k => k < w.heap.size) rv') := by
  obtain ⟨L', lb', rv', e, d, s, o, g, f⟩ := ht
  refine ⟨L', lb', rv', ⟨d, e.trans h.eq, s, fun k hk => ?_, hI, hok⟩, o.below B hB h.low, o, g, f⟩
  rcases g k hk with h1 | h1
  · exact h.low k h1
  · omega
theorem StD.off {G : Nat → Prop} (h : StD w B sb b many L lb rv D S) (hO : Off G w w') (hG : ∀ k, stF L lb sb k → ¬ G k) (hr : far G rv) : StD w' B sb b many L lb rv D S :=
  ⟨h.d.off hO (fun k hk => hG k (Or.inl hk)), h.eq, ⟨by rw [hO.block _ h.s.lt (hG _ (Or.inr (Or.inr rfl)))]; exact h.s.box, h.s.log.off hO (hG _ (Or.inr (Or.inl rfl))) rfl,
    ⟨(RdF.off (F := G) ⟨h.s.rows.rd, hr⟩ hO).rd, h.s.rows.far⟩, h.s.ls, h.s.sf, h.s.lf⟩, h.low, h.inv, h.ok⟩
theorem StD.as (h : StD w B sb b many L lb rv D S) (e1 : D = D') (e2 : S = S') : StD w B sb b many L lb rv D' S' := e1 ▸ e2 ▸ h
end
/-- who opens a disk of a store has it. -/
theorem open_std (w : World) (B b many : Nat) (L : Dk) (D : DiskS) (S : StS) (hd : DiskAt w L D) (he : L.b = b) (hI : InvZ many D S) (hok : D.ok) (hlow : ∀ k, L.foot k → B ≤ k) (hB : B ≤ w.heap.size) :
    Calls Tryz.prog 51 #[.pointer (some ⟨b, 0, none⟩)] w fun e w' => ∃ sb lb rv, e = .returned (.tuple #[.pointer (some ⟨sb, 0, none⟩), .nilIface]) ∧ StD w' B sb b many L lb rv D S ∧ Below w.heap.size w w' ∧ w.heap.size ≤ sb ∧ w.heap.size ≤ lb ∧ far (fun x => x < w.heap.size) rv := by
  have C := store_Open L D w hd hI.parts.2.2.1 hok hI.parts.2.2.2.1 (by rw [hI.len]; have := hI.m1; omega)
  rw [he] at C
  refine C.mono ?_
  rintro e w' ⟨h, hb⟩
  rcases h with ⟨h, _⟩ | ⟨S1, sb, lb, rv, h, rfl, hs, h1, h2, h3⟩
  · rw [hI.open] at h; cases h
  · rw [hI.open] at h
    simp only [Option.some.injEq] at h
    subst h
    rw [hI.len, Nat.add_sub_cancel_left] at hs
    refine ⟨sb, lb, rv, rfl, ⟨hd.below hb, he, hs, fun k hk => ?_, hI, hok⟩, hb, h1, h2, h3⟩
    rcases hk with hk | hk | hk
    · exact hlow k hk
    · omega
    · omega
end Go.Proofs.YtggpodlecljcbadGreatDoor
namespace Go.Proofs.YtggpodlecljcbadGreatDoor
set_option linter.unusedSimpArgs false
set_option linter.unusedVariables false
open Go.RowKit Go.Sort
section
variable {w W W' : World} {b many mb sb lb used used' : Nat} {L : Dk} {D D' : DiskS} {S S' : StS} {rv rvm rvm' : Value} {rows rows' : List Change}
end
theorem new_openZ (n : Nat) (h : 42 ≤ n) : openZ (newD n) = none := by
  unfold openZ
  have g0 : (newD n).now.getD 0 ⟨#[]⟩ = zeros 40 := by
    unfold newD
    rw [List.getD_eq_getElem?_getD, List.getElem?_replicate, if_pos (by omega)]; rfl
  have g1 : (newD n).now.getD 1 ⟨#[]⟩ = zeros 40 := by
    unfold newD
    rw [List.getD_eq_getElem?_getD, List.getElem?_replicate, if_pos (by omega)]; rfl
  have hp : (pickH (zeros 40) (zeros 40)).epoch = 0 := by
    unfold pickH
    rw [head_zeros]
    decide
  rw [g0, g1]
  simp only [hp]
  rfl
end Go.Proofs.YtggpodlecljcbadGreatDoor
