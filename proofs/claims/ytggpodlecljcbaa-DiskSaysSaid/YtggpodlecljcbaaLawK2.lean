/- The walk of the statement DiskSays. -/
import Derived.Test.YtggpodlecljcbaaLawK
import Derived.Test.YtggpodlecljcbaaWalkK12
import Derived.Test.YtggpodlecljcbaaWalkR
import Derived.Deep.RegionHeld3
namespace Go.Proofs.Ytggpodlecljcbaa
open Go.RowKit Go.Sort
set_option linter.unusedSimpArgs false
set_option linter.unusedVariables false
/-- An act's box, in all later worlds. -/
def BoxA (b : Nat) (av : ActV) (w0 : World) : Prop := ∀ W, Below w0.heap.size w0 W → W.cell? ⟨b, 0, none⟩ = some (.string av.kind) ∧ W.cell? ⟨b, 1, none⟩ = some (.string av.s) ∧ W.cell? ⟨b, 2, none⟩ = some (.string av.t) ∧ W.cell? ⟨b, 3, none⟩ = some (.int .i64 av.n) ∧ W.cell? ⟨b, 4, none⟩ = some (.int .u64 av.k) ∧ W.cell? ⟨b, 5, none⟩ = some av.cv
theorem boxA_new (w : World) (av : ActV) : BoxA w.heap.size av (w.alloc (.cells #[.string av.kind, .string av.s, .string av.t, .int .i64 av.n, .int .u64 av.k, av.cv] 62)) := fun W hb => by
  obtain ⟨hc, _⟩ := bcell hb
  rw [hc _ _ (by simp), hc _ _ (by simp), hc _ _ (by simp), hc _ _ (by simp), hc _ _ (by simp), hc _ _ (by simp)]
  simp
theorem writeD_len (D : DiskS) (p : Int) (s : ByteArray) : (writeD D p s).1.now.length = D.now.length ∧ (writeD D p s).1.wait.length ≤ D.wait.length + 1 := by
  have h := stepD_same D
  unfold writeD; split
  · exact ⟨rfl, Nat.le_succ _⟩
  · split
    · rw [h.2.1, h.2.2]; exact ⟨rfl, Nat.le_succ _⟩
    · exact ⟨by simp, by simp⟩
theorem flushD_len (D : DiskS) : (flushD D).1.now.length = D.now.length ∧ (flushD D).1.wait.length ≤ D.wait.length := by
  have h := stepD_same D
  unfold flushD; split
  · rw [h.2.1, h.2.2]; exact ⟨rfl, Nat.le_refl _⟩
  · exact ⟨by show (stepD D).1.now.length = _; rw [h.2.1], by simp⟩
theorem restartD_len {D : DiskS} (h : D.ok) (keep : Int) : (restartD D keep).now.length = D.now.length ∧ (restartD D keep).wait.length ≤ D.wait.length := by
  refine ⟨?_, by simp [restartD]⟩
  show (keepTo' keep D.wait D.wait.length D.kept).length = _
  rw [keepTo_length keep D.wait D.kept _ (Nat.le_refl _)]; exact h.same
theorem Turned.off' {ty tt : TypeId} {w w' : World} {L : Dk} {D' : DiskS} (h : Turned ty tt w L D' w') : Off L.foot w w' := by obtain ⟨_, _, _, ho, _⟩ := h; exact ho
theorem BoxA.below {b : Nat} {av : ActV} {w0 w1 : World} (h : BoxA b av w0) (hb : Below w0.heap.size w0 w1) : BoxA b av w1 := fun W hW => h W (two hb hW)
theorem BoxA.off {b : Nat} {av : ActV} {w0 w1 : World} {F : Nat → Prop} (h : BoxA b av w0) (ho : Off F w0 w1) (hb : b < w0.heap.size) (hF : ¬ F b) : BoxA b av w1 := fun W hW => by
  obtain ⟨h0, h1, h2, h3, h4, h5⟩ := h w0 (Below.refl _ _)
  obtain ⟨hc, _⟩ := bcell hW
  have hlt : b < w1.heap.size := Nat.lt_of_lt_of_le hb ho.size
  exact ⟨(hc _ _ hlt).trans (ho.cell h0 hF), (hc _ _ hlt).trans (ho.cell h1 hF), (hc _ _ hlt).trans (ho.cell h2 hF), (hc _ _ hlt).trans (ho.cell h3 hF), (hc _ _ hlt).trans (ho.cell h4 hF), (hc _ _ hlt).trans (ho.cell h5 hF)⟩
set_option maxRecDepth 100000 in
set_option maxHeartbeats 8000000 in
theorem law_DiskSays (n : Int) (va : Value) (avs : List ActV) (al : List Act) (w : World) (hav : ActVs w va avs) (haa : IsActs w avs al) (hn1 : -9223372036854775808 ≤ n) (hn2 : n ≤ 9223372036854775807) (hak : ∀ a ∈ al, a.ok ∧ (-9223372036854775808 ≤ a.n ∧ a.n ≤ 9223372036854775807) ∧ (0 ≤ a.k ∧ a.k < 18446744073709551616)) :
    Calls Try.prog 5 #[.int .i64 n, va] w fun e w' => e = .returned (.bool true) ∧ Below w.heap.size w w' := by
  have CS := Lib.hid (law_spins w)
  have CA := Lib.hid fun W hb => law_LightActs va avs al 80 W (hav.below hb) (haa.below hb) (fun a ha => (hak a ha).1)
  obtain ⟨vo, vc, rfl, hvc, hvc'⟩ := hav.parts
  have HAV := Lib.hid hav
  have HAA := Lib.hid haa
  have HLE := Lib.hid haa.1
  have HAK := Lib.hid hak
  clear hav haa hak
  cases hla : lightActs al 80
  · have HLA := Lib.hid hla
    clear hla
    go_enter Try.func5, Try.ntmps5
    go_wp2_with fail
    refine CS.out.mono ?_
    rintro e w1 ⟨rfl, hb1⟩
    have HB1 := Lib.hid hb1
    clear hb1
    go_wp2_with fail
    refine (CA.out _ HB1.out).mono ?_
    rintro e w6 ⟨rfl, rfl⟩
    rw [HLA.out]
    go_wp2_with fail
    go_ret
    exact ⟨rfl, HB1.out⟩
  · have HLA := Lib.hid hla
    have HAL : Hid (al.length ≤ 80) := Lib.hid (by
      unfold lightActs at hla
      simp only [Bool.and_eq_true, decide_eq_true_eq] at hla
      omega)
    clear hla
    by_cases hnb : n < 1 ∨ 60 < n
    · have C1 := Lib.hid fun W => disk_New_bad n W hnb
      have C2 := Lib.hid fun W => ref_NewDisk_bad n W hnb
      clear hnb
      go_enter Try.func5, Try.ntmps5
      go_wp2_with fail
      refine CS.out.mono ?_
      rintro e w1 ⟨rfl, hb1⟩
      have HB1 := Lib.hid hb1
      clear hb1
      go_wp2_with fail
      refine (CA.out _ HB1.out).mono ?_
      rintro e w6 ⟨rfl, rfl⟩
      rw [HLA.out]
      go_wp2_with fail
      refine (C1.out _).mono ?_
      rintro e w7 ⟨rfl, hq⟩
      rw [hq]
      clear hq
      go_wp2_with fail
      refine (C2.out _).mono ?_
      rintro e w8 ⟨rfl, hq⟩
      rw [hq]
      clear hq
      go_wp2_with fail
      refine (same_is 1 _).mono ?_
      rintro e w9 ⟨rfl, hb9⟩
      have HB9 := Lib.hid (two HB1.out hb9)
      clear hb9
      go_wp2_with fail
      go_ret
      exact ⟨rfl, HB9.out⟩
    · obtain ⟨N, rfl⟩ : ∃ N : Nat, n = N := ⟨n.toNat, by omega⟩
      have h1 : 1 ≤ N := by omega
      have h2 : N ≤ 60 := by omega
      clear hnb hn1 hn2
      go_enter Try.func5, Try.ntmps5
      go_wp2_with fail
      refine CS.out.mono ?_
      rintro e w1 ⟨rfl, hb1⟩
      have HB1 := Lib.hid hb1
      clear hb1
      go_wp2_with fail
      refine (CA.out _ HB1.out).mono ?_
      rintro e w6 ⟨rfl, rfl⟩
      rw [HLA.out]
      go_wp2_with fail
      refine (disk_New N _ h1 h2).mono ?_
      rintro e w2 ⟨L0, rfl, hd2, hb2, hf2⟩
      have HD2 := Lib.hid hd2
      have HB2 := Lib.hid (two HB1.out hb2)
      have HS2 := Lib.hid (Nat.le_trans HB1.out.size (Nat.le_refl _))
      have HF2 := Lib.hid hf2
      clear hd2 hb2 hf2
      go_wp2_with fail
      refine (ref_NewDisk N _ h1 h2).mono ?_
      rintro e w3 ⟨M0, rfl, hd3, hb3, hf3⟩
      have HT3 : Hid (TwoD w3 w.heap.size L0.b M0.b L0 M0 (newD N) (newD N)) := Lib.hid ⟨HD2.out.below hb3, hd3, rfl, rfl, fun k hk hm => by
        have h1 := HD2.out.lt k hk
        have h2 := hf3 k hm
        omega, fun k hk => Nat.le_trans HB1.out.size (HF2.out k hk), fun k hk => Nat.le_trans HB2.out.size (hf3 k hk)⟩
      have HB3 := Lib.hid (two HB2.out hb3)
      obtain ⟨b, hbd⟩ : ∃ b, b = L0.b := ⟨_, rfl⟩
      obtain ⟨m, hbm⟩ : ∃ b, b = M0.b := ⟨_, rfl⟩
      rw [← hbd, ← hbm] at HT3
      have CK := disk_Sectors L0 (newD N) w3 HT3.out.d
      rw [show (newD N).now.length = N by simp [newD], ← hbd] at CK
      rw [← hbd, ← hbm]
      replace CK := Lib.hid CK
      clear hd3 hb3 hf3 hbd hbm HD2 HF2 HS2
      go_wp2_with fail
      refine CK.out.mono ?_
      rintro e w4 ⟨rfl, hq⟩
      rw [hq]
      clear hq CK
      go_wp2_with fail
      go_loopw [10] (fun i wr => ∃ (k : Nat) (L M : Dk) (D : DiskS), k ≤ avs.length ∧ i = .int .i64 k ∧ TwoD wr w.heap.size b m L M D D ∧ D.ok ∧ D.wait.length ≤ k ∧ D.now.length = N ∧ Below w.heap.size w wr) (fun i _ => avs.length - (intOf i).toNat)
      case atStart => exact ⟨0, L0, M0, newD N, Nat.zero_le _, rfl, HT3.out, newD_ok h1 h2, by simp [newD], by simp [newD], HB3.out⟩
      case round =>
        obtain ⟨k, L, M, D, hk, rfl, ht, hok, hwl, hnl, hbw⟩ := hrel
        have HT := Lib.hid ht
        have HOK := Lib.hid hok
        have HW := Lib.hid hbw
        have HWL := Lib.hid hwl
        have HNL := Lib.hid hnl
        clear ht hok hbw hwl hnl
        by_cases hlt : k < avs.length
        · have hlt' : k < al.length := by rw [← HLE.out]; exact hlt
          obtain ⟨ba, oa, rfl, hlb, x0, x1, x2, x3, x4, x5⟩ := ActVs.cell HAV.out k hlt
          obtain ⟨kc, _⟩ := bcell HW.out
          replace x0 := (kc _ _ hlb).trans x0
          replace x1 := (kc _ _ hlb).trans x1
          replace x2 := (kc _ _ hlb).trans x2
          replace x3 := (kc _ _ hlb).trans x3
          replace x4 := (kc _ _ hlb).trans x4
          replace x5 := (kc _ _ hlb).trans x5
          have hia := HAA.out.2 k hlt hlt'
          obtain ⟨haok, hn, hkk⟩ := HAK.out _ (List.getElem_mem hlt')
          rw [← hia.2.2.2.1] at hn
          rw [← hia.2.2.2.2.1] at hkk
          obtain ⟨co, cn, cc, hcv⟩ : ∃ co cn cc, avs[k].cv = .slice co cn cc := by
            obtain ⟨ao, cap, h, _, _⟩ := hia.2.2.2.2.2.parts
            exact ⟨_, _, _, h⟩
          obtain ⟨av, hav⟩ : ∃ v, v = avs[k] := ⟨_, rfl⟩
          rw [← hav] at hcv
          rw [← hav] at x0 x1 x2 x3 x4 x5 hn hkk
          rw [hcv] at x5
          have HCV := Lib.hid hcv
          clear hcv
          have HK80 := Lib.hid (show k ≤ 80 by have := HAL.out; omega)
          clear hav hia kc haok
          clear hlt'
          obtain ⟨W1, hW1⟩ : ∃ W1, W1 = wr.alloc (.cells #[.string av.kind, .string av.s, .string av.t, .int .i64 av.n, .int .u64 av.k, .slice co cn cc] 62) := ⟨_, rfl⟩
          have HT1 : Hid (TwoD W1 w.heap.size b m L M D D) := Lib.hid (by rw [hW1]; exact HT.out.below (below_alloc _ _))
          have HB1' : Hid (Below w.heap.size w W1) := Lib.hid (by rw [hW1]; exact two HW.out (below_alloc _ _))
          have BA : Hid (BoxA wr.heap.size av W1) := Lib.hid (by rw [hW1, ← HCV.out]; exact boxA_new wr av)
          have HLL : Hid (∀ j, L.foot j → j < wr.heap.size) := Lib.hid HT.out.d.lt
          have HLM : Hid (∀ j, M.foot j → j < wr.heap.size) := Lib.hid HT.out.r.lt
          have HW1 := Lib.hid hW1
          clear hW1
          cases hw : (av.kind.toList == [119, 114, 105, 116, 101])
          rotate_left
          · skip
            obtain ⟨D2, hD2⟩ : ∃ d, d = (writeD D av.n av.s).1 := ⟨_, rfl⟩
            have HOK2 : Hid D2.ok := Lib.hid (by rw [hD2]; exact HOK.out.write av.n av.s)
            have HL2 : Hid (D2.now.length = D.now.length ∧ D2.wait.length ≤ D.wait.length + 1) := Lib.hid (by rw [hD2]; have h := writeD_len D av.n av.s; exact ⟨h.1, by omega⟩)
            obtain ⟨en, hen⟩ : ∃ n, n = (writeD D av.n av.s).2 := ⟨_, rfl⟩
            have C1 : Hid (∀ W, DiskAt W L D → Calls Try.prog 33 #[.pointer (some ⟨b, 0, none⟩), .int .i64 av.n, .string av.s] W fun e w' => e = .returned (errV en) ∧ Turned 148 151 W L D2 w') := Lib.hid fun W h => by
              have c := disk_Write L D av.n av.s W h HOK.out (by have := HWL.out; have := HK80.out; omega)
              rw [HT1.out.lb, ← hD2, ← hen] at c
              exact c
            have C2 : Hid (∀ W, RefAt W M D → Calls Try.prog 34 #[.pointer (some ⟨m, 0, none⟩), .int .i64 av.n, .string av.s] W fun e w' => e = .returned (.int .i64 en) ∧ Turned 74 153 W M D2 w') := Lib.hid fun W h => by
              have c := ref_Write M D av.n av.s W h HOK.out (by have := HWL.out; have := HK80.out; omega)
              rw [HT1.out.mb, ← hD2, ← hen] at c
              exact c
            clear hD2 hen hkk
            have HTD := Lib.hid (HT1.out.below (Below.refl _ _).drew)
            have BAD : Hid (BoxA wr.heap.size av W1.drew) := Lib.hid fun W hW => BA.out W (two (Below.refl _ _).drew hW)
            have HBD := Lib.hid HB1'.out.drew
            have HWS : Hid (wr.heap.size < W1.drew.heap.size) := Lib.hid (by rw [HW1.out]; simp)
            go_wp2_with fail
            rw [← HW1.out]
            obtain ⟨y0, y1, y2, y3, y4, y5⟩ := BA.out _ (Below.refl _ _)
            clear y0 y2 y4 y5
            have HSB : Hid (∀ W0, BoxA wr.heap.size av W0 → ∀ W, Below W0.heap.size W0 W → W.cell? ⟨wr.heap.size, 1, none⟩ = some (.string av.s) ∧ W.cell? ⟨wr.heap.size, 3, none⟩ = some (.int .i64 av.n)) := Lib.hid fun W0 hW0 W hW => ⟨(hW0 W hW).2.1, (hW0 W hW).2.2.2.1⟩
            go_region_held3 (fun W => W.cell? ⟨wr.heap.size, 1, none⟩ = some (.string av.s) ∧ W.cell? ⟨wr.heap.size, 3, none⟩ = some (.int .i64 av.n))
              (first
                | exact HSB.out _ BAD.out _ (Below.refl _ _)
                | exact HSB.out _ (BA2 : Hid _).out _ (Below.refl _ _)
                | exact HSB.out _ (BA3 : Hid _).out _ (Below.refl _ _)
                | exact HSB.out _ (BA4 : Hid _).out _ (Below.refl _ _))
              (first
              | (go_at_call 33; refine (C1.out _ HTD.out.d).mono ?_; rintro e wA ⟨rfl, tA⟩; have BA2 := Lib.hid (BAD.out.off tA.off' HWS.out (fun h => Nat.lt_irrefl _ (HLL.out _ h))); obtain ⟨L2, hTA, hbA⟩ := HTD.out.left tA HBD.out.size; have HTA := Lib.hid hTA; have HBA := Lib.hid (HBD.out.trans hbA); have HSA := Lib.hid (Nat.lt_of_lt_of_le HWS.out tA.off'.size); clear tA hTA hbA)
              | (go_at_call 34; refine (C2.out _ (HTA : Hid _).out.r).mono ?_; rintro e wB0 ⟨rfl, tB⟩; have BA3 := Lib.hid ((BA2 : Hid _).out.off tB.off' (HSA : Hid _).out (fun h => Nat.lt_irrefl _ (HLM.out _ h))); obtain ⟨M2, hTB, hbB⟩ := (HTA : Hid _).out.right tB (HBA : Hid _).out.size; have HTB0 := Lib.hid hTB; have HBB0 := Lib.hid ((HBA : Hid _).out.trans hbB); clear tB hTB hbB)
              | (go_at_call 14; refine (same_is en _).mono ?_; rintro e wB ⟨rfl, hbs⟩; have HTB := Lib.hid ((HTB0 : Hid _).out.below hbs); have HBB := Lib.hid (two (HBB0 : Hid _).out hbs); have BA4 := Lib.hid ((BA3 : Hid _).out.below hbs); clear hbs))
            all_goals
              clear y1 y3
              have K1 : Hid (∀ W, Below wB.heap.size wB W → Calls Try.prog 42 #[.pointer (some ⟨b, 0, none⟩)] W fun e w' => e = .returned (.bool D2.down) ∧ Below W.heap.size W w') := Lib.hid fun W hb => by
                have h := disk_Down L2 D2 W (HTB.out.d.below hb)
                rw [HTB.out.lb] at h
                exact h.mono fun e w' h => ⟨h.1, h.2 ▸ Below.refl _ _⟩
              have c4 := HTB.out.r.c4
              rw [HTB.out.mb] at c4
              have rc4 := regrown_cell c4
              go_wp2_with fail
              refine wp_region_q (by kernel_rfl) (by kernel_rfl) ?_
              repeat (go_big_quiet_step (first | (go_at_call 42; exact Calls.regrown_of (K1.out _ (below_regrown _ _ _)))))
              refine wpQuiet_nil ?_
              intro wC hbC
              have HBC := Lib.hid hbC
              clear hbC c4 rc4
              go_wp2_with fail
              go_roundw
              case rel => exact ⟨k + 1, L2, M2, D2, by omega, by go_num, HTB.out.below HBC.out, HOK2.out, by have h1 := HL2.out.2; have h2 := HWL.out; omega, by rw [HL2.out.1]; exact HNL.out, two HBB.out HBC.out⟩
              case measure => simp [intOf]; omega
          cases hr : (av.kind.toList == [114, 101, 97, 100])
          rotate_left
          · skip
            obtain ⟨s, hs⟩ : ∃ s, s = (readD D av.n).1 := ⟨_, rfl⟩
            obtain ⟨en, hen⟩ : ∃ s, s = (readD D av.n).2 := ⟨_, rfl⟩
            have C1 := disk_Read L D av.n W1 HT1.out.d
            have C2 := ref_Read M D av.n W1 HT1.out.r
            rw [HT1.out.lb, ← hs, ← hen] at C1
            rw [HT1.out.mb, ← hs, ← hen] at C2
            replace C1 := Lib.hid C1
            replace C2 := Lib.hid C2
            have HL2 : Hid (D.now.length = D.now.length ∧ D.wait.length ≤ D.wait.length + 1) := Lib.hid ⟨rfl, Nat.le_succ _⟩
            clear hs hen hkk
            go_wp2_with fail
            rw [← HW1.out]
            refine C1.out.mono ?_
            rintro e w5 ⟨rfl, hq⟩
            rw [hq]
            clear hq
            obtain ⟨y0, y1, y2, y3, y4, y5⟩ := BA.out _ (Below.refl _ _)
            go_wp2_with fail
            refine C2.out.mono ?_
            rintro e w5 ⟨rfl, hq⟩
            rw [hq]
            clear hq y0 y1 y2 y3 y4 y5
            go_wp2_with fail
            refine (same_is en _).mono ?_
            rintro e wB ⟨rfl, hbs⟩
            have HTB := Lib.hid (HT1.out.below hbs)
            have HBB := Lib.hid (two HB1'.out hbs)
            clear hbs
            have K1 : Hid (∀ W, Below wB.heap.size wB W → Calls Try.prog 42 #[.pointer (some ⟨b, 0, none⟩)] W fun e w' => e = .returned (.bool D.down) ∧ Below W.heap.size W w') := Lib.hid fun W hb => by
              have h := disk_Down L D W (HTB.out.d.below hb)
              rw [HTB.out.lb] at h
              exact h.mono fun e w' h => ⟨h.1, h.2 ▸ Below.refl _ _⟩
            have c4 := HTB.out.r.c4
            rw [HTB.out.mb] at c4
            have rc4 := regrown_cell c4
            go_wp2_with fail
            refine wp_region_q (by kernel_rfl) (by kernel_rfl) ?_
            repeat (go_big_quiet_step (first | (go_at_call 42; exact Calls.regrown_of (K1.out _ (below_regrown _ _ _)))))
            refine wpQuiet_nil ?_
            intro wC hbC
            have HBC := Lib.hid hbC
            clear hbC c4 rc4
            go_wp2_with fail
            go_roundw
            case rel => exact ⟨k + 1, L, M, D, by omega, by go_num, HTB.out.below HBC.out, HOK.out, by have h2 := HWL.out; omega, HNL.out, two HBB.out HBC.out⟩
            case measure => simp [intOf]; omega
          cases hf : (av.kind.toList == [102, 108, 117, 115, 104])
          rotate_left
          · skip
            obtain ⟨D2, hD2⟩ : ∃ d, d = (flushD D).1 := ⟨_, rfl⟩
            have HOK2 : Hid D2.ok := Lib.hid (by rw [hD2]; exact HOK.out.flush)
            have HL2 : Hid (D2.now.length = D.now.length ∧ D2.wait.length ≤ D.wait.length + 1) := Lib.hid (by rw [hD2]; have h := flushD_len D; exact ⟨h.1, by omega⟩)
            obtain ⟨en, hen⟩ : ∃ n, n = (flushD D).2 := ⟨_, rfl⟩
            have C1 := disk_Flush L D W1 HT1.out.d HOK.out
            have C2 := Lib.hid fun W h => ref_Flush M D W h HOK.out
            rw [HT1.out.lb, ← hD2, ← hen] at C1
            simp only [← hD2, ← hen] at C2
            replace C1 := Lib.hid C1
            clear hD2 hen
            go_wp2_with fail
            rw [← HW1.out]
            refine C1.out.mono ?_
            rintro e wA ⟨rfl, tA⟩
            obtain ⟨L2, hTA, hbA⟩ := HT1.out.left tA HB1'.out.size
            have HTA := Lib.hid hTA
            have HBA := Lib.hid (HB1'.out.trans hbA)
            have C := C2.out wA HTA.out.r
            rw [HTA.out.mb] at C
            replace C := Lib.hid C
            clear tA hTA hbA
            go_wp2_with fail
            refine C.out.mono ?_
            rintro e wB0 ⟨rfl, tB⟩
            obtain ⟨M2, hTB, hbB⟩ := HTA.out.right tB HBA.out.size
            have HTB0 := Lib.hid hTB
            have HBB0 := Lib.hid (HBA.out.trans hbB)
            clear tB hTB hbB
            go_wp2_with fail
            refine (same_is en _).mono ?_
            rintro e wB ⟨rfl, hbs⟩
            have HTB := Lib.hid (HTB0.out.below hbs)
            have HBB := Lib.hid (two HBB0.out hbs)
            clear hbs
            have K1 : Hid (∀ W, Below wB.heap.size wB W → Calls Try.prog 42 #[.pointer (some ⟨b, 0, none⟩)] W fun e w' => e = .returned (.bool D2.down) ∧ Below W.heap.size W w') := Lib.hid fun W hb => by
              have h := disk_Down L2 D2 W (HTB.out.d.below hb)
              rw [HTB.out.lb] at h
              exact h.mono fun e w' h => ⟨h.1, h.2 ▸ Below.refl _ _⟩
            have c4 := HTB.out.r.c4
            rw [HTB.out.mb] at c4
            have rc4 := regrown_cell c4
            go_wp2_with fail
            refine wp_region_q (by kernel_rfl) (by kernel_rfl) ?_
            repeat (go_big_quiet_step (first | (go_at_call 42; exact Calls.regrown_of (K1.out _ (below_regrown _ _ _)))))
            refine wpQuiet_nil ?_
            intro wC hbC
            have HBC := Lib.hid hbC
            clear hbC c4 rc4
            go_wp2_with fail
            go_roundw
            case rel => exact ⟨k + 1, L2, M2, D2, by omega, by go_num, HTB.out.below HBC.out, HOK2.out, by have h1 := HL2.out.2; have h2 := HWL.out; omega, by rw [HL2.out.1]; exact HNL.out, two HBB.out HBC.out⟩
            case measure => simp [intOf]; omega
          cases ha : (av.kind.toList == [97, 114, 109])
          rotate_left
          · skip
            have C1 := disk_Arm L D av.n W1 HT1.out.d hn.2 hn.1
            have hv : True := trivial
            obtain ⟨D2, hD2⟩ : ∃ d, d = armD D av.n := ⟨_, rfl⟩
            have HOK2 : Hid D2.ok := Lib.hid (by rw [hD2]; exact HOK.out.arm av.n hn.2)
            have HL2 : Hid (D2.now.length = D.now.length ∧ D2.wait.length ≤ D.wait.length + 1) := Lib.hid (by rw [hD2]; exact ⟨rfl, Nat.le_succ _⟩)
            have HD2 : Hid ({ D with fuse := max av.n (-1) } = D2) := Lib.hid (by rw [hD2]; rfl)
            rw [HT1.out.lb, ← hD2] at C1
            replace C1 := Lib.hid C1
            clear hD2 hv hkk
            go_wp2_with fail
            rw [← HW1.out]
            refine C1.out.mono ?_
            rintro e wA ⟨rfl, sA⟩
            have tA := sA.turned
            have BA2 := Lib.hid (BA.out.off tA.off' (by rw [HW1.out]; simp) (fun h => Nat.lt_irrefl _ (HLL.out _ h)))
            obtain ⟨L2, hTA, hbA⟩ := HT1.out.left tA HB1'.out.size
            have HTA := Lib.hid hTA
            have HBA := Lib.hid (HB1'.out.trans hbA)
            have tB := (stepped_fuse HTA.out.r (max av.n (-1))).turned
            rw [HTA.out.mb, HD2.out] at tB
            obtain ⟨M2, hTB, hbB⟩ := HTA.out.right tB HBA.out.size
            have q3 := HTA.out.r.c3
            have q4 := HTA.out.r.f 3
            rw [HTA.out.mb] at q3 q4
            obtain ⟨y0, y1, y2, y3, y4, y5⟩ := BA2.out _ (Below.refl _ _)
            obtain ⟨wB, hwB⟩ : ∃ x, x = wA.setCell ⟨m, 3, none⟩ (.int .i64 (max av.n (-1))) := ⟨_, rfl⟩
            rw [← hwB] at hTB hbB
            have HWB := Lib.hid hwB
            have HTB := Lib.hid hTB
            have HBB := Lib.hid (HBA.out.trans hbB)
            clear sA tA hTA hbA tB hTB hbB hwB
            have K1 : Hid (∀ W, Below wB.heap.size wB W → Calls Try.prog 42 #[.pointer (some ⟨b, 0, none⟩)] W fun e w' => e = .returned (.bool D2.down) ∧ Below W.heap.size W w') := Lib.hid fun W hb => by
              have h := disk_Down L2 D2 W (HTB.out.d.below hb)
              rw [HTB.out.lb] at h
              exact h.mono fun e w' h => ⟨h.1, h.2 ▸ Below.refl _ _⟩
            have c4 := HTB.out.r.c4
            rw [HTB.out.mb] at c4
            have rc4 := regrown_cell c4
            go_wp2_with fail
            rw [← HWB.out]
            clear y0 y1 y2 y3 y4 y5 q3 q4
            refine wp_region_q (by kernel_rfl) (by kernel_rfl) ?_
            repeat (go_big_quiet_step (first | (go_at_call 42; exact Calls.regrown_of (K1.out _ (below_regrown _ _ _)))))
            refine wpQuiet_nil ?_
            intro wC hbC
            have HBC := Lib.hid hbC
            clear hbC c4 rc4
            go_wp2_with fail
            go_roundw
            case rel => exact ⟨k + 1, L2, M2, D2, by omega, by go_num, HTB.out.below HBC.out, HOK2.out, by have h1 := HL2.out.2; have h2 := HWL.out; omega, by rw [HL2.out.1]; exact HNL.out, two HBB.out HBC.out⟩
            case measure => simp [intOf]; omega
          obtain ⟨D2, hD2⟩ : ∃ d, d = restartD D av.k := ⟨_, rfl⟩
          have HOK2 : Hid D2.ok := Lib.hid (by rw [hD2]; exact HOK.out.restart av.k)
          have HL2 : Hid (D2.now.length = D.now.length ∧ D2.wait.length ≤ D.wait.length + 1) := Lib.hid (by rw [hD2]; have h := restartD_len HOK.out av.k; exact ⟨h.1, by omega⟩)
          have C1 := disk_Restart L D av.k W1 HT1.out.d HOK.out hkk.1 hkk.2 (by have := HWL.out; have := HK80.out; omega)
          have C2 := Lib.hid fun W h => ref_Restart M D av.k W h HOK.out hkk.1 hkk.2 (by have := HWL.out; have := HK80.out; omega)
          rw [HT1.out.lb, ← hD2] at C1
          simp only [← hD2] at C2
          replace C1 := Lib.hid C1
          clear hD2 hkk
          go_wp2_with fail
          rw [← HW1.out]
          refine C1.out.mono ?_
          rintro e wA ⟨rfl, tA⟩
          have BA2 := Lib.hid (BA.out.off tA.off' (by rw [HW1.out]; simp) (fun h => Nat.lt_irrefl _ (HLL.out _ h)))
          obtain ⟨L2, hTA, hbA⟩ := HT1.out.left tA HB1'.out.size
          have HTA := Lib.hid hTA
          have HBA := Lib.hid (HB1'.out.trans hbA)
          have C := C2.out wA HTA.out.r
          rw [HTA.out.mb] at C
          replace C := Lib.hid C
          obtain ⟨y0, y1, y2, y3, y4, y5⟩ := BA2.out _ (Below.refl _ _)
          clear tA hTA hbA
          go_wp2_with fail
          refine C.out.mono ?_
          rintro e wB ⟨rfl, tB⟩
          obtain ⟨M2, hTB, hbB⟩ := HTA.out.right tB HBA.out.size
          have HTB := Lib.hid hTB
          have HBB := Lib.hid (HBA.out.trans hbB)
          clear tB hTB hbB y0 y1 y2 y3 y4 y5
          have K1 : Hid (∀ W, Below wB.heap.size wB W → Calls Try.prog 42 #[.pointer (some ⟨b, 0, none⟩)] W fun e w' => e = .returned (.bool D2.down) ∧ Below W.heap.size W w') := Lib.hid fun W hb => by
            have h := disk_Down L2 D2 W (HTB.out.d.below hb)
            rw [HTB.out.lb] at h
            exact h.mono fun e w' h => ⟨h.1, h.2 ▸ Below.refl _ _⟩
          have c4 := HTB.out.r.c4
          rw [HTB.out.mb] at c4
          have rc4 := regrown_cell c4
          go_wp2_with fail
          refine wp_region_q (by kernel_rfl) (by kernel_rfl) ?_
          repeat (go_big_quiet_step (first | (go_at_call 42; exact Calls.regrown_of (K1.out _ (below_regrown _ _ _)))))
          refine wpQuiet_nil ?_
          intro wC hbC
          have HBC := Lib.hid hbC
          clear hbC c4 rc4
          go_wp2_with fail
          go_roundw
          case rel => exact ⟨k + 1, L2, M2, D2, by omega, by go_num, HTB.out.below HBC.out, HOK2.out, by have h1 := HL2.out.2; have h2 := HWL.out; omega, by rw [HL2.out.1]; exact HNL.out, two HBB.out HBC.out⟩
          case measure => simp [intOf]; omega
        · go_wp2_with fail
          go_loopw [17] (fun i wr => ∃ t : Int, -1 ≤ t ∧ t ≤ (N : Int) + 1 ∧ i = .int .i64 t ∧ TwoD wr w.heap.size b m L M D D ∧ Below w.heap.size w wr) (fun i _ => ((N : Int) + 1 - intOf i).toNat)
          case atStart => exact ⟨-1, by omega, by omega, rfl, HT.out, HW.out⟩
          case round =>
            obtain ⟨t, ht1, ht2, rfl, ht, hb⟩ := hrel
            have HTR := Lib.hid ht
            have HBR := Lib.hid hb
            clear ht hb
            by_cases htn : t ≤ (N : Int)
            · have C1 := disk_Read L D t _ HTR.out.d
              have C2 := ref_Read M D t _ HTR.out.r
              rw [HTR.out.lb] at C1
              rw [HTR.out.mb] at C2
              obtain ⟨s, hs⟩ : ∃ s, s = (readD D t).1 := ⟨_, rfl⟩
              obtain ⟨en, hen⟩ : ∃ s, s = (readD D t).2 := ⟨_, rfl⟩
              rw [← hs, ← hen] at C1 C2
              replace C1 := Lib.hid C1
              replace C2 := Lib.hid C2
              clear hs hen
              go_wp2_with fail
              refine C1.out.mono ?_
              rintro e w5 ⟨rfl, hq⟩
              rw [hq]
              clear hq
              go_wp2_with fail
              refine C2.out.mono ?_
              rintro e w5 ⟨rfl, hq⟩
              rw [hq]
              clear hq
              go_wp2_with fail
              refine (same_is en _).mono ?_
              rintro e w7 ⟨rfl, hb7⟩
              have HB7 := Lib.hid hb7
              clear hb7
              go_wp2_with fail
              go_roundw
              case rel => exact ⟨t + 1, by omega, by omega, by go_num, HTR.out.below HB7.out, two HBR.out HB7.out⟩
              case measure => simp [intOf]; omega
            · go_wp2_with fail
              go_ret
              exact ⟨rfl, HBR.out⟩
end Go.Proofs.Ytggpodlecljcbaa
