/- The walk of the statement TopThree. Printed by wip/mk_ttr.py. -/
import Derived.Test.YtggpodlecljcbacGreatDoorMT0
namespace Go.Proofs.YtggpodlecljcbacGreatDoor
set_option linter.unusedSimpArgs false
set_option linter.unusedVariables false
open Go.RowKit Go.Sort
set_option maxRecDepth 100000 in
set_option maxHeartbeats 16000000 in
theorem law_TopThree (va : Value) (avs : List ActV) (al : List Act) (w : World) (hav : ActVs w va avs) (haa : IsActs w avs al) (hak : ∀ a ∈ al, a.ok) (hg : GlobI w) :
    Calls Tryz.prog 3 #[va] w fun e w' => e = .returned (.bool true) ∧ Below w.heap.size w w' := by
  have CW := Lib.hid (top_works w hg)
  obtain ⟨vo, vc, rfl, hvc, hvm⟩ := hav.parts
  have CP := Lib.hid fun W hb => top_played (.slice vo avs.length vc) avs al W (hg.below hb) (hav.below hb) (haa.below hb) hak
  have HG := Lib.hid hg
  clear hg hav haa hak
  go_enter Tryz.func3, Tryz.ntmps3
  go_wp2_with fail
  refine CW.out.mono ?_
  rintro e w1 ⟨rfl, hb1⟩
  have HB1 := Lib.hid hb1
  have CP1 := Lib.hid (CP.out w1 hb1)
  clear hb1
  go_wp2_with fail
  refine CP1.out.mono ?_
  rintro e w2 (⟨hl, ⟨p0, p1, p2, rfl⟩, hb2⟩ | ⟨hl, B, b, tb, L, D, S, lb, sb, rv, v, rfl, htr, hB, hb2⟩)
  · have HB2 := Lib.hid (two HB1.out (two hb2 (below_alloc w2 (.cells #[.pointer p0, .pointer p1, .pointer p2] 25))))
    clear hb2
    go_wp2_with fail
    go_ret
    exact ⟨rfl, HB2.out⟩
  · have HB2 := Lib.hid (two HB1.out hb2)
    obtain ⟨W3, hW3⟩ : ∃ W3, W3 = w2.alloc (.cells #[.pointer (some ⟨b 0, 0, none⟩), .pointer (some ⟨b 1, 0, none⟩), .pointer (some ⟨b 2, 0, none⟩)] 25) := ⟨_, rfl⟩
    have hb23 : Below w2.heap.size w2 W3 := by rw [hW3]; exact below_alloc _ _
    have HW3 := Lib.hid hW3
    have hbx : W3.heap[w2.heap.size]? = some (.cells #[.pointer (some ⟨b 0, 0, none⟩), .pointer (some ⟨b 1, 0, none⟩), .pointer (some ⟨b 2, 0, none⟩)] 25 (0, 0)) := by rw [hW3]; show (w2.heap.push _)[w2.heap.size]? = _; simp
    have HBX := Lib.hid hbx
    have HZ3 : Hid (W3.heap.size = w2.heap.size + 1) := Lib.hid (by rw [hW3]; simp)
    have hbw3 := two HB1.out (two hb2 hb23)
    have hz1 := HB1.out.size
    obtain ⟨X, hXs, hXg, hXw, hX0⟩ := cut_base hbw3 (B := B) (by omega) (htr.below hb23).lo HG.out
    obtain ⟨q, hq⟩ : ∃ q, q = grownQ al := ⟨_, rfl⟩
    rw [← hq] at htr
    have HTR : Hid (TrioQ 60 X.heap.size b W3 tb q L D S lb sb rv v) := Lib.hid (by rw [hXs]; exact htr.below hb23)
    have HTL : Hid (∀ x, TF tb L lb sb x → x < w2.heap.size) := Lib.hid (fun x hx => (htr.lt hx).1)
    have HXG := Lib.hid hXg
    have HX3 := Lib.hid hXw
    have HX0 := Lib.hid hX0
    have CQ := Lib.hid (trio_Quilt HTR.out.pre HTR.out.few)
    obtain ⟨y0, y1, y2, yf⟩ := arr3_cells hbx
    clear hW3 hb23 hbx hbw3 hz1 hXs hXg hXw hX0 htr hB hq
    go_wp2_with fail
    rw [← HW3.out]
    refine CQ.out.mono ?_
    rintro e w4 ⟨qv, rfl, ⟨v4, rfl, hf4, hfr4⟩, hb4⟩
    obtain ⟨ao4, ac4, rfl, hac4, hac4'⟩ := hf4.parts
    obtain ⟨W5, hW5⟩ : ∃ W5, W5 = w4.alloc (.cells #[.slice ao4 q.files.length ac4, .int .i64 q.turn] 31) := ⟨_, rfl⟩
    have hb45 : Below w4.heap.size w4 W5 := by rw [hW5]; exact below_alloc _ _
    have HW5 := Lib.hid hW5
    have HF5 : Hid (Files W5 (.slice ao4 q.files.length ac4) q.files ∧ Fresh W3.heap.size (.slice ao4 q.files.length ac4)) := Lib.hid ⟨hf4.below hb45, hfr4⟩
    have HQX : Hid (W5.heap[w4.heap.size]? = some (.cells #[.slice ao4 q.files.length ac4, .int .i64 q.turn] 31 (0, 0))) := Lib.hid (by rw [hW5]; show (w4.heap.push _)[w4.heap.size]? = _; simp)
    have HB35 := Lib.hid (two hb4 hb45)
    have HZ4 : Hid (W3.heap.size ≤ w4.heap.size ∧ W5.heap.size = w4.heap.size + 1) := Lib.hid ⟨hb4.size, by rw [hW5]; simp⟩
    have HT5 := Lib.hid (HTR.out.below (two hb4 hb45))
    have HX5 := Lib.hid (two HX3.out (two hb4 hb45))
    have HDX5 : Hid (W5.heap[w2.heap.size]? = some (.cells #[.pointer (some ⟨b 0, 0, none⟩), .pointer (some ⟨b 1, 0, none⟩), .pointer (some ⟨b 2, 0, none⟩)] 25 (0, 0))) := Lib.hid (by rw [(two hb4 hb45).block _ (by rw [HZ3.out]; omega)]; exact HBX.out)
    obtain ⟨y0, y1, y2, yf⟩ := arr3_cells HDX5.out
    have s0 : W5.cell? ⟨w4.heap.size, 0, none⟩ = some (.slice ao4 q.files.length ac4) := by simp [World.cell?, HQX.out]
    have s1 : W5.cell? ⟨w4.heap.size, 1, none⟩ = some (.int .i64 q.turn) := by simp [World.cell?, HQX.out]
    clear hf4 hfr4 hb4 hb45
    have CA := Lib.hid (top_all b L D (.agg #[.slice ao4 q.files.length ac4, .int .i64 q.turn]) q W5 (looks_of HT5.out.pre.ds (fun k hk => (HT5.out.has k hk).sound) (HXG.out.below HX5.out)) (fun k hk => (HT5.out.has k hk).copyC) ⟨_, rfl, HF5.out.1⟩)
    rw [hW5] at y0 y1 y2 s0 s1
    clear hW5
    go_wp2_with fail
    rw [← HW5.out]
    refine CA.out.mono ?_
    rintro e w6 ⟨rfl, hb6⟩
    have HX6 := Lib.hid (two HX5.out hb6)
    have HT6 := Lib.hid (HT5.out.below hb6)
    have HF6 := Lib.hid (HF5.out.1.below hb6)
    have CO := Lib.hid (open_all X b L D S 60 q w6 HT6.out.pre.ds (fun k hk => ⟨HT6.out.has k hk, HT6.out.ep k hk⟩) HXG.out HX6.out HT6.out.good)
    have hdx6 : w6.heap[w2.heap.size]? = some (.cells #[.pointer (some ⟨b 0, 0, none⟩), .pointer (some ⟨b 1, 0, none⟩), .pointer (some ⟨b 2, 0, none⟩)] 25 (0, 0)) := by rw [hb6.block _ (Array.getElem?_eq_some_iff.1 HDX5.out).1]; exact HDX5.out
    have hqx6 : w6.heap[w4.heap.size]? = some (.cells #[.slice ao4 q.files.length ac4, .int .i64 q.turn] 31 (0, 0)) := by rw [hb6.block _ (Array.getElem?_eq_some_iff.1 HQX.out).1]; exact HQX.out
    have HQ6 := Lib.hid hqx6
    clear y0 y1 y2 s0 s1
    obtain ⟨y0, y1, y2, yf⟩ := arr3_cells hdx6
    clear hb6 hdx6 hqx6
    go_wp2_with fail
    refine CO.out.mono ?_
    rintro e w7 ⟨tb7, L7, lb7, sb7, rv7, v7, rfl, ht7, hs7, hb7⟩
    have hnd : ¬ DF L w4.heap.size := fun hx => by have := HTL.out _ (df_tf (tb := tb) (lb := lb) (sb := sb) hx); have := HZ4.out.1; have := HZ3.out; omega
    have hqx7 := (hs7.keep (Array.getElem?_eq_some_iff.1 HQ6.out).1 hnd).1.trans HQ6.out
    have HQ7 := Lib.hid hqx7
    have HF7 : Hid (Files w7 (.slice ao4 q.files.length ac4) q.files) := Lib.hid (RdF.off (F := DF L) ⟨HF6.out, fresh_far HF5.out.2 (fun x hx => by have := HTL.out _ (df_tf (tb := tb) (lb := lb) (sb := sb) hx); have := HZ3.out; omega)⟩ hs7.off).rd
    have CQ7 : Hid (∀ W, Below w7.heap.size w7 W → Calls Tryz.prog 11 #[.pointer (some ⟨tb7, 0, none⟩)] W fun e w' => ∃ qv, e = .returned qv ∧ QuiltsF W.heap.size w' qv q ∧ Below W.heap.size W w') := Lib.hid (fun W hW => trio_Quilt (ht7.below hW).pre ht7.few)
    have CS : Hid (∀ W v8, Below w7.heap.size w7 W → Files W v8 q.files → Calls Tryz.prog 14 #[.agg #[v8, .int .i64 q.turn], .agg #[.slice ao4 q.files.length ac4, .int .i64 q.turn]] W fun e w' => e = .returned (.bool true) ∧ Below W.heap.size W w') := Lib.hid (fun W v8 hW h8 => by
      have := ref_SameQuilt _ _ q q W ⟨_, rfl, h8⟩ ⟨_, rfl, HF7.out.below hW⟩
      rw [decide_eq_true rfl] at this
      exact this)
    have HK : Hid (∀ W, Below w7.heap.size w7 W → W.cell? ⟨w4.heap.size, 0, none⟩ = some (.slice ao4 q.files.length ac4) ∧ W.cell? ⟨w4.heap.size, 1, none⟩ = some (.int .i64 q.turn)) := Lib.hid (fun W hW => ⟨cell_on' hW (by simp [World.cell?, HQ7.out]), cell_on' hW (by simp [World.cell?, HQ7.out])⟩)
    have HX7 := Lib.hid (two HX0.out hb7)
    clear ht7 hs7 hb7 hnd hqx7 y0 y1 y2 yf
    go_wp2_with fail
    go_region_held3 (fun W => W.cell? ⟨w4.heap.size, 0, none⟩ = some (.slice ao4 q.files.length ac4) ∧ W.cell? ⟨w4.heap.size, 1, none⟩ = some (.int .i64 q.turn))
      (first
        | exact HK.out _ (Below.refl _ _).drew
        | exact HK.out _ (HB9 : Hid _).out
        | exact HK.out _ (HB8 : Hid _).out)
      (first
        | (go_at_call 11; refine (CQ7.out _ (Below.refl _ _).drew).mono ?_; rintro e w8 ⟨q8, rfl, ⟨v8, rfl, hf8, _⟩, hb8⟩; obtain ⟨ao8, ac8, rfl, _, _⟩ := hf8.parts; have HB8 : Hid (Below w7.heap.size w7 w8) := Lib.hid (two (Below.refl _ _).drew hb8); have HF8 := Lib.hid hf8; clear hf8 hb8)
        | (go_at_call 14; refine (CS.out _ _ (HB8 : Hid _).out (HF8 : Hid _).out).mono ?_; rintro e w9 ⟨rfl, hb9⟩; have HB9 : Hid (Below w7.heap.size w7 w9) := Lib.hid (two (HB8 : Hid _).out hb9); clear hb9))
    all_goals
      go_wp2_with fail
      go_ret
      exact ⟨rfl, two HX7.out (HB9 : Hid _).out⟩
end Go.Proofs.YtggpodlecljcbacGreatDoor
