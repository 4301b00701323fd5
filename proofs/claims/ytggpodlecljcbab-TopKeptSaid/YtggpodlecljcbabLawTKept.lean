/- The walk of the statement TopKept. -/
import Derived.Test.YtggpodlecljcbabWalkT2
import Derived.Test.YtggpodlecljcbabWalkB
import Derived.Test.YtggpodlecljcbabSpecT2
namespace Go.Proofs.Ytggpodlecljcbab
open Go.RowKit Go.Sort
set_option linter.unusedSimpArgs false
set_option linter.unusedVariables false

theorem one_acts {w : World} {b : Nat} (av : ActV) (h0 : w.cell? ⟨b, 0, none⟩ = some (.string av.kind)) (h1 : w.cell? ⟨b, 1, none⟩ = some (.string av.s)) (h2 : w.cell? ⟨b, 2, none⟩ = some (.string av.t)) (h3 : w.cell? ⟨b, 3, none⟩ = some (.int .i64 av.n)) (h4 : w.cell? ⟨b, 4, none⟩ = some (.int .u64 av.k)) (h5 : w.cell? ⟨b, 5, none⟩ = some av.cv) : ActVs w (.slice (some ⟨b, 0, none⟩) 1 1) [av] := by
  refine ⟨by simp [ActV.cells], some ⟨b, 0, none⟩, 1, rfl, Nat.le_refl _, by decide, (fun h _ => by simp at h), fun j u hj => ⟨b, 0, rfl, ?_⟩⟩
  rw [Nat.zero_add]
  match j, hj with
  | 0, hj => simp [ActV.cells] at hj; subst hj; exact h0
  | 1, hj => simp [ActV.cells] at hj; subst hj; exact h1
  | 2, hj => simp [ActV.cells] at hj; subst hj; exact h2
  | 3, hj => simp [ActV.cells] at hj; subst hj; exact h3
  | 4, hj => simp [ActV.cells] at hj; subst hj; exact h4
  | 5, hj => simp [ActV.cells] at hj; subst hj; exact h5
  | j + 6, hj => simp [ActV.cells] at hj
theorem files_news {w : World} {ad : Addr} {c : Nat} {l : List File} (h : Files w (.slice (some ad) l.length c) l) : ∀ j u, (l.flatMap File.cells)[j]? = some u → w.cell? (ad.add j) = some u := by
  obtain ⟨_, ao, cap, e, _, _, _, h6⟩ := h
  intro j u hj
  obtain ⟨b, off, e2, hc⟩ := h6 j u hj
  simp only [Value.slice.injEq] at e
  obtain ⟨rfl, _, _⟩ := e
  cases e2
  rw [Addr.add_lit]; exact hc
theorem files_none {w : World} {n c : Nat} {l : List File} (h : Files w (.slice none n c) l) : l = [] := by
  obtain ⟨_, ao, cap, e, _, _, _, h6⟩ := h
  simp only [Value.slice.injEq] at e
  obtain ⟨rfl, _, _⟩ := e
  cases l with
  | nil => rfl
  | cons f r =>
    obtain ⟨b, off, e2, _⟩ := h6 0 (.string f.name) (by simp [File.cells])
    cases e2
theorem files_one (l : List File) : ∀ u ∈ l.flatMap File.cells, u.oneCell' = true := by
  intro u hu
  obtain ⟨f, _, hf⟩ := List.mem_flatMap.1 hu
  exact file_one f u hf
set_option maxRecDepth 100000 in
set_option maxHeartbeats 4000000 in
theorem law_TopKept (va : Value) (avs : List ActV) (al : List Act) (av : ActV) (a : Act) (w : World) (hav : ActVs w va avs) (haa : IsActs w avs al) (hia : IsAct w av a) (hak : ∀ x ∈ al, x.ok) (hok : a.ok) :
    Calls Try.prog 12 #[va, av.val] w fun e w' => e = .returned (.bool true) ∧ Below w.heap.size w w' := by
  obtain ⟨vo, vc, rfl, hvc, hvm⟩ := hav.parts
  unfold ActV.val
  obtain ⟨W1, hW1⟩ : ∃ W1, W1 = w.alloc (.cells #[.string av.kind, .string av.s, .string av.t, .int .i64 av.n, .int .u64 av.k, av.cv] 50) := ⟨_, rfl⟩
  have BT1 : Hid (Below w.heap.size w W1) := Lib.hid (by rw [hW1]; exact below_alloc w _)
  have HBOX : Hid (∀ W, Below W1.heap.size W1 W → W.cell? ⟨w.heap.size, 0, none⟩ = some (.string av.kind) ∧ W.cell? ⟨w.heap.size, 1, none⟩ = some (.string av.s) ∧ W.cell? ⟨w.heap.size, 2, none⟩ = some (.string av.t) ∧ W.cell? ⟨w.heap.size, 3, none⟩ = some (.int .i64 av.n) ∧ W.cell? ⟨w.heap.size, 4, none⟩ = some (.int .u64 av.k) ∧ W.cell? ⟨w.heap.size, 5, none⟩ = some av.cv) := Lib.hid (fun W hb => by
    obtain ⟨hc, _⟩ := bcell hb
    rw [hc _ _ (by rw [hW1]; simp), hc _ _ (by rw [hW1]; simp), hc _ _ (by rw [hW1]; simp), hc _ _ (by rw [hW1]; simp), hc _ _ (by rw [hW1]; simp), hc _ _ (by rw [hW1]; simp), hW1]
    simp)
  have HW1 := Lib.hid hW1
  clear hW1
  have CB := Lib.hid (top_began W1)
  have HAV := Lib.hid (hav.below BT1.out)
  have HAA := Lib.hid (haa.below BT1.out)
  have HAK := Lib.hid hak
  have HIA := Lib.hid (hia.below BT1.out)
  have HOK := Lib.hid hok
  clear hav haa hak hia hok
  have CL : Hid (∀ v W, ActVs W v [av] → Below W1.heap.size W1 W → Calls Try.prog 22 #[v, .int .i64 1] W fun e w' => e = .returned (.bool (lightActs [a] 1)) ∧ W = w') := Lib.hid fun v W h hb => law_LightActs v [av] [a] 1 W h ⟨rfl, fun i h1 h2 => by simp at h1; subst h1; exact HIA.out.below hb⟩ (by simpa using HOK.out)
  cases hlg : lightActs al 60
  · have CG := Lib.hid fun W (hb : Below W1.heap.size W1 W) => top_grown_no _ avs al W (HAV.out.below hb) (HAA.out.below hb) HAK.out hlg
    clear hlg
    go_enter Try.func12, Try.ntmps12
    go_wp2_with fail
    rw [← HW1.out]
    refine CB.out.mono ?_
    rintro e w1 ⟨rfl, hb1⟩
    have HB1 := Lib.hid hb1
    clear hb1
    go_wp2_with fail
    refine (CG.out _ HB1.out).mono ?_
    rintro e w2 ⟨qo, qc, rfl, hb2⟩
    have HB2 := Lib.hid (two (two HB1.out hb2) (below_alloc w2 (.cells #[.slice qo 0 qc, .int .i64 0] 24)))
    clear hb2
    go_wp2_with fail
    go_ret
    exact ⟨rfl, two BT1.out HB2.out⟩
  · have CG := Lib.hid fun W (hb : Below W1.heap.size W1 W) => top_grown_yes _ avs al W (HAV.out.below hb) (HAA.out.below hb) HAK.out hlg
    have HGQ := Lib.hid (grown_fit hlg)
    obtain ⟨q, hq⟩ : ∃ q, q = grownQ al := ⟨_, rfl⟩
    rw [← hq] at CG HGQ
    clear hq hlg
    have HG : Hid (Good q) := Lib.hid HGQ.out.1
    have hq8 := HGQ.out.1.fine.len
    cases hla : lightActs [a] 1
    · have HLA := Lib.hid hla
      clear hla
      go_enter Try.func12, Try.ntmps12
      go_wp2_with fail
      rw [← HW1.out]
      refine CB.out.mono ?_
      rintro e w1 ⟨rfl, hb1⟩
      have HB1 := Lib.hid hb1
      clear hb1
      go_wp2_with fail
      refine (CG.out _ HB1.out).mono ?_
      rintro e w2 ⟨qo, qc, rfl, hf2, hb2⟩
      have HQ2 := Lib.hid (QAt.new w2 (.slice qo q.files.length qc) q.turn (files_not_str hf2))
      have HB2 := Lib.hid (two (two HB1.out hb2) (below_alloc w2 (.cells #[.slice qo q.files.length qc, .int .i64 q.turn] 24)))
      have HF2 := Lib.hid (hf2.below (below_alloc w2 (.cells #[.slice qo q.files.length qc, .int .i64 q.turn] 24)))
      clear hb2 hf2
      obtain ⟨x0, x1, x2, x3, x4, x5⟩ := HBOX.out _ HB2.out
      have HB3 := Lib.hid (two HB2.out (below_alloc _ (.cells #[.string av.kind, .string av.s, .string av.t, .int .i64 av.n, .int .u64 av.k, av.cv] 50)))
      go_wp2_with fail
      refine (CL.out _ _ (one_acts av (by simp) (by simp) (by simp) (by simp) (by simp) (by simp)) HB3.out).mono ?_
      rintro e w3 ⟨rfl, rfl⟩
      rw [HLA.out]
      clear x0 x1 x2 x3 x4 x5
      go_wp2_with fail
      go_ret
      exact ⟨rfl, two BT1.out HB3.out⟩
    · have HLA := Lib.hid hla
      clear hla
      go_enter Try.func12, Try.ntmps12
      go_wp2_with fail
      rw [← HW1.out]
      refine CB.out.mono ?_
      rintro e w1 ⟨rfl, hb1⟩
      have HB1 := Lib.hid hb1
      clear hb1
      go_wp2_with fail
      refine (CG.out _ HB1.out).mono ?_
      rintro e w2 ⟨qo, qc, rfl, hf2, hb2⟩
      have HQ2 := Lib.hid (QAt.new w2 (.slice qo q.files.length qc) q.turn (files_not_str hf2))
      have HB2 := Lib.hid (two (two HB1.out hb2) (below_alloc w2 (.cells #[.slice qo q.files.length qc, .int .i64 q.turn] 24)))
      have HF2 := Lib.hid (hf2.below (below_alloc w2 (.cells #[.slice qo q.files.length qc, .int .i64 q.turn] 24)))
      clear hb2 hf2
      obtain ⟨x0, x1, x2, x3, x4, x5⟩ := HBOX.out _ HB2.out
      have HB3 := Lib.hid (two HB2.out (below_alloc _ (.cells #[.string av.kind, .string av.s, .string av.t, .int .i64 av.n, .int .u64 av.k, av.cv] 50)))
      go_wp2_with fail
      refine (CL.out _ _ (one_acts av (by simp) (by simp) (by simp) (by simp) (by simp) (by simp)) HB3.out).mono ?_
      rintro e w3 ⟨rfl, rfl⟩
      rw [HLA.out]
      clear x0 x1 x2 x3 x4 x5
      obtain ⟨W3, hW3⟩ : ∃ W3, W3 = (w2.alloc (.cells #[.slice qo q.files.length qc, .int .i64 q.turn] 24)).alloc (.cells #[.string av.kind, .string av.s, .string av.t, .int .i64 av.n, .int .u64 av.k, av.cv] 50) := ⟨_, rfl⟩
      have HQ3 : Hid (QAt W3 w2.heap.size (.slice qo q.files.length qc) q.turn) := Lib.hid (by rw [hW3]; exact HQ2.out.below (below_alloc _ _))
      have HF3 : Hid (Files W3 (.slice qo q.files.length qc) q.files) := Lib.hid (by rw [hW3]; exact HF2.out.below (below_alloc _ _))
      rw [← hW3] at HB3 ⊢
      clear hW3 HQ2 HF2 HB2
      have z0 := HQ3.out.c0
      cases qo with
      | none =>
        have hnil := files_none HF3.out
        have HNL := Lib.hid hnil
        have hl0 : q.files.length = 0 := by rw [hnil]; rfl
        have HL0 := Lib.hid hl0
        clear hnil hl0
        have HBc := HB3
        have HQc := HQ3
        have HFc := HF3
        have HWc : Hid (Files W3 (.slice none 0 0) q.files) := Lib.hid (by rw [HNL.out]; exact Rd.nil _)
        rw [HL0.out] at z0
        have CDx := Lib.hid True.intro
        clear CDx
        have y0 := HQc.out.c0
        rw [HL0.out] at y0
        have y1 := HQc.out.c1
        obtain ⟨x0, x1, x2, x3, x4, x5⟩ := HBOX.out _ HBc.out
        have CD := law_Do (.agg #[.slice none q.files.length qc, .int .i64 q.turn]) q av a W3 ⟨_, rfl, HFc.out⟩ HG.out (HIA.out.below HBc.out) HOK.out
        unfold RetQE ActV.val at CD
        rw [HL0.out] at CD
        replace CD := Lib.hid CD
        go_wp2_with fail
        refine CD.out.mono ?_
        rintro e w5 ⟨q5, rfl, _, hb5⟩
        have HB5 := Lib.hid (two HBc.out hb5)
        have HF5 := Lib.hid (HFc.out.below hb5)
        have HW5 := Lib.hid (HWc.out.below hb5)
        have HQ5 := Lib.hid (HQc.out.below hb5)
        clear hb5 x0 x1 x2 x3 x4 x5 y0 y1
        have y0 := HQ5.out.c0
        rw [HL0.out] at y0 HF5
        have CS := ref_SameFiles _ _ q.files q.files w5 HF5.out HW5.out
        rw [show decide (q.files = q.files) = true by simp] at CS
        replace CS := Lib.hid CS
        go_wp2_with fail
        refine CS.out.mono ?_
        rintro e w6 ⟨rfl, hb6⟩
        have HB6 := Lib.hid (two HB5.out hb6)
        clear hb6
        go_wp2_with fail
        go_ret
        exact ⟨rfl, two BT1.out HB6.out⟩
      | some ad =>
        have HNW := Lib.hid (files_news HF3.out)
        have hq9 : 0 + q.files.length ≤ 1000000000 := by omega
        go_wp2_with (at_builtin; refine wpList_app I_files rfl (.const (.slice none 0 0)) (.tmp 25) rfl W3.heap.size (.slice none 0 0) 0 [] rfl (World.ownsRow_nil _ _ _ _) ad q.files.length qc (q.files.flatMap File.cells) rfl (flat_length File.cells_len _) HNW.out (files_one _) hq9 (Nat.le_refl _) ?_; intro v' w' ho hg; have BG := Lib.hid (grown_below (Below.refl _ _) (World.ownsRow_nil W3 W3.heap.size 57 3) hg (Nat.le_refl _)); have HWc : Hid (Files w' v' q.files) := Lib.hid (by have h := SL.of_own ho; rw [Nat.zero_add, List.nil_append] at h; exact h); obtain ⟨vo', vc', rfl, _, _⟩ := HWc.out.parts; have HBc := Lib.hid (two HB3.out BG.out); have HQc := Lib.hid (HQ3.out.below BG.out); have HFc := Lib.hid (HF3.out.below BG.out); have CD := law_Do (.agg #[.slice (some ad) q.files.length qc, .int .i64 q.turn]) q av a w' ⟨_, rfl, HFc.out⟩ HG.out (HIA.out.below HBc.out) HOK.out; unfold RetQE ActV.val at CD; replace CD := Lib.hid CD; obtain ⟨x0, x1, x2, x3, x4, x5⟩ := HBOX.out _ HBc.out; have y0 := HQc.out.c0; have y1 := HQc.out.c1; clear ho hg)
        refine CD.out.mono ?_
        rintro e w5 ⟨q5, rfl, _, hb5⟩
        have HB5 := Lib.hid (two HBc.out hb5)
        have HF5 := Lib.hid (HFc.out.below hb5)
        have HW5 := Lib.hid (HWc.out.below hb5)
        have HQ5 := Lib.hid (HQc.out.below hb5)
        clear hb5 x0 x1 x2 x3 x4 x5 y0 y1
        have y0 := HQ5.out.c0
        have CS := ref_SameFiles _ _ q.files q.files w5 HF5.out HW5.out
        rw [show decide (q.files = q.files) = true by simp] at CS
        replace CS := Lib.hid CS
        go_wp2_with fail
        refine CS.out.mono ?_
        rintro e w6 ⟨rfl, hb6⟩
        have HB6 := Lib.hid (two HB5.out hb6)
        clear hb6
        go_wp2_with fail
        go_ret
        exact ⟨rfl, two BT1.out HB6.out⟩
end Go.Proofs.Ytggpodlecljcbab
