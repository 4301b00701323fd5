/- A trio's quilt; a deed done to it. The walk of (*Trio).Do: a deed done to a trio, whose disks may fall. -/
import Derived.Test.YtggpodlecljcbadGreatDoorMT1
import Derived.Test.YtggpodlecljcbadGreatDoorMST
import Derived.Test.YtggpodlecljcbadGreatDoorMI4
namespace Go.Proofs.YtggpodlecljcbadGreatDoor
set_option linter.unusedSimpArgs false
set_option linter.unusedVariables false
open Go.RowKit Go.Sort
theorem noStr_box {w : World} {b : Nat} {o : Option Addr} {n c : Nat} {k : IntKind} {i : Int} {t : TypeId} (h : w.heap[b]? = some (.cells #[.slice o n c, .int k i] t (0, 0))) : NoStr w b := by
  intro j s hc
  simp only [World.cell?, h] at hc
  match j, hc with
  | 0, hc => simp at hc
  | 1, hc => simp at hc
  | j + 2, hc => simp at hc
theorem files_cells {w : World} {ad : Addr} {n c : Nat} {l : List File} (h : Files w (.slice (some ad) n c) l) : ∀ j u, (l.flatMap File.cells)[j]? = some u → w.cell? (ad.add j) = some u := by
  obtain ⟨_, ao, cap, e, _, _, _, h6⟩ := h
  simp only [Value.slice.injEq] at e
  obtain ⟨rfl, _, _⟩ := e
  intro j u hj
  obtain ⟨b, off, e, hc⟩ := h6 j u hj
  cases e
  rw [Addr.add_lit]; exact hc
theorem files_cell1 (l : List File) : ∀ u ∈ l.flatMap File.cells, u.oneCell' = true := by
  intro u hu
  obtain ⟨f, _, hf⟩ := List.mem_flatMap.1 hu
  simp only [File.cells, List.mem_cons, List.not_mem_nil, or_false] at hf
  rcases hf with rfl | rfl | rfl <;> rfl
section
variable {P : Nat → Prop} {B : Nat} {b : Nat → Nat} {w : World} {tb : Nat} {L : Nat → Dk} {D : Nat → DiskS} {lb sb : Nat → Nat} {rv : Nat → Value} {sp : Nat → Option Addr} {v : Value} {q : Quilt}
set_option maxRecDepth 100000 in
set_option maxHeartbeats 4000000 in
theorem trio_Quilt (h : PreT P B b w tb L D lb sb rv sp v q) (hl : q.files.length ≤ 1000) :
    Calls Tryz.prog 10 #[.pointer (some ⟨tb, 0, none⟩)] w fun e w' => ∃ qv, e = .returned qv ∧ QuiltsF w.heap.size w' qv q ∧ Below w.heap.size w w' := by
  obtain ⟨vo, vc, rfl, hvc, hvc'⟩ := h.qv.parts
  obtain ⟨W1, hW1⟩ : ∃ W1, W1 = w.alloc (.cells #[.slice none 0 0, .int .i64 0] 36) := ⟨_, rfl⟩
  have HW1 := Lib.hid hW1
  have hb1 : Below w.heap.size w W1 := by rw [hW1]; exact below_alloc _ _
  have HZ1 : Hid (W1.heap.size = w.heap.size + 1) := Lib.hid (by rw [hW1]; simp)
  have HBX : Hid (W1.heap[w.heap.size]? = some (.cells #[.slice none 0 0, .int .i64 0] 36 (0, 0))) := Lib.hid (by rw [hW1]; show (w.heap.push _)[w.heap.size]? = _; simp)
  have HH := Lib.hid (h.below hb1)
  have HB1 := Lib.hid hb1
  have HK : Hid (∀ W, Below W1.heap.size W1 W → W.cell? ⟨tb, 6, none⟩ = some (.slice vo q.files.length vc) ∧ W.cell? ⟨tb, 7, none⟩ = some (.int .i64 q.turn) ∧ W.cell? ⟨w.heap.size, 0, none⟩ = some (.slice none 0 0) ∧ W.cell? ⟨w.heap.size, 1, none⟩ = some (.int .i64 0) ∧ W.frozen? ⟨w.heap.size, 0, none⟩ = false ∧ W.frozen? ⟨w.heap.size, 1, none⟩ = false ∧ NoStr W w.heap.size) := Lib.hid (fun W hW => by
    have hc := ((h.below hb1).below hW).cell
    have hx : W.heap[w.heap.size]? = some (.cells #[.slice none 0 0, .int .i64 0] 36 (0, 0)) := by rw [hW.block _ (by rw [HZ1.out]; omega)]; exact HBX.out
    exact ⟨hc.2.2.2.2.2.2.1, hc.2.2.2.2.2.2.2.1, by simp [World.cell?, hx], by simp [World.cell?, hx], by simp [World.frozen?, hx], by simp [World.frozen?, hx], noStr_box hx⟩)
  clear hW1 hb1 h
  obtain ⟨k0, k1, k2, k3, k4, k5, _⟩ := HK.out W1 (Below.refl _ _)
  have HC1 : Hid (Files W1.drew (.slice vo q.files.length vc) q.files) := Lib.hid (HH.out.qv.below (Below.refl _ _).drew)
  go_enter Tryz.func10, Tryz.ntmps10
  go_wp2_with fail
  rw [← HW1.out]
  cases vo with
  | none =>
    have hn : q.files.length = 0 := by
      obtain ⟨_, ao, cap, e, _, _, _, h6⟩ := HC1.out
      simp only [Value.slice.injEq] at e
      obtain ⟨rfl, _, _⟩ := e
      by_cases hz : q.files.length = 0
      · exact hz
      · have hl : 0 < (q.files.flatMap File.cells).length := by rw [flat_length File.cells_len]; omega
        obtain ⟨_, _, e, _⟩ := h6 0 _ (List.getElem?_eq_getElem hl)
        cases e
    have hq0 : q.files = [] := List.length_eq_zero_iff.1 hn
    have hvz : vc = 0 := by
      obtain ⟨_, ao, cap, e, _, _, h5, _⟩ := HC1.out
      simp only [Value.slice.injEq] at e
      obtain ⟨rfl, _, rfl⟩ := e
      exact h5 hn rfl
    rw [hn, hvz] at k0
    have HQ0 := Lib.hid hq0
    clear hn hvz hvc hvc' hq0
    obtain ⟨qf, qt⟩ := q
    have hq1 : qf = [] := HQ0.out
    subst hq1
    go_region
    all_goals
      go_wp2_with fail
      refine bodyPost_ret (v := .agg #[.slice none 0 0, .int .i64 qt]) (by simp [results, Tryz.results10, go_sem, k2, k3, k4, k5]) rfl ?_
      exact ⟨_, rfl, ⟨_, rfl, Rd.nil _, fresh_nil _⟩, ((HB1.out.setCell (p := ⟨w.heap.size, 0, none⟩) (Nat.le_refl _) _).setCell (p := ⟨w.heap.size, 1, none⟩) (Nat.le_refl _) _).drew⟩
  | some ad =>
    have HNW := Lib.hid (files_cells HC1.out)
    go_region_law (refine step_ownI _ rfl (.const (.slice none 0 0)) (.tmp 7) 34 rfl W1.heap.size 93 3 40 I_files (.slice none 0 0) 0 [] (by simp [Act.eval, Act.put]) (World.ownsRow_nil _ _ _ _) ad q.files.length vc (q.files.flatMap File.cells) (by simp [Act.eval, Act.put]) (flat_length File.cells_len _) HNW.out (files_cell1 _) (by omega) (Nat.le_refl _) ?_; intro v2 w2 ho2 hg2; have HO2 := Lib.hid ho2; obtain ⟨ao2, ac2, rfl, _, _⟩ := own_slice ho2; have hb2 : Below W1.heap.size W1 w2 := grown_below (Below.refl _ _).drew (World.ownsRow_nil _ W1.heap.size 93 3) hg2 (Nat.le_refl _); obtain ⟨j0, j1, j2, j3, j4, j5, jn⟩ := HK.out w2 hb2; have HB2 := Lib.hid hb2; clear ho2 hg2 hb2)
    all_goals
      go_wp2_with fail
      refine bodyPost_ret (v := .agg #[.slice ao2 q.files.length ac2, .int .i64 q.turn]) (by simp [results, Tryz.results10, go_sem, j2, j3, j4, j5]) rfl ?_
      have hof : Files w2 (.slice ao2 q.files.length ac2) q.files := by
        have h := SL.of_own HO2.out
        rw [Nat.zero_add, List.nil_append] at h
        exact h
      exact ⟨_, rfl, quilt_laid_f hof jn (files_not_str hof) (fun b hb => Nat.le_trans HB1.out.size (HO2.out.lt b (by rw [Nat.zero_add]; exact hb)).1), ((two HB1.out HB2.out).setCell (p := ⟨w.heap.size, 0, none⟩) (Nat.le_refl _) _).setCell (p := ⟨w.heap.size, 1, none⟩) (Nat.le_refl _) _⟩
end
theorem allF_put {α : Type} {K : Nat} {enc : α → List Value} {w w' : World} {v : Value} {l : List α} {L : Nat → Dk} {lb sb : Nat → Nat} (hK : 0 < K) (h : ∀ i, i < 3 → RdF (stF (L i) (lb i) (sb i)) K enc w v l) {k : Nat} (hk : k < 3) {L' : Dk} {lb' sb' : Nat} (ho : Off (stF (L k) (lb k) (sb k)) w w')
    (hg : ∀ x, stF L' lb' sb' x → stF (L k) (lb k) (sb k) x ∨ w.heap.size ≤ x) : ∀ i, i < 3 → RdF (stF (upd L k L' i) (upd lb k lb' i) (upd sb k sb' i)) K enc w' v l := fun i hi => by
  refine ⟨((h k hk).off ho).rd, ?_⟩
  by_cases e : i = k
  · subst e
    simp only [upd_same]
    exact far_grow (h i hi).far (rd_lt (h i hi).rd hK) hg
  · simp only [upd_ne _ _ e]
    exact (h i hi).far
theorem upd_step {α : Type} (f g : Nat → α) (k : Nat) : upd (fun i => if i < k then f i else g i) k (f k) = fun i => if i < k + 1 then f i else g i := by
  funext i
  by_cases e : i = k
  · subst e
    rw [upd_same, if_pos (by omega)]
  · rw [upd_ne _ _ e]
    by_cases h : i < k
    · rw [if_pos h, if_pos (by omega)]
    · rw [if_neg h, if_neg (by omega)]
theorem PreT.asD {P : Nat → Prop} {B : Nat} {b : Nat → Nat} {w : World} {tb : Nat} {L : Nat → Dk} {D D' : Nat → DiskS} {lb sb : Nat → Nat} {rv : Nat → Value} {sp : Nat → Option Addr} {v : Value} {q : Quilt} (h : PreT P B b w tb L D lb sb rv sp v q) (e : ∀ k, k < 3 → D k = D' k) : PreT P B b w tb L D' lb sb rv sp v q :=
  { h with ds := h.ds.as e, st := fun k hk hp S q' hc => h.st k hk hp S q' (by rw [e k hk]; exact hc) }
set_option maxRecDepth 100000 in
set_option maxHeartbeats 4000000 in
theorem trio_fn (B : Nat) (qv : Value) (q : Quilt) (av : ActV) (a : Act) (ab : Nat) (w : World) (hB : B ≤ w.heap.size) (hq : QuiltsF B w qv q) (hg : Good q) (ha : IsAct w av a) (hok : a.ok) (hab : w.heap[ab]? = some (.cells #[.string av.kind, .string av.s, .string av.t, .int .i64 av.n, .int .u64 av.k, av.cv] 26 (0, 0))) :
    Calls Tryz.prog 28 #[qv, .pointer (some ⟨ab, 0, none⟩)] w (RetQF B (doAct q a) w) := by
  obtain ⟨v, rfl, hf, hfr⟩ := hq
  obtain ⟨vo, vc, rfl, hvc, hvc'⟩ := hf.parts
  obtain ⟨W2, hW2⟩ : ∃ W2, W2 = (w.alloc (.cells #[.slice vo q.files.length vc, .int .i64 q.turn] 36)).alloc (.cells #[.slice none 0 0, .int .i64 0] 36) := ⟨_, rfl⟩
  have HW2 := Lib.hid hW2
  have hb2 : Below w.heap.size w W2 := by rw [hW2]; exact two (below_alloc _ _) (below_alloc _ _)
  have hbx : W2.heap[w.heap.size + 1]? = some (.cells #[.slice none 0 0, .int .i64 0] 36 (0, 0)) := by rw [hW2]; show ((w.heap.push _).push _)[w.heap.size + 1]? = _; simp [Array.getElem?_push, Array.getElem_push]
  have hz : W2.heap.size = w.heap.size + 2 := by rw [hW2]; simp
  have HBX := Lib.hid hbx
  have HZ := Lib.hid hz
  have hab2 : W2.heap[ab]? = some (.cells #[.string av.kind, .string av.s, .string av.t, .int .i64 av.n, .int .u64 av.k, av.cv] 26 (0, 0)) := by rw [hb2.block _ (Array.getElem?_eq_some_iff.1 hab).1]; exact hab
  have a0 : W2.cell? ⟨ab, 0, none⟩ = some (.string av.kind) := by simp [World.cell?, hab2]
  have a1 : W2.cell? ⟨ab, 1, none⟩ = some (.string av.s) := by simp [World.cell?, hab2]
  have a2 : W2.cell? ⟨ab, 2, none⟩ = some (.string av.t) := by simp [World.cell?, hab2]
  have a3 : W2.cell? ⟨ab, 3, none⟩ = some (.int .i64 av.n) := by simp [World.cell?, hab2]
  have a4 : W2.cell? ⟨ab, 4, none⟩ = some (.int .u64 av.k) := by simp [World.cell?, hab2]
  have a5 : W2.cell? ⟨ab, 5, none⟩ = some av.cv := by simp [World.cell?, hab2]
  have C := law_Do_f B (.agg #[.slice vo q.files.length vc, .int .i64 q.turn]) q av a W2 (Nat.le_trans hB hb2.size) ⟨_, rfl, hf.below hb2, hfr⟩ hg (ha.below hb2) hok
  obtain ⟨ca, cc, hcv, _, _⟩ := ha.2.2.2.2.2.parts
  rw [hcv] at a5
  rw [hW2] at a0 a1 a2 a3 a4 a5
  unfold ActV.val at C
  rw [hcv] at C
  have HC := Lib.hid C
  have HB2 := Lib.hid hb2
  clear C hb2 hW2 hbx hz hab2 hab hok ha hg hf hfr hB
  generalize a.changes.length = cn at *
  go_enter Tryz.func28, Tryz.ntmps28
  go_wp2_with fail
  rw [← HW2.out]
  refine HC.out.mono ?_
  rintro e w3 ⟨qv', rfl, ⟨v', rfl, hf', hfr'⟩, hb3⟩
  obtain ⟨vo', vc', rfl, _, _⟩ := hf'.parts
  have hbx3 : w3.heap[w.heap.size + 1]? = some (.cells #[.slice none 0 0, .int .i64 0] 36 (0, 0)) := by rw [hb3.block _ (by rw [HZ.out]; omega)]; exact HBX.out
  have z2 : w3.cell? ⟨w.heap.size + 1, 0, none⟩ = some (.slice none 0 0) := by simp [World.cell?, hbx3]
  have z3 : w3.cell? ⟨w.heap.size + 1, 1, none⟩ = some (.int .i64 0) := by simp [World.cell?, hbx3]
  have z4 : w3.frozen? ⟨w.heap.size + 1, 0, none⟩ = false := by simp [World.frozen?, hbx3]
  have z5 : w3.frozen? ⟨w.heap.size + 1, 1, none⟩ = false := by simp [World.frozen?, hbx3]
  have HF' := Lib.hid (And.intro hf' (And.intro hfr' (noStr_box hbx3)))
  have HB3 := Lib.hid (two HB2.out hb3)
  obtain ⟨p, hp⟩ : ∃ p, p = doAct q a := ⟨_, rfl⟩
  rw [← hp] at HF' ⊢
  have HP := Lib.hid hp
  clear hp hf' hfr' hb3 hbx3 a0 a1 a2 a3 a4 a5
  go_wp2_with fail
  have HBF := (HB3.out.setCell (p := ⟨w.heap.size + 1, 0, none⟩) (by simp) (.slice vo' p.1.files.length vc')).setCell (p := ⟨w.heap.size + 1, 1, none⟩) (by simp) (.int .i64 p.1.turn)
  refine bodyPost_ret (v := .tuple #[.agg #[.slice vo' p.1.files.length vc', .int .i64 p.1.turn], errV p.2]) (by simp [results, Tryz.results28, go_sem, z2, z3, z4, z5]) rfl ?_
  rw [← HP.out]
  exact ⟨_, rfl, quilt_laid_f HF'.out.1 HF'.out.2.2 (files_not_str HF'.out.1) HF'.out.2.1, HBF⟩
end Go.Proofs.YtggpodlecljcbadGreatDoor
namespace Go.Proofs.YtggpodlecljcbadGreatDoor
set_option linter.unusedSimpArgs false
set_option linter.unusedVariables false
open Go.RowKit Go.Sort
@[go_sem] theorem index_s0 (x0 x1 x2 : Value) (w : World) : (Instr.index 61 (.agg #[x0, x1, x2]) (.int .i64 0)).run Tryz.prog w = .ok x0 w := by kernel_rfl
@[go_sem] theorem index_s1 (x0 x1 x2 : Value) (w : World) : (Instr.index 61 (.agg #[x0, x1, x2]) (.int .i64 1)).run Tryz.prog w = .ok x1 w := by kernel_rfl
@[go_sem] theorem index_s2 (x0 x1 x2 : Value) (w : World) : (Instr.index 61 (.agg #[x0, x1, x2]) (.int .i64 2)).run Tryz.prog w = .ok x2 w := by kernel_rfl
def deedQ (q q' : Quilt) : List Change := mergeC (rowsQ q) (rowsQ q')
/-- disks to which a deed was done. -/
def doneZ (S : Nat → StS) (c : List Change) (D : Nat → DiskS) (k : Nat) : DiskS × StS × Nat := commitZ 24 (S k) c (D k)
structure DoR (w0 w : World) (b : Nat → Nat) (tb : Nat) (L : Nat → Dk) (lb : Nat → Nat) (D : Nat → DiskS) (S : Nat → StS) (sb : Nat → Nat) (q q' : Quilt) (e : Ending) (w' : World) : Prop where
  all : (∀ k, k < 3 → (doneZ S (deedQ q q') D k).2.2 = 0) → e = .returned .nilIface ∧ ∃ L' lb' rv' v', PreT (fun _ => True) w0.heap.size b w' tb L' (fun k => (doneZ S (deedQ q q') D k).1) lb' sb rv' (fun k => some ⟨sb k, 0, none⟩) v' q' ∧ Steps (TF tb L lb sb) w w' (TF tb L' lb' sb)
  some : ∀ m, m < 3 → (∀ k, k < m → (doneZ S (deedQ q q') D k).2.2 = 0) → (doneZ S (deedQ q q') D m).2.2 ≠ 0 → e = .returned (errV (doneZ S (deedQ q q') D m).2.2) ∧ ∃ L', Disks3 w0.heap.size b w' L' (fun i => if i < m + 1 then (doneZ S (deedQ q q') D i).1 else D i) ∧ Steps (TF tb L lb sb) w w' (DF L')
  low : Below w0.heap.size w0 w'
theorem deed_ok {q q' : Quilt} (h : quiltFault q = 0) (h' : quiltFault q' = 0) : ∀ x ∈ deedQ q q', x.ok := by
  obtain ⟨r1, f1, _⟩ := rowsQ_good h
  obtain ⟨r2, f2, _⟩ := rowsQ_good h'
  exact fun x hx => ok_fine (merge_fine r1 r2 f1 f2 x hx)
set_option maxRecDepth 100000 in
set_option maxHeartbeats 16000000 in
theorem trio_Do (w0 w : World) (b : Nat → Nat) (tb : Nat) (L : Nat → Dk) (D : Nat → DiskS) (lb sb : Nat → Nat) (rv : Nat → Value) (v : Value) (q : Quilt) (S : Nat → StS) (p : Quilt × Nat) (ab : Nat)
    (h : PreT (fun _ => True) w0.heap.size b w tb L D lb sb rv (fun k => some ⟨sb k, 0, none⟩) v q) (hi : ∀ k, k < 3 → HasI (D k) (S k) q) (he : ∀ k, k < 3 → (S k).h.epoch ≤ 20000) (hg : GlobI w0) (hbw : Below w0.heap.size w0 w) (hgood : quiltFault q = 0)
    (hcl : ∀ W qv, Below w.heap.size w W → QuiltsF w.heap.size W qv q → Calls Tryz.prog 28 #[qv, .pointer (some ⟨ab, 0, none⟩)] W (RetQF w.heap.size p W))
    (hp : p.2 = 0 → quiltFault p.1 = 0 ∧ (deedQ q p.1).length ≤ 14) :
    Calls Tryz.prog 27 #[.pointer (some ⟨tb, 0, none⟩), .func (.func 28) #[] #[.pointer (some ⟨ab, 0, none⟩)]] w fun e w' =>
      (p.2 ≠ 0 ∧ e = .returned (errV p.2) ∧ Below w.heap.size w w') ∨ (p.2 = 0 ∧ DoR w0 w b tb L lb D S sb q p.1 e w') := by
  have hq8 := (quilt_good hgood).1
  have CQ := Lib.hid (trio_Quilt h (by omega))
  have HH := Lib.hid h
  have HI := Lib.hid hi
  have HE := Lib.hid he
  have HG := Lib.hid hg
  have HBW := Lib.hid hbw
  have HGD := Lib.hid hgood
  have HCL := Lib.hid hcl
  have HP := Lib.hid hp
  obtain ⟨L0, hL0⟩ : ∃ L0, L0 = L := ⟨_, rfl⟩
  have HL0 := Lib.hid hL0
  obtain ⟨lb0, hlb0⟩ : ∃ lb0, lb0 = lb := ⟨_, rfl⟩
  have HLB0 := Lib.hid hlb0
  clear hL0 hlb0
  obtain ⟨vo, vc, rfl, hvc, hvc'⟩ := h.qv.parts
  clear h hi he hg hbw hgood hcl hp hq8
  go_enter Tryz.func27, Tryz.ntmps27
  go_wp2_with fail
  refine CQ.out.mono ?_
  rintro e w1 ⟨qv, rfl, hq1, hb1⟩
  have CF := Lib.hid (HCL.out w1 qv hb1 hq1)
  have HB1 := Lib.hid hb1
  obtain ⟨v1, rfl, hf1, _⟩ := hq1
  obtain ⟨ao1, ac1, rfl, _, _⟩ := hf1.parts
  clear hb1 hf1
  go_wp2_with fail
  refine CF.out.mono ?_
  rintro e w2 ⟨qv2, rfl, ⟨v2, rfl, hf2, hfr2⟩, hb2⟩
  obtain ⟨ao2, ac2, rfl, hac2, hac2'⟩ := hf2.parts
  obtain ⟨p1, p2⟩ := p
  dsimp only at hf2 hfr2 hac2 ⊢
  have HF2 := Lib.hid (And.intro hf2 hfr2)
  have HB2 := Lib.hid (two HB1.out hb2)
  obtain ⟨W3, hW3⟩ : ∃ W3, W3 = w2.alloc (.cells #[.slice ao2 p1.files.length ac2, .int .i64 p1.turn] 36) := ⟨_, rfl⟩
  have HW3 := Lib.hid hW3
  have hb3 : Below w2.heap.size w2 W3 := by rw [hW3]; exact below_alloc _ _
  have HB3 := Lib.hid (two HB2.out hb3)
  have HB23 := Lib.hid hb3
  have HZ3 : Hid (W3.heap.size = w2.heap.size + 1) := Lib.hid (by rw [hW3]; simp)
  have HQX : Hid (W3.heap[w2.heap.size]? = some (.cells #[.slice ao2 p1.files.length ac2, .int .i64 p1.turn] 36 (0, 0))) := Lib.hid (by rw [hW3]; show (w2.heap.push _)[w2.heap.size]? = _; simp)
  clear hf2 hfr2 hb2 hb3 hW3
  by_cases hp2 : p2 = 0
  rotate_left
  · have hpe : errV p2 = .iface 100 (.int .i64 p2) := errV_pos hp2
    rw [hpe]
    have HPE := Lib.hid hpe
    have HP2 := Lib.hid hp2
    clear hp2 hpe
    go_wp2_with fail
    go_ret
    rw [← HW3.out]
    exact Or.inl ⟨HP2.out, by show _ = Ending.returned (errV p2); rw [HPE.out]; rfl, HB3.out⟩
  subst hp2
  rw [errV_zero]
  obtain ⟨hg1, hl1⟩ := HP.out rfl
  dsimp only at hg1 hl1
  have HG1 := Lib.hid hg1
  have HL1 := Lib.hid hl1
  have hpre := HH.out.below HB3.out
  have HPRE := Lib.hid hpre
  have HBW3 := Lib.hid (two HBW.out HB3.out)
  have HK : Hid (∀ W, Below W3.heap.size W3 W → (W.cell? ⟨tb, 6, none⟩ = some (.slice vo q.files.length vc) ∧ W.cell? ⟨tb, 7, none⟩ = some (.int .i64 q.turn)) ∧ W.cell? ⟨w2.heap.size, 0, none⟩ = some (.slice ao2 p1.files.length ac2) ∧ W.cell? ⟨w2.heap.size, 1, none⟩ = some (.int .i64 p1.turn)) := Lib.hid (fun W hW => by
    have hc := (HPRE.out.below hW).cell
    have hx : W.heap[w2.heap.size]? = some (.cells #[.slice ao2 p1.files.length ac2, .int .i64 p1.turn] 36 (0, 0)) := by rw [hW.block _ (by rw [HZ3.out]; omega)]; exact HQX.out
    exact ⟨⟨hc.2.2.2.2.2.2.1, hc.2.2.2.2.2.2.2.1⟩, by simp [World.cell?, hx], by simp [World.cell?, hx]⟩)
  have CRA : Hid (∀ W, Below W3.heap.size W3 W → Calls Tryz.prog 46 #[.agg #[.slice vo q.files.length vc, .int .i64 q.turn]] W fun e w' => ∃ v, e = .returned v ∧ w'.ownsRow W.heap.size 91 3 v (rowsQ q).length ((rowsQ q).flatMap Change.cells) ∧ Below W.heap.size W w') := Lib.hid (fun W hW => image_RowsH _ q W ⟨_, rfl, (HPRE.out.below hW).qv⟩ (HG.out.below (two HBW3.out hW)) HGD.out)
  have CRB : Hid (∀ W, Below W3.heap.size W3 W → Calls Tryz.prog 46 #[.agg #[.slice ao2 p1.files.length ac2, .int .i64 p1.turn]] W fun e w' => ∃ v, e = .returned v ∧ w'.ownsRow W.heap.size 91 3 v (rowsQ p1).length ((rowsQ p1).flatMap Change.cells) ∧ Below W.heap.size W w') := Lib.hid (fun W hW => image_RowsH _ p1 W ⟨_, rfl, (HF2.out.1.below HB23.out).below hW⟩ (HG.out.below (two HBW3.out hW)) HG1.out)
  have CCH : Hid (∀ W va vb, Changes W va (rowsQ q) → Changes W vb (rowsQ p1) → Calls Tryz.prog 45 #[va, vb] W fun e w' => ∃ v, e = .returned v ∧ w'.ownsRow W.heap.size 91 3 v (deedQ q p1).length ((deedQ q p1).flatMap Change.cells) ∧ Below W.heap.size W w') := Lib.hid (fun W va vb ha hb => by
    obtain ⟨r1, _, l1⟩ := rowsQ_good HGD.out
    obtain ⟨r2, _, l2⟩ := rowsQ_good HG1.out
    exact image_Changes va vb _ _ W ha hb (by omega) (by omega) r1 r2)
  obtain ⟨⟨k0, k1⟩, k2, k3⟩ := HK.out W3 (Below.refl _ _)
  clear hpre hg1 hl1
  go_wp2_with fail
  rw [← HW3.out]
  go_cut [7] from 20 to 27 (fun s7 wx => wx.ownsRow W3.heap.size 91 3 s7 (deedQ q p1).length ((deedQ q p1).flatMap Change.cells) ∧ Below W3.heap.size W3 wx)
  case first =>
    go_region_held3 (fun W => (W.cell? ⟨tb, 6, none⟩ = some (.slice vo q.files.length vc) ∧ W.cell? ⟨tb, 7, none⟩ = some (.int .i64 q.turn)) ∧ W.cell? ⟨w2.heap.size, 0, none⟩ = some (.slice ao2 p1.files.length ac2) ∧ W.cell? ⟨w2.heap.size, 1, none⟩ = some (.int .i64 p1.turn))
      (first
        | exact HK.out _ (Below.refl _ _).drew
        | exact HK.out _ (HBC : Hid _).out
        | exact HK.out _ (HBA2 : Hid _).out
        | exact HK.out _ (HBB2 : Hid _).out
        | exact HK.out _ (HBA : Hid _).out
        | exact HK.out _ (HBB : Hid _).out)
      (first
        | (go_at_call 46; with_reducible refine (CRA.out _ (Below.refl _ _).drew).mono ?_; rintro e wA ⟨va, rfl, hoa, hba⟩; obtain ⟨aoa, aca, rfl, _, _⟩ := own_slice hoa; have HBA : Hid (Below W3.heap.size W3 wA) := Lib.hid (two (Below.refl _ _).drew hba); have HOA := Lib.hid hoa; clear hoa hba)
        | (go_at_call 46; with_reducible refine (CRB.out _ (HBA : Hid _).out).mono ?_; rintro e wC ⟨vb, rfl, hob, hbb⟩; obtain ⟨aob, acb, rfl, _, _⟩ := own_slice hob; have HBB2 : Hid (Below W3.heap.size W3 wC) := Lib.hid (two (HBA : Hid _).out hbb); have HOA2 := Lib.hid (own_belowI (HOA : Hid _).out hbb); have HOB2 := Lib.hid hob; clear hob hbb)
        | (go_at_call 46; with_reducible refine (CRB.out _ (Below.refl _ _).drew).mono ?_; rintro e wB ⟨vb, rfl, hob, hbb⟩; obtain ⟨aob, acb, rfl, _, _⟩ := own_slice hob; have HBB : Hid (Below W3.heap.size W3 wB) := Lib.hid (two (Below.refl _ _).drew hbb); have HOB := Lib.hid hob; clear hob hbb)
        | (go_at_call 46; with_reducible refine (CRA.out _ (HBB : Hid _).out).mono ?_; rintro e wC ⟨va, rfl, hoa, hba⟩; obtain ⟨aoa, aca, rfl, _, _⟩ := own_slice hoa; have HBB2 : Hid (Below W3.heap.size W3 wC) := Lib.hid (two (HBB : Hid _).out hba); have HOB2 := Lib.hid (own_belowI (HOB : Hid _).out hba); have HOA2 := Lib.hid hoa; clear hoa hba)
        | (go_at_call 45; refine (CCH.out _ _ _ (SL.of_own (HOA2 : Hid _).out) (SL.of_own (HOB2 : Hid _).out)).mono ?_; rintro e wD ⟨vd, rfl, hod, hbd⟩; obtain ⟨aod, acd, rfl, _, _⟩ := own_slice hod; have HBC : Hid (Below W3.heap.size W3 wD) := Lib.hid (two (HBB2 : Hid _).out hbd); have HOD := Lib.hid (own_baseI hod (HBB2 : Hid _).out.size); clear hod hbd))
    all_goals
      go_wp2_with fail
      go_meet
      exact ⟨(HOD : Hid _).out, (HBC : Hid _).out⟩
  case rest =>
  obtain ⟨hod, hbx⟩ := hcut
  obtain ⟨aod, acd, rfl, had, had'⟩ := own_slice hod
  have HBC := Lib.hid hbx
  have hprc := HPRE.out.below hbx
  have HPC := Lib.hid hprc
  obtain ⟨c0, c1, c2, c3, c4, c5, c6, c7, cf⟩ := hprc.cell
  have HQC : Hid (wc.heap[w2.heap.size]? = some (.cells #[.slice ao2 p1.files.length ac2, .int .i64 p1.turn] 36 (0, 0))) := Lib.hid (by rw [hbx.block _ (by rw [HZ3.out]; omega)]; exact HQX.out)
  have HLC : Hid (∀ i, i < 3 → ∀ x, stF (L i) (lb i) (sb i) x → x < w.heap.size) := Lib.hid (fun i hi x hx => (HH.out.lt i hi x hx).1)
  have HSZ : Hid (w.heap.size ≤ w2.heap.size ∧ W3.heap.size ≤ wc.heap.size) := Lib.hid ⟨HB2.out.size, hbx.size⟩
  have HCHF : Hid (∀ i, i < 3 → ChangesF (stF (L i) (lb i) (sb i)) wc (.slice aod (deedQ q p1).length acd) (deedQ q p1)) := Lib.hid (fun i hi => ⟨SL.of_own hod, fun a n c e hn hx => by
    have h1 := HLC.out i hi _ hx
    have h2 : ¬ a.block < W3.heap.size := far_own hod a n c e hn
    have h3 := HZ3.out
    have h4 := HSZ.out.1
    omega⟩)
  have HFLF : Hid (∀ i, i < 3 → FilesF (stF (L i) (lb i) (sb i)) wc (.slice ao2 p1.files.length ac2) p1.files) := Lib.hid (fun i hi => ⟨(HF2.out.1.below HB23.out).below hbx, fresh_far HF2.out.2 (HLC.out i hi)⟩)
  have HFT : Hid (far (fun x => x = tb) (.slice ao2 p1.files.length ac2)) := Lib.hid (fresh_far HF2.out.2 (fun x hx => by have h1 : x = tb := hx; have := HH.out.tlt; omega))
  have HFB : Hid (far (fun x => x < w0.heap.size) (.slice ao2 p1.files.length ac2)) := Lib.hid (fresh_far HF2.out.2 (fun x hx => by have h1 : x < w0.heap.size := hx; have := HBW.out.size; omega))
  have HCLR : Hid (Clear L lb sb w2.heap.size) := Lib.hid (fun i hi hx => by have h1 := HLC.out i hi _ hx; have := HSZ.out.1; omega)
  have HB0C : Hid (Below w0.heap.size w0 wc) := Lib.hid (two HBW3.out hbx)
  have HDK := Lib.hid (deed_ok HGD.out HG1.out)
  clear hod hbx hprc k0 k1 k2 k3
  go_wp2_with fail
  go_loopw [32] (fun iv wr => ∃ (k : Nat) (L : Nat → Dk) (lb : Nat → Nat) (rv : Nat → Value), k ≤ 3 ∧ iv = .int .i64 k ∧ PreT (fun _ => True) w0.heap.size b wr tb L (fun i => if i < k then (doneZ S (deedQ q p1) D i).1 else D i) lb sb rv (fun k => some ⟨sb k, 0, none⟩) (.slice vo q.files.length vc) q ∧ (∀ i, i < k → (doneZ S (deedQ q p1) D i).2.2 = 0) ∧ (∀ i, i < 3 → ChangesF (stF (L i) (lb i) (sb i)) wr (.slice aod (deedQ q p1).length acd) (deedQ q p1)) ∧ (∀ i, i < 3 → FilesF (stF (L i) (lb i) (sb i)) wr (.slice ao2 p1.files.length ac2) p1.files) ∧ (wr.heap[w2.heap.size]? = some (.cells #[.slice ao2 p1.files.length ac2, .int .i64 p1.turn] 36 (0, 0)) ∧ Clear L lb sb w2.heap.size) ∧ Below w0.heap.size w0 wr ∧ Steps (TF tb L0 lb0 sb) w wr (TF tb L lb sb)) (fun iv _ => 3 - (intOf iv).toNat)
  case atStart => exact ⟨0, L, lb, rv, by omega, rfl, HPC.out.asD (fun k _ => by rw [if_neg (by omega)]), fun i hi => by omega, HCHF.out, HFLF.out, ⟨HQC.out, HCLR.out⟩, HB0C.out, by rw [HL0.out, HLB0.out]; exact ⟨off_below (two HB3.out HBC.out) _, fun _ h => Or.inl h⟩⟩
  case round =>
    obtain ⟨k, L, lb, rv, hk, rfl, hpre, hdn, hch, hfl, hqc, hb0, hst0⟩ := hrel
    have HST := Lib.hid hst0
    have HPK := Lib.hid hpre
    have HDN := Lib.hid hdn
    have HCH := Lib.hid hch
    have HFL := Lib.hid hfl
    have HQK := Lib.hid hqc
    have HB0 := Lib.hid hb0
    clear hpre hdn hch hfl hqc hb0 hst0
    obtain rfl | rfl | rfl | rfl : k = 0 ∨ k = 1 ∨ k = 2 ∨ k = 3 := by omega
    · have hst := (HPK.out.st 0 (by decide) trivial (S 0) q (by rw [if_neg (by omega)]; exact (HI.out 0 (by decide)).copy)).2
      have hdk := HPK.out.ds.d 0 (by decide)
      rw [if_neg (by omega)] at hdk
      have CC := store_Commit (sb 0) (lb 0) (L 0) (D 0) (S 0) 24 (rv 0) (.slice aod (deedQ q p1).length acd) (deedQ q p1) wr hst hdk (HI.out 0 (by decide)).ok (HI.out 0 (by decide)).inv (HE.out 0 (by decide)) (HCH.out 0 (by decide)) HDK.out (by have := HL1.out; omega)
      have hci := commit_i (HI.out 0 (by decide)) HG1.out HL1.out (by have := HE.out 0 (by decide); omega)
      have HCI := Lib.hid hci
      obtain ⟨n, hn⟩ : ∃ n, n = (doneZ S (deedQ q p1) D 0).2.2 := ⟨_, rfl⟩
      have HN := Lib.hid hn
      change Calls Tryz.prog 47 _ _ (fun e w' => e = .returned (errV (doneZ S (deedQ q p1) D 0).2.2) ∧ StoreTo wr (L 0) (lb 0) (sb 0) (rv 0) 24 (doneZ S (deedQ q p1) D 0).1 (doneZ S (deedQ q p1) D 0).2.1 w') at CC
      rw [← hn] at CC
      have HCC := Lib.hid CC
      rw [show ((0 : Nat) : Int) = 0 from rfl]
      clear hst hdk CC hci hn
      go_wp2_with fail
      refine HCC.out.mono ?_
      rintro e w9 ⟨rfl, L9, lb9, rv9, e9, d9, s9, o9, g9, f9⟩
      have HO9 := Lib.hid (And.intro o9 g9)
      have hput := HPK.out.put (k := 0) (by decide) HB0.out.size e9 d9 o9 g9 (s9.flt d9) f9 s9.rl
      have eu1 : upd sb 0 (sb 0) = sb := upd_self sb 0
      have eu2 : upd (fun i => if i < 0 then (doneZ S (deedQ q p1) D i).1 else D i) 0 (doneZ S (deedQ q p1) D 0).1 = fun i => if i < 1 then (doneZ S (deedQ q p1) D i).1 else D i := upd_step (fun i => (doneZ S (deedQ q p1) D i).1) D 0
      rw [eu1, eu2] at hput
      have HPUT := Lib.hid hput
      have HS9 := Lib.hid s9
      have HB9 : Hid (Below w0.heap.size w0 w9) := Lib.hid (HB0.out.trans (o9.below _ HB0.out.size (fun x hx => (HPK.out.lt 0 (by decide) x hx).2)))
      clear e9 d9 s9 o9 g9 f9 hput eu1 eu2
      by_cases hn0 : n = 0
      · subst hn0
        rw [errV_zero]
        go_wp2_with fail
        go_roundw
        case rel =>
          refine ⟨1, _, _, _, by omega, rfl, (HPUT.out.has (fun S1 q1 hc => ?_)).mono (fun i _ _ => by by_cases e : i = 0; exact Or.inr e; exact Or.inl trivial), fun i hi => ?_, ?_, ?_, ⟨?_, ?_⟩, HB9.out, ?_⟩
          · rw [if_pos (by omega)] at hc
            refine ⟨rfl, ?_⟩
            rw [upd_same, upd_same, upd_same]
            rcases HCI.out with ⟨E, S', h1, h2, _⟩ | ⟨E, S', h1, _⟩
            · have e1 : doneZ S (deedQ q p1) D 0 = (E, S', 0) := h1
              rw [e1] at hc
              have h3 := HS9.out
              rw [e1] at h3
              dsimp only at hc h3
              rw [h2.copy] at hc
              simp only [Option.some.injEq, Prod.mk.injEq] at hc
              rw [← hc.1]
              exact h3
            · have e1 : doneZ S (deedQ q p1) D 0 = (E, S', 8) := h1
              have h3 := HN.out
              rw [e1] at h3
              cases h3
          · by_cases e : i = 0
            · rw [e]; exact HN.out.symm
            · exact HDN.out i (by omega)
          · have h1 := allF_put (by decide) HCH.out (k := 0) (by decide) HO9.out.1 HO9.out.2
            rw [show upd sb 0 (sb 0) = sb from upd_self sb 0] at h1
            exact h1
          · have h1 := allF_put (by decide) HFL.out (k := 0) (by decide) HO9.out.1 HO9.out.2
            rw [show upd sb 0 (sb 0) = sb from upd_self sb 0] at h1
            exact h1
          · rw [HO9.out.1.block _ (Array.getElem?_eq_some_iff.1 HQK.out.1).1 (HQK.out.2 0 (by decide))]
            exact HQK.out.1
          · intro i hi hx
            by_cases e : i = 0
            · subst e
              rw [upd_same, upd_same] at hx
              rcases HO9.out.2 _ hx with h1 | h1
              · exact HQK.out.2 0 (by decide) h1
              · have := (Array.getElem?_eq_some_iff.1 HQK.out.1).1; omega
            · rw [upd_ne _ _ e, upd_ne _ _ e] at hx
              exact HQK.out.2 i hi hx
          · have h1 := steps_store (tb := tb) (k := 0) (by decide) HO9.out.1 HO9.out.2
            rw [show upd sb 0 (sb 0) = sb from upd_self sb 0] at h1
            exact HST.out.trans h1
        case measure => simp [intOf]
      · have HN0 := Lib.hid hn0
        rw [errV_pos hn0]
        clear hn0
        go_wp2_with fail
        refine bodyPost_ret (v := .iface 100 (.int .i64 n)) (by simp [results, Tryz.results27, go_sem]) rfl ?_
        refine DoR.mk (fun h => absurd (HN.out.trans (h 0 (by decide))) HN0.out) (fun m hm h1 h2 => ?_) HB9.out
        obtain rfl : m = 0 := by
          rcases Nat.lt_trichotomy m 0 with h | h | h
          · exact absurd (HDN.out m h) h2
          · exact h
          · exact absurd (HN.out.trans (h1 0 h)) HN0.out
        refine ⟨by rw [← HN.out, errV_pos HN0.out], _, HPUT.out.ds, ?_⟩
        have h1 := steps_store (tb := tb) (k := 0) (by decide) HO9.out.1 HO9.out.2
        have h3 := (HST.out.trans h1).mono (F' := TF tb L0 lb0 sb) (fun _ h => h) (fun x hx => df_tf hx)
        rw [HL0.out, HLB0.out] at h3
        exact h3
    · have hst := (HPK.out.st 1 (by decide) trivial (S 1) q (by rw [if_neg (by omega)]; exact (HI.out 1 (by decide)).copy)).2
      have hdk := HPK.out.ds.d 1 (by decide)
      rw [if_neg (by omega)] at hdk
      have CC := store_Commit (sb 1) (lb 1) (L 1) (D 1) (S 1) 24 (rv 1) (.slice aod (deedQ q p1).length acd) (deedQ q p1) wr hst hdk (HI.out 1 (by decide)).ok (HI.out 1 (by decide)).inv (HE.out 1 (by decide)) (HCH.out 1 (by decide)) HDK.out (by have := HL1.out; omega)
      have hci := commit_i (HI.out 1 (by decide)) HG1.out HL1.out (by have := HE.out 1 (by decide); omega)
      have HCI := Lib.hid hci
      obtain ⟨n, hn⟩ : ∃ n, n = (doneZ S (deedQ q p1) D 1).2.2 := ⟨_, rfl⟩
      have HN := Lib.hid hn
      change Calls Tryz.prog 47 _ _ (fun e w' => e = .returned (errV (doneZ S (deedQ q p1) D 1).2.2) ∧ StoreTo wr (L 1) (lb 1) (sb 1) (rv 1) 24 (doneZ S (deedQ q p1) D 1).1 (doneZ S (deedQ q p1) D 1).2.1 w') at CC
      rw [← hn] at CC
      have HCC := Lib.hid CC
      rw [show ((1 : Nat) : Int) = 1 from rfl]
      clear hst hdk CC hci hn
      go_wp2_with fail
      refine HCC.out.mono ?_
      rintro e w9 ⟨rfl, L9, lb9, rv9, e9, d9, s9, o9, g9, f9⟩
      have HO9 := Lib.hid (And.intro o9 g9)
      have hput := HPK.out.put (k := 1) (by decide) HB0.out.size e9 d9 o9 g9 (s9.flt d9) f9 s9.rl
      have eu1 : upd sb 1 (sb 1) = sb := upd_self sb 1
      have eu2 : upd (fun i => if i < 1 then (doneZ S (deedQ q p1) D i).1 else D i) 1 (doneZ S (deedQ q p1) D 1).1 = fun i => if i < 2 then (doneZ S (deedQ q p1) D i).1 else D i := upd_step (fun i => (doneZ S (deedQ q p1) D i).1) D 1
      rw [eu1, eu2] at hput
      have HPUT := Lib.hid hput
      have HS9 := Lib.hid s9
      have HB9 : Hid (Below w0.heap.size w0 w9) := Lib.hid (HB0.out.trans (o9.below _ HB0.out.size (fun x hx => (HPK.out.lt 1 (by decide) x hx).2)))
      clear e9 d9 s9 o9 g9 f9 hput eu1 eu2
      by_cases hn0 : n = 0
      · subst hn0
        rw [errV_zero]
        go_wp2_with fail
        go_roundw
        case rel =>
          refine ⟨2, _, _, _, by omega, rfl, (HPUT.out.has (fun S1 q1 hc => ?_)).mono (fun i _ _ => by by_cases e : i = 1; exact Or.inr e; exact Or.inl trivial), fun i hi => ?_, ?_, ?_, ⟨?_, ?_⟩, HB9.out, ?_⟩
          · rw [if_pos (by omega)] at hc
            refine ⟨rfl, ?_⟩
            rw [upd_same, upd_same, upd_same]
            rcases HCI.out with ⟨E, S', h1, h2, _⟩ | ⟨E, S', h1, _⟩
            · have e1 : doneZ S (deedQ q p1) D 1 = (E, S', 0) := h1
              rw [e1] at hc
              have h3 := HS9.out
              rw [e1] at h3
              dsimp only at hc h3
              rw [h2.copy] at hc
              simp only [Option.some.injEq, Prod.mk.injEq] at hc
              rw [← hc.1]
              exact h3
            · have e1 : doneZ S (deedQ q p1) D 1 = (E, S', 8) := h1
              have h3 := HN.out
              rw [e1] at h3
              cases h3
          · by_cases e : i = 1
            · rw [e]; exact HN.out.symm
            · exact HDN.out i (by omega)
          · have h1 := allF_put (by decide) HCH.out (k := 1) (by decide) HO9.out.1 HO9.out.2
            rw [show upd sb 1 (sb 1) = sb from upd_self sb 1] at h1
            exact h1
          · have h1 := allF_put (by decide) HFL.out (k := 1) (by decide) HO9.out.1 HO9.out.2
            rw [show upd sb 1 (sb 1) = sb from upd_self sb 1] at h1
            exact h1
          · rw [HO9.out.1.block _ (Array.getElem?_eq_some_iff.1 HQK.out.1).1 (HQK.out.2 1 (by decide))]
            exact HQK.out.1
          · intro i hi hx
            by_cases e : i = 1
            · subst e
              rw [upd_same, upd_same] at hx
              rcases HO9.out.2 _ hx with h1 | h1
              · exact HQK.out.2 1 (by decide) h1
              · have := (Array.getElem?_eq_some_iff.1 HQK.out.1).1; omega
            · rw [upd_ne _ _ e, upd_ne _ _ e] at hx
              exact HQK.out.2 i hi hx
          · have h1 := steps_store (tb := tb) (k := 1) (by decide) HO9.out.1 HO9.out.2
            rw [show upd sb 1 (sb 1) = sb from upd_self sb 1] at h1
            exact HST.out.trans h1
        case measure => simp [intOf]
      · have HN0 := Lib.hid hn0
        rw [errV_pos hn0]
        clear hn0
        go_wp2_with fail
        refine bodyPost_ret (v := .iface 100 (.int .i64 n)) (by simp [results, Tryz.results27, go_sem]) rfl ?_
        refine DoR.mk (fun h => absurd (HN.out.trans (h 1 (by decide))) HN0.out) (fun m hm h1 h2 => ?_) HB9.out
        obtain rfl : m = 1 := by
          rcases Nat.lt_trichotomy m 1 with h | h | h
          · exact absurd (HDN.out m h) h2
          · exact h
          · exact absurd (HN.out.trans (h1 1 h)) HN0.out
        refine ⟨by rw [← HN.out, errV_pos HN0.out], _, HPUT.out.ds, ?_⟩
        have h1 := steps_store (tb := tb) (k := 1) (by decide) HO9.out.1 HO9.out.2
        have h3 := (HST.out.trans h1).mono (F' := TF tb L0 lb0 sb) (fun _ h => h) (fun x hx => df_tf hx)
        rw [HL0.out, HLB0.out] at h3
        exact h3
    · have hst := (HPK.out.st 2 (by decide) trivial (S 2) q (by rw [if_neg (by omega)]; exact (HI.out 2 (by decide)).copy)).2
      have hdk := HPK.out.ds.d 2 (by decide)
      rw [if_neg (by omega)] at hdk
      have CC := store_Commit (sb 2) (lb 2) (L 2) (D 2) (S 2) 24 (rv 2) (.slice aod (deedQ q p1).length acd) (deedQ q p1) wr hst hdk (HI.out 2 (by decide)).ok (HI.out 2 (by decide)).inv (HE.out 2 (by decide)) (HCH.out 2 (by decide)) HDK.out (by have := HL1.out; omega)
      have hci := commit_i (HI.out 2 (by decide)) HG1.out HL1.out (by have := HE.out 2 (by decide); omega)
      have HCI := Lib.hid hci
      obtain ⟨n, hn⟩ : ∃ n, n = (doneZ S (deedQ q p1) D 2).2.2 := ⟨_, rfl⟩
      have HN := Lib.hid hn
      change Calls Tryz.prog 47 _ _ (fun e w' => e = .returned (errV (doneZ S (deedQ q p1) D 2).2.2) ∧ StoreTo wr (L 2) (lb 2) (sb 2) (rv 2) 24 (doneZ S (deedQ q p1) D 2).1 (doneZ S (deedQ q p1) D 2).2.1 w') at CC
      rw [← hn] at CC
      have HCC := Lib.hid CC
      rw [show ((2 : Nat) : Int) = 2 from rfl]
      clear hst hdk CC hci hn
      go_wp2_with fail
      refine HCC.out.mono ?_
      rintro e w9 ⟨rfl, L9, lb9, rv9, e9, d9, s9, o9, g9, f9⟩
      have HO9 := Lib.hid (And.intro o9 g9)
      have hput := HPK.out.put (k := 2) (by decide) HB0.out.size e9 d9 o9 g9 (s9.flt d9) f9 s9.rl
      have eu1 : upd sb 2 (sb 2) = sb := upd_self sb 2
      have eu2 : upd (fun i => if i < 2 then (doneZ S (deedQ q p1) D i).1 else D i) 2 (doneZ S (deedQ q p1) D 2).1 = fun i => if i < 3 then (doneZ S (deedQ q p1) D i).1 else D i := upd_step (fun i => (doneZ S (deedQ q p1) D i).1) D 2
      rw [eu1, eu2] at hput
      have HPUT := Lib.hid hput
      have HS9 := Lib.hid s9
      have HB9 : Hid (Below w0.heap.size w0 w9) := Lib.hid (HB0.out.trans (o9.below _ HB0.out.size (fun x hx => (HPK.out.lt 2 (by decide) x hx).2)))
      clear e9 d9 s9 o9 g9 f9 hput eu1 eu2
      by_cases hn0 : n = 0
      · subst hn0
        rw [errV_zero]
        go_wp2_with fail
        go_roundw
        case rel =>
          refine ⟨3, _, _, _, by omega, rfl, (HPUT.out.has (fun S1 q1 hc => ?_)).mono (fun i _ _ => by by_cases e : i = 2; exact Or.inr e; exact Or.inl trivial), fun i hi => ?_, ?_, ?_, ⟨?_, ?_⟩, HB9.out, ?_⟩
          · rw [if_pos (by omega)] at hc
            refine ⟨rfl, ?_⟩
            rw [upd_same, upd_same, upd_same]
            rcases HCI.out with ⟨E, S', h1, h2, _⟩ | ⟨E, S', h1, _⟩
            · have e1 : doneZ S (deedQ q p1) D 2 = (E, S', 0) := h1
              rw [e1] at hc
              have h3 := HS9.out
              rw [e1] at h3
              dsimp only at hc h3
              rw [h2.copy] at hc
              simp only [Option.some.injEq, Prod.mk.injEq] at hc
              rw [← hc.1]
              exact h3
            · have e1 : doneZ S (deedQ q p1) D 2 = (E, S', 8) := h1
              have h3 := HN.out
              rw [e1] at h3
              cases h3
          · by_cases e : i = 2
            · rw [e]; exact HN.out.symm
            · exact HDN.out i (by omega)
          · have h1 := allF_put (by decide) HCH.out (k := 2) (by decide) HO9.out.1 HO9.out.2
            rw [show upd sb 2 (sb 2) = sb from upd_self sb 2] at h1
            exact h1
          · have h1 := allF_put (by decide) HFL.out (k := 2) (by decide) HO9.out.1 HO9.out.2
            rw [show upd sb 2 (sb 2) = sb from upd_self sb 2] at h1
            exact h1
          · rw [HO9.out.1.block _ (Array.getElem?_eq_some_iff.1 HQK.out.1).1 (HQK.out.2 2 (by decide))]
            exact HQK.out.1
          · intro i hi hx
            by_cases e : i = 2
            · subst e
              rw [upd_same, upd_same] at hx
              rcases HO9.out.2 _ hx with h1 | h1
              · exact HQK.out.2 2 (by decide) h1
              · have := (Array.getElem?_eq_some_iff.1 HQK.out.1).1; omega
            · rw [upd_ne _ _ e, upd_ne _ _ e] at hx
              exact HQK.out.2 i hi hx
          · have h1 := steps_store (tb := tb) (k := 2) (by decide) HO9.out.1 HO9.out.2
            rw [show upd sb 2 (sb 2) = sb from upd_self sb 2] at h1
            exact HST.out.trans h1
        case measure => simp [intOf]
      · have HN0 := Lib.hid hn0
        rw [errV_pos hn0]
        clear hn0
        go_wp2_with fail
        refine bodyPost_ret (v := .iface 100 (.int .i64 n)) (by simp [results, Tryz.results27, go_sem]) rfl ?_
        refine DoR.mk (fun h => absurd (HN.out.trans (h 2 (by decide))) HN0.out) (fun m hm h1 h2 => ?_) HB9.out
        obtain rfl : m = 2 := by
          rcases Nat.lt_trichotomy m 2 with h | h | h
          · exact absurd (HDN.out m h) h2
          · exact h
          · exact absurd (HN.out.trans (h1 2 h)) HN0.out
        refine ⟨by rw [← HN.out, errV_pos HN0.out], _, HPUT.out.ds, ?_⟩
        have h1 := steps_store (tb := tb) (k := 2) (by decide) HO9.out.1 HO9.out.2
        have h3 := (HST.out.trans h1).mono (F' := TF tb L0 lb0 sb) (fun _ h => h) (fun x hx => df_tf hx)
        rw [HL0.out, HLB0.out] at h3
        exact h3
    · rw [show ((3 : Nat) : Int) = 3 from rfl]
      obtain ⟨c0, c1, c2, c3, c4, c5, c6, c7, cf⟩ := HPK.out.cell
      have s0 : wr.cell? ⟨w2.heap.size, 0, none⟩ = some (.slice ao2 p1.files.length ac2) := by simp [World.cell?, HQK.out.1]
      have s1 : wr.cell? ⟨w2.heap.size, 1, none⟩ = some (.int .i64 p1.turn) := by simp [World.cell?, HQK.out.1]
      go_wp2_with fail
      refine bodyPost_ret (v := .nilIface) (by simp [results, Tryz.results27, go_sem]) rfl ?_
      have hO : Off (fun x => x = tb) wr ((wr.setCell ⟨tb, 6, none⟩ (.slice ao2 p1.files.length ac2)).setCell ⟨tb, 7, none⟩ (.int .i64 p1.turn)) := (off_setCell (F := fun x => x = tb) wr ⟨tb, 6, none⟩ rfl _).trans (off_setCell (F := fun x => x = tb) _ ⟨tb, 7, none⟩ rfl _) (fun _ _ h => h)
      have hfin := HPK.out.cells hO (sp' := fun k => some ⟨sb k, 0, none⟩) (v' := .slice ao2 p1.files.length ac2) (q' := p1) (heap_set_self _ _ _ _ (heap_set_self _ _ _ _ HPK.out.box)) (fun _ _ _ => rfl) (HFL.out 0 (by decide)).rd (fun k hk => (HFL.out k hk).far) HFT.out HFB.out
      refine DoR.mk (fun _ => ⟨rfl, L, lb, rv, .slice ao2 p1.files.length ac2, hfin.asD (fun k hk => by rw [if_pos hk]), by
        rw [← HL0.out, ← HLB0.out]
        exact HST.out.trans ⟨hO.mono (fun x hx => Or.inl hx), fun x hx => Or.inl hx⟩⟩) (fun m hm _ h2 => absurd (HDN.out m hm) h2) ((HB0.out.setCell (p := ⟨tb, 6, none⟩) HPK.out.tB _).setCell (p := ⟨tb, 7, none⟩) HPK.out.tB _)
end Go.Proofs.YtggpodlecljcbadGreatDoor
