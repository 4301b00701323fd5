/- Three disks and a trio on them, for a statement. An act done to a trio; three new disks. Printed by wip/mk_ltr1.py. A file is kept; disks played; all three have a quilt. Printed by wip/mk_ltr2.py. All three have a quilt; few texts. Printed by wip/mk_ltr3.py. -/
import Derived.Deep.RegionLaw
import Derived.Deep.CutRange
import Derived.Test.YtggpodlecljcbadGreatDoorMT7
import Derived.Test.YtggpodlecljcbadGreatDoorMT8
import Derived.Test.YtggpodlecljcbadGreatDoorMK4
namespace Go.Proofs.YtggpodlecljcbadGreatDoor
set_option linter.unusedSimpArgs false
set_option linter.unusedVariables false
open Go.RowKit Go.Sort
theorem pick3 {α : Type} {P : Nat → α → Prop} (h : ∀ k, k < 3 → ∃ x, P k x) : ∃ f : Nat → α, ∀ k, k < 3 → P k (f k) := by
  obtain ⟨x0, h0⟩ := h 0 (by decide)
  obtain ⟨x1, h1⟩ := h 1 (by decide)
  obtain ⟨x2, h2⟩ := h 2 (by decide)
  refine ⟨fun k => match k with | 0 => x0 | 1 => x1 | _ => x2, fun k hk => ?_⟩
  match k, hk with
  | 0, _ => exact h0
  | 1, _ => exact h1
  | 2, _ => exact h2
theorem OpenR.trio {w0 w' : World} {b : Nat → Nat} {D D' : Nat → DiskS} {q : Quilt} {tb n : Nat} {L' : Nat → Dk} {lb sb : Nat → Nat} {rv : Nat → Value} {sp : Nat → Option Addr} {v : Value} (h : OpenR w0 b D q w' tb L' D' lb sb rv sp v) (hg : Good q) {S : Nat → StS} (hs : ∀ k, k < 3 → HasQ (D' k) (S k) q ∧ (S k).h.epoch ≤ n) :
    TrioQ n w0.heap.size b w' tb q L' D' S lb sb rv v :=
  ⟨h.pre.resp (fun k hk => (h.pre.st k hk trivial _ _ (hs k hk).1.copy).1), fun k hk => (hs k hk).1, fun k hk => (hs k hk).2, hg⟩
/-- three new disks, the first n of which are there. -/
structure NewTo (B : Nat) (b : Nat → Nat) (w : World) (L : Nat → Dk) (n : Nat) : Prop where
  d : ∀ k, k < n → DiskAt w (L k) (newD 50)
  eq : ∀ k, k < n → (L k).b = b k
  low : ∀ k, k < n → ∀ x, (L k).foot x → B ≤ x
  ap : ∀ i j, i < n → j < n → i ≠ j → ∀ x, (L i).foot x → ¬ (L j).foot x
theorem NewTo.next {B n : Nat} {b : Nat → Nat} {w w' w2 : World} {L : Nat → Dk} {Ln : Dk} (h : NewTo B b w L n) (hb : Below w.heap.size w w') (hB : B ≤ w.heap.size) (hd : DiskAt w' Ln (newD 50)) (hf : ∀ k, Ln.foot k → w.heap.size ≤ k) (ho : Off (fun x => x < B) w' w2) : NewTo B (upd b n Ln.b) w2 (upd L n Ln) (n + 1) := by
  have hlt : ∀ k, k < n → ∀ x, (L k).foot x → x < w.heap.size := fun k hk x hx => (h.d k hk).lt x hx
  refine ⟨fun k hk => ?_, fun k hk => ?_, fun k hk x hx => ?_, fun i j hi hj hij x hx hx' => ?_⟩
  · by_cases e : k = n
    · subst e; rw [upd_same]; exact hd.off ho (fun x hx h1 => by have h2 := hf x hx; have h3 : x < B := h1; omega)
    · rw [upd_ne _ _ e]; exact ((h.d k (by omega)).below hb).off ho (fun x hx h1 => by have h2 := h.low k (by omega) x hx; have h3 : x < B := h1; omega)
  · by_cases e : k = n
    · subst e; rw [upd_same, upd_same]
    · rw [upd_ne _ _ e, upd_ne _ _ e]; exact h.eq k (by omega)
  · by_cases e : k = n
    · subst e; rw [upd_same] at hx; exact Nat.le_trans hB (hf x hx)
    · rw [upd_ne _ _ e] at hx; exact h.low k (by omega) x hx
  · by_cases ei : i = n
    · subst ei
      rw [upd_same] at hx
      rw [upd_ne _ _ (fun e => hij e.symm)] at hx'
      have h1 := hf x hx
      have h2 := hlt j (by omega) x hx'
      omega
    · rw [upd_ne _ _ ei] at hx
      by_cases ej : j = n
      · subst ej
        rw [upd_same] at hx'
        have h1 := hf x hx'
        have h2 := hlt i (by omega) x hx
        omega
      · rw [upd_ne _ _ ej] at hx'
        exact h.ap i j (by omega) (by omega) hij x hx hx'
theorem new_sound : Sound (newD 50) := ⟨newD_ok (by decide) (by decide), newD_calm 50, newD_40 50, newD_len 50, by decide⟩
/-- all three have a quilt: the vote. -/
theorem all_right {D : Nat → DiskS} {q : Quilt} (h : ∀ k, k < 3 → copyC (D k) = ⟨true, q⟩) : votedQ (trioC D) = q ∧ votedE (trioC D) = 0 ∧ wrongs (trioC D) q = [] := by
  obtain ⟨h1, h2, h3⟩ := two_right (t := trioC D) (q := q) (k := 0) (by decide) (fun i hi _ => by rw [trioC_at D i hi]; exact h i hi)
  rw [trioC_at D 0 (by decide), h 0 (by decide), if_pos (sameR _)] at h3
  exact ⟨h1, h2, h3⟩
/-- all but one have a quilt: the vote. -/
theorem most_right {D : Nat → DiskS} {q : Quilt} {k : Nat} (hk : k < 3) (h : ∀ i, i < 3 → i ≠ k → copyC (D i) = ⟨true, q⟩) : votedQ (trioC D) = q ∧ votedE (trioC D) = 0 ∧ (wrongs (trioC D) q).length ≤ 1 ∧ (copyC (D k) ≠ ⟨true, q⟩ → (wrongs (trioC D) q).length = 1) := by
  obtain ⟨h1, h2, h3⟩ := two_right (t := trioC D) (q := q) hk (fun i hi hne => by rw [trioC_at D i hi]; exact h i hi hne)
  rw [trioC_at D k hk] at h3
  refine ⟨h1, h2, ?_, fun hn => ?_⟩
  · rw [h3]; split <;> simp
  · rw [h3, same_no hn]; rfl
end Go.Proofs.YtggpodlecljcbadGreatDoor
namespace Go.Proofs.YtggpodlecljcbadGreatDoor
set_option linter.unusedSimpArgs false
set_option linter.unusedVariables false
open Go.RowKit Go.Sort
theorem DoR.after {w0 w W1 w' : World} {b : Nat → Nat} {tb : Nat} {L : Nat → Dk} {lb : Nat → Nat} {D : Nat → DiskS} {S : Nat → StS} {sb : Nat → Nat} {q q' : Quilt} {e : Ending} (hb : Below w.heap.size w W1) (h : DoR w0 W1 b tb L lb D S sb q q' e w') : DoR w0 w b tb L lb D S sb q q' e w' :=
  ⟨fun ha => by
    obtain ⟨h1, L', lb', rv', v', h2, h3⟩ := h.all ha
    exact ⟨h1, L', lb', rv', v', h2, h3.after hb⟩, fun m hm h1 h2 => by
    obtain ⟨h3, L', h4, h5⟩ := h.some m hm h1 h2
    exact ⟨h3, L', h4, h5.after hb⟩, h.low⟩
set_option maxRecDepth 100000 in
set_option maxHeartbeats 4000000 in
theorem law_DoTrio (w0 w : World) (b : Nat → Nat) (tb : Nat) (L : Nat → Dk) (D : Nat → DiskS) (lb sb : Nat → Nat) (rv : Nat → Value) (v : Value) (q : Quilt) (S : Nat → StS) (av : ActV) (a : Act)
    (h : PreT (fun _ => True) w0.heap.size b w tb L D lb sb rv (fun k => some ⟨sb k, 0, none⟩) v q) (hi : ∀ k, k < 3 → HasI (D k) (S k) q) (he : ∀ k, k < 3 → (S k).h.epoch ≤ 20000) (hg : GlobI w0) (hbw : Below w0.heap.size w0 w) (hgood : Good q) (ha : IsAct w av a) (hok : a.ok) :
    Calls Tryz.prog 13 #[.pointer (some ⟨tb, 0, none⟩), av.val] w fun e w' =>
      ((doAct q a).2 ≠ 0 ∧ e = .returned (errV (doAct q a).2) ∧ Below w.heap.size w w') ∨ ((doAct q a).2 = 0 ∧ DoR w0 w b tb L lb D S sb q (doAct q a).1 e w') := by
  obtain ⟨ca, cc, hcv, _, _⟩ := ha.2.2.2.2.2.parts
  obtain ⟨W1, hW1⟩ : ∃ W1, W1 = w.alloc (.cells #[.string av.kind, .string av.s, .string av.t, .int .i64 av.n, .int .u64 av.k, av.cv] 26) := ⟨_, rfl⟩
  have hb1 : Below w.heap.size w W1 := by rw [hW1]; exact below_alloc _ _
  have hab : ∀ W, Below W1.heap.size W1 W → W.heap[w.heap.size]? = some (.cells #[.string av.kind, .string av.s, .string av.t, .int .i64 av.n, .int .u64 av.k, av.cv] 26 (0, 0)) := fun W hW => by
    rw [hW.block _ (by rw [hW1]; simp), hW1]
    show (w.heap.push _)[w.heap.size]? = _
    simp
  have C := trio_Do w0 W1 b tb L D lb sb rv v q S (doAct q a) w.heap.size (h.below hb1) hi he hg (two hbw hb1) (fault_good hgood)
    (fun W qv hW hq => trio_fn W1.heap.size qv q av a w.heap.size W hW.size hq hgood (ha.below (two hb1 hW)) hok (hab W hW))
    (fun h0 => ⟨fault_good (do_good hgood a h0), act_short hgood a h0⟩)
  have HC := Lib.hid C
  have HW1 := Lib.hid hW1
  have HB1 := Lib.hid hb1
  unfold ActV.val
  rw [hcv] at HW1 ⊢
  generalize a.changes.length = cn at *
  clear C hW1 hb1 hab h hi he hg hbw hgood ha hok
  go_enter Tryz.func13, Tryz.ntmps13
  go_wp2_with fail
  rw [← HW1.out]
  refine HC.out.mono ?_
  rintro e w2 hr
  have HR := Lib.hid hr
  clear hr
  rcases HR.out with ⟨h1, rfl, h3⟩ | ⟨h1, hd⟩
  · have H1 := Lib.hid h1
    have H3 := Lib.hid (two HB1.out h3)
    rw [errV_pos h1]
    clear h1 h3
    go_wp2_with fail
    refine bodyPost_ret (v := .iface 100 (.int .i64 (doAct q a).2)) (by simp [results, Tryz.results13, go_sem]) rfl ?_
    exact Or.inl ⟨H1.out, by rw [errV_pos H1.out], H3.out⟩
  · have hex : ∃ n, e = .returned (errV n) := by
      by_cases hall : ∀ k, k < 3 → (doneZ S (deedQ q (doAct q a).1) D k).2.2 = 0
      · exact ⟨0, by rw [errV_zero]; exact (hd.all hall).1⟩
      · by_cases h0 : (doneZ S (deedQ q (doAct q a).1) D 0).2.2 = 0
        · by_cases h1 : (doneZ S (deedQ q (doAct q a).1) D 1).2.2 = 0
          · by_cases h2 : (doneZ S (deedQ q (doAct q a).1) D 2).2.2 = 0
            · refine absurd (fun k hk => ?_) hall
              match k, hk with
              | 0, _ => exact h0
              | 1, _ => exact h1
              | 2, _ => exact h2
            · exact ⟨_, (hd.some 2 (by decide) (fun k hk => by
                match k, hk with
                | 0, _ => exact h0
                | 1, _ => exact h1) h2).1⟩
          · exact ⟨_, (hd.some 1 (by decide) (fun k hk => by
              match k, hk with
              | 0, _ => exact h0) h1).1⟩
        · exact ⟨_, (hd.some 0 (by decide) (fun k hk => by omega) h0).1⟩
    obtain ⟨n, rfl⟩ := hex
    have HD := Lib.hid (And.intro h1 hd)
    clear h1 hd
    by_cases hn : n = 0
    · subst hn
      have HDD := HD.out.2
      rw [errV_zero] at HDD ⊢
      have HD2 := Lib.hid HDD
      clear HDD
      go_wp2_with fail
      refine bodyPost_ret (v := .nilIface) (by simp [results, Tryz.results13, go_sem]) rfl ?_
      exact Or.inr ⟨HD.out.1, HD2.out.after HB1.out⟩
    · have HN := Lib.hid hn
      have HDD := HD.out.2
      rw [errV_pos hn] at HDD ⊢
      have HD2 := Lib.hid HDD
      clear HDD hn
      go_wp2_with fail
      refine bodyPost_ret (v := .iface 100 (.int .i64 n)) (by simp [results, Tryz.results13, go_sem]) rfl ?_
      exact Or.inr ⟨HD.out.1, HD2.out.after HB1.out⟩
/-- an act done to a trio whose disks don't fall. -/
theorem law_DoTrioQ (w0 w : World) (n : Nat) (b : Nat → Nat) (tb : Nat) (L : Nat → Dk) (D : Nat → DiskS) (S : Nat → StS) (lb sb : Nat → Nat) (rv : Nat → Value) (v : Value) (q : Quilt) (av : ActV) (a : Act)
    (h : TrioQ n w0.heap.size b w tb q L D S lb sb rv v) (hn : n ≤ 20000) (hg : GlobI w0) (hbw : Below w0.heap.size w0 w) (ha : IsAct w av a) (hok : a.ok) :
    Calls Tryz.prog 13 #[.pointer (some ⟨tb, 0, none⟩), av.val] w fun e w' => e = .returned (errV (doAct q a).2) ∧ ∃ L' D' S' lb' rv' v', TrioQ (n + 1) w0.heap.size b w' tb (stepQ q a) L' D' S' lb' sb rv' v' ∧ Below w0.heap.size w0 w' ∧ Steps (TF tb L lb sb) w w' (TF tb L' lb' sb) := by
  refine (law_DoTrio w0 w b tb L D lb sb rv v q S av a h.pre (fun k hk => (h.has k hk).i) (fun k hk => Nat.le_trans (h.ep k hk) hn) hg hbw h.good ha hok).mono ?_
  rintro e w' (⟨h1, rfl, h3⟩ | ⟨h1, hd⟩)
  · have e1 : stepQ q a = q := by unfold stepQ; rw [if_neg h1]
    rw [e1]
    exact ⟨rfl, L, D, S, lb, rv, v, ⟨h.pre.below h3, h.has, fun k hk => Nat.le_succ_of_le (h.ep k hk), h.good⟩, two hbw h3, (Steps.refl _ _).below h3⟩
  · have e1 : stepQ q a = (doAct q a).1 := by unfold stepQ; rw [if_pos h1]
    rw [e1, h1, errV_zero]
    have hq' := fault_good (do_good h.good a h1)
    have hk : ∀ k, k < 3 → ∃ S', (doneZ S (deedQ q (doAct q a).1) D k).2.2 = 0 ∧ HasQ (doneZ S (deedQ q (doAct q a).1) D k).1 S' (doAct q a).1 ∧ S'.h.epoch ≤ n + 1 := fun k hk => by
      obtain ⟨E, S', c1, c2, c3⟩ := done_has (h.has k hk) hq' (act_short h.good a h1) (by have := h.ep k hk; omega)
      have c4 : doneZ S (deedQ q (doAct q a).1) D k = (E, S', 0) := c1
      rw [c4]
      exact ⟨S', rfl, c2, by have := h.ep k hk; omega⟩
    obtain ⟨S', hS'⟩ := pick3 hk
    obtain ⟨rfl, L', lb', rv', v', hp, hst⟩ := hd.all (fun k hk => (hS' k hk).1)
    exact ⟨rfl, L', _, S', lb', rv', v', ⟨hp, fun k hk => (hS' k hk).2.1, fun k hk => (hS' k hk).2.2, do_good h.good a h1⟩, hd.low, hst⟩
def ptrTo (b : Nat → Nat) (n k : Nat) : Value := if k < n then .pointer (some ⟨b k, 0, none⟩) else .pointer none
set_option maxRecDepth 100000 in
set_option maxHeartbeats 8000000 in
theorem law_Three (w0 : World) (hg : GlobI w0) :
    Calls Tryz.prog 18 #[] w0 fun e w' => ∃ B b tb L D S lb sb rv v, e = .returned (.tuple #[.agg #[.pointer (some ⟨b 0, 0, none⟩), .pointer (some ⟨b 1, 0, none⟩), .pointer (some ⟨b 2, 0, none⟩)], .pointer (some ⟨tb, 0, none⟩), .bool true]) ∧ TrioQ 2 B b w' tb ⟨[], 1⟩ L D S lb sb rv v ∧ w0.heap.size ≤ B ∧ Below w0.heap.size w0 w' := by
  have HG := Lib.hid hg
  obtain ⟨W2, hW2⟩ : ∃ W2, W2 = (w0.alloc (.cells #[.pointer none, .pointer none, .pointer none] 29)).alloc (.cells #[.pointer none, .pointer none, .pointer none] 29) := ⟨_, rfl⟩
  have HW2 := Lib.hid hW2
  have hb2 : Below w0.heap.size w0 W2 := by rw [hW2]; exact two (below_alloc _ _) (below_alloc _ _)
  have HB2 := Lib.hid hb2
  have HZ2 : Hid (W2.heap.size = w0.heap.size + 2) := Lib.hid (by rw [hW2]; simp)
  have HRX : Hid (W2.heap[w0.heap.size]? = some (.cells #[.pointer none, .pointer none, .pointer none] 29 (0, 0))) := Lib.hid (by rw [hW2]; show ((w0.heap.push _).push _)[w0.heap.size]? = _; simp [Array.getElem?_push, Array.getElem_push])
  have HDX : Hid (W2.heap[w0.heap.size + 1]? = some (.cells #[.pointer none, .pointer none, .pointer none] 29 (0, 0))) := Lib.hid (by rw [hW2]; show ((w0.heap.push _).push _)[w0.heap.size + 1]? = _; simp [Array.getElem?_push, Array.getElem_push])
  clear hW2 hb2 hg
  go_enter Tryz.func18, Tryz.ntmps18
  go_wp2_with fail
  rw [← HW2.out]
  go_loopw [4] (fun iv wr => ∃ (k : Nat) (b : Nat → Nat) (L : Nat → Dk), k ≤ 3 ∧ iv = .int .i64 k ∧ wr.heap[w0.heap.size + 1]? = some (.cells #[ptrTo b k 0, ptrTo b k 1, ptrTo b k 2] 29 (0, 0)) ∧ NewTo W2.heap.size b wr L k ∧ Below (w0.heap.size + 1) W2 wr) (fun iv _ => 3 - (intOf iv).toNat)
  case atStart => exact ⟨0, fun _ => 0, fun _ => ⟨0, 0, 0, 0, 0, .nilIface⟩, by omega, rfl, HDX.out, ⟨fun k hk => by omega, fun k hk => by omega, fun k hk => by omega, fun i j hi => by omega⟩, (Below.refl W2.heap.size W2).mono (by have := HZ2.out; omega)⟩
  case round =>
    obtain ⟨k, b, L, hk, rfl, hbx, hnew, hbw⟩ := hrel
    have HBX := Lib.hid hbx
    have HNEW := Lib.hid hnew
    have HBW := Lib.hid hbw
    clear hbx hnew hbw
    obtain rfl | rfl | rfl | rfl : k = 0 ∨ k = 1 ∨ k = 2 ∨ k = 3 := by omega
    · have CN := Lib.hid (disk_New 50 wr (by decide) (by decide))
      rw [show ((0 : Nat) : Int) = 0 from rfl]
      go_wp2_with fail
      refine CN.out.mono ?_
      rintro e w3 ⟨Ln, rfl, hd, hb, hf⟩
      have hz : w0.heap.size + 1 < wr.heap.size := (Array.getElem?_eq_some_iff.1 HBX.out).1
      have hz2 := HBW.out.size
      have hbx3 : w3.heap[w0.heap.size + 1]? = some (.cells #[.pointer none, .pointer none, .pointer none] 29 (0, 0)) := by rw [hb.block _ hz]; exact HBX.out
      have HBX3 := Lib.hid hbx3
      obtain ⟨z0, z1, z2, zf⟩ := arr3_cells hbx3
      have HN3 := Lib.hid (HNEW.out.next (w2 := w3.setCell ⟨w0.heap.size + 1, 0, none⟩ (.pointer (some ⟨Ln.b, 0, none⟩))) hb hz2 hd hf (off_setCell (F := fun x => x < W2.heap.size) w3 ⟨w0.heap.size + 1, 0, none⟩ (by have := HZ2.out; show w0.heap.size + 1 < W2.heap.size; omega) _))
      have HB3 := Lib.hid hb
      clear hd hb hf hbx3 hz
      go_wp2_with fail
      go_roundw
      case rel =>
        refine ⟨1, upd b 0 Ln.b, upd L 0 Ln, by omega, rfl, ?_, HN3.out, (HBW.out.trans (HB3.out.mono (by have := HZ2.out; omega))).setCell (p := ⟨w0.heap.size + 1, 0, none⟩) (Nat.le_refl _) _⟩
        exact heap_set_self _ _ _ _ HBX3.out
      case measure => simp [intOf]
    · have CN := Lib.hid (disk_New 50 wr (by decide) (by decide))
      rw [show ((1 : Nat) : Int) = 1 from rfl]
      go_wp2_with fail
      refine CN.out.mono ?_
      rintro e w3 ⟨Ln, rfl, hd, hb, hf⟩
      have hz : w0.heap.size + 1 < wr.heap.size := (Array.getElem?_eq_some_iff.1 HBX.out).1
      have hz2 := HBW.out.size
      have hbx3 : w3.heap[w0.heap.size + 1]? = some (.cells #[.pointer (some ⟨b 0, 0, none⟩), .pointer none, .pointer none] 29 (0, 0)) := by rw [hb.block _ hz]; exact HBX.out
      have HBX3 := Lib.hid hbx3
      obtain ⟨z0, z1, z2, zf⟩ := arr3_cells hbx3
      have HN3 := Lib.hid (HNEW.out.next (w2 := w3.setCell ⟨w0.heap.size + 1, 1, none⟩ (.pointer (some ⟨Ln.b, 0, none⟩))) hb hz2 hd hf (off_setCell (F := fun x => x < W2.heap.size) w3 ⟨w0.heap.size + 1, 1, none⟩ (by have := HZ2.out; show w0.heap.size + 1 < W2.heap.size; omega) _))
      have HB3 := Lib.hid hb
      clear hd hb hf hbx3 hz
      go_wp2_with fail
      go_roundw
      case rel =>
        refine ⟨2, upd b 1 Ln.b, upd L 1 Ln, by omega, rfl, ?_, HN3.out, (HBW.out.trans (HB3.out.mono (by have := HZ2.out; omega))).setCell (p := ⟨w0.heap.size + 1, 1, none⟩) (Nat.le_refl _) _⟩
        exact heap_set_self _ _ _ _ HBX3.out
      case measure => simp [intOf]
    · have CN := Lib.hid (disk_New 50 wr (by decide) (by decide))
      rw [show ((2 : Nat) : Int) = 2 from rfl]
      go_wp2_with fail
      refine CN.out.mono ?_
      rintro e w3 ⟨Ln, rfl, hd, hb, hf⟩
      have hz : w0.heap.size + 1 < wr.heap.size := (Array.getElem?_eq_some_iff.1 HBX.out).1
      have hz2 := HBW.out.size
      have hbx3 : w3.heap[w0.heap.size + 1]? = some (.cells #[.pointer (some ⟨b 0, 0, none⟩), .pointer (some ⟨b 1, 0, none⟩), .pointer none] 29 (0, 0)) := by rw [hb.block _ hz]; exact HBX.out
      have HBX3 := Lib.hid hbx3
      obtain ⟨z0, z1, z2, zf⟩ := arr3_cells hbx3
      have HN3 := Lib.hid (HNEW.out.next (w2 := w3.setCell ⟨w0.heap.size + 1, 2, none⟩ (.pointer (some ⟨Ln.b, 0, none⟩))) hb hz2 hd hf (off_setCell (F := fun x => x < W2.heap.size) w3 ⟨w0.heap.size + 1, 2, none⟩ (by have := HZ2.out; show w0.heap.size + 1 < W2.heap.size; omega) _))
      have HB3 := Lib.hid hb
      clear hd hb hf hbx3 hz
      go_wp2_with fail
      go_roundw
      case rel =>
        refine ⟨3, upd b 2 Ln.b, upd L 2 Ln, by omega, rfl, ?_, HN3.out, (HBW.out.trans (HB3.out.mono (by have := HZ2.out; omega))).setCell (p := ⟨w0.heap.size + 1, 2, none⟩) (Nat.le_refl _) _⟩
        exact heap_set_self _ _ _ _ HBX3.out
      case measure => simp [intOf]
    · rw [show ((3 : Nat) : Int) = 3 from rfl]
      have hds : Disks3 W2.heap.size b wr L (fun _ => newD 50) := ⟨HNEW.out.d, HNEW.out.eq, HNEW.out.low, HNEW.out.ap⟩
      have hz1 := HZ2.out
      have hbw0 : Below w0.heap.size w0 wr := HB2.out.trans (HBW.out.mono (by omega))
      obtain ⟨X, hXs, hXg, hXw, hX0⟩ := cut_base hbw0 (B := W2.heap.size) (by omega) HBW.out.size HG.out
      have hds0 : Disks3 X.heap.size b wr L (fun _ => newD 50) := by rw [hXs]; exact hds
      have CF := Lib.hid (trio_Format X b L (fun _ => newD 50) wr hds0 (fun _ _ => new_sound) hXg hXw)
      have HXS := Lib.hid hXs
      have HXG := Lib.hid hXg
      have HX0 := Lib.hid hX0
      have hbx : wr.heap[w0.heap.size + 1]? = some (.cells #[.pointer (some ⟨b 0, 0, none⟩), .pointer (some ⟨b 1, 0, none⟩), .pointer (some ⟨b 2, 0, none⟩)] 29 (0, 0)) := HBX.out
      have HBXW := Lib.hid hbx
      obtain ⟨z0, z1, z2, zf⟩ := arr3_cells hbx
      have HDB : Hid (w0.heap.size + 1 < wr.heap.size ∧ ¬ DF L (w0.heap.size + 1)) := Lib.hid ⟨(Array.getElem?_eq_some_iff.1 hbx).1, fun hx => by
        obtain ⟨k, hk, hx⟩ := hx
        have := hds.low k hk _ hx
        omega⟩
      have HRB : Hid (wr.heap[w0.heap.size]? = some (.cells #[.pointer none, .pointer none, .pointer none] 29 (0, 0)) ∧ ¬ DF L w0.heap.size) := Lib.hid ⟨by rw [HBW.out.block _ (by omega)]; exact HRX.out, fun hx => by
        obtain ⟨k, hk, hx⟩ := hx
        have := hds.low k hk _ hx
        omega⟩
      clear hbx hds hz1 hbw0 hds0 hXs hXg hXw hX0
      go_wp2_with fail
      refine CF.out.mono ?_
      rintro e w4 ⟨rfl, L4, D4, hd4, hq4, hb4, hs4⟩
      obtain ⟨S4, hS4⟩ := pick3 hq4
      obtain ⟨hv1, hv2, hv3⟩ := all_right (D := D4) (q := ⟨[], 1⟩) (fun k hk => (hS4 k hk).1.copyC)
      have CO := trio_Open X b L4 D4 ⟨[], 1⟩ w4 hd4 (fun k hk => (hS4 k hk).1.sound) HXG.out hb4 hv1 hv2 new_faultT
      rw [hv3] at CO
      have HCO := Lib.hid CO
      have HS4 := Lib.hid hS4
      have hkd := hs4.keep HDB.out.1 HDB.out.2
      have hkr := hs4.keep (Array.getElem?_eq_some_iff.1 HRB.out.1).1 HRB.out.2
      have HKD := Lib.hid hkd
      have HKR := Lib.hid hkr
      obtain ⟨y0, y1, y2, yf⟩ := arr3_cells (hkd.1.trans HBXW.out)
      clear hd4 hq4 hb4 hs4 hS4 hv1 hv2 hv3 CO hkd hkr
      go_wp2_with fail
      refine HCO.out.mono ?_
      rintro e w5 ⟨tb, L5, D5, lb5, sb5, rv5, sp5, v5, rfl, ho5, htb5, hs5⟩
      have hkd5 := hs5.keep HKD.out.2.2 HKD.out.2.1
      have hkr5 := hs5.keep HKR.out.2.2 HKR.out.2.1
      have htr := ho5.trio new_good (S := S4) (n := 2) (fun k hk => by
        rw [ho5.right k hk (HS4.out k hk).1.copyC]
        exact HS4.out k hk)
      have HTR := Lib.hid htr
      have HLOW := Lib.hid ho5.low
      have HKR5 := Lib.hid hkr5
      obtain ⟨y0, y1, y2, yf⟩ := arr3_cells (hkd5.1.trans (HKD.out.1.trans HBXW.out))
      obtain ⟨u0, u1, u2, uf⟩ := arr3_cells (hkr5.1.trans (HKR.out.1.trans HRB.out.1))
      clear ho5 hs5 hkd5 hkr5 htr htb5 z0 z1 z2 zf
      go_wp2_with fail
      go_region
      all_goals
        go_wp2_with fail
        refine bodyPost_ret (v := .tuple #[.agg #[.pointer (some ⟨b 0, 0, none⟩), .pointer (some ⟨b 1, 0, none⟩), .pointer (some ⟨b 2, 0, none⟩)], .pointer (some ⟨tb, 0, none⟩), .bool true]) (by simp [results, Tryz.results18, go_sem, u0, u1, u2, uf]) rfl ?_
        have hxs : w0.heap.size < X.heap.size := by have := HXS.out; have := HZ2.out; omega
        obtain ⟨W6, hW6⟩ : ∃ W6, W6 = (((w5.setCell ⟨w0.heap.size, 0, none⟩ (.pointer (some ⟨b 0, 0, none⟩))).setCell ⟨w0.heap.size, 1, none⟩ (.pointer (some ⟨b 1, 0, none⟩))).setCell ⟨w0.heap.size, 2, none⟩ (.pointer (some ⟨b 2, 0, none⟩))).drew := ⟨_, rfl⟩
        rw [← hW6]
        have hO : Off (fun x => x = w0.heap.size) w5 W6 := by
          rw [hW6]
          exact (((off_setCell (F := fun x => x = w0.heap.size) w5 ⟨w0.heap.size, 0, none⟩ rfl _).trans (off_setCell (F := fun x => x = w0.heap.size) _ ⟨w0.heap.size, 1, none⟩ rfl _) (fun _ _ h => h)).trans (off_setCell (F := fun x => x = w0.heap.size) _ ⟨w0.heap.size, 2, none⟩ rfl _) (fun _ _ h => h)).trans (off_drew _ _) (fun _ _ h => h)
        have hb5 : Below w0.heap.size w0 w5 := two HX0.out HLOW.out
        exact ⟨X.heap.size, b, tb, L5, D5, S4, lb5, sb5, rv5, v5, rfl, ⟨HTR.out.pre.lowoff (hO.mono (fun x hx => by rw [hx]; exact hxs)), HTR.out.has, HTR.out.ep, HTR.out.good⟩, Nat.le_of_lt hxs, hb5.trans (hO.below _ hb5.size (fun x hx => by rw [hx]; exact Nat.le_refl _))⟩
end Go.Proofs.YtggpodlecljcbadGreatDoor
namespace Go.Proofs.YtggpodlecljcbadGreatDoor
set_option linter.unusedSimpArgs false
set_option linter.unusedVariables false
open Go.RowKit Go.Sort
section
variable {n B : Nat} {b : Nat → Nat} {w w' : World} {tb : Nat} {q : Quilt} {L : Nat → Dk} {D : Nat → DiskS} {S : Nat → StS} {lb sb : Nat → Nat} {rv : Nat → Value} {v : Value}
theorem TrioQ.below (h : TrioQ n B b w tb q L D S lb sb rv v) (hb : Below w.heap.size w w') : TrioQ n B b w' tb q L D S lb sb rv v := ⟨h.pre.below hb, h.has, h.ep, h.good⟩
theorem TrioQ.lt (h : TrioQ n B b w tb q L D S lb sb rv v) {x : Nat} (hx : TF tb L lb sb x) : x < w.heap.size ∧ B ≤ x := by
  rcases hx with rfl | ⟨k, hk, hx⟩
  · exact ⟨h.pre.tlt, h.pre.tB⟩
  · exact h.pre.lt k hk x hx
theorem TrioQ.few (h : TrioQ n B b w tb q L D S lb sb rv v) : q.files.length ≤ 1000 := by
  have := h.good.fine.len
  omega
theorem TrioQ.lo (h : TrioQ n B b w tb q L D S lb sb rv v) : B ≤ w.heap.size := by have h1 := h.pre.tlt; have h2 := h.pre.tB; omega
theorem TrioQ.up (h : TrioQ n B b w tb q L D S lb sb rv v) {m : Nat} (hm : n ≤ m) : TrioQ m B b w tb q L D S lb sb rv v := ⟨h.pre, h.has, fun k hk => Nat.le_trans (h.ep k hk) hm, h.good⟩
end
/-- who opens three disks that all have a quilt. -/
theorem open_all (X : World) (b : Nat → Nat) (L : Nat → Dk) (D : Nat → DiskS) (S : Nat → StS) (n : Nat) (q : Quilt) (w : World) (h : Disks3 X.heap.size b w L D) (hs : ∀ k, k < 3 → HasQ (D k) (S k) q ∧ (S k).h.epoch ≤ n) (hg : GlobI X) (hbw : Below X.heap.size X w) (hgood : Good q) :
    Calls Tryz.prog 15 #[.agg #[.pointer (some ⟨b 0, 0, none⟩), .pointer (some ⟨b 1, 0, none⟩), .pointer (some ⟨b 2, 0, none⟩)]] w fun e w' => ∃ tb L' lb sb rv v, e = .returned (.tuple #[.pointer (some ⟨tb, 0, none⟩), .int .i64 0, .nilIface]) ∧ TrioQ n X.heap.size b w' tb q L' D S lb sb rv v ∧ Steps (DF L) w w' (TF tb L' lb sb) ∧ Below X.heap.size X w' := by
  obtain ⟨h1, h2, h3⟩ := all_right (D := D) (q := q) (fun k hk => (hs k hk).1.copyC)
  refine (trio_Open X b L D q w h (fun k hk => (hs k hk).1.sound) hg hbw h1 h2 (fault_good hgood)).mono ?_
  rintro e w' ⟨tb, L', D', lb, sb, rv, sp, v, rfl, ho, _, hst⟩
  have he : ∀ k, k < 3 → D' k = D k := fun k hk => ho.right k hk (hs k hk).1.copyC
  have ht := ho.trio hgood (S := S) (n := n) (fun k hk => by rw [he k hk]; exact hs k hk)
  exact ⟨tb, L', lb, sb, rv, v, by rw [h3]; rfl, ⟨ht.pre.asD he, fun k hk => (hs k hk).1, fun k hk => (hs k hk).2, hgood⟩, hst, ho.low⟩
@[go_sem] theorem field_files (x y : Value) (w : World) : (Instr.field 36 (.agg #[x, y]) 0).run Tryz.prog w = .ok x w := by kernel_rfl
def actW : Act := ⟨⟨#[119, 114, 105, 116, 101]⟩, ⟨#[97]⟩, ⟨#[120]⟩, 0, 0, []⟩
def actV : ActV := ⟨⟨#[119, 114, 105, 116, 101]⟩, ⟨#[97]⟩, ⟨#[120]⟩, 0, 0, .slice none 0 0⟩
theorem act_is (w : World) : IsAct w actV actW := ⟨rfl, rfl, rfl, rfl, rfl, Rd.nil w⟩
theorem act_okW : actW.ok := ⟨by decide, by decide, by decide, fun c hc => by cases hc⟩
theorem act_done : (doAct ⟨[], 1⟩ actW).2 = 0 ∧ (stepQ ⟨[], 1⟩ actW).files.length = 1 := by decide +kernel
set_option maxRecDepth 100000 in
set_option maxHeartbeats 4000000 in
theorem top_works (w : World) (hg : GlobI w) : Calls Tryz.prog 7 #[] w fun e w' => e = .returned (.bool true) ∧ Below w.heap.size w w' := by
  have C3 := Lib.hid (law_Three w hg)
  have HG := Lib.hid hg
  clear hg
  go_enter Tryz.func7, Tryz.ntmps7
  go_wp2_with fail
  refine C3.out.mono ?_
  rintro e w1 ⟨B, b, tb, L, D, S, lb, sb, rv, v, rfl, htr, hB, hb1⟩
  obtain ⟨W2, hW2⟩ : ∃ W2, W2 = w1.alloc (.cells #[.pointer (some ⟨b 0, 0, none⟩), .pointer (some ⟨b 1, 0, none⟩), .pointer (some ⟨b 2, 0, none⟩)] 29) := ⟨_, rfl⟩
  have hb12 : Below w1.heap.size w1 W2 := by rw [hW2]; exact below_alloc _ _
  have ht2 := htr.below hb12
  obtain ⟨X, hXs, hXg, hXw, hX0⟩ := cut_base (two hb1 hb12) hB ht2.lo HG.out
  have ht3 : TrioQ 2 X.heap.size b W2 tb ⟨[], 1⟩ L D S lb sb rv v := by rw [hXs]; exact ht2
  have CD := law_DoTrioQ X W2 2 b tb L D S lb sb rv v ⟨[], 1⟩ actV actW ht3 (by decide) hXg hXw (act_is _) act_okW
  rw [act_done.1, errV_zero] at CD
  have HCD := Lib.hid CD
  have HXG := Lib.hid hXg
  have HX0 := Lib.hid hX0
  have HW2 := Lib.hid hW2
  have hbx : W2.heap[w1.heap.size]? = some (.cells #[.pointer (some ⟨b 0, 0, none⟩), .pointer (some ⟨b 1, 0, none⟩), .pointer (some ⟨b 2, 0, none⟩)] 29 (0, 0)) := by rw [hW2]; show (w1.heap.push _)[w1.heap.size]? = _; simp
  have HBX := Lib.hid hbx
  have HND : Hid (¬ TF tb L lb sb w1.heap.size) := Lib.hid (fun hx => by have := (htr.lt hx).1; omega)
  clear htr hb1 hb12 ht2 hXs hXg hXw hX0 ht3 CD hW2 hbx hB
  go_wp2_with fail
  rw [← HW2.out]
  refine HCD.out.mono ?_
  rintro e w3 ⟨rfl, L3, D3, S3, lb3, rv3, v3, ht3, hb3, hs3⟩
  have hk3 := hs3.keep (Array.getElem?_eq_some_iff.1 HBX.out).1 HND.out
  obtain ⟨y0, y1, y2, yf⟩ := arr3_cells (hk3.1.trans HBX.out)
  have CO := Lib.hid (open_all X b L3 D3 S3 3 (stepQ ⟨[], 1⟩ actW) w3 ht3.pre.ds (fun k hk => ⟨ht3.has k hk, ht3.ep k hk⟩) HXG.out hb3 ht3.good)
  clear ht3 hb3 hs3 hk3
  go_wp2_with fail
  refine CO.out.mono ?_
  rintro e w4 ⟨tb4, L4, lb4, sb4, rv4, v4, rfl, ht4, hs4, hb4⟩
  have CQ := Lib.hid (trio_Quilt ht4.pre ht4.few)
  have HB4 := Lib.hid (two HX0.out hb4)
  clear ht4 hs4 hb4 y0 y1 y2 yf
  go_wp2_with fail
  refine CQ.out.mono ?_
  rintro e w5 ⟨qv, rfl, ⟨v5, rfl, hf5, _⟩, hb5⟩
  obtain ⟨o5, c5, rfl, _, _⟩ := hf5.parts
  rw [act_done.2]
  have HB5 := Lib.hid (two HB4.out hb5)
  clear hf5 hb5
  go_wp2_with fail
  go_ret
  exact ⟨rfl, HB5.out⟩
set_option maxRecDepth 100000 in
set_option maxHeartbeats 8000000 in
theorem top_played (va : Value) (avs : List ActV) (al : List Act) (w : World) (hg : GlobI w) (hav : ActVs w va avs) (haa : IsActs w avs al) (hak : ∀ a ∈ al, a.ok) :
    Calls Tryz.prog 8 #[va] w fun e w' => (lightActs al 50 = false ∧ (∃ p0 p1 p2, e = .returned (.tuple #[.agg #[.pointer p0, .pointer p1, .pointer p2], .pointer none, .bool false])) ∧ Below w.heap.size w w') ∨
      (lightActs al 50 = true ∧ ∃ B b tb L D S lb sb rv v, e = .returned (.tuple #[.agg #[.pointer (some ⟨b 0, 0, none⟩), .pointer (some ⟨b 1, 0, none⟩), .pointer (some ⟨b 2, 0, none⟩)], .pointer (some ⟨tb, 0, none⟩), .bool true]) ∧ TrioQ 60 B b w' tb (grownQ al) L D S lb sb rv v ∧ w.heap.size ≤ B ∧ Below w.heap.size w w') := by
  obtain ⟨vo, vc, rfl, hvc, hvm⟩ := hav.parts
  obtain ⟨W1, hW1⟩ : ∃ W1, W1 = w.alloc (.cells #[.pointer none, .pointer none, .pointer none] 29) := ⟨_, rfl⟩
  have hb1 : Below w.heap.size w W1 := by rw [hW1]; exact below_alloc _ _
  have HW1 := Lib.hid hW1
  have HZ1 : Hid (W1.heap.size = w.heap.size + 1) := Lib.hid (by rw [hW1]; simp)
  have HRX : Hid (W1.heap[w.heap.size]? = some (.cells #[.pointer none, .pointer none, .pointer none] 29 (0, 0))) := Lib.hid (by rw [hW1]; show (w.heap.push _)[w.heap.size]? = _; simp)
  have C3 := Lib.hid (law_Three W1 (hg.below hb1))
  have CA := Lib.hid fun W hb => law_LightActs (.slice vo avs.length vc) avs al 50 W (hav.below hb) (haa.below hb) hak
  have HG := Lib.hid hg
  have HB1 := Lib.hid hb1
  have HAV := Lib.hid hav
  have HAA := Lib.hid haa
  have HAK := Lib.hid hak
  have HLE := Lib.hid haa.1
  clear hW1 hb1 hg hav haa hak
  go_enter Tryz.func8, Tryz.ntmps8
  go_wp2_with fail
  rw [← HW1.out]
  refine C3.out.mono ?_
  rintro e w2 ⟨B, b, tb, L, D, S, lb, sb, rv, v, rfl, htr, hB, hb2⟩
  obtain ⟨W3, hW3⟩ : ∃ W3, W3 = w2.alloc (.cells #[.pointer (some ⟨b 0, 0, none⟩), .pointer (some ⟨b 1, 0, none⟩), .pointer (some ⟨b 2, 0, none⟩)] 29) := ⟨_, rfl⟩
  have hb23 : Below w2.heap.size w2 W3 := by rw [hW3]; exact below_alloc _ _
  have HW3 := Lib.hid hW3
  have HT3 := Lib.hid (htr.below hb23)
  have HBB := Lib.hid hB
  have HB3 := Lib.hid (two hb2 hb23)
  have HBW3 := Lib.hid (two HB1.out (two hb2 hb23))
  have hbx : W3.heap[w2.heap.size]? = some (.cells #[.pointer (some ⟨b 0, 0, none⟩), .pointer (some ⟨b 1, 0, none⟩), .pointer (some ⟨b 2, 0, none⟩)] 29 (0, 0)) := by rw [hW3]; show (w2.heap.push _)[w2.heap.size]? = _; simp
  have HBX := Lib.hid hbx
  have HND : Hid (¬ TF tb L lb sb w2.heap.size) := Lib.hid (fun hx => by have := (htr.lt hx).1; omega)
  have hz2 := hb2.size
  have hrx3 : W3.heap[w.heap.size]? = some (.cells #[.pointer none, .pointer none, .pointer none] 29 (0, 0)) := by rw [(two hb2 hb23).block _ (by rw [HZ1.out]; omega)]; exact HRX.out
  have HR3 := Lib.hid hrx3
  obtain ⟨y0, y1, y2, yf⟩ := arr3_cells hbx
  obtain ⟨u0, u1, u2, uf⟩ := arr3_cells hrx3
  have HWS : Hid (w.heap.size < B ∧ w2.heap.size < W3.heap.size) := Lib.hid ⟨by have := HZ1.out; omega, (Array.getElem?_eq_some_iff.1 hbx).1⟩
  clear htr hB hb2 hW3 hb23 hbx hz2 hrx3
  have CA3 := Lib.hid (CA.out W3 HBW3.out)
  cases hla : lightActs al 50
  · have HLA := Lib.hid hla
    clear hla
    go_wp2_with fail
    rw [← HW3.out]
    refine CA3.out.mono ?_
    rintro e w4 ⟨rfl, rfl⟩
    rw [HLA.out]
    go_wp2_with fail
    refine bodyPost_ret (v := .tuple #[.agg #[.pointer (some ⟨b 0, 0, none⟩), .pointer (some ⟨b 1, 0, none⟩), .pointer (some ⟨b 2, 0, none⟩)], .pointer none, .bool false]) (by simp [results, Tryz.results8, go_sem, u0, u1, u2, uf]) rfl ?_
    exact Or.inl ⟨HLA.out, ⟨_, _, _, rfl⟩, ((HBW3.out.setCell (p := ⟨w.heap.size, 0, none⟩) (Nat.le_refl _) _).setCell (p := ⟨w.heap.size, 1, none⟩) (Nat.le_refl _) _).setCell (p := ⟨w.heap.size, 2, none⟩) (Nat.le_refl _) _⟩
  · have HLA := Lib.hid hla
    have hl50 : avs.length ≤ 50 := by
      unfold lightActs at hla
      simp only [Bool.and_eq_true, decide_eq_true_eq] at hla
      have := hla.1
      have := HLE.out
      omega
    have HL50 := Lib.hid hl50
    obtain ⟨X, hXs, hXg, hXw, hX0⟩ := cut_base HBW3.out (B := B) (Nat.le_of_lt HWS.out.1) HT3.out.lo HG.out
    have HXS := Lib.hid hXs
    have HXG := Lib.hid hXg
    have HXW := Lib.hid hXw
    have HX0 := Lib.hid hX0
    clear hla hXs hXg hXw hX0 hl50
    go_wp2_with fail
    rw [← HW3.out]
    refine CA3.out.mono ?_
    rintro e w4 ⟨rfl, rfl⟩
    rw [HLA.out]
    go_wp2_with fail
    go_loopw [8] (fun iv wr => ∃ (k : Nat) (L : Nat → Dk) (D : Nat → DiskS) (S : Nat → StS) (lb : Nat → Nat) (rv : Nat → Value) (v : Value), k ≤ avs.length ∧ iv = .int .i64 k ∧ TrioQ (2 + k) X.heap.size b wr tb (grownTo al k) L D S lb sb rv v ∧ Below X.heap.size X wr ∧ wr.heap[w2.heap.size]? = some (.cells #[.pointer (some ⟨b 0, 0, none⟩), .pointer (some ⟨b 1, 0, none⟩), .pointer (some ⟨b 2, 0, none⟩)] 29 (0, 0)) ∧ ¬ TF tb L lb sb w2.heap.size) (fun iv _ => avs.length - (intOf iv).toNat)
    case atStart => exact ⟨0, L, D, S, lb, rv, v, Nat.zero_le _, rfl, by rw [HXS.out]; exact HT3.out, HXW.out, HBX.out, HND.out⟩
    case round =>
      obtain ⟨k, L, D, S, lb, rv, v, hk, rfl, htr, hxw, hbx, hnd⟩ := hrel
      have HTK := Lib.hid htr
      have HXK := Lib.hid hxw
      have HBK := Lib.hid hbx
      have HNK := Lib.hid hnd
      clear htr hxw hbx hnd
      have hbwk : Below w.heap.size w wr := two HX0.out HXK.out
      by_cases hlt : k < avs.length
      · obtain ⟨ba, oa, rfl, hlb, x0, x1, x2, x3, x4, x5⟩ := ActVs.cell (HAV.out.below hbwk) k hlt
        have hlt' : k < al.length := by rw [← HLE.out]; exact hlt
        have hia := (HAA.out.2 k hlt hlt').below hbwk
        obtain ⟨ca, cc, hcv, _, _⟩ := hia.2.2.2.2.2.parts
        have CD := law_DoTrioQ X wr (2 + k) b tb L D S lb sb rv v (grownTo al k) avs[k] (al[k]'hlt') HTK.out (by have := HL50.out; omega) HXG.out HXK.out hia (HAK.out _ (List.getElem_mem hlt'))
        unfold ActV.val at CD
        rw [hcv] at CD x5
        generalize (al[k]'hlt').changes.length = cn at *
        obtain ⟨m, hm⟩ : ∃ m, m = (doAct (grownTo al k) (al[k]'hlt')).2 := ⟨_, rfl⟩
        rw [← hm] at CD
        have HCD := Lib.hid CD
        clear CD hia hcv hm hbwk
        go_wp2_with fail
        refine HCD.out.mono ?_
        rintro e w5 ⟨rfl, L5, D5, S5, lb5, rv5, v5, ht5, hb5, hs5⟩
        have hk5 := hs5.keep (Array.getElem?_eq_some_iff.1 HBK.out).1 HNK.out
        have HR5 : Hid (TrioQ (2 + (k + 1)) X.heap.size b w5 tb (grownTo al (k + 1)) L5 D5 S5 lb5 sb rv5 v5 ∧ Below X.heap.size X w5 ∧ w5.heap[w2.heap.size]? = some (.cells #[.pointer (some ⟨b 0, 0, none⟩), .pointer (some ⟨b 1, 0, none⟩), .pointer (some ⟨b 2, 0, none⟩)] 29 (0, 0)) ∧ ¬ TF tb L5 lb5 sb w2.heap.size) := Lib.hid ⟨by rw [grown_next al k hlt']; exact ht5, hb5, hk5.1.trans HBK.out, hk5.2.1⟩
        clear ht5 hb5 hs5 hk5 x0 x1 x2 x3 x4 x5 hlb
        go_wp2_with fail
        go_roundw
        case rel => exact ⟨k + 1, L5, D5, S5, lb5, rv5, v5, by omega, by go_num, HR5.out⟩
        case measure => simp [intOf]; omega
      · obtain rfl : k = avs.length := by omega
        have hrx : wr.heap[w.heap.size]? = some (.cells #[.pointer none, .pointer none, .pointer none] 29 (0, 0)) := by
          have h1 := HXS.out
          have h2 := HWS.out.1
          have h3 := HXW.out.block w.heap.size (by omega)
          rw [HXK.out.block _ (by omega), ← h3]
          exact HR3.out
        obtain ⟨u0, u1, u2, uf⟩ := arr3_cells hrx
        obtain ⟨y0, y1, y2, yf⟩ := arr3_cells HBK.out
        clear hrx hbwk
        go_wp2_with fail
        refine bodyPost_ret (v := .tuple #[.agg #[.pointer (some ⟨b 0, 0, none⟩), .pointer (some ⟨b 1, 0, none⟩), .pointer (some ⟨b 2, 0, none⟩)], .pointer (some ⟨tb, 0, none⟩), .bool true]) (by simp [results, Tryz.results8, go_sem, u0, u1, u2, uf]) rfl ?_
        refine Or.inr ⟨HLA.out, ?_⟩
        obtain ⟨W6, hW6⟩ : ∃ W6, W6 = ((wr.setCell ⟨w.heap.size, 0, none⟩ (.pointer (some ⟨b 0, 0, none⟩))).setCell ⟨w.heap.size, 1, none⟩ (.pointer (some ⟨b 1, 0, none⟩))).setCell ⟨w.heap.size, 2, none⟩ (.pointer (some ⟨b 2, 0, none⟩)) := ⟨_, rfl⟩
        rw [← hW6]
        have hO : Off (fun x => x = w.heap.size) wr W6 := by
          rw [hW6]
          exact ((off_setCell (F := fun x => x = w.heap.size) wr ⟨w.heap.size, 0, none⟩ rfl _).trans (off_setCell (F := fun x => x = w.heap.size) _ ⟨w.heap.size, 1, none⟩ rfl _) (fun _ _ h => h)).trans (off_setCell (F := fun x => x = w.heap.size) _ ⟨w.heap.size, 2, none⟩ rfl _) (fun _ _ h => h)
        have hbk : Below w.heap.size w wr := two HX0.out HXK.out
        have hxs : w.heap.size < X.heap.size := by have := HXS.out; have := HWS.out.1; omega
        have hgq : grownTo al avs.length = grownQ al := by unfold grownQ; rw [HLE.out]
        have hfin : TrioQ 60 X.heap.size b W6 tb (grownQ al) L D S lb sb rv v := by
          rw [← hgq]
          exact TrioQ.up ⟨HTK.out.pre.lowoff (hO.mono (fun x hx => by rw [hx]; exact hxs)), HTK.out.has, HTK.out.ep, HTK.out.good⟩ (by have := HL50.out; omega)
        exact ⟨X.heap.size, b, tb, L, D, S, lb, sb, rv, v, rfl, hfin, Nat.le_of_lt hxs, hbk.trans (hO.below _ hbk.size (fun x hx => by rw [hx]; exact Nat.le_refl _))⟩
end Go.Proofs.YtggpodlecljcbadGreatDoor
namespace Go.Proofs.YtggpodlecljcbadGreatDoor
set_option linter.unusedSimpArgs false
set_option linter.unusedVariables false
open Go.RowKit Go.Sort
theorem Looks.below {b : Nat → Nat} {L : Nat → Dk} {D : Nat → DiskS} {w w' : World} (h : Looks b L D w) (hb : Below w.heap.size w w') : Looks b L D w' := fun k hk W hW => h k hk W (two hb hW)
set_option maxRecDepth 100000 in
set_option maxHeartbeats 8000000 in
theorem top_all (b : Nat → Nat) (L : Nat → Dk) (D : Nat → DiskS) (qv : Value) (q : Quilt) (w : World) (h : Looks b L D w) (hc : ∀ k, k < 3 → copyC (D k) = ⟨true, q⟩) (hq : Quilts w qv q) :
    Calls Tryz.prog 16 #[.agg #[.pointer (some ⟨b 0, 0, none⟩), .pointer (some ⟨b 1, 0, none⟩), .pointer (some ⟨b 2, 0, none⟩)], qv] w fun e w' => e = .returned (.bool true) ∧ Below w.heap.size w w' := by
  obtain ⟨v, rfl, hf⟩ := hq
  obtain ⟨vo, vc, rfl, hvc, hvm⟩ := hf.parts
  obtain ⟨W2, hW2⟩ : ∃ W2, W2 = (w.alloc (.cells #[.pointer (some ⟨b 0, 0, none⟩), .pointer (some ⟨b 1, 0, none⟩), .pointer (some ⟨b 2, 0, none⟩)] 29)).alloc (.cells #[.slice vo q.files.length vc, .int .i64 q.turn] 36) := ⟨_, rfl⟩
  have hb2 : Below w.heap.size w W2 := by rw [hW2]; exact two (below_alloc _ _) (below_alloc _ _)
  have HW2 := Lib.hid hW2
  have HB2 := Lib.hid hb2
  have HQ2 : Hid (∀ W, Below W2.heap.size W2 W → W.cell? ⟨w.heap.size + 1, 0, none⟩ = some (.slice vo q.files.length vc) ∧ W.cell? ⟨w.heap.size + 1, 1, none⟩ = some (.int .i64 q.turn)) := Lib.hid (fun W hW => ⟨cell_on' hW (by rw [hW2]; simp), cell_on' hW (by rw [hW2]; simp)⟩)
  have CC := Lib.hid (trio_Copies b L D W2 (h.below hb2))
  have HF2 := Lib.hid (hf.below hb2)
  have HC := Lib.hid hc
  clear hW2 hb2 h hf hc
  have r0 : ((w.alloc (.cells #[.pointer (some ⟨b 0, 0, none⟩), .pointer (some ⟨b 1, 0, none⟩), .pointer (some ⟨b 2, 0, none⟩)] 29)).alloc (.cells #[.slice vo q.files.length vc, .int .i64 q.turn] 36)).cell? ⟨w.heap.size, 0, none⟩ = some (.pointer (some ⟨b 0, 0, none⟩)) := cell_on' (below_alloc _ _) (by simp)
  have r1 : ((w.alloc (.cells #[.pointer (some ⟨b 0, 0, none⟩), .pointer (some ⟨b 1, 0, none⟩), .pointer (some ⟨b 2, 0, none⟩)] 29)).alloc (.cells #[.slice vo q.files.length vc, .int .i64 q.turn] 36)).cell? ⟨w.heap.size, 1, none⟩ = some (.pointer (some ⟨b 1, 0, none⟩)) := cell_on' (below_alloc _ _) (by simp)
  have r2 : ((w.alloc (.cells #[.pointer (some ⟨b 0, 0, none⟩), .pointer (some ⟨b 1, 0, none⟩), .pointer (some ⟨b 2, 0, none⟩)] 29)).alloc (.cells #[.slice vo q.files.length vc, .int .i64 q.turn] 36)).cell? ⟨w.heap.size, 2, none⟩ = some (.pointer (some ⟨b 2, 0, none⟩)) := cell_on' (below_alloc _ _) (by simp)
  go_enter Tryz.func16, Tryz.ntmps16
  go_wp2_with fail
  rw [← HW2.out]
  refine CC.out.mono ?_
  rintro e w3 ⟨tv, rfl, ht, _, hb3⟩
  obtain ⟨⟨a0, av, a2⟩, ⟨b0, bv, b2⟩, ⟨d0, dv, d2⟩⟩ := tv
  obtain ⟨⟨ha1, ha2, ha3⟩, ⟨hb1, hb2, hb3'⟩, ⟨hd1, hd2, hd3⟩⟩ := ht
  dsimp only at ha1 ha2 ha3 hb1 hb2 hb3' hd1 hd2 hd3
  have e0 : (trioC D).a = ⟨true, q⟩ := HC.out 0 (by decide)
  have e1 : (trioC D).b = ⟨true, q⟩ := HC.out 1 (by decide)
  have e2 : (trioC D).c = ⟨true, q⟩ := HC.out 2 (by decide)
  rw [e0] at ha1 ha2 ha3
  rw [e1] at hb1 hb2 hb3'
  rw [e2] at hd1 hd2 hd3
  dsimp only at ha1 ha2 ha3 hb1 hb2 hb3' hd1 hd2 hd3
  subst ha1 ha2 hb1 hb2 hd1 hd2
  obtain ⟨a3, a5, rfl, _, _⟩ := ha3.parts
  obtain ⟨b3, b5, rfl, _, _⟩ := hb3'.parts
  obtain ⟨d3, d5, rfl, _, _⟩ := hd3.parts
  clear e0 e1 e2 r0 r1 r2
  simp only [TrioV.val, TrioV.arr]
  obtain ⟨W4, hW4⟩ : ∃ W4, W4 = w3.alloc (.cells #[.bool true, .slice a3 q.files.length a5, .int .i64 q.turn, .bool true, .slice b3 q.files.length b5, .int .i64 q.turn, .bool true, .slice d3 q.files.length d5, .int .i64 q.turn] 75) := ⟨_, rfl⟩
  have hb34 : Below w3.heap.size w3 W4 := by rw [hW4]; exact below_alloc _ _
  have hbx : ∀ W, Below W4.heap.size W4 W → W.heap[w3.heap.size]? = some (.cells #[.bool true, .slice a3 q.files.length a5, .int .i64 q.turn, .bool true, .slice b3 q.files.length b5, .int .i64 q.turn, .bool true, .slice d3 q.files.length d5, .int .i64 q.turn] 75 (0, 0)) := fun W hW => by
    rw [hW.block _ (by rw [hW4]; simp), hW4]
    show (w3.heap.push _)[w3.heap.size]? = _
    simp
  have HBX := Lib.hid hbx
  have HW4 := Lib.hid hW4
  have HB4 := Lib.hid (two hb3 hb34)
  have HFA := Lib.hid (ha3.below hb34)
  have HFB := Lib.hid (hb3'.below hb34)
  have HFC := Lib.hid (hd3.below hb34)
  have CSA : Hid (∀ W, Below W4.heap.size W4 W → Calls Tryz.prog 17 #[.agg #[.slice a3 q.files.length a5, .int .i64 q.turn], .agg #[.slice vo q.files.length vc, .int .i64 q.turn]] W fun e w' => e = .returned (.bool true) ∧ Below W.heap.size W w') := Lib.hid (fun W hW => by
    have := ref_SameQuilt _ _ q q W ⟨_, rfl, HFA.out.below hW⟩ ⟨_, rfl, (HF2.out.below HB4.out).below hW⟩
    rw [decide_eq_true rfl] at this
    exact this)
  have CSB : Hid (∀ W, Below W4.heap.size W4 W → Calls Tryz.prog 17 #[.agg #[.slice b3 q.files.length b5, .int .i64 q.turn], .agg #[.slice vo q.files.length vc, .int .i64 q.turn]] W fun e w' => e = .returned (.bool true) ∧ Below W.heap.size W w') := Lib.hid (fun W hW => by
    have := ref_SameQuilt _ _ q q W ⟨_, rfl, HFB.out.below hW⟩ ⟨_, rfl, (HF2.out.below HB4.out).below hW⟩
    rw [decide_eq_true rfl] at this
    exact this)
  have CSC : Hid (∀ W, Below W4.heap.size W4 W → Calls Tryz.prog 17 #[.agg #[.slice d3 q.files.length d5, .int .i64 q.turn], .agg #[.slice vo q.files.length vc, .int .i64 q.turn]] W fun e w' => e = .returned (.bool true) ∧ Below W.heap.size W w') := Lib.hid (fun W hW => by
    have := ref_SameQuilt _ _ q q W ⟨_, rfl, HFC.out.below hW⟩ ⟨_, rfl, (HF2.out.below HB4.out).below hW⟩
    rw [decide_eq_true rfl] at this
    exact this)
  clear hbx hW4 hb34 hb3 ha3 hb3' hd3
  go_wp2_with fail
  rw [← HW4.out]
  go_loopw [6] (fun iv wr => ∃ k : Nat, k ≤ 3 ∧ iv = .int .i64 k ∧ Below W4.heap.size W4 wr) (fun iv _ => 3 - (intOf iv).toNat)
  case atStart => exact ⟨0, by omega, rfl, Below.refl _ _⟩
  case round =>
    obtain ⟨k, hk, rfl, hbw⟩ := hrel
    have HBW := Lib.hid hbw
    obtain ⟨x0, x1, x2, x3, x4, x5, x6, x7, x8, xf⟩ := arr_cells (HBX.out wr hbw)
    obtain ⟨q0, q1⟩ := HQ2.out wr (two HB4.out hbw)
    clear hbw
    obtain rfl | rfl | rfl | rfl : k = 0 ∨ k = 1 ∨ k = 2 ∨ k = 3 := by omega
    · rw [show ((0 : Nat) : Int) = 0 from rfl]
      go_wp2_with fail
      go_cut [26] from 13 to 26 (fun s26 wx => s26 = .bool false ∧ Below W4.heap.size W4 wx)
      case first =>
        replace x0 := regrown_cell x0
        replace x1 := regrown_cell x1
        replace x2 := regrown_cell x2
        replace q0 := regrown_cell q0
        replace q1 := regrown_cell q1
        refine wp_region_q (by kernel_rfl) (by kernel_rfl) ?_
        repeat (go_big_quiet_step (first | (go_at_call 17; exact Calls.regrown_of (CSA.out _ (two HBW.out (below_regrown _ _ _))))))
        refine wpQuiet_nil ?_
        intro wx hbx
        have HBX2 := Lib.hid (two HBW.out hbx)
        clear hbx
        go_wp2_with fail
        go_meet
        exact ⟨rfl, HBX2.out⟩
      case rest =>
      obtain ⟨rfl, hbx⟩ := hcut
      have HBC := Lib.hid hbx
      clear hbx x0 x1 x2 x3 x4 x5 x6 x7 x8 xf q0 q1
      go_wp2_with fail
      go_roundw
      case rel => exact ⟨1, by omega, rfl, HBC.out⟩
      case measure => simp [intOf]
    · rw [show ((1 : Nat) : Int) = 1 from rfl]
      go_wp2_with fail
      go_cut [26] from 13 to 26 (fun s26 wx => s26 = .bool false ∧ Below W4.heap.size W4 wx)
      case first =>
        replace x3 := regrown_cell x3
        replace x4 := regrown_cell x4
        replace x5 := regrown_cell x5
        replace q0 := regrown_cell q0
        replace q1 := regrown_cell q1
        refine wp_region_q (by kernel_rfl) (by kernel_rfl) ?_
        repeat (go_big_quiet_step (first | (go_at_call 17; exact Calls.regrown_of (CSB.out _ (two HBW.out (below_regrown _ _ _))))))
        refine wpQuiet_nil ?_
        intro wx hbx
        have HBX2 := Lib.hid (two HBW.out hbx)
        clear hbx
        go_wp2_with fail
        go_meet
        exact ⟨rfl, HBX2.out⟩
      case rest =>
      obtain ⟨rfl, hbx⟩ := hcut
      have HBC := Lib.hid hbx
      clear hbx x0 x1 x2 x3 x4 x5 x6 x7 x8 xf q0 q1
      go_wp2_with fail
      go_roundw
      case rel => exact ⟨2, by omega, rfl, HBC.out⟩
      case measure => simp [intOf]
    · rw [show ((2 : Nat) : Int) = 2 from rfl]
      go_wp2_with fail
      go_cut [26] from 13 to 26 (fun s26 wx => s26 = .bool false ∧ Below W4.heap.size W4 wx)
      case first =>
        replace x6 := regrown_cell x6
        replace x7 := regrown_cell x7
        replace x8 := regrown_cell x8
        replace q0 := regrown_cell q0
        replace q1 := regrown_cell q1
        refine wp_region_q (by kernel_rfl) (by kernel_rfl) ?_
        repeat (go_big_quiet_step (first | (go_at_call 17; exact Calls.regrown_of (CSC.out _ (two HBW.out (below_regrown _ _ _))))))
        refine wpQuiet_nil ?_
        intro wx hbx
        have HBX2 := Lib.hid (two HBW.out hbx)
        clear hbx
        go_wp2_with fail
        go_meet
        exact ⟨rfl, HBX2.out⟩
      case rest =>
      obtain ⟨rfl, hbx⟩ := hcut
      have HBC := Lib.hid hbx
      clear hbx x0 x1 x2 x3 x4 x5 x6 x7 x8 xf q0 q1
      go_wp2_with fail
      go_roundw
      case rel => exact ⟨3, by omega, rfl, HBC.out⟩
      case measure => simp [intOf]
    · rw [show ((3 : Nat) : Int) = 3 from rfl]
      go_wp2_with fail
      go_ret
      exact ⟨rfl, two HB2.out (two HB4.out HBW.out)⟩
end Go.Proofs.YtggpodlecljcbadGreatDoor
