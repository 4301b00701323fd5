/- An act done to a trio, a disk of which may fall: what is there behind it. -/
import Derived.Test.YtggpodlecljcbadGreatDoorMTr4
namespace Go.Proofs.YtggpodlecljcbadGreatDoor
set_option linter.unusedSimpArgs false
set_option linter.unusedVariables false
open Go.RowKit Go.Sort
/-- what disks hold behind any restart: most have the quilt r. -/
def HasE (m : Nat) (D : DiskS) : Prop := ∃ S q, HasQ D S q ∧ S.h.epoch ≤ m
def VoteR (m : Nat) (D : Nat → DiskS) (keeps : Nat → Int) (r : Quilt) : Prop := (∃ k, k < 3 ∧ ∀ i, i < 3 → i ≠ k → copyC (restartD (D i) (keeps i)) = ⟨true, r⟩) ∧ (∀ i, i < 3 → HasE m (restartD (D i) (keeps i))) ∧ Good r
theorem HasE.sound {m : Nat} {D : DiskS} (h : HasE m D) : Sound D := by
  obtain ⟨S, q, h1, _⟩ := h
  exact h1.sound
theorem HasE.has {m : Nat} {D : DiskS} {q : Quilt} (h : HasE m D) (hc : copyC D = ⟨true, q⟩) : ∃ S, HasQ D S q ∧ S.h.epoch ≤ m := by
  obtain ⟨S, q', h1, h2⟩ := h
  rw [h1.copyC] at hc
  simp only [Copy.mk.injEq, true_and] at hc
  rw [← hc]
  exact ⟨S, h1, h2⟩
structure FellR (m : Nat) (X w : World) (b : Nat → Nat) (F : Nat → Prop) (q : Quilt) (p : Quilt × Nat) (n : Nat) (w' : World) (L' : Nat → Dk) (D' : Nat → DiskS) : Prop where
  ds : Disks3 X.heap.size b w' L' D'
  st : Steps F w w' (DF L')
  low : Below X.heap.size X w'
  ok : ∀ i, i < 3 → (D' i).ok ∧ (D' i).wait.length ≤ 1000
  vote : ∀ keeps : Nat → Int, ∃ r, VoteR m D' keeps r ∧ (p.2 ≠ 0 → n ≠ 0 ∧ r = q) ∧ (p.2 = 0 → (n = 0 → r = p.1) ∧ (r = q ∨ r = p.1))
theorem HasI.sound_back {m : Nat} {D : DiskS} {S : StS} {q : Quilt} (h : HasI D S q) (hm : S.h.epoch ≤ m) (keep : Int) : HasE m (restartD D keep) ∧ copyC (restartD D keep) = ⟨true, q⟩ := ⟨⟨S, q, h.restart keep, hm⟩, (h.restart keep).copyC⟩
theorem HasI.wait {D : DiskS} {S : StS} {q : Quilt} (h : HasI D S q) : D.wait.length ≤ 1000 := by rw [h.inv.parts.2.1]; exact Nat.zero_le _
theorem fell_of {m : Nat} {X w w' : World} {b : Nat → Nat} {tb : Nat} {L : Nat → Dk} {lb sb : Nat → Nat} {D : Nat → DiskS} {S : Nat → StS} {rv : Nat → Value} {v : Value} {q : Quilt} {a : Act} {e : Ending}
    (h : PreT (fun _ => True) X.heap.size b w tb L D lb sb rv (fun k => some ⟨sb k, 0, none⟩) v q) (hi : ∀ k, k < 3 → HasI (D k) (S k) q) (he : ∀ k, k < 3 → (S k).h.epoch + 1 ≤ m) (hm : m ≤ 20000) (hbw : Below X.heap.size X w) (hgood : Good q)
    (hr : ((doAct q a).2 ≠ 0 ∧ e = .returned (errV (doAct q a).2) ∧ Below w.heap.size w w') ∨ ((doAct q a).2 = 0 ∧ DoR X w b tb L lb D S sb q (doAct q a).1 e w')) :
    ∃ n L' D', e = .returned (errV n) ∧ FellR m X w b (TF tb L lb sb) q (doAct q a) n w' L' D' := by
  rcases hr with ⟨h0, rfl, hb⟩ | ⟨h0, hd⟩
  · refine ⟨_, L, D, rfl, h.ds.below hb, ⟨off_below hb _, fun x hx => Or.inl (df_tf hx)⟩, two hbw hb, fun i hi' => ⟨(hi i hi').ok, (hi i hi').wait⟩, fun keeps => ⟨q, ⟨⟨0, by decide, fun i hi' _ => ((hi i hi').sound_back (m := m) (by have := he i hi'; omega) _).2⟩, fun i hi' => ((hi i hi').sound_back (m := m) (by have := he i hi'; omega) _).1, hgood⟩, fun _ => ⟨h0, rfl⟩, fun h1 => absurd h1 h0⟩⟩
  · have hgp := do_good hgood a h0
    have hq' := fault_good hgp
    have hs := act_short hgood a h0
    have hc : ∀ k, k < 3 → (∃ E S', doneZ S (deedQ q (doAct q a).1) D k = (E, S', 0) ∧ HasI E S' (doAct q a).1 ∧ S'.h.epoch ≤ m) ∨ (∃ E S', doneZ S (deedQ q (doAct q a).1) D k = (E, S', 8) ∧ E.ok ∧ E.wait.length ≤ 1000 ∧ ∀ keep, HasE m (restartD E keep) ∧ (copyC (restartD E keep) = ⟨true, q⟩ ∨ copyC (restartD E keep) = ⟨true, (doAct q a).1⟩)) := fun k hk => by
      rcases commit_i (hi k hk) hq' hs (by have := he k hk; omega) with ⟨E, S', h1, h2, h9⟩ | ⟨E, S', h1, h2⟩
      · exact Or.inl ⟨E, S', h1, h2, by have := he k hk; omega⟩
      · have hok := keep_commit keptY_ok 24 (S k) (mergeC (rowsQ q) (rowsQ (doAct q a).1)) (D k) (hi k hk).ok
        have hwt := wait_commitZ (mergeC (rowsQ q) (rowsQ (doAct q a).1)) (hi k hk).inv
        rw [h1] at hok hwt
        dsimp only at hok hwt
        refine Or.inr ⟨E, S', h1, hok, by omega, fun keep => ?_⟩
        obtain ⟨S1, h3, h9⟩ := h2 keep
        have h9' : S1.h.epoch ≤ m := by have := he k hk; omega
        rcases h3 with h3 | h3
        · exact ⟨⟨S1, _, h3, h9'⟩, Or.inl h3.copyC⟩
        · exact ⟨⟨S1, _, h3, h9'⟩, Or.inr h3.copyC⟩
    have hz : ∀ k, k < 3 → (doneZ S (deedQ q (doAct q a).1) D k).2.2 = 0 → ∃ S', HasI (doneZ S (deedQ q (doAct q a).1) D k).1 S' (doAct q a).1 ∧ S'.h.epoch ≤ m := fun k hk hz => by
      rcases hc k hk with ⟨E, S', h1, h2⟩ | ⟨E, S', h1, _⟩
      · rw [h1]; exact ⟨S', h2⟩
      · rw [h1] at hz; cases hz
    have hb8 : ∀ k, k < 3 → (doneZ S (deedQ q (doAct q a).1) D k).1.ok ∧ (doneZ S (deedQ q (doAct q a).1) D k).1.wait.length ≤ 1000 ∧ ∀ keep, HasE m (restartD (doneZ S (deedQ q (doAct q a).1) D k).1 keep) ∧ (copyC (restartD (doneZ S (deedQ q (doAct q a).1) D k).1 keep) = ⟨true, q⟩ ∨ copyC (restartD (doneZ S (deedQ q (doAct q a).1) D k).1 keep) = ⟨true, (doAct q a).1⟩) := fun k hk => by
      rcases hc k hk with ⟨E, S', h1, h2⟩ | ⟨E, S', h1, h2, h3, h4⟩
      · rw [h1]; exact ⟨h2.1.ok, h2.1.wait, fun keep => ⟨(h2.1.sound_back h2.2 keep).1, Or.inr (h2.1.sound_back h2.2 keep).2⟩⟩
      · rw [h1]; exact ⟨h2, h3, h4⟩
    by_cases hall : ∀ k, k < 3 → (doneZ S (deedQ q (doAct q a).1) D k).2.2 = 0
    · obtain ⟨rfl, L', lb', rv', v', hp, hst⟩ := hd.all hall
      refine ⟨0, L', _, by rw [errV_zero], hp.ds, hst.mono (fun _ h => h) (fun x hx => df_tf hx), hd.low, fun i hi' => ⟨(hb8 i hi').1, (hb8 i hi').2.1⟩, fun keeps => ⟨(doAct q a).1, ⟨⟨0, by decide, fun i hi' _ => ?_⟩, fun i hi' => ((hb8 i hi').2.2 _).1, hgp⟩, fun h1 => absurd h0 h1, fun _ => ⟨fun _ => rfl, Or.inr rfl⟩⟩⟩
      obtain ⟨S', hS⟩ := hz i hi' (hall i hi')
      exact (hS.1.sound_back hS.2 _).2
    · have hex : ∃ m, m < 3 ∧ (∀ k, k < m → (doneZ S (deedQ q (doAct q a).1) D k).2.2 = 0) ∧ (doneZ S (deedQ q (doAct q a).1) D m).2.2 ≠ 0 := by
        by_cases h0' : (doneZ S (deedQ q (doAct q a).1) D 0).2.2 = 0
        · by_cases h1 : (doneZ S (deedQ q (doAct q a).1) D 1).2.2 = 0
          · refine ⟨2, by decide, fun k hk => ?_, fun h2 => hall (fun k hk => ?_)⟩
            · match k, hk with
              | 0, _ => exact h0'
              | 1, _ => exact h1
            · match k, hk with
              | 0, _ => exact h0'
              | 1, _ => exact h1
              | 2, _ => exact h2
          · exact ⟨1, by decide, fun k hk => by
              match k, hk with
              | 0, _ => exact h0', h1⟩
        · exact ⟨0, by decide, fun k hk => by omega, h0'⟩
      obtain ⟨j, hj, h1, h2⟩ := hex
      obtain ⟨rfl, L', hds, hst⟩ := hd.some j hj h1 h2
      have hlt : ∀ i, i < 3 → i < j → ∀ keep, copyC (restartD (doneZ S (deedQ q (doAct q a).1) D i).1 keep) = ⟨true, (doAct q a).1⟩ := fun i hi' him keep => by
        obtain ⟨S', hS⟩ := hz i hi' (h1 i him)
        exact (hS.1.sound_back hS.2 keep).2
      have hgt : ∀ i, i < 3 → ∀ keep, copyC (restartD (D i) keep) = ⟨true, q⟩ := fun i hi' keep => ((hi i hi').sound_back (m := m) (by have := he i hi'; omega) keep).2
      refine ⟨_, L', _, rfl, hds, hst, hd.low, fun i hi' => ?_, fun keeps => ?_⟩
      · split
        · exact ⟨(hb8 i hi').1, (hb8 i hi').2.1⟩
        · exact ⟨(hi i hi').ok, (hi i hi').wait⟩
      · have hsd : ∀ i, i < 3 → HasE m (restartD (if i < j + 1 then (doneZ S (deedQ q (doAct q a).1) D i).1 else D i) (keeps i)) := fun i hi' => by
          split
          · exact ((hb8 i hi').2.2 _).1
          · exact ((hi i hi').sound_back (m := m) (by have := he i hi'; omega) _).1
        have hne : (doneZ S (deedQ q (doAct q a).1) D j).2.2 = 0 → (q = (doAct q a).1) := fun h => absurd h h2
        obtain rfl | rfl | rfl : j = 0 ∨ j = 1 ∨ j = 2 := by omega
        · refine ⟨q, ⟨⟨0, by decide, fun i hi' hne' => ?_⟩, hsd, hgood⟩, fun h => absurd h0 h, fun _ => ⟨fun h => absurd h h2, Or.inl rfl⟩⟩
          dsimp only
          rw [if_neg (by omega)]
          exact hgt i hi' _
        · rcases ((hb8 1 (by decide)).2.2 (keeps 1)).2 with h5 | h5
          · refine ⟨q, ⟨⟨0, by decide, fun i hi' hne' => ?_⟩, hsd, hgood⟩, fun h => absurd h0 h, fun _ => ⟨fun h => absurd h h2, Or.inl rfl⟩⟩
            dsimp only
            by_cases e1 : i = 1
            · subst e1; rw [if_pos (by decide)]; exact h5
            · rw [if_neg (by omega)]; exact hgt i hi' _
          · refine ⟨(doAct q a).1, ⟨⟨2, by decide, fun i hi' hne' => ?_⟩, hsd, hgp⟩, fun h => absurd h0 h, fun _ => ⟨fun h => absurd h h2, Or.inr rfl⟩⟩
            dsimp only
            rw [if_pos (by omega)]
            by_cases e1 : i = 1
            · subst e1; exact h5
            · exact hlt i hi' (by omega) _
        · refine ⟨(doAct q a).1, ⟨⟨2, by decide, fun i hi' hne' => ?_⟩, hsd, hgp⟩, fun h => absurd h0 h, fun _ => ⟨fun h => absurd h h2, Or.inr rfl⟩⟩
          dsimp only
          rw [if_pos (by omega)]
          exact hlt i hi' (by omega) _
/-- a disk of a trio is armed. -/
theorem PreT.armed {B : Nat} {b : Nat → Nat} {w w' : World} {tb : Nat} {L : Nat → Dk} {D : Nat → DiskS} {lb sb : Nat → Nat} {rv : Nat → Value} {v : Value} {q : Quilt} {S : Nat → StS} (h : PreT (fun _ => True) B b w tb L D lb sb rv (fun k => some ⟨sb k, 0, none⟩) v q) (hi : ∀ k, k < 3 → HasI (D k) (S k) q) {k : Nat} (hk : k < 3) (hB : B ≤ w.heap.size) {n : Int} (hn : n ≤ 9223372036854775807) (hs : Stepped 68 72 w (L k) (armD (D k) n) w') :
    PreT (fun _ => True) B b w' tb L (upd D k (armD (D k) n)) lb sb rv (fun k => some ⟨sb k, 0, none⟩) v q ∧ (∀ i, i < 3 → HasI (upd D k (armD (D k) n) i) (S i) q) ∧ Steps (TF tb L lb sb) w w' (TF tb L lb sb) := by
  have ho : Off (L k).foot w w' := hs.2.1.mono (fun x hx => Or.inl hx)
  have ho2 : Off (stF (L k) (lb k) (sb k)) w w' := ho.mono (fun x hx => Or.inl hx)
  have hst := (h.st k hk trivial (S k) q (hi k hk).copy).2
  have hst' : StAt w' (sb k) (lb k) (L k) (S k) 24 (rv k) := ⟨by rw [ho.block _ hst.lt hst.sf]; exact hst.box, hst.log.off ho hst.lf rfl, hst.rows.off ho2, hst.ls, hst.sf, hst.lf⟩
  have hput := h.put hk hB (L' := L k) (D' := armD (D k) n) (lb' := lb k) (sb' := sb k) (rv' := rv k) rfl hs.1 ho2 (fun x hx => Or.inl hx) (hst'.flt hs.1) (Or.inl rfl) hst'.rl
  rw [upd_self, upd_self, upd_self, upd_self] at hput
  have hi' : ∀ i, i < 3 → HasI (upd D k (armD (D k) n) i) (S i) q := fun i hi3 => by
    by_cases e : i = k
    · subst e; rw [upd_same]; exact (hi i hi3).arm n hn
    · rw [upd_ne _ _ e]; exact hi i hi3
  refine ⟨(hput.has (fun S1 q1 hc => ?_)).mono (fun i _ _ => Or.inl trivial), hi', ⟨ho2.mono (fun x hx => Or.inr ⟨k, hk, hx⟩), fun x hx => Or.inl hx⟩⟩
  rw [(hi' k hk).copy] at hc
  simp only [Option.some.injEq, Prod.mk.injEq] at hc
  rw [← hc.1]
  exact ⟨rfl, hst'⟩
end Go.Proofs.YtggpodlecljcbadGreatDoor
