/- The walk of a disk's Flush. The walk of the reference's Flush. The walk of a disk's Restart. The walk of the reference's Restart. -/
import Derived.Test.YtggpodlecljcbacWalkK4
import Derived.Test.YtggpodlecljcbacBase3
import Derived.Lib.SmallJoins
namespace Go.Proofs.Ytggpodlecljcbac
open Go.RowKit Go.Sort
set_option linter.unusedSimpArgs false
set_option linter.unusedVariables false
theorem flushD_step {D : DiskS} (h2 : (stepD D).2 ≠ 0) : flushD D = stepD D := by unfold flushD; rw [if_pos h2]
theorem flushD_done {D : DiskS} (h2 : (stepD D).2 = 0) : flushD D = ({ (stepD D).1 with kept := D.now, wait := [] }, 0) := by unfold flushD; rw [if_neg (by simp [h2])]
theorem text_info : (Try.prog.info? 9).map (·.size) = some 1 := by kernel_rfl
theorem copy_texts (w : World) (ty : TypeId) (g ck : Nat) (a : Addr) (sc : Nat) (l : List ByteArray) (dn : Nat) (hd : dn = l.length) (hsrc : ∀ j v, (l.map Value.string)[j]? = some v → w.cell? (a.add j) = some v)
    (hc : ∀ j, j < l.length → (w.cell? ⟨g, j, none⟩).isSome = true) (hf : ∀ j, w.frozen? ⟨g, j, none⟩ = false) :
    (Builtin.copy_ #[42, 42] ty #[.slice (some ⟨g, 0, none⟩) dn ck, .slice (some a) l.length sc]).run Try.prog w = .ok (goInt l.length) (w.setCells g 0 (l.map .string)) := by
  subst hd
  have h := run_copy_kcells (P := Try.prog) w 42 42 ty 9 1 g 0 l.length ck a l.length sc (l.map .string) Try.underlying42 text_info (by simp) hsrc (fun j hj => by rw [Nat.zero_add]; exact hc j (by simpa using hj)) (fun j _ => by rw [Nat.zero_add]; exact hf j) (fun v hv => by obtain ⟨s, _, rfl⟩ := List.mem_map.1 hv; rfl)
  simpa using h
theorem DAt.now_read {ty tt : TypeId} {w : World} {L : Dk} {D : DiskS} (h : DAt ty tt w L D) : ∀ j v, (D.now.map Value.string)[j]? = some v → w.cell? ((⟨L.gn, 0, none⟩ : Addr).add j) = some v := h.now.cells rfl
theorem DAt.kept_read {ty tt : TypeId} {w : World} {L : Dk} {D : DiskS} (h : DAt ty tt w L D) : ∀ j v, (D.kept.map Value.string)[j]? = some v → w.cell? ((⟨L.gk, 0, none⟩ : Addr).add j) = some v := h.kept.cells rfl
set_option maxRecDepth 100000 in
set_option maxHeartbeats 1000000 in
theorem disk_Flush (L : Dk) (D : DiskS) (w : World) (h : DiskAt w L D) (hok : D.ok) :
    Calls Try.prog 45 #[.pointer (some ⟨L.b, 0, none⟩)] w fun e w' => e = .returned (errV (flushD D).2) ∧ Turned 81 100 w L (flushD D).1 w' := by
  have CS := disk_step L D w h hok
  by_cases h2 : (stepD D).2 = 0
  · have E := Lib.hid (flushD_done h2)
    rw [E.out]
    rw [h2] at CS
    obtain ⟨D1, hD1⟩ : ∃ D1, D1 = (stepD D).1 := ⟨_, rfl⟩
    have q1 : Hid (D1.now = D.now) := Lib.hid (by rw [hD1]; exact (stepD_same D).2.1)
    have HOK1 : Hid D1.ok := Lib.hid (by rw [hD1]; exact hok.step)
    rw [← hD1] at CS ⊢
    replace CS := Lib.hid CS
    clear h hok E h2 hD1
    have hev : errV 0 = .nilIface := rfl
    rw [hev] at CS
    go_enter Try.func45, Try.ntmps45
    go_wp2_with fail
    refine CS.out.mono ?_
    rintro e w1 ⟨rfl, hS⟩
    have HS := Lib.hid hS
    clear hS
    have HD := Lib.hid (HS.out.1.below (Below.refl _ _).drew)
    have c0 := HS.out.1.c0
    have c1 := HS.out.1.c1
    have HC : Hid (∀ ty, (Builtin.copy_ #[42, 42] ty #[.slice (some ⟨L.gk, 0, none⟩) D1.kept.length L.ck, .slice (some ⟨L.gn, 0, none⟩) D1.now.length L.cn]).run Try.prog w1.drew = .ok (goInt D1.now.length) (w1.drew.setCells L.gk 0 (D1.now.map .string))) := Lib.hid fun ty =>
      copy_texts w1.drew ty L.gk L.ck ⟨L.gn, 0, none⟩ L.cn D1.now D1.kept.length HOK1.out.same HD.out.now_read (fun j hj => by rw [HD.out.kcell j (by rw [HOK1.out.same]; exact hj)]; rfl) HD.out.fk
    go_wp2_with fail
    go_region_law (refine step_copy_runI rfl (.tmp 11) (.tmp 15) 42 42 rfl (.slice (some ⟨L.gk, 0, none⟩) D1.kept.length L.ck) (.slice (some ⟨L.gn, 0, none⟩) D1.now.length L.cn) (by simp [Act.eval, Act.put]) (by simp [Act.eval, Act.put]) (HC.out 3) ?_)
    all_goals
      obtain ⟨W2, hW2⟩ : ∃ W2, W2 = w1.drew.setCells L.gk 0 (D1.now.map .string) := ⟨_, rfl⟩
      have HD2 : Hid (DiskAt W2 L { D1 with kept := D1.now }) := Lib.hid (by rw [hW2]; exact HD.out.kept_all D1.now HOK1.out.same.symm)
      have HO2 : Hid (Off L.foot w W2) := Lib.hid (by
        rw [hW2]
        exact ((HS.out.2.1.mono (fun _ hx => Or.inl hx)).trans (off_drew L.foot _) (fun _ _ h => h)).trans (off_setCells (F := L.foot) _ L.gk 0 _ (Or.inr (Or.inl rfl))) (fun _ _ h => h))
      rw [← hW2]
      clear hW2 HC HD c0 c1
      have k2 := HD2.out.c2
      have k4 := HD2.out.f 2
      have HF : Hid (Turned 81 100 w L ({ D1 with kept := D.now, wait := [] }) (W2.setCell ⟨L.b, 2, none⟩ (.slice none 0 0))) := Lib.hid
        ⟨{ L with wv := .slice none 0 0 }, rfl, by rw [← q1.out]; exact HD2.out.set_wait (.slice none 0 0) [] (World.ownsRow_nil _ _ _ _) (by simp [Value.ownBlock]) (by simp [Value.ownBlock]) (by simp [Value.ownBlock]),
          off_grown_set HO2.out (Or.inl rfl) 2 _, fun k hk => by
            rcases hk with hk | hk | hk | hk
            · exact Or.inl (Or.inl hk)
            · exact Or.inl (Or.inr (Or.inl hk))
            · exact Or.inl (Or.inr (Or.inr (Or.inl hk)))
            · simp [Value.ownBlock] at hk⟩
      go_wp2_with fail
      go_ret
      exact ⟨rfl, HF.out⟩
  · have E := Lib.hid (flushD_step h2)
    rw [E.out]
    have hev := errV_pos h2
    rw [hev] at CS ⊢
    replace CS := Lib.hid CS
    clear h hok E h2 hev
    go_enter Try.func45, Try.ntmps45
    go_wp2_with fail
    refine CS.out.mono ?_
    rintro e w1 ⟨rfl, hS⟩
    have HS := Lib.hid hS
    clear hS
    go_wp2_with fail
    go_ret
    exact ⟨rfl, HS.out.turned⟩
end Go.Proofs.Ytggpodlecljcbac
namespace Go.Proofs.Ytggpodlecljcbac
open Go.RowKit Go.Sort
set_option linter.unusedSimpArgs false
set_option linter.unusedVariables false
theorem I_texts' : ElemInfo Try.prog 42 9 1 16 := elemInfo_of (z := .string ⟨#[]⟩) Try.underlying42 (by kernel_rfl) rfl (by decide) (by decide)
/-- Behind an append to nil: a new row; the box takes it for what is kept, or for what is now. -/
theorem DAt.fresh_kept {ty tt : TypeId} {w w' : World} {L : Dk} {D : DiskS} (h : DAt ty tt w L D) (hg : w.grownBy w' none) (g c : Nat) (l : List ByteArray) (hv : w'.ownsRow 0 9 1 (.slice (some ⟨g, 0, none⟩) l.length c) l.length (l.map .string)) (hgs : w.heap.size ≤ g) :
    DAt ty tt (w'.setCell ⟨L.b, 0, none⟩ (.slice (some ⟨g, 0, none⟩) l.length c)) { L with gk := g, ck := c } { D with kept := l } := by
  have h' : DAt ty tt w' L D := h.off (off_grown (F := fun _ => False) hg (fun _ h => by cases h)) (fun _ _ => id)
  have hlt := h.lt
  refine h'.set_kept g c l hv ?_ ?_ ?_
  · intro e; have := hlt L.b (Or.inl rfl); omega
  · intro e; have := hlt L.gn (Or.inr (Or.inr (Or.inl rfl))); omega
  · intro e; have := hlt g (Or.inr (Or.inr (Or.inr e))); omega
theorem DAt.fresh_now {ty tt : TypeId} {w w' : World} {L : Dk} {D : DiskS} (h : DAt ty tt w L D) (hg : w.grownBy w' none) (g c : Nat) (l : List ByteArray) (hv : w'.ownsRow 0 9 1 (.slice (some ⟨g, 0, none⟩) l.length c) l.length (l.map .string)) (hgs : w.heap.size ≤ g) :
    DAt ty tt (w'.setCell ⟨L.b, 1, none⟩ (.slice (some ⟨g, 0, none⟩) l.length c)) { L with gn := g, cn := c } { D with now := l } := by
  have h' : DAt ty tt w' L D := h.off (off_grown (F := fun _ => False) hg (fun _ h => by cases h)) (fun _ _ => id)
  have hlt := h.lt
  refine h'.set_now g c l hv ?_ ?_ ?_
  · intro e; have := hlt L.b (Or.inl rfl); omega
  · intro e; have := hlt L.gk (Or.inr (Or.inl rfl)); omega
  · intro e; have := hlt g (Or.inr (Or.inr (Or.inr e))); omega
theorem strs_one (l : List ByteArray) : ∀ u ∈ l.map Value.string, u.oneCell' = true := by
  intro v hv; obtain ⟨s, _, rfl⟩ := List.mem_map.1 hv; rfl
theorem grown_none_box {ty tt : TypeId} {w w' : World} {L : Dk} {D : DiskS} (h : DAt ty tt w L D) (hg : w.grownBy w' none) : DAt ty tt w' L D := h.off (off_grown (F := fun _ => False) hg (fun _ h => by cases h)) (fun _ _ => id)
end Go.Proofs.Ytggpodlecljcbac
namespace Go.Proofs.Ytggpodlecljcbac
open Go.RowKit Go.Sort
set_option linter.unusedSimpArgs false
set_option linter.unusedVariables false
theorem DAt.wait_at {ty tt : TypeId} {w : World} {L : Dk} {D : DiskS} (h : DAt ty tt w L D) (k : Nat) (hk : k < D.wait.length) :
    ∃ g cap, L.wv = .slice (some ⟨g, 0, none⟩) D.wait.length cap ∧ w.cell? ⟨g, k * 2, none⟩ = some (.int .i64 D.wait[k].pos) ∧ w.cell? ⟨g, k * 2 + 1, none⟩ = some (.string D.wait[k].data) := by
  obtain ⟨g, cap, e⟩ := Go.Joins.ownsRow_form h.wait (by omega)
  have hw := h.wait
  rw [e] at hw
  have hc := hw.cells (g := g) rfl
  have f0 := flat_at Turn.cells_len D.wait k hk 0 (by decide)
  have f1 := flat_at Turn.cells_len D.wait k hk 1 (by decide)
  have r0 := hc (k * 2 + 0) (.int .i64 D.wait[k].pos) (by rw [f0]; rfl)
  have r1 := hc (k * 2 + 1) (.string D.wait[k].data) (by rw [f1]; rfl)
  rw [Addr.add_lit, Nat.zero_add] at r0 r1
  exact ⟨g, cap, e, r0, r1⟩
theorem DAt.drew' {ty tt : TypeId} {w : World} {L : Dk} {D : DiskS} (h : DAt ty tt w L D) : DAt ty tt w.drew L D := h.below (Below.refl _ _).drew
set_option maxRecDepth 100000 in
set_option maxHeartbeats 2000000 in
theorem disk_Restart (L : Dk) (D : DiskS) (keep : Int) (w : World) (h : DiskAt w L D) (hok : D.ok) (hk0 : 0 ≤ keep) (hk1 : keep < 18446744073709551616) (hwl : D.wait.length ≤ 1000000) :
    Calls Try.prog 25 #[.pointer (some ⟨L.b, 0, none⟩), .int .u64 keep] w fun e w' => e = .returned (.tuple #[]) ∧ Turned 81 100 w L (restartD D keep) w' := by
  obtain ⟨wo, wc, hwv, hn, hm, hao, hnone⟩ := owns_parts h.wait
  obtain ⟨b, gk, gn, ck, cn, wv⟩ := L
  simp only at hwv
  subst hwv
  unfold maxLen at hm
  have c2 := h.c2
  have H := Lib.hid h
  have HOK := Lib.hid hok
  simp only at c2
  clear h hok hao hnone
  go_enter Try.func25, Try.ntmps25
  go_wp2_with fail
  go_loopw [11] (fun i wr => ∃ (k : Nat), k ≤ D.wait.length ∧ i = .int .i64 k ∧ DiskAt wr ⟨b, gk, gn, ck, cn, .slice wo D.wait.length wc⟩ { D with kept := keepTo' keep D.wait k D.kept } ∧ Off (Dk.foot ⟨b, gk, gn, ck, cn, .slice wo D.wait.length wc⟩) w wr) (fun i _ => D.wait.length - (intOf i).toNat)
  case atStart => exact ⟨0, Nat.zero_le _, rfl, by rw [keepTo_zero]; exact H.out, Off.refl _ _⟩
  case round =>
    obtain ⟨k, hk, rfl, hd, ho⟩ := hrel
    have HD := Lib.hid hd
    have HO := Lib.hid ho
    clear hd ho
    by_cases hlt : k < D.wait.length
    · obtain ⟨g, cap, e, x0, x1⟩ := HD.out.wait_at k hlt
      simp only [Value.slice.injEq] at e
      obtain ⟨rfl, _, rfl⟩ := e
      simp only at x0 x1
      have HKN := Lib.hid (keepTo_next keep D.wait k D.kept hlt)
      have hp : D.wait[k].pos < D.now.length := HOK.out.pos _ (List.getElem_mem hlt)
      obtain ⟨t, ht⟩ : ∃ t, t = D.wait[k] := ⟨_, rfl⟩
      rw [← ht] at x0 x1 hp HKN
      obtain ⟨tp, td⟩ := t
      simp only at x0 x1 hp HKN
      clear ht
      obtain ⟨kl, hkl⟩ : ∃ l, l = keepTo' keep D.wait k D.kept := ⟨_, rfl⟩
      have hlen : kl.length = D.now.length := by rw [hkl, keepTo_length keep D.wait D.kept k hk]; exact HOK.out.same
      rw [← hkl] at HD HKN
      have HDA := Lib.hid (HD.out.below (below_alloc wr (.cells #[.int .i64 tp, .string td] 100)))
      have HOA := Lib.hid (HO.out.trans (off_alloc (Dk.foot ⟨b, gk, gn, ck, cn, .slice (some ⟨g, 0, none⟩) D.wait.length wc⟩) wr (.cells #[.int .i64 tp, .string td] 100)) (fun _ _ h => h))
      clear hkl
      cases hkb : keepBit keep k
      · have HK : Hid (keepTo' keep D.wait (k + 1) D.kept = kl) := Lib.hid (by rw [HKN.out, hkb]; rfl)
        unfold keepBit at hkb
        go_wp2_with fail
        go_roundw
        case rel => exact ⟨k + 1, by omega, by go_num, by rw [HK.out]; exact HDA.out, HOA.out⟩
        case measure => simp [intOf]; omega
      · have HK : Hid (keepTo' keep D.wait (k + 1) D.kept = kl.set tp td) := Lib.hid (by rw [HKN.out, hkb]; rfl)
        unfold keepBit at hkb
        have z0 := HDA.out.c0
        have z1 := HDA.out.kcell tp (by show tp < kl.length; omega)
        have z2 := HDA.out.fk tp
        simp only at z0 z1 z2
        obtain ⟨old, hold⟩ : ∃ x, x = kl[tp]'(by omega) := ⟨_, rfl⟩
        rw [← hold] at z1
        have hi : tp < kl.length := by omega
        have hc := (owns_cap HD.out.kept).1
        simp only at hc
        clear hold
        have HDB := Lib.hid (HDA.out.drew'.kept_at tp hi td)
        have HOB := Lib.hid (off_grown_set (HOA.out.trans (off_drew _ _) (fun _ _ h => h)) (b := gk) (Or.inr (Or.inl rfl)) tp (.string td))
        go_wp2_with fail
        go_region
        all_goals
          go_wp2_with fail
          go_roundw
          case rel => exact ⟨k + 1, by omega, by go_num, by rw [HK.out]; exact HDB.out, HOB.out⟩
          case measure => simp [intOf]; omega
    · have hke : k = D.wait.length := by omega
      have hlen : (keepTo' keep D.wait k D.kept).length = D.now.length := by rw [keepTo_length keep D.wait D.kept k hk]; exact HOK.out.same
      obtain ⟨kl, hkl⟩ : ∃ l, l = keepTo' keep D.wait k D.kept := ⟨_, rfl⟩
      have HKL : Hid (kl = keepTo' keep D.wait D.wait.length D.kept) := Lib.hid (by rw [hkl, hke])
      rw [← hkl] at HD hlen
      have HLEN := Lib.hid hlen
      clear hke hkl hlen
      have HDD := Lib.hid HD.out.drew'
      have c0 := HD.out.c0
      have c1 := HD.out.c1
      simp only at c0 c1
      have HC : Hid (∀ ty, (Builtin.copy_ #[42, 42] ty #[.slice (some ⟨gn, 0, none⟩) D.now.length cn, .slice (some ⟨gk, 0, none⟩) kl.length ck]).run Try.prog wr.drew = .ok (goInt kl.length) (wr.drew.setCells gn 0 (kl.map .string))) := Lib.hid fun ty =>
        copy_texts wr.drew ty gn cn ⟨gk, 0, none⟩ ck kl D.now.length HLEN.out.symm HDD.out.kept_read (fun j hj => by rw [HDD.out.ncell j (by show j < D.now.length; rw [← HLEN.out]; exact hj)]; rfl) HDD.out.fn
      go_wp2_with fail
      go_region_law (refine step_copy_runI rfl (.tmp 35) (.tmp 39) 42 42 rfl (.slice (some ⟨gn, 0, none⟩) D.now.length cn) (.slice (some ⟨gk, 0, none⟩) kl.length ck) (by simp [Act.eval, Act.put]) (by simp [Act.eval, Act.put]) (HC.out 3) ?_)
      all_goals
        obtain ⟨W2, hW2⟩ : ∃ W2, W2 = wr.drew.setCells gn 0 (kl.map .string) := ⟨_, rfl⟩
        have HD2 : Hid (DiskAt W2 ⟨b, gk, gn, ck, cn, .slice wo D.wait.length wc⟩ { D with kept := kl, now := kl }) := Lib.hid (by rw [hW2]; exact HDD.out.now_all kl HLEN.out)
        have HO2 : Hid (Off (Dk.foot ⟨b, gk, gn, ck, cn, .slice wo D.wait.length wc⟩) w W2) := Lib.hid (by
          rw [hW2]
          exact (HO.out.trans (off_drew _ _) (fun _ _ h => h)).trans (off_setCells _ gn 0 _ (Or.inr (Or.inr (Or.inl rfl)))) (fun _ _ h => h))
        rw [← hW2]
        clear hW2 HC HDD c0 c1
        have k2 := HD2.out.c2
        have k3 := HD2.out.c3
        have k4 := HD2.out.c4
        have y2 := HD2.out.f 2
        have y3 := HD2.out.f 3
        have y4 := HD2.out.f 4
        simp only at k2 k3 k4 y2 y3 y4
        have HF : Hid (Turned 81 100 w ⟨b, gk, gn, ck, cn, .slice wo D.wait.length wc⟩ (restartD D keep) (((W2.setCell ⟨b, 2, none⟩ (.slice none 0 0)).setCell ⟨b, 4, none⟩ (.bool false)).setCell ⟨b, 3, none⟩ (.int .i64 (-1)))) := Lib.hid (by
          have h1 := ((HD2.out.set_wait (.slice none 0 0) [] (World.ownsRow_nil _ _ _ _) (by simp [Value.ownBlock]) (by simp [Value.ownBlock]) (by simp [Value.ownBlock])).set_down false).set_fuse (-1)
          refine ⟨⟨b, gk, gn, ck, cn, .slice none 0 0⟩, rfl, ?_, off_grown_set (off_grown_set (off_grown_set HO2.out (Or.inl rfl) 2 _) (Or.inl rfl) 4 _) (Or.inl rfl) 3 _, fun k hk => ?_⟩
          · unfold restartD
            rw [← HKL.out]
            exact h1
          · rcases hk with hk | hk | hk | hk
            · exact Or.inl (Or.inl hk)
            · exact Or.inl (Or.inr (Or.inl hk))
            · exact Or.inl (Or.inr (Or.inr (Or.inl hk)))
            · simp [Value.ownBlock] at hk)
        go_wp2_with fail
        go_end0
        exact ⟨rfl, HF.out⟩
end Go.Proofs.Ytggpodlecljcbac
namespace Go.Proofs.Ytggpodlecljcbac
open Go.RowKit Go.Sort
set_option linter.unusedSimpArgs false
set_option linter.unusedVariables false
end Go.Proofs.Ytggpodlecljcbac
