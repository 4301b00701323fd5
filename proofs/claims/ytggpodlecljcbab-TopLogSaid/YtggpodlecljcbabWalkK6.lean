/- The walk of a disk's Flush. The walk of the reference's Flush. -/
import Derived.Test.YtggpodlecljcbabWalkK5
import Derived.Test.YtggpodlecljcbabBase3
namespace Go.Proofs.Ytggpodlecljcbab
open Go.RowKit Go.Sort
set_option linter.unusedSimpArgs false
set_option linter.unusedVariables false
theorem flushD_step {D : DiskS} (h2 : (stepD D).2 ≠ 0) : flushD D = stepD D := by unfold flushD; rw [if_pos h2]
theorem flushD_done {D : DiskS} (h2 : (stepD D).2 = 0) : flushD D = ({ (stepD D).1 with kept := D.now, wait := [] }, 0) := by unfold flushD; rw [if_neg (by simp [h2])]
theorem text_info : (Try.prog.info? 9).map (·.size) = some 1 := by kernel_rfl
theorem copy_texts (w : World) (ty : TypeId) (g ck : Nat) (a : Addr) (sc : Nat) (l : List ByteArray) (dn : Nat) (hd : dn = l.length) (hsrc : ∀ j v, (l.map Value.string)[j]? = some v → w.cell? (a.add j) = some v)
    (hc : ∀ j, j < l.length → (w.cell? ⟨g, j, none⟩).isSome = true) (hf : ∀ j, w.frozen? ⟨g, j, none⟩ = false) :
    (Builtin.copy_ #[93, 93] ty #[.slice (some ⟨g, 0, none⟩) dn ck, .slice (some a) l.length sc]).run Try.prog w = .ok (goInt l.length) (w.setCells g 0 (l.map .string)) := by
  subst hd
  have h := run_copy_kcells (P := Try.prog) w 93 93 ty 9 1 g 0 l.length ck a l.length sc (l.map .string) Try.underlying93 text_info (by simp) hsrc (fun j hj => by rw [Nat.zero_add]; exact hc j (by simpa using hj)) (fun j _ => by rw [Nat.zero_add]; exact hf j) (fun v hv => by obtain ⟨s, _, rfl⟩ := List.mem_map.1 hv; rfl)
  simpa using h
theorem DAt.now_read {ty tt : TypeId} {w : World} {L : Dk} {D : DiskS} (h : DAt ty tt w L D) : ∀ j v, (D.now.map Value.string)[j]? = some v → w.cell? ((⟨L.gn, 0, none⟩ : Addr).add j) = some v := h.now.cells rfl
theorem DAt.kept_read {ty tt : TypeId} {w : World} {L : Dk} {D : DiskS} (h : DAt ty tt w L D) : ∀ j v, (D.kept.map Value.string)[j]? = some v → w.cell? ((⟨L.gk, 0, none⟩ : Addr).add j) = some v := h.kept.cells rfl
set_option maxRecDepth 100000 in
set_option maxHeartbeats 1000000 in
theorem disk_Flush (L : Dk) (D : DiskS) (w : World) (h : DiskAt w L D) (hok : D.ok) :
    Calls Try.prog 20 #[.pointer (some ⟨L.b, 0, none⟩)] w fun e w' => e = .returned (errV (flushD D).2) ∧ Turned 99 102 w L (flushD D).1 w' := by
  have CS := disk_step L D w h hok
  by_cases h2 : (stepD D).2 = 0
  · have E := Lib.hid (flushD_done h2)
    rw [E.out]
    rw [h2] at CS
    obtain ⟨D1, hD1⟩ : ∃ D1, D1 = (stepD D).1 := ⟨_, rfl⟩
    have q1 : Hid (D1.now = D.now) := Lib.hid (by rw [hD1]; exact (stepD_same D).2.1)
    have HOK1 : Hid D1.ok := Lib.hid (by rw [hD1]; exact hok.step)
    rw [← hD1] at CS ⊢
    replace CS := Lib.hid CS
    clear h hok E h2 hD1
    have hev : errV 0 = .nilIface := rfl
    rw [hev] at CS
    go_enter Try.func20, Try.ntmps20
    go_wp2_with fail
    refine CS.out.mono ?_
    rintro e w1 ⟨rfl, hS⟩
    have HS := Lib.hid hS
    clear hS
    have HD := Lib.hid (HS.out.1.below (Below.refl _ _).drew)
    have c0 := HS.out.1.c0
    have c1 := HS.out.1.c1
    have HC : Hid (∀ ty, (Builtin.copy_ #[93, 93] ty #[.slice (some ⟨L.gk, 0, none⟩) D1.kept.length L.ck, .slice (some ⟨L.gn, 0, none⟩) D1.now.length L.cn]).run Try.prog w1.drew = .ok (goInt D1.now.length) (w1.drew.setCells L.gk 0 (D1.now.map .string))) := Lib.hid fun ty =>
      copy_texts w1.drew ty L.gk L.ck ⟨L.gn, 0, none⟩ L.cn D1.now D1.kept.length HOK1.out.same HD.out.now_read (fun j hj => by rw [HD.out.kcell j (by rw [HOK1.out.same]; exact hj)]; rfl) HD.out.fk
    go_wp2_with fail
    go_region_law (refine step_copy_runI rfl (.tmp 11) (.tmp 15) 93 93 rfl (.slice (some ⟨L.gk, 0, none⟩) D1.kept.length L.ck) (.slice (some ⟨L.gn, 0, none⟩) D1.now.length L.cn) (by simp [Act.eval, Act.put]) (by simp [Act.eval, Act.put]) (HC.out 3) ?_)
    all_goals
      obtain ⟨W2, hW2⟩ : ∃ W2, W2 = w1.drew.setCells L.gk 0 (D1.now.map .string) := ⟨_, rfl⟩
      have HD2 : Hid (DiskAt W2 L { D1 with kept := D1.now }) := Lib.hid (by rw [hW2]; exact HD.out.kept_all D1.now HOK1.out.same.symm)
      have HO2 : Hid (Off L.foot w W2) := Lib.hid (by
        rw [hW2]
        exact ((HS.out.2.1.mono (fun _ hx => Or.inl hx)).trans (off_drew L.foot _) (fun _ _ h => h)).trans (off_setCells (F := L.foot) _ L.gk 0 _ (Or.inr (Or.inl rfl))) (fun _ _ h => h))
      rw [← hW2]
      clear hW2 HC HD c0 c1
      have k2 := HD2.out.c2
      have k4 := HD2.out.f 2
      have HF : Hid (Turned 99 102 w L ({ D1 with kept := D.now, wait := [] }) (W2.setCell ⟨L.b, 2, none⟩ (.slice none 0 0))) := Lib.hid
        ⟨{ L with wv := .slice none 0 0 }, rfl, by rw [← q1.out]; exact HD2.out.set_wait (.slice none 0 0) [] (World.ownsRow_nil _ _ _ _) (by simp [Value.ownBlock]) (by simp [Value.ownBlock]) (by simp [Value.ownBlock]),
          off_grown_set HO2.out (Or.inl rfl) 2 _, fun k hk => by
            rcases hk with hk | hk | hk | hk
            · exact Or.inl (Or.inl hk)
            · exact Or.inl (Or.inr (Or.inl hk))
            · exact Or.inl (Or.inr (Or.inr (Or.inl hk)))
            · simp [Value.ownBlock] at hk⟩
      go_wp2_with fail
      go_ret
      exact ⟨rfl, HF.out⟩
  · have E := Lib.hid (flushD_step h2)
    rw [E.out]
    have hev := errV_pos h2
    rw [hev] at CS ⊢
    replace CS := Lib.hid CS
    clear h hok E h2 hev
    go_enter Try.func20, Try.ntmps20
    go_wp2_with fail
    refine CS.out.mono ?_
    rintro e w1 ⟨rfl, hS⟩
    have HS := Lib.hid hS
    clear hS
    go_wp2_with fail
    go_ret
    exact ⟨rfl, HS.out.turned⟩
end Go.Proofs.Ytggpodlecljcbab
namespace Go.Proofs.Ytggpodlecljcbab
open Go.RowKit Go.Sort
set_option linter.unusedSimpArgs false
set_option linter.unusedVariables false
theorem I_texts' : ElemInfo Try.prog 93 9 1 16 := elemInfo_of (z := .string ⟨#[]⟩) Try.underlying93 (by kernel_rfl) rfl (by decide) (by decide)
/-- Behind an append to nil: a new row; the box takes it for what is kept, or for what is now. -/
theorem DAt.fresh_kept {ty tt : TypeId} {w w' : World} {L : Dk} {D : DiskS} (h : DAt ty tt w L D) (hg : w.grownBy w' none) (g c : Nat) (l : List ByteArray) (hv : w'.ownsRow 0 9 1 (.slice (some ⟨g, 0, none⟩) l.length c) l.length (l.map .string)) (hgs : w.heap.size ≤ g) :
    DAt ty tt (w'.setCell ⟨L.b, 0, none⟩ (.slice (some ⟨g, 0, none⟩) l.length c)) { L with gk := g, ck := c } { D with kept := l } := by
  have h' : DAt ty tt w' L D := h.off (off_grown (F := fun _ => False) hg (fun _ h => by cases h)) (fun _ _ => id)
  have hlt := h.lt
  refine h'.set_kept g c l hv ?_ ?_ ?_
  · intro e; have := hlt L.b (Or.inl rfl); omega
  · intro e; have := hlt L.gn (Or.inr (Or.inr (Or.inl rfl))); omega
  · intro e; have := hlt g (Or.inr (Or.inr (Or.inr e))); omega
theorem DAt.fresh_now {ty tt : TypeId} {w w' : World} {L : Dk} {D : DiskS} (h : DAt ty tt w L D) (hg : w.grownBy w' none) (g c : Nat) (l : List ByteArray) (hv : w'.ownsRow 0 9 1 (.slice (some ⟨g, 0, none⟩) l.length c) l.length (l.map .string)) (hgs : w.heap.size ≤ g) :
    DAt ty tt (w'.setCell ⟨L.b, 1, none⟩ (.slice (some ⟨g, 0, none⟩) l.length c)) { L with gn := g, cn := c } { D with now := l } := by
  have h' : DAt ty tt w' L D := h.off (off_grown (F := fun _ => False) hg (fun _ h => by cases h)) (fun _ _ => id)
  have hlt := h.lt
  refine h'.set_now g c l hv ?_ ?_ ?_
  · intro e; have := hlt L.b (Or.inl rfl); omega
  · intro e; have := hlt L.gk (Or.inr (Or.inl rfl)); omega
  · intro e; have := hlt g (Or.inr (Or.inr (Or.inr e))); omega
theorem strs_one (l : List ByteArray) : ∀ u ∈ l.map Value.string, u.oneCell' = true := by
  intro v hv; obtain ⟨s, _, rfl⟩ := List.mem_map.1 hv; rfl
theorem grown_none_box {ty tt : TypeId} {w w' : World} {L : Dk} {D : DiskS} (h : DAt ty tt w L D) (hg : w.grownBy w' none) : DAt ty tt w' L D := h.off (off_grown (F := fun _ => False) hg (fun _ h => by cases h)) (fun _ _ => id)
end Go.Proofs.Ytggpodlecljcbab
