/- The walk of the reference's Restart. -/
import Derived.Test.YtggpodlecljcbaaWalkK8
namespace Go.Proofs.Ytggpodlecljcbaa
open Go.RowKit Go.Sort
set_option linter.unusedSimpArgs false
set_option linter.unusedVariables false
set_option maxRecDepth 100000 in
set_option maxHeartbeats 4000000 in
theorem ref_Restart (L : Dk) (D : DiskS) (keep : Int) (w : World) (h : RefAt w L D) (hok : D.ok) (hk0 : 0 ≤ keep) (hk1 : keep < 18446744073709551616) (hwl : D.wait.length ≤ 1000000) :
    Calls Try.prog 41 #[.pointer (some ⟨L.b, 0, none⟩), .int .u64 keep] w fun e w' => e = .returned (.tuple #[]) ∧ Turned 74 153 w L (restartD D keep) w' := by
  obtain ⟨wo, wc, hwv, hn, hm, hao, hnone⟩ := owns_parts h.wait
  obtain ⟨b, gk, gn, ck, cn, wv⟩ := L
  simp only at hwv
  subst hwv
  unfold maxLen at hm
  have H := Lib.hid h
  have HOK := Lib.hid hok
  clear h hok hao hnone
  go_enter Try.func41, Try.ntmps41
  go_wp2_with fail
  go_loopw [4] (fun i wr => ∃ (k : Nat), k ≤ D.wait.length ∧ i = .int .i64 k ∧ RefAt wr ⟨b, gk, gn, ck, cn, .slice wo D.wait.length wc⟩ { D with kept := keepTo' keep D.wait k D.kept } ∧ Off (Dk.foot ⟨b, gk, gn, ck, cn, .slice wo D.wait.length wc⟩) w wr) (fun i _ => D.wait.length - (intOf i).toNat)
  case atStart => exact ⟨0, Nat.zero_le _, rfl, by rw [keepTo_zero]; exact H.out, Off.refl _ _⟩
  case round =>
    obtain ⟨k, hk, rfl, hd, ho⟩ := hrel
    have HD := Lib.hid hd
    have HO := Lib.hid ho
    clear hd ho
    by_cases hlt : k < D.wait.length
    · obtain ⟨g, cap, e, x0, x1⟩ := HD.out.wait_at k hlt
      simp only [Value.slice.injEq] at e
      obtain ⟨rfl, _, rfl⟩ := e
      simp only at x0 x1
      have HKN := Lib.hid (keepTo_next keep D.wait k D.kept hlt)
      have hp : D.wait[k].pos < D.now.length := HOK.out.pos _ (List.getElem_mem hlt)
      obtain ⟨t, ht⟩ : ∃ t, t = D.wait[k] := ⟨_, rfl⟩
      rw [← ht] at x0 x1 hp HKN
      obtain ⟨tp, td⟩ := t
      simp only at x0 x1 hp HKN
      clear ht
      obtain ⟨kl, hkl⟩ : ∃ l, l = keepTo' keep D.wait k D.kept := ⟨_, rfl⟩
      have hlen : kl.length = D.now.length := by rw [hkl, keepTo_length keep D.wait D.kept k hk]; exact HOK.out.same
      rw [← hkl] at HD HKN
      clear hkl
      have z9 := HD.out.c2
      simp only at z9
      cases hkb : keepBit keep k
      · have HK : Hid (keepTo' keep D.wait (k + 1) D.kept = kl) := Lib.hid (by rw [HKN.out, hkb]; rfl)
        unfold keepBit at hkb
        go_wp2_with fail
        go_roundw
        case rel => exact ⟨k + 1, by omega, by go_num, by rw [HK.out]; exact HD.out, HO.out⟩
        case measure => simp [intOf]; omega
      · have HK : Hid (keepTo' keep D.wait (k + 1) D.kept = kl.set tp td) := Lib.hid (by rw [HKN.out, hkb]; rfl)
        unfold keepBit at hkb
        have z0 := HD.out.c0
        have z1 := HD.out.kcell tp (by show tp < kl.length; omega)
        have z2 := HD.out.fk tp
        simp only at z0 z1 z2
        obtain ⟨old, hold⟩ : ∃ x, x = kl[tp]'(by omega) := ⟨_, rfl⟩
        rw [← hold] at z1
        have hi : tp < kl.length := by omega
        have hc := (owns_cap HD.out.kept).1
        simp only at hc
        clear hold
        have HDB := Lib.hid (HD.out.drew'.kept_at tp hi td)
        have HOB := Lib.hid (off_grown_set (HO.out.trans (off_drew _ _) (fun _ _ h => h)) (b := gk) (Or.inr (Or.inl rfl)) tp (.string td))
        go_wp2_with fail
        go_region
        all_goals
          go_wp2_with fail
          go_roundw
          case rel => exact ⟨k + 1, by omega, by go_num, by rw [HK.out]; exact HDB.out, HOB.out⟩
          case measure => simp [intOf]; omega
    · have hke : k = D.wait.length := by omega
      have hlen : (keepTo' keep D.wait k D.kept).length = D.now.length := by rw [keepTo_length keep D.wait D.kept k hk]; exact HOK.out.same
      obtain ⟨kl, hkl⟩ : ∃ l, l = keepTo' keep D.wait k D.kept := ⟨_, rfl⟩
      have HKL : Hid (kl = keepTo' keep D.wait D.wait.length D.kept) := Lib.hid (by rw [hkl, hke])
      rw [← hkl] at HD hlen
      have HLEN := Lib.hid hlen
      have HP : Hid (0 < kl.length) := Lib.hid (by have := HOK.out.some; omega)
      have hq1 : 0 + kl.length ≤ 1000000000 := by have := HOK.out.few; omega
      clear hke hkl hlen
      have c0 := HD.out.c0
      have z9 := HD.out.c2
      simp only at c0 z9
      have HN := Lib.hid HD.out.kept_read
      go_wp2_with (at_builtin; refine wpList_lies I_texts' rfl (.const (.slice none 0 0)) (.tmp 46) rfl 0 (.slice none 0 0) 0 [] rfl (World.ownsRow_nil _ _ _ _) ⟨gk, 0, none⟩ kl.length ck (kl.map .string) rfl (by simp) HN.out (strs_one _) HP.out hq1 (Nat.zero_le _) wr.heap.size rfl ?_; intro g cap w' ho hg hor hlt; have HG := Lib.hid (grown_none_box HD.out hg); have y0 := HG.out.c1; have y4 := HG.out.f 1; have y2 := HG.out.c2; have y5 := HG.out.f 2; have y3 := HG.out.c3; have y6 := HG.out.f 3; have y7 := HG.out.c4; have y8 := HG.out.f 4; simp only at y0 y2 y3 y4 y5 y6 y7 y8; have HY := Lib.hid (And.intro ho (And.intro hg hor)); clear ho hg hor hlt)
      have HF : Hid (Turned 74 153 w ⟨b, gk, gn, ck, cn, .slice wo D.wait.length wc⟩ (restartD D keep) ((((w'.setCell ⟨b, 1, none⟩ (.slice (some ⟨g, 0, none⟩) kl.length cap)).setCell ⟨b, 2, none⟩ (.slice none 0 0)).setCell ⟨b, 4, none⟩ (.bool false)).setCell ⟨b, 3, none⟩ (.int .i64 (-1)))) := Lib.hid (by
        obtain ⟨ho, hg, hor⟩ := HY.out
        rw [Nat.zero_add, List.nil_append] at ho
        have hgs : wr.heap.size ≤ g := by
          rcases hor with h | h
          · cases h
          · omega
        have hd := HD.out.fresh_now hg g cap kl ho hgs
        have hd2 := ((hd.set_wait (.slice none 0 0) [] (World.ownsRow_nil _ _ _ _) (by simp [Value.ownBlock]) (by simp [Value.ownBlock]) (by simp [Value.ownBlock])).set_down false).set_fuse (-1)
        refine ⟨⟨b, gk, g, ck, cap, .slice none 0 0⟩, rfl, ?_, ?_, fun k hk => ?_⟩
        · unfold restartD
          rw [← HKL.out]
          exact hd2
        · refine off_grown_set (off_grown_set (off_grown_set (off_grown_set ?_ (Or.inl rfl) 1 _) (Or.inl rfl) 2 _) (Or.inl rfl) 4 _) (Or.inl rfl) 3 _
          exact HO.out.trans (off_grown (F := Dk.foot ⟨b, gk, gn, ck, cn, .slice wo D.wait.length wc⟩) hg (fun _ h => by cases h)) (fun _ _ h => h)
        · have hz := HO.out.size
          rcases hk with hk | hk | hk | hk
          · exact Or.inl (Or.inl hk)
          · exact Or.inl (Or.inr (Or.inl hk))
          · exact Or.inr (by simp only at hk; omega)
          · simp [Value.ownBlock] at hk)
      go_wp2_with fail
      go_end0
      exact ⟨rfl, HF.out⟩
end Go.Proofs.Ytggpodlecljcbaa
