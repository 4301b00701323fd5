/- The walk of image.Changes. -/
import Derived.Test.YtggpodlecljcbaaGreatDoorWalkI4
import Derived.Test.YtggpodlecljcbaaGreatDoorWalkI3
import Derived.Deep.RegionLaw
import Derived.Deep.CutRange
namespace Go.Proofs.YtggpodlecljcbaaGreatDoor
set_option linter.unusedSimpArgs false
set_option linter.unusedVariables false
open Go.RowKit Go.Sort
theorem outA_next (a b : List Change) (k : Nat) (h : k < a.length) : outA (a.take (k + 1)) b = if keyIn b a[k].key = true then outA (a.take k) b else outA (a.take k) b ++ [goneX a[k].key] := by
  unfold outA
  rw [List.take_succ_eq_append_getElem h, List.filter_append, List.map_append]
  by_cases hs : keyIn b a[k].key = true
  · rw [if_pos hs]; simp [hs]
  · rw [if_neg hs]; simp [hs]
theorem outB_next (a b : List Change) (k : Nat) (h : k < b.length) : outB a (b.take (k + 1)) = if newIn a b[k] = true then outB a (b.take k) ++ [b[k]] else outB a (b.take k) := by
  unfold outB
  rw [List.take_succ_eq_append_getElem h, List.filter_append]
  by_cases hs : newIn a b[k] = true
  · rw [if_pos hs]; simp [hs]
  · rw [if_neg hs]; simp [hs]
theorem outA_len (a b : List Change) : (outA a b).length ≤ a.length := by unfold outA; rw [List.length_map]; exact List.length_filter_le _ _
theorem outB_len (a b : List Change) : (outB a b).length ≤ b.length := by unfold outB; exact List.length_filter_le _ _
theorem newIn_new {a : List Change} {c : Change} (h : keyIn a c.key = false) : newIn a c = true := by unfold newIn; rw [h]; rfl
theorem newIn_old {a : List Change} {c : Change} (h : keyIn a c.key = true) (hr : rankX a c.key < a.length) : newIn a c = !changeSame (a[rankX a c.key]).key (a[rankX a c.key]).val (a[rankX a c.key]).gone c.key c.val c.gone := by
  unfold newIn
  rw [h, List.getElem?_eq_getElem hr]
  rfl
theorem ownsC_snoc {w : World} {base : Nat} {v : Value} {l m : List Change} {c : Change} (h : w.ownsRow base 41 3 v (l.length + 1) (l.flatMap Change.cells ++ c.cells)) (hm : m = l ++ [c]) : w.ownsRow base 41 3 v m.length (m.flatMap Change.cells) := by
  subst hm
  rw [List.length_append, List.flatMap_append]
  simpa using h
set_option maxRecDepth 100000 in
set_option maxHeartbeats 8000000 in
theorem image_Changes (va vb : Value) (a b : List Change) (w : World) (ha : Changes w va a) (hb : Changes w vb b) (hla : a.length ≤ 200) (hlb : b.length ≤ 200) (hra : RisesX a) (hrb : RisesX b) :
    Calls Tryz.prog 15 #[va, vb] w fun e w' => ∃ v, e = .returned v ∧ w'.ownsRow w.heap.size 41 3 v (mergeC a b).length ((mergeC a b).flatMap Change.cells) ∧ Below w.heap.size w w' := by
  obtain ⟨ao, ac, rfl, hac, hac'⟩ := ha.parts
  obtain ⟨bo, bc, rfl, hbc, hbc'⟩ := hb.parts
  have HA := Lib.hid ha
  have HB := Lib.hid hb
  have HRA := Lib.hid hra
  have HRB := Lib.hid hrb
  have CA : Hid (∀ name W, Below w.heap.size w W → Calls Tryz.prog 28 #[.slice ao a.length ac, .string name, .func (.func 26) #[] #[]] W (RetFindX a name W)) := Lib.hid (fun name W h => changes_searchI _ a name W (ha.below h) (by omega) hra)
  have CB : Hid (∀ name W, Below w.heap.size w W → Calls Tryz.prog 28 #[.slice bo b.length bc, .string name, .func (.func 26) #[] #[]] W (RetFindX b name W)) := Lib.hid (fun name W h => changes_searchI _ b name W (hb.below h) (by omega) hrb)
  clear ha hb hra hrb
  go_enter Tryz.func15, Tryz.ntmps15
  go_wp2_with fail
  go_loopw [5, 17] (fun v iv wr => ∃ (k : Nat) (O : List Change), k ≤ a.length ∧ O = outA (a.take k) b ∧ O.length ≤ k ∧ iv = .int .i64 k ∧ wr.ownsRow w.heap.size 41 3 v O.length (O.flatMap Change.cells) ∧ Below w.heap.size w wr) (fun _ iv _ => a.length - (intOf iv).toNat)
  case atStart => exact ⟨0, [], Nat.zero_le _, rfl, Nat.le_refl _, rfl, World.ownsRow_nil _ _ _ _, Below.refl _ _⟩
  case round =>
    obtain ⟨k, O, hk, hO, hol, rfl, ho, hbw⟩ := hrel
    obtain ⟨lo, lc, rfl, hlc, hlc'⟩ := own_sliceI ho
    have HO := Lib.hid ho
    have HBW := Lib.hid hbw
    have HOE := Lib.hid hO
    clear ho hbw hO
    by_cases hlt : k < a.length
    · obtain ⟨cb, cof, rfl, hlb2, x0, x1, x2⟩ := Changes.cell (Rd.below HA.out HBW.out) k hlt
      have HN := Lib.hid (outA_next a b k hlt)
      obtain ⟨c, hce⟩ : ∃ c, c = a[k] := ⟨_, rfl⟩
      rw [← hce] at x0 x1 x2 HN
      obtain ⟨W3, hW3⟩ : ∃ W3, W3 = wr.alloc (.cells #[.string c.key, .string c.val, .bool c.gone] 41) := ⟨_, rfl⟩
      have HB3 : Hid (Below wr.heap.size wr W3) := Lib.hid (by rw [hW3]; exact below_alloc _ _)
      have HC3 : Hid (∀ W, Below W3.heap.size W3 W → W.cell? ⟨wr.heap.size, 0, none⟩ = some (.string c.key)) := Lib.hid fun W hb => cell_on' hb (by rw [hW3]; simp)
      have CS := Lib.hid (CB.out c.key W3 (two HBW.out HB3.out))
      have HW3 := Lib.hid hW3
      clear hce hW3
      go_wp2_with fail
      rw [← HW3.out]
      clear x0 x1 x2 hlb2
      refine CS.out.mono ?_
      rintro e wA ⟨rfl, hba⟩
      have HBA := Lib.hid hba
      have HBK := Lib.hid (two HBW.out (two HB3.out hba))
      have HOA := Lib.hid (own_belowI HO.out (two HB3.out hba))
      have hx0 := HC3.out wA hba
      have hzA := HBK.out.size
      obtain ⟨R, hR⟩ : ∃ R, R = rankX b c.key := ⟨_, rfl⟩
      obtain ⟨X, hX⟩ : ∃ X, X = isAtX b c.key R := ⟨_, rfl⟩
      rw [← hR, ← hX]
      have HX : Hid (keyIn b c.key = X) := Lib.hid (by unfold keyIn; rw [hX, hR])
      clear hba hX hR
      cases X
      · go_wp2_with (at_builtin; refine wpList_app I_changes rfl _ _ rfl w.heap.size _ _ _ rfl (HOA.out.alloc _) ⟨wA.heap.size, 0, none⟩ 1 1 [.string c.key, .string ⟨#[]⟩, .bool true] rfl rfl ?c1 ?c2 ?c3 ?c4 ?_)
        case c1 => exact three_new
        case c2 => intro u hu; simp at hu; rcases hu with rfl | rfl | rfl <;> rfl
        case c3 => omega
        case c4 => simp; omega
        intro v3 w3 ho3 hg3
        have HO3 : Hid (w3.ownsRow w.heap.size 41 3 v3 (O ++ [goneX c.key]).length ((O ++ [goneX c.key]).flatMap Change.cells)) := Lib.hid (ownsC_snoc (c := goneX c.key) ho3 rfl)
        have HBZ := Lib.hid (grown_below (two HBK.out (below_alloc wA (.cells #[.string c.key, .string ⟨#[]⟩, .bool true] 41))) (HOA.out.alloc _) hg3 (Nat.le_refl _))
        clear ho3 hg3 hx0
        go_wp2_with fail
        go_roundw
        case rel => exact ⟨k + 1, O ++ [goneX c.key], by omega, by rw [HN.out, HX.out, if_neg (by simp), HOE.out], by simp; omega, by go_num, HO3.out, HBZ.out⟩
        case measure => simp [intOf]; omega
      · go_wp2_with fail
        go_roundw
        case rel => exact ⟨k + 1, O, by omega, by rw [HN.out, HX.out, if_pos rfl, HOE.out], by omega, by go_num, HOA.out, HBK.out⟩
        case measure => simp [intOf]; omega
    · obtain rfl : k = a.length := by omega
      have HOE1 : Hid (O = outA a b) := Lib.hid (by rw [HOE.out, List.take_length])
      clear HOE
      obtain ⟨wx, hwx⟩ : ∃ wx : World, wx = wr := ⟨_, rfl⟩
      subst hwx
      have HBX := HBW
      have HOX := HO
      clear HBW HO
      go_wp2_with fail
      go_loopw [5, 40] (fun v iv wr => ∃ (k : Nat) (M : List Change), k ≤ b.length ∧ M = outA a b ++ outB a (b.take k) ∧ M.length ≤ 200 + k ∧ iv = .int .i64 k ∧ wr.ownsRow w.heap.size 41 3 v M.length (M.flatMap Change.cells) ∧ Below w.heap.size w wr) (fun _ iv _ => b.length - (intOf iv).toNat)
      case atStart => exact ⟨0, O, Nat.zero_le _, by rw [HOE1.out]; simp [outB], by omega, rfl, HOX.out, HBX.out⟩
      case round =>
        obtain ⟨k, M, hk, hM, hol2, rfl, ho, hbw⟩ := hrel
        obtain ⟨lo2, lc2, rfl, hlc2, hlc2'⟩ := own_sliceI ho
        have HO := Lib.hid ho
        have HBW := Lib.hid hbw
        have HME := Lib.hid hM
        clear ho hbw hM
        by_cases hlt : k < b.length
        · obtain ⟨cb, cof, rfl, hlb2, x0, x1, x2⟩ := Changes.cell (Rd.below HB.out HBW.out) k hlt
          have HN := Lib.hid (outB_next a b k hlt)
          obtain ⟨c, hce⟩ : ∃ c, c = b[k] := ⟨_, rfl⟩
          rw [← hce] at x0 x1 x2 HN
          obtain ⟨W3, hW3⟩ : ∃ W3, W3 = wr.alloc (.cells #[.string c.key, .string c.val, .bool c.gone] 41) := ⟨_, rfl⟩
          have HB3 : Hid (Below wr.heap.size wr W3) := Lib.hid (by rw [hW3]; exact below_alloc _ _)
          have HC3 : Hid (∀ W, Below W3.heap.size W3 W → W.cell? ⟨wr.heap.size, 0, none⟩ = some (.string c.key) ∧ W.cell? ⟨wr.heap.size, 1, none⟩ = some (.string c.val) ∧ W.cell? ⟨wr.heap.size, 2, none⟩ = some (.bool c.gone)) := Lib.hid fun W hb => ⟨cell_on' hb (by rw [hW3]; simp), cell_on' hb (by rw [hW3]; simp), cell_on' hb (by rw [hW3]; simp)⟩
          have CS := Lib.hid (CA.out c.key W3 (two HBW.out HB3.out))
          have HW3 := Lib.hid hW3
          clear hce hW3
          go_wp2_with fail
          rw [← HW3.out]
          clear x0 x1 x2 hlb2
          refine CS.out.mono ?_
          rintro e wA ⟨rfl, hba⟩
          have HBA := Lib.hid hba
          have HBK := Lib.hid (two HBW.out (two HB3.out hba))
          have HOA := Lib.hid (own_belowI HO.out (two HB3.out hba))
          obtain ⟨R, hR⟩ : ∃ R, R = rankX a c.key := ⟨_, rfl⟩
          obtain ⟨X, hX⟩ : ∃ X, X = isAtX a c.key R := ⟨_, rfl⟩
          obtain ⟨Y, hY⟩ : ∃ Y, Y = newIn a c := ⟨_, rfl⟩
          rw [← hR, ← hX]
          have HX : Hid (keyIn a c.key = X) := Lib.hid (by unfold keyIn; rw [hX, hR])
          have HXX := Lib.hid hX
          have HR := Lib.hid hR
          have HY := Lib.hid hY
          clear hba hX hR hY
          go_upto_region 14 with fail
          go_cut [61] from 52 to 61 (fun s61 wx => s61 = .bool Y ∧ Below wA.heap.size wA wx)
          case first =>
            obtain ⟨z0, z1, z2⟩ := HC3.out wA HBA.out
            replace z0 := regrown_cell z0
            replace z1 := regrown_cell z1
            replace z2 := regrown_cell z2
            cases X
            · have HYT : Hid (Y = true) := Lib.hid (by rw [HY.out]; exact newIn_new HX.out)
              refine wp_region_q (by kernel_rfl) (by kernel_rfl) ?_
              repeat (go_big_quiet_step (fail))
              refine wpQuiet_nil ?_
              intro wx hbx
              have HBX := Lib.hid hbx
              clear hbx
              go_wp2_with fail
              go_meet
              exact ⟨by rw [HYT.out], HBX.out⟩
            · have hrl : R < a.length := isAt_lenX HXX.out.symm
              have HYT : Hid (Y = !changeSame a[R].key a[R].val a[R].gone c.key c.val c.gone) := Lib.hid (by
                obtain rfl := HR.out
                rw [HY.out]; exact newIn_old HX.out hrl)
              obtain ⟨ab, aof, rfl, hlab, p0, p1, p2⟩ := Changes.cell (Rd.below HA.out HBK.out) R hrl
              obtain ⟨p, hp⟩ : ∃ p, p = a[R] := ⟨_, rfl⟩
              rw [← hp] at p0 p1 p2 HYT
              replace p0 := regrown_cell p0
              replace p1 := regrown_cell p1
              replace p2 := regrown_cell p2
              clear hp
              refine wp_region_q (by kernel_rfl) (by kernel_rfl) ?_
              repeat (go_big_quiet_step (fail))
              refine wpQuiet_nil ?_
              intro wx hbx
              have HBX := Lib.hid hbx
              clear hbx
              go_wp2_with fail
              go_meet
              exact ⟨by rw [HYT.out], HBX.out⟩
          case rest =>
          obtain ⟨rfl, hbx⟩ := hcut
          have HBC := Lib.hid (two HBK.out hbx)
          have HOC := Lib.hid (own_belowI HOA.out hbx)
          obtain ⟨z0, z1, z2⟩ := HC3.out wc (two HBA.out hbx)
          have hzA := HBC.out.size
          clear hbx
          cases Y
          · go_wp2_with fail
            go_roundw
            case rel => exact ⟨k + 1, M, by omega, by rw [HN.out, ← HY.out, if_neg (by simp), HME.out], by omega, by go_num, HOC.out, HBC.out⟩
            case measure => simp [intOf]; omega
          · go_wp2_with (at_builtin; refine wpList_app I_changes rfl _ _ rfl w.heap.size _ _ _ rfl (HOC.out.alloc _) ⟨wc.heap.size, 0, none⟩ 1 1 [.string c.key, .string c.val, .bool c.gone] rfl rfl ?c1 ?c2 ?c3 ?c4 ?_)
            case c1 => exact three_new
            case c2 => intro u hu; simp at hu; rcases hu with rfl | rfl | rfl <;> rfl
            case c3 => omega
            case c4 => simp; omega
            intro v3 w3 ho3 hg3
            have HO3 : Hid (w3.ownsRow w.heap.size 41 3 v3 (M ++ [c]).length ((M ++ [c]).flatMap Change.cells)) := Lib.hid (ownsC_snoc (c := c) ho3 rfl)
            have HBZ := Lib.hid (grown_below (two HBC.out (below_alloc wc (.cells #[.string c.key, .string c.val, .bool c.gone] 41))) (HOC.out.alloc _) hg3 (Nat.le_refl _))
            clear ho3 hg3 z0 z1 z2
            go_wp2_with fail
            go_roundw
            case rel => exact ⟨k + 1, M ++ [c], by omega, by rw [HN.out, ← HY.out, if_pos rfl, HME.out, List.append_assoc], by simp; omega, by go_num, HO3.out, HBZ.out⟩
            case measure => simp [intOf]; omega
        · obtain rfl : k = b.length := by omega
          have HME1 : Hid (M = outA a b ++ outB a b) := Lib.hid (by rw [HME.out, List.take_length])
          have CSO := Lib.hid (changes_Sort w.heap.size (.slice lo2 M.length lc2) M wr HO.out HBW.out.size (by omega))
          clear HME
          go_wp2_with fail
          refine CSO.out.mono ?_
          rintro e wS ⟨rfl, m, hp, hs, hoS, hbS⟩
          have HP := Lib.hid hp
          have HS := Lib.hid hs
          have HOS := Lib.hid hoS
          have HBS := Lib.hid hbS
          have hme : m = mergeC a b := sorted_merge HRA.out HRB.out (HME1.out ▸ hp) hs
          have HM := Lib.hid hme
          clear hp hs hoS hbS hme
          go_wp2_with fail
          go_ret
          refine ⟨_, rfl, ?_, ?_⟩
          · rw [← HM.out]; exact HOS.out
          · exact HBW.out.trans HBS.out
end Go.Proofs.YtggpodlecljcbaaGreatDoor
