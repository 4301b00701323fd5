/- The walks of chapter 2: putting a file, the reference's way. -/
import Derived.Test.YtggpodlecljcbaaWalkG3
namespace Go.Proofs.Ytggpodlecljcbaa
set_option linter.unusedSimpArgs false
set_option linter.unusedVariables false
open Go.RowKit Go.Sort

/-- B2, putting: one step, and the steps. -/
def putStep (f : File) (p : List File × Bool) (g : File) : List File × Bool :=
  let q := if p.2 = false ∧ bLe f.name g.name = true then (p.1 ++ [f], true) else p
  if (g.name.toList == f.name.toList) = true then q else (q.1 ++ [g], q.2)
def putTo (l : List File) (f : File) (k : Nat) : List File × Bool := (l.take k).foldl (putStep f) ([], false)
theorem putTo_succ (l : List File) (f : File) (k : Nat) (h : k < l.length) : putTo l f (k + 1) = putStep f (putTo l f k) l[k] := by
  unfold putTo; rw [List.take_succ_eq_append_getElem h, List.foldl_append]; rfl
theorem putStep_len (f : File) (p : List File × Bool) (g : File) : (putStep f p g).1.length ≤ p.1.length + 2 := by
  unfold putStep
  dsimp only
  split <;> split <;> simp <;> omega
theorem putTo_len (l : List File) (f : File) : ∀ k, k ≤ l.length → (putTo l f k).1.length ≤ 2 * k
  | 0, _ => by simp [putTo]
  | k + 1, h => by
    have := putTo_len l f k (by omega)
    have := putStep_len f (putTo l f k) l[k]
    rw [putTo_succ l f k (by omega)]; omega
def putAll (l : List File) (f : File) : List File := if (putTo l f l.length).2 = false then (putTo l f l.length).1 ++ [f] else (putTo l f l.length).1
def putAt (l : List File) (f : File) : List File × Nat := if fileFault f ≠ 0 then ([], fileFault f) else if (getAt l f.name).isSome = false ∧ 8 ≤ l.length then ([], 7) else (putAll l f, 0)

set_option maxHeartbeats 2000000 in
theorem ref_PutFile (va : Value) (l : List File) (f : File) (w : World) (ha : Files w va l) (hf : f.ok) (hl : l.length ≤ 8) :
    Calls Try.prog 69 #[va, f.val] w (RetFiles (putAt l f) w) := by
  have CF := fun W => ref_FileFault f W hf
  have CG := fun W hb => ref_GetFile va l f.name W (Rd.below ha hb)
  obtain ⟨ao, ca, rfl, hca, hca'⟩ := ha.parts
  have HA := Lib.hid ha
  clear ha
  unfold RetFile fileOr File.val at CG
  unfold File.val at CF ⊢
  have B1 := below_alloc w (.cells #[.string f.name, .string f.text, .int .i64 f.times] 23)
  by_cases hff : fileFault f = 0
  · rw [hff] at CF
    replace CF := Lib.hid CF
    obtain ⟨W1, hW1⟩ : ∃ W1, W1 = w.alloc (.cells #[.string f.name, .string f.text, .int .i64 f.times] 23) := ⟨_, rfl⟩
    rw [← hW1] at B1
    have hz : W1.heap.size = w.heap.size + 1 := by rw [hW1]; simp
    have c0 : W1.cell? ⟨w.heap.size, 0, none⟩ = some (.string f.name) := by rw [hW1]; simp
    have c1 : W1.cell? ⟨w.heap.size, 1, none⟩ = some (.string f.text) := by rw [hW1]; simp
    have c2 : W1.cell? ⟨w.heap.size, 2, none⟩ = some (.int .i64 f.times) := by rw [hW1]; simp
    have CB : Hid (∀ W, Below W1.heap.size W1 W → W.cell? ⟨w.heap.size, 0, none⟩ = some (.string f.name) ∧ W.cell? ⟨w.heap.size, 1, none⟩ = some (.string f.text) ∧ W.cell? ⟨w.heap.size, 2, none⟩ = some (.int .i64 f.times)) := by
      refine Lib.hid fun W hb => ?_
      obtain ⟨hc, _⟩ := bcell hb
      exact ⟨(hc _ _ (by omega)).trans c0, (hc _ _ (by omega)).trans c1, (hc _ _ (by omega)).trans c2⟩
    have HW1 := Lib.hid hW1
    have HB1 := Lib.hid B1
    clear hW1 hz c0 c1 c2 B1
    have HS : Hid (((getAt l f.name).isSome = false ∧ 8 ≤ l.length) → putAt l f = ([], 7)) := Lib.hid fun h => by unfold putAt; rw [if_neg (by simp [hff]), if_pos h]
    have HT : Hid (¬ ((getAt l f.name).isSome = false ∧ 8 ≤ l.length) → putAt l f = (putAll l f, 0)) := Lib.hid fun h => by unfold putAt; rw [if_neg (by simp [hff]), if_neg h]
    clear hff
    obtain ⟨g, hg⟩ : ∃ g, g = (getAt l f.name).getD noFile := ⟨_, rfl⟩
    rw [← hg] at CG
    clear hg
    obtain ⟨s, hs⟩ : ∃ s, s = (getAt l f.name).isSome := ⟨_, rfl⟩
    rw [← hs] at CG HS HT
    clear hs
    replace CG := Lib.hid CG
    by_cases hfull : s = false ∧ 8 ≤ l.length
    · have HD := Lib.hid (HS.out hfull)
      obtain ⟨rfl, h8⟩ := hfull
      go_enter Try.func69, Try.ntmps69
      go_wp2_with fail
      rw [← HW1.out]
      refine (CF.out _).mono ?_
      rintro e w2 ⟨rfl, hb2⟩
      obtain ⟨d0, d1, d2⟩ := CB.out w2 hb2
      have HB2 := Lib.hid hb2
      clear hb2
      go_wp2_with fail
      refine (CG.out _ (two HB1.out HB2.out)).mono ?_
      rintro e w3 ⟨rfl, hb3⟩
      have HB3 := Lib.hid (two HB2.out hb3)
      clear hb3
      go_wp2_with fail
      have HB4 := Lib.hid (two HB1.out (two HB3.out (below_alloc w3 (.cells #[.string g.name, .string g.text, .int .i64 g.times] 23))))
      refine bodyPost_ret (v := .tuple #[.slice none 0 0, .int .i64 7]) (by simp [results, Try.results69, go_sem]) rfl ?_
      exact ⟨.slice none 0 0, by rw [HD.out]; rfl, by rw [HD.out]; exact Rd.nil _, HB4.out⟩
    · have HD := Lib.hid (HT.out hfull)
      have hcs : s = true ∨ (s = false ∧ l.length < 8) := by cases s <;> simp_all
      clear hfull
      rcases hcs with rfl | ⟨rfl, h8⟩
      all_goals
        go_enter Try.func69, Try.ntmps69
        go_wp2_with fail
        rw [← HW1.out]
        refine (CF.out _).mono ?_
        rintro e w2 ⟨rfl, hb2⟩
        obtain ⟨d0, d1, d2⟩ := CB.out w2 hb2
        have HB2 := Lib.hid hb2
        clear hb2
        go_wp2_with fail
        refine (CG.out _ (two HB1.out HB2.out)).mono ?_
        rintro e w3 ⟨rfl, hb3⟩
        have HB3 := Lib.hid (two HB2.out hb3)
        clear hb3 d0 d1 d2
        go_wp2_with fail
        obtain ⟨W2, hW2⟩ : ∃ W2, W2 = w3.alloc (.cells #[.string g.name, .string g.text, .int .i64 g.times] 23) := ⟨_, rfl⟩
        have BW2 := Lib.hid (show Below W1.heap.size W1 W2 by rw [hW2]; exact two HB3.out (below_alloc _ _))
        rw [← hW2]
        clear hW2 HB2 HB3
        go_loopw [9, 10, 11] (fun o dn i wr => ∃ k : Nat, k ≤ l.length ∧ dn = .bool (putTo l f k).2 ∧ i = .int .i64 k ∧ wr.ownsRow W2.heap.size 23 3 o (putTo l f k).1.length ((putTo l f k).1.flatMap File.cells) ∧ Below W2.heap.size W2 wr) (fun _ _ i _ => l.length - (intOf i).toNat)
        case atStart => exact ⟨0, Nat.zero_le _, rfl, rfl, World.ownsRow_nil _ _ _ _, Below.refl _ _⟩
        case round =>
          obtain ⟨k, hk, rfl, rfl, hown, hbw⟩ := hrel
          have hlen := putTo_len l f k hk
          obtain ⟨R, d, hR⟩ : ∃ R d, putTo l f k = (R, d) := ⟨_, _, rfl⟩
          rw [hR] at hown hlen ⊢
          dsimp only at hown hlen ⊢
          have HO0 := Lib.hid hown
          have HW0 := Lib.hid hbw
          clear hown hbw
          by_cases hlt : k < l.length
          · obtain ⟨ba, oa, rfl, hlb, x0, x1, x2⟩ := Files.cell (HA.out.below (two HB1.out BW2.out)) k hlt
            have XC : Hid (∀ W, Below W2.heap.size W2 W → W.cell? ⟨ba, oa + k * 3, none⟩ = some (.string l[k].name) ∧ W.cell? ⟨ba, oa + k * 3 + 1, none⟩ = some (.string l[k].text) ∧ W.cell? ⟨ba, oa + k * 3 + 2, none⟩ = some (.int .i64 l[k].times) ∧ W.cell? ⟨w.heap.size, 0, none⟩ = some (.string f.name) ∧ W.cell? ⟨w.heap.size, 1, none⟩ = some (.string f.text) ∧ W.cell? ⟨w.heap.size, 2, none⟩ = some (.int .i64 f.times)) := by
              refine Lib.hid fun W hb => ?_
              obtain ⟨hc, _⟩ := bcell hb
              obtain ⟨d0, d1, d2⟩ := CB.out W (two BW2.out hb)
              exact ⟨(hc _ _ hlb).trans x0, (hc _ _ hlb).trans x1, (hc _ _ hlb).trans x2, d0, d1, d2⟩
            clear x0 x1 x2 hlb
            cases d
            · cases hle : (Op.bytesLess f.name.toList l[k].name.toList || f.name.toList == l[k].name.toList)
              · have hb2 : bLe f.name l[k].name = false := hle
                obtain ⟨x0, x1, x2, d0, d1, d2⟩ := XC.out _ HW0.out
                have y0 := regrown_cell x0
                have z0 := regrown_cell d0
                clear x0 x1 x2 d0 d1 d2
                go_wp2_with fail
                refine wp_region_q (by kernel_rfl) (by kernel_rfl) ?_
                repeat (go_big_quiet_step (fail))
                refine wpQuiet_nil ?_
                intro w4 hb4
                have HW4 := Lib.hid (two HW0.out hb4)
                have HO4 := Lib.hid (HO0.out.kept (⟨hb4.os, hb4.tape, hb4.output, hb4.size, fun j hj _ => hb4.block j hj⟩ : World.grownBy _ _ none) (by cases h : Value.ownBlock _ <;> simp))
                clear hb4 y0 z0
                cases hn : (l[k].name.toList == f.name.toList)
                · have HK : Hid (putTo l f (k + 1) = (R ++ [l[k]], false)) := Lib.hid (by rw [putTo_succ l f k hlt, hR, putStep]; simp [hb2, hn])
                  clear hR
                  obtain ⟨x0, x1, x2, d0, d1, d2⟩ := XC.out _ HW4.out
                  have y0 := regrown_cell x0
                  have z0 := regrown_cell d0
                  clear x0 x1 x2 d0 d1 d2
                  go_wp2_with fail
                  refine wp_region_q (by kernel_rfl) (by kernel_rfl) ?_
                  repeat (go_big_quiet_step (fail))
                  refine wpQuiet_nil ?_
                  intro w5 hb5
                  have HW5 := Lib.hid (two HW4.out hb5)
                  have HO5 := Lib.hid (HO4.out.kept (⟨hb5.os, hb5.tape, hb5.output, hb5.size, fun j hj _ => hb5.block j hj⟩ : World.grownBy _ _ none) (by cases h : Value.ownBlock _ <;> simp))
                  clear hb5 y0 z0
                  obtain ⟨x0, x1, x2, d0, d1, d2⟩ := XC.out _ HW5.out
                  have hz6 := HW5.out.size
                  go_wp2_with (at_builtin; refine wpList_app I_files rfl _ _ rfl W2.heap.size _ _ _ rfl (HO5.out.alloc _) ⟨w5.heap.size, 0, none⟩ 1 1 [.string l[k].name, .string l[k].text, .int .i64 l[k].times] rfl rfl ?c1 ?c2 ?c3 ?c4 ?_)
                  case c1 => exact three_new
                  case c2 => exact file_one l[k]
                  case c3 => first | omega | (simp only [List.length_append, List.length_cons, List.length_nil]; omega)
                  case c4 => simp; omega
                  intro v6 w6 hown6 hg6
                  have HW6 := Lib.hid (grown_below (HW5.out.trans ((below_alloc w5 (.cells #[.string l[k].name, .string l[k].text, .int .i64 l[k].times] 23)).mono hz6)) (HO5.out.alloc _) hg6 (Nat.le_refl _))
                  have HO6 : Hid (w6.ownsRow W2.heap.size 23 3 v6 (R ++ [l[k]]).length ((R ++ [l[k]]).flatMap File.cells)) := Lib.hid (by first | (rw [flat_append, List.length_append]; exact hown6) | (simp only [List.flatMap_append, List.length_append, List.append_assoc, List.flatMap_cons, List.flatMap_nil, List.append_nil, List.length_cons, List.length_nil]; exact hown6))
                  clear hown6 hg6 x0 x1 x2 d0 d1 d2
                  go_wp2_with fail
                  go_roundw
                  case rel => exact ⟨k + 1, by omega, by rw [HK.out], by go_num, by rw [HK.out]; exact HO6.out, HW6.out⟩
                  case measure => simp [intOf]; omega
                · have HK : Hid (putTo l f (k + 1) = (R, false)) := Lib.hid (by rw [putTo_succ l f k hlt, hR, putStep]; simp [hb2, hn])
                  clear hR
                  obtain ⟨x0, x1, x2, d0, d1, d2⟩ := XC.out _ HW4.out
                  have y0 := regrown_cell x0
                  have z0 := regrown_cell d0
                  clear x0 x1 x2 d0 d1 d2
                  go_wp2_with fail
                  refine wp_region_q (by kernel_rfl) (by kernel_rfl) ?_
                  repeat (go_big_quiet_step (fail))
                  refine wpQuiet_nil ?_
                  intro w5 hb5
                  have HW5 := Lib.hid (two HW4.out hb5)
                  have HO5 := Lib.hid (HO4.out.kept (⟨hb5.os, hb5.tape, hb5.output, hb5.size, fun j hj _ => hb5.block j hj⟩ : World.grownBy _ _ none) (by cases h : Value.ownBlock _ <;> simp))
                  clear hb5 y0 z0
                  go_wp2_with fail
                  go_roundw
                  case rel => exact ⟨k + 1, by omega, by rw [HK.out], by go_num, by rw [HK.out]; exact HO5.out, HW5.out⟩
                  case measure => simp [intOf]; omega
              · have hb2 : bLe f.name l[k].name = true := hle
                obtain ⟨x0, x1, x2, d0, d1, d2⟩ := XC.out _ HW0.out
                have y0 := regrown_cell x0
                have z0 := regrown_cell d0
                clear x0 x1 x2 d0 d1 d2
                go_wp2_with fail
                refine wp_region_q (by kernel_rfl) (by kernel_rfl) ?_
                repeat (go_big_quiet_step (fail))
                refine wpQuiet_nil ?_
                intro w4 hb4
                have HW4 := Lib.hid (two HW0.out hb4)
                have HO4 := Lib.hid (HO0.out.kept (⟨hb4.os, hb4.tape, hb4.output, hb4.size, fun j hj _ => hb4.block j hj⟩ : World.grownBy _ _ none) (by cases h : Value.ownBlock _ <;> simp))
                clear hb4 y0 z0
                obtain ⟨x0, x1, x2, d0, d1, d2⟩ := XC.out _ HW4.out
                have hz5 := HW4.out.size
                go_wp2_with (at_builtin; refine wpList_app I_files rfl _ _ rfl W2.heap.size _ _ _ rfl (HO4.out.alloc _) ⟨w4.heap.size, 0, none⟩ 1 1 [.string f.name, .string f.text, .int .i64 f.times] rfl rfl ?c1 ?c2 ?c3 ?c4 ?_)
                case c1 => exact three_new
                case c2 => exact file_one f
                case c3 => first | omega | (simp only [List.length_append, List.length_cons, List.length_nil]; omega)
                case c4 => simp; omega
                intro v5 w5 hown5 hg5
                have HW5 := Lib.hid (grown_below (HW4.out.trans ((below_alloc w4 (.cells #[.string f.name, .string f.text, .int .i64 f.times] 23)).mono hz5)) (HO4.out.alloc _) hg5 (Nat.le_refl _))
                have HO5 : Hid (w5.ownsRow W2.heap.size 23 3 v5 (R ++ [f]).length ((R ++ [f]).flatMap File.cells)) := Lib.hid (by first | (rw [flat_append, List.length_append]; exact hown5) | (simp only [List.flatMap_append, List.length_append, List.append_assoc, List.flatMap_cons, List.flatMap_nil, List.append_nil, List.length_cons, List.length_nil]; exact hown5))
                clear hown5 hg5 x0 x1 x2 d0 d1 d2
                go_wp2_with fail
                cases hn : (l[k].name.toList == f.name.toList)
                · have HK : Hid (putTo l f (k + 1) = (R ++ [f] ++ [l[k]], true)) := Lib.hid (by rw [putTo_succ l f k hlt, hR, putStep]; simp [hb2, hn])
                  clear hR
                  obtain ⟨x0, x1, x2, d0, d1, d2⟩ := XC.out _ HW5.out
                  have y0 := regrown_cell x0
                  have z0 := regrown_cell d0
                  clear x0 x1 x2 d0 d1 d2
                  go_wp2_with fail
                  refine wp_region_q (by kernel_rfl) (by kernel_rfl) ?_
                  repeat (go_big_quiet_step (fail))
                  refine wpQuiet_nil ?_
                  intro w6 hb6
                  have HW6 := Lib.hid (two HW5.out hb6)
                  have HO6 := Lib.hid (HO5.out.kept (⟨hb6.os, hb6.tape, hb6.output, hb6.size, fun j hj _ => hb6.block j hj⟩ : World.grownBy _ _ none) (by cases h : Value.ownBlock _ <;> simp))
                  clear hb6 y0 z0
                  obtain ⟨x0, x1, x2, d0, d1, d2⟩ := XC.out _ HW6.out
                  have hz7 := HW6.out.size
                  go_wp2_with (at_builtin; refine wpList_app I_files rfl _ _ rfl W2.heap.size _ _ _ rfl (HO6.out.alloc _) ⟨w6.heap.size, 0, none⟩ 1 1 [.string l[k].name, .string l[k].text, .int .i64 l[k].times] rfl rfl ?c1 ?c2 ?c3 ?c4 ?_)
                  case c1 => exact three_new
                  case c2 => exact file_one l[k]
                  case c3 => first | omega | (simp only [List.length_append, List.length_cons, List.length_nil]; omega)
                  case c4 => simp; omega
                  intro v7 w7 hown7 hg7
                  have HW7 := Lib.hid (grown_below (HW6.out.trans ((below_alloc w6 (.cells #[.string l[k].name, .string l[k].text, .int .i64 l[k].times] 23)).mono hz7)) (HO6.out.alloc _) hg7 (Nat.le_refl _))
                  have HO7 : Hid (w7.ownsRow W2.heap.size 23 3 v7 (R ++ [f] ++ [l[k]]).length ((R ++ [f] ++ [l[k]]).flatMap File.cells)) := Lib.hid (by first | (rw [flat_append, List.length_append]; exact hown7) | (simp only [List.flatMap_append, List.length_append, List.append_assoc, List.flatMap_cons, List.flatMap_nil, List.append_nil, List.length_cons, List.length_nil]; exact hown7))
                  clear hown7 hg7 x0 x1 x2 d0 d1 d2
                  go_wp2_with fail
                  go_roundw
                  case rel => exact ⟨k + 1, by omega, by rw [HK.out], by go_num, by rw [HK.out]; exact HO7.out, HW7.out⟩
                  case measure => simp [intOf]; omega
                · have HK : Hid (putTo l f (k + 1) = (R ++ [f], true)) := Lib.hid (by rw [putTo_succ l f k hlt, hR, putStep]; simp [hb2, hn])
                  clear hR
                  obtain ⟨x0, x1, x2, d0, d1, d2⟩ := XC.out _ HW5.out
                  have y0 := regrown_cell x0
                  have z0 := regrown_cell d0
                  clear x0 x1 x2 d0 d1 d2
                  go_wp2_with fail
                  refine wp_region_q (by kernel_rfl) (by kernel_rfl) ?_
                  repeat (go_big_quiet_step (fail))
                  refine wpQuiet_nil ?_
                  intro w6 hb6
                  have HW6 := Lib.hid (two HW5.out hb6)
                  have HO6 := Lib.hid (HO5.out.kept (⟨hb6.os, hb6.tape, hb6.output, hb6.size, fun j hj _ => hb6.block j hj⟩ : World.grownBy _ _ none) (by cases h : Value.ownBlock _ <;> simp))
                  clear hb6 y0 z0
                  go_wp2_with fail
                  go_roundw
                  case rel => exact ⟨k + 1, by omega, by rw [HK.out], by go_num, by rw [HK.out]; exact HO6.out, HW6.out⟩
                  case measure => simp [intOf]; omega
            · have hb2 : (true = false ∧ bLe f.name l[k].name = true) = False := by simp
              obtain ⟨x0, x1, x2, d0, d1, d2⟩ := XC.out _ HW0.out
              have y0 := regrown_cell x0
              have z0 := regrown_cell d0
              clear x0 x1 x2 d0 d1 d2
              go_wp2_with fail
              refine wp_region_q (by kernel_rfl) (by kernel_rfl) ?_
              repeat (go_big_quiet_step (fail))
              refine wpQuiet_nil ?_
              intro w4 hb4
              have HW4 := Lib.hid (two HW0.out hb4)
              have HO4 := Lib.hid (HO0.out.kept (⟨hb4.os, hb4.tape, hb4.output, hb4.size, fun j hj _ => hb4.block j hj⟩ : World.grownBy _ _ none) (by cases h : Value.ownBlock _ <;> simp))
              clear hb4 y0 z0
              cases hn : (l[k].name.toList == f.name.toList)
              · have HK : Hid (putTo l f (k + 1) = (R ++ [l[k]], true)) := Lib.hid (by rw [putTo_succ l f k hlt, hR, putStep]; simp [hb2, hn])
                clear hR
                obtain ⟨x0, x1, x2, d0, d1, d2⟩ := XC.out _ HW4.out
                have y0 := regrown_cell x0
                have z0 := regrown_cell d0
                clear x0 x1 x2 d0 d1 d2
                go_wp2_with fail
                refine wp_region_q (by kernel_rfl) (by kernel_rfl) ?_
                repeat (go_big_quiet_step (fail))
                refine wpQuiet_nil ?_
                intro w5 hb5
                have HW5 := Lib.hid (two HW4.out hb5)
                have HO5 := Lib.hid (HO4.out.kept (⟨hb5.os, hb5.tape, hb5.output, hb5.size, fun j hj _ => hb5.block j hj⟩ : World.grownBy _ _ none) (by cases h : Value.ownBlock _ <;> simp))
                clear hb5 y0 z0
                obtain ⟨x0, x1, x2, d0, d1, d2⟩ := XC.out _ HW5.out
                have hz6 := HW5.out.size
                go_wp2_with (at_builtin; refine wpList_app I_files rfl _ _ rfl W2.heap.size _ _ _ rfl (HO5.out.alloc _) ⟨w5.heap.size, 0, none⟩ 1 1 [.string l[k].name, .string l[k].text, .int .i64 l[k].times] rfl rfl ?c1 ?c2 ?c3 ?c4 ?_)
                case c1 => exact three_new
                case c2 => exact file_one l[k]
                case c3 => first | omega | (simp only [List.length_append, List.length_cons, List.length_nil]; omega)
                case c4 => simp; omega
                intro v6 w6 hown6 hg6
                have HW6 := Lib.hid (grown_below (HW5.out.trans ((below_alloc w5 (.cells #[.string l[k].name, .string l[k].text, .int .i64 l[k].times] 23)).mono hz6)) (HO5.out.alloc _) hg6 (Nat.le_refl _))
                have HO6 : Hid (w6.ownsRow W2.heap.size 23 3 v6 (R ++ [l[k]]).length ((R ++ [l[k]]).flatMap File.cells)) := Lib.hid (by first | (rw [flat_append, List.length_append]; exact hown6) | (simp only [List.flatMap_append, List.length_append, List.append_assoc, List.flatMap_cons, List.flatMap_nil, List.append_nil, List.length_cons, List.length_nil]; exact hown6))
                clear hown6 hg6 x0 x1 x2 d0 d1 d2
                go_wp2_with fail
                go_roundw
                case rel => exact ⟨k + 1, by omega, by rw [HK.out], by go_num, by rw [HK.out]; exact HO6.out, HW6.out⟩
                case measure => simp [intOf]; omega
              · have HK : Hid (putTo l f (k + 1) = (R, true)) := Lib.hid (by rw [putTo_succ l f k hlt, hR, putStep]; simp [hb2, hn])
                clear hR
                obtain ⟨x0, x1, x2, d0, d1, d2⟩ := XC.out _ HW4.out
                have y0 := regrown_cell x0
                have z0 := regrown_cell d0
                clear x0 x1 x2 d0 d1 d2
                go_wp2_with fail
                refine wp_region_q (by kernel_rfl) (by kernel_rfl) ?_
                repeat (go_big_quiet_step (fail))
                refine wpQuiet_nil ?_
                intro w5 hb5
                have HW5 := Lib.hid (two HW4.out hb5)
                have HO5 := Lib.hid (HO4.out.kept (⟨hb5.os, hb5.tape, hb5.output, hb5.size, fun j hj _ => hb5.block j hj⟩ : World.grownBy _ _ none) (by cases h : Value.ownBlock _ <;> simp))
                clear hb5 y0 z0
                go_wp2_with fail
                go_roundw
                case rel => exact ⟨k + 1, by omega, by rw [HK.out], by go_num, by rw [HK.out]; exact HO5.out, HW5.out⟩
                case measure => simp [intOf]; omega
          · have hkl : k = l.length := by omega
            subst hkl
            cases d
            · have HE : Hid (putAll l f = R ++ [f]) := Lib.hid (by unfold putAll; rw [hR]; rfl)
              clear hR
              obtain ⟨d0, d1, d2⟩ := CB.out _ (two BW2.out HW0.out)
              have hz4 := HW0.out.size
              go_wp2_with (at_builtin; refine wpList_app I_files rfl _ _ rfl W2.heap.size _ _ _ rfl (HO0.out.alloc _) ⟨wr.heap.size, 0, none⟩ 1 1 [.string f.name, .string f.text, .int .i64 f.times] rfl rfl ?c1 ?c2 ?c3 ?c4 ?_)
              case c1 => exact three_new
              case c2 => exact file_one f
              case c3 => omega
              case c4 => simp; omega
              intro v4 w4 hown4 hg4
              have HW4 := Lib.hid (grown_below (HW0.out.trans ((below_alloc wr (.cells #[.string f.name, .string f.text, .int .i64 f.times] 23)).mono hz4)) (HO0.out.alloc _) hg4 (Nat.le_refl _))
              have HO4 : Hid (w4.ownsRow W2.heap.size 23 3 v4 (R ++ [f]).length ((R ++ [f]).flatMap File.cells)) := Lib.hid (by first | (rw [flat_append, List.length_append]; exact hown4) | (simp only [List.flatMap_append, List.length_append, List.append_assoc, List.flatMap_cons, List.flatMap_nil, List.append_nil, List.length_cons, List.length_nil]; exact hown4))
              clear hown4 hg4
              go_wp2_with fail
              refine bodyPost_ret (v := .tuple #[v4, .int .i64 0]) (by simp [results, Try.results69, go_sem]) rfl ?_
              exact ⟨v4, by rw [HD.out]; rfl, by rw [HD.out, HE.out]; exact SL.of_own HO4.out, two HB1.out (two BW2.out HW4.out)⟩
            · have HE : Hid (putAll l f = R) := Lib.hid (by unfold putAll; rw [hR]; rfl)
              clear hR
              go_wp2_with fail
              refine bodyPost_ret (v := .tuple #[u9, .int .i64 0]) (by simp [results, Try.results69, go_sem]) rfl ?_
              exact ⟨u9, by rw [HD.out]; rfl, by rw [HD.out, HE.out]; exact SL.of_own HO0.out, two HB1.out (two BW2.out HW0.out)⟩
  · have HD : Hid (putAt l f = ([], fileFault f)) := Lib.hid (by unfold putAt; rw [if_pos hff])
    have hpos : (0 : Int) < (fileFault f : Int) := by omega
    replace CF := Lib.hid CF
    have HB1 := Lib.hid B1
    clear hff B1
    go_enter Try.func69, Try.ntmps69
    go_wp2_with fail
    refine (CF.out _).mono ?_
    rintro e w2 ⟨rfl, hb2⟩
    have HB2 := Lib.hid (two HB1.out hb2)
    clear hb2
    go_wp2_with fail
    refine bodyPost_ret (v := .tuple #[.slice none 0 0, .int .i64 (fileFault f)]) (by simp [results, Try.results69, go_sem]) rfl ?_
    exact ⟨.slice none 0 0, by rw [HD.out], by rw [HD.out]; exact Rd.nil _, HB2.out⟩
end Go.Proofs.Ytggpodlecljcbaa
