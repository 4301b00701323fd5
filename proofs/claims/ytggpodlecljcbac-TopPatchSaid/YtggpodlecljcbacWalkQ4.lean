/- The walks of chapter 3: swapping. -/
import Derived.Test.YtggpodlecljcbacWalkQ3
import Derived.Test.YtggpodlecljcbacSpecQ2
import Derived.RegionTactic
import Derived.ChangeAlike
import Derived.Deep.RegionHeld3
namespace Go.Proofs.Ytggpodlecljcbac
open Go.RowKit Go.Sort
set_option linter.unusedSimpArgs false
set_option linter.unusedVariables false
theorem own_setCell {w : World} {base e k g n cap : Nat} {xs : List Value} (ho : w.ownsRow base e k (.slice (some ⟨g, 0, none⟩) n cap) n xs) (j : Nat) (hj : j < xs.length) (u : Value) : (w.setCell ⟨g, j, none⟩ u).ownsRow base e k (.slice (some ⟨g, 0, none⟩) n cap) n (xs.set j u) := by
  obtain ⟨hl, h⟩ := ho
  refine ⟨by simpa using hl, ?_⟩
  rcases h with ⟨h, _⟩ | ⟨g', cap', cur, h, hb, hg, h1, h2, h3, h4⟩
  · cases h
  · simp only [Value.slice.injEq, Option.some.injEq, Addr.mk.injEq, and_true, true_and] at h
    obtain ⟨rfl, rfl⟩ := h
    refine Or.inr ⟨g, cap, cur.setIfInBounds j u, rfl, hb, ?_, h1, h2, by simpa using h3, ?_⟩
    · simp [World.setCell, Array.getElem?_modify, hg]
    · rw [← h4]
      have : j < n * k := by omega
      rw [Array.toList_setIfInBounds, List.take_set]
theorem flat_set : ∀ (l : List File) (k : Nat) (hk : k < l.length) (t : ByteArray) (n : Int), ((l.flatMap File.cells).set (k * 3 + 1) (.string t)).set (k * 3 + 2) (.int .i64 n) = (l.set k ⟨l[k].name, t, n⟩).flatMap File.cells
  | f :: r, 0, _, t, n => by simp [File.cells]
  | f :: r, k + 1, hk, t, n => by
    have ih := flat_set r k (by simpa using hk) t n
    simp only [List.flatMap_cons, List.set_cons_succ, List.getElem_cons_succ]
    rw [← ih, List.set_append_right _ _ (by rw [File.cells_len]; omega), List.set_append_right _ _ (by rw [File.cells_len]; omega), File.cells_len, show (k + 1) * 3 + 1 - 3 = k * 3 + 1 by omega, show (k + 1) * 3 + 2 - 3 = k * 3 + 2 by omega]
theorem own_text {w : World} {base g n cap : Nat} {l : List File} (ho : w.ownsRow base 41 3 (.slice (some ⟨g, 0, none⟩) n cap) n (l.flatMap File.cells)) (k : Nat) (hk : k < l.length) (t : ByteArray) (m : Int) :
    ((w.setCell ⟨g, k * 3 + 1, none⟩ (.string t)).setCell ⟨g, k * 3 + 2, none⟩ (.int .i64 m)).ownsRow base 41 3 (.slice (some ⟨g, 0, none⟩) n cap) n ((l.set k ⟨l[k].name, t, m⟩).flatMap File.cells) := by
  have hl : (l.flatMap File.cells).length = l.length * 3 := flat_length (k := 3) (enc := File.cells) (fun _ => rfl) _
  rw [← flat_set l k hk t m]
  exact own_setCell (own_setCell ho _ (by rw [hl]; omega) _) _ (by rw [List.length_set, hl]; omega) _
set_option maxRecDepth 100000 in
set_option maxHeartbeats 2000000 in
theorem quilt_Swap (qv : Value) (q : Quilt) (a b : ByteArray) (w : World) (hq : Quilts w qv q) (hg : Good q) :
    Calls Try.prog 34 #[qv, .string a, .string b] w (RetQE (swappedQ q a b) w) := by
  obtain ⟨v, rfl, hf⟩ := hq
  obtain ⟨W2, hW2⟩ : ∃ W2, W2 = qw w v q.turn := ⟨_, rfl⟩
  have BX := qw_box w v q.turn
  have HB2 := Lib.hid (qw_below w v q.turn)
  rw [← hW2] at BX HB2
  have HBX := Lib.hid BX
  have HF := Lib.hid hf
  obtain ⟨ao, ca, rfl, hca, hca'⟩ := hf.parts
  unfold qw at hW2
  have HW2 := Lib.hid hW2
  have HG := Lib.hid hg
  have CG := fun W hb => shelf_Get _ q.files a W (hf.below hb) hg.fine.len hg.fine.rises
  have CH := fun W hb => shelf_Get _ q.files b W (hf.below hb) hg.fine.len hg.fine.rises
  unfold RetFile File.val at CG CH
  have HSZ : Hid (W2.heap.size = w.heap.size + 2) := Lib.hid (by rw [HW2.out]; simp)
  clear BX hW2 hf hg
  obtain ⟨x, hx⟩ : ∃ x, x = fileOr (getAt q.files a) := ⟨_, rfl⟩
  obtain ⟨y, hy⟩ : ∃ y, y = fileOr (getAt q.files b) := ⟨_, rfl⟩
  rw [← hx] at CG
  rw [← hy] at CH
  cases hga : getAt q.files a with
  | none =>
    have HD : Hid (swappedQ q a b = (noQuilt, 5)) := Lib.hid (by unfold swappedQ; rw [hga])
    rw [hga, Option.isSome_none] at CG
    replace CG := Lib.hid CG
    obtain ⟨bb, hbb⟩ : ∃ bb, bb = (getAt q.files b).isSome := ⟨_, rfl⟩
    rw [← hbb] at CH
    replace CH := Lib.hid CH
    clear hga hx hy hbb
    go_enter Try.func34, Try.ntmps34
    go_wp2_with fail
    rw [← HW2.out]
    refine (CG.out _ HB2.out).mono ?_
    rintro e w3 ⟨rfl, hb3⟩
    have BF := Lib.hid (box_new w3 x)
    have FZ := Lib.hid (box_fz w3 x)
    have HS3 := Lib.hid hb3.size
    have HB3 := Lib.hid (two hb3 (below_alloc w3 (.cells #[.string x.name, .string x.text, .int .i64 x.times] 41)))
    obtain ⟨z0, z1, z2, z3, z4, z5, hns⟩ := HBX.out _ HB3.out
    clear hb3 hns
    go_wp2_with fail
    refine (CH.out _ (two HB2.out HB3.out)).mono ?_
    rintro e w4 ⟨rfl, hb4⟩
    have BG := Lib.hid (box_new w4 y)
    have GZ := Lib.hid (box_fz w4 y)
    have HC4 := Lib.hid (two hb4 (below_alloc w4 (.cells #[.string y.name, .string y.text, .int .i64 y.times] 41)))
    have HS4 : Hid (w3.heap.size < w4.heap.size) := Lib.hid (by have := hb4.size; simp at this; omega)
    have HB4 := Lib.hid (two HB3.out HC4.out)
    clear hb4 z0 z1 z2 z3 z4 z5
    obtain ⟨z0, z1, z2, z3, z4, z5, hns⟩ := HBX.out _ HB4.out
    obtain ⟨x0, x1, x2⟩ := BF.out _ HC4.out
    obtain ⟨y0, y1, y2⟩ := BG.out _ (Below.refl _ _)
    clear hns
    go_wp2_with fail
    refine bodyPost_ret (v := .tuple #[.agg #[.slice none 0 0, .int .i64 0], errV 5]) (by simp [errV, results, Try.results34, go_sem, z0, z1, z2, z3, z4, z5]) rfl ?_
    exact ⟨_, by rw [HD.out]; try rfl, by rw [HD.out]; exact ⟨_, rfl, Rd.nil _⟩, ((two HB2.out HB4.out).setCell (p := ⟨w.heap.size + 1, 0, none⟩) (by simp) (.slice none 0 0)).setCell (p := ⟨w.heap.size + 1, 1, none⟩) (by simp) (.int .i64 0)⟩
  | some x' =>
    rw [hga, Option.isSome_some] at CG
    replace CG := Lib.hid CG
    cases hgb : getAt q.files b with
    | none =>
      have HD : Hid (swappedQ q a b = (noQuilt, 5)) := Lib.hid (by unfold swappedQ; rw [hga, hgb])
      rw [hgb, Option.isSome_none] at CH
      replace CH := Lib.hid CH
      clear hga hgb hx hy
      go_enter Try.func34, Try.ntmps34
      go_wp2_with fail
      rw [← HW2.out]
      refine (CG.out _ HB2.out).mono ?_
      rintro e w3 ⟨rfl, hb3⟩
      have BF := Lib.hid (box_new w3 x)
      have FZ := Lib.hid (box_fz w3 x)
      have HS3 := Lib.hid hb3.size
      have HB3 := Lib.hid (two hb3 (below_alloc w3 (.cells #[.string x.name, .string x.text, .int .i64 x.times] 41)))
      obtain ⟨z0, z1, z2, z3, z4, z5, hns⟩ := HBX.out _ HB3.out
      clear hb3 hns
      go_wp2_with fail
      refine (CH.out _ (two HB2.out HB3.out)).mono ?_
      rintro e w4 ⟨rfl, hb4⟩
      have BG := Lib.hid (box_new w4 y)
      have GZ := Lib.hid (box_fz w4 y)
      have HC4 := Lib.hid (two hb4 (below_alloc w4 (.cells #[.string y.name, .string y.text, .int .i64 y.times] 41)))
      have HS4 : Hid (w3.heap.size < w4.heap.size) := Lib.hid (by have := hb4.size; simp at this; omega)
      have HB4 := Lib.hid (two HB3.out HC4.out)
      clear hb4 z0 z1 z2 z3 z4 z5
      obtain ⟨z0, z1, z2, z3, z4, z5, hns⟩ := HBX.out _ HB4.out
      obtain ⟨x0, x1, x2⟩ := BF.out _ HC4.out
      obtain ⟨y0, y1, y2⟩ := BG.out _ (Below.refl _ _)
      clear hns
      go_wp2_with fail
      refine bodyPost_ret (v := .tuple #[.agg #[.slice none 0 0, .int .i64 0], errV 5]) (by simp [errV, results, Try.results34, go_sem, z0, z1, z2, z3, z4, z5]) rfl ?_
      exact ⟨_, by rw [HD.out]; try rfl, by rw [HD.out]; exact ⟨_, rfl, Rd.nil _⟩, ((two HB2.out HB4.out).setCell (p := ⟨w.heap.size + 1, 0, none⟩) (by simp) (.slice none 0 0)).setCell (p := ⟨w.heap.size + 1, 1, none⟩) (by simp) (.int .i64 0)⟩
    | some y' =>
      rw [hgb, Option.isSome_some] at CH
      replace CH := Lib.hid CH
      obtain rfl : x = x' := by rw [hx, hga]; rfl
      obtain rfl : y = y' := by rw [hy, hgb]; rfl
      clear hx hy
      obtain ⟨mx, ex⟩ := HG.out.fine.mem hga
      obtain ⟨my, ey⟩ := HG.out.fine.mem hgb
      have fx := file_good (HG.out.fine.each x mx)
      have fy := file_good (HG.out.fine.each y my)
      have hxn : x.name.size ≤ maxLen := by have := name_good fx.1; rw [show x.name.data.toList.length = x.name.size from rfl] at this; unfold maxLen; omega
      have hyn : y.name.size ≤ maxLen := by have := name_good fy.1; rw [show y.name.data.toList.length = y.name.size from rfl] at this; unfold maxLen; omega
      have hxt : x.text.size ≤ maxLen := by have := fx.2.1; unfold maxLen; omega
      have hyt : y.text.size ≤ maxLen := by have := fy.2.1; unfold maxLen; omega
      have rx1 := fx.2.2.1
      have rx2 := fx.2.2.2
      have ry1 := fy.2.2.1
      have ry2 := fy.2.2.2
      clear ex my ey fx fy
      by_cases h9 : x.times = 9999 ∨ y.times = 9999
      · have HD : Hid (swappedQ q a b = (noQuilt, 7)) := Lib.hid (by unfold swappedQ; rw [hga, hgb]; dsimp only; rw [if_pos h9])
        clear hga hgb
        by_cases h9x : x.times = 9999
        · have hbx : (x.times == 9999) = true := by simpa using h9x
          clear h9 h9x
          go_enter Try.func34, Try.ntmps34
          go_wp2_with fail
          rw [← HW2.out]
          refine (CG.out _ HB2.out).mono ?_
          rintro e w3 ⟨rfl, hb3⟩
          have BF := Lib.hid (box_new w3 x)
          have FZ := Lib.hid (box_fz w3 x)
          have HS3 := Lib.hid hb3.size
          have HB3 := Lib.hid (two hb3 (below_alloc w3 (.cells #[.string x.name, .string x.text, .int .i64 x.times] 41)))
          obtain ⟨z0, z1, z2, z3, z4, z5, hns⟩ := HBX.out _ HB3.out
          clear hb3 hns
          go_wp2_with fail
          refine (CH.out _ (two HB2.out HB3.out)).mono ?_
          rintro e w4 ⟨rfl, hb4⟩
          have BG := Lib.hid (box_new w4 y)
          have GZ := Lib.hid (box_fz w4 y)
          have HC4 := Lib.hid (two hb4 (below_alloc w4 (.cells #[.string y.name, .string y.text, .int .i64 y.times] 41)))
          have HS4 : Hid (w3.heap.size < w4.heap.size) := Lib.hid (by have := hb4.size; simp at this; omega)
          have HB4 := Lib.hid (two HB3.out HC4.out)
          clear hb4 z0 z1 z2 z3 z4 z5
          obtain ⟨z0, z1, z2, z3, z4, z5, hns⟩ := HBX.out _ HB4.out
          obtain ⟨x0, x1, x2⟩ := BF.out _ HC4.out
          obtain ⟨y0, y1, y2⟩ := BG.out _ (Below.refl _ _)
          clear hns
          go_wp2_with fail
          refine bodyPost_ret (v := .tuple #[.agg #[.slice none 0 0, .int .i64 0], errV 7]) (by simp [errV, results, Try.results34, go_sem, z0, z1, z2, z3, z4, z5]) rfl ?_
          exact ⟨_, by rw [HD.out]; try rfl, by rw [HD.out]; exact ⟨_, rfl, Rd.nil _⟩, ((two HB2.out HB4.out).setCell (p := ⟨w.heap.size + 1, 0, none⟩) (by simp) (.slice none 0 0)).setCell (p := ⟨w.heap.size + 1, 1, none⟩) (by simp) (.int .i64 0)⟩
        · have hbx : (x.times == 9999) = false := by simpa using h9x
          have hby : (y.times == 9999) = true := by simp; omega
          clear h9 h9x
          go_enter Try.func34, Try.ntmps34
          go_wp2_with fail
          rw [← HW2.out]
          refine (CG.out _ HB2.out).mono ?_
          rintro e w3 ⟨rfl, hb3⟩
          have BF := Lib.hid (box_new w3 x)
          have FZ := Lib.hid (box_fz w3 x)
          have HS3 := Lib.hid hb3.size
          have HB3 := Lib.hid (two hb3 (below_alloc w3 (.cells #[.string x.name, .string x.text, .int .i64 x.times] 41)))
          obtain ⟨z0, z1, z2, z3, z4, z5, hns⟩ := HBX.out _ HB3.out
          clear hb3 hns
          go_wp2_with fail
          refine (CH.out _ (two HB2.out HB3.out)).mono ?_
          rintro e w4 ⟨rfl, hb4⟩
          have BG := Lib.hid (box_new w4 y)
          have GZ := Lib.hid (box_fz w4 y)
          have HC4 := Lib.hid (two hb4 (below_alloc w4 (.cells #[.string y.name, .string y.text, .int .i64 y.times] 41)))
          have HS4 : Hid (w3.heap.size < w4.heap.size) := Lib.hid (by have := hb4.size; simp at this; omega)
          have HB4 := Lib.hid (two HB3.out HC4.out)
          clear hb4 z0 z1 z2 z3 z4 z5
          obtain ⟨z0, z1, z2, z3, z4, z5, hns⟩ := HBX.out _ HB4.out
          obtain ⟨x0, x1, x2⟩ := BF.out _ HC4.out
          obtain ⟨y0, y1, y2⟩ := BG.out _ (Below.refl _ _)
          clear hns
          go_wp2_with fail
          refine bodyPost_ret (v := .tuple #[.agg #[.slice none 0 0, .int .i64 0], errV 7]) (by simp [errV, results, Try.results34, go_sem, z0, z1, z2, z3, z4, z5]) rfl ?_
          exact ⟨_, by rw [HD.out]; try rfl, by rw [HD.out]; exact ⟨_, rfl, Rd.nil _⟩, ((two HB2.out HB4.out).setCell (p := ⟨w.heap.size + 1, 0, none⟩) (by simp) (.slice none 0 0)).setCell (p := ⟨w.heap.size + 1, 1, none⟩) (by simp) (.int .i64 0)⟩
      · have hbx : (x.times == 9999) = false := by simp; omega
        have hby : (y.times == 9999) = false := by simp; omega
        cases hab : (a.toList == b.toList)
        · have HD : Hid (swappedQ q a b = nextQ q (q.files.map (swapF a b x y), 0)) := Lib.hid (by unfold swappedQ; rw [hga, hgb]; dsimp only; rw [if_neg h9, if_neg (by simp [hab])])
          have hxm : x.times + 1 ≤ 10000 := by omega
          have hym : y.times + 1 ≤ 10000 := by omega
          obtain ⟨l1, hp1, hl1, hp2⟩ := swap_puts HG.out.fine hga hgb hab h9
          have CP := fun W hb => shelf_Put _ q.files ⟨x.name, y.text, x.times + 1⟩ W (HF.out.below hb) ⟨hxn, hyt⟩ HG.out.fine.len HG.out.fine.rises
          have CR := fun lv W h => shelf_Put lv l1 ⟨y.name, x.text, y.times + 1⟩ W h ⟨hyn, hxt⟩ hl1.len hl1.rises
          rw [hp1] at CP
          rw [hp2] at CR
          unfold RetFilesE File.val at CP CR
          rw [show errV (((l1, 0) : List File × Nat).2) = Value.nilIface from rfl] at CP
          replace CP := Lib.hid CP
          replace CR := Lib.hid CR
          clear hp1 hp2 hl1
          have CN := Lib.hid fun W lv (hb : Below w.heap.size w W) h => quilt_next (.agg #[.slice ao q.files.length ca, .int .i64 q.turn]) q lv (q.files.map (swapF a b x y)) 0 W ⟨_, rfl, HF.out.below hb⟩ h HG.out.lo HG.out.hi
          unfold RetQE at CN
          clear hga hgb h9
          go_enter Try.func34, Try.ntmps34
          go_wp2_with fail
          rw [← HW2.out]
          refine (CG.out _ HB2.out).mono ?_
          rintro e w3 ⟨rfl, hb3⟩
          have BF := Lib.hid (box_new w3 x)
          have FZ := Lib.hid (box_fz w3 x)
          have HS3 := Lib.hid hb3.size
          have HB3 := Lib.hid (two hb3 (below_alloc w3 (.cells #[.string x.name, .string x.text, .int .i64 x.times] 41)))
          obtain ⟨z0, z1, z2, z3, z4, z5, hns⟩ := HBX.out _ HB3.out
          clear hb3 hns
          go_wp2_with fail
          refine (CH.out _ (two HB2.out HB3.out)).mono ?_
          rintro e w4 ⟨rfl, hb4⟩
          have BG := Lib.hid (box_new w4 y)
          have GZ := Lib.hid (box_fz w4 y)
          have HC4 := Lib.hid (two hb4 (below_alloc w4 (.cells #[.string y.name, .string y.text, .int .i64 y.times] 41)))
          have HS4 : Hid (w3.heap.size < w4.heap.size) := Lib.hid (by have := hb4.size; simp at this; omega)
          have HB4 := Lib.hid (two HB3.out HC4.out)
          clear hb4 z0 z1 z2 z3 z4 z5
          obtain ⟨z0, z1, z2, z3, z4, z5, hns⟩ := HBX.out _ HB4.out
          obtain ⟨x0, x1, x2⟩ := BF.out _ HC4.out
          obtain ⟨y0, y1, y2⟩ := BG.out _ (Below.refl _ _)
          clear hns
          have u0 := FZ.out _ HC4.out 1
          have u1 := FZ.out _ HC4.out 2
          have u2 := GZ.out _ (Below.refl _ _) 1
          have u3 := GZ.out _ (Below.refl _ _) 2
          have hne := Nat.ne_of_lt HS4.out
          go_wp2_with fail
          go_region
          go_wp2_with fail
          obtain ⟨W5, hW5⟩ : ∃ W5, W5 = (((((w4.alloc (.cells #[.string y.name, .string y.text, .int .i64 y.times] 41)).setCell ⟨w3.heap.size, 1, none⟩ (.string y.text)).setCell ⟨w4.heap.size, 1, none⟩ (.string x.text)).setCell ⟨w3.heap.size, 2, none⟩ (.int .i64 (x.times + 1))).setCell ⟨w4.heap.size, 2, none⟩ (.int .i64 (y.times + 1))).drew := ⟨_, rfl⟩
          rw [← hW5]
          have hs34 := Nat.le_trans HS3.out (Nat.le_of_lt HS4.out)
          have HB5 := Lib.hid (show Below W2.heap.size W2 W5 by rw [hW5]; exact ((((HB4.out.setCell (p := ⟨w3.heap.size, 1, none⟩) HS3.out _).setCell (p := ⟨w4.heap.size, 1, none⟩) hs34 _).setCell (p := ⟨w3.heap.size, 2, none⟩) HS3.out _).setCell (p := ⟨w4.heap.size, 2, none⟩) hs34 _).drew)
          have HE5 : Hid (W5.heap.size = w4.heap.size + 1) := Lib.hid (by rw [hW5]; simp [World.drew, World.setCell])
          have hne' : ¬ w4.heap.size = w3.heap.size := fun h => hne h.symm
          have k0 : W5.cell? ⟨w4.heap.size, 0, none⟩ = some (.string y.name) := by rw [hW5]; simp [go_sem, y0, y1, y2, hne, hne']
          have k1 : W5.cell? ⟨w4.heap.size, 1, none⟩ = some (.string x.text) := by rw [hW5]; simp [go_sem, y0, y1, y2, hne, hne']
          have k2 : W5.cell? ⟨w4.heap.size, 2, none⟩ = some (.int .i64 (y.times + 1)) := by rw [hW5]; simp [go_sem, y0, y1, y2, hne, hne']
          have BY5 : Hid (BoxF w4.heap.size ⟨y.name, x.text, y.times + 1⟩ W5) := Lib.hid (box_of (by rw [HE5.out]; omega) k0 k1 k2)
          clear hW5 hs34 hne' k0 k1 k2 x0 x1 x2 y0 y1 y2 u0 u1 u2 u3 hne z0 z1 z2 z3 z4 z5
          refine (CP.out _ (two HB2.out HB5.out)).mono ?_
          rintro e w6 ⟨lv1, rfl, hl1, hb6⟩
          have HL1 := Lib.hid hl1
          have HB6 := Lib.hid (two HB5.out hb6)
          obtain ⟨y0, y1, y2⟩ := BY5.out _ hb6
          clear hl1 hb6
          go_wp2_with fail
          refine (CR.out _ _ HL1.out).mono ?_
          rintro e w7 ⟨lv2, rfl, hl2, hb7⟩
          have HL := Lib.hid hl2
          have HB7 := Lib.hid (two HB6.out hb7)
          clear hl2 hb7 y0 y1 y2
          obtain ⟨z0, z1, z2, z3, z4, z5, hns⟩ := HBX.out _ HB7.out
          clear hns
          go_wp2_with fail
          refine (CN.out _ _ (two HB2.out HB7.out) HL.out).mono ?_
          rintro e w8 ⟨qv', rfl, ⟨v', rfl, hf'⟩, hb8⟩
          obtain ⟨ao', ca', rfl, _, _⟩ := hf'.parts
          have HF' := Lib.hid hf'
          have HB8 := Lib.hid (two HB7.out hb8)
          clear hf' hb8 z0 z1 z2 z3 z4 z5
          obtain ⟨z0, z1, z2, z3, z4, z5, hns⟩ := HBX.out _ HB8.out
          have HNS := Lib.hid hns
          clear hns
          go_wp2_with fail
          have HBF := ((two HB2.out HB8.out).setCell (p := ⟨w.heap.size + 1, 0, none⟩) (by simp) (.slice ao' (nextQ q (q.files.map (swapF a b x y), 0)).1.files.length ca')).setCell (p := ⟨w.heap.size + 1, 1, none⟩) (by simp) (.int .i64 (nextQ q (q.files.map (swapF a b x y), 0)).1.turn)
          refine bodyPost_ret (v := .tuple #[.agg #[.slice ao' (nextQ q (q.files.map (swapF a b x y), 0)).1.files.length ca', .int .i64 (nextQ q (q.files.map (swapF a b x y), 0)).1.turn], errV (nextQ q (q.files.map (swapF a b x y), 0)).2]) (by simp [results, Try.results34, go_sem, z0, z1, z2, z3, z4, z5]) rfl ?_
          exact ⟨_, by rw [HD.out], by rw [HD.out]; exact quilt_laid HF'.out HNS.out (files_not_str HF'.out), HBF⟩
        · have HD : Hid (swappedQ q a b = nextQ q (q.files, 0)) := Lib.hid (by unfold swappedQ; rw [hga, hgb]; dsimp only; rw [if_neg h9, if_pos hab])
          clear hga hgb h9
          obtain ⟨p, hp⟩ : ∃ p : List File × Nat, p = (q.files, 0) := ⟨_, rfl⟩
          rw [← hp] at HD
          have CN := Lib.hid fun W lv (hb : Below w.heap.size w W) h => quilt_next (.agg #[.slice ao q.files.length ca, .int .i64 q.turn]) q lv p.1 p.2 W ⟨_, rfl, HF.out.below hb⟩ h HG.out.lo HG.out.hi
          unfold RetQE at CN
          have CC := Lib.hid fun W hb => files_Clone _ q.files W (HF.out.below hb) HG.out.fine.len
          have hp1 : p.1 = q.files := by rw [hp]
          have hp2 : p.2 = 0 := by rw [hp]
          rw [hp1, hp2] at CN
          rw [show (q.files, 0) = p from hp.symm, errV_zero] at CN
          replace CN := CN
          have HSK : Hid (∀ W, Below W2.heap.size W2 W → W.cell? ⟨w.heap.size, 0, none⟩ = some (.slice ao q.files.length ca) ∧ W.cell? ⟨w.heap.size, 1, none⟩ = some (.int .i64 q.turn) ∧ W.cell? ⟨w.heap.size + 1, 0, none⟩ = some (.slice none 0 0) ∧ W.cell? ⟨w.heap.size + 1, 1, none⟩ = some (.int .i64 0) ∧ W.frozen? ⟨w.heap.size + 1, 0, none⟩ = false ∧ W.frozen? ⟨w.heap.size + 1, 1, none⟩ = false) := Lib.hid fun W hb => by
            obtain ⟨z0, z1, z2, z3, z4, z5, _⟩ := HBX.out W hb
            exact ⟨z0, z1, z2, z3, z4, z5⟩
          clear hp hp1 hp2
          go_enter Try.func34, Try.ntmps34
          go_wp2_with fail
          rw [← HW2.out]
          refine (CG.out _ HB2.out).mono ?_
          rintro e w3 ⟨rfl, hb3⟩
          have BF := Lib.hid (box_new w3 x)
          have FZ := Lib.hid (box_fz w3 x)
          have HS3 := Lib.hid hb3.size
          have HB3 := Lib.hid (two hb3 (below_alloc w3 (.cells #[.string x.name, .string x.text, .int .i64 x.times] 41)))
          obtain ⟨z0, z1, z2, z3, z4, z5, hns⟩ := HBX.out _ HB3.out
          clear hb3 hns
          go_wp2_with fail
          refine (CH.out _ (two HB2.out HB3.out)).mono ?_
          rintro e w4 ⟨rfl, hb4⟩
          have BG := Lib.hid (box_new w4 y)
          have GZ := Lib.hid (box_fz w4 y)
          have HC4 := Lib.hid (two hb4 (below_alloc w4 (.cells #[.string y.name, .string y.text, .int .i64 y.times] 41)))
          have HS4 : Hid (w3.heap.size < w4.heap.size) := Lib.hid (by have := hb4.size; simp at this; omega)
          have HB4 := Lib.hid (two HB3.out HC4.out)
          clear hb4 z0 z1 z2 z3 z4 z5
          obtain ⟨z0, z1, z2, z3, z4, z5, hns⟩ := HBX.out _ HB4.out
          obtain ⟨x0, x1, x2⟩ := BF.out _ HC4.out
          obtain ⟨y0, y1, y2⟩ := BG.out _ (Below.refl _ _)
          clear hns
          have hgo : True := trivial
          go_wp2_with fail
          clear x0 x1 x2 y0 y1 y2
          have ED := Lib.hid HB4.out.drew
          clear BF FZ BG GZ HC4 HB3 CG CH
          go_region_held3 (fun W => W.cell? ⟨w.heap.size, 0, none⟩ = some (.slice ao q.files.length ca) ∧ W.cell? ⟨w.heap.size, 1, none⟩ = some (.int .i64 q.turn))
            (first
              | exact ⟨(HSK.out _ ED.out).1, (HSK.out _ ED.out).2.1⟩
              | exact ⟨(HSK.out _ (HE1 : Hid _).out).1, (HSK.out _ (HE1 : Hid _).out).2.1⟩
              | (have h := HSK.out _ (HE1 : Hid _).out; simp [go_sem, h.1, h.2.1]))
            (first
              | (go_at_call 58; refine (CC.out _ (two HB2.out ED.out)).mono ?_; rintro e wA ⟨va, rfl, hoa, hba⟩; have HE1 := Lib.hid (two ED.out hba); have HVA := Lib.hid (SL.of_own hoa : Files wA va q.files); clear hoa hba)
              | (go_at_call 61; refine (CN.out _ _ (two HB2.out HE1.out) HVA.out).mono ?_; rintro e wB ⟨qv', rfl, ⟨v', rfl, hf'⟩, hbb⟩; obtain ⟨ao', ca', rfl, _, _⟩ := hf'.parts; have HF' := Lib.hid hf'; have HE0 := HE1; clear HE1; have HE1 := Lib.hid (two HE0.out hbb); clear HE0 hf' hbb z0 z1 z2 z3 z4 z5; obtain ⟨z0, z1, z2, z3, z4, z5⟩ := HSK.out _ HE1.out))
          all_goals
            have HNS := Lib.hid ((HBX.out _ HE1.out).2.2.2.2.2.2)
            go_wp2_with fail
            have HBF := ((two HB2.out HE1.out).setCell (p := ⟨w.heap.size + 1, 0, none⟩) (by simp) (.slice ao' (nextQ q p).1.files.length ca')).setCell (p := ⟨w.heap.size + 1, 1, none⟩) (by simp) (.int .i64 (nextQ q p).1.turn)
            refine bodyPost_ret (v := .tuple #[.agg #[.slice ao' (nextQ q p).1.files.length ca', .int .i64 (nextQ q p).1.turn], errV (nextQ q p).2]) (by simp [results, Try.results34, go_sem, z0, z1, z2, z3, z4, z5]) rfl ?_
            exact ⟨_, by rw [HD.out], by rw [HD.out]; exact quilt_laid HF'.out HNS.out (files_not_str HF'.out), HBF⟩

end Go.Proofs.Ytggpodlecljcbac
