/- The walk of the document's ChangesOf. -/
import Derived.Test.YtggpodlecljcbaaGreatDoorWalkI5
namespace Go.Proofs.YtggpodlecljcbaaGreatDoor
set_option linter.unusedSimpArgs false
set_option linter.unusedVariables false
open Go.RowKit Go.Sort
theorem m_gone1 (a b : List Change) (i k : Nat) (h : i < a.length) (hk : k = b.length) : mergeC (a.drop i) (b.drop k) = goneX a[i].key :: mergeC (a.drop (i + 1)) (b.drop k) := by
  rw [List.drop_eq_getElem_cons h, hk, List.drop_length, mergeC]
theorem m_gone2 (a b : List Change) (i k : Nat) (h : i < a.length) (hk : k < b.length) (hl : bLt a[i].key b[k].key = true) : mergeC (a.drop i) (b.drop k) = goneX a[i].key :: mergeC (a.drop (i + 1)) (b.drop k) := by
  rw [List.drop_eq_getElem_cons h, List.drop_eq_getElem_cons hk, mergeC, if_pos hl]
theorem m_new1 (a b : List Change) (i k : Nat) (h : i = a.length) (hk : k < b.length) : mergeC (a.drop i) (b.drop k) = b[k] :: mergeC (a.drop i) (b.drop (k + 1)) := by
  rw [h, List.drop_length, mergeC, mergeC, List.drop_eq_getElem_cons hk]
theorem m_new2 (a b : List Change) (i k : Nat) (h : i < a.length) (hk : k < b.length) (hl : bLt a[i].key b[k].key = false) (hl2 : bLt b[k].key a[i].key = true) : mergeC (a.drop i) (b.drop k) = b[k] :: mergeC (a.drop i) (b.drop (k + 1)) := by
  rw [List.drop_eq_getElem_cons h, List.drop_eq_getElem_cons hk, mergeC, if_neg (by rw [hl]; simp), if_pos hl2]
theorem m_same (a b : List Change) (i k : Nat) (h : i < a.length) (hk : k < b.length) (hl : bLt a[i].key b[k].key = false) (hl2 : bLt b[k].key a[i].key = false) (he : changeSame a[i].key a[i].val a[i].gone b[k].key b[k].val b[k].gone = true) : mergeC (a.drop i) (b.drop k) = mergeC (a.drop (i + 1)) (b.drop (k + 1)) := by
  have he2 : a[i] = b[k] := of_decide_eq_true he
  rw [List.drop_eq_getElem_cons h, List.drop_eq_getElem_cons hk, mergeC, if_neg (by rw [hl]; simp), if_neg (by rw [hl2]; simp), if_pos he2]
theorem m_diff (a b : List Change) (i k : Nat) (h : i < a.length) (hk : k < b.length) (hl : bLt a[i].key b[k].key = false) (hl2 : bLt b[k].key a[i].key = false) (he : changeSame a[i].key a[i].val a[i].gone b[k].key b[k].val b[k].gone = false) : mergeC (a.drop i) (b.drop k) = b[k] :: mergeC (a.drop (i + 1)) (b.drop (k + 1)) := by
  have he2 : a[i] ≠ b[k] := of_decide_eq_false he
  rw [List.drop_eq_getElem_cons h, List.drop_eq_getElem_cons hk, mergeC, if_neg (by rw [hl]; simp), if_neg (by rw [hl2]; simp), if_neg he2]
set_option maxRecDepth 100000 in
set_option maxHeartbeats 8000000 in
theorem ref_ChangesOf (va vb : Value) (a b : List Change) (w : World) (ha : Changes w va a) (hb : Changes w vb b) (hla : a.length ≤ 200) (hlb : b.length ≤ 200) :
    Calls Tryz.prog 16 #[va, vb] w fun e w' => ∃ v, e = .returned v ∧ w'.ownsRow w.heap.size 41 3 v (mergeC a b).length ((mergeC a b).flatMap Change.cells) ∧ Below w.heap.size w w' := by
  obtain ⟨ao, ac, rfl, hac, hac'⟩ := ha.parts
  obtain ⟨bo, bc, rfl, hbc, hbc'⟩ := hb.parts
  have HA := Lib.hid ha
  have HB := Lib.hid hb
  clear ha hb
  go_enter Tryz.func16, Tryz.ntmps16
  go_wp2_with fail
  go_loopw [5, 6, 7] (fun v iv kv wr => ∃ (i k : Nat) (O : List Change), i ≤ a.length ∧ k ≤ b.length ∧ O ++ mergeC (a.drop i) (b.drop k) = mergeC a b ∧ O.length ≤ i + k ∧ iv = .int .i64 i ∧ kv = .int .i64 k ∧ wr.ownsRow w.heap.size 41 3 v O.length (O.flatMap Change.cells) ∧ Below w.heap.size w wr) (fun _ iv kv _ => (a.length - (intOf iv).toNat) + (b.length - (intOf kv).toNat))
  case atStart => exact ⟨0, 0, [], Nat.zero_le _, Nat.zero_le _, rfl, Nat.le_refl _, rfl, rfl, World.ownsRow_nil _ _ _ _, Below.refl _ _⟩
  case round =>
    obtain ⟨i, k, O, hi, hk, hm, hol, rfl, rfl, ho, hbw⟩ := hrel
    obtain ⟨lo, lc, rfl, hlc, hlc'⟩ := own_sliceI ho
    have HO := Lib.hid ho
    have HBW := Lib.hid hbw
    have HM := Lib.hid hm
    clear ho hbw hm
    by_cases hia : i < a.length
    · have hia2 : decide (i < a.length) = true := decide_eq_true hia
      have hia3 : ((i : Int) == (a.length : Int)) = false := by simp; omega
      have hia4 : ¬ i = a.length := by omega
      by_cases hkb : k < b.length
      · have hkb2 : ((k : Int) == (b.length : Int)) = false := by simp; omega
        have hkb3 : ¬ k = b.length := by omega
        have hkb4 : decide (k = b.length) = false := decide_eq_false hkb3
        have hia5 : decide (i = a.length) = false := decide_eq_false hia4
        cases hl1 : bLt a[i].key b[k].key
        · cases hl2 : bLt b[k].key a[i].key
          · cases he : changeSame a[i].key a[i].val a[i].gone b[k].key b[k].val b[k].gone
            · have HN := Lib.hid (m_diff a b i k hia hkb hl1 hl2 he)
              obtain ⟨ab, aof, rfl, hlab, p0, p1, p2⟩ := Changes.cell HA.out i hia
              have HPA : Hid (∀ W, Below w.heap.size w W → W.cell? ⟨ab, aof + i * 3, none⟩ = some (.string a[i].key) ∧ W.cell? ⟨ab, aof + i * 3 + 1, none⟩ = some (.string a[i].val) ∧ W.cell? ⟨ab, aof + i * 3 + 2, none⟩ = some (.bool a[i].gone)) := Lib.hid fun W hb => ⟨cell_on' hb p0, cell_on' hb p1, cell_on' hb p2⟩
              clear p0 p1 p2
              obtain ⟨bb, bof, rfl, hlbb, p0, p1, p2⟩ := Changes.cell HB.out k hkb
              have HPB : Hid (∀ W, Below w.heap.size w W → W.cell? ⟨bb, bof + k * 3, none⟩ = some (.string b[k].key) ∧ W.cell? ⟨bb, bof + k * 3 + 1, none⟩ = some (.string b[k].val) ∧ W.cell? ⟨bb, bof + k * 3 + 2, none⟩ = some (.bool b[k].gone)) := Lib.hid fun W hb => ⟨cell_on' hb p0, cell_on' hb p1, cell_on' hb p2⟩
              clear p0 p1 p2
              obtain ⟨x, hx⟩ : ∃ x, x = a[i] := ⟨_, rfl⟩
              rw [← hx] at HPA hl1 hl2 he
              obtain ⟨y, hy⟩ : ∃ y, y = b[k] := ⟨_, rfl⟩
              rw [← hy] at HPB HN hl1 hl2 he
              have l1 : Op.bytesLess x.key.toList y.key.toList = false := hl1
              have l2 : Op.bytesLess y.key.toList x.key.toList = false := hl2
              clear hx hy hl1 hl2
              go_wp2_with fail
              obtain ⟨z0, z1, z2⟩ := HPA.out wr HBW.out
              replace z0 := regrown_cell z0
              replace z1 := regrown_cell z1
              replace z2 := regrown_cell z2
              obtain ⟨y0, y1, y2⟩ := HPB.out wr HBW.out
              replace y0 := regrown_cell y0
              replace y1 := regrown_cell y1
              replace y2 := regrown_cell y2
              refine wp_region_q (by kernel_rfl) (by kernel_rfl) ?_
              repeat (go_big_quiet_step (fail))
              refine wpQuiet_nil ?_
              intro w1 hb1
              have HB1 := Lib.hid (two HBW.out hb1)
              have HO1 := Lib.hid (own_belowI HO.out hb1)
              clear hb1
              clear z0 z1 z2 y0 y1 y2
              go_wp2_with fail
              obtain ⟨z0, z1, z2⟩ := HPA.out w1 HB1.out
              replace z0 := regrown_cell z0
              replace z1 := regrown_cell z1
              replace z2 := regrown_cell z2
              obtain ⟨y0, y1, y2⟩ := HPB.out w1 HB1.out
              replace y0 := regrown_cell y0
              replace y1 := regrown_cell y1
              replace y2 := regrown_cell y2
              refine wp_region_q (by kernel_rfl) (by kernel_rfl) ?_
              repeat (go_big_quiet_step (fail))
              refine wpQuiet_nil ?_
              intro w2 hb2
              have HB2 := Lib.hid (two HB1.out hb2)
              have HO2 := Lib.hid (own_belowI HO1.out hb2)
              clear hb2
              clear z0 z1 z2 y0 y1 y2
              go_wp2_with fail
              obtain ⟨z0, z1, z2⟩ := HPA.out w2 HB2.out
              replace z0 := regrown_cell z0
              replace z1 := regrown_cell z1
              replace z2 := regrown_cell z2
              obtain ⟨y0, y1, y2⟩ := HPB.out w2 HB2.out
              replace y0 := regrown_cell y0
              replace y1 := regrown_cell y1
              replace y2 := regrown_cell y2
              refine wp_region_q (by kernel_rfl) (by kernel_rfl) ?_
              repeat (go_big_quiet_step (fail))
              refine wpQuiet_nil ?_
              intro w3 hb3
              have HB3 := Lib.hid (two HB2.out hb3)
              have HO3 := Lib.hid (own_belowI HO2.out hb3)
              clear hb3
              clear z0 z1 z2 y0 y1 y2
              obtain ⟨y0, y1, y2⟩ := HPB.out w3 HB3.out
              go_wp2_with (at_builtin; refine wpList_app I_changes rfl _ _ rfl w.heap.size _ _ _ rfl (HO3.out.alloc _) ⟨w3.heap.size, 0, none⟩ 1 1 [.string y.key, .string y.val, .bool y.gone] rfl rfl ?c1 ?c2 ?c3 ?c4 ?_)
              case c1 => exact three_new
              case c2 => intro u hu; simp at hu; rcases hu with rfl | rfl | rfl <;> rfl
              case c3 => omega
              case c4 => have := HB3.out.size; simp; omega
              intro v9 w9 ho9 hg9
              have HO9 : Hid (w9.ownsRow w.heap.size 41 3 v9 (O ++ [y]).length ((O ++ [y]).flatMap Change.cells)) := Lib.hid (ownsC_snoc (c := y) ho9 rfl)
              have HB9 := Lib.hid (grown_below (two HB3.out (below_alloc w3 (.cells #[.string y.key, .string y.val, .bool y.gone] 41))) (HO3.out.alloc _) hg9 (Nat.le_refl _))
              clear ho9 hg9
              go_wp2_with fail
              go_roundw
              case rel => exact ⟨i + 1, k + 1, O ++ [y], by omega, by omega, by rw [← HM.out, HN.out, List.append_assoc]; rfl, by simp; omega, by go_num, by go_num, HO9.out, HB9.out⟩
              case measure => simp [intOf]; omega
            · have HN := Lib.hid (m_same a b i k hia hkb hl1 hl2 he)
              obtain ⟨ab, aof, rfl, hlab, p0, p1, p2⟩ := Changes.cell HA.out i hia
              have HPA : Hid (∀ W, Below w.heap.size w W → W.cell? ⟨ab, aof + i * 3, none⟩ = some (.string a[i].key) ∧ W.cell? ⟨ab, aof + i * 3 + 1, none⟩ = some (.string a[i].val) ∧ W.cell? ⟨ab, aof + i * 3 + 2, none⟩ = some (.bool a[i].gone)) := Lib.hid fun W hb => ⟨cell_on' hb p0, cell_on' hb p1, cell_on' hb p2⟩
              clear p0 p1 p2
              obtain ⟨bb, bof, rfl, hlbb, p0, p1, p2⟩ := Changes.cell HB.out k hkb
              have HPB : Hid (∀ W, Below w.heap.size w W → W.cell? ⟨bb, bof + k * 3, none⟩ = some (.string b[k].key) ∧ W.cell? ⟨bb, bof + k * 3 + 1, none⟩ = some (.string b[k].val) ∧ W.cell? ⟨bb, bof + k * 3 + 2, none⟩ = some (.bool b[k].gone)) := Lib.hid fun W hb => ⟨cell_on' hb p0, cell_on' hb p1, cell_on' hb p2⟩
              clear p0 p1 p2
              obtain ⟨x, hx⟩ : ∃ x, x = a[i] := ⟨_, rfl⟩
              rw [← hx] at HPA hl1 hl2 he
              obtain ⟨y, hy⟩ : ∃ y, y = b[k] := ⟨_, rfl⟩
              rw [← hy] at HPB hl1 hl2 he
              have l1 : Op.bytesLess x.key.toList y.key.toList = false := hl1
              have l2 : Op.bytesLess y.key.toList x.key.toList = false := hl2
              clear hx hy hl1 hl2
              go_wp2_with fail
              obtain ⟨z0, z1, z2⟩ := HPA.out wr HBW.out
              replace z0 := regrown_cell z0
              replace z1 := regrown_cell z1
              replace z2 := regrown_cell z2
              obtain ⟨y0, y1, y2⟩ := HPB.out wr HBW.out
              replace y0 := regrown_cell y0
              replace y1 := regrown_cell y1
              replace y2 := regrown_cell y2
              refine wp_region_q (by kernel_rfl) (by kernel_rfl) ?_
              repeat (go_big_quiet_step (fail))
              refine wpQuiet_nil ?_
              intro w1 hb1
              have HB1 := Lib.hid (two HBW.out hb1)
              have HO1 := Lib.hid (own_belowI HO.out hb1)
              clear hb1
              clear z0 z1 z2 y0 y1 y2
              go_wp2_with fail
              obtain ⟨z0, z1, z2⟩ := HPA.out w1 HB1.out
              replace z0 := regrown_cell z0
              replace z1 := regrown_cell z1
              replace z2 := regrown_cell z2
              obtain ⟨y0, y1, y2⟩ := HPB.out w1 HB1.out
              replace y0 := regrown_cell y0
              replace y1 := regrown_cell y1
              replace y2 := regrown_cell y2
              refine wp_region_q (by kernel_rfl) (by kernel_rfl) ?_
              repeat (go_big_quiet_step (fail))
              refine wpQuiet_nil ?_
              intro w2 hb2
              have HB2 := Lib.hid (two HB1.out hb2)
              have HO2 := Lib.hid (own_belowI HO1.out hb2)
              clear hb2
              clear z0 z1 z2 y0 y1 y2
              go_wp2_with fail
              obtain ⟨z0, z1, z2⟩ := HPA.out w2 HB2.out
              replace z0 := regrown_cell z0
              replace z1 := regrown_cell z1
              replace z2 := regrown_cell z2
              obtain ⟨y0, y1, y2⟩ := HPB.out w2 HB2.out
              replace y0 := regrown_cell y0
              replace y1 := regrown_cell y1
              replace y2 := regrown_cell y2
              refine wp_region_q (by kernel_rfl) (by kernel_rfl) ?_
              repeat (go_big_quiet_step (fail))
              refine wpQuiet_nil ?_
              intro w3 hb3
              have HB3 := Lib.hid (two HB2.out hb3)
              have HO3 := Lib.hid (own_belowI HO2.out hb3)
              clear hb3
              clear z0 z1 z2 y0 y1 y2
              go_wp2_with fail
              go_roundw
              case rel => exact ⟨i + 1, k + 1, O, by omega, by omega, by rw [← HM.out, HN.out], by omega, by go_num, by go_num, HO3.out, HB3.out⟩
              case measure => simp [intOf]; omega
          · have HN := Lib.hid (m_new2 a b i k hia hkb hl1 hl2)
            obtain ⟨ab, aof, rfl, hlab, p0, p1, p2⟩ := Changes.cell HA.out i hia
            have HPA : Hid (∀ W, Below w.heap.size w W → W.cell? ⟨ab, aof + i * 3, none⟩ = some (.string a[i].key) ∧ W.cell? ⟨ab, aof + i * 3 + 1, none⟩ = some (.string a[i].val) ∧ W.cell? ⟨ab, aof + i * 3 + 2, none⟩ = some (.bool a[i].gone)) := Lib.hid fun W hb => ⟨cell_on' hb p0, cell_on' hb p1, cell_on' hb p2⟩
            clear p0 p1 p2
            obtain ⟨bb, bof, rfl, hlbb, p0, p1, p2⟩ := Changes.cell HB.out k hkb
            have HPB : Hid (∀ W, Below w.heap.size w W → W.cell? ⟨bb, bof + k * 3, none⟩ = some (.string b[k].key) ∧ W.cell? ⟨bb, bof + k * 3 + 1, none⟩ = some (.string b[k].val) ∧ W.cell? ⟨bb, bof + k * 3 + 2, none⟩ = some (.bool b[k].gone)) := Lib.hid fun W hb => ⟨cell_on' hb p0, cell_on' hb p1, cell_on' hb p2⟩
            clear p0 p1 p2
            obtain ⟨x, hx⟩ : ∃ x, x = a[i] := ⟨_, rfl⟩
            rw [← hx] at HPA hl1 hl2
            obtain ⟨y, hy⟩ : ∃ y, y = b[k] := ⟨_, rfl⟩
            rw [← hy] at HPB HN hl1 hl2
            have l1 : Op.bytesLess x.key.toList y.key.toList = false := hl1
            have l2 : Op.bytesLess y.key.toList x.key.toList = true := hl2
            clear hx hy hl1 hl2
            go_wp2_with fail
            obtain ⟨z0, z1, z2⟩ := HPA.out wr HBW.out
            replace z0 := regrown_cell z0
            replace z1 := regrown_cell z1
            replace z2 := regrown_cell z2
            obtain ⟨y0, y1, y2⟩ := HPB.out wr HBW.out
            replace y0 := regrown_cell y0
            replace y1 := regrown_cell y1
            replace y2 := regrown_cell y2
            refine wp_region_q (by kernel_rfl) (by kernel_rfl) ?_
            repeat (go_big_quiet_step (fail))
            refine wpQuiet_nil ?_
            intro w1 hb1
            have HB1 := Lib.hid (two HBW.out hb1)
            have HO1 := Lib.hid (own_belowI HO.out hb1)
            clear hb1
            clear z0 z1 z2 y0 y1 y2
            go_wp2_with fail
            obtain ⟨z0, z1, z2⟩ := HPA.out w1 HB1.out
            replace z0 := regrown_cell z0
            replace z1 := regrown_cell z1
            replace z2 := regrown_cell z2
            obtain ⟨y0, y1, y2⟩ := HPB.out w1 HB1.out
            replace y0 := regrown_cell y0
            replace y1 := regrown_cell y1
            replace y2 := regrown_cell y2
            refine wp_region_q (by kernel_rfl) (by kernel_rfl) ?_
            repeat (go_big_quiet_step (fail))
            refine wpQuiet_nil ?_
            intro w2 hb2
            have HB2 := Lib.hid (two HB1.out hb2)
            have HO2 := Lib.hid (own_belowI HO1.out hb2)
            clear hb2
            clear z0 z1 z2 y0 y1 y2
            obtain ⟨y0, y1, y2⟩ := HPB.out w2 HB2.out
            go_wp2_with (at_builtin; refine wpList_app I_changes rfl _ _ rfl w.heap.size _ _ _ rfl (HO2.out.alloc _) ⟨w2.heap.size, 0, none⟩ 1 1 [.string y.key, .string y.val, .bool y.gone] rfl rfl ?c1 ?c2 ?c3 ?c4 ?_)
            case c1 => exact three_new
            case c2 => intro u hu; simp at hu; rcases hu with rfl | rfl | rfl <;> rfl
            case c3 => omega
            case c4 => have := HB2.out.size; simp; omega
            intro v9 w9 ho9 hg9
            have HO9 : Hid (w9.ownsRow w.heap.size 41 3 v9 (O ++ [y]).length ((O ++ [y]).flatMap Change.cells)) := Lib.hid (ownsC_snoc (c := y) ho9 rfl)
            have HB9 := Lib.hid (grown_below (two HB2.out (below_alloc w2 (.cells #[.string y.key, .string y.val, .bool y.gone] 41))) (HO2.out.alloc _) hg9 (Nat.le_refl _))
            clear ho9 hg9
            go_wp2_with fail
            go_roundw
            case rel => exact ⟨i, k + 1, O ++ [y], hi, by omega, by rw [← HM.out, HN.out, List.append_assoc]; rfl, by simp; omega, rfl, by go_num, HO9.out, HB9.out⟩
            case measure => simp [intOf]; omega
        · have HN := Lib.hid (m_gone2 a b i k hia hkb hl1)
          obtain ⟨ab, aof, rfl, hlab, p0, p1, p2⟩ := Changes.cell HA.out i hia
          have HPA : Hid (∀ W, Below w.heap.size w W → W.cell? ⟨ab, aof + i * 3, none⟩ = some (.string a[i].key) ∧ W.cell? ⟨ab, aof + i * 3 + 1, none⟩ = some (.string a[i].val) ∧ W.cell? ⟨ab, aof + i * 3 + 2, none⟩ = some (.bool a[i].gone)) := Lib.hid fun W hb => ⟨cell_on' hb p0, cell_on' hb p1, cell_on' hb p2⟩
          clear p0 p1 p2
          obtain ⟨bb, bof, rfl, hlbb, p0, p1, p2⟩ := Changes.cell HB.out k hkb
          have HPB : Hid (∀ W, Below w.heap.size w W → W.cell? ⟨bb, bof + k * 3, none⟩ = some (.string b[k].key) ∧ W.cell? ⟨bb, bof + k * 3 + 1, none⟩ = some (.string b[k].val) ∧ W.cell? ⟨bb, bof + k * 3 + 2, none⟩ = some (.bool b[k].gone)) := Lib.hid fun W hb => ⟨cell_on' hb p0, cell_on' hb p1, cell_on' hb p2⟩
          clear p0 p1 p2
          obtain ⟨x, hx⟩ : ∃ x, x = a[i] := ⟨_, rfl⟩
          rw [← hx] at HPA HN hl1
          obtain ⟨y, hy⟩ : ∃ y, y = b[k] := ⟨_, rfl⟩
          rw [← hy] at HPB hl1
          have l1 : Op.bytesLess x.key.toList y.key.toList = true := hl1
          clear hx hy hl1
          go_wp2_with fail
          obtain ⟨z0, z1, z2⟩ := HPA.out wr HBW.out
          replace z0 := regrown_cell z0
          replace z1 := regrown_cell z1
          replace z2 := regrown_cell z2
          obtain ⟨y0, y1, y2⟩ := HPB.out wr HBW.out
          replace y0 := regrown_cell y0
          replace y1 := regrown_cell y1
          replace y2 := regrown_cell y2
          refine wp_region_q (by kernel_rfl) (by kernel_rfl) ?_
          repeat (go_big_quiet_step (fail))
          refine wpQuiet_nil ?_
          intro w1 hb1
          have HB1 := Lib.hid (two HBW.out hb1)
          have HO1 := Lib.hid (own_belowI HO.out hb1)
          clear hb1
          clear z0 z1 z2 y0 y1 y2
          obtain ⟨z0, z1, z2⟩ := HPA.out w1 HB1.out
          go_wp2_with (at_builtin; refine wpList_app I_changes rfl _ _ rfl w.heap.size _ _ _ rfl (HO1.out.alloc _) ⟨w1.heap.size, 0, none⟩ 1 1 [.string x.key, .string ⟨#[]⟩, .bool true] rfl rfl ?c1 ?c2 ?c3 ?c4 ?_)
          case c1 => exact three_new
          case c2 => intro u hu; simp at hu; rcases hu with rfl | rfl | rfl <;> rfl
          case c3 => omega
          case c4 => have := HB1.out.size; simp; omega
          intro v9 w9 ho9 hg9
          have HO9 : Hid (w9.ownsRow w.heap.size 41 3 v9 (O ++ [goneX x.key]).length ((O ++ [goneX x.key]).flatMap Change.cells)) := Lib.hid (ownsC_snoc (c := goneX x.key) ho9 rfl)
          have HB9 := Lib.hid (grown_below (two HB1.out (below_alloc w1 (.cells #[.string x.key, .string ⟨#[]⟩, .bool true] 41))) (HO1.out.alloc _) hg9 (Nat.le_refl _))
          clear ho9 hg9
          go_wp2_with fail
          go_roundw
          case rel => exact ⟨i + 1, k, O ++ [goneX x.key], by omega, hk, by rw [← HM.out, HN.out, List.append_assoc]; rfl, by simp; omega, by go_num, rfl, HO9.out, HB9.out⟩
          case measure => simp [intOf]; omega
      · obtain rfl : k = b.length := by omega
        have HN := Lib.hid (m_gone1 a b i b.length hia rfl)
        obtain ⟨ab, aof, rfl, hlab, p0, p1, p2⟩ := Changes.cell HA.out i hia
        have HPA : Hid (∀ W, Below w.heap.size w W → W.cell? ⟨ab, aof + i * 3, none⟩ = some (.string a[i].key) ∧ W.cell? ⟨ab, aof + i * 3 + 1, none⟩ = some (.string a[i].val) ∧ W.cell? ⟨ab, aof + i * 3 + 2, none⟩ = some (.bool a[i].gone)) := Lib.hid fun W hb => ⟨cell_on' hb p0, cell_on' hb p1, cell_on' hb p2⟩
        clear p0 p1 p2
        obtain ⟨x, hx⟩ : ∃ x, x = a[i] := ⟨_, rfl⟩
        rw [← hx] at HPA HN
        clear hx
        go_wp2_with fail
        refine wp_region_q (by kernel_rfl) (by kernel_rfl) ?_
        repeat (go_big_quiet_step (fail))
        refine wpQuiet_nil ?_
        intro w1 hb1
        have HB1 := Lib.hid (two HBW.out hb1)
        have HO1 := Lib.hid (own_belowI HO.out hb1)
        clear hb1
        obtain ⟨z0, z1, z2⟩ := HPA.out w1 HB1.out
        go_wp2_with (at_builtin; refine wpList_app I_changes rfl _ _ rfl w.heap.size _ _ _ rfl (HO1.out.alloc _) ⟨w1.heap.size, 0, none⟩ 1 1 [.string x.key, .string ⟨#[]⟩, .bool true] rfl rfl ?c1 ?c2 ?c3 ?c4 ?_)
        case c1 => exact three_new
        case c2 => intro u hu; simp at hu; rcases hu with rfl | rfl | rfl <;> rfl
        case c3 => omega
        case c4 => have := HB1.out.size; simp; omega
        intro v9 w9 ho9 hg9
        have HO9 : Hid (w9.ownsRow w.heap.size 41 3 v9 (O ++ [goneX x.key]).length ((O ++ [goneX x.key]).flatMap Change.cells)) := Lib.hid (ownsC_snoc (c := goneX x.key) ho9 rfl)
        have HB9 := Lib.hid (grown_below (two HB1.out (below_alloc w1 (.cells #[.string x.key, .string ⟨#[]⟩, .bool true] 41))) (HO1.out.alloc _) hg9 (Nat.le_refl _))
        clear ho9 hg9
        go_wp2_with fail
        go_roundw
        case rel => exact ⟨i + 1, b.length, O ++ [goneX x.key], by omega, Nat.le_refl _, by rw [← HM.out, HN.out, List.append_assoc]; rfl, by simp; omega, by go_num, rfl, HO9.out, HB9.out⟩
        case measure => simp [intOf]; omega
    · obtain rfl : i = a.length := by omega
      by_cases hkb : k < b.length
      · have hkb2 : ((k : Int) == (b.length : Int)) = false := by simp; omega
        have hkb3 : ¬ k = b.length := by omega
        have hkb4 : decide (k = b.length) = false := decide_eq_false hkb3
        have HN := Lib.hid (m_new1 a b a.length k rfl hkb)
        obtain ⟨bb, bof, rfl, hlbb, p0, p1, p2⟩ := Changes.cell HB.out k hkb
        have HPB : Hid (∀ W, Below w.heap.size w W → W.cell? ⟨bb, bof + k * 3, none⟩ = some (.string b[k].key) ∧ W.cell? ⟨bb, bof + k * 3 + 1, none⟩ = some (.string b[k].val) ∧ W.cell? ⟨bb, bof + k * 3 + 2, none⟩ = some (.bool b[k].gone)) := Lib.hid fun W hb => ⟨cell_on' hb p0, cell_on' hb p1, cell_on' hb p2⟩
        clear p0 p1 p2
        obtain ⟨y, hy⟩ : ∃ y, y = b[k] := ⟨_, rfl⟩
        rw [← hy] at HPB HN
        clear hy
        go_wp2_with fail
        refine wp_region_q (by kernel_rfl) (by kernel_rfl) ?_
        repeat (go_big_quiet_step (fail))
        refine wpQuiet_nil ?_
        intro w1 hb1
        have HB1 := Lib.hid (two HBW.out hb1)
        have HO1 := Lib.hid (own_belowI HO.out hb1)
        clear hb1
        go_wp2_with fail
        refine wp_region_q (by kernel_rfl) (by kernel_rfl) ?_
        repeat (go_big_quiet_step (fail))
        refine wpQuiet_nil ?_
        intro w2 hb2
        have HB2 := Lib.hid (two HB1.out hb2)
        have HO2 := Lib.hid (own_belowI HO1.out hb2)
        clear hb2
        obtain ⟨y0, y1, y2⟩ := HPB.out w2 HB2.out
        go_wp2_with (at_builtin; refine wpList_app I_changes rfl _ _ rfl w.heap.size _ _ _ rfl (HO2.out.alloc _) ⟨w2.heap.size, 0, none⟩ 1 1 [.string y.key, .string y.val, .bool y.gone] rfl rfl ?c1 ?c2 ?c3 ?c4 ?_)
        case c1 => exact three_new
        case c2 => intro u hu; simp at hu; rcases hu with rfl | rfl | rfl <;> rfl
        case c3 => omega
        case c4 => have := HB2.out.size; simp; omega
        intro v9 w9 ho9 hg9
        have HO9 : Hid (w9.ownsRow w.heap.size 41 3 v9 (O ++ [y]).length ((O ++ [y]).flatMap Change.cells)) := Lib.hid (ownsC_snoc (c := y) ho9 rfl)
        have HB9 := Lib.hid (grown_below (two HB2.out (below_alloc w2 (.cells #[.string y.key, .string y.val, .bool y.gone] 41))) (HO2.out.alloc _) hg9 (Nat.le_refl _))
        clear ho9 hg9
        go_wp2_with fail
        go_roundw
        case rel => exact ⟨a.length, k + 1, O ++ [y], Nat.le_refl _, by omega, by rw [← HM.out, HN.out, List.append_assoc]; rfl, by simp; omega, rfl, by go_num, HO9.out, HB9.out⟩
        case measure => simp [intOf]; omega
      · obtain rfl : k = b.length := by omega
        have HE : Hid (O = mergeC a b) := Lib.hid (by
          have := HM.out
          rw [List.drop_length, List.drop_length, mergeC, List.append_nil] at this
          exact this)
        clear HM
        go_wp2_with fail
        go_ret
        refine ⟨_, rfl, ?_, HBW.out⟩
        rw [← HE.out]
        exact HO.out
end Go.Proofs.YtggpodlecljcbaaGreatDoor
