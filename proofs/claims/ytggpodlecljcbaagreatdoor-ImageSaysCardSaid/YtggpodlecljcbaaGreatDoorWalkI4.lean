/- The walks of image.Changes: the search, the sort. -/
import Derived.Test.YtggpodlecljcbaaGreatDoorWalkI2
import Derived.Test.YtggpodlecljcbaaGreatDoorSpecI3
import Derived.Test.YtggpodlecljcbaaGreatDoorShelfCmp
import Derived.Lib.SortBridge
namespace Go.Proofs.YtggpodlecljcbaaGreatDoor
set_option linter.unusedSimpArgs false
set_option linter.unusedVariables false
open Go.RowKit Go.Sort
theorem findI_cmp (f : Change) (name : ByteArray) (w : World) :
    Calls Tryz.prog 26 #[.agg #[.string f.key, .string f.val, .bool f.gone], .string name] w fun e w' => e = .returned (.int .i64 (cmpB f.key name)) ∧ Below w.heap.size w w' := by
  have C := fun W => Tryz.strings_Compare f.key name W
  have B1 := below_alloc w (.cells #[.string f.key, .string f.val, .bool f.gone] 41)
  have HB1 := Lib.hid B1
  clear B1
  go_enter Tryz.func26, Tryz.ntmps26
  go_wp2_with fail
  refine (C _).mono ?_
  rintro e w2 ⟨rfl, hb2⟩
  go_wp2_with fail
  go_ret
  exact ⟨rfl, HB1.out⟩
set_option maxHeartbeats 1000000 in
theorem changes_searchI (va : Value) (l : List Change) (name : ByteArray) (w : World) (ha : Changes w va l) (hl : l.length ≤ 1000) (hr : RisesX l) :
    Calls Tryz.prog 28 #[va, .string name, .func (.func 26) #[] #[]] w (RetFindX l name w) := by
  obtain ⟨ao, ca, rfl, hca, hca'⟩ := ha.parts
  have HA := Lib.hid ha
  have HR := Lib.hid hr
  clear ha hr
  go_enter Tryz.func28, Tryz.ntmps28
  go_wp2_with fail
  go_loopw [9, 10] (fun x y wr => ∃ i j : Nat, i ≤ j ∧ j ≤ l.length ∧ x = .int .i64 i ∧ y = .int .i64 j ∧ (∀ t, (ht : t < l.length) → t < i → bLt l[t].key name = true) ∧ (∀ t, (ht : t < l.length) → j ≤ t → bLt l[t].key name = false) ∧ Below w.heap.size w wr) (fun x y _ => (intOf y).toNat - (intOf x).toNat)
  case atStart => exact ⟨0, l.length, Nat.zero_le _, Nat.le_refl _, rfl, rfl, fun t _ h => absurd h (by omega), fun t h1 h2 => absurd h1 (by omega), Below.refl _ _⟩
  case round =>
    obtain ⟨i, j, hij, hj, rfl, rfl, h1, h2, hbw⟩ := hrel
    have H1 := Lib.hid h1
    have H2 := Lib.hid h2
    clear h1 h2
    by_cases hlt : i < j
    · have hmj : (i + j) / 2 < j := by omega
      have him : i ≤ (i + j) / 2 := by omega
      obtain ⟨ba, oa, rfl, hlb, x0, x1, x2⟩ := Changes.cell (HA.out.below hbw) ((i + j) / 2) (by omega)
      have C := Lib.hid fun W => findI_cmp (l[(i + j) / 2]'(by omega)) name W
      have HW := Lib.hid hbw
      clear hbw
      by_cases hc : cmpB (l[(i + j) / 2]'(by omega)).key name < 0
      · have HL := Lib.hid ((cmpB_lt _ _).mp hc)
        go_wp2_with fail
        refine (C.out _).mono ?_
        rintro e w2 ⟨rfl, hb2⟩
        have HB2 := Lib.hid (two HW.out hb2)
        clear hb2 x0 x1 x2
        go_wp2_with fail
        go_roundw
        case rel => exact ⟨(i + j) / 2 + 1, j, by omega, hj, by congr 1, rfl, fun t ht hti => HR.out.mono name t ((i + j) / 2) (by omega) (by omega) HL.out, H2.out, HB2.out⟩
        case measure => simp [intOf]; omega
      · have HL : Hid (bLt (l[(i + j) / 2]'(by omega)).key name = false) := by
          refine Lib.hid ?_
          rw [← Bool.not_eq_true, ← cmpB_lt]; exact hc
        go_wp2_with fail
        refine (C.out _).mono ?_
        rintro e w2 ⟨rfl, hb2⟩
        have HB2 := Lib.hid (two HW.out hb2)
        clear hb2 x0 x1 x2
        go_wp2_with fail
        go_roundw
        case rel =>
          refine ⟨i, (i + j) / 2, by omega, by omega, rfl, by congr 1, H1.out, ?_, HB2.out⟩
          intro t ht hti
          cases hb : bLt l[t].key name
          · rfl
          · have := HR.out.mono name ((i + j) / 2) t hti ht hb
            rw [HL.out] at this; cases this
        case measure => simp [intOf]; omega
    · have hij2 : i = j := by omega
      subst hij2
      have HK := Lib.hid (rank_ofX name l i (by omega) H1.out H2.out)
      by_cases hil : i < l.length
      · obtain ⟨ba, oa, rfl, hlb, x0, x1, x2⟩ := Changes.cell (HA.out.below hbw) i hil
        have C := Lib.hid fun W => findI_cmp l[i] name W
        have HW := Lib.hid hbw
        clear hbw
        go_wp2_with fail
        refine (C.out _).mono ?_
        rintro e w2 ⟨rfl, hb2⟩
        have HB2 := Lib.hid (two HW.out hb2)
        clear hb2 x0 x1 x2
        go_wp2_with fail
        refine bodyPost_ret (v := .tuple #[.int .i64 i, .bool (cmpB l[i].key name == 0)]) (by simp [results, Tryz.results28, go_sem]) rfl ?_
        refine ⟨?_, HB2.out⟩
        have e2 : isAtX l name (rankX l name) = (cmpB l[i].key name == 0) := by
          rw [HK.out, isAt_ltX l name i hil]
          have := cmpB_eq l[i].key name
          cases h1 : (l[i].key.toList == name.toList) <;> cases h2 : (cmpB l[i].key name == 0) <;> simp_all
        rw [e2, HK.out]
      · have HW := Lib.hid hbw
        clear hbw
        go_wp2_with fail
        refine bodyPost_ret (v := .tuple #[.int .i64 i, .bool false]) (by simp [results, Tryz.results28, go_sem]) rfl ?_
        refine ⟨?_, HW.out⟩
        rw [HK.out, isAt_geX l name i hil]

instance : Inhabited Change := ⟨⟨⟨#[]⟩, ⟨#[]⟩, false⟩⟩
theorem flatK_list (l : List Change) : flatK Change.cells 3 l.toArray = (l.flatMap Change.cells).toArray := by
  refine ext_get! (by simp [flat_length Change.cells_len]) fun t ht => ?_
  have ht' : t < l.length * 3 := by simpa using ht
  rw [get_flatK _ _ _ t (by simpa using ht')]
  have h3 : t / 3 < l.length := by omega
  have h := flat_at Change.cells_len l (t / 3) h3 (t % 3) (by omega)
  have e : t / 3 * 3 + t % 3 = t := by omega
  rw [e] at h
  have e1 : (l.toArray)[t / 3]! = l[t / 3] := by simp [h3]
  rw [e1, List.getElem!_eq_getElem?_getD, ← h]
  simp
theorem sortChanges_cmp (x y : Change) (W : World) : Calls Tryz.prog 30 #[.agg #[.string x.key, .string x.val, .bool x.gone], .agg #[.string y.key, .string y.val, .bool y.gone]] W fun e w' => e = .returned (.int .i64 (cmpB x.key y.key)) ∧ ∃ q os', w' = grow (W.drewN q) os' := by
  have C := fun W => Tryz.strings_Compare x.key y.key W
  have HG : Hid ((W.alloc (.cells #[.string x.key, .string x.val, .bool x.gone] 41)).alloc (.cells #[.string y.key, .string y.val, .bool y.gone] 41) = grow (W.drewN 0) (#[.cells #[.string x.key, .string x.val, .bool x.gone] 41] ++ #[.cells #[.string y.key, .string y.val, .bool y.gone] 41])) := Lib.hid (by rw [alloc_eq_grow, alloc_eq_grow, grow_grow]; rfl)
  go_enter Tryz.func30, Tryz.ntmps30
  go_wp2_with fail
  refine (C _).mono ?_
  rintro e w2 ⟨rfl, rfl⟩
  go_wp2_with fail
  go_ret
  exact ⟨rfl, 0, _, HG.out⟩
def cmpC (x y : Change) : Int := cmpB x.key y.key
theorem ltOf_cmpC (x y : Change) : ltOf cmpC x y = bLt x.key y.key := by
  unfold ltOf cmpC
  cases h : bLt x.key y.key
  · refine decide_eq_false (fun e => ?_)
    rw [(cmpB_lt _ _).1 e] at h
    cases h
  · exact decide_eq_true ((cmpB_lt _ _).2 h)
theorem swo_cmpC : SWO (ltOf cmpC) where
  irrefl x := by rw [ltOf_cmpC]; exact bLt_irrefl _
  trans x y z h1 h2 := by rw [ltOf_cmpC] at *; exact bLt_trans h1 h2
  ntrans x y z h1 h2 := by
    rw [ltOf_cmpC] at *
    cases h3 : bLt x.key z.key
    · rfl
    · cases h4 : bLt y.key x.key
      · have := bLt_eqI h1 h4
        rw [this, h2] at h3
        cases h3
      · rw [bLt_trans h4 h3] at h2
        cases h2
theorem below_cellsI {B b : Nat} {a : World} (hb : B ≤ b) : ∀ (vs : List Value) (o : Nat) (w : World), Below B a w → Below B a (w.setCells b o vs)
  | [], _, _, h => h
  | v :: r, o, w, h => below_cellsI hb r (o + 1) _ (h.setCell hb v)
theorem changes_Sort (base : Nat) (v : Value) (l : List Change) (w : World) (ho : w.ownsRow base 41 3 v l.length (l.flatMap Change.cells)) (hb : base ≤ w.heap.size) (hl : l.length ≤ 1000000) :
    Calls Tryz.prog 29 #[v, .func (.func 30) #[] #[]] w fun e w' => e = .returned (.tuple #[]) ∧ ∃ m : List Change, m.Perm l ∧ m.Pairwise (fun x y => bLt y.key x.key = false) ∧ w'.ownsRow base 41 3 v m.length (m.flatMap Change.cells) ∧ Below base w w' := by
  rcases ho.2 with ⟨rfl, h0⟩ | ⟨g, cap, cur, rfl, _⟩
  · have hm0 : l = [] := List.eq_nil_of_length_eq_zero (by omega)
    subst hm0
    have C := AnyF.slices_SortFunc_none Tryz.sortChanges none 0 (.func (.func 30) #[] #[]) w
    change Calls Tryz.prog 29 _ _ _ at C
    refine C.mono ?_
    rintro e w' ⟨rfl, rfl⟩
    exact ⟨rfl, [], List.Perm.refl _, List.Pairwise.nil, World.ownsRow_nil _ _ _ _, Below.refl _ _⟩
  · have hlt := ho.lt g rfl
    have hH : HoldsK Change.cells 3 w g 0 l.toArray := by
      unfold HoldsK
      rw [flatK_list]
      intro j hj
      have hj' : j < (l.flatMap Change.cells).length := by simpa using hj
      have hc := owns_cell ho j hj'
      refine ⟨?_, owns_frozen ho _⟩
      rw [Nat.zero_add, hc]
      congr 1
      show _ = id ((l.flatMap Change.cells).toArray)[j]!
      simp only [id, List.getElem!_toArray]
      rw [getElem!_pos _ j hj']
    have eg : ∀ args w, (callFunc 30 args).run Tryz.prog w = .ok (.enter 30 args) w := enters_of Tryz.func30 (by kernel_rfl) rfl
    have C := AnyQ.slices_SortFunc Tryz.sortChanges 3 Tryz.isAgg41 Tryz.sizeOf41 Change.cells (fun _ => rfl) (fun x u hu => by simp [Change.cells] at hu; rcases hu with rfl | rfl | rfl <;> rfl) cmpC swo_cmpC 30 #[] g 0 cap l.toArray w eg (fun _ _ _ _ x y => sortChanges_cmp x y _) hH hlt.2 (by simp; omega)
    change Calls Tryz.prog 29 _ _ _ at C
    rw [List.size_toArray] at C
    refine C.mono ?_
    rintro e w' ⟨rfl, d', n, os, hp, hs, rfl⟩
    obtain ⟨hp1, _, hp3⟩ := hp
    have hsz : d'.size = l.length := by simpa using hp1
    obtain ⟨m, rfl⟩ : ∃ m : List Change, d' = m.toArray := ⟨d'.toList, by simp⟩
    have hml : m.length = l.length := by simpa using hsz
    have hperm : m.Perm l := by
      have e1 : (m.toArray.extract 0 l.length).toList = m := by rw [Array.toList_extract, List.extract_eq_take_drop]; simp; exact List.take_of_length_le (by omega)
      have e2 : (l.toArray.extract 0 l.length).toList = l := by rw [Array.toList_extract, List.extract_eq_take_drop]; simp
      rw [e1, e2] at hp3
      exact hp3
    refine ⟨rfl, m, hperm, ?_, ?_⟩
    · refine List.pairwise_iff_getElem.2 (fun i j hi hj hij => ?_)
      have := hs i j (Nat.zero_le _) hij (by omega)
      rw [ltOf_cmpC] at this
      simpa [hi, hj] using this
    · have e1 : sortWorldK Change.cells 3 w g 0 n m.toArray os = grow ((w.drewN n).setCells g 0 (m.flatMap Change.cells)) os := by
        unfold sortWorldK putRowK
        rw [flatK_list, Go.Lib.putRow_eq_setCells id w g 0 (flatK Change.cells 3 l.toArray) (m.flatMap Change.cells) n hH (by simp [flat_length Change.cells_len, hml]), List.map_id]
      rw [e1]
      have h0 : (w.drewN n).ownsRow base 41 3 (.slice (some ⟨g, 0, none⟩) l.length cap) l.length (l.flatMap Change.cells) := ho
      have h1 := owns_sets h0 (m.flatMap Change.cells) (by simp [flat_length Change.cells_len, hml])
      rw [hml]
      have hb2 : Below ((w.drewN n).setCells g 0 (m.flatMap Change.cells)).heap.size ((w.drewN n).setCells g 0 (m.flatMap Change.cells)) (grow ((w.drewN n).setCells g 0 (m.flatMap Change.cells)) os) := below_regrown _ _ os
      refine ⟨owns_of_block h1 (fun k hk => hb2.block k (h1.lt k hk).2), ?_⟩
      exact (below_cellsI hlt.1 (m.flatMap Change.cells) 0 (w.drewN n) (B := base) (a := w) ⟨rfl, rfl, rfl, Nat.le_refl _, fun _ _ => rfl⟩).trans (hb2.mono (by have := (h1.lt g rfl); omega))
end Go.Proofs.YtggpodlecljcbaaGreatDoor
