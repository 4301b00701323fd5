/- The walks of chapter 2: a file by its name. The walks of chapter 2: shelf.Get. -/
import Derived.Test.YtggpodlecljcbacWalkF
import Derived.Test.YtggpodlecljcbacShelf
namespace Go.Proofs.Ytggpodlecljcbac
set_option linter.unusedSimpArgs false
set_option linter.unusedVariables false
open Go.RowKit Go.Sort

def noFile : File := ⟨ByteArray.empty, ByteArray.empty, 0⟩
def fileOr (o : Option File) : File := o.getD noFile
def RetFile (o : Option File) (w : World) (e : Ending) (w' : World) : Prop := e = .returned (.tuple #[(fileOr o).val, .bool o.isSome]) ∧ Below w.heap.size w w'
theorem get_at (l : List File) (k : Nat) (h : k < l.length) (name : ByteArray) (h1 : (l.take k).find? (fun f => f.name.toList == name.toList) = none) (h2 : (l[k].name.toList == name.toList) = true) : getAt l name = some l[k] := by
  unfold getAt
  have e : l = l.take k ++ l[k] :: l.drop (k + 1) := by rw [← List.drop_eq_getElem_cons h, List.take_append_drop]
  calc l.find? (fun f => f.name.toList == name.toList) = (l.take k ++ l[k] :: l.drop (k + 1)).find? (fun f => f.name.toList == name.toList) := by rw [← e]
    _ = some l[k] := by rw [List.find?_append, h1, List.find?_cons, h2]; rfl
theorem get_next (l : List File) (k : Nat) (h : k < l.length) (name : ByteArray) (h1 : (l.take k).find? (fun f => f.name.toList == name.toList) = none) (h2 : (l[k].name.toList == name.toList) = false) : (l.take (k + 1)).find? (fun f => f.name.toList == name.toList) = none := by
  rw [List.take_succ_eq_append_getElem h, List.find?_append, h1]
  simp only [List.find?_cons, h2, Option.none_or, List.find?_nil]
theorem get_none (l : List File) (k : Nat) (h : ¬ k < l.length) (name : ByteArray) (h1 : (l.take k).find? (fun f => f.name.toList == name.toList) = none) : getAt l name = none := by
  rwa [List.take_of_length_le (by omega)] at h1

theorem find_cmp (f : File) (name : ByteArray) (w : World) :
    Calls Try.prog 94 #[.agg #[.string f.name, .string f.text, .int .i64 f.times], .string name] w fun e w' => e = .returned (.int .i64 (cmpB f.name name)) ∧ Below w.heap.size w w' := by
  have C := fun W => Try.strings_Compare f.name name W
  have B1 := below_alloc w (.cells #[.string f.name, .string f.text, .int .i64 f.times] 41)
  have HB1 := Lib.hid B1
  clear B1
  go_enter Try.func94, Try.ntmps94
  go_wp2_with fail
  refine (C _).mono ?_
  rintro e w2 ⟨rfl, hb2⟩
  go_wp2_with fail
  go_ret
  exact ⟨rfl, HB1.out⟩

def RetFind (l : List File) (name : ByteArray) (w : World) (e : Ending) (w' : World) : Prop := e = .returned (.tuple #[.int .i64 (rank l name), .bool (isAt l name (rank l name))]) ∧ Below w.heap.size w w'
set_option maxHeartbeats 1000000 in
theorem files_search (va : Value) (l : List File) (name : ByteArray) (w : World) (ha : Files w va l) (hl : l.length ≤ 8) (hr : Rises l) :
    Calls Try.prog 93 #[va, .string name, .func (.func 94) #[] #[]] w (RetFind l name w) := by
  obtain ⟨ao, ca, rfl, hca, hca'⟩ := ha.parts
  have HA := Lib.hid ha
  have HR := Lib.hid hr
  clear ha hr
  go_enter Try.func93, Try.ntmps93
  go_wp2_with fail
  go_loopw [9, 10] (fun x y wr => ∃ i j : Nat, i ≤ j ∧ j ≤ l.length ∧ x = .int .i64 i ∧ y = .int .i64 j ∧ (∀ t, (ht : t < l.length) → t < i → bLt l[t].name name = true) ∧ (∀ t, (ht : t < l.length) → j ≤ t → bLt l[t].name name = false) ∧ Below w.heap.size w wr) (fun x y _ => (intOf y).toNat - (intOf x).toNat)
  case atStart => exact ⟨0, l.length, Nat.zero_le _, Nat.le_refl _, rfl, rfl, fun t _ h => absurd h (by omega), fun t h1 h2 => absurd h1 (by omega), Below.refl _ _⟩
  case round =>
    obtain ⟨i, j, hij, hj, rfl, rfl, h1, h2, hbw⟩ := hrel
    have H1 := Lib.hid h1
    have H2 := Lib.hid h2
    clear h1 h2
    by_cases hlt : i < j
    · have hmj : (i + j) / 2 < j := by omega
      have him : i ≤ (i + j) / 2 := by omega
      obtain ⟨ba, oa, rfl, hlb, x0, x1, x2⟩ := Files.cell (HA.out.below hbw) ((i + j) / 2) (by omega)
      have C := Lib.hid fun W => find_cmp (l[(i + j) / 2]'(by omega)) name W
      have HW := Lib.hid hbw
      clear hbw
      by_cases hc : cmpB (l[(i + j) / 2]'(by omega)).name name < 0
      · have HL := Lib.hid ((cmpB_lt _ _).mp hc)
        go_wp2_with fail
        refine (C.out _).mono ?_
        rintro e w2 ⟨rfl, hb2⟩
        have HB2 := Lib.hid (two HW.out hb2)
        clear hb2 x0 x1 x2
        go_wp2_with fail
        go_roundw
        case rel => exact ⟨(i + j) / 2 + 1, j, by omega, hj, by congr 1, rfl, fun t ht hti => HR.out.mono name t ((i + j) / 2) (by omega) (by omega) HL.out, H2.out, HB2.out⟩
        case measure => simp [intOf]; omega
      · have HL : Hid (bLt (l[(i + j) / 2]'(by omega)).name name = false) := by
          refine Lib.hid ?_
          rw [← Bool.not_eq_true, ← cmpB_lt]; exact hc
        go_wp2_with fail
        refine (C.out _).mono ?_
        rintro e w2 ⟨rfl, hb2⟩
        have HB2 := Lib.hid (two HW.out hb2)
        clear hb2 x0 x1 x2
        go_wp2_with fail
        go_roundw
        case rel =>
          refine ⟨i, (i + j) / 2, by omega, by omega, rfl, by congr 1, H1.out, ?_, HB2.out⟩
          intro t ht hti
          cases hb : bLt l[t].name name
          · rfl
          · have := HR.out.mono name ((i + j) / 2) t hti ht hb
            rw [HL.out] at this; cases this
        case measure => simp [intOf]; omega
    · have hij2 : i = j := by omega
      subst hij2
      have HK := Lib.hid (rank_of name l i (by omega) H1.out H2.out)
      by_cases hil : i < l.length
      · obtain ⟨ba, oa, rfl, hlb, x0, x1, x2⟩ := Files.cell (HA.out.below hbw) i hil
        have C := Lib.hid fun W => find_cmp l[i] name W
        have HW := Lib.hid hbw
        clear hbw
        go_wp2_with fail
        refine (C.out _).mono ?_
        rintro e w2 ⟨rfl, hb2⟩
        have HB2 := Lib.hid (two HW.out hb2)
        clear hb2 x0 x1 x2
        go_wp2_with fail
        refine bodyPost_ret (v := .tuple #[.int .i64 i, .bool (cmpB l[i].name name == 0)]) (by simp [results, Try.results93, go_sem]) rfl ?_
        refine ⟨?_, HB2.out⟩
        have e2 : isAt l name (rank l name) = (cmpB l[i].name name == 0) := by
          rw [HK.out, isAt_lt l name i hil]
          have := cmpB_eq l[i].name name
          cases h1 : (l[i].name.toList == name.toList) <;> cases h2 : (cmpB l[i].name name == 0) <;> simp_all
        rw [e2, HK.out]
      · have HW := Lib.hid hbw
        clear hbw
        go_wp2_with fail
        refine bodyPost_ret (v := .tuple #[.int .i64 i, .bool false]) (by simp [results, Try.results93, go_sem]) rfl ?_
        refine ⟨?_, HW.out⟩
        rw [HK.out, isAt_ge l name i hil]

theorem shelf_find (va : Value) (l : List File) (name : ByteArray) (w : World) (ha : Files w va l) (hl : l.length ≤ 8) (hr : Rises l) :
    Calls Try.prog 64 #[va, .string name] w (RetFind l name w) := by
  obtain ⟨ao, ca, rfl, hca, hca'⟩ := ha.parts
  have C := Lib.hid fun W hb => files_search (.slice ao l.length ca) l name W (Rd.below ha hb) hl hr
  clear ha hr
  go_enter Try.func64, Try.ntmps64
  go_wp2_with fail
  refine (C.out _ (Below.refl _ _)).mono ?_
  rintro e w2 ⟨rfl, hb2⟩
  have HB2 := Lib.hid hb2
  clear hb2
  go_wp2_with fail
  exact bodyPost_ret (v := .tuple #[.int .i64 (rank l name), .bool (isAt l name (rank l name))]) (by simp [results, Try.results64, go_sem]) rfl ⟨rfl, HB2.out⟩
end Go.Proofs.Ytggpodlecljcbac
namespace Go.Proofs.Ytggpodlecljcbac
set_option linter.unusedSimpArgs false
set_option linter.unusedVariables false
open Go.RowKit Go.Sort

theorem rank_le (l : List File) (name : ByteArray) : rank l name ≤ l.length := List.Sublist.length_le (List.takeWhile_sublist _)
theorem rank_before (name : ByteArray) : ∀ (l : List File) (t : Nat) (h : t < l.length), t < rank l name → bLt l[t].name name = true
  | [], t, h, _ => by simp at h
  | f :: r, t, h, ht => by
    unfold rank at ht
    cases hf : bLt f.name name
    · simp [hf] at ht
    · cases t with
      | zero => exact hf
      | succ t =>
        simp [hf] at ht
        exact rank_before name r t (by simpa using h) (by unfold rank; omega)
theorem rank_at (name : ByteArray) : ∀ (l : List File) (h : rank l name < l.length), bLt l[rank l name].name name = false
  | [], h => by simp at h
  | f :: r, h => by
    cases hf : bLt f.name name
    · have e : rank (f :: r) name = 0 := by simp [rank, hf]
      simp only [e]; exact hf
    · have e : rank (f :: r) name = rank r name + 1 := by simp [rank, hf]
      have := rank_at name r (by rw [e] at h; simpa using h)
      simp only [e]; exact this
theorem not_eq_of_lt {a b : ByteArray} (h : bLt a b = true) : (a.toList == b.toList) = false := by
  cases e : (a.toList == b.toList)
  · rfl
  · have : a.toList = b.toList := by simpa using e
    unfold bLt at h
    rw [this, less_irrefl] at h; cases h
theorem take_rank_none (l : List File) (name : ByteArray) (k : Nat) (hk : k ≤ rank l name) : (l.take k).find? (fun f => f.name.toList == name.toList) = none := by
  rw [List.find?_eq_none]
  intro x hx
  obtain ⟨t, ht, rfl⟩ := List.getElem_of_mem hx
  rw [List.getElem_take]
  rw [List.length_take] at ht
  simp only [not_eq_of_lt (rank_before name l t (by omega) (by omega)), Bool.false_eq_true, not_false_eq_true]
theorem get_some (l : List File) (name : ByteArray) (h : rank l name < l.length) (h2 : isAt l name (rank l name) = true) : getAt l name = some l[rank l name] := by
  rw [isAt_lt l name _ h] at h2
  exact get_at l _ h name (take_rank_none l name _ (Nat.le_refl _)) h2
theorem isAt_len {l : List File} {name : ByteArray} {i : Nat} (h : isAt l name i = true) : i < l.length := by
  by_cases hh : i < l.length
  · exact hh
  · rw [isAt_ge l name i hh] at h; cases h
theorem get_noneR (l : List File) (name : ByteArray) (hr : Rises l) (h2 : isAt l name (rank l name) = false) : getAt l name = none := by
  unfold getAt
  rw [List.find?_eq_none]
  intro x hx
  obtain ⟨t, ht, rfl⟩ := List.getElem_of_mem hx
  by_cases h : t < rank l name
  · simp only [not_eq_of_lt (rank_before name l t ht h), Bool.false_eq_true, not_false_eq_true]
  · have hrk : rank l name < l.length := by omega
    have hge := rank_at name l hrk
    rw [isAt_lt l name _ hrk] at h2
    by_cases e : t = rank l name
    · subst e; simp [h2]
    · have := hr.at (rank l name) t (by omega) ht
      intro he
      have he' : l[t].name.toList = name.toList := by simpa using he
      have h3 : bLt l[rank l name].name name = true := by unfold bLt at this ⊢; rw [← he']; exact this
      rw [h3] at hge; cases hge

set_option maxHeartbeats 1000000 in
theorem shelf_Get (va : Value) (l : List File) (name : ByteArray) (w : World) (ha : Files w va l) (hl : l.length ≤ 8) (hr : Rises l) :
    Calls Try.prog 36 #[va, .string name] w (RetFile (getAt l name) w) := by
  obtain ⟨ao, ca, rfl, hca, hca'⟩ := ha.parts
  obtain ⟨W2, hW2⟩ : ∃ W2, W2 = w.alloc (.cells #[.string ⟨#[]⟩, .string ⟨#[]⟩, .int .i64 0] 41) := ⟨_, rfl⟩
  have B2 : Below w.heap.size w W2 := by rw [hW2]; exact below_alloc w _
  have HZ : Hid (W2.heap.size = w.heap.size + 1) := Lib.hid (by rw [hW2]; simp)
  have g0 : W2.cell? ⟨w.heap.size, 0, none⟩ = some (.string ⟨#[]⟩) := by rw [hW2]; simp
  have g1 : W2.cell? ⟨w.heap.size, 1, none⟩ = some (.string ⟨#[]⟩) := by rw [hW2]; simp
  have g2 : W2.cell? ⟨w.heap.size, 2, none⟩ = some (.int .i64 0) := by rw [hW2]; simp
  have g3 : W2.frozen? ⟨w.heap.size, 0, none⟩ = false := by rw [hW2]; simp
  have g4 : W2.frozen? ⟨w.heap.size, 1, none⟩ = false := by rw [hW2]; simp
  have g5 : W2.frozen? ⟨w.heap.size, 2, none⟩ = false := by rw [hW2]; simp
  have C := Lib.hid (shelf_find (.slice ao l.length ca) l name W2 (Rd.below ha B2) hl hr)
  have HA := Lib.hid ha
  have HR := Lib.hid hr
  have HW2 := Lib.hid hW2
  have HB2 := Lib.hid B2
  clear hW2 B2 ha hr
  have HB3 : Hid (∀ W, Below W2.heap.size W2 W → W.cell? ⟨w.heap.size, 0, none⟩ = some (.string ⟨#[]⟩) ∧ W.cell? ⟨w.heap.size, 1, none⟩ = some (.string ⟨#[]⟩) ∧ W.cell? ⟨w.heap.size, 2, none⟩ = some (.int .i64 0) ∧ W.frozen? ⟨w.heap.size, 0, none⟩ = false ∧ W.frozen? ⟨w.heap.size, 1, none⟩ = false ∧ W.frozen? ⟨w.heap.size, 2, none⟩ = false) := by
    refine Lib.hid fun W hb => ?_
    have hs := HZ.out
    obtain ⟨hc, hf⟩ := bcell hb
    exact ⟨(hc _ _ (by omega)).trans g0, (hc _ _ (by omega)).trans g1, (hc _ _ (by omega)).trans g2, ((hf _ _ (by omega)).trans g3), ((hf _ _ (by omega)).trans g4), ((hf _ _ (by omega)).trans g5)⟩
  clear g0 g1 g2 g3 g4 g5
  cases hi : isAt l name (rank l name)
  · have HN := Lib.hid (get_noneR l name HR.out hi)
    unfold RetFind at C
    rw [hi] at C
    clear hi
    go_enter Try.func36, Try.ntmps36
    go_wp2_with fail
    rw [← HW2.out]
    refine (C.out).mono ?_
    rintro e w2 ⟨rfl, hb2⟩
    have HC2 := Lib.hid (two HB2.out hb2)
    obtain ⟨g0, g1, g2, g3, g4, g5⟩ := HB3.out w2 hb2
    clear hb2
    go_wp2_with fail
    have HBF := ((HC2.out.setCell (p := ⟨w.heap.size, 0, none⟩) (by simp) (.string ⟨#[]⟩)).setCell (p := ⟨w.heap.size, 1, none⟩) (by simp) (.string ⟨#[]⟩)).setCell (p := ⟨w.heap.size, 2, none⟩) (by simp) (.int .i64 0)
    refine bodyPost_ret (v := .tuple #[.agg #[.string ⟨#[]⟩, .string ⟨#[]⟩, .int .i64 0], .bool false]) (by simp [results, Try.results36, go_sem, g0, g1, g2, g3, g4, g5]) rfl ?_
    exact ⟨by rw [HN.out]; rfl, HBF⟩
  · unfold RetFind at C
    rw [hi] at C
    obtain ⟨k, hkk⟩ : ∃ k, k = rank l name := ⟨_, rfl⟩
    have hk : k < l.length := by rw [hkk]; exact isAt_len hi
    have HN : Hid (getAt l name = some l[k]) := by subst hkk; exact Lib.hid (get_some l name hk hi)
    rw [← hkk] at C
    clear hi hkk
    go_enter Try.func36, Try.ntmps36
    go_wp2_with fail
    rw [← HW2.out]
    refine (C.out).mono ?_
    rintro e w2 ⟨rfl, hb2⟩
    obtain ⟨ba, oa, rfl, hlb, x0, x1, x2⟩ := Files.cell (HA.out.below (two HB2.out hb2)) k hk
    have HC2 := Lib.hid (two HB2.out hb2)
    obtain ⟨g0, g1, g2, g3, g4, g5⟩ := HB3.out w2 hb2
    clear hb2
    go_wp2_with fail
    have HBF := ((HC2.out.setCell (p := ⟨w.heap.size, 0, none⟩) (by simp) (.string l[k].name)).setCell (p := ⟨w.heap.size, 1, none⟩) (by simp) (.string l[k].text)).setCell (p := ⟨w.heap.size, 2, none⟩) (by simp) (.int .i64 l[k].times)
    refine bodyPost_ret (v := .tuple #[.agg #[.string l[k].name, .string l[k].text, .int .i64 l[k].times], .bool true]) (by simp [results, Try.results36, go_sem, g0, g1, g2, g3, g4, g5]) rfl ?_
    exact ⟨by rw [HN.out]; rfl, HBF⟩
end Go.Proofs.Ytggpodlecljcbac
