/- The walks of chapter 2: shelf.Get. -/
import Derived.Test.YtggpodlecljcbaaWalkG
namespace Go.Proofs.Ytggpodlecljcbaa
set_option linter.unusedSimpArgs false
set_option linter.unusedVariables false
open Go.RowKit Go.Sort

theorem rank_le (l : List File) (name : ByteArray) : rank l name ≤ l.length := List.Sublist.length_le (List.takeWhile_sublist _)
theorem rank_before (name : ByteArray) : ∀ (l : List File) (t : Nat) (h : t < l.length), t < rank l name → bLt l[t].name name = true
  | [], t, h, _ => by simp at h
  | f :: r, t, h, ht => by
    unfold rank at ht
    cases hf : bLt f.name name
    · simp [hf] at ht
    · cases t with
      | zero => exact hf
      | succ t =>
        simp [hf] at ht
        exact rank_before name r t (by simpa using h) (by unfold rank; omega)
theorem rank_at (name : ByteArray) : ∀ (l : List File) (h : rank l name < l.length), bLt l[rank l name].name name = false
  | [], h => by simp at h
  | f :: r, h => by
    cases hf : bLt f.name name
    · have e : rank (f :: r) name = 0 := by simp [rank, hf]
      simp only [e]; exact hf
    · have e : rank (f :: r) name = rank r name + 1 := by simp [rank, hf]
      have := rank_at name r (by rw [e] at h; simpa using h)
      simp only [e]; exact this
theorem not_eq_of_lt {a b : ByteArray} (h : bLt a b = true) : (a.toList == b.toList) = false := by
  cases e : (a.toList == b.toList)
  · rfl
  · have : a.toList = b.toList := by simpa using e
    unfold bLt at h
    rw [this, less_irrefl] at h; cases h
theorem take_rank_none (l : List File) (name : ByteArray) (k : Nat) (hk : k ≤ rank l name) : (l.take k).find? (fun f => f.name.toList == name.toList) = none := by
  rw [List.find?_eq_none]
  intro x hx
  obtain ⟨t, ht, rfl⟩ := List.getElem_of_mem hx
  rw [List.getElem_take]
  rw [List.length_take] at ht
  simp only [not_eq_of_lt (rank_before name l t (by omega) (by omega)), Bool.false_eq_true, not_false_eq_true]
theorem get_some (l : List File) (name : ByteArray) (h : rank l name < l.length) (h2 : isAt l name (rank l name) = true) : getAt l name = some l[rank l name] := by
  rw [isAt_lt l name _ h] at h2
  exact get_at l _ h name (take_rank_none l name _ (Nat.le_refl _)) h2
theorem isAt_len {l : List File} {name : ByteArray} {i : Nat} (h : isAt l name i = true) : i < l.length := by
  by_cases hh : i < l.length
  · exact hh
  · rw [isAt_ge l name i hh] at h; cases h
theorem get_noneR (l : List File) (name : ByteArray) (hr : Rises l) (h2 : isAt l name (rank l name) = false) : getAt l name = none := by
  unfold getAt
  rw [List.find?_eq_none]
  intro x hx
  obtain ⟨t, ht, rfl⟩ := List.getElem_of_mem hx
  by_cases h : t < rank l name
  · simp only [not_eq_of_lt (rank_before name l t ht h), Bool.false_eq_true, not_false_eq_true]
  · have hrk : rank l name < l.length := by omega
    have hge := rank_at name l hrk
    rw [isAt_lt l name _ hrk] at h2
    by_cases e : t = rank l name
    · subst e; simp [h2]
    · have := hr.at (rank l name) t (by omega) ht
      intro he
      have he' : l[t].name.toList = name.toList := by simpa using he
      have h3 : bLt l[rank l name].name name = true := by unfold bLt at this ⊢; rw [← he']; exact this
      rw [h3] at hge; cases hge

set_option maxHeartbeats 1000000 in
theorem shelf_Get (va : Value) (l : List File) (name : ByteArray) (w : World) (ha : Files w va l) (hl : l.length ≤ 8) (hr : Rises l) :
    Calls Try.prog 66 #[va, .string name] w (RetFile (getAt l name) w) := by
  obtain ⟨ao, ca, rfl, hca, hca'⟩ := ha.parts
  obtain ⟨W2, hW2⟩ : ∃ W2, W2 = w.alloc (.cells #[.string ⟨#[]⟩, .string ⟨#[]⟩, .int .i64 0] 23) := ⟨_, rfl⟩
  have B2 : Below w.heap.size w W2 := by rw [hW2]; exact below_alloc w _
  have HZ : Hid (W2.heap.size = w.heap.size + 1) := Lib.hid (by rw [hW2]; simp)
  have g0 : W2.cell? ⟨w.heap.size, 0, none⟩ = some (.string ⟨#[]⟩) := by rw [hW2]; simp
  have g1 : W2.cell? ⟨w.heap.size, 1, none⟩ = some (.string ⟨#[]⟩) := by rw [hW2]; simp
  have g2 : W2.cell? ⟨w.heap.size, 2, none⟩ = some (.int .i64 0) := by rw [hW2]; simp
  have g3 : W2.frozen? ⟨w.heap.size, 0, none⟩ = false := by rw [hW2]; simp
  have g4 : W2.frozen? ⟨w.heap.size, 1, none⟩ = false := by rw [hW2]; simp
  have g5 : W2.frozen? ⟨w.heap.size, 2, none⟩ = false := by rw [hW2]; simp
  have C := Lib.hid (shelf_find (.slice ao l.length ca) l name W2 (Rd.below ha B2) hl hr)
  have HA := Lib.hid ha
  have HR := Lib.hid hr
  have HW2 := Lib.hid hW2
  have HB2 := Lib.hid B2
  clear hW2 B2 ha hr
  have HB3 : Hid (∀ W, Below W2.heap.size W2 W → W.cell? ⟨w.heap.size, 0, none⟩ = some (.string ⟨#[]⟩) ∧ W.cell? ⟨w.heap.size, 1, none⟩ = some (.string ⟨#[]⟩) ∧ W.cell? ⟨w.heap.size, 2, none⟩ = some (.int .i64 0) ∧ W.frozen? ⟨w.heap.size, 0, none⟩ = false ∧ W.frozen? ⟨w.heap.size, 1, none⟩ = false ∧ W.frozen? ⟨w.heap.size, 2, none⟩ = false) := by
    refine Lib.hid fun W hb => ?_
    have hs := HZ.out
    obtain ⟨hc, hf⟩ := bcell hb
    exact ⟨(hc _ _ (by omega)).trans g0, (hc _ _ (by omega)).trans g1, (hc _ _ (by omega)).trans g2, ((hf _ _ (by omega)).trans g3), ((hf _ _ (by omega)).trans g4), ((hf _ _ (by omega)).trans g5)⟩
  clear g0 g1 g2 g3 g4 g5
  cases hi : isAt l name (rank l name)
  · have HN := Lib.hid (get_noneR l name HR.out hi)
    unfold RetFind at C
    rw [hi] at C
    clear hi
    go_enter Try.func66, Try.ntmps66
    go_wp2_with fail
    rw [← HW2.out]
    refine (C.out).mono ?_
    rintro e w2 ⟨rfl, hb2⟩
    have HC2 := Lib.hid (two HB2.out hb2)
    obtain ⟨g0, g1, g2, g3, g4, g5⟩ := HB3.out w2 hb2
    clear hb2
    go_wp2_with fail
    have HBF := ((HC2.out.setCell (p := ⟨w.heap.size, 0, none⟩) (by simp) (.string ⟨#[]⟩)).setCell (p := ⟨w.heap.size, 1, none⟩) (by simp) (.string ⟨#[]⟩)).setCell (p := ⟨w.heap.size, 2, none⟩) (by simp) (.int .i64 0)
    refine bodyPost_ret (v := .tuple #[.agg #[.string ⟨#[]⟩, .string ⟨#[]⟩, .int .i64 0], .bool false]) (by simp [results, Try.results66, go_sem, g0, g1, g2, g3, g4, g5]) rfl ?_
    exact ⟨by rw [HN.out]; rfl, HBF⟩
  · unfold RetFind at C
    rw [hi] at C
    obtain ⟨k, hkk⟩ : ∃ k, k = rank l name := ⟨_, rfl⟩
    have hk : k < l.length := by rw [hkk]; exact isAt_len hi
    have HN : Hid (getAt l name = some l[k]) := by subst hkk; exact Lib.hid (get_some l name hk hi)
    rw [← hkk] at C
    clear hi hkk
    go_enter Try.func66, Try.ntmps66
    go_wp2_with fail
    rw [← HW2.out]
    refine (C.out).mono ?_
    rintro e w2 ⟨rfl, hb2⟩
    obtain ⟨ba, oa, rfl, hlb, x0, x1, x2⟩ := Files.cell (HA.out.below (two HB2.out hb2)) k hk
    have HC2 := Lib.hid (two HB2.out hb2)
    obtain ⟨g0, g1, g2, g3, g4, g5⟩ := HB3.out w2 hb2
    clear hb2
    go_wp2_with fail
    have HBF := ((HC2.out.setCell (p := ⟨w.heap.size, 0, none⟩) (by simp) (.string l[k].name)).setCell (p := ⟨w.heap.size, 1, none⟩) (by simp) (.string l[k].text)).setCell (p := ⟨w.heap.size, 2, none⟩) (by simp) (.int .i64 l[k].times)
    refine bodyPost_ret (v := .tuple #[.agg #[.string l[k].name, .string l[k].text, .int .i64 l[k].times], .bool true]) (by simp [results, Try.results66, go_sem, g0, g1, g2, g3, g4, g5]) rfl ?_
    exact ⟨by rw [HN.out]; rfl, HBF⟩
end Go.Proofs.Ytggpodlecljcbaa
