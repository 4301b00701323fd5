/- The walks of chapter 2: shelf.Drop, shelf.Put. -/
import Derived.Test.YtggpodlecljcbaaWalkG7
namespace Go.Proofs.Ytggpodlecljcbaa
open Go.RowKit Go.Sort
set_option linter.unusedSimpArgs false
set_option linter.unusedVariables false
def RetFilesE (p : List File × Nat) (w : World) (e : Ending) (w' : World) : Prop := ∃ v, e = .returned (.tuple #[v, errV p.2]) ∧ Files w' v p.1 ∧ Below w.heap.size w w'
def RetFilesG (p : List File × Nat) (w : World) (e : Ending) (w' : World) : Prop := ∃ v, e = .returned (.tuple #[v, errV p.2]) ∧ Files w' v p.1 ∧ Below w.heap.size w w' ∧ Fresh w.heap.size v
theorem drop_none (l : List File) (name : ByteArray) (h : getAt l name = none) : dropAt l name = ([], 5) := by unfold dropAt; rw [h]; rfl
theorem drop_some (l : List File) (name : ByteArray) (hr : Rises l) (r : Nat) (hk : r = rank l name) (h : isAt l name r = true) : dropAt l name = (l.take r ++ l.drop (r + 1), 0) := by
  have hl := isAt_len h
  subst hk
  unfold dropAt
  rw [get_some l name hl h, ← drop_rises l name hr _ rfl h]
  rfl

set_option maxHeartbeats 1000000 in
theorem shelf_Drop_f (va : Value) (l : List File) (name : ByteArray) (w : World) (ha : Files w va l) (hl : l.length ≤ 8) (hr : Rises l) :
    Calls Try.prog 70 #[va, .string name] w (RetFilesG (dropAt l name) w) := by
  have C := shelf_find va l name w ha hl hr
  have CC := Lib.hid fun W hb => files_Clone va l W (Rd.below ha hb) hl
  obtain ⟨ao, ca, rfl, hca, hca'⟩ := ha.parts
  unfold RetFind at C
  cases hi : isAt l name (rank l name)
  · have HD := Lib.hid (drop_none l name (get_noneR l name hr hi))
    rw [hi] at C
    replace C := Lib.hid C
    clear ha hi hr
    go_enter Try.func70, Try.ntmps70
    go_wp2_with fail
    refine (C.out).mono ?_
    rintro e w2 ⟨rfl, hb2⟩
    have HB2 := Lib.hid hb2
    clear hb2
    go_wp2_with fail
    refine bodyPost_ret (v := .tuple #[.slice none 0 0, errV 5]) (by simp [results, Try.results70, go_sem, errV]) rfl ?_
    exact ⟨_, by rw [HD.out], by rw [HD.out]; exact Rd.nil _, HB2.out, fresh_nil _⟩
  · obtain ⟨k, hkk⟩ : ∃ k, k = rank l name := ⟨_, rfl⟩
    have hk : k < l.length := by rw [hkk]; exact isAt_len hi
    have HD := Lib.hid (drop_some l name hr k hkk (by rw [hkk]; exact hi))
    rw [hi, ← hkk] at C
    replace C := Lib.hid C
    clear ha hi hr hkk
    go_enter Try.func70, Try.ntmps70
    go_wp2_with fail
    refine (C.out).mono ?_
    rintro e w2 ⟨rfl, hb2⟩
    have HB2 := Lib.hid hb2
    clear hb2
    go_wp2_with fail
    refine (CC.out _ HB2.out).mono ?_
    rintro e w3 ⟨v, rfl, ho, hb3⟩
    have HO := Lib.hid ho
    have HB3 := Lib.hid hb3
    clear ho hb3
    go_wp2_with fail
    refine (files_Delete _ v l k _ HO.out hk hl).mono ?_
    rintro e w4 ⟨v', rfl, hf, hb4, hfr⟩
    have HFR := Lib.hid (hfr.mono HB2.out.size)
    have HF := Lib.hid hf
    have HB4 := Lib.hid (HB2.out.trans ((HB3.out.trans hb4).mono HB2.out.size))
    clear hf hb4 hfr
    go_wp2_with fail
    refine bodyPost_ret (v := .tuple #[v', errV 0]) (by simp [results, Try.results70, go_sem, errV]) rfl ?_
    exact ⟨_, by rw [HD.out], by rw [HD.out]; exact HF.out, HB4.out, HFR.out⟩
theorem shelf_Drop (va : Value) (l : List File) (name : ByteArray) (w : World) (ha : Files w va l) (hl : l.length ≤ 8) (hr : Rises l) :
    Calls Try.prog 70 #[va, .string name] w (RetFilesE (dropAt l name) w) :=
  (shelf_Drop_f va l name w ha hl hr).mono fun _ _ ⟨v, h1, h2, h3, _⟩ => ⟨v, h1, h2, h3⟩
theorem own_below {w w' : World} {base e k n : Nat} {v : Value} {xs : List Value} (h : w.ownsRow base e k v n xs) (hb : Below w.heap.size w w') : w'.ownsRow base e k v n xs :=
  h.kept (⟨hb.os, hb.tape, hb.output, hb.size, fun j hj _ => hb.block j hj⟩ : World.grownBy _ _ none) (by cases h : Value.ownBlock _ <;> simp)
theorem heap_new (w : World) (o : Obj) : (w.alloc o).heap[w.heap.size]? = some o := by
  show (w.heap.push o)[w.heap.size]? = some o
  simp
theorem own_put {w : World} {base g n cap : Nat} {l : List File} (f : File) (k : Nat) (hk : k < l.length) (hn : n = l.length) (ho : w.ownsRow base 23 3 (.slice (some ⟨g, 0, none⟩) n cap) n (l.flatMap File.cells)) :
    Files (((w.setCell ⟨g, k * 3, none⟩ (.string f.name)).setCell ⟨g, k * 3 + 1, none⟩ (.string f.text)).setCell ⟨g, k * 3 + 2, none⟩ (.int .i64 f.times)) (.slice (some ⟨g, 0, none⟩) n cap) (l.take k ++ f :: l.drop (k + 1)) := by
  subst hn
  obtain ⟨hb, hgw, hnc, hc63, hlen, hcell, hsome, hfro, hsh⟩ := own_cells ho
  show Files (w.setCells g (k * 3) f.cells) _ _
  refine read_list (by simp; omega) hnc hc63 ?_
  have hq := take_cells l k (by omega)
  have hp : ((l.drop (k + 1)).flatMap File.cells).length = (l.length - (k + 1)) * 3 := drop_cells l (k + 1)
  have R := three_read (W := w.setCells g (k * 3) f.cells) (g := g) ((l.take k).flatMap File.cells) f.cells ((l.drop (k + 1)).flatMap File.cells) ?_ ?_ ?_
  · rw [List.flatMap_append, List.flatMap_cons, ← List.append_assoc]
    exact R
  · intro j u hj
    have hj' := (List.getElem?_eq_some_iff.1 hj).1
    rw [cells_out _ _ _ (Or.inl (by omega))]
    refine hcell j u ?_
    rw [flat_split l k, List.getElem?_append_left hj']
    exact hj
  · intro j u hj
    rw [hq]
    exact cells_in _ _ (fun t ht => hsome _ (by rw [File.cells_len] at ht; omega)) j u hj
  · intro j u hj
    have hj' := (List.getElem?_eq_some_iff.1 hj).1
    rw [hq, File.cells_len, cells_out _ _ _ (Or.inr (by rw [File.cells_len]; omega))]
    refine hcell _ u ?_
    rw [flat_split l (k + 1), List.getElem?_append_right (by rw [take_cells l (k + 1) (by omega)]; omega), take_cells l (k + 1) (by omega), show k * 3 + 3 + j - (k + 1) * 3 = j by omega]
    exact hj
theorem put_fault (l : List File) (f : File) (h : fileFault f ≠ 0) : putAt l f = ([], fileFault f) := by unfold putAt; rw [if_pos h]
theorem put_is (l : List File) (f : File) (hf : fileFault f = 0) (hr : Rises l) (r : Nat) (hk : r = rank l f.name) (h : isAt l f.name r = true) : putAt l f = (l.take r ++ f :: l.drop (r + 1), 0) := by
  have hg := get_some l f.name (by rw [← hk]; exact isAt_len h) (by rw [← hk]; exact h)
  unfold putAt
  rw [if_neg (by simp [hf]), if_neg (by simp [hg]), put_rises l f hr r hk, if_pos h]
theorem put_full (l : List File) (f : File) (hf : fileFault f = 0) (hr : Rises l) (h : isAt l f.name (rank l f.name) = false) (h8 : 8 ≤ l.length) : putAt l f = ([], 7) := by
  unfold putAt
  rw [if_neg (by simp [hf]), if_pos ⟨by rw [get_noneR l f.name hr h]; rfl, h8⟩]
theorem put_new (l : List File) (f : File) (hf : fileFault f = 0) (hr : Rises l) (r : Nat) (hk : r = rank l f.name) (h : isAt l f.name r = false) (h8 : ¬ 8 ≤ l.length) : putAt l f = (l.take r ++ f :: l.drop r, 0) := by
  unfold putAt
  rw [if_neg (by simp [hf]), if_neg (by intro hh; exact h8 hh.2), put_rises l f hr r hk, if_neg (by simp [h])]

set_option maxHeartbeats 2000000 in
theorem shelf_Put (va : Value) (l : List File) (f : File) (w : World) (ha : Files w va l) (hf : f.ok) (hl : l.length ≤ 8) (hr : Rises l) :
    Calls Try.prog 68 #[va, f.val] w (RetFilesE (putAt l f) w) := by
  have CF := fun W => file_Check f W hf
  have CC := Lib.hid fun W hb => files_Clone va l W (Rd.below ha hb) hl
  have CS := Lib.hid fun v W h => shelf_find v l f.name W h hl hr
  obtain ⟨ao, ca, rfl, hca, hca'⟩ := ha.parts
  unfold File.val at CF ⊢
  obtain ⟨W1, hW1⟩ : ∃ W1, W1 = w.alloc (.cells #[.string f.name, .string f.text, .int .i64 f.times] 23) := ⟨_, rfl⟩
  have B1 : Below w.heap.size w W1 := by rw [hW1]; exact below_alloc w _
  have hz : W1.heap.size = w.heap.size + 1 := by rw [hW1]; simp
  have c0 : W1.cell? ⟨w.heap.size, 0, none⟩ = some (.string f.name) := by rw [hW1]; simp
  have c1 : W1.cell? ⟨w.heap.size, 1, none⟩ = some (.string f.text) := by rw [hW1]; simp
  have c2 : W1.cell? ⟨w.heap.size, 2, none⟩ = some (.int .i64 f.times) := by rw [hW1]; simp
  have CB : Hid (∀ W, Below W1.heap.size W1 W → W.cell? ⟨w.heap.size, 0, none⟩ = some (.string f.name) ∧ W.cell? ⟨w.heap.size, 1, none⟩ = some (.string f.text) ∧ W.cell? ⟨w.heap.size, 2, none⟩ = some (.int .i64 f.times)) := by
    refine Lib.hid fun W hb => ?_
    obtain ⟨hc, _⟩ := bcell hb
    exact ⟨(hc _ _ (by omega)).trans c0, (hc _ _ (by omega)).trans c1, (hc _ _ (by omega)).trans c2⟩
  have HW1 := Lib.hid hW1
  have HB1 := Lib.hid B1
  have HR := Lib.hid hr
  clear hW1 hz B1 ha hr
  by_cases hff : fileFault f = 0
  · have HFF := Lib.hid hff
    rw [hff, errV_zero] at CF
    replace CF := Lib.hid CF
    clear hff
    obtain ⟨k, hkk⟩ : ∃ k, k = rank l f.name := ⟨_, rfl⟩
    unfold RetFind at CS
    rw [← hkk] at CS
    cases hi : isAt l f.name k
    · rw [hi] at CS
      have HI := Lib.hid hi
      have hkl : k ≤ l.length := by rw [hkk]; exact rank_le _ _
      have HK := Lib.hid hkk
      clear hi hkk
      by_cases h8 : 8 ≤ l.length
      · have HD : Hid (putAt l f = ([], 7)) := Lib.hid (put_full l f HFF.out HR.out (by rw [← HK.out]; exact HI.out) h8)
        go_enter Try.func68, Try.ntmps68
        go_wp2_with fail
        rw [← HW1.out]
        refine (CF.out _).mono ?_
        rintro e w2 ⟨rfl, hb2⟩
        have HB2 := Lib.hid hb2
        clear hb2
        go_wp2_with fail
        refine (CC.out _ (two HB1.out HB2.out)).mono ?_
        rintro e w3 ⟨v, rfl, ho, hb3⟩
        have HO := Lib.hid ho
        have HB3 := Lib.hid (two HB2.out hb3)
        have HS3 := Lib.hid hb3.size
        obtain ⟨d0, d1, d2⟩ := CB.out w3 HB3.out
        clear ho hb3 c0 c1 c2
        go_wp2_with fail
        refine (CS.out _ _ (SL.of_own HO.out)).mono ?_
        rintro e w4 ⟨rfl, hb4⟩
        have HS4 := Lib.hid (Nat.le_trans HS3.out hb4.size)
        have HB4 := Lib.hid (two HB3.out hb4)
        have HO4 := Lib.hid (own_below HO.out hb4)
        obtain ⟨g0, g1, g2⟩ := CB.out w4 HB4.out
        clear hb4 d0 d1 d2 HO
        obtain ⟨a, cap, rfl, _, _⟩ := Rd.parts (SL.of_own HO4.out : Rd 3 File.cells w4 v l)
        go_wp2_with fail
        refine bodyPost_ret (v := .tuple #[.slice none 0 0, errV 7]) (by simp [results, Try.results68, go_sem, errV]) rfl ?_
        exact ⟨_, by rw [HD.out], by rw [HD.out]; exact Rd.nil _, two HB1.out HB4.out⟩
      · have HD : Hid (putAt l f = (l.take k ++ f :: l.drop k, 0)) := Lib.hid (put_new l f HFF.out HR.out k HK.out HI.out h8)
        go_enter Try.func68, Try.ntmps68
        go_wp2_with fail
        rw [← HW1.out]
        refine (CF.out _).mono ?_
        rintro e w2 ⟨rfl, hb2⟩
        have HB2 := Lib.hid hb2
        clear hb2
        go_wp2_with fail
        refine (CC.out _ (two HB1.out HB2.out)).mono ?_
        rintro e w3 ⟨v, rfl, ho, hb3⟩
        have HO := Lib.hid ho
        have HB3 := Lib.hid (two HB2.out hb3)
        have HS3 := Lib.hid hb3.size
        obtain ⟨d0, d1, d2⟩ := CB.out w3 HB3.out
        clear ho hb3 c0 c1 c2
        go_wp2_with fail
        refine (CS.out _ _ (SL.of_own HO.out)).mono ?_
        rintro e w4 ⟨rfl, hb4⟩
        have HS4 := Lib.hid (Nat.le_trans HS3.out hb4.size)
        have HB4 := Lib.hid (two HB3.out hb4)
        have HO4 := Lib.hid (own_below HO.out hb4)
        obtain ⟨g0, g1, g2⟩ := CB.out w4 HB4.out
        clear hb4 d0 d1 d2 HO
        have HBO : Hid (v.ownBlock ≠ some w4.heap.size) := Lib.hid fun h => by have := (HO4.out.lt _ h).2; omega
        obtain ⟨a, cap, rfl, _, _⟩ := Rd.parts (SL.of_own HO4.out : Rd 3 File.cells w4 v l)
        go_wp2_with fail
        refine (files_Insert w2.heap.size _ l f k w4.heap.size 23 _ (HO4.out.alloc _) hl hkl ?_ HBO.out ?_).mono ?_
        · have := HS4.out; simp; omega
        · exact heap_new w4 _
        rintro e w5 ⟨v', rfl, hf5, hb5, _⟩
        have HF5 := Lib.hid hf5
        have HB5 := Lib.hid (two HB1.out (HB4.out.trans (((below_alloc w4 _).mono HB4.out.size).trans (hb5.mono HB2.out.size))))
        clear hf5 hb5 g0 g1 g2
        go_wp2_with fail
        refine bodyPost_ret (v := .tuple #[v', errV 0]) (by simp [results, Try.results68, go_sem, errV]) rfl ?_
        exact ⟨_, by rw [HD.out], by rw [HD.out]; exact HF5.out, HB5.out⟩
    · rw [hi] at CS
      have hkl : k < l.length := isAt_len hi
      have HD : Hid (putAt l f = (l.take k ++ f :: l.drop (k + 1), 0)) := Lib.hid (put_is l f HFF.out HR.out k hkk hi)
      clear hi hkk
      go_enter Try.func68, Try.ntmps68
      go_wp2_with fail
      rw [← HW1.out]
      refine (CF.out _).mono ?_
      rintro e w2 ⟨rfl, hb2⟩
      have HB2 := Lib.hid hb2
      clear hb2
      go_wp2_with fail
      refine (CC.out _ (two HB1.out HB2.out)).mono ?_
      rintro e w3 ⟨v, rfl, ho, hb3⟩
      have HO := Lib.hid ho
      have HB3 := Lib.hid (two HB2.out hb3)
      have HS3 := Lib.hid hb3.size
      obtain ⟨d0, d1, d2⟩ := CB.out w3 HB3.out
      clear ho hb3 c0 c1 c2
      go_wp2_with fail
      refine (CS.out _ _ (SL.of_own HO.out)).mono ?_
      rintro e w4 ⟨rfl, hb4⟩
      have HS4 := Lib.hid (Nat.le_trans HS3.out hb4.size)
      have HB4 := Lib.hid (two HB3.out hb4)
      have HO4 := Lib.hid (own_below HO.out hb4)
      obtain ⟨g0, g1, g2⟩ := CB.out w4 HB4.out
      clear hb4 d0 d1 d2 HO
      obtain ⟨g, cap, rfl⟩ : ∃ g cap, v = .slice (some ⟨g, 0, none⟩) l.length cap := by
        rcases HO4.out.2 with ⟨_, h⟩ | ⟨g, cap, _, h, _⟩
        · omega
        · exact ⟨g, cap, h⟩
      obtain ⟨hbg, hgw, hnc, hc63, hlen, hcell, hsome, hfro, hsh⟩ := own_cells HO4.out
      obtain ⟨b, off, eb, _, y0, y1, y2⟩ := Files.cell (SL.of_own HO4.out : Rd 3 File.cells w4 _ l) k hkl
      simp only [Option.some.injEq, Addr.mk.injEq, and_true] at eb
      obtain ⟨rfl, rfl⟩ := eb
      simp only [Nat.zero_add] at y0 y1 y2
      have z0 := hfro (k * 3)
      have z1 := hfro (k * 3 + 1)
      have z2 := hfro (k * 3 + 2)
      have HFIN := Lib.hid (own_put f k hkl rfl HO4.out)
      have HGW := Lib.hid (Nat.le_trans HB2.out.size hbg)
      clear hlen hcell hsome hfro hsh hbg hgw
      go_wp2_with fail
      have HB5 := Lib.hid (two HB1.out (((HB4.out.setCell (p := ⟨g, k * 3, none⟩) HGW.out (.string f.name)).setCell (p := ⟨g, k * 3 + 1, none⟩) HGW.out (.string f.text)).setCell (p := ⟨g, k * 3 + 2, none⟩) HGW.out (.int .i64 f.times)))
      refine bodyPost_ret (v := .tuple #[.slice (some ⟨g, 0, none⟩) l.length cap, errV 0]) (by simp [results, Try.results68, go_sem, errV]) rfl ?_
      exact ⟨_, by rw [HD.out], by rw [HD.out]; exact HFIN.out, HB5.out⟩
  · have HD : Hid (putAt l f = ([], fileFault f)) := Lib.hid (put_fault l f hff)
    rw [errV_pos hff] at CF
    replace CF := Lib.hid CF
    have HFF := Lib.hid hff
    clear hff
    go_enter Try.func68, Try.ntmps68
    go_wp2_with fail
    rw [← HW1.out]
    refine (CF.out _).mono ?_
    rintro e w2 ⟨rfl, hb2⟩
    have HB2 := Lib.hid (two HB1.out hb2)
    clear hb2
    go_wp2_with fail
    refine bodyPost_ret (v := .tuple #[.slice none 0 0, errV (fileFault f)]) (by rw [errV_pos HFF.out]; simp [results, Try.results68, go_sem]) rfl ?_
    exact ⟨_, by rw [HD.out], by rw [HD.out]; exact Rd.nil _, HB2.out⟩
end Go.Proofs.Ytggpodlecljcbaa
