/- The walks of chapter 2: slices.Clone of files. The walks of chapter 2: putting a file, the reference's way. Plain: dropping and putting, at the place of a name. The walks of chapter 2: slices.Clone on files. The walks of chapter 2: slices.Delete of one file, of a row of one's own. The walks of chapter 2: slices.Insert of one file, into a row of one's own. The walks of chapter 2: shelf.Drop, shelf.Put. The law of chapter 2: ShelfSays, walked. -/
import Derived.Test.YtggpodlecljcbadGreatDoorShelfClone
import Derived.Lib.SliceRun
import Derived.Test.YtggpodlecljcbadGreatDoorMF
import Derived.Test.YtggpodlecljcbadGreatDoorMBb
import Derived.Test.YtggpodlecljcbadGreatDoorMB
namespace Go.Proofs.YtggpodlecljcbadGreatDoor
set_option linter.unusedSimpArgs false
set_option linter.unusedVariables false
open Go.RowKit Go.Sort

theorem I_files : ElemInfo Tryz.prog 34 93 3 40 := elemInfo_of (z := .agg #[.string ⟨#[]⟩, .string ⟨#[]⟩, .int .i64 0]) Tryz.underlying34 (by kernel_rfl) rfl (by decide) (by decide)
theorem three_new {w : World} {a b c : Value} {t : TypeId} : ∀ (j : Nat) (x : Value), [a, b, c][j]? = some x → (w.alloc (.cells #[a, b, c] t)).cell? ((⟨w.heap.size, 0, none⟩ : Addr).add j) = some x := by
  intro j x h
  match j, h with
  | 0, h => simp at h; subst h; rw [Addr.add_lit]; simp
  | 1, h => simp at h; subst h; rw [Addr.add_lit]; simp
  | 2, h => simp at h; subst h; rw [Addr.add_lit]; simp
  | j + 3, h => simp at h
theorem file_one (f : File) : ∀ u ∈ f.cells, u.oneCell' = true := by
  intro u hu
  simp [File.cells] at hu
  rcases hu with rfl | rfl | rfl <;> rfl
/-- A slice that lies in a block from B on, or nowhere. -/
def Fresh (B : Nat) (v : Value) : Prop := ∀ b, v.ownBlock = some b → B ≤ b
theorem fresh_nil (B : Nat) : Fresh B (.slice none 0 0) := fun _ h => by cases h
theorem Fresh.mono {B B' : Nat} {v : Value} (h : Fresh B v) (hb : B' ≤ B) : Fresh B' v := fun b hv => Nat.le_trans hb (h b hv)
theorem fresh_own {w : World} {base e k n : Nat} {v : Value} {xs : List Value} (h : w.ownsRow base e k v n xs) : Fresh base v := fun b hb => (h.lt b hb).1
/-- B2, dropping. -/
def dropAt (l : List File) (name : ByteArray) : List File × Nat := if (getAt l name).isSome then (l.filter (fun f => f.name.toList != name.toList), 0) else ([], 5)
end Go.Proofs.YtggpodlecljcbadGreatDoor
namespace Go.Proofs.YtggpodlecljcbadGreatDoor
set_option linter.unusedSimpArgs false
set_option linter.unusedVariables false
open Go.RowKit Go.Sort

/-- B2, putting: one step, and the steps. -/
def putStep (f : File) (p : List File × Bool) (g : File) : List File × Bool :=
  let q := if p.2 = false ∧ bLe f.name g.name = true then (p.1 ++ [f], true) else p
  if (g.name.toList == f.name.toList) = true then q else (q.1 ++ [g], q.2)
def putTo (l : List File) (f : File) (k : Nat) : List File × Bool := (l.take k).foldl (putStep f) ([], false)
theorem putTo_succ (l : List File) (f : File) (k : Nat) (h : k < l.length) : putTo l f (k + 1) = putStep f (putTo l f k) l[k] := by
  unfold putTo; rw [List.take_succ_eq_append_getElem h, List.foldl_append]; rfl
def putAll (l : List File) (f : File) : List File := if (putTo l f l.length).2 = false then (putTo l f l.length).1 ++ [f] else (putTo l f l.length).1
def putAt (l : List File) (f : File) : List File × Nat := if fileFault f ≠ 0 then ([], fileFault f) else if (getAt l f.name).isSome = false ∧ 8 ≤ l.length then ([], 7) else (putAll l f, 0)

end Go.Proofs.YtggpodlecljcbadGreatDoor
namespace Go.Proofs.YtggpodlecljcbadGreatDoor
set_option linter.unusedSimpArgs false
set_option linter.unusedVariables false
open Go.RowKit Go.Sort
theorem neq_of_gt {a b : ByteArray} (h : bLt b a = true) : (a.toList == b.toList) = false := by
  cases e : (a.toList == b.toList)
  · rfl
  · have : a.toList = b.toList := by simpa using e
    unfold bLt at h
    rw [this, less_irrefl] at h; cases h
theorem same_name_lt {a b c : ByteArray} (h : (a.toList == b.toList) = true) (h2 : bLt a c = true) : bLt b c = true := by
  have : a.toList = b.toList := by simpa using h
  unfold bLt at h2 ⊢; rwa [← this]
theorem drop_rises (l : List File) (name : ByteArray) (hr : Rises l) (r : Nat) (hk : r = rank l name) (h : isAt l name r = true) : l.filter (fun f => f.name.toList != name.toList) = l.take r ++ l.drop (r + 1) := by
  have hl := isAt_len h
  have e : l = l.take r ++ l[r] :: l.drop (r + 1) := by rw [← List.drop_eq_getElem_cons hl, List.take_append_drop]
  rw [isAt_lt l name r hl] at h
  have h1 : (l.take r).filter (fun f => f.name.toList != name.toList) = l.take r := by
    rw [List.filter_eq_self]
    intro x hx
    obtain ⟨t, ht, rfl⟩ := List.getElem_of_mem hx
    rw [List.getElem_take]
    rw [List.length_take] at ht
    have := not_eq_of_lt (rank_before name l t (by omega) (by omega))
    simp only [bne, this, Bool.not_false]
  have h2 : (l.drop (r + 1)).filter (fun f => f.name.toList != name.toList) = l.drop (r + 1) := by
    rw [List.filter_eq_self]
    intro x hx
    obtain ⟨t, ht, rfl⟩ := List.getElem_of_mem hx
    rw [List.getElem_drop]
    rw [List.length_drop] at ht
    have := neq_of_gt (same_name_lt h (hr.at r (r + 1 + t) (by omega) (by omega)))
    simp only [bne, this, Bool.not_false]
  calc l.filter (fun f => f.name.toList != name.toList) = (l.take r ++ l[r] :: l.drop (r + 1)).filter (fun f => f.name.toList != name.toList) := by rw [← e]
    _ = _ := by rw [List.filter_append, h1, List.filter_cons, h2]; simp [bne, h]
theorem not_le_of_lt {a b : ByteArray} (h : bLt b a = true) : bLe a b = false := by
  cases e : bLe a b
  · rfl
  · unfold bLe at e
    rw [Bool.or_eq_true] at e
    rcases e with e | e
    · have h3 : bLt a a = true := bLt_trans (show bLt a b = true from e) h
      rw [bLt_irrefl] at h3; cases h3
    · rw [neq_of_gt h] at e; cases e
theorem put_before (l : List File) (f : File) : ∀ k, k ≤ rank l f.name → k ≤ l.length → putTo l f k = (l.take k, false)
  | 0, _, _ => by simp [putTo]
  | k + 1, h, hl => by
    have hb := rank_before f.name l k (by omega) (by omega)
    rw [putTo_succ l f k (by omega), put_before l f k (by omega) (by omega), putStep]
    dsimp only
    rw [if_neg (by rw [not_eq_of_lt hb]; simp), if_neg (by rw [not_le_of_lt hb]; simp), List.take_succ_eq_append_getElem (show k < l.length by omega)]
theorem put_step_gt (l : List File) (f : File) (k : Nat) (h : k < l.length) (R : List File) (hp : putTo l f k = (R, true)) (hn : (l[k].name.toList == f.name.toList) = false) : putTo l f (k + 1) = (R ++ [l[k]], true) := by
  rw [putTo_succ l f k h, hp, putStep]; simp [hn]
theorem put_after (l : List File) (f : File) (r : Nat) (R : List File) (hp : putTo l f (r + 1) = (R, true)) (hn : ∀ t, (ht : t < l.length) → r < t → (l[t].name.toList == f.name.toList) = false) : ∀ k, r + 1 + k ≤ l.length → putTo l f (r + 1 + k) = (R ++ (l.drop (r + 1)).take k, true)
  | 0, _ => by simp [hp]
  | k + 1, h => by
    have h0 := put_after l f r R hp hn k (by omega)
    have hk : k < (l.drop (r + 1)).length := by rw [List.length_drop]; omega
    have := put_step_gt l f (r + 1 + k) (by omega) _ h0 (hn _ (by omega) (by omega))
    rw [show r + 1 + (k + 1) = r + 1 + k + 1 by omega, this, List.take_succ_eq_append_getElem hk, List.getElem_drop, List.append_assoc]
theorem put_rises (l : List File) (f : File) (hr : Rises l) (r : Nat) (hk : r = rank l f.name) : putAll l f = l.take r ++ f :: l.drop (if isAt l f.name r then r + 1 else r) := by
  have hrl : r ≤ l.length := by rw [hk]; exact rank_le _ _
  have h0 := put_before l f r (by omega) hrl
  by_cases hl : r < l.length
  · have hge := by have := rank_at f.name l (by rw [← hk]; exact hl); simpa [← hk] using this
    have hgt : ∀ t, (ht : t < l.length) → r < t → (l[t].name.toList == f.name.toList) = false := by
      intro t ht hrt
      have h1 := hr.at r t hrt ht
      cases e : (l[t].name.toList == f.name.toList)
      · rfl
      · have h2 : bLt l[r].name f.name = true := by
          have : l[t].name.toList = f.name.toList := by simpa using e
          unfold bLt at h1 ⊢; rwa [← this]
        rw [hge] at h2; cases h2
    have hle : bLe f.name l[r].name = true := by
      cases e : bLe f.name l[r].name
      · have := bLt_of_not_le e
        rw [hge] at this; cases this
      · rfl
    cases hi : isAt l f.name r
    · have hn := hi
      rw [isAt_lt l f.name r hl] at hn
      have h1 : putTo l f (r + 1) = (l.take r ++ [f] ++ [l[r]], true) := by
        rw [putTo_succ l f r hl, h0, putStep]
        dsimp only
        rw [if_neg (by rw [hn]; simp), if_pos ⟨rfl, hle⟩]
      have h2 := put_after l f r _ h1 hgt (l.length - (r + 1)) (by omega)
      rw [show r + 1 + (l.length - (r + 1)) = l.length by omega] at h2
      unfold putAll
      rw [h2, if_neg (by simp), List.take_of_length_le (l := l.drop (r + 1)) (by rw [List.length_drop]; omega), if_neg (by simp), List.drop_eq_getElem_cons hl]
      simp
    · have hn := hi
      rw [isAt_lt l f.name r hl] at hn
      have h1 : putTo l f (r + 1) = (l.take r ++ [f], true) := by
        rw [putTo_succ l f r hl, h0, putStep]
        dsimp only
        rw [if_pos hn, if_pos ⟨rfl, hle⟩]
      have h2 := put_after l f r _ h1 hgt (l.length - (r + 1)) (by omega)
      rw [show r + 1 + (l.length - (r + 1)) = l.length by omega] at h2
      unfold putAll
      rw [h2, if_neg (by simp), List.take_of_length_le (l := l.drop (r + 1)) (by rw [List.length_drop]; omega), if_pos rfl]
      simp
  · have e : r = l.length := by omega
    rw [isAt_ge l f.name r hl, if_neg (by simp), List.drop_of_length_le (by omega)]
    unfold putAll
    rw [← e, h0, if_pos rfl]
end Go.Proofs.YtggpodlecljcbadGreatDoor
namespace Go.Proofs.YtggpodlecljcbadGreatDoor
set_option linter.unusedSimpArgs false
set_option linter.unusedVariables false
open Go.RowKit Go.Sort
set_option maxRecDepth 100000 in
theorem files_Clone (va : Value) (l : List File) (w : World) (ha : Files w va l) (hl : l.length ≤ 8) :
    Calls Tryz.prog 44 #[va] w fun e w' => ∃ v, e = .returned v ∧ w'.ownsRow w.heap.size 93 3 v l.length (l.flatMap File.cells) ∧ Below w.heap.size w w' := by
  obtain ⟨h1, ao, cap, rfl, h2, h3, h4, h5⟩ := ha
  cases ao with
  | none =>
    have e1 : l = [] := by
      cases l with
      | nil => rfl
      | cons f r =>
        obtain ⟨b, off, e, _⟩ := h5 0 (.string f.name) rfl
        cases e
    subst e1
    refine (AnyE.slices_Clone_nil Tryz.cloneFiles 0 cap w).mono ?_
    rintro e w' ⟨rfl, rfl⟩
    exact ⟨_, rfl, World.ownsRow_nil _ _ _ _, Below.refl _ _⟩
  | some a =>
    have H5 : Hid (∀ j u, (l.flatMap File.cells)[j]? = some u → (w.alloc (.cells #[] 93)).cell? (a.add j) = some u) := by
      refine Lib.hid fun j u hj => ?_
      obtain ⟨b, off, e, hc⟩ := h5 j u hj
      cases e
      rw [Addr.add_lit]
      exact cell_on' (below_alloc w _) hc
    have H1 := Lib.hid h1
    replace h3 : cap ≤ 9223372036854775807 := h3
    clear h1 h4 h5
    have q22 : ∀ (w : World) (a : Option Addr) (n c n' c' : Nat), (binOp .eql 34 (.slice a n c) (.slice none n' c')).run Tryz.prog w = .ok (.bool a.isNone) w := fun w a n c n' c' => Lib.run_eql_slice_nil w _ _ a n c n' c' Tryz.underlying34
    go_enter Tryz.func44, Tryz.ntmps44
    go_wp2_with (at_builtin; refine wpList_app I_files rfl _ _ rfl w.heap.size _ 0 [] rfl (World.ownsRow_made w #[] 0 (Nat.le_refl _) (Nat.zero_le _) (by simp)) a l.length cap (l.flatMap File.cells) rfl H1.out ?c1 ?c2 ?c3 ?c4 ?_)
    case c1 => exact H5.out
    case c2 =>
      intro u hu
      obtain ⟨f, _, hf⟩ := List.mem_flatMap.mp hu
      exact file_one f u hf
    case c3 => omega
    case c4 => simp
    intro v' w3 hown3 hg3
    have HB3 := Lib.hid (grown_below (k := 3) (below_alloc w (.cells #[] 93)) (World.ownsRow_made w #[] 0 (Nat.le_refl _) (Nat.zero_le _) (by simp)) hg3 (Nat.le_refl _))
    have HO3 := Lib.hid hown3
    clear hown3 hg3
    go_wp2_with fail
    go_ret
    exact ⟨v', rfl, HO3.out, HB3.out⟩
end Go.Proofs.YtggpodlecljcbadGreatDoor
namespace Go.Proofs.YtggpodlecljcbadGreatDoor
set_option linter.unusedSimpArgs false
set_option linter.unusedVariables false
open Go.RowKit Go.Sort
theorem zero_file : (Builtin.zeroCells (Value.agg #[.string ⟨#[]⟩, .string ⟨#[]⟩, .int .i64 0]).cells 1).toList = [.string ⟨#[]⟩, .string ⟨#[]⟩, .int .i64 0] := by
  first | kernel_rfl | (simp [Builtin.zeroCells, Value.cells]; done) | (apply List.ext_getElem <;> simp [Builtin.zeroCells])
theorem flat_insert (l : List File) (f : File) (i : Nat) : (l.take i ++ f :: l.drop i).flatMap File.cells = (l.take i).flatMap File.cells ++ f.cells ++ (l.drop i).flatMap File.cells := by
  rw [List.flatMap_append, List.flatMap_cons, List.append_assoc]
theorem flat_split (l : List File) (i : Nat) : l.flatMap File.cells = (l.take i).flatMap File.cells ++ (l.drop i).flatMap File.cells := by
  rw [← List.flatMap_append, List.take_append_drop]
theorem flat_one {l : List File} : ∀ u ∈ l.flatMap File.cells, u.oneCell' = true := by
  intro u hu
  obtain ⟨f, _, hf⟩ := List.mem_flatMap.mp hu
  exact file_one f u hf
theorem info_size : (Tryz.prog.info? 93).map (·.size) = some 3 := by
  obtain ⟨i0, z0, e1, e2, e3, e4, _⟩ := I_files
  rw [e2]; simp [e4]
theorem read_list {w : World} {g n cap : Nat} {l : List File} (hn : n = l.length) (hc : n ≤ cap) (hm : cap ≤ 9223372036854775807) (h : ∀ j u, (l.flatMap File.cells)[j]? = some u → w.cell? ⟨g, j, none⟩ = some u) : Files w (.slice (some ⟨g, 0, none⟩) n cap) l := by
  subst hn
  refine ⟨flat_length (k := 3) (enc := File.cells) (fun _ => rfl) l, some ⟨g, 0, none⟩, cap, rfl, hc, hm, (fun _ h => by cases h), fun j u hj => ⟨g, 0, rfl, ?_⟩⟩
  rw [Nat.zero_add]; exact h j u hj
theorem take_cells (l : List File) (i : Nat) (hi : i ≤ l.length) : ((l.take i).flatMap File.cells).length = i * 3 := by rw [flat_length (k := 3) (fun _ => rfl), List.length_take, Nat.min_eq_left hi]
theorem drop_cells (l : List File) (i : Nat) : ((l.drop i).flatMap File.cells).length = (l.length - i) * 3 := by rw [flat_length (k := 3) (fun _ => rfl), List.length_drop]

set_option maxRecDepth 100000 in
set_option maxHeartbeats 1000000 in
theorem files_Delete (base : Nat) (v : Value) (l : List File) (i : Nat) (w : World) (ho : w.ownsRow base 93 3 v l.length (l.flatMap File.cells)) (hi : i < l.length) (hl : l.length ≤ 8) :
    Calls Tryz.prog 63 #[v, .int .i64 i, .int .i64 ((i : Int) + 1)] w fun e w' => ∃ v', e = .returned v' ∧ Files w' v' (l.take i ++ l.drop (i + 1)) ∧ Below base w w' ∧ Fresh base v' := by
  obtain ⟨g, cap, rfl⟩ : ∃ g cap, v = .slice (some ⟨g, 0, none⟩) l.length cap := by
    rcases ho.2 with ⟨_, h⟩ | ⟨g, cap, _, h, _⟩
    · omega
    · exact ⟨g, cap, h⟩
  obtain ⟨hb, hgw, hnc, hc63, hlen, hcell, hsome, hfro, _⟩ := own_cells ho
  have hic : i ≤ cap := by omega
  have hjc : i + 1 ≤ cap := by omega
  have HC := Lib.hid hcell
  have HS := Lib.hid hsome
  have HF := Lib.hid hfro
  have HO := Lib.hid ho
  clear hcell hsome hfro ho hlen
  obtain ⟨news, hnews⟩ : ∃ news, news = (l.drop (i + 1)).flatMap File.cells := ⟨_, rfl⟩
  have hnl : news.length = (l.length - (i + 1)) * 3 := by rw [hnews, flat_length (k := 3) (fun _ => rfl), List.length_drop]
  obtain ⟨A, hA, hsrc⟩ : ∃ A : Addr, (if cap = i + 1 then (some (⟨g, 0, none⟩ : Addr)) else some ⟨g, (i + 1) * 3, none⟩) = some A ∧ Hid (∀ t u, news[t]? = some u → w.drew.cell? (A.add t) = some u) := by
    by_cases h : cap = i + 1
    · refine ⟨⟨g, 0, none⟩, by simp [h], Lib.hid fun t u hu => ?_⟩
      have h0 : news.length = 0 := by rw [hnl]; omega
      rw [List.length_eq_zero_iff.1 h0] at hu
      simp at hu
    · refine ⟨⟨g, (i + 1) * 3, none⟩, by simp [h], Lib.hid fun t u hu => ?_⟩
      rw [Addr.add_lit]
      refine HC.out ((i + 1) * 3 + t) u ?_
      rw [hnews] at hu
      have e : l.flatMap File.cells = (l.take (i + 1)).flatMap File.cells ++ (l.drop (i + 1)).flatMap File.cells := by rw [← List.flatMap_append, List.take_append_drop]
      have e2 : ((l.take (i + 1)).flatMap File.cells).length = (i + 1) * 3 := by rw [flat_length (k := 3) (fun _ => rfl), List.length_take]; congr 1; omega
      rw [e, List.getElem?_append_right (by omega), e2, show (i + 1) * 3 + t - (i + 1) * 3 = t by omega]
      exact hu
  have s2 : Hid (∀ u ∈ news, u.oneCell' = true) := by
    refine Lib.hid fun u hu => ?_
    rw [hnews] at hu
    obtain ⟨f, _, hf⟩ := List.mem_flatMap.mp hu
    exact file_one f u hf
  have s3 : Hid (∀ t, t < news.length → (w.drew.cell? ⟨g, 0 + i * 3 + t, none⟩).isSome = true ∧ w.drew.frozen? ⟨g, 0 + i * 3 + t, none⟩ = false) := Lib.hid fun t ht => ⟨HS.out _ (by rw [hnl] at ht; omega), HF.out _⟩
  obtain ⟨W1, hW1⟩ : ∃ W1, W1 = w.drew.setCells g (0 + i * 3) news := ⟨_, rfl⟩
  have s1 := Lib.hid hnl
  have hW := Lib.hid hW1
  have HN := Lib.hid hnews
  clear hnl hnews hW1
  have S1 : Hid (∀ j, j < cap * 3 → (W1.cell? ⟨g, j, none⟩).isSome = true) := Lib.hid fun j hj => by rw [hW.out]; exact isSome_setCells g news _ _ (fun t ht => (s3.out t ht).1) j (HS.out j hj)
  have F1 : Hid (∀ j, W1.frozen? ⟨g, j, none⟩ = false) := Lib.hid fun j => by rw [hW.out, World.frozen?_setCells]; exact HF.out j
  obtain ⟨W2, hW2⟩ : ∃ W2, W2 = W1.setCells g ((i + (l.length - (i + 1))) * 3) [.string ⟨#[]⟩, .string ⟨#[]⟩, .int .i64 0] := ⟨_, rfl⟩
  have hcl : ∀ ty, (Builtin.clear_ #[34] ty #[.slice (some ⟨g, (i + (l.length - (i + 1))) * 3, none⟩) (l.length - (i + (l.length - (i + 1)))) (cap - (i + (l.length - (i + 1))))]).run Tryz.prog W1 = .ok (.tuple #[]) W2 := by
    intro ty
    rw [hW2, show l.length - (i + (l.length - (i + 1))) = 1 by omega]
    refine run_clear_one W1 _ _ ty _ _ Tryz.underlying34 Tryz.zeroValue93 zero_file ?_ g _ _ ?_ ?_
    · intro u hu; simp at hu; rcases hu with rfl | rfl | rfl <;> rfl
    · intro j hj; simp at hj; exact S1.out _ (by omega)
    · intro j hj; exact F1.out _
  have HFIN : Hid (Files W2 (.slice (some ⟨g, 0, none⟩) (i + (l.length - (i + 1))) cap) (l.take i ++ l.drop (i + 1)) ∧ Below base w W2 ∧ Fresh base (.slice (some ⟨g, 0, none⟩) (i + (l.length - (i + 1))) cap)) := by
    refine Lib.hid ⟨?_, ?_, fun b h => by cases h; exact hb⟩
    · refine read_list (by simp; omega) (by omega) hc63 ?_
      rw [List.flatMap_append, ← HN.out, hW2]
      have hnl := s1.out
      intro j u hj
      have hj' := (List.getElem?_eq_some_iff.1 hj).1
      rw [List.length_append, take_cells l i (by omega), hnl] at hj'
      rw [cells_out _ _ _ (Or.inl (by omega)), hW.out]
      revert j u hj hj'
      have R := two_read (W := w.drew.setCells g (0 + i * 3) news) (g := g) ((l.take i).flatMap File.cells) news ?_ ?_
      · intro j u hj _; exact R j u hj
      · intro j u hj
        have hj' := (List.getElem?_eq_some_iff.1 hj).1
        rw [take_cells l i (by omega)] at hj'
        rw [cells_out _ _ _ (Or.inl (by omega))]
        refine HC.out j u ?_
        rw [flat_split l i, List.getElem?_append_left (by rw [take_cells l i (by omega)]; omega)]
        exact hj
      · intro j u hj
        rw [take_cells l i (by omega), show i * 3 + j = 0 + i * 3 + j by omega]
        exact cells_in _ _ (fun t ht => (s3.out t ht).1) j u hj
    · rw [hW2, hW.out]
      exact below_cells hb _ _ _ (below_cells hb _ _ _ (Below.refl _ _).drew)
  clear hW2
  obtain ⟨i0, z0, e1, e2, e3, e4, e5, e6, e7, e8⟩ := I_files
  have mixed : Tryz.prog.follows .mixedOrders = true := by kernel_rfl
  have hbd : 0 ≤ (i : Int) + 1 ∧ (i : Int) + 1 ≤ (l.length : Int) := ⟨by omega, by omega⟩
  have hbd1 : (0 : Int) ≤ (i : Int) + 1 := by omega
  have hbd2 : (i : Int) + 1 ≤ (l.length : Int) := by omega
  go_enter Tryz.func63, Tryz.ntmps63
  go_wp2_with fail
  go_region_law_o (refine step_append_room rfl (.tmp 22) (.tmp 25) 34 rfl 93 i0 3 e1 e2 e4 g 0 i cap (by simp [Act.eval, Act.put]) A (l.length - (i + 1)) (cap - (i + 1)) news (by simp [Act.eval, Act.put]) s1.out hsrc.out s2.out (by omega) s3.out ?_; rw [← hW.out])
  go_wp2_with fail
  go_ret
  exact ⟨_, rfl, HFIN.out⟩
end Go.Proofs.YtggpodlecljcbadGreatDoor
namespace Go.Proofs.YtggpodlecljcbadGreatDoor
set_option linter.unusedSimpArgs false
set_option linter.unusedVariables false
open Go.RowKit Go.Sort
theorem insert_end (l : List File) (f : File) : l.take l.length ++ f :: l.drop l.length = l ++ [f] := by rw [List.take_length, List.drop_length]

set_option maxRecDepth 100000 in
set_option maxHeartbeats 1000000 in
theorem files_Insert_end (base : Nat) (v : Value) (l : List File) (f : File) (vb : Nat) (vt : TypeId) (w : World) (ho : w.ownsRow base 93 3 v l.length (l.flatMap File.cells)) (hl : l.length ≤ 8) (hbase : base ≤ w.heap.size)
    (hx : w.heap[vb]? = some (.cells #[.string f.name, .string f.text, .int .i64 f.times] vt (0, 0))) :
    Calls Tryz.prog 62 #[v, .int .i64 l.length, .slice (some ⟨vb, 0, none⟩) 1 1] w fun e w' => ∃ v', e = .returned v' ∧ Files w' v' (l ++ [f]) ∧ Below base w w' ∧ Fresh base v' := by
  have hnews : Hid (∀ j u, f.cells[j]? = some u → w.cell? ((⟨vb, 0, none⟩ : Addr).add j) = some u) := by
    refine Lib.hid fun j u hj => ?_
    rw [Addr.add_lit, Nat.zero_add]
    simp only [World.cell?, hx]
    simpa [File.cells] using hj
  obtain ⟨ao, cap, rfl, hcap, hm, H⟩ : ∃ ao cap, v = .slice ao l.length cap ∧ l.length ≤ cap ∧ cap ≤ 9223372036854775807 ∧ Hid (w.ownsRow base 93 3 v l.length (l.flatMap File.cells)) := by
    have h2 := ho.2
    rcases h2 with ⟨rfl, h0⟩ | ⟨g, cap, cur, rfl, _, _, h1, h2, _⟩
    · exact ⟨none, 0, by rw [h0], by omega, by omega, Lib.hid ho⟩
    · exact ⟨_, cap, rfl, h1, h2, Lib.hid ho⟩
  clear ho hx
  have h63 : l.length + 1 ≤ 1000000000 := by omega
  rcases (show cap = l.length ∨ cap ≠ l.length by omega) with rfl | hcc
  all_goals
    go_enter Tryz.func62, Tryz.ntmps62
    go_wp2_with (at_builtin; refine wpList_app I_files rfl _ _ rfl base _ _ _ rfl H.out ⟨vb, 0, none⟩ 1 1 f.cells rfl rfl hnews.out (file_one f) h63 hbase ?_)
    intro v' w3 hown3 hg3
    have HB3 := Lib.hid ((Below.refl base w).grown hg3 hbase (fun j hj => (H.out.lt j hj).1))
    have HO3 := Lib.hid hown3
    clear hown3 hg3
    go_wp2_with fail
    go_ret
    refine ⟨v', rfl, ?_, HB3.out, fresh_own HO3.out⟩
    have := SL.of_own HO3.out
    unfold Files Rd
    rw [flat_append, List.length_append]
    exact this

set_option maxRecDepth 100000 in
set_option maxHeartbeats 1000000 in
theorem files_Insert_shift (base g cap : Nat) (l : List File) (f : File) (i : Nat) (vb : Nat) (vt : TypeId) (w : World) (ho : w.ownsRow base 93 3 (.slice (some ⟨g, 0, none⟩) l.length cap) l.length (l.flatMap File.cells)) (hl : l.length ≤ 8) (hi : i < l.length) (hroom : l.length + 1 ≤ cap)
    (hvb : vb ≠ g) (hx : w.heap[vb]? = some (.cells #[.string f.name, .string f.text, .int .i64 f.times] vt (0, 0))) :
    Calls Tryz.prog 62 #[.slice (some ⟨g, 0, none⟩) l.length cap, .int .i64 i, .slice (some ⟨vb, 0, none⟩) 1 1] w fun e w' => ∃ v', e = .returned v' ∧ Files w' v' (l.take i ++ f :: l.drop i) ∧ Below base w w' ∧ Fresh base v' := by
  obtain ⟨hb, hgw, hnc, hc63, hlen, hcell, hsome, hfro, hsh⟩ := own_cells ho
  have hxs : w.shape? vb = some (vt, 3) := by simp [World.shape?, hx]
  have hxf : ∀ j, w.frozen? ⟨vb, j, none⟩ = false := fun j => by simp [World.frozen?, hx]
  have hxc : ∀ j u, f.cells[j]? = some u → w.cell? ⟨vb, j, none⟩ = some u := fun j u hj => by simp only [World.cell?, hx]; simpa [File.cells] using hj
  have hsz : ∀ w, (Go.sizeOf 93).run Tryz.prog w = .ok 3 w := fun w => by kernel_rfl
  have hov : ∀ lb cb, (callFunc 93 #[.slice (some ⟨vb, 0, none⟩) 1 1, .slice (some ⟨g, (i + 1) * 3, none⟩) lb cb]).run Tryz.prog w = .ok (.value (.bool false)) w := fun lb cb => by
    rw [run_callFunc_extern Tryz.func93 (by kernel_rfl) (by kernel_rfl) (by kernel_rfl) (e := Extern.SlicesOverlaps.overlaps #[34, 34] #[4]) (by kernel_rfl),
      Lib.run_overlaps_apart w 34 4 93 Tryz.underlying34 3 hsz ⟨vb, 0, none⟩ ⟨g, (i + 1) * 3, none⟩ 1 1 lb cb hvb vt 93 3 (cap * 3) hxs hsh (by omega) (hxf _) (hxf _)]
    rfl
  obtain ⟨post, hpost⟩ : ∃ post, post = (l.drop i).flatMap File.cells := ⟨_, rfl⟩
  have hpl : post.length = (l.length - i) * 3 := by rw [hpost, drop_cells]
  have hpc : ∀ j u, post[j]? = some u → w.cell? ⟨g, i * 3 + j, none⟩ = some u := fun j u hj => by
    refine hcell (i * 3 + j) u ?_
    rw [flat_split l i, List.getElem?_append_right (by rw [take_cells l i (by omega)]; omega), take_cells l i (by omega), show i * 3 + j - i * 3 = j by omega, ← hpost]
    exact hj
  have hp1 : ∀ u ∈ post, u.oneCell' = true := by rw [hpost]; exact flat_one
  have hcp1 : ∀ ty dc sc, (Builtin.copy_ #[34, 34] ty #[.slice (some ⟨g, (i + 1) * 3, none⟩) (l.length - i) dc, .slice (some ⟨g, i * 3, none⟩) (l.length + 1 - i) sc]).run Tryz.prog w.drew = .ok (goInt (Nat.min (l.length + 1 - i) (l.length - i))) (w.drew.setCells g ((i + 1) * 3) post) := fun ty dc sc =>
    run_copy_kcells w.drew _ _ ty 93 3 g ((i + 1) * 3) _ dc ⟨g, i * 3, none⟩ _ sc post Tryz.underlying34 info_size (by rw [hpl, show Nat.min (l.length + 1 - i) (l.length - i) = l.length - i by simp only [Nat.min_def]; split <;> omega])
      (fun j v hj => by rw [Addr.add_lit]; exact hpc j v hj) (fun j hj => hsome _ (by omega)) (fun j hj => hfro _) hp1
  obtain ⟨W1, hW1⟩ : ∃ W1, W1 = w.drew.setCells g ((i + 1) * 3) post := ⟨_, rfl⟩
  have hs1 : ∀ j, j < cap * 3 → (W1.cell? ⟨g, j, none⟩).isSome = true := fun j hj => by
    rw [hW1]
    exact isSome_setCells g post ((i + 1) * 3) w.drew (fun t ht => hsome _ (by omega)) _ (hsome j hj)
  have hcp2 : ∀ (W : World), (∀ x, W.cell? x = W1.cell? x) → (∀ x, W.frozen? x = W1.frozen? x) → ∀ ty dc, (Builtin.copy_ #[34, 34] ty #[.slice (some ⟨g, i * 3, none⟩) (l.length + 1 - i) dc, .slice (some ⟨vb, 0, none⟩) 1 1]).run Tryz.prog W = .ok (goInt (Nat.min 1 (l.length + 1 - i))) (W.setCells g (i * 3) f.cells) := fun W hWc hWf ty dc =>
    run_copy_kcells W _ _ ty 93 3 g (i * 3) _ dc ⟨vb, 0, none⟩ 1 1 f.cells Tryz.underlying34 info_size (by rw [show Nat.min 1 (l.length + 1 - i) = 1 by simp only [Nat.min_def]; split <;> omega]; rfl)
      (fun j v hj => by rw [Addr.add_lit, Nat.zero_add, hWc, hW1, cells_other _ _ _ hvb]; exact hxc j v hj)
      (fun j hj => by rw [hWc]; rw [File.cells_len] at hj; exact hs1 _ (by omega)) (fun j hj => by rw [hWf, hW1, World.frozen?_setCells]; exact hfro _) (file_one f)
  rw [← hW1] at hcp1
  have HFIN : Hid (Files (W1.setCells g (i * 3) f.cells) (.slice (some ⟨g, 0, none⟩) (l.length + 1) cap) (l.take i ++ f :: l.drop i) ∧ Below base w (W1.setCells g (i * 3) f.cells) ∧ Fresh base (.slice (some ⟨g, 0, none⟩) (l.length + 1) cap)) := by
    refine Lib.hid ⟨?_, ?_, fun b h => by cases h; exact hb⟩
    · refine read_list (by simp; omega) hroom hc63 ?_
      rw [flat_insert, ← hpost]
      have R := read_shift (w := w.drew) (g := g) ((l.take i).flatMap File.cells) f.cells post ?_ ?_
      · rw [take_cells l i (by omega), File.cells_len, show i * 3 + 3 = (i + 1) * 3 by omega, ← hW1] at R
        exact R
      · intro j u hj
        refine hcell j u ?_
        have hj' := (List.getElem?_eq_some_iff.1 hj).1
        rw [flat_split l i, List.getElem?_append_left hj']
        exact hj
      · intro j hj
        rw [take_cells l i (by omega), File.cells_len, hpl] at hj
        exact hsome _ (by omega)
    · rw [hW1]
      exact below_cells hb _ _ _ (below_cells hb _ _ _ (Below.refl _ _).drew)
  have HC1 := Lib.hid hcp1
  have HC2 := Lib.hid hcp2
  have HOV := Lib.hid hov
  clear hcell hsome hfro hsh hxs hxf hxc hsz hov hpost hpl hpc hp1 hcp1 hW1 hs1 hcp2 ho hx hlen
  have hz2 : ¬ ((i : Int) = (l.length : Int)) := by omega
  have hw1 : IntKind.i64.wrap ((i : Int) + 1) = (i : Int) + 1 := by rw [IntKind.wrap_i64]; omega
  have hb1 : (0 : Int) ≤ (i : Int) + 1 := by omega
  have htn : ((i : Int) + 1).toNat = i + 1 := by omega
  have hb2 : ¬ (cap = i + 1) := by omega
  have hb3 : (i : Int) ≤ (l.length : Int) + 1 := by omega
  have hb4 : ¬ (cap = i) := by omega
  have hb5 : i ≤ l.length := by omega
  have mixed : Tryz.prog.follows .mixedOrders = true := by kernel_rfl
  go_enter Tryz.func62, Tryz.ntmps62
  go_wp2_with (simp only [HOV.out])
  go_region_law_o (refine step_copy_runI rfl _ _ 34 34 rfl (.slice (some ⟨g, (i + 1) * 3, none⟩) (l.length - i) (cap - (i + 1))) (.slice (some ⟨g, i * 3, none⟩) (l.length + 1 - i) (cap - i)) (by simp [Act.eval, Act.put]) (by simp [Act.eval, Act.put]) (HC1.out 3 (cap - (i + 1)) (cap - i)) ?_)
  go_wp2_with (simp only [HC2.out W1 (fun _ => rfl) (fun _ => rfl)])
  go_ret
  exact ⟨_, rfl, HFIN.out⟩
set_option maxRecDepth 100000 in
set_option maxHeartbeats 1000000 in
theorem files_Insert_grow (base g cap : Nat) (l : List File) (f : File) (i : Nat) (vb : Nat) (vt : TypeId) (w : World) (ho : w.ownsRow base 93 3 (.slice (some ⟨g, 0, none⟩) l.length cap) l.length (l.flatMap File.cells)) (hl : l.length ≤ 8) (hi : i < l.length) (hroom : cap = l.length)
    (hbase : base ≤ w.heap.size) (hx : w.heap[vb]? = some (.cells #[.string f.name, .string f.text, .int .i64 f.times] vt (0, 0))) :
    Calls Tryz.prog 62 #[.slice (some ⟨g, 0, none⟩) l.length cap, .int .i64 i, .slice (some ⟨vb, 0, none⟩) 1 1] w fun e w' => ∃ v', e = .returned v' ∧ Files w' v' (l.take i ++ f :: l.drop i) ∧ Below base w w' ∧ Fresh base v' := by
  obtain ⟨hb, hgw, hnc, hc63, hlen, hcell, hsome, hfro, hsh⟩ := own_cells ho
  have hxc : ∀ j u, f.cells[j]? = some u → w.cell? ⟨vb, j, none⟩ = some u := fun j u hj => by simp only [World.cell?, hx]; simpa [File.cells] using hj
  have hvw : vb < w.heap.size := World.block_lt_of_cell? w ⟨vb, 0, none⟩ (hxc 0 _ rfl)
  obtain ⟨i0, z0, e1, e2, e3, e4, e5, e6, e7, e8⟩ := I_files
  obtain ⟨pre, hpre⟩ : ∃ pre, pre = (l.take i).flatMap File.cells := ⟨_, rfl⟩
  have hql : pre.length = i * 3 := by rw [hpre, take_cells l i (by omega)]
  have hqc : ∀ j u, pre[j]? = some u → w.cell? ⟨g, j, none⟩ = some u := fun j u hj => by
    refine hcell j u ?_
    have hj' := (List.getElem?_eq_some_iff.1 hj).1
    rw [flat_split l i, ← hpre, List.getElem?_append_left hj']
    exact hj
  obtain ⟨post, hpost⟩ : ∃ post, post = (l.drop i).flatMap File.cells := ⟨_, rfl⟩
  have hpl : post.length = (l.length - i) * 3 := by rw [hpost, drop_cells]
  have hpc : ∀ j u, post[j]? = some u → w.cell? ⟨g, i * 3 + j, none⟩ = some u := fun j u hj => by
    refine hcell (i * 3 + j) u ?_
    rw [flat_split l i, List.getElem?_append_right (by rw [take_cells l i (by omega)]; omega), take_cells l i (by omega), show i * 3 + j - i * 3 = j by omega, ← hpost]
    exact hj
  have hp1 : ∀ u ∈ post, u.oneCell' = true := by rw [hpost]; exact flat_one
  have hold : (Builtin.firstCells i0.size i (.slice (some ⟨g, 0, none⟩) i cap)).run Tryz.prog w.drew = .ok pre.toArray w.drew := by
    rw [e4]
    exact run_firstCells_some w.drew 3 i ⟨g, 0, none⟩ i cap pre hql (fun j v hj => by rw [Addr.add_lit, Nat.zero_add]; exact hqc j v hj)
  have hkk : (l.length : Int) + 1 - (i : Int) = ((l.length + 1 - i : Nat) : Int) := by omega
  have hik : i + (l.length + 1 - i) = l.length + 1 := by omega
  obtain ⟨G, hG⟩ : ∃ G, G = grownCap w (l.length + 1) cap 93 := ⟨_, rfl⟩
  obtain ⟨ROW, hROW⟩ : ∃ ROW : Array Value, ROW = pre.toArray ++ Builtin.zeroCells z0.cells (l.length + 1 - i) ++ Builtin.zeroCells z0.cells (G - (l.length + 1)) := ⟨_, rfl⟩
  have hGn : l.length + 1 ≤ G := by rw [hG]; exact grownCap_ge w _ _ _
  have hG63 : G ≤ 9223372036854775807 := by
    have := grownCap_le_maxLen w (l.length + 1) cap 93 (by unfold maxLen; omega)
    rw [← hG] at this
    unfold maxLen at this
    omega
  have hRl : ROW.size = G * 3 := by
    rw [hROW]
    simp [Builtin.zeroCells, e6, hql]
    omega
  have hrz : ∀ ty, (Builtin.append_ #[34, 3] ty #[.slice (some ⟨g, 0, none⟩) i cap, .int .i64 ((l.length : Int) + 1 - (i : Int))]).run Tryz.prog w =
      .ok (.slice (some ⟨w.heap.size, 0, none⟩) (l.length + 1) G) (w.drew.alloc (.cells ROW 93)) := fun ty => by
    have h := Lib.run_append_grow_zeros w 34 3 ty 93 i0 z0 .i64 .i64 Tryz.underlying34 Tryz.underlying3 e2 e3 (some ⟨g, 0, none⟩) i cap pre hold (l.length + 1 - i) (by omega) (by omega) (by omega) (by omega) (by rw [e5]; omega) (by rw [e5, hik]; exact growslice_fits (by omega) (by omega))
    rw [hik] at h
    rw [hkk, hROW, hG]
    exact h
  obtain ⟨W1, hW1⟩ : ∃ W1, W1 = w.drew.alloc (.cells ROW 93) := ⟨_, rfl⟩
  rw [← hW1] at hrz
  have hN : ∀ j, j < G * 3 → (W1.cell? ⟨w.heap.size, j, none⟩).isSome = true := fun j hj => by
    rw [hW1, World.cell?_alloc_at (w := w.drew) ROW _ w.heap.size j rfl, Array.getElem?_eq_getElem (by omega)]; rfl
  have hNp : ∀ j u, pre[j]? = some u → W1.cell? ⟨w.heap.size, j, none⟩ = some u := fun j u hj => by
    have hj' := (List.getElem?_eq_some_iff.1 hj).1
    rw [hW1, World.cell?_alloc_at (w := w.drew) ROW _ w.heap.size j rfl, hROW, Array.getElem?_append_left (by simp; omega), Array.getElem?_append_left (by simp; omega)]
    simpa using hj
  have hNf : ∀ j, W1.frozen? ⟨w.heap.size, j, none⟩ = false := fun j => by rw [hW1]; exact World.frozen?_alloc_at (w := w.drew) ROW _ w.heap.size j rfl
  have hOb : ∀ b j v, b < w.heap.size → w.cell? ⟨b, j, none⟩ = some v → W1.cell? ⟨b, j, none⟩ = some v := fun b j v hb h => by rw [hW1, World.cell?_alloc_past (w := w.drew) _ b j hb]; exact h
  have hcpA : ∀ ty dc, (Builtin.copy_ #[34, 34] ty #[.slice (some ⟨w.heap.size, i * 3, none⟩) (l.length + 1 - i) dc, .slice (some ⟨vb, 0, none⟩) 1 1]).run Tryz.prog W1 = .ok (goInt (Nat.min 1 (l.length + 1 - i))) (W1.setCells w.heap.size (i * 3) f.cells) := fun ty dc =>
    run_copy_kcells W1 _ _ ty 93 3 w.heap.size (i * 3) _ dc ⟨vb, 0, none⟩ 1 1 f.cells Tryz.underlying34 info_size (by rw [show Nat.min 1 (l.length + 1 - i) = 1 by simp only [Nat.min_def]; split <;> omega]; rfl)
      (fun j v hj => by rw [Addr.add_lit, Nat.zero_add]; exact hOb _ _ _ hvw (hxc j v hj))
      (fun j hj => by rw [File.cells_len] at hj; exact hN _ (by omega)) (fun j hj => hNf _) (file_one f)
  obtain ⟨W2, hW2⟩ : ∃ W2, W2 = W1.setCells w.heap.size (i * 3) f.cells := ⟨_, rfl⟩
  rw [← hW2] at hcpA
  have hcpB : ∀ ty dc sc, (Builtin.copy_ #[34, 34] ty #[.slice (some ⟨w.heap.size, (i + 1) * 3, none⟩) (l.length - i) dc, .slice (some ⟨g, i * 3, none⟩) (l.length - i) sc]).run Tryz.prog W2.drew = .ok (goInt (Nat.min (l.length - i) (l.length - i))) (W2.drew.setCells w.heap.size ((i + 1) * 3) post) := fun ty dc sc =>
    run_copy_kcells W2.drew _ _ ty 93 3 w.heap.size ((i + 1) * 3) _ dc ⟨g, i * 3, none⟩ _ sc post Tryz.underlying34 info_size (by rw [hpl, show Nat.min (l.length - i) (l.length - i) = l.length - i by simp])
      (fun j v hj => by
        rw [Addr.add_lit]
        show W2.cell? _ = _
        rw [hW2, cells_other _ _ _ (by omega)]
        exact hOb _ _ _ hgw (hpc j v hj))
      (fun j hj => by
        show (W2.cell? _).isSome = true
        rw [hW2]
        exact isSome_setCells w.heap.size f.cells (i * 3) W1 (fun t ht => by rw [File.cells_len] at ht; exact hN _ (by omega)) _ (hN _ (by omega)))
      (fun j hj => by
        show W2.frozen? _ = false
        rw [hW2, World.frozen?_setCells]; exact hNf _) hp1
  obtain ⟨W3, hW3⟩ : ∃ W3, W3 = W2.drew.setCells w.heap.size ((i + 1) * 3) post := ⟨_, rfl⟩
  rw [← hW3] at hcpB
  have HFIN : Hid (Files W3 (.slice (some ⟨w.heap.size, 0, none⟩) (l.length + 1) G) (l.take i ++ f :: l.drop i) ∧ Below base w W3 ∧ Fresh base (.slice (some ⟨w.heap.size, 0, none⟩) (l.length + 1) G)) := by
    refine Lib.hid ⟨?_, ?_, fun b h => by cases h; exact hbase⟩
    · refine read_list (by simp; omega) hGn hG63 ?_
      rw [flat_insert, ← hpost, ← hpre]
      have R := read_grow (w := W1) (g := w.heap.size) pre f.cells post hNp (fun j hj => hN _ (by rw [hql, hpl, File.cells_len] at hj; omega))
      rw [hql, File.cells_len, show i * 3 + 3 = (i + 1) * 3 by omega, ← hW2] at R
      rw [hW3, ← drew_setCells]
      exact R
    · rw [hW3]
      refine below_cells hbase _ _ _ (Below.drew ?_)
      rw [hW2]
      refine below_cells hbase _ _ _ ?_
      rw [hW1]
      exact (Below.refl _ _).drew.alloc hbase _
  have HRZ := Lib.hid hrz
  have HA := Lib.hid hcpA
  have HB := Lib.hid hcpB
  have hw1 : IntKind.i64.wrap ((i : Int) + 1) = (i : Int) + 1 := by rw [IntKind.wrap_i64]; omega
  have hz2 : ¬ ((i : Int) = (l.length : Int)) := by omega
  have hz3 : (cap : Int) < (l.length : Int) + 1 := by omega
  have hb1 : (0 : Int) ≤ (i : Int) + 1 := by omega
  have htn : ((i : Int) + 1).toNat = i + 1 := by omega
  have hb3 : (i : Int) ≤ (l.length : Int) + 1 := by omega
  have hb5 : i ≤ l.length := by omega
  have hb6 : i ≤ cap := by omega
  have hci : ¬ (cap = i) := by omega
  have hGi : ¬ (G = i) := by omega
  have hGim : ¬ (G = i + 1) := by omega
  have mixed : Tryz.prog.follows .mixedOrders = true := by kernel_rfl
  clear hcell hsome hfro hsh hx hxc hvw e1 e2 e3 e4 e5 e6 e7 e8 hpre hql hqc hpost hpl hpc hp1 hold hkk hik hG hROW hRl hrz hW1 hN hNp hNf hOb hcpA hW2 hcpB hW3 ho hlen hroom hb hgw
  go_enter Tryz.func62, Tryz.ntmps62
  go_wp2_with (first
    | (at_builtin; refine Lib.wpList_append_run _ rfl _ _ _ _ rfl _ _ rfl rfl _ _ (HRZ.out _) ?_)
    | (simp only [HA.out]))
  go_region_law_o (refine step_copy_runI rfl _ _ 34 34 rfl (.slice (some ⟨w.heap.size, (i + 1) * 3, none⟩) (l.length - i) (G - (i + 1))) (.slice (some ⟨g, i * 3, none⟩) (l.length - i) (cap - i)) (by simp [Act.eval, Act.put]) (by simp [Act.eval, Act.put]) (HB.out 3 (G - (i + 1)) (cap - i)) ?_)
  go_wp2_with fail
  go_ret
  exact ⟨_, rfl, HFIN.out⟩

theorem files_Insert (base : Nat) (v : Value) (l : List File) (f : File) (i : Nat) (vb : Nat) (vt : TypeId) (w : World) (ho : w.ownsRow base 93 3 v l.length (l.flatMap File.cells)) (hl : l.length ≤ 8) (hi : i ≤ l.length)
    (hbase : base ≤ w.heap.size) (hvb : v.ownBlock ≠ some vb) (hx : w.heap[vb]? = some (.cells #[.string f.name, .string f.text, .int .i64 f.times] vt (0, 0))) :
    Calls Tryz.prog 62 #[v, .int .i64 i, .slice (some ⟨vb, 0, none⟩) 1 1] w fun e w' => ∃ v', e = .returned v' ∧ Files w' v' (l.take i ++ f :: l.drop i) ∧ Below base w w' ∧ Fresh base v' := by
  by_cases h : i = l.length
  · subst h
    rw [insert_end]
    exact files_Insert_end base v l f vb vt w ho hl hbase hx
  · obtain ⟨g, cap, rfl⟩ : ∃ g cap, v = .slice (some ⟨g, 0, none⟩) l.length cap := by
      rcases ho.2 with ⟨_, h⟩ | ⟨g, cap, _, h, _⟩
      · omega
      · exact ⟨g, cap, h⟩
    by_cases hroom : l.length + 1 ≤ cap
    · refine files_Insert_shift base g cap l f i vb vt w ho hl (by omega) hroom ?_ hx
      rintro rfl; exact hvb rfl
    · have := (own_cells ho).2.2.1
      exact files_Insert_grow base g cap l f i vb vt w ho hl (by omega) (by omega) hbase hx
end Go.Proofs.YtggpodlecljcbadGreatDoor
namespace Go.Proofs.YtggpodlecljcbadGreatDoor
open Go.RowKit Go.Sort
set_option linter.unusedSimpArgs false
set_option linter.unusedVariables false
def RetFilesE (p : List File × Nat) (w : World) (e : Ending) (w' : World) : Prop := ∃ v, e = .returned (.tuple #[v, errV p.2]) ∧ Files w' v p.1 ∧ Below w.heap.size w w'
def RetFilesG (p : List File × Nat) (w : World) (e : Ending) (w' : World) : Prop := ∃ v, e = .returned (.tuple #[v, errV p.2]) ∧ Files w' v p.1 ∧ Below w.heap.size w w' ∧ Fresh w.heap.size v
theorem drop_none (l : List File) (name : ByteArray) (h : getAt l name = none) : dropAt l name = ([], 5) := by unfold dropAt; rw [h]; rfl
theorem drop_some (l : List File) (name : ByteArray) (hr : Rises l) (r : Nat) (hk : r = rank l name) (h : isAt l name r = true) : dropAt l name = (l.take r ++ l.drop (r + 1), 0) := by
  have hl := isAt_len h
  subst hk
  unfold dropAt
  rw [get_some l name hl h, ← drop_rises l name hr _ rfl h]
  rfl

set_option maxHeartbeats 1000000 in
theorem shelf_Drop_f (va : Value) (l : List File) (name : ByteArray) (w : World) (ha : Files w va l) (hl : l.length ≤ 8) (hr : Rises l) :
    Calls Tryz.prog 42 #[va, .string name] w (RetFilesG (dropAt l name) w) := by
  have C := shelf_find va l name w ha hl hr
  have CC := Lib.hid fun W hb => files_Clone va l W (Rd.below ha hb) hl
  obtain ⟨ao, ca, rfl, hca, hca'⟩ := ha.parts
  unfold RetFind at C
  cases hi : isAt l name (rank l name)
  · have HD := Lib.hid (drop_none l name (get_noneR l name hr hi))
    rw [hi] at C
    replace C := Lib.hid C
    clear ha hi hr
    go_enter Tryz.func42, Tryz.ntmps42
    go_wp2_with fail
    refine (C.out).mono ?_
    rintro e w2 ⟨rfl, hb2⟩
    have HB2 := Lib.hid hb2
    clear hb2
    go_wp2_with fail
    refine bodyPost_ret (v := .tuple #[.slice none 0 0, errV 5]) (by simp [results, Tryz.results42, go_sem, errV]) rfl ?_
    exact ⟨_, by rw [HD.out], by rw [HD.out]; exact Rd.nil _, HB2.out, fresh_nil _⟩
  · obtain ⟨k, hkk⟩ : ∃ k, k = rank l name := ⟨_, rfl⟩
    have hk : k < l.length := by rw [hkk]; exact isAt_len hi
    have HD := Lib.hid (drop_some l name hr k hkk (by rw [hkk]; exact hi))
    rw [hi, ← hkk] at C
    replace C := Lib.hid C
    clear ha hi hr hkk
    go_enter Tryz.func42, Tryz.ntmps42
    go_wp2_with fail
    refine (C.out).mono ?_
    rintro e w2 ⟨rfl, hb2⟩
    have HB2 := Lib.hid hb2
    clear hb2
    go_wp2_with fail
    refine (CC.out _ HB2.out).mono ?_
    rintro e w3 ⟨v, rfl, ho, hb3⟩
    have HO := Lib.hid ho
    have HB3 := Lib.hid hb3
    clear ho hb3
    go_wp2_with fail
    refine (files_Delete _ v l k _ HO.out hk hl).mono ?_
    rintro e w4 ⟨v', rfl, hf, hb4, hfr⟩
    have HFR := Lib.hid (hfr.mono HB2.out.size)
    have HF := Lib.hid hf
    have HB4 := Lib.hid (HB2.out.trans ((HB3.out.trans hb4).mono HB2.out.size))
    clear hf hb4 hfr
    go_wp2_with fail
    refine bodyPost_ret (v := .tuple #[v', errV 0]) (by simp [results, Tryz.results42, go_sem, errV]) rfl ?_
    exact ⟨_, by rw [HD.out], by rw [HD.out]; exact HF.out, HB4.out, HFR.out⟩
theorem shelf_Drop (va : Value) (l : List File) (name : ByteArray) (w : World) (ha : Files w va l) (hl : l.length ≤ 8) (hr : Rises l) :
    Calls Tryz.prog 42 #[va, .string name] w (RetFilesE (dropAt l name) w) :=
  (shelf_Drop_f va l name w ha hl hr).mono fun _ _ ⟨v, h1, h2, h3, _⟩ => ⟨v, h1, h2, h3⟩
theorem own_below {w w' : World} {base e k n : Nat} {v : Value} {xs : List Value} (h : w.ownsRow base e k v n xs) (hb : Below w.heap.size w w') : w'.ownsRow base e k v n xs :=
  h.kept (⟨hb.os, hb.tape, hb.output, hb.size, fun j hj _ => hb.block j hj⟩ : World.grownBy _ _ none) (by cases h : Value.ownBlock _ <;> simp)
theorem heap_new (w : World) (o : Obj) : (w.alloc o).heap[w.heap.size]? = some o := by
  show (w.heap.push o)[w.heap.size]? = some o
  simp
theorem own_put {w : World} {base g n cap : Nat} {l : List File} (f : File) (k : Nat) (hk : k < l.length) (hn : n = l.length) (ho : w.ownsRow base 93 3 (.slice (some ⟨g, 0, none⟩) n cap) n (l.flatMap File.cells)) :
    Files (((w.setCell ⟨g, k * 3, none⟩ (.string f.name)).setCell ⟨g, k * 3 + 1, none⟩ (.string f.text)).setCell ⟨g, k * 3 + 2, none⟩ (.int .i64 f.times)) (.slice (some ⟨g, 0, none⟩) n cap) (l.take k ++ f :: l.drop (k + 1)) := by
  subst hn
  obtain ⟨hb, hgw, hnc, hc63, hlen, hcell, hsome, hfro, hsh⟩ := own_cells ho
  show Files (w.setCells g (k * 3) f.cells) _ _
  refine read_list (by simp; omega) hnc hc63 ?_
  have hq := take_cells l k (by omega)
  have hp : ((l.drop (k + 1)).flatMap File.cells).length = (l.length - (k + 1)) * 3 := drop_cells l (k + 1)
  have R := three_read (W := w.setCells g (k * 3) f.cells) (g := g) ((l.take k).flatMap File.cells) f.cells ((l.drop (k + 1)).flatMap File.cells) ?_ ?_ ?_
  · rw [List.flatMap_append, List.flatMap_cons, ← List.append_assoc]
    exact R
  · intro j u hj
    have hj' := (List.getElem?_eq_some_iff.1 hj).1
    rw [cells_out _ _ _ (Or.inl (by omega))]
    refine hcell j u ?_
    rw [flat_split l k, List.getElem?_append_left hj']
    exact hj
  · intro j u hj
    rw [hq]
    exact cells_in _ _ (fun t ht => hsome _ (by rw [File.cells_len] at ht; omega)) j u hj
  · intro j u hj
    have hj' := (List.getElem?_eq_some_iff.1 hj).1
    rw [hq, File.cells_len, cells_out _ _ _ (Or.inr (by rw [File.cells_len]; omega))]
    refine hcell _ u ?_
    rw [flat_split l (k + 1), List.getElem?_append_right (by rw [take_cells l (k + 1) (by omega)]; omega), take_cells l (k + 1) (by omega), show k * 3 + 3 + j - (k + 1) * 3 = j by omega]
    exact hj
theorem put_fault (l : List File) (f : File) (h : fileFault f ≠ 0) : putAt l f = ([], fileFault f) := by unfold putAt; rw [if_pos h]
theorem put_is (l : List File) (f : File) (hf : fileFault f = 0) (hr : Rises l) (r : Nat) (hk : r = rank l f.name) (h : isAt l f.name r = true) : putAt l f = (l.take r ++ f :: l.drop (r + 1), 0) := by
  have hg := get_some l f.name (by rw [← hk]; exact isAt_len h) (by rw [← hk]; exact h)
  unfold putAt
  rw [if_neg (by simp [hf]), if_neg (by simp [hg]), put_rises l f hr r hk, if_pos h]
theorem put_full (l : List File) (f : File) (hf : fileFault f = 0) (hr : Rises l) (h : isAt l f.name (rank l f.name) = false) (h8 : 8 ≤ l.length) : putAt l f = ([], 7) := by
  unfold putAt
  rw [if_neg (by simp [hf]), if_pos ⟨by rw [get_noneR l f.name hr h]; rfl, h8⟩]
theorem put_new (l : List File) (f : File) (hf : fileFault f = 0) (hr : Rises l) (r : Nat) (hk : r = rank l f.name) (h : isAt l f.name r = false) (h8 : ¬ 8 ≤ l.length) : putAt l f = (l.take r ++ f :: l.drop r, 0) := by
  unfold putAt
  rw [if_neg (by simp [hf]), if_neg (by intro hh; exact h8 hh.2), put_rises l f hr r hk, if_neg (by simp [h])]

set_option maxHeartbeats 2000000 in
theorem shelf_Put (va : Value) (l : List File) (f : File) (w : World) (ha : Files w va l) (hf : f.ok) (hl : l.length ≤ 8) (hr : Rises l) :
    Calls Tryz.prog 40 #[va, f.val] w (RetFilesE (putAt l f) w) := by
  have CF := fun W => file_Check f W hf
  have CC := Lib.hid fun W hb => files_Clone va l W (Rd.below ha hb) hl
  have CS := Lib.hid fun v W h => shelf_find v l f.name W h hl hr
  obtain ⟨ao, ca, rfl, hca, hca'⟩ := ha.parts
  unfold File.val at CF ⊢
  obtain ⟨W1, hW1⟩ : ∃ W1, W1 = w.alloc (.cells #[.string f.name, .string f.text, .int .i64 f.times] 93) := ⟨_, rfl⟩
  have B1 : Below w.heap.size w W1 := by rw [hW1]; exact below_alloc w _
  have hz : W1.heap.size = w.heap.size + 1 := by rw [hW1]; simp
  have c0 : W1.cell? ⟨w.heap.size, 0, none⟩ = some (.string f.name) := by rw [hW1]; simp
  have c1 : W1.cell? ⟨w.heap.size, 1, none⟩ = some (.string f.text) := by rw [hW1]; simp
  have c2 : W1.cell? ⟨w.heap.size, 2, none⟩ = some (.int .i64 f.times) := by rw [hW1]; simp
  have CB : Hid (∀ W, Below W1.heap.size W1 W → W.cell? ⟨w.heap.size, 0, none⟩ = some (.string f.name) ∧ W.cell? ⟨w.heap.size, 1, none⟩ = some (.string f.text) ∧ W.cell? ⟨w.heap.size, 2, none⟩ = some (.int .i64 f.times)) := by
    refine Lib.hid fun W hb => ?_
    obtain ⟨hc, _⟩ := bcell hb
    exact ⟨(hc _ _ (by omega)).trans c0, (hc _ _ (by omega)).trans c1, (hc _ _ (by omega)).trans c2⟩
  have HW1 := Lib.hid hW1
  have HB1 := Lib.hid B1
  have HR := Lib.hid hr
  clear hW1 hz B1 ha hr
  by_cases hff : fileFault f = 0
  · have HFF := Lib.hid hff
    rw [hff, errV_zero] at CF
    replace CF := Lib.hid CF
    clear hff
    obtain ⟨k, hkk⟩ : ∃ k, k = rank l f.name := ⟨_, rfl⟩
    unfold RetFind at CS
    rw [← hkk] at CS
    cases hi : isAt l f.name k
    · rw [hi] at CS
      have HI := Lib.hid hi
      have hkl : k ≤ l.length := by rw [hkk]; exact rank_le _ _
      have HK := Lib.hid hkk
      clear hi hkk
      by_cases h8 : 8 ≤ l.length
      · have HD : Hid (putAt l f = ([], 7)) := Lib.hid (put_full l f HFF.out HR.out (by rw [← HK.out]; exact HI.out) h8)
        go_enter Tryz.func40, Tryz.ntmps40
        go_wp2_with fail
        rw [← HW1.out]
        refine (CF.out _).mono ?_
        rintro e w2 ⟨rfl, hb2⟩
        have HB2 := Lib.hid hb2
        clear hb2
        go_wp2_with fail
        refine (CC.out _ (two HB1.out HB2.out)).mono ?_
        rintro e w3 ⟨v, rfl, ho, hb3⟩
        have HO := Lib.hid ho
        have HB3 := Lib.hid (two HB2.out hb3)
        have HS3 := Lib.hid hb3.size
        obtain ⟨d0, d1, d2⟩ := CB.out w3 HB3.out
        clear ho hb3 c0 c1 c2
        go_wp2_with fail
        refine (CS.out _ _ (SL.of_own HO.out)).mono ?_
        rintro e w4 ⟨rfl, hb4⟩
        have HS4 := Lib.hid (Nat.le_trans HS3.out hb4.size)
        have HB4 := Lib.hid (two HB3.out hb4)
        have HO4 := Lib.hid (own_below HO.out hb4)
        obtain ⟨g0, g1, g2⟩ := CB.out w4 HB4.out
        clear hb4 d0 d1 d2 HO
        obtain ⟨a, cap, rfl, _, _⟩ := Rd.parts (SL.of_own HO4.out : Rd 3 File.cells w4 v l)
        go_wp2_with fail
        refine bodyPost_ret (v := .tuple #[.slice none 0 0, errV 7]) (by simp [results, Tryz.results40, go_sem, errV]) rfl ?_
        exact ⟨_, by rw [HD.out], by rw [HD.out]; exact Rd.nil _, two HB1.out HB4.out⟩
      · have HD : Hid (putAt l f = (l.take k ++ f :: l.drop k, 0)) := Lib.hid (put_new l f HFF.out HR.out k HK.out HI.out h8)
        go_enter Tryz.func40, Tryz.ntmps40
        go_wp2_with fail
        rw [← HW1.out]
        refine (CF.out _).mono ?_
        rintro e w2 ⟨rfl, hb2⟩
        have HB2 := Lib.hid hb2
        clear hb2
        go_wp2_with fail
        refine (CC.out _ (two HB1.out HB2.out)).mono ?_
        rintro e w3 ⟨v, rfl, ho, hb3⟩
        have HO := Lib.hid ho
        have HB3 := Lib.hid (two HB2.out hb3)
        have HS3 := Lib.hid hb3.size
        obtain ⟨d0, d1, d2⟩ := CB.out w3 HB3.out
        clear ho hb3 c0 c1 c2
        go_wp2_with fail
        refine (CS.out _ _ (SL.of_own HO.out)).mono ?_
        rintro e w4 ⟨rfl, hb4⟩
        have HS4 := Lib.hid (Nat.le_trans HS3.out hb4.size)
        have HB4 := Lib.hid (two HB3.out hb4)
        have HO4 := Lib.hid (own_below HO.out hb4)
        obtain ⟨g0, g1, g2⟩ := CB.out w4 HB4.out
        clear hb4 d0 d1 d2 HO
        have HBO : Hid (v.ownBlock ≠ some w4.heap.size) := Lib.hid fun h => by have := (HO4.out.lt _ h).2; omega
        obtain ⟨a, cap, rfl, _, _⟩ := Rd.parts (SL.of_own HO4.out : Rd 3 File.cells w4 v l)
        go_wp2_with fail
        refine (files_Insert w2.heap.size _ l f k w4.heap.size 93 _ (HO4.out.alloc _) hl hkl ?_ HBO.out ?_).mono ?_
        · have := HS4.out; simp; omega
        · exact heap_new w4 _
        rintro e w5 ⟨v', rfl, hf5, hb5, _⟩
        have HF5 := Lib.hid hf5
        have HB5 := Lib.hid (two HB1.out (HB4.out.trans (((below_alloc w4 _).mono HB4.out.size).trans (hb5.mono HB2.out.size))))
        clear hf5 hb5 g0 g1 g2
        go_wp2_with fail
        refine bodyPost_ret (v := .tuple #[v', errV 0]) (by simp [results, Tryz.results40, go_sem, errV]) rfl ?_
        exact ⟨_, by rw [HD.out], by rw [HD.out]; exact HF5.out, HB5.out⟩
    · rw [hi] at CS
      have hkl : k < l.length := isAt_len hi
      have HD : Hid (putAt l f = (l.take k ++ f :: l.drop (k + 1), 0)) := Lib.hid (put_is l f HFF.out HR.out k hkk hi)
      clear hi hkk
      go_enter Tryz.func40, Tryz.ntmps40
      go_wp2_with fail
      rw [← HW1.out]
      refine (CF.out _).mono ?_
      rintro e w2 ⟨rfl, hb2⟩
      have HB2 := Lib.hid hb2
      clear hb2
      go_wp2_with fail
      refine (CC.out _ (two HB1.out HB2.out)).mono ?_
      rintro e w3 ⟨v, rfl, ho, hb3⟩
      have HO := Lib.hid ho
      have HB3 := Lib.hid (two HB2.out hb3)
      have HS3 := Lib.hid hb3.size
      obtain ⟨d0, d1, d2⟩ := CB.out w3 HB3.out
      clear ho hb3 c0 c1 c2
      go_wp2_with fail
      refine (CS.out _ _ (SL.of_own HO.out)).mono ?_
      rintro e w4 ⟨rfl, hb4⟩
      have HS4 := Lib.hid (Nat.le_trans HS3.out hb4.size)
      have HB4 := Lib.hid (two HB3.out hb4)
      have HO4 := Lib.hid (own_below HO.out hb4)
      obtain ⟨g0, g1, g2⟩ := CB.out w4 HB4.out
      clear hb4 d0 d1 d2 HO
      obtain ⟨g, cap, rfl⟩ : ∃ g cap, v = .slice (some ⟨g, 0, none⟩) l.length cap := by
        rcases HO4.out.2 with ⟨_, h⟩ | ⟨g, cap, _, h, _⟩
        · omega
        · exact ⟨g, cap, h⟩
      obtain ⟨hbg, hgw, hnc, hc63, hlen, hcell, hsome, hfro, hsh⟩ := own_cells HO4.out
      obtain ⟨b, off, eb, _, y0, y1, y2⟩ := Files.cell (SL.of_own HO4.out : Rd 3 File.cells w4 _ l) k hkl
      simp only [Option.some.injEq, Addr.mk.injEq, and_true] at eb
      obtain ⟨rfl, rfl⟩ := eb
      simp only [Nat.zero_add] at y0 y1 y2
      have z0 := hfro (k * 3)
      have z1 := hfro (k * 3 + 1)
      have z2 := hfro (k * 3 + 2)
      have HFIN := Lib.hid (own_put f k hkl rfl HO4.out)
      have HGW := Lib.hid (Nat.le_trans HB2.out.size hbg)
      clear hlen hcell hsome hfro hsh hbg hgw
      go_wp2_with fail
      have HB5 := Lib.hid (two HB1.out (((HB4.out.setCell (p := ⟨g, k * 3, none⟩) HGW.out (.string f.name)).setCell (p := ⟨g, k * 3 + 1, none⟩) HGW.out (.string f.text)).setCell (p := ⟨g, k * 3 + 2, none⟩) HGW.out (.int .i64 f.times)))
      refine bodyPost_ret (v := .tuple #[.slice (some ⟨g, 0, none⟩) l.length cap, errV 0]) (by simp [results, Tryz.results40, go_sem, errV]) rfl ?_
      exact ⟨_, by rw [HD.out], by rw [HD.out]; exact HFIN.out, HB5.out⟩
  · have HD : Hid (putAt l f = ([], fileFault f)) := Lib.hid (put_fault l f hff)
    rw [errV_pos hff] at CF
    replace CF := Lib.hid CF
    have HFF := Lib.hid hff
    clear hff
    go_enter Tryz.func40, Tryz.ntmps40
    go_wp2_with fail
    rw [← HW1.out]
    refine (CF.out _).mono ?_
    rintro e w2 ⟨rfl, hb2⟩
    have HB2 := Lib.hid (two HB1.out hb2)
    clear hb2
    go_wp2_with fail
    refine bodyPost_ret (v := .tuple #[.slice none 0 0, errV (fileFault f)]) (by rw [errV_pos HFF.out]; simp [results, Tryz.results40, go_sem]) rfl ?_
    exact ⟨_, by rw [HD.out], by rw [HD.out]; exact Rd.nil _, HB2.out⟩
end Go.Proofs.YtggpodlecljcbadGreatDoor
namespace Go.Proofs.YtggpodlecljcbadGreatDoor
open Go.RowKit Go.Sort
set_option linter.unusedSimpArgs false
set_option linter.unusedVariables false
/-- A box of one file, in all later worlds. -/
def BoxF (b : Nat) (f : File) (w0 : World) : Prop := ∀ W, Below w0.heap.size w0 W → W.cell? ⟨b, 0, none⟩ = some (.string f.name) ∧ W.cell? ⟨b, 1, none⟩ = some (.string f.text) ∧ W.cell? ⟨b, 2, none⟩ = some (.int .i64 f.times)
theorem box_of {b : Nat} {f : File} {w0 : World} (hb : b < w0.heap.size) (c0 : w0.cell? ⟨b, 0, none⟩ = some (.string f.name)) (c1 : w0.cell? ⟨b, 1, none⟩ = some (.string f.text)) (c2 : w0.cell? ⟨b, 2, none⟩ = some (.int .i64 f.times)) : BoxF b f w0 := fun W h => by
  obtain ⟨hc, _⟩ := bcell h
  exact ⟨(hc _ _ hb).trans c0, (hc _ _ hb).trans c1, (hc _ _ hb).trans c2⟩
theorem box_new (w : World) (f : File) : BoxF w.heap.size f (w.alloc (.cells #[.string f.name, .string f.text, .int .i64 f.times] 93)) :=
  box_of (by simp) (by simp) (by simp) (by simp)
theorem BoxF.later {b : Nat} {f : File} {w0 w1 : World} (h : BoxF b f w0) (hb : Below w0.heap.size w0 w1) : BoxF b f w1 := fun W hW => h W (two hb hW)
theorem BoxF.now {b : Nat} {f : File} {w0 : World} (h : BoxF b f w0) : w0.cell? ⟨b, 0, none⟩ = some (.string f.name) ∧ w0.cell? ⟨b, 1, none⟩ = some (.string f.text) ∧ w0.cell? ⟨b, 2, none⟩ = some (.int .i64 f.times) := h _ (Below.refl _ _)

end Go.Proofs.YtggpodlecljcbadGreatDoor
