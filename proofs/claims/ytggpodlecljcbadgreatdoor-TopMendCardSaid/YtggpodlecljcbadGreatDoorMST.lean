/- Plain: chapter 11: a quilt on disks. Plain: chapter 11: what an act changes is a short deed. Plain: chapter 11: what can be read of any disk; the vote where two are right. Plain: chapter 11: a deed on a disk that may fall. -/
import Derived.Test.YtggpodlecljcbadGreatDoorMSI
import Derived.Test.YtggpodlecljcbadGreatDoorMSY
import Derived.Test.YtggpodlecljcbadGreatDoorMR
import Derived.Test.YtggpodlecljcbadGreatDoorMD
namespace Go.Proofs.YtggpodlecljcbadGreatDoor
set_option linter.unusedSimpArgs false
set_option linter.unusedVariables false
open Go.RowKit Go.Sort
theorem keep_filter {l : List Change} (hr : RisesX l) (c : Change) (x : Change) : x ∈ l.filter (fun x => x.key.toList != c.key.toList) ↔ x ∈ l ∧ x.key ≠ c.key := by
  rw [List.mem_filter]
  simp only [bne_iff_ne, ne_eq, bytes_eq_iff]
theorem appX_mem {l : List Change} (hr : RisesX l) (c x : Change) : x ∈ appX l c ↔ (x ∈ l ∧ x.key ≠ c.key) ∨ (x = c ∧ c.gone = false) := by
  rw [← keep_filter hr c x]
  unfold appX
  by_cases hi : isAtX l c.key (rankX l c.key) = true
  · rw [if_pos hi, drop_risesX l c.key hr _ rfl hi]
    cases hg : c.gone
    · simp only [Bool.false_eq_true, if_false, List.mem_append, List.mem_cons, and_true]
      constructor
      · rintro (h | h | h)
        · exact Or.inl (Or.inl h)
        · exact Or.inr h
        · exact Or.inl (Or.inr h)
      · rintro ((h | h) | h)
        · exact Or.inl h
        · exact Or.inr (Or.inr h)
        · exact Or.inr (Or.inl h)
    · simp
  · rw [if_neg hi, filter_none l c.key hr (by simpa using hi)]
    cases hg : c.gone
    · have e : x ∈ l ↔ x ∈ l.take (rankX l c.key) ∨ x ∈ l.drop (rankX l c.key) := by
        rw [← List.mem_append, List.take_append_drop]
      simp only [Bool.false_eq_true, if_false, List.mem_append, List.mem_cons, and_true]
      rw [e]
      constructor
      · rintro (h | h | h)
        · exact Or.inl (Or.inl h)
        · exact Or.inr h
        · exact Or.inl (Or.inr h)
      · rintro ((h | h) | h)
        · exact Or.inl h
        · exact Or.inr (Or.inr h)
        · exact Or.inr (Or.inl h)
    · simp
theorem foldX_mem : ∀ (cs l : List Change), RisesX l → cs.Pairwise (fun a b => a.key ≠ b.key) → ∀ x, x ∈ cs.foldl appX l ↔ (x ∈ l ∧ ∀ c ∈ cs, x.key ≠ c.key) ∨ (x ∈ cs ∧ x.gone = false)
  | [], l, _, _, x => by simp
  | c :: r, l, hl, hp, x => by
    obtain ⟨p1, p2⟩ := List.pairwise_cons.1 hp
    rw [List.foldl_cons, foldX_mem r (appX l c) (app_rises c hl) p2 x, appX_mem hl c x]
    constructor
    · rintro (⟨⟨h1, h2⟩ | ⟨rfl, h2⟩, h3⟩ | ⟨h1, h2⟩)
      · refine Or.inl ⟨h1, fun d hd => ?_⟩
        rcases List.mem_cons.1 hd with rfl | hd
        · exact h2
        · exact h3 d hd
      · exact Or.inr ⟨List.mem_cons_self .., h2⟩
      · exact Or.inr ⟨List.mem_cons_of_mem _ h1, h2⟩
    · rintro (⟨h1, h2⟩ | ⟨h1, h2⟩)
      · exact Or.inl ⟨Or.inl ⟨h1, h2 c (List.mem_cons_self ..)⟩, fun d hd => h2 d (List.mem_cons_of_mem _ hd)⟩
      · rcases List.mem_cons.1 h1 with rfl | h1
        · exact Or.inl ⟨Or.inr ⟨rfl, h2⟩, p1⟩
        · exact Or.inr ⟨h1, h2⟩
theorem foldX_rises : ∀ (cs l : List Change), RisesX l → RisesX (cs.foldl appX l)
  | [], _, h => h
  | c :: r, l, h => foldX_rises r _ (app_rises c h)
theorem rises_keys {l : List Change} (h : RisesX l) : l.Pairwise (fun a b => a.key ≠ b.key) := h.imp (fun h => bLt_ne h)
/-- E3: what differs leads from the ones to the others. -/
theorem apps_merge {a b : List Change} (ha : RisesX a) (hb : RisesX b) (hg : ∀ c ∈ b, c.gone = false) : appsTo a (mergeC a b) (mergeC a b).length = b := by
  rw [apps_fold]
  have hm := rises_mergeC a b ha hb
  refine risesX_ext _ _ (foldX_rises _ _ ha) hb (fun x => ?_)
  rw [foldX_mem _ _ ha (rises_keys hm)]
  constructor
  · rintro (⟨h1, h2⟩ | ⟨h1, h2⟩)
    · by_cases hy : ∃ y ∈ b, y.key = x.key
      · obtain ⟨y, hy1, hy2⟩ := hy
        by_cases hya : y ∈ a
        · rw [← rises_inj ha hya h1 hy2]; exact hy1
        · exact absurd hy2.symm (h2 y ((mem_mergeC a b ha hb y).2 (Or.inr ⟨hy1, hya⟩)))
      · exact absurd rfl (h2 (goneX x.key) ((mem_mergeC a b ha hb _).2 (Or.inl ⟨x, h1, fun y hy1 e => hy ⟨y, hy1, e⟩, rfl⟩)))
    · rcases (mem_mergeC a b ha hb x).1 h1 with ⟨z, _, _, rfl⟩ | ⟨h3, _⟩
      · cases h2
      · exact h3
  · intro hx
    by_cases hxa : x ∈ a
    · refine Or.inl ⟨hxa, fun c hc e => ?_⟩
      rcases (mem_mergeC a b ha hb c).1 hc with ⟨z, _, hz, rfl⟩ | ⟨h3, h4⟩
      · exact hz x hx e
      · rw [rises_inj hb h3 hx e.symm] at h4
        exact h4 hxa
    · exact Or.inr ⟨(mem_mergeC a b ha hb x).2 (Or.inr ⟨hx, hxa⟩), hg x hx⟩
theorem faults_none : ∀ (c : List Change), (∀ x ∈ c, changeFault x = 0) → faultsY c = 0
  | [], _ => rfl
  | x :: r, h => by
    unfold faultsY
    rw [if_neg (by simp [h x (List.mem_cons_self ..)])]
    exact faults_none r (fun y hy => h y (List.mem_cons_of_mem _ hy))
theorem gone_fine {k : ByteArray} {v : ByteArray} (h : changeFault ⟨k, v, false⟩ = 0) : changeFault (goneX k) = 0 := by
  unfold changeFault at h ⊢
  unfold goneX
  dsimp only at h ⊢
  split at h
  · cases h
  · rename_i h1
    split at h
    · cases h
    · rename_i h2
      have h3 : (k.toList == []) ≠ true := fun e => h1 (Or.inl e)
      rw [if_neg (by
        rintro (e | ⟨_, e⟩)
        · exact h3 e
        · have : ((⟨#[]⟩ : ByteArray).toList == []) = true := by rw [bytes_list]; rfl
          rw [this] at e; cases e), if_neg (by
        have : (⟨#[]⟩ : ByteArray).size = 0 := rfl
        omega)]
theorem merge_fine {a b : List Change} (ha : RisesX a) (hb : RisesX b) (hfa : ∀ c ∈ a, changeFault c = 0 ∧ c.gone = false) (hfb : ∀ c ∈ b, changeFault c = 0 ∧ c.gone = false) : ∀ c ∈ mergeC a b, changeFault c = 0 := by
  intro c hc
  rcases (mem_mergeC a b ha hb c).1 hc with ⟨z, hz, _, rfl⟩ | ⟨h, _⟩
  · obtain ⟨k, v, g⟩ := z
    obtain ⟨h1, h2⟩ := hfa _ hz
    dsimp only at h2
    subst h2
    exact gone_fine h1
  · exact (hfb c h).1
/-- a deed between two quilts is taken, where it is short. -/
theorem fault_merge {q q' : Quilt} (h : quiltFault q = 0) (h' : quiltFault q' = 0) (hl : (mergeC (rowsQ q) (rowsQ q')).length ≤ 14) : commitFault 24 (rowsQ q) (mergeC (rowsQ q) (rowsQ q')) = 0 := by
  obtain ⟨r1, f1, l1⟩ := rowsQ_good h
  obtain ⟨r2, f2, l2⟩ := rowsQ_good h'
  have e := apps_merge r1 r2 (fun c hc => (f2 c hc).2)
  unfold commitFault
  rw [if_neg (by omega), if_neg (by rw [faults_none _ (merge_fine r1 r2 f1 f2)]; simp), if_neg (by rw [e]; omega)]
theorem apps_rows {q : Quilt} (h : quiltFault q = 0) : appsTo [] (rowsQ q) (rowsQ q).length = rowsQ q := by
  obtain ⟨r1, f1, l1⟩ := rowsQ_good h
  rw [apps_fold]
  have := fold_rises (rowsQ q) [] (by simpa using r1) (fun c hc => (f1 c hc).2)
  simpa using this
theorem fault_rows {q : Quilt} (h : quiltFault q = 0) : commitFault 24 [] (rowsQ q) = 0 := by
  obtain ⟨r1, f1, l1⟩ := rowsQ_good h
  unfold commitFault
  rw [if_neg (by omega), if_neg (by rw [faults_none _ (fun c hc => (f1 c hc).1)]; simp), if_neg (by rw [apps_rows h]; omega)]
/-- the copy that is on a disk. -/
def copyZ (D : DiskS) : Option (StS × Quilt) := match openZ D with
  | none => none
  | some S => (parseQ S.rows).map (fun q => (S, q))
def copyC (D : DiskS) : Copy := match copyZ D with
  | none => ⟨false, noQuilt⟩
  | some p => ⟨true, p.2⟩
/-- a disk that can be opened and laid anew, whatever stands on it. -/
structure Sound (D : DiskS) : Prop where
  ok : D.ok
  calm : Calm D
  s40 : ∀ s ∈ D.now, s.size = 40
  len : D.now.length = 50
  wait : D.wait.length ≤ 900000
/-- a disk that has a quilt. -/
structure HasQ (D : DiskS) (S : StS) (q : Quilt) : Prop where
  inv : InvZ 24 D S
  rows : S.rows = rowsQ q
  calm : Calm D
  ok : D.ok
  good : quiltFault q = 0
theorem HasQ.sound {D : DiskS} {S : StS} {q : Quilt} (h : HasQ D S q) : Sound D :=
  ⟨h.ok, h.calm, h.inv.parts.2.2.2.1, h.inv.len, by rw [h.inv.parts.2.1]; simp⟩
theorem HasQ.copy {D : DiskS} {S : StS} {q : Quilt} (h : HasQ D S q) : copyZ D = some (S, q) := by
  unfold copyZ
  rw [h.inv.open]
  dsimp only
  rw [h.rows, parse_rows h.good]
  rfl
theorem HasQ.copyC {D : DiskS} {S : StS} {q : Quilt} (h : HasQ D S q) : copyC D = ⟨true, q⟩ := by
  unfold Go.Proofs.YtggpodlecljcbadGreatDoor.copyC
  rw [h.copy]
theorem fault_good {q : Quilt} (h : Good q) : quiltFault q = 0 := (good_iff q).2 h
/-- a disk laid anew. -/
theorem laid_has {D : DiskS} (h : Sound D) {q : Quilt} (hq : quiltFault q = 0) : ∃ E, formatD D = (E, 0) ∧ Calm E ∧ E.ok ∧ InvZ 24 E ⟨firstH, 0, []⟩ ∧ ∃ E' S', commitZ 24 ⟨firstH, 0, []⟩ (rowsQ q) E = (E', S', 0) ∧ HasQ E' S' q ∧ S'.h.epoch ≤ 2 := by
  obtain ⟨E, e1, e2, e3⟩ := format_inv D h.calm h.s40 (by rw [h.len]; decide) (by rw [h.len]; decide)
  rw [h.len] at e3
  have hok : E.ok := by
    have := keep_format keptY_ok D h.ok
    rw [e1] at this
    exact this
  refine ⟨E, e1, e2, hok, e3, ?_⟩
  rcases calm_commitZ (rowsQ q) e3 e2 (by decide) with ⟨h0, _⟩ | ⟨_, E', S', h1, h2, h3, h4, h5, _⟩
  · exact absurd (fault_rows hq) h0
  · have hok' := keep_commit keptY_ok 24 ⟨firstH, 0, []⟩ (rowsQ q) E hok
    rw [h1] at hok'
    exact ⟨E', S', h1, ⟨h2, by rw [h4]; exact apps_rows hq, h3, hok', hq⟩, h5⟩
/-- a deed on a disk that has a quilt. -/
theorem done_has {D : DiskS} {S : StS} {q q' : Quilt} (h : HasQ D S q) (hq : quiltFault q' = 0) (hl : (mergeC (rowsQ q) (rowsQ q')).length ≤ 14) (hE : S.h.epoch ≤ 1000000) :
    ∃ E S', commitZ 24 S (mergeC (rowsQ q) (rowsQ q')) D = (E, S', 0) ∧ HasQ E S' q' ∧ S'.h.epoch ≤ S.h.epoch + 1 := by
  have hf := fault_merge h.good hq hl
  rcases calm_commitZ (mergeC (rowsQ q) (rowsQ q')) h.inv h.calm hE with ⟨h0, _⟩ | ⟨_, E, S', h1, h2, h3, h4, h5, _⟩
  · rw [h.rows] at h0; exact absurd hf h0
  · have hok' := keep_commit keptY_ok 24 S (mergeC (rowsQ q) (rowsQ q')) D h.ok
    rw [h1] at hok'
    obtain ⟨r1, _, _⟩ := rowsQ_good h.good
    obtain ⟨r2, f2, _⟩ := rowsQ_good hq
    refine ⟨E, S', h1, ⟨h2, ?_, h3, hok', hq⟩, h5⟩
    rw [h4, h.rows]
    exact apps_merge r1 r2 (fun c hc => (f2 c hc).2)
end Go.Proofs.YtggpodlecljcbadGreatDoor
namespace Go.Proofs.YtggpodlecljcbadGreatDoor
set_option linter.unusedSimpArgs false
set_option linter.unusedVariables false
open Go.RowKit Go.Sort
theorem merge_len {a b : List Change} (ha : RisesX a) (hb : RisesX b) : (mergeC a b).length = (outA a b).length + (outB a b).length := by
  have hp := List.mergeSort_perm (outA a b ++ outB a b) (fun x y => !bLt y.key x.key)
  have hs := List.pairwise_mergeSort (le := fun x y : Change => !bLt y.key x.key) (fun x y z h1 h2 => by
    simp only [Bool.not_eq_true'] at h1 h2 ⊢
    cases h3 : bLt z.key x.key
    · rfl
    · cases h4 : bLt x.key y.key
      · have := bLt_eqI h4 h1
        rw [this, h2] at h3; cases h3
      · rw [bLt_trans h3 h4] at h2; cases h2) (fun x y => by
    cases h : bLt y.key x.key
    · rfl
    · rw [bLt_asymI h]; rfl) (outA a b ++ outB a b)
  have h := sorted_merge ha hb hp (hs.imp (fun h => by simpa using h))
  rw [← h, hp.length_eq, List.length_append]
def newsF (l l0 : List File) : Nat := (l.filter (fun f => decide (f ∉ l0))).length
theorem outB_news (q q' : Quilt) (h : quiltFault q = 0) : (outB (rowsQ q) (rowsQ q')).length ≤ newsF q'.files q.files + 1 := by
  obtain ⟨r1, _, _⟩ := rowsQ_good h
  unfold outB
  have e : rowsQ q' = q'.files.map rowF ++ [turnRow q'.turn] := rfl
  rw [e, List.filter_append, List.length_append]
  have h1 : ([turnRow q'.turn].filter (newIn (rowsQ q))).length ≤ 1 := List.length_filter_le _ _
  have h2 : ((q'.files.map rowF).filter (newIn (rowsQ q))).length ≤ newsF q'.files q.files := by
    rw [List.filter_map, List.length_map]
    unfold newsF
    rw [← List.countP_eq_length_filter, ← List.countP_eq_length_filter]
    refine List.countP_mono_left (fun f _ hf => ?_)
    refine decide_eq_true (fun hm => ?_)
    have h3 : newIn (rowsQ q) (rowF f) = true := hf
    rw [newIn_iff r1] at h3
    exact h3 (List.mem_append_left _ (List.mem_map.2 ⟨f, hm, rfl⟩))
  omega
theorem news_put {l : List File} (f : File) (hr : Rises l) (l0 : List File) : newsF (putAll l f) l0 ≤ newsF l l0 + 1 := by
  rw [put_rises l f hr _ rfl]
  unfold newsF
  obtain ⟨m, hm⟩ : ∃ m, m = if isAt l f.name (rank l f.name) = true then rank l f.name + 1 else rank l f.name := ⟨_, rfl⟩
  have hmr : rank l f.name ≤ m := by rw [hm]; split <;> omega
  rw [← hm, List.filter_append, List.length_append, List.filter_cons]
  have h1 : ((l.drop m).filter (fun f => decide (f ∉ l0))).length ≤ ((l.drop (rank l f.name)).filter (fun f => decide (f ∉ l0))).length := by
    refine List.Sublist.length_le (List.Sublist.filter _ ?_)
    obtain ⟨d, rfl⟩ : ∃ d, m = rank l f.name + d := ⟨m - rank l f.name, by omega⟩
    rw [← List.drop_drop]
    exact List.drop_sublist _ _
  have h2 : (l.filter (fun f => decide (f ∉ l0))).length = ((l.take (rank l f.name)).filter (fun f => decide (f ∉ l0))).length + ((l.drop (rank l f.name)).filter (fun f => decide (f ∉ l0))).length := by
    rw [← List.length_append, ← List.filter_append, List.take_append_drop]
  split
  · rw [List.length_cons]; omega
  · omega
theorem news_self (l : List File) : newsF l l = 0 := by
  unfold newsF
  rw [List.length_eq_zero_iff, List.filter_eq_nil_iff]
  intro f hf
  simp [hf]
theorem news_filter (l l0 : List File) (p : File → Bool) : newsF (l.filter p) l0 ≤ newsF l l0 := List.Sublist.length_le (List.Sublist.filter _ List.filter_sublist)
theorem news_putAt {l : List File} {f : File} (hr : Rises l) (l0 : List File) (h0 : (putAt l f).2 = 0) : newsF (putAt l f).1 l0 ≤ newsF l l0 + 1 := by
  rw [(put_ok h0).1]
  exact news_put f hr l0
theorem news_act {q : Quilt} (h : Good q) (a : Act) (h0 : (doAct q a).2 = 0) : newsF (doAct q a).1.files q.files ≤ 2 := by
  have hz := news_self q.files
  unfold doAct at h0 ⊢
  split
  · rename_i hh
    rw [if_pos hh] at h0
    unfold writtenQ at h0 ⊢
    obtain ⟨e, e2, _⟩ := next_ok h0
    rw [e]
    have := news_putAt h.fine.rises q.files e2
    dsimp only
    omega
  · rename_i hh
    rw [if_neg hh] at h0
    split
    · rename_i hh
      rw [if_pos hh] at h0
      unfold droppedQ at h0 ⊢
      obtain ⟨e, e2, _⟩ := next_ok h0
      rw [e]
      dsimp only
      unfold dropAt
      split
      · have := news_filter q.files q.files (fun f => f.name.toList != a.s.toList)
        dsimp only
        omega
      · simp [newsF]
    · rename_i hh
      rw [if_neg hh] at h0
      split
      · rename_i hh
        rw [if_pos hh] at h0
        unfold renamedQ at h0 ⊢
        cases hg : getAt q.files a.s with
        | none => rw [hg] at h0; cases h0
        | some f =>
          rw [hg] at h0
          dsimp only at h0 ⊢
          split at h0
          · rename_i hn; exact absurd h0 hn
          · split at h0
            · cases h0
            · rename_i h1 h2
              rw [if_neg h1, if_neg h2]
              obtain ⟨e, e2, _⟩ := next_ok h0
              rw [e]
              have hd := drop_fine h.fine a.s
              have h3 := news_putAt hd.rises q.files e2
              have h4 : newsF (dropAt q.files a.s).1 q.files ≤ 0 := by
                unfold dropAt
                split
                · have := news_filter q.files q.files (fun f => f.name.toList != a.s.toList)
                  dsimp only
                  omega
                · simp [newsF]
              dsimp only
              omega
      · rename_i hh
        rw [if_neg hh] at h0
        split
        · rename_i hh
          rw [if_pos hh] at h0
          unfold swappedQ at h0 ⊢
          cases hx : getAt q.files a.s with
          | none => rw [hx] at h0; cases h0
          | some x =>
            cases hy : getAt q.files a.t with
            | none => rw [hx, hy] at h0; cases h0
            | some y =>
              rw [hx, hy] at h0
              dsimp only at h0 ⊢
              split at h0
              · cases h0
              · rename_i h9
                rw [if_neg h9]
                split at h0
                · rename_i hab
                  rw [if_pos hab]
                  obtain ⟨e, e2, _⟩ := next_ok h0
                  rw [e]
                  dsimp only
                  omega
                · rename_i hab
                  rw [if_neg hab]
                  obtain ⟨e, e2, _⟩ := next_ok h0
                  rw [e]
                  obtain ⟨l1, p1, f1, p2⟩ := swap_puts h.fine hx hy (by simpa using hab) h9
                  have n1 := news_putAt h.fine.rises q.files (f := ⟨x.name, y.text, x.times + 1⟩) (by rw [p1])
                  have n2 := news_putAt f1.rises q.files (f := ⟨y.name, x.text, y.times + 1⟩) (by rw [p2])
                  rw [p1] at n1
                  rw [p2] at n2
                  dsimp only at n1 n2 ⊢
                  omega
        · dsimp only
          omega
/-- what an act changes is a short deed. -/
theorem act_short {q : Quilt} (h : Good q) (a : Act) (h0 : (doAct q a).2 = 0) : (mergeC (rowsQ q) (rowsQ (doAct q a).1)).length ≤ 14 := by
  have hq := fault_good h
  have hq' := fault_good (do_good h a h0)
  obtain ⟨r1, _, l1⟩ := rowsQ_good hq
  obtain ⟨r2, _, l2⟩ := rowsQ_good hq'
  rw [merge_len r1 r2]
  have h1 : (outA (rowsQ q) (rowsQ (doAct q a).1)).length ≤ (rowsQ q).length := by
    unfold outA
    rw [List.length_map]
    exact List.length_filter_le _ _
  have h2 := outB_news q (doAct q a).1 hq
  have h3 := news_act h a h0
  omega
end Go.Proofs.YtggpodlecljcbadGreatDoor
namespace Go.Proofs.YtggpodlecljcbadGreatDoor
set_option linter.unusedSimpArgs false
set_option linter.unusedVariables false
open Go.RowKit Go.Sort
theorem parse_fine : ∀ (f : Nat) (t : List UInt8) (acc r : List Change), (∀ c ∈ acc, changeFault c = 0) → parseL f t acc = some r → (∀ c ∈ r, changeFault c = 0) ∧ 3 * r.length ≤ 3 * acc.length + t.length
  | 0, t, acc, r, ha, h => by
    simp only [parseL, Option.some.injEq] at h
    subst h
    exact ⟨ha, by omega⟩
  | f + 1, t, acc, r, ha, h => by
    match t, h with
    | [], h =>
      simp only [parseL, Option.some.injEq] at h
      subst h
      exact ⟨ha, by omega⟩
    | [_], h => simp [parseL] at h
    | [_, _], h => simp [parseL] at h
    | k :: v :: u :: t, h =>
      simp only [parseL] at h
      split at h
      · cases h
      · split at h
        · cases h
        · rename_i h1 h2
          have key : ∀ (z : Change) (t' : List UInt8), changeFault z = 0 → t'.length ≤ t.length → parseL f t' (appX acc z) = some r → (∀ c ∈ r, changeFault c = 0) ∧ 3 * r.length ≤ 3 * acc.length + (k :: v :: u :: t).length := fun z t' hz ht hp => by
            obtain ⟨q1, q2⟩ := parse_fine f _ _ r (fun c hc => by
              rcases app_mem hc with hc | ⟨rfl, _⟩
              · exact ha c hc
              · exact hz) hp
            have h3 := app_len acc z
            refine ⟨q1, ?_⟩
            simp only [List.length_cons]
            omega
          exact key _ _ (by simpa using h2) (by rw [List.length_drop]; omega) h
theorem changeOf_fine {s : ByteArray} (h : (changeOf s).2 = 0) : changeFault (changeOf s).1 = 0 := by
  unfold changeOf at h ⊢
  split at h
  · cases h
  · rename_i h1
    rw [dif_neg h1]
    unfold changeFrom at h ⊢
    split at h
    · cases h
    · rename_i h2
      rw [if_neg h2]
      split at h
      · cases h
      · rename_i h3
        rw [if_neg h3]
        simpa using h3
theorem step_fine {first i : Nat} {s : ByteArray} {o o' : List (List Change)} {d d' : List Change} {u u' : Nat} (h : stepY first i s o d u = some (o', d', u')) (ho : ∀ e ∈ o, ∀ c ∈ e, changeFault c = 0) (hd : ∀ c ∈ d, changeFault c = 0) :
    (∀ e ∈ o', ∀ c ∈ e, changeFault c = 0) ∧ (∀ c ∈ d', changeFault c = 0) := by
  unfold stepY at h
  split at h
  · cases h
  · split at h
    · split at h
      · simp only [Option.some.injEq, Prod.mk.injEq] at h
        obtain ⟨rfl, rfl, _⟩ := h
        refine ⟨fun e he => ?_, fun c hc => by cases hc⟩
        rcases List.mem_append.1 he with he | he
        · exact ho e he
        · rw [List.mem_singleton.1 he]; exact hd
      · cases h
    · split at h
      · cases h
      · rename_i h3
        simp only [Option.some.injEq, Prod.mk.injEq] at h
        obtain ⟨rfl, rfl, _⟩ := h
        refine ⟨ho, fun c hc => ?_⟩
        rcases List.mem_append.1 hc with hc | hc
        · exact hd c hc
        · rw [List.mem_singleton.1 hc]; exact changeOf_fine (by simpa using h3)
theorem closed_fine (first : Nat) : ∀ (l : List ByteArray) (i : Nat) (o : List (List Change)) (d : List Change) (u : Nat), (∀ e ∈ o, ∀ c ∈ e, changeFault c = 0) → (∀ c ∈ d, changeFault c = 0) → ∀ e ∈ (closedY first l i o d u).1, ∀ c ∈ e, changeFault c = 0
  | [], _, o, _, _, ho, _ => ho
  | s :: r, i, o, d, u, ho, hd => by
    cases hs : stepY first i s o d u with
    | none => rw [closedY, hs]; exact ho
    | some p =>
      obtain ⟨o', d', u'⟩ := p
      rw [closedY, hs]
      obtain ⟨h1, h2⟩ := step_fine hs ho hd
      exact closed_fine first r (i + 1) o' d' u' h1 h2
theorem replay_fine : ∀ (ds : List (List Change)) (base : List Change), (∀ c ∈ base, changeFault c = 0) → (∀ e ∈ ds, ∀ c ∈ e, changeFault c = 0) → (∀ c ∈ replayZ ds base, changeFault c = 0) ∧ (replayZ ds base).length ≤ base.length + massY ds
  | [], base, hb, _ => ⟨hb, Nat.le_add_right _ _⟩
  | e :: r, base, hb, he => by
    have h1 : ∀ c ∈ e.foldl appX base, changeFault c = 0 := fun c hc => by
      rcases fold_mem e base c hc with h | ⟨h, _⟩
      · exact hb c h
      · exact he e (List.mem_cons_self ..) c h
    have hl : ∀ (e base : List Change), (e.foldl appX base).length ≤ base.length + e.length := by
      intro e
      induction e with
      | nil => intro b; exact Nat.le_refl _
      | cons x e ih =>
        intro b
        have := ih (appX b x)
        have h2 := app_len b x
        simp only [List.foldl_cons, List.length_cons]
        omega
    obtain ⟨h2, h3⟩ := replay_fine r (e.foldl appX base) h1 (fun e' h => he e' (List.mem_cons_of_mem _ h))
    refine ⟨h2, ?_⟩
    have h4 := hl e base
    have h5 : massY (e :: r) = e.length + 1 + massY r := by simp [massY]
    have h6 : replayZ (e :: r) base = replayZ r (e.foldl appX base) := rfl
    rw [h6, h5]
    omega
theorem ok_fine {c : Change} (h : changeFault c = 0) : c.ok := by
  obtain ⟨h1, h2⟩ := cf_sizes h
  unfold Change.ok maxLen
  omega
/-- what is read of any disk is fine, and not too much. -/
theorem open_fine {D : DiskS} {S : StS} (h : openZ D = some S) (hn : D.now.length ≤ 60) (h26 : 26 ≤ D.now.length) : (∀ c ∈ S.rows, changeFault c = 0) ∧ S.rows.length ≤ 200 := by
  unfold openZ at h
  dsimp only at h
  split at h
  · cases h
  · split at h
    · cases h
    · rename_i rows hp
      simp only [Option.some.injEq] at h
      subst h
      have hz : (pickH (D.now.getD 0 ⟨#[]⟩) (D.now.getD 1 ⟨#[]⟩)).size ≤ 480 := by rw [← pickTo_two]; exact (pickTo_low D 2).2.1
      obtain ⟨q1, q2⟩ := parse_fine _ _ _ _ (fun c hc => by cases hc) hp
      have hd := closed_fine (pickH (D.now.getD 0 ⟨#[]⟩) (D.now.getD 1 ⟨#[]⟩)).first (sectorsY D 26 (D.now.length - 26)) 0 [] [] 0 (fun e he => by cases he) (fun c hc => by cases hc)
      obtain ⟨q3, q4⟩ := replay_fine _ rows q1 hd
      refine ⟨q3, Nat.le_trans q4 ?_⟩
      have hm := closed_mass (pickH (D.now.getD 0 ⟨#[]⟩) (D.now.getD 1 ⟨#[]⟩)).first (sectorsY D 26 (D.now.length - 26)) 0 [] [] 0 (by simp [massY])
      rw [sectorsY_len (by omega)] at hm
      have ht : (List.take (pickH (D.now.getD 0 ⟨#[]⟩) (D.now.getD 1 ⟨#[]⟩)).size (halfL D (pickH (D.now.getD 0 ⟨#[]⟩) (D.now.getD 1 ⟨#[]⟩)).side)).length ≤ 480 := by rw [List.length_take]; omega
      simp only [List.length_nil] at q2
      omega
def trioC (D : Nat → DiskS) : Trio := ⟨copyC (D 0), copyC (D 1), copyC (D 2)⟩
theorem trioC_at (D : Nat → DiskS) (k : Nat) (hk : k < 3) : (trioC D).at k = copyC (D k) := by
  match k, hk with
  | 0, _ => rfl
  | 1, _ => rfl
  | 2, _ => rfl
theorem sameR (a : Copy) : sameCopy a a = true := by simp [sameCopy]
theorem same_true {a : Copy} {q : Quilt} (h : sameCopy a ⟨true, q⟩ = true) : a = ⟨true, q⟩ := by
  obtain ⟨i, p⟩ := a
  simp only [sameCopy, Bool.and_eq_true, beq_iff_eq] at h
  obtain ⟨rfl, h⟩ := h
  simp at h
  rw [h]
theorem same_no {a : Copy} {q : Quilt} (h : a ≠ ⟨true, q⟩) : sameCopy a ⟨true, q⟩ = false := by
  cases e : sameCopy a ⟨true, q⟩
  · rfl
  · exact absurd (same_true e) h
/-- K1: where two are right, these are voted. -/
theorem two_right {t : Trio} {q : Quilt} {k : Nat} (hk : k < 3) (h : ∀ i, i < 3 → i ≠ k → t.at i = ⟨true, q⟩) :
    votedQ t = q ∧ votedE t = 0 ∧ wrongs t q = if sameCopy (t.at k) ⟨true, q⟩ = true then [] else [(k : Int)] := by
  obtain ⟨a, b, c⟩ := t
  match k, hk with
  | 0, _ =>
    obtain rfl : b = ⟨true, q⟩ := h 1 (by decide) (by decide)
    obtain rfl : c = ⟨true, q⟩ := h 2 (by decide) (by decide)
    refine ⟨?_, ?_, ?_⟩
    · by_cases e : a = ⟨true, q⟩
      · subst e; exact (voted0 _ (by simp [twin, Trio.at, sameR])).1
      · exact (voted1 _ (by simp [twin, Trio.at, same_no e]) (by simp [twin, Trio.at, sameR])).1
    · by_cases e : a = ⟨true, q⟩
      · subst e; exact (voted0 _ (by simp [twin, Trio.at, sameR])).2
      · exact (voted1 _ (by simp [twin, Trio.at, same_no e]) (by simp [twin, Trio.at, sameR])).2
    · unfold wrongs wrongTo
      rw [show List.range 3 = [0, 1, 2] from rfl]
      show _ = if sameCopy a ⟨true, q⟩ = true then _ else _
      cases e : sameCopy a ⟨true, q⟩ <;> simp [wrongAt, Trio.at, sameR, e]
  | 1, _ =>
    obtain rfl : a = ⟨true, q⟩ := h 0 (by decide) (by decide)
    obtain rfl : c = ⟨true, q⟩ := h 2 (by decide) (by decide)
    refine ⟨(voted0 _ (by simp [twin, Trio.at, sameR])).1, (voted0 _ (by simp [twin, Trio.at, sameR])).2, ?_⟩
    unfold wrongs wrongTo
    rw [show List.range 3 = [0, 1, 2] from rfl]
    show _ = if sameCopy b ⟨true, q⟩ = true then _ else _
    cases e : sameCopy b ⟨true, q⟩ <;> simp [wrongAt, Trio.at, sameR, e]
  | 2, _ =>
    obtain rfl : a = ⟨true, q⟩ := h 0 (by decide) (by decide)
    obtain rfl : b = ⟨true, q⟩ := h 1 (by decide) (by decide)
    refine ⟨(voted0 _ (by simp [twin, Trio.at, sameR])).1, (voted0 _ (by simp [twin, Trio.at, sameR])).2, ?_⟩
    unfold wrongs wrongTo
    rw [show List.range 3 = [0, 1, 2] from rfl]
    show _ = if sameCopy c ⟨true, q⟩ = true then _ else _
    cases e : sameCopy c ⟨true, q⟩ <;> simp [wrongAt, Trio.at, sameR, e]
theorem wrong_mem {t : Trio} {q : Quilt} {k : Nat} (hk : k < 3) : (k : Int) ∈ wrongs t q ↔ t.at k ≠ ⟨true, q⟩ := by
  unfold wrongs wrongTo
  rw [show List.range 3 = [0, 1, 2] from rfl, List.mem_map]
  constructor
  · rintro ⟨n, hn, he⟩
    obtain rfl : n = k := by omega
    have := (List.mem_filter.1 hn).2
    unfold wrongAt at this
    intro e
    rw [e, sameR] at this
    cases this
  · intro h
    refine ⟨k, List.mem_filter.2 ⟨?_, ?_⟩, rfl⟩
    · match k, hk with
      | 0, _ => simp
      | 1, _ => simp
      | 2, _ => simp
    · unfold wrongAt
      rw [same_no h]; rfl
/-- a copy that is one: what was read. -/
theorem copy_of {D : DiskS} {q : Quilt} (h : copyC D = ⟨true, q⟩) : ∃ S, copyZ D = some (S, q) := by
  unfold copyC at h
  cases e : copyZ D with
  | none => rw [e] at h; cases h
  | some p =>
    obtain ⟨S, q'⟩ := p
    rw [e] at h
    simp only [Copy.mk.injEq, true_and] at h
    exact ⟨S, by rw [h]⟩
/-- a quilt that was read may be. -/
theorem copy_good {D : DiskS} {S : StS} {q : Quilt} (h : copyZ D = some (S, q)) : openZ D = some S ∧ parseQ S.rows = some q := by
  unfold copyZ at h
  cases e : openZ D with
  | none => rw [e] at h; cases h
  | some S' =>
    rw [e] at h
    dsimp only at h
    cases e2 : parseQ S'.rows with
    | none => rw [e2] at h; cases h
    | some q' =>
      rw [e2] at h
      simp only [Option.map_some, Option.some.injEq, Prod.mk.injEq] at h
      obtain ⟨rfl, rfl⟩ := h
      exact ⟨rfl, e2⟩
theorem copy_intro {D : DiskS} {S : StS} {q : Quilt} (h1 : openZ D = some S) (h2 : parseQ S.rows = some q) : copyZ D = some (S, q) := by
  unfold copyZ
  rw [h1]
  dsimp only
  rw [h2]
  rfl
end Go.Proofs.YtggpodlecljcbadGreatDoor
namespace Go.Proofs.YtggpodlecljcbadGreatDoor
set_option linter.unusedSimpArgs false
set_option linter.unusedVariables false
open Go.RowKit Go.Sort
/-- a disk that has a quilt; it may be armed. -/
structure HasI (D : DiskS) (S : StS) (q : Quilt) : Prop where
  inv : InvZ 24 D S
  rows : S.rows = rowsQ q
  ok : D.ok
  good : quiltFault q = 0
theorem HasQ.i {D : DiskS} {S : StS} {q : Quilt} (h : HasQ D S q) : HasI D S q := ⟨h.inv, h.rows, h.ok, h.good⟩
theorem HasI.q {D : DiskS} {S : StS} {q : Quilt} (h : HasI D S q) (hc : Calm D) : HasQ D S q := ⟨h.inv, h.rows, hc, h.ok, h.good⟩
theorem HasI.copy {D : DiskS} {S : StS} {q : Quilt} (h : HasI D S q) : copyZ D = some (S, q) := by
  refine copy_intro h.inv.open ?_
  rw [h.rows]
  exact parse_rows h.good
theorem HasI.arm {D : DiskS} {S : StS} {q : Quilt} (h : HasI D S q) (n : Int) (hn : n ≤ 9223372036854775807) : HasI (armD D n) S q := ⟨h.inv.fuse _, h.rows, h.ok.arm n hn, h.good⟩
theorem HasI.restart {D : DiskS} {S : StS} {q : Quilt} (h : HasI D S q) (keep : Int) : HasQ (restartD D keep) S q := ⟨h.inv.restart keep, h.rows, restart_calm D keep, h.ok.restart keep, h.good⟩
theorem commit_i {D : DiskS} {S : StS} {q q' : Quilt} (h : HasI D S q) (hq : quiltFault q' = 0) (hl : (mergeC (rowsQ q) (rowsQ q')).length ≤ 14) (hE : S.h.epoch ≤ 1000000) :
    (∃ E S', commitZ 24 S (mergeC (rowsQ q) (rowsQ q')) D = (E, S', 0) ∧ HasI E S' q' ∧ S'.h.epoch ≤ S.h.epoch + 1) ∨
    (∃ E S', commitZ 24 S (mergeC (rowsQ q) (rowsQ q')) D = (E, S', 8) ∧ ∀ keep, ∃ S1, (HasQ (restartD E keep) S1 q ∨ HasQ (restartD E keep) S1 q') ∧ S1.h.epoch ≤ S.h.epoch + 1) := by
  have hf := fault_merge h.good hq hl
  have hok' := keep_commit keptY_ok 24 S (mergeC (rowsQ q) (rowsQ q')) D h.ok
  obtain ⟨r1, _, _⟩ := rowsQ_good h.good
  obtain ⟨r2, f2, _⟩ := rowsQ_good hq
  have hm := apps_merge r1 r2 (fun c hc => (f2 c hc).2)
  rcases commit_cases (mergeC (rowsQ q) (rowsQ q')) h.inv hE with ⟨h0, _⟩ | ⟨_, E, S', h1, h2, h3, h4, _⟩ | ⟨_, E, S', h1, h2, h3⟩
  · rw [h.rows] at h0; exact absurd hf h0
  · rw [h1] at hok'
    exact Or.inl ⟨E, S', h1, ⟨h2, by rw [h3, h.rows]; exact hm, hok', hq⟩, h4⟩
  · rw [h1] at hok'
    refine Or.inr ⟨E, S', h1, fun keep => ?_⟩
    obtain ⟨S1, i1, i2, i3⟩ := h3 keep
    refine ⟨S1, ?_, i3⟩
    rcases i2 with i2 | i2
    · exact Or.inl ⟨i1, by rw [i2]; exact h.rows, restart_calm E keep, hok'.restart keep, h.good⟩
    · exact Or.inr ⟨i1, by rw [i2, h.rows]; exact hm, restart_calm E keep, hok'.restart keep, hq⟩
end Go.Proofs.YtggpodlecljcbadGreatDoor
