/- Plain: chapter 7: changes of rows, their bytes. Plain: chapter 7: rows that rise, and what a change does. -/
import Derived.Test.YtggpodlecljcbaaGreatDoorWalkB
import Derived.Test.YtggpodlecljcbaaGreatDoorSpecQ
namespace Go.Proofs.YtggpodlecljcbaaGreatDoor
set_option linter.unusedSimpArgs false
set_option linter.unusedVariables false
/-- G1. -/
def changeFault (c : Change) : Nat := if (c.key.toList == []) = true ∨ (c.gone = true ∧ (c.val.toList == []) = false) then 3 else if 8 < c.key.size ∨ 16 < c.val.size then 2 else 0
def goneByte (c : Change) : UInt8 := if c.gone then 1 else 0
/-- G2. -/
def changeBytes (c : Change) : ByteArray × Nat := if changeFault c ≠ 0 then (⟨#[]⟩, changeFault c) else ((⟨#[goneByte c, c.key.size.toUInt8]⟩ : ByteArray) ++ c.key ++ c.val, 0)
def zeroX : Change := ⟨⟨#[]⟩, ⟨#[]⟩, false⟩
def changeAt (s : ByteArray) (x y : UInt8) : Change := ⟨s.extract 2 (2 + y.toNat), s.extract (2 + y.toNat) s.size, ((x.toNat : Int) == 1)⟩
def changeFrom (s : ByteArray) (x y : UInt8) : Change × Nat :=
  if 1 < x.toNat ∨ s.size < 2 + y.toNat then (zeroX, 4) else if changeFault (changeAt s x y) ≠ 0 then (zeroX, 4) else (changeAt s x y, 0)
def changeOf (s : ByteArray) : Change × Nat := if h : s.size < 2 then (zeroX, 4) else changeFrom s (s[0]'(by omega)) (s[1]'(by omega))
theorem fault_cases (c : Change) : changeFault c = 3 ∨ changeFault c = 2 ∨ changeFault c = 0 := by
  unfold changeFault; split
  · exact Or.inl rfl
  · split
    · exact Or.inr (Or.inl rfl)
    · exact Or.inr (Or.inr rfl)
end Go.Proofs.YtggpodlecljcbaaGreatDoor
namespace Go.Proofs.YtggpodlecljcbaaGreatDoor
set_option linter.unusedSimpArgs false
set_option linter.unusedVariables false
def RisesX (l : List Change) : Prop := l.Pairwise (fun a b => bLt a.key b.key = true)
theorem RisesX.at {l : List Change} (h : RisesX l) (i j : Nat) (hij : i < j) (hj : j < l.length) : bLt (l[i]'(by omega)).key l[j].key = true := List.pairwise_iff_getElem.mp h i j (by omega) hj hij
theorem RisesX.mono {l : List Change} (h : RisesX l) (name : ByteArray) (i j : Nat) (hij : i ≤ j) (hj : j < l.length) (hl : bLt l[j].key name = true) : bLt (l[i]'(by omega)).key name = true := by
  by_cases e : i = j
  · subst e; exact hl
  · exact bLt_trans (h.at i j (by omega) hj) hl
def rankX (l : List Change) (name : ByteArray) : Nat := (l.takeWhile (fun f => bLt f.key name)).length
theorem rank_ofX (name : ByteArray) : ∀ (l : List Change) (i : Nat), i ≤ l.length → (∀ t, (ht : t < l.length) → t < i → bLt l[t].key name = true) → (∀ t, (ht : t < l.length) → i ≤ t → bLt l[t].key name = false) → rankX l name = i
  | [], i, h, _, _ => by simp at h; simp [rankX, h]
  | f :: r, 0, _, _, h2 => by
    have := h2 0 (by simp) (Nat.le_refl _)
    simp at this
    simp [rankX, this]
  | f :: r, i + 1, h, h1, h2 => by
    have ha := h1 0 (by simp) (by omega)
    have ih := rank_ofX name r i (by simpa using h) (fun t ht hti => h1 (t + 1) (by simpa using ht) (by omega)) (fun t ht hti => h2 (t + 1) (by simpa using ht) (by omega))
    simp at ha
    unfold rankX at ih ⊢
    simp [ha, ih]
def isAtX (l : List Change) (name : ByteArray) (i : Nat) : Bool := match l[i]? with | some f => f.key.toList == name.toList | none => false
theorem isAt_ltX (l : List Change) (name : ByteArray) (i : Nat) (h : i < l.length) : isAtX l name i = (l[i].key.toList == name.toList) := by unfold isAtX; rw [List.getElem?_eq_getElem h]
theorem isAt_geX (l : List Change) (name : ByteArray) (i : Nat) (h : ¬ i < l.length) : isAtX l name i = false := by unfold isAtX; rw [List.getElem?_eq_none (by omega)]
theorem rank_leX (l : List Change) (name : ByteArray) : rankX l name ≤ l.length := List.Sublist.length_le (List.takeWhile_sublist _)
theorem rank_beforeX (name : ByteArray) : ∀ (l : List Change) (t : Nat) (h : t < l.length), t < rankX l name → bLt l[t].key name = true
  | [], t, h, _ => by simp at h
  | f :: r, t, h, ht => by
    unfold rankX at ht
    cases hf : bLt f.key name
    · simp [hf] at ht
    · cases t with
      | zero => exact hf
      | succ t =>
        simp [hf] at ht
        exact rank_beforeX name r t (by simpa using h) (by unfold rankX; omega)
theorem rank_atX (name : ByteArray) : ∀ (l : List Change) (h : rankX l name < l.length), bLt l[rankX l name].key name = false
  | [], h => by simp at h
  | f :: r, h => by
    cases hf : bLt f.key name
    · have e : rankX (f :: r) name = 0 := by simp [rankX, hf]
      simp only [e]; exact hf
    · have e : rankX (f :: r) name = rankX r name + 1 := by simp [rankX, hf]
      have := rank_atX name r (by rw [e] at h; simpa using h)
      simp only [e]; exact this
theorem isAt_lenX {l : List Change} {name : ByteArray} {i : Nat} (h : isAtX l name i = true) : i < l.length := by
  by_cases hh : i < l.length
  · exact hh
  · rw [isAt_geX l name i hh] at h; cases h
theorem drop_risesX (l : List Change) (name : ByteArray) (hr : RisesX l) (r : Nat) (hk : r = rankX l name) (h : isAtX l name r = true) : l.filter (fun f => f.key.toList != name.toList) = l.take r ++ l.drop (r + 1) := by
  have hl := isAt_lenX h
  have e : l = l.take r ++ l[r] :: l.drop (r + 1) := by rw [← List.drop_eq_getElem_cons hl, List.take_append_drop]
  rw [isAt_ltX l name r hl] at h
  have h1 : (l.take r).filter (fun f => f.key.toList != name.toList) = l.take r := by
    rw [List.filter_eq_self]
    intro x hx
    obtain ⟨t, ht, rfl⟩ := List.getElem_of_mem hx
    rw [List.getElem_take]
    rw [List.length_take] at ht
    have := not_eq_of_lt (rank_beforeX name l t (by omega) (by omega))
    simp only [bne, this, Bool.not_false]
  have h2 : (l.drop (r + 1)).filter (fun f => f.key.toList != name.toList) = l.drop (r + 1) := by
    rw [List.filter_eq_self]
    intro x hx
    obtain ⟨t, ht, rfl⟩ := List.getElem_of_mem hx
    rw [List.getElem_drop]
    rw [List.length_drop] at ht
    have := neq_of_gt (same_name_lt h (hr.at r (r + 1 + t) (by omega) (by omega)))
    simp only [bne, this, Bool.not_false]
  calc l.filter (fun f => f.key.toList != name.toList) = (l.take r ++ l[r] :: l.drop (r + 1)).filter (fun f => f.key.toList != name.toList) := by rw [← e]
    _ = _ := by rw [List.filter_append, h1, List.filter_cons, h2]; simp [bne, h]
def putStepX (f : Change) (p : List Change × Bool) (g : Change) : List Change × Bool :=
  let q := if p.2 = false ∧ bLe f.key g.key = true then (p.1 ++ [f], true) else p
  if (g.key.toList == f.key.toList) = true then q else (q.1 ++ [g], q.2)
def putToX (l : List Change) (f : Change) (k : Nat) : List Change × Bool := (l.take k).foldl (putStepX f) ([], false)
theorem putTo_succX (l : List Change) (f : Change) (k : Nat) (h : k < l.length) : putToX l f (k + 1) = putStepX f (putToX l f k) l[k] := by
  unfold putToX; rw [List.take_succ_eq_append_getElem h, List.foldl_append]; rfl
def putAllX (l : List Change) (f : Change) : List Change := if (putToX l f l.length).2 = false then (putToX l f l.length).1 ++ [f] else (putToX l f l.length).1
theorem put_beforeX (l : List Change) (f : Change) : ∀ k, k ≤ rankX l f.key → k ≤ l.length → putToX l f k = (l.take k, false)
  | 0, _, _ => by simp [putToX]
  | k + 1, h, hl => by
    have hb := rank_beforeX f.key l k (by omega) (by omega)
    rw [putTo_succX l f k (by omega), put_beforeX l f k (by omega) (by omega), putStepX]
    dsimp only
    rw [if_neg (by rw [not_eq_of_lt hb]; simp), if_neg (by rw [not_le_of_lt hb]; simp), List.take_succ_eq_append_getElem (show k < l.length by omega)]
theorem put_step_gtX (l : List Change) (f : Change) (k : Nat) (h : k < l.length) (R : List Change) (hp : putToX l f k = (R, true)) (hn : (l[k].key.toList == f.key.toList) = false) : putToX l f (k + 1) = (R ++ [l[k]], true) := by
  rw [putTo_succX l f k h, hp, putStepX]; simp [hn]
theorem put_afterX (l : List Change) (f : Change) (r : Nat) (R : List Change) (hp : putToX l f (r + 1) = (R, true)) (hn : ∀ t, (ht : t < l.length) → r < t → (l[t].key.toList == f.key.toList) = false) : ∀ k, r + 1 + k ≤ l.length → putToX l f (r + 1 + k) = (R ++ (l.drop (r + 1)).take k, true)
  | 0, _ => by simp [hp]
  | k + 1, h => by
    have h0 := put_afterX l f r R hp hn k (by omega)
    have hk : k < (l.drop (r + 1)).length := by rw [List.length_drop]; omega
    have := put_step_gtX l f (r + 1 + k) (by omega) _ h0 (hn _ (by omega) (by omega))
    rw [show r + 1 + (k + 1) = r + 1 + k + 1 by omega, this, List.take_succ_eq_append_getElem hk, List.getElem_drop, List.append_assoc]
theorem put_risesX (l : List Change) (f : Change) (hr : RisesX l) (r : Nat) (hk : r = rankX l f.key) : putAllX l f = l.take r ++ f :: l.drop (if isAtX l f.key r then r + 1 else r) := by
  have hrl : r ≤ l.length := by rw [hk]; exact rank_leX _ _
  have h0 := put_beforeX l f r (by omega) hrl
  by_cases hl : r < l.length
  · have hge := by have := rank_atX f.key l (by rw [← hk]; exact hl); simpa [← hk] using this
    have hgt : ∀ t, (ht : t < l.length) → r < t → (l[t].key.toList == f.key.toList) = false := by
      intro t ht hrt
      have h1 := hr.at r t hrt ht
      cases e : (l[t].key.toList == f.key.toList)
      · rfl
      · have h2 : bLt l[r].key f.key = true := by
          have : l[t].key.toList = f.key.toList := by simpa using e
          unfold bLt at h1 ⊢; rwa [← this]
        rw [hge] at h2; cases h2
    have hle : bLe f.key l[r].key = true := by
      cases e : bLe f.key l[r].key
      · have := bLt_of_not_le e
        rw [hge] at this; cases this
      · rfl
    cases hi : isAtX l f.key r
    · have hn := hi
      rw [isAt_ltX l f.key r hl] at hn
      have h1 : putToX l f (r + 1) = (l.take r ++ [f] ++ [l[r]], true) := by
        rw [putTo_succX l f r hl, h0, putStepX]
        dsimp only
        rw [if_neg (by rw [hn]; simp), if_pos ⟨rfl, hle⟩]
      have h2 := put_afterX l f r _ h1 hgt (l.length - (r + 1)) (by omega)
      rw [show r + 1 + (l.length - (r + 1)) = l.length by omega] at h2
      unfold putAllX
      rw [h2, if_neg (by simp), List.take_of_length_le (l := l.drop (r + 1)) (by rw [List.length_drop]; omega), if_neg (by simp), List.drop_eq_getElem_cons hl]
      simp
    · have hn := hi
      rw [isAt_ltX l f.key r hl] at hn
      have h1 : putToX l f (r + 1) = (l.take r ++ [f], true) := by
        rw [putTo_succX l f r hl, h0, putStepX]
        dsimp only
        rw [if_pos hn, if_pos ⟨rfl, hle⟩]
      have h2 := put_afterX l f r _ h1 hgt (l.length - (r + 1)) (by omega)
      rw [show r + 1 + (l.length - (r + 1)) = l.length by omega] at h2
      unfold putAllX
      rw [h2, if_neg (by simp), List.take_of_length_le (l := l.drop (r + 1)) (by rw [List.length_drop]; omega), if_pos rfl]
      simp
  · have e : r = l.length := by omega
    rw [isAt_geX l f.key r hl, if_neg (by simp), List.drop_of_length_le (by omega)]
    unfold putAllX
    rw [← e, h0, if_pos rfl]
theorem rises_putX {l : List Change} (f : Change) (h : RisesX l) : RisesX (putAllX l f) := by
  rw [put_risesX l f h _ rfl]
  obtain ⟨r, hr⟩ : ∃ r, r = rankX l f.key := ⟨_, rfl⟩
  rw [← hr]
  obtain ⟨m, hm⟩ : ∃ m, m = if isAtX l f.key r = true then r + 1 else r := ⟨_, rfl⟩
  rw [← hm]
  have hc : (m = r ∧ isAtX l f.key r = false) ∨ (m = r + 1 ∧ isAtX l f.key r = true) := by
    cases hi : isAtX l f.key r <;> simp [hi] at hm <;> simp [hm]
  clear hm
  refine List.pairwise_append.mpr ⟨List.Pairwise.take h, ?_, ?_⟩
  · refine List.pairwise_cons.mpr ⟨?_, List.Pairwise.drop h⟩
    intro g hg
    obtain ⟨t, ht, rfl⟩ := List.getElem_of_mem hg
    rw [List.length_drop] at ht
    rw [List.getElem_drop]
    rcases hc with ⟨rfl, hi⟩ | ⟨rfl, hi⟩
    · have hge := rank_atX f.key l (by omega)
      have hlt : bLt f.key (l[m]'(by omega)).key = true := by
        refine bLt_of_not_le ?_
        unfold bLe
        rw [isAt_ltX l f.key m (by omega)] at hi
        rw [hi, Bool.or_false]
        have : bLt (l[m]'(by omega)).key f.key = false := by simpa only [← hr] using hge
        exact this
      by_cases e : t = 0
      · subst e; exact hlt
      · exact bLt_trans hlt (h.at m (m + t) (by omega) _)
    · rw [isAt_ltX l f.key r (by omega)] at hi
      exact same_name_lt hi (h.at r (r + 1 + t) (by omega) _)
  · intro a ha b hb
    obtain ⟨t, ht, rfl⟩ := List.getElem_of_mem ha
    rw [List.length_take] at ht
    rw [List.getElem_take]
    have hlt : bLt (l[t]'(by omega)).key f.key = true := rank_beforeX f.key l t (by omega) (by omega)
    rcases List.mem_cons.mp hb with rfl | hb
    · exact hlt
    · obtain ⟨u, hu, rfl⟩ := List.getElem_of_mem hb
      rw [List.length_drop] at hu
      rw [List.getElem_drop]
      exact h.at t _ (by omega) _

/-- G3: one change, at the place of its key. -/
def appX (l : List Change) (c : Change) : List Change :=
  if isAtX l c.key (rankX l c.key) then (if c.gone then l.take (rankX l c.key) ++ l.drop (rankX l c.key + 1) else l.take (rankX l c.key) ++ c :: l.drop (rankX l c.key + 1))
  else (if c.gone then l else l.take (rankX l c.key) ++ c :: l.drop (rankX l c.key))
/-- G3, the document's way: one step, the steps. -/
def refTo (l : List Change) (c : Change) (k : Nat) : List Change × Bool := (l.take k).foldl (putStepX c) ([], c.gone)
theorem refTo_succ (l : List Change) (c : Change) (k : Nat) (h : k < l.length) : refTo l c (k + 1) = putStepX c (refTo l c k) l[k] := by
  unfold refTo; rw [List.take_succ_eq_append_getElem h, List.foldl_append]; rfl
def refX (l : List Change) (c : Change) : List Change := if (refTo l c l.length).2 = false then (refTo l c l.length).1 ++ [c] else (refTo l c l.length).1
theorem refTo_gone (l : List Change) (c : Change) (hg : c.gone = true) : ∀ k, k ≤ l.length → refTo l c k = ((l.take k).filter (fun x => x.key.toList != c.key.toList), true)
  | 0, _ => by simp [refTo, hg]
  | k + 1, h => by
    rw [refTo_succ l c k (by omega), refTo_gone l c hg k (by omega), putStepX, List.take_succ_eq_append_getElem (show k < l.length by omega), List.filter_append]
    cases e : (l[k].key.toList == c.key.toList)
    · simp [e, bne]
    · simp [e, bne]
theorem filter_none (l : List Change) (key : ByteArray) (hr : RisesX l) (h : isAtX l key (rankX l key) = false) : l.filter (fun x => x.key.toList != key.toList) = l := by
  rw [List.filter_eq_self]
  intro x hx
  obtain ⟨t, ht, rfl⟩ := List.getElem_of_mem hx
  by_cases h1 : t < rankX l key
  · have := not_eq_of_lt (rank_beforeX key l t ht h1)
    simp only [bne, this, Bool.not_false]
  · have hrk : rankX l key < l.length := by omega
    have hge := rank_atX key l hrk
    rw [isAt_ltX l key _ hrk] at h
    have : (l[t].key.toList == key.toList) = false := by
      by_cases e : t = rankX l key
      · subst e; exact h
      · cases e2 : (l[t].key.toList == key.toList)
        · rfl
        · have h2 := hr.at (rankX l key) t (by omega) ht
          have e3 : l[t].key.toList = key.toList := by simpa using e2
          have h3 : bLt l[rankX l key].key key = true := by unfold bLt at h2 ⊢; rw [← e3]; exact h2
          rw [h3] at hge; cases hge
    simp only [bne, this, Bool.not_false]
theorem ref_is_app {l : List Change} (c : Change) (hr : RisesX l) : refX l c = appX l c := by
  unfold refX appX
  cases hg : c.gone
  · have e : ∀ k, refTo l c k = putToX l c k := fun k => by unfold refTo putToX; rw [hg]
    rw [e]
    have h := put_risesX l c hr _ rfl
    unfold putAllX at h
    rw [h]
    by_cases hi : isAtX l c.key (rankX l c.key) = true
    · simp [hi]
    · simp [hi]
  · have h0 := refTo_gone l c hg l.length (Nat.le_refl _)
    rw [List.take_length] at h0
    rw [h0]
    by_cases hi : isAtX l c.key (rankX l c.key) = true
    · rw [if_pos hi]
      simp only [if_true]
      rw [if_neg (by simp)]
      exact drop_risesX l c.key hr _ rfl hi
    · rw [if_neg hi]
      simp only [if_true]
      rw [if_neg (by simp)]
      exact filter_none l c.key hr (by simpa using hi)
theorem app_rises {l : List Change} (c : Change) (hr : RisesX l) : RisesX (appX l c) := by
  unfold appX
  cases hg : c.gone
  · have h := rises_putX c hr
    rw [put_risesX l c hr _ rfl] at h
    by_cases hi : isAtX l c.key (rankX l c.key) = true
    · simp only [hi, if_true] at h ⊢; simpa using h
    · simp only [hi, if_false] at h ⊢; simpa using h
  · by_cases hi : isAtX l c.key (rankX l c.key) = true
    · rw [if_pos hi]
      simp only [if_true]
      rw [← drop_risesX l c.key hr _ rfl hi]
      exact List.Pairwise.filter _ hr
    · rw [if_neg hi]
      simp only [if_true]
      exact hr
theorem app_len (l : List Change) (c : Change) : (appX l c).length ≤ l.length + 1 := by
  unfold appX
  split
  · split
    · rw [List.length_append, List.length_take, List.length_drop]; omega
    · rename_i h _
      have := isAt_lenX h
      rw [List.length_append, List.length_take, List.length_cons, List.length_drop]; omega
  · split
    · omega
    · rw [List.length_append, List.length_take, List.length_cons, List.length_drop]; omega
def appsTo (l cs : List Change) (k : Nat) : List Change := (cs.take k).foldl appX l
theorem appsTo_next (l cs : List Change) (k : Nat) (h : k < cs.length) : appsTo l cs (k + 1) = appX (appsTo l cs k) cs[k] := by
  unfold appsTo; rw [List.take_succ_eq_append_getElem h, List.foldl_append]; rfl
theorem appsTo_rises {l : List Change} (cs : List Change) (hr : RisesX l) : ∀ k, k ≤ cs.length → RisesX (appsTo l cs k) ∧ (appsTo l cs k).length ≤ l.length + k
  | 0, _ => ⟨hr, Nat.le_refl _⟩
  | k + 1, h => by
    obtain ⟨h1, h2⟩ := appsTo_rises cs hr k (by omega)
    rw [appsTo_next l cs k (by omega)]
    exact ⟨app_rises _ h1, Nat.le_trans (app_len _ _) (by omega)⟩
end Go.Proofs.YtggpodlecljcbaaGreatDoor
