/- Plain: chapter 7: changes of rows, their bytes. Plain: chapter 7: rows that rise, and what a change does. The walks of chapter 7: row.Check, the document's ChangeFault. The walks of chapter 7: bytes of a change, and back. The walks of chapter 7: a change of bytes. -/
import Derived.Laws.IdiomStrings
import Derived.Test.YtggpodlecljcbadGreatDoorMB
import Derived.Test.YtggpodlecljcbadGreatDoorMSQ
namespace Go.Proofs.YtggpodlecljcbadGreatDoor
set_option linter.unusedSimpArgs false
set_option linter.unusedVariables false
/-- G1. -/
def changeFault (c : Change) : Nat := if (c.key.toList == []) = true ∨ (c.gone = true ∧ (c.val.toList == []) = false) then 3 else if 8 < c.key.size ∨ 16 < c.val.size then 2 else 0
def goneByte (c : Change) : UInt8 := if c.gone then 1 else 0
/-- G2. -/
def changeBytes (c : Change) : ByteArray × Nat := if changeFault c ≠ 0 then (⟨#[]⟩, changeFault c) else ((⟨#[goneByte c, c.key.size.toUInt8]⟩ : ByteArray) ++ c.key ++ c.val, 0)
def zeroX : Change := ⟨⟨#[]⟩, ⟨#[]⟩, false⟩
def changeAt (s : ByteArray) (x y : UInt8) : Change := ⟨s.extract 2 (2 + y.toNat), s.extract (2 + y.toNat) s.size, ((x.toNat : Int) == 1)⟩
def changeFrom (s : ByteArray) (x y : UInt8) : Change × Nat :=
  if 1 < x.toNat ∨ s.size < 2 + y.toNat then (zeroX, 4) else if changeFault (changeAt s x y) ≠ 0 then (zeroX, 4) else (changeAt s x y, 0)
def changeOf (s : ByteArray) : Change × Nat := if h : s.size < 2 then (zeroX, 4) else changeFrom s (s[0]'(by omega)) (s[1]'(by omega))
end Go.Proofs.YtggpodlecljcbadGreatDoor
namespace Go.Proofs.YtggpodlecljcbadGreatDoor
set_option linter.unusedSimpArgs false
set_option linter.unusedVariables false
def RisesX (l : List Change) : Prop := l.Pairwise (fun a b => bLt a.key b.key = true)
theorem RisesX.at {l : List Change} (h : RisesX l) (i j : Nat) (hij : i < j) (hj : j < l.length) : bLt (l[i]'(by omega)).key l[j].key = true := List.pairwise_iff_getElem.mp h i j (by omega) hj hij
theorem RisesX.mono {l : List Change} (h : RisesX l) (name : ByteArray) (i j : Nat) (hij : i ≤ j) (hj : j < l.length) (hl : bLt l[j].key name = true) : bLt (l[i]'(by omega)).key name = true := by
  by_cases e : i = j
  · subst e; exact hl
  · exact bLt_trans (h.at i j (by omega) hj) hl
def rankX (l : List Change) (name : ByteArray) : Nat := (l.takeWhile (fun f => bLt f.key name)).length
theorem rank_ofX (name : ByteArray) : ∀ (l : List Change) (i : Nat), i ≤ l.length → (∀ t, (ht : t < l.length) → t < i → bLt l[t].key name = true) → (∀ t, (ht : t < l.length) → i ≤ t → bLt l[t].key name = false) → rankX l name = i
  | [], i, h, _, _ => by simp at h; simp [rankX, h]
  | f :: r, 0, _, _, h2 => by
    have := h2 0 (by simp) (Nat.le_refl _)
    simp at this
    simp [rankX, this]
  | f :: r, i + 1, h, h1, h2 => by
    have ha := h1 0 (by simp) (by omega)
    have ih := rank_ofX name r i (by simpa using h) (fun t ht hti => h1 (t + 1) (by simpa using ht) (by omega)) (fun t ht hti => h2 (t + 1) (by simpa using ht) (by omega))
    simp at ha
    unfold rankX at ih ⊢
    simp [ha, ih]
def isAtX (l : List Change) (name : ByteArray) (i : Nat) : Bool := match l[i]? with | some f => f.key.toList == name.toList | none => false
theorem isAt_ltX (l : List Change) (name : ByteArray) (i : Nat) (h : i < l.length) : isAtX l name i = (l[i].key.toList == name.toList) := by unfold isAtX; rw [List.getElem?_eq_getElem h]
theorem isAt_geX (l : List Change) (name : ByteArray) (i : Nat) (h : ¬ i < l.length) : isAtX l name i = false := by unfold isAtX; rw [List.getElem?_eq_none (by omega)]
theorem rank_leX (l : List Change) (name : ByteArray) : rankX l name ≤ l.length := List.Sublist.length_le (List.takeWhile_sublist _)
theorem rank_beforeX (name : ByteArray) : ∀ (l : List Change) (t : Nat) (h : t < l.length), t < rankX l name → bLt l[t].key name = true
  | [], t, h, _ => by simp at h
  | f :: r, t, h, ht => by
    unfold rankX at ht
    cases hf : bLt f.key name
    · simp [hf] at ht
    · cases t with
      | zero => exact hf
      | succ t =>
        simp [hf] at ht
        exact rank_beforeX name r t (by simpa using h) (by unfold rankX; omega)
theorem rank_atX (name : ByteArray) : ∀ (l : List Change) (h : rankX l name < l.length), bLt l[rankX l name].key name = false
  | [], h => by simp at h
  | f :: r, h => by
    cases hf : bLt f.key name
    · have e : rankX (f :: r) name = 0 := by simp [rankX, hf]
      simp only [e]; exact hf
    · have e : rankX (f :: r) name = rankX r name + 1 := by simp [rankX, hf]
      have := rank_atX name r (by rw [e] at h; simpa using h)
      simp only [e]; exact this
theorem isAt_lenX {l : List Change} {name : ByteArray} {i : Nat} (h : isAtX l name i = true) : i < l.length := by
  by_cases hh : i < l.length
  · exact hh
  · rw [isAt_geX l name i hh] at h; cases h
theorem drop_risesX (l : List Change) (name : ByteArray) (hr : RisesX l) (r : Nat) (hk : r = rankX l name) (h : isAtX l name r = true) : l.filter (fun f => f.key.toList != name.toList) = l.take r ++ l.drop (r + 1) := by
  have hl := isAt_lenX h
  have e : l = l.take r ++ l[r] :: l.drop (r + 1) := by rw [← List.drop_eq_getElem_cons hl, List.take_append_drop]
  rw [isAt_ltX l name r hl] at h
  have h1 : (l.take r).filter (fun f => f.key.toList != name.toList) = l.take r := by
    rw [List.filter_eq_self]
    intro x hx
    obtain ⟨t, ht, rfl⟩ := List.getElem_of_mem hx
    rw [List.getElem_take]
    rw [List.length_take] at ht
    have := not_eq_of_lt (rank_beforeX name l t (by omega) (by omega))
    simp only [bne, this, Bool.not_false]
  have h2 : (l.drop (r + 1)).filter (fun f => f.key.toList != name.toList) = l.drop (r + 1) := by
    rw [List.filter_eq_self]
    intro x hx
    obtain ⟨t, ht, rfl⟩ := List.getElem_of_mem hx
    rw [List.getElem_drop]
    rw [List.length_drop] at ht
    have := neq_of_gt (same_name_lt h (hr.at r (r + 1 + t) (by omega) (by omega)))
    simp only [bne, this, Bool.not_false]
  calc l.filter (fun f => f.key.toList != name.toList) = (l.take r ++ l[r] :: l.drop (r + 1)).filter (fun f => f.key.toList != name.toList) := by rw [← e]
    _ = _ := by rw [List.filter_append, h1, List.filter_cons, h2]; simp [bne, h]
def putStepX (f : Change) (p : List Change × Bool) (g : Change) : List Change × Bool :=
  let q := if p.2 = false ∧ bLe f.key g.key = true then (p.1 ++ [f], true) else p
  if (g.key.toList == f.key.toList) = true then q else (q.1 ++ [g], q.2)
def putToX (l : List Change) (f : Change) (k : Nat) : List Change × Bool := (l.take k).foldl (putStepX f) ([], false)
theorem putTo_succX (l : List Change) (f : Change) (k : Nat) (h : k < l.length) : putToX l f (k + 1) = putStepX f (putToX l f k) l[k] := by
  unfold putToX; rw [List.take_succ_eq_append_getElem h, List.foldl_append]; rfl
def putAllX (l : List Change) (f : Change) : List Change := if (putToX l f l.length).2 = false then (putToX l f l.length).1 ++ [f] else (putToX l f l.length).1
theorem put_beforeX (l : List Change) (f : Change) : ∀ k, k ≤ rankX l f.key → k ≤ l.length → putToX l f k = (l.take k, false)
  | 0, _, _ => by simp [putToX]
  | k + 1, h, hl => by
    have hb := rank_beforeX f.key l k (by omega) (by omega)
    rw [putTo_succX l f k (by omega), put_beforeX l f k (by omega) (by omega), putStepX]
    dsimp only
    rw [if_neg (by rw [not_eq_of_lt hb]; simp), if_neg (by rw [not_le_of_lt hb]; simp), List.take_succ_eq_append_getElem (show k < l.length by omega)]
theorem put_step_gtX (l : List Change) (f : Change) (k : Nat) (h : k < l.length) (R : List Change) (hp : putToX l f k = (R, true)) (hn : (l[k].key.toList == f.key.toList) = false) : putToX l f (k + 1) = (R ++ [l[k]], true) := by
  rw [putTo_succX l f k h, hp, putStepX]; simp [hn]
theorem put_afterX (l : List Change) (f : Change) (r : Nat) (R : List Change) (hp : putToX l f (r + 1) = (R, true)) (hn : ∀ t, (ht : t < l.length) → r < t → (l[t].key.toList == f.key.toList) = false) : ∀ k, r + 1 + k ≤ l.length → putToX l f (r + 1 + k) = (R ++ (l.drop (r + 1)).take k, true)
  | 0, _ => by simp [hp]
  | k + 1, h => by
    have h0 := put_afterX l f r R hp hn k (by omega)
    have hk : k < (l.drop (r + 1)).length := by rw [List.length_drop]; omega
    have := put_step_gtX l f (r + 1 + k) (by omega) _ h0 (hn _ (by omega) (by omega))
    rw [show r + 1 + (k + 1) = r + 1 + k + 1 by omega, this, List.take_succ_eq_append_getElem hk, List.getElem_drop, List.append_assoc]
theorem put_risesX (l : List Change) (f : Change) (hr : RisesX l) (r : Nat) (hk : r = rankX l f.key) : putAllX l f = l.take r ++ f :: l.drop (if isAtX l f.key r then r + 1 else r) := by
  have hrl : r ≤ l.length := by rw [hk]; exact rank_leX _ _
  have h0 := put_beforeX l f r (by omega) hrl
  by_cases hl : r < l.length
  · have hge := by have := rank_atX f.key l (by rw [← hk]; exact hl); simpa [← hk] using this
    have hgt : ∀ t, (ht : t < l.length) → r < t → (l[t].key.toList == f.key.toList) = false := by
      intro t ht hrt
      have h1 := hr.at r t hrt ht
      cases e : (l[t].key.toList == f.key.toList)
      · rfl
      · have h2 : bLt l[r].key f.key = true := by
          have : l[t].key.toList = f.key.toList := by simpa using e
          unfold bLt at h1 ⊢; rwa [← this]
        rw [hge] at h2; cases h2
    have hle : bLe f.key l[r].key = true := by
      cases e : bLe f.key l[r].key
      · have := bLt_of_not_le e
        rw [hge] at this; cases this
      · rfl
    cases hi : isAtX l f.key r
    · have hn := hi
      rw [isAt_ltX l f.key r hl] at hn
      have h1 : putToX l f (r + 1) = (l.take r ++ [f] ++ [l[r]], true) := by
        rw [putTo_succX l f r hl, h0, putStepX]
        dsimp only
        rw [if_neg (by rw [hn]; simp), if_pos ⟨rfl, hle⟩]
      have h2 := put_afterX l f r _ h1 hgt (l.length - (r + 1)) (by omega)
      rw [show r + 1 + (l.length - (r + 1)) = l.length by omega] at h2
      unfold putAllX
      rw [h2, if_neg (by simp), List.take_of_length_le (l := l.drop (r + 1)) (by rw [List.length_drop]; omega), if_neg (by simp), List.drop_eq_getElem_cons hl]
      simp
    · have hn := hi
      rw [isAt_ltX l f.key r hl] at hn
      have h1 : putToX l f (r + 1) = (l.take r ++ [f], true) := by
        rw [putTo_succX l f r hl, h0, putStepX]
        dsimp only
        rw [if_pos hn, if_pos ⟨rfl, hle⟩]
      have h2 := put_afterX l f r _ h1 hgt (l.length - (r + 1)) (by omega)
      rw [show r + 1 + (l.length - (r + 1)) = l.length by omega] at h2
      unfold putAllX
      rw [h2, if_neg (by simp), List.take_of_length_le (l := l.drop (r + 1)) (by rw [List.length_drop]; omega), if_pos rfl]
      simp
  · have e : r = l.length := by omega
    rw [isAt_geX l f.key r hl, if_neg (by simp), List.drop_of_length_le (by omega)]
    unfold putAllX
    rw [← e, h0, if_pos rfl]
theorem rises_putX {l : List Change} (f : Change) (h : RisesX l) : RisesX (putAllX l f) := by
  rw [put_risesX l f h _ rfl]
  obtain ⟨r, hr⟩ : ∃ r, r = rankX l f.key := ⟨_, rfl⟩
  rw [← hr]
  obtain ⟨m, hm⟩ : ∃ m, m = if isAtX l f.key r = true then r + 1 else r := ⟨_, rfl⟩
  rw [← hm]
  have hc : (m = r ∧ isAtX l f.key r = false) ∨ (m = r + 1 ∧ isAtX l f.key r = true) := by
    cases hi : isAtX l f.key r <;> simp [hi] at hm <;> simp [hm]
  clear hm
  refine List.pairwise_append.mpr ⟨List.Pairwise.take h, ?_, ?_⟩
  · refine List.pairwise_cons.mpr ⟨?_, List.Pairwise.drop h⟩
    intro g hg
    obtain ⟨t, ht, rfl⟩ := List.getElem_of_mem hg
    rw [List.length_drop] at ht
    rw [List.getElem_drop]
    rcases hc with ⟨rfl, hi⟩ | ⟨rfl, hi⟩
    · have hge := rank_atX f.key l (by omega)
      have hlt : bLt f.key (l[m]'(by omega)).key = true := by
        refine bLt_of_not_le ?_
        unfold bLe
        rw [isAt_ltX l f.key m (by omega)] at hi
        rw [hi, Bool.or_false]
        have : bLt (l[m]'(by omega)).key f.key = false := by simpa only [← hr] using hge
        exact this
      by_cases e : t = 0
      · subst e; exact hlt
      · exact bLt_trans hlt (h.at m (m + t) (by omega) _)
    · rw [isAt_ltX l f.key r (by omega)] at hi
      exact same_name_lt hi (h.at r (r + 1 + t) (by omega) _)
  · intro a ha b hb
    obtain ⟨t, ht, rfl⟩ := List.getElem_of_mem ha
    rw [List.length_take] at ht
    rw [List.getElem_take]
    have hlt : bLt (l[t]'(by omega)).key f.key = true := rank_beforeX f.key l t (by omega) (by omega)
    rcases List.mem_cons.mp hb with rfl | hb
    · exact hlt
    · obtain ⟨u, hu, rfl⟩ := List.getElem_of_mem hb
      rw [List.length_drop] at hu
      rw [List.getElem_drop]
      exact h.at t _ (by omega) _

/-- G3: one change, at the place of its key. -/
def appX (l : List Change) (c : Change) : List Change :=
  if isAtX l c.key (rankX l c.key) then (if c.gone then l.take (rankX l c.key) ++ l.drop (rankX l c.key + 1) else l.take (rankX l c.key) ++ c :: l.drop (rankX l c.key + 1))
  else (if c.gone then l else l.take (rankX l c.key) ++ c :: l.drop (rankX l c.key))
theorem filter_none (l : List Change) (key : ByteArray) (hr : RisesX l) (h : isAtX l key (rankX l key) = false) : l.filter (fun x => x.key.toList != key.toList) = l := by
  rw [List.filter_eq_self]
  intro x hx
  obtain ⟨t, ht, rfl⟩ := List.getElem_of_mem hx
  by_cases h1 : t < rankX l key
  · have := not_eq_of_lt (rank_beforeX key l t ht h1)
    simp only [bne, this, Bool.not_false]
  · have hrk : rankX l key < l.length := by omega
    have hge := rank_atX key l hrk
    rw [isAt_ltX l key _ hrk] at h
    have : (l[t].key.toList == key.toList) = false := by
      by_cases e : t = rankX l key
      · subst e; exact h
      · cases e2 : (l[t].key.toList == key.toList)
        · rfl
        · have h2 := hr.at (rankX l key) t (by omega) ht
          have e3 : l[t].key.toList = key.toList := by simpa using e2
          have h3 : bLt l[rankX l key].key key = true := by unfold bLt at h2 ⊢; rw [← e3]; exact h2
          rw [h3] at hge; cases hge
    simp only [bne, this, Bool.not_false]
theorem app_rises {l : List Change} (c : Change) (hr : RisesX l) : RisesX (appX l c) := by
  unfold appX
  cases hg : c.gone
  · have h := rises_putX c hr
    rw [put_risesX l c hr _ rfl] at h
    by_cases hi : isAtX l c.key (rankX l c.key) = true
    · simp only [hi, if_true] at h ⊢; simpa using h
    · simp only [hi, if_false] at h ⊢; simpa using h
  · by_cases hi : isAtX l c.key (rankX l c.key) = true
    · rw [if_pos hi]
      simp only [if_true]
      rw [← drop_risesX l c.key hr _ rfl hi]
      exact List.Pairwise.filter _ hr
    · rw [if_neg hi]
      simp only [if_true]
      exact hr
theorem app_len (l : List Change) (c : Change) : (appX l c).length ≤ l.length + 1 := by
  unfold appX
  split
  · split
    · rw [List.length_append, List.length_take, List.length_drop]; omega
    · rename_i h _
      have := isAt_lenX h
      rw [List.length_append, List.length_take, List.length_cons, List.length_drop]; omega
  · split
    · omega
    · rw [List.length_append, List.length_take, List.length_cons, List.length_drop]; omega
def appsTo (l cs : List Change) (k : Nat) : List Change := (cs.take k).foldl appX l
theorem appsTo_next (l cs : List Change) (k : Nat) (h : k < cs.length) : appsTo l cs (k + 1) = appX (appsTo l cs k) cs[k] := by
  unfold appsTo; rw [List.take_succ_eq_append_getElem h, List.foldl_append]; rfl
theorem appsTo_rises {l : List Change} (cs : List Change) (hr : RisesX l) : ∀ k, k ≤ cs.length → RisesX (appsTo l cs k) ∧ (appsTo l cs k).length ≤ l.length + k
  | 0, _ => ⟨hr, Nat.le_refl _⟩
  | k + 1, h => by
    obtain ⟨h1, h2⟩ := appsTo_rises cs hr k (by omega)
    rw [appsTo_next l cs k (by omega)]
    exact ⟨app_rises _ h1, Nat.le_trans (app_len _ _) (by omega)⟩
end Go.Proofs.YtggpodlecljcbadGreatDoor
namespace Go.Proofs.YtggpodlecljcbadGreatDoor
open Go.RowKit Go.Sort
set_option linter.unusedSimpArgs false
set_option linter.unusedVariables false
theorem cf_key {k v : ByteArray} {g : Bool} (h : k.toList = []) : changeFault ⟨k, v, g⟩ = 3 := by simp [changeFault, h]
theorem cf_gone {k v : ByteArray} (h : ¬ k.toList = []) (h2 : ¬ v.toList = []) : changeFault ⟨k, v, true⟩ = 3 := by simp [changeFault, h, h2]
theorem cf_long {k v : ByteArray} {g : Bool} (h : ¬ k.toList = []) (h2 : g = false ∨ v.toList = []) (h3 : 8 < k.size ∨ 16 < v.size) : changeFault ⟨k, v, g⟩ = 2 := by
  rcases h2 with rfl | h2 <;> simp [changeFault, h, h3, *]
theorem cf_good {k v : ByteArray} {g : Bool} (h : ¬ k.toList = []) (h2 : g = false ∨ v.toList = []) (h3 : ¬ (8 < k.size ∨ 16 < v.size)) : changeFault ⟨k, v, g⟩ = 0 := by
  rcases h2 with rfl | h2 <;> simp [changeFault, h, h3, *]
set_option maxHeartbeats 2000000 in
theorem row_Check (k v : ByteArray) (g : Bool) (w : World) (hk : k.size ≤ maxLen) (hv : v.size ≤ maxLen) :
    Calls Tryz.prog 72 #[.agg #[.string k, .string v, .bool g]] w fun e w' => e = .returned (errV (changeFault ⟨k, v, g⟩)) ∧ Below w.heap.size w w' := by
  unfold maxLen at hk hv
  have B1 := Lib.hid (below_alloc w (.cells #[.string k, .string v, .bool g] 91))
  by_cases hk0 : k.toList = []
  · have hF := Lib.hid (cf_key (v := v) (g := g) hk0)
    have he : k.toList.isEmpty = true := by rw [hk0]; rfl
    go_enter Tryz.func72, Tryz.ntmps72
    go_wp2_with fail
    go_ret
    exact ⟨by rw [hF.out]; rfl, B1.out⟩
  have he : k.toList.isEmpty = false := by cases hh : k.toList with | nil => exact absurd hh hk0 | cons a r => rfl
  by_cases hgv : g = true ∧ ¬ v.toList = []
  · obtain ⟨rfl, hv0⟩ := hgv
    have hF := Lib.hid (cf_gone hk0 hv0)
    have hve : v.toList.isEmpty = false := by cases hh : v.toList with | nil => exact absurd hh hv0 | cons a r => rfl
    go_enter Tryz.func72, Tryz.ntmps72
    go_wp2_with fail
    go_ret
    exact ⟨by rw [hF.out]; rfl, B1.out⟩
  have hgv2 : g = false ∨ v.toList = [] := by
    cases g
    · exact Or.inl rfl
    · exact Or.inr (Classical.byContradiction fun h => hgv ⟨rfl, h⟩)
  clear hgv
  have key : changeFault ⟨k, v, g⟩ = if 8 < k.size ∨ 16 < v.size then 2 else 0 := by
    by_cases h3 : 8 < k.size ∨ 16 < v.size
    · rw [if_pos h3]; exact cf_long hk0 hgv2 h3
    · rw [if_neg h3]; exact cf_good hk0 hgv2 h3
  have HK := Lib.hid key
  clear key
  rcases hgv2 with rfl | hv0
  rotate_left
  · have hve : v.toList.isEmpty = true := by rw [hv0]; rfl
    cases g
    all_goals
      by_cases h8 : 8 < k.size
      · have h8' : (8 : Int) < (k.size : Int) := by omega
        have hF := Lib.hid (HK.out.trans (if_pos (Or.inl h8)))
        clear h8
        go_enter Tryz.func72, Tryz.ntmps72
        go_wp2_with fail
        go_ret
        exact ⟨by rw [hF.out]; rfl, B1.out⟩
      · have h8' : ¬ (8 : Int) < (k.size : Int) := by omega
        by_cases h16 : 16 < v.size
        · have h16' : (16 : Int) < (v.size : Int) := by omega
          have hF := Lib.hid (HK.out.trans (if_pos (Or.inr h16)))
          clear h8 h16
          go_enter Tryz.func72, Tryz.ntmps72
          go_wp2_with fail
          go_ret
          exact ⟨by rw [hF.out]; rfl, B1.out⟩
        · have h16' : ¬ (16 : Int) < (v.size : Int) := by omega
          have hF := Lib.hid (HK.out.trans (if_neg (by omega)))
          clear h8 h16
          go_enter Tryz.func72, Tryz.ntmps72
          go_wp2_with fail
          go_ret
          exact ⟨by rw [hF.out]; rfl, B1.out⟩
  · by_cases h8 : 8 < k.size
    · have h8' : (8 : Int) < (k.size : Int) := by omega
      have hF := Lib.hid (HK.out.trans (if_pos (Or.inl h8)))
      clear h8
      go_enter Tryz.func72, Tryz.ntmps72
      go_wp2_with fail
      go_ret
      exact ⟨by rw [hF.out]; rfl, B1.out⟩
    · have h8' : ¬ (8 : Int) < (k.size : Int) := by omega
      by_cases h16 : 16 < v.size
      · have h16' : (16 : Int) < (v.size : Int) := by omega
        have hF := Lib.hid (HK.out.trans (if_pos (Or.inr h16)))
        clear h8 h16
        go_enter Tryz.func72, Tryz.ntmps72
        go_wp2_with fail
        go_ret
        exact ⟨by rw [hF.out]; rfl, B1.out⟩
      · have h16' : ¬ (16 : Int) < (v.size : Int) := by omega
        have hF := Lib.hid (HK.out.trans (if_neg (by omega)))
        clear h8 h16
        go_enter Tryz.func72, Tryz.ntmps72
        go_wp2_with fail
        go_ret
        exact ⟨by rw [hF.out]; rfl, B1.out⟩
end Go.Proofs.YtggpodlecljcbadGreatDoor
namespace Go.Proofs.YtggpodlecljcbadGreatDoor
open Go.RowKit Go.Sort
set_option linter.unusedSimpArgs false
set_option linter.unusedVariables false
theorem cf_sizes {c : Change} (h : changeFault c = 0) : c.key.size ≤ 8 ∧ c.val.size ≤ 16 := by
  unfold changeFault at h
  split at h
  · cases h
  · split at h
    · cases h
    · omega
theorem conv_gone0 (n : Nat) (hn : n ≤ 255) (w : World) : (convert 154 9 (.slice (some ⟨w.heap.size, 0, none⟩) 2 2)).run Tryz.prog (w.alloc (.cells #[.int .u8 0, .int .u8 (n : Int)] 5)) = .ok (.string ⟨#[0, n.toUInt8]⟩) (w.alloc (.cells #[.int .u8 0, .int .u8 (n : Int)] 5)) := by
  refine run_convert_bytes_back (P := Tryz.prog) (w.alloc (.cells #[.int .u8 0, .int .u8 (n : Int)] 5)) 154 9 5 ⟨w.heap.size, 0, none⟩ 2 [0, n.toUInt8] Tryz.underlying154 Tryz.underlying5 Tryz.underlying9 (fun j hj => ?_)
  rw [Addr.add_lit]
  match j, hj with
  | 0, _ => simp
  | 1, _ => simp; omega
theorem conv_gone1 (n : Nat) (hn : n ≤ 255) (w : World) : (convert 154 9 (.slice (some ⟨w.heap.size, 0, none⟩) 2 2)).run Tryz.prog (w.alloc (.cells #[.int .u8 1, .int .u8 (n : Int)] 5)) = .ok (.string ⟨#[1, n.toUInt8]⟩) (w.alloc (.cells #[.int .u8 1, .int .u8 (n : Int)] 5)) := by
  refine run_convert_bytes_back (P := Tryz.prog) (w.alloc (.cells #[.int .u8 1, .int .u8 (n : Int)] 5)) 154 9 5 ⟨w.heap.size, 0, none⟩ 2 [1, n.toUInt8] Tryz.underlying154 Tryz.underlying5 Tryz.underlying9 (fun j hj => ?_)
  rw [Addr.add_lit]
  match j, hj with
  | 0, _ => simp
  | 1, _ => simp; omega
set_option maxRecDepth 100000 in
set_option maxHeartbeats 2000000 in
theorem row_Bytes (c : Change) (w : World) (hk : c.key.size ≤ maxLen) (hv : c.val.size ≤ maxLen) :
    Calls Tryz.prog 143 #[.agg #[.string c.key, .string c.val, .bool c.gone]] w fun e w' => e = .returned (.tuple #[.string (changeBytes c).1, errV (changeBytes c).2]) ∧ Below w.heap.size w w' := by
  obtain ⟨k, v, g⟩ := c
  dsimp only at hk hv ⊢
  have C := Lib.hid fun W => row_Check k v g W hk hv
  unfold maxLen at hk hv
  obtain ⟨W1, hW1⟩ : ∃ W1, W1 = w.alloc (.cells #[.string k, .string v, .bool g] 91) := ⟨_, rfl⟩
  have B1 : Hid (Below w.heap.size w W1) := Lib.hid (by rw [hW1]; exact below_alloc w _)
  have CE : Hid (∀ W, Below W1.heap.size W1 W → W.cell? ⟨w.heap.size, 0, none⟩ = some (.string k) ∧ W.cell? ⟨w.heap.size, 1, none⟩ = some (.string v) ∧ W.cell? ⟨w.heap.size, 2, none⟩ = some (.bool g)) := Lib.hid fun W hb => ⟨cell_on' hb (by rw [hW1]; simp), cell_on' hb (by rw [hW1]; simp), cell_on' hb (by rw [hW1]; simp)⟩
  have HW1 := Lib.hid hW1
  clear hW1
  go_enter Tryz.func143, Tryz.ntmps143
  go_wp2_with fail
  rw [← HW1.out]
  refine (C.out _).mono ?_
  rintro e w2 ⟨rfl, hb2⟩
  have HB2 := Lib.hid hb2
  obtain ⟨c0, c1, c2⟩ := CE.out _ hb2
  clear hb2
  by_cases hf : changeFault ⟨k, v, g⟩ = 0
  rotate_left
  · have he : errV (changeFault ⟨k, v, g⟩) = .iface 100 (.int .i64 (changeFault ⟨k, v, g⟩)) := errV_pos hf
    have hcb : Hid (changeBytes ⟨k, v, g⟩ = (⟨#[]⟩, changeFault ⟨k, v, g⟩)) := Lib.hid (by unfold changeBytes; rw [if_pos hf])
    clear hf
    go_wp2_with fail
    refine bodyPost_ret (v := .tuple #[.string ⟨#[]⟩, errV (changeFault ⟨k, v, g⟩)]) (by simp [results, Tryz.results143, go_sem, he]) rfl ?_
    exact ⟨by rw [hcb.out], two B1.out HB2.out⟩
  have he : errV (changeFault ⟨k, v, g⟩) = .nilIface := by rw [hf]; rfl
  have HF := Lib.hid hf
  obtain ⟨hk8, hv16⟩ := cf_sizes hf
  dsimp only at hk8 hv16
  clear hf hk hv
  cases g
  · have hcv := conv_gone0 k.size (by omega) w2
    have hcb : Hid (changeBytes ⟨k, v, false⟩ = ((⟨#[0, k.size.toUInt8]⟩ : ByteArray) ++ k ++ v, 0)) := Lib.hid (by unfold changeBytes; rw [if_neg (by simp [HF.out])]; rfl)
    have HB3 := Lib.hid (two B1.out (two HB2.out (below_alloc w2 (.cells #[.int .u8 0, .int .u8 (k.size : Int)] 5))))
    obtain ⟨e0, e1, e2⟩ := CE.out _ (two HB2.out (below_alloc w2 (.cells #[.int .u8 0, .int .u8 (k.size : Int)] 5)))
    go_wp2_with fail
    refine bodyPost_ret (v := .tuple #[.string ((⟨#[0, k.size.toUInt8]⟩ : ByteArray) ++ k ++ v), .nilIface]) (by simp [results, Tryz.results143, go_sem, he]) rfl ?_
    exact ⟨by rw [hcb.out]; rfl, HB3.out⟩
  · have hcv := conv_gone1 k.size (by omega) w2
    have hcb : Hid (changeBytes ⟨k, v, true⟩ = ((⟨#[1, k.size.toUInt8]⟩ : ByteArray) ++ k ++ v, 0)) := Lib.hid (by unfold changeBytes; rw [if_neg (by simp [HF.out])]; rfl)
    have HB3 := Lib.hid (two B1.out (two HB2.out (below_alloc w2 (.cells #[.int .u8 1, .int .u8 (k.size : Int)] 5))))
    obtain ⟨e0, e1, e2⟩ := CE.out _ (two HB2.out (below_alloc w2 (.cells #[.int .u8 1, .int .u8 (k.size : Int)] 5)))
    go_wp2_with fail
    refine bodyPost_ret (v := .tuple #[.string ((⟨#[1, k.size.toUInt8]⟩ : ByteArray) ++ k ++ v), .nilIface]) (by simp [results, Tryz.results143, go_sem, he]) rfl ?_
    exact ⟨by rw [hcb.out]; rfl, HB3.out⟩
end Go.Proofs.YtggpodlecljcbadGreatDoor
namespace Go.Proofs.YtggpodlecljcbadGreatDoor
open Go.RowKit Go.Sort
set_option linter.unusedSimpArgs false
set_option linter.unusedVariables false
/-- A box of a change. -/
structure QXAt (w : World) (b : Nat) (c : Change) : Prop where
  c0 : w.cell? ⟨b, 0, none⟩ = some (.string c.key)
  c1 : w.cell? ⟨b, 1, none⟩ = some (.string c.val)
  c2 : w.cell? ⟨b, 2, none⟩ = some (.bool c.gone)
  f0 : w.frozen? ⟨b, 0, none⟩ = false
  f1 : w.frozen? ⟨b, 1, none⟩ = false
  f2 : w.frozen? ⟨b, 2, none⟩ = false
  lt : b < w.heap.size
theorem QXAt.new (w : World) (c : Change) : QXAt (w.alloc (.cells #[.string c.key, .string c.val, .bool c.gone] 91)) w.heap.size c := ⟨by simp, by simp, by simp, by simp, by simp, by simp, by simp⟩
theorem QXAt.below {w w' : World} {b : Nat} {c : Change} (h : QXAt w b c) (hb : Below w.heap.size w w') : QXAt w' b c := by
  obtain ⟨k, fr⟩ := bcell hb
  exact ⟨(k _ _ h.lt).trans h.c0, (k _ _ h.lt).trans h.c1, (k _ _ h.lt).trans h.c2, (fr _ _ h.lt).trans h.f0, (fr _ _ h.lt).trans h.f1, (fr _ _ h.lt).trans h.f2, Nat.lt_of_lt_of_le h.lt hb.size⟩
set_option maxRecDepth 100000 in
set_option maxHeartbeats 4000000 in
theorem row_Parse (s : ByteArray) (w : World) (hs : s.size ≤ 1000) :
    Calls Tryz.prog 115 #[.string s] w fun e w' => e = .returned (.tuple #[(changeOf s).1.val', errV (changeOf s).2]) ∧ Below w.heap.size w w' := by
  obtain ⟨W1, hW1⟩ : ∃ W1, W1 = w.alloc (.cells #[.string ⟨#[]⟩, .string ⟨#[]⟩, .bool false] 91) := ⟨_, rfl⟩
  have B1 : Hid (Below w.heap.size w W1) := Lib.hid (by rw [hW1]; exact below_alloc w _)
  have HW1 := Lib.hid hW1
  clear hW1
  have HQ : Hid (QXAt W1 w.heap.size zeroX) := Lib.hid (by rw [HW1.out]; exact QXAt.new w zeroX)
  have hend : ∀ (b : Nat) (n : Nat), True := fun _ _ => trivial
  by_cases h2 : s.size < 2
  · have HC : Hid (changeOf s = (zeroX, 4)) := Lib.hid (by unfold changeOf; rw [dif_pos h2])
    go_enter Tryz.func115, Tryz.ntmps115
    go_wp2_with fail
    have HBF := (((below_alloc w (.cells #[.string ⟨#[]⟩, .string ⟨#[]⟩, .bool false] 91)).setCell (p := ⟨w.heap.size, 0, none⟩) (Nat.le_refl _) (.string ⟨#[]⟩)).setCell (p := ⟨w.heap.size, 1, none⟩) (Nat.le_refl _) (.string ⟨#[]⟩)).setCell (p := ⟨w.heap.size, 2, none⟩) (Nat.le_refl _) (.bool false)
    refine bodyPost_ret (v := .tuple #[.agg #[.string ⟨#[]⟩, .string ⟨#[]⟩, .bool false], .iface 100 (.int .i64 4)]) (by simp [results, Tryz.results115, go_sem]) rfl ?_
    exact ⟨by rw [HC.out]; rfl, by first | exact HBF | exact below_alloc _ _⟩
  have h0 : 0 < s.size := by omega
  have h1 : 1 < s.size := by omega
  have hy : s[1].toNat ≤ 255 := by have := s[1].toNat_lt; omega
  have HC0 : Hid (changeOf s = changeFrom s s[0] s[1]) := Lib.hid (by unfold changeOf; rw [dif_neg h2])
  by_cases hg : 1 < s[0].toNat
  · have HC : Hid (changeOf s = (zeroX, 4)) := Lib.hid (by rw [HC0.out]; unfold changeFrom; rw [if_pos (Or.inl hg)])
    go_enter Tryz.func115, Tryz.ntmps115
    go_wp2_with fail
    have HBF := (((below_alloc w (.cells #[.string ⟨#[]⟩, .string ⟨#[]⟩, .bool false] 91)).setCell (p := ⟨w.heap.size, 0, none⟩) (Nat.le_refl _) (.string ⟨#[]⟩)).setCell (p := ⟨w.heap.size, 1, none⟩) (Nat.le_refl _) (.string ⟨#[]⟩)).setCell (p := ⟨w.heap.size, 2, none⟩) (Nat.le_refl _) (.bool false)
    refine bodyPost_ret (v := .tuple #[.agg #[.string ⟨#[]⟩, .string ⟨#[]⟩, .bool false], .iface 100 (.int .i64 4)]) (by simp [results, Tryz.results115, go_sem]) rfl ?_
    exact ⟨by rw [HC.out]; rfl, by first | exact HBF | exact below_alloc _ _⟩
  by_cases hn : s.size < 2 + s[1].toNat
  · have HC : Hid (changeOf s = (zeroX, 4)) := Lib.hid (by rw [HC0.out]; unfold changeFrom; rw [if_pos (Or.inr hn)])
    have hn' : (s.size : Int) < 2 + (s[1].toNat : Int) := by omega
    go_enter Tryz.func115, Tryz.ntmps115
    go_wp2_with fail
    have HBF := (((below_alloc w (.cells #[.string ⟨#[]⟩, .string ⟨#[]⟩, .bool false] 91)).setCell (p := ⟨w.heap.size, 0, none⟩) (Nat.le_refl _) (.string ⟨#[]⟩)).setCell (p := ⟨w.heap.size, 1, none⟩) (Nat.le_refl _) (.string ⟨#[]⟩)).setCell (p := ⟨w.heap.size, 2, none⟩) (Nat.le_refl _) (.bool false)
    refine bodyPost_ret (v := .tuple #[.agg #[.string ⟨#[]⟩, .string ⟨#[]⟩, .bool false], .iface 100 (.int .i64 4)]) (by simp [results, Tryz.results115, go_sem]) rfl ?_
    exact ⟨by rw [HC.out]; rfl, by first | exact HBF | exact below_alloc _ _⟩
  have HC : Hid (changeOf s = if changeFault (changeAt s s[0] s[1]) ≠ 0 then (zeroX, 4) else (changeAt s s[0] s[1], 0)) := Lib.hid (by rw [HC0.out]; unfold changeFrom; rw [if_neg (by omega)])
  have hn' : ¬ (s.size : Int) < 2 + (s[1].toNat : Int) := by omega
  clear HC0
  go_enter Tryz.func115, Tryz.ntmps115
  go_wp2_with fail
  go_region
  obtain ⟨k, hk⟩ : ∃ k, k = s.extract 2 (2 + s[1].toNat) := ⟨_, rfl⟩
  obtain ⟨v, hv⟩ : ∃ k, k = s.extract (2 + s[1].toNat) s.size := ⟨_, rfl⟩
  obtain ⟨g, hgn⟩ : ∃ k, k = ((s[0].toNat : Int) == 1) := ⟨_, rfl⟩
  have hcc : changeAt s s[0] s[1] = ⟨k, v, g⟩ := by rw [hk, hv, hgn]; rfl
  have hks : k.size ≤ maxLen := by rw [hk, ByteArray.size_extract]; unfold maxLen; omega
  have hvs : v.size ≤ maxLen := by rw [hv, ByteArray.size_extract]; unfold maxLen; omega
  rw [hcc] at HC
  rw [← hk, ← hv, ← hgn]
  obtain ⟨W2, hW2⟩ : ∃ W2, W2 = ((w.alloc (.cells #[.string ⟨#[]⟩, .string ⟨#[]⟩, .bool false] 91)).alloc (.cells #[.string k, .string v, .bool g] 91)).drew := ⟨_, rfl⟩
  have z1 : W1.heap.size = w.heap.size + 1 := by rw [HW1.out]; simp
  have X2 : QXAt W2 (w.heap.size + 1) ⟨k, v, g⟩ := by
    rw [hW2, ← HW1.out, ← z1]
    exact (QXAt.new W1 ⟨k, v, g⟩).below (Below.refl _ _).drew
  have B2 : Below W1.heap.size W1 W2 := by rw [hW2, ← HW1.out]; exact (below_alloc _ _).drew
  have HX2 := Lib.hid X2
  have HR2 := Lib.hid (HQ.out.below B2)
  have HB2 := Lib.hid (two B1.out B2)
  have CC := Lib.hid fun W => row_Check k v g W hks hvs
  have HW2 := Lib.hid hW2
  have q0 := HX2.out.c0
  have q1 := HX2.out.c1
  have q2 := HX2.out.c2
  dsimp only at q0 q1 q2
  rw [← HW2.out]
  clear hk hv hgn hcc hW2 X2 B2 z1 hks hvs hg hn hn' hy
  go_wp2_with fail
  refine (CC.out _).mono ?_
  rintro e w3 ⟨rfl, hb3⟩
  have HR3 := Lib.hid (HR2.out.below hb3)
  have HX3 := Lib.hid (HX2.out.below hb3)
  have HB3 := Lib.hid (two HB2.out hb3)
  clear hb3 q0 q1 q2
  have r0 := HR3.out.c0
  have r1 := HR3.out.c1
  have r2 := HR3.out.c2
  have r3 := HR3.out.f0
  have r4 := HR3.out.f1
  have r5 := HR3.out.f2
  by_cases hf : changeFault ⟨k, v, g⟩ = 0
  · have he : errV (changeFault ⟨k, v, g⟩) = .nilIface := by rw [hf]; rfl
    have HC2 : Hid (changeOf s = (⟨k, v, g⟩, 0)) := Lib.hid (by rw [HC.out, if_neg (by simp [hf])])
    have q0 := HX3.out.c0
    have q1 := HX3.out.c1
    have q2 := HX3.out.c2
    dsimp only at q0 q1 q2
    clear hf
    go_wp2_with fail
    have HBF := ((HB3.out.setCell (p := ⟨w.heap.size, 0, none⟩) (Nat.le_refl _) (.string k)).setCell (p := ⟨w.heap.size, 1, none⟩) (Nat.le_refl _) (.string v)).setCell (p := ⟨w.heap.size, 2, none⟩) (Nat.le_refl _) (.bool g)
    refine bodyPost_ret (v := .tuple #[.agg #[.string k, .string v, .bool g], .nilIface]) (by simp [results, Tryz.results115, go_sem, r0, r1, r2, r3, r4, r5]) rfl ?_
    exact ⟨by rw [HC2.out]; rfl, HBF⟩
  · have he : errV (changeFault ⟨k, v, g⟩) = .iface 100 (.int .i64 (changeFault ⟨k, v, g⟩)) := errV_pos hf
    have HC2 : Hid (changeOf s = (zeroX, 4)) := Lib.hid (by rw [HC.out, if_pos hf])
    clear hf
    go_wp2_with fail
    have HBF := ((HB3.out.setCell (p := ⟨w.heap.size, 0, none⟩) (Nat.le_refl _) (.string ⟨#[]⟩)).setCell (p := ⟨w.heap.size, 1, none⟩) (Nat.le_refl _) (.string ⟨#[]⟩)).setCell (p := ⟨w.heap.size, 2, none⟩) (Nat.le_refl _) (.bool false)
    refine bodyPost_ret (v := .tuple #[.agg #[.string ⟨#[]⟩, .string ⟨#[]⟩, .bool false], .iface 100 (.int .i64 4)]) (by simp [results, Tryz.results115, go_sem, r0, r1, r2, r3, r4, r5]) rfl ?_
    exact ⟨by rw [HC2.out]; rfl, HBF⟩
end Go.Proofs.YtggpodlecljcbadGreatDoor
