/- Plain: chapter 8: what adding a deed does to a disk. Plain: chapter 8: a deed is there whole or not at all. -/
import Derived.Test.YtggpodlecljcbacSpecY2
import Derived.Test.YtggpodlecljcbacWalkY3
namespace Go.Proofs.Ytggpodlecljcbac
set_option linter.unusedSimpArgs false
set_option linter.unusedVariables false
open Go.RowKit Go.Sort
def thenD (p : DiskS × Nat) (f : DiskS → DiskS × Nat) : DiskS × Nat := if p.2 ≠ 0 then p else f p.1
theorem thenD_bad {p : DiskS × Nat} {f : DiskS → DiskS × Nat} (h : p.2 ≠ 0) : thenD p f = p := if_pos h
theorem thenD_good {p : DiskS × Nat} {f : DiskS → DiskS × Nat} (h : p.2 = 0) : thenD p f = f p.1 := if_neg (by simp [h])
def layRows (fr first next : Nat) : Nat → List Change → DiskS → DiskS × Nat
  | _, [], D => (D, 0)
  | i, c :: r, D => thenD (writeD D ((fr + next + i : Nat) : Int) (textY 111 (first + next + i) (changeBytes c).1)) (layRows fr first next (i + 1) r)
def blankY (fr many next n : Nat) (D : DiskS) : DiskS × Nat := if next + n + 1 < many then writeD D ((fr + (next + n + 1) : Nat) : Int) ⟨#[]⟩ else (D, 0)
def layY (fr many first next : Nat) (c : List Change) (D : DiskS) : DiskS × Nat := thenD (layRows fr first next 0 c D) (blankY fr many next c.length)
def markY (fr first next n : Nat) (D : DiskS) : DiskS × Nat := writeD D ((fr + (next + n) : Nat) : Int) (textY 99 (first + (next + n)) (fourB n))
def faultsY : List Change → Nat
  | [] => 0
  | c :: r => if changeFault c ≠ 0 then changeFault c else faultsY r
/-- the four steps. -/
def sealY (fr many first next : Nat) (c : List Change) (D : DiskS) : DiskS × Nat := thenD (thenD (thenD (layY fr many first next c D) flushD) (markY fr first next c.length)) flushD
def addFault (many next : Nat) (c : List Change) : Nat := if 14 < c.length then 2 else if many < next + c.length + 1 then 7 else faultsY c
def addY (fr many first next : Nat) (c : List Change) (D : DiskS) : DiskS × Nat := if addFault many next c ≠ 0 then (D, addFault many next c) else sealY fr many first next c D
theorem faultsY_none : ∀ (c : List Change), faultsY c = 0 → ∀ x ∈ c, changeFault x = 0
  | [], _, x, hx => by cases hx
  | c :: r, h, x, hx => by
    unfold faultsY at h
    split at h
    · rename_i hn; exact absurd h hn
    · rename_i hn
      rcases List.mem_cons.1 hx with rfl | hx
      · simpa using hn
      · exact faultsY_none r h x hx
theorem addFault_none {many next : Nat} {c : List Change} (h : addFault many next c = 0) : c.length ≤ 14 ∧ next + c.length + 1 ≤ many ∧ (∀ x ∈ c, changeFault x = 0) := by
  unfold addFault at h
  split at h
  · cases h
  · split at h
    · cases h
    · exact ⟨by omega, by omega, faultsY_none c h⟩
/-- a property that writes and flushes keep. -/
structure KeptY (I : DiskS → Prop) : Prop where
  write : ∀ D p s, I D → I (writeD D p s).1
  flush : ∀ D, I D → I (flushD D).1
theorem keep_rows {I : DiskS → Prop} (hI : KeptY I) (fr first next : Nat) : ∀ (c : List Change) (i : Nat) (D : DiskS), I D → I (layRows fr first next i c D).1
  | [], _, _, h => h
  | c :: r, i, D, h => by
    unfold layRows thenD
    split
    · exact hI.write _ _ _ h
    · exact keep_rows hI fr first next r (i + 1) _ (hI.write _ _ _ h)
theorem keep_lay {I : DiskS → Prop} (hI : KeptY I) (fr many first next : Nat) (c : List Change) (D : DiskS) (h : I D) : I (layY fr many first next c D).1 := by
  unfold layY thenD
  split
  · exact keep_rows hI _ _ _ _ _ _ h
  · unfold blankY
    split
    · exact hI.write _ _ _ (keep_rows hI _ _ _ _ _ _ h)
    · exact keep_rows hI _ _ _ _ _ _ h
theorem keep_then {I : DiskS → Prop} {p : DiskS × Nat} {f : DiskS → DiskS × Nat} (h : I p.1) (hf : ∀ D, I D → I (f D).1) : I (thenD p f).1 := by
  unfold thenD
  split
  · exact h
  · exact hf _ h
theorem keep_seal {I : DiskS → Prop} (hI : KeptY I) (fr many first next : Nat) (c : List Change) (D : DiskS) (h : I D) : I (sealY fr many first next c D).1 :=
  keep_then (keep_then (keep_then (keep_lay hI fr many first next c D h) hI.flush) (fun E hE => hI.write E _ _ hE)) hI.flush
theorem keep_add {I : DiskS → Prop} (hI : KeptY I) (fr many first next : Nat) (c : List Change) (D : DiskS) (h : I D) : I (addY fr many first next c D).1 := by
  unfold addY
  split
  · exact h
  · exact keep_seal hI _ _ _ _ _ _ h
theorem keptY_ok : KeptY DiskS.ok := ⟨fun _ p s h => h.write p s, fun _ h => h.flush⟩
theorem write_now (D : DiskS) (p : Int) (s : ByteArray) : (writeD D p s).1.now.length = D.now.length := by
  unfold writeD; split
  · rfl
  · split
    · rw [(stepD_same D).2.1]
    · simp
theorem flush_now (D : DiskS) : (flushD D).1.now = D.now := by
  unfold flushD; split
  · exact (stepD_same D).2.1
  · exact (stepD_same D).2.1
theorem keptY_len (n : Nat) : KeptY (fun D => D.now.length = n) := ⟨fun D p s h => (write_now D p s).trans h, fun D h => by rw [flush_now]; exact h⟩
theorem keptY_40 : KeptY (fun D => ∀ s ∈ D.now, s.size = 40) := ⟨fun D p s h x hx => by
    unfold writeD at hx; split at hx
    · exact h x hx
    · rename_i hn
      split at hx
      · rw [(stepD_same D).2.1] at hx; exact h x hx
      · rcases List.mem_or_eq_of_mem_set hx with hx | rfl
        · exact h x hx
        · exact fullS_size _ (by omega), fun D h => by rw [flush_now]; exact h⟩
theorem write_wait (D : DiskS) (p : Int) (s : ByteArray) : (writeD D p s).1.wait.length ≤ D.wait.length + 1 := by
  unfold writeD; split
  · exact Nat.le_succ _
  · split
    · rw [(stepD_same D).2.2]; exact Nat.le_succ _
    · simp
theorem flush_wait (D : DiskS) : (flushD D).1.wait.length ≤ D.wait.length := by
  unfold flushD; split
  · rw [(stepD_same D).2.2]; exact Nat.le_refl _
  · simp
theorem wait_rows (fr first next : Nat) : ∀ (c : List Change) (i : Nat) (D : DiskS), (layRows fr first next i c D).1.wait.length ≤ D.wait.length + c.length
  | [], _, _ => Nat.le_refl _
  | c :: r, i, D => by
    have h := write_wait D ((fr + next + i : Nat) : Int) (textY 111 (first + next + i) (changeBytes c).1)
    unfold layRows thenD
    split
    · simp only [List.length_cons]; omega
    · have := wait_rows fr first next r (i + 1) (writeD D ((fr + next + i : Nat) : Int) (textY 111 (first + next + i) (changeBytes c).1)).1
      simp only [List.length_cons]; omega
theorem wait_lay (fr many first next : Nat) (c : List Change) (D : DiskS) : (layY fr many first next c D).1.wait.length ≤ D.wait.length + c.length + 1 := by
  have h := wait_rows fr first next c 0 D
  unfold layY thenD
  split
  · omega
  · unfold blankY
    split
    · have := write_wait (layRows fr first next 0 c D).1 ((fr + (next + c.length + 1) : Nat) : Int) ⟨#[]⟩
      omega
    · show (layRows fr first next 0 c D).1.wait.length ≤ _; omega
theorem wait_seal (fr many first next : Nat) (c : List Change) (D : DiskS) : (sealY fr many first next c D).1.wait.length ≤ D.wait.length + c.length + 2 := by
  have h := wait_lay fr many first next c D
  have f1 := flush_wait (layY fr many first next c D).1
  have f2 : ∀ E : DiskS, (markY fr first next c.length E).1.wait.length ≤ E.wait.length + 1 := fun E => write_wait _ _ _
  have f3 := f2 (layY fr many first next c D).1
  have f4 := f2 (flushD (layY fr many first next c D).1).1
  have f5 := flush_wait (markY fr first next c.length (layY fr many first next c D).1).1
  have f6 := flush_wait (markY fr first next c.length (flushD (layY fr many first next c D).1).1).1
  have f7 := flush_wait (flushD (layY fr many first next c D).1).1
  unfold sealY thenD
  repeat' split
  all_goals omega
/-- a disk that goes on for ever. -/
def Calm (D : DiskS) : Prop := D.down = false ∧ D.fuse = -1
theorem Calm.step {D : DiskS} (h : Calm D) : stepD D = (D, 0) := by
  unfold stepD
  rw [if_neg (by simp [h.1]), if_neg (by rw [h.2]; decide), if_neg (by rw [h.2]; decide)]
theorem Calm.write {D : DiskS} (h : Calm D) (i : Nat) (s : ByteArray) (hi : i < D.now.length) (hs : s.size ≤ 40) : writeD D i s = ({ D with now := D.now.set i (fullS s), wait := D.wait ++ [⟨i, fullS s⟩] }, 0) := by
  unfold writeD
  rw [if_neg (by omega), if_neg (by rw [h.step]; simp), h.step]
  simp
theorem Calm.flush {D : DiskS} (h : Calm D) : flushD D = ({ D with kept := D.now, wait := [] }, 0) := by
  unfold flushD
  rw [if_neg (by rw [h.step]; simp), h.step]
def setsL (l : List ByteArray) (k : Nat) : List ByteArray → List ByteArray
  | [] => l
  | x :: r => setsL (l.set k x) (k + 1) r
theorem setsL_length : ∀ (xs : List ByteArray) (k : Nat) (l : List ByteArray), (setsL l k xs).length = l.length
  | [], _, _ => rfl
  | x :: r, k, l => by rw [setsL, setsL_length r]; simp
theorem setsL_eq : ∀ (xs : List ByteArray) (k : Nat) (l : List ByteArray), k + xs.length ≤ l.length → setsL l k xs = l.take k ++ xs ++ l.drop (k + xs.length)
  | [], k, l, h => by simp [setsL]
  | x :: r, k, l, h => by
    simp only [List.length_cons] at h
    rw [setsL, setsL_eq r (k + 1) (l.set k x) (by simp; omega)]
    have h1 : (l.set k x).take (k + 1) = l.take k ++ [x] := by
      rw [List.take_succ_eq_append_getElem (by simp; omega), List.take_set, List.set_eq_of_length_le (by simp; omega)]
      simp
    have h2 : (l.set k x).drop (k + 1 + r.length) = l.drop (k + (x :: r).length) := by
      rw [List.drop_set, if_pos (by omega)]
      congr 1
      simp; omega
    rw [h1, h2]
    simp
theorem sect_set (l : List ByteArray) (fr many i : Nat) (x : ByteArray) : ((l.set (fr + i) x).drop fr).take many = ((l.drop fr).take many).set i x := by
  rw [List.drop_set, if_neg (by omega), List.take_set]
  congr 1
  omega
theorem sect_sets (fr many : Nat) : ∀ (xs : List ByteArray) (i : Nat) (l : List ByteArray), ((setsL l (fr + i) xs).drop fr).take many = setsL ((l.drop fr).take many) i xs
  | [], _, _ => rfl
  | x :: r, i, l => by
    rw [setsL, setsL, Nat.add_assoc, sect_sets fr many r (i + 1), sect_set]
theorem full_blank : fullS ⟨#[]⟩ = zeros 40 := by decide +kernel
theorem calm_rows (fr first next : Nat) : ∀ (c : List Change) (i : Nat) (D : DiskS), Calm D → (∀ x ∈ c, changeFault x = 0) → fr + next + i + c.length ≤ D.now.length →
    (layRows fr first next i c D).2 = 0 ∧ Calm (layRows fr first next i c D).1 ∧ (layRows fr first next i c D).1.now = setsL D.now (fr + (next + i)) (opensY first (next + i) c)
  | [], i, D, h, _, _ => ⟨rfl, h, rfl⟩
  | c :: r, i, D, h, hf, hl => by
    simp only [List.length_cons] at hl
    have hc := change_bytes c (hf c (List.mem_cons_self ..))
    have hw := h.write (fr + next + i) (textY 111 (first + next + i) (changeBytes c).1) (by omega) (by rw [textY_size]; omega)
    have hr := calm_rows fr first next r (i + 1) { D with now := D.now.set (fr + next + i) (fullS (textY 111 (first + next + i) (changeBytes c).1)), wait := D.wait ++ [⟨fr + next + i, fullS (textY 111 (first + next + i) (changeBytes c).1)⟩] } ⟨h.1, h.2⟩ (fun x hx => hf x (List.mem_cons_of_mem _ hx)) (by simp; omega)
    unfold layRows
    rw [hw, thenD_good rfl]
    refine ⟨hr.1, hr.2.1, hr.2.2.trans ?_⟩
    simp only [opensY, setsL, openY, Nat.add_assoc]
theorem set_one (P : List ByteArray) (x y : ByteArray) (R : List ByteArray) (k : Nat) (h : k = P.length) : (P ++ x :: R).set k y = P ++ y :: R := by
  subst h
  rw [List.set_append_right _ _ (Nat.le_refl _)]
  simp
theorem set_two (P : List ByteArray) (x y z : ByteArray) (R : List ByteArray) (k : Nat) (h : k = P.length + 1) : (P ++ x :: y :: R).set k z = P ++ x :: z :: R := by
  subst h
  rw [List.set_append_right _ _ (by omega)]
  simp
/-- the sectors behind a deed that was added: what was ahead of it, the deed, and then none, or a blank. -/
theorem calm_seal (fr many first next : Nat) (c : List Change) (D : DiskS) (h : Calm D) (hf : ∀ x ∈ c, changeFault x = 0) (hn : next + c.length + 1 ≤ many) (hm : fr + many ≤ D.now.length) (hlen : c.length ≤ 14) :
    (sealY fr many first next c D).2 = 0 ∧ Calm (sealY fr many first next c D).1 ∧ ∃ R, stopY R ∧ sectorsY (sealY fr many first next c D).1 fr many = (sectorsY D fr many).take next ++ (opensY first next c ++ [closeY first (next + c.length) c.length]) ++ R := by
  obtain ⟨r1, r2, r3⟩ := calm_rows fr first next c 0 D h hf (by omega)
  obtain ⟨D1, hD1⟩ : ∃ D1, D1 = (layRows fr first next 0 c D).1 := ⟨_, rfl⟩
  rw [← hD1] at r2 r3
  rw [Nat.add_zero] at r3
  have l1 : D1.now.length = D.now.length := by rw [r3, setsL_length]
  have hS : (sectorsY D fr many).length = many := by unfold sectorsY; rw [List.length_take, List.length_drop]; omega
  have s1 : sectorsY D1 fr many = (sectorsY D fr many).take next ++ opensY first next c ++ (sectorsY D fr many).drop (next + c.length) := by
    unfold sectorsY
    rw [r3, sect_sets]
    have := setsL_eq (opensY first next c) next (sectorsY D fr many) (by rw [opensY_length]; omega)
    rw [opensY_length] at this
    exact this
  obtain ⟨P, hP⟩ : ∃ P, P = (sectorsY D fr many).take next ++ opensY first next c := ⟨_, rfl⟩
  have hPl : next + c.length = P.length := by rw [hP, List.length_append, List.length_take, opensY_length]; omega
  rw [← hP] at s1
  -- the blank
  have hb : ∃ D2, blankY fr many next c.length D1 = (D2, 0) ∧ Calm D2 ∧ D2.now.length = D.now.length ∧ ∃ x R, stopY R ∧ sectorsY D2 fr many = P ++ x :: R := by
    obtain ⟨x, R0, hx⟩ : ∃ x R0, (sectorsY D fr many).drop (next + c.length) = x :: R0 := by
      cases hd : (sectorsY D fr many).drop (next + c.length) with
      | nil => have := congrArg List.length hd; simp at this; omega
      | cons x R0 => exact ⟨x, R0, rfl⟩
    have hl0 : many = next + c.length + 1 + R0.length := by have := congrArg List.length hx; simp at this; omega
    rw [hx] at s1
    unfold blankY
    by_cases hlt : next + c.length + 1 < many
    · rw [if_pos hlt, r2.write _ _ (by omega) (by decide), full_blank]
      obtain ⟨y, R1, rfl⟩ : ∃ y R1, R0 = y :: R1 := by
        cases R0 with
        | nil => simp at hl0; omega
        | cons y R1 => exact ⟨y, R1, rfl⟩
      refine ⟨_, rfl, ⟨r2.1, r2.2⟩, by simp [l1], x, zeros 40 :: R1, Or.inr ⟨R1, rfl⟩, ?_⟩
      unfold sectorsY at s1 ⊢
      simp only []
      rw [sect_set, s1, set_two P x y (zeros 40) R1 _ (by omega)]
    · rw [if_neg hlt]
      have : R0 = [] := List.length_eq_zero_iff.1 (by omega)
      subst this
      exact ⟨D1, rfl, r2, l1, x, [], Or.inl rfl, s1⟩
  obtain ⟨D2, b1, b2, b3, x, R, b4, b5⟩ := hb
  have hlay : layY fr many first next c D = (D2, 0) := by
    unfold layY
    rw [thenD_good r1, ← hD1, b1]
  have hD3 := b2.flush
  have c3 : Calm { D2 with kept := D2.now, wait := [] } := ⟨b2.1, b2.2⟩
  have hw := c3.write (fr + (next + c.length)) (textY 99 (first + (next + c.length)) (fourB c.length)) (by show _ < D2.now.length; omega) (by rw [textY_size, fourB_size]; omega)
  have hseal : sealY fr many first next c D = ({ D2 with kept := D2.now.set (fr + (next + c.length)) (closeY first (next + c.length) c.length), now := D2.now.set (fr + (next + c.length)) (closeY first (next + c.length) c.length), wait := [] }, 0) := by
    unfold sealY
    rw [hlay, thenD_good (p := (D2, 0)) rfl, hD3, thenD_good (p := (_, 0)) rfl]
    unfold markY
    rw [hw, thenD_good (p := (_, 0)) rfl]
    have hcal : ∀ E : DiskS, E.down = D2.down → E.fuse = D2.fuse → flushD E = ({ E with kept := E.now, wait := [] }, 0) := fun E e1 e2 => Calm.flush ⟨e1.trans b2.1, e2.trans b2.2⟩
    exact hcal _ rfl rfl
  rw [hseal]
  refine ⟨rfl, ⟨b2.1, b2.2⟩, R, b4, ?_⟩
  unfold sectorsY at b5 ⊢
  simp only []
  rw [sect_set, b5, set_one P x _ R _ hPl]
  have hP' : ((D.now.drop fr).take many).take next ++ opensY first next c = P := hP.symm
  rw [← List.append_assoc, hP']
  simp
/-- H2: a deed that is added is there. -/
theorem calm_add (fr many first next : Nat) (c : List Change) (D : DiskS) (want : List (List Change)) (h : Calm D) (hf : addFault many next c = 0) (hm : fr + many ≤ D.now.length) (h1 : 1 ≤ first) (h2 : first ≤ 1000000) (hlen : D.now.length ≤ 60)
    (hw : closedY first (sectorsY D fr many) 0 [] [] 0 = (want, next)) :
    (addY fr many first next c D).2 = 0 ∧ Calm (addY fr many first next c D).1 ∧ closedY first (sectorsY (addY fr many first next c D).1 fr many) 0 [] [] 0 = (want ++ [c], next + c.length + 1) := by
  obtain ⟨g1, g2, g3⟩ := addFault_none hf
  obtain ⟨p1, p2, R, p3, p4⟩ := calm_seal fr many first next c D h g3 g2 hm g1
  have hS : (sectorsY D fr many).length = many := by unfold sectorsY; rw [List.length_take, List.length_drop]; omega
  obtain ⟨q1, q2⟩ := head_take first _ _ _ hw
  have hl : ((sectorsY D fr many).take next).length = next := by rw [List.length_take]; omega
  have q3 := head_add q2 c g3
  rw [hl] at q3
  unfold addY
  rw [if_neg (by simp [hf])]
  refine ⟨p1, p2, ?_⟩
  rw [p4, head_end q3 p3 h1 (by simp [opensY_length]; omega)]
  simp [opensY_length]
  omega
end Go.Proofs.Ytggpodlecljcbac
namespace Go.Proofs.Ytggpodlecljcbac
set_option linter.unusedSimpArgs false
set_option linter.unusedVariables false
open Go.RowKit Go.Sort
/-- a sector that closes no deed. -/
def notClose (s : ByteArray) (num : Nat) : Prop := (lookS s num).2.2 = false ∨ ((lookS s num).1.toNat : Int) ≠ 99
theorem notClose_open (first i : Nat) (c : Change) (h : changeFault c = 0) : notClose (openY first i c) (first + i) := by
  obtain ⟨_, h2, h3⟩ := change_bytes c h
  right
  unfold openY
  rw [look_text _ _ _ _ h2, four_self]
  simp
theorem notClose_zero (num : Nat) (h1 : 1 ≤ num) (h2 : num ≤ 2000000000) : notClose (zeros 40) num := by
  left
  rw [look_zero _ h1 h2]; rfl
/-- none of the sectors from next on closes a deed. -/
def NoClose (first : Nat) (S : List ByteArray) (next : Nat) : Prop := ∀ j (h : j < S.length), next ≤ j → notClose S[j] (first + j)
theorem noClose_closed {first next : Nat} {S : List ByteArray} {want : List (List Change)} (hP : HeadY first (S.take next) want) (hn : next ≤ S.length) (hc : NoClose first S next) : closedY first S 0 [] [] 0 = (want, next) := by
  have hl : (S.take next).length = next := by rw [List.length_take]; omega
  have h1 := hP (S.drop next)
  rw [List.take_append_drop, hl] at h1
  rw [h1]
  exact run_none first (S.drop next) next want [] next (fun j hj => by
    have hj2 : next + j < S.length := by rw [List.length_drop] at hj; omega
    have := hc (next + j) hj2 (by omega)
    rw [List.getElem_drop]
    exact this)
/-- what waits: changes of a deed, blanks: behind the last deed, and none closes one. -/
def GoodTurn (first fr many next : Nat) (t : Turn) : Prop := ∃ j, t.pos = fr + j ∧ next ≤ j ∧ j < many ∧ notClose t.data (first + j) ∧ t.data.size = 40
theorem keepTo_at (keep : Int) (wait : List Turn) (kept : List ByteArray) : ∀ k, k ≤ wait.length → ∀ i (h : i < kept.length), ∃ h2 : i < (keepTo' keep wait k kept).length, (keepTo' keep wait k kept)[i] = kept[i] ∨ ∃ t ∈ wait, t.pos = i ∧ (keepTo' keep wait k kept)[i] = t.data
  | 0, _, i, h => ⟨by rw [keepTo_zero]; exact h, Or.inl (by simp [keepTo_zero])⟩
  | k + 1, hk, i, h => by
    obtain ⟨h2, h3⟩ := keepTo_at keep wait kept k (by omega) i h
    refine ⟨by rw [keepTo_length keep wait kept _ hk]; exact h, ?_⟩
    have he := keepTo_next keep wait k kept (by omega)
    by_cases hb : keepBit keep k = true
    · rw [if_pos hb] at he
      by_cases hp : wait[k].pos = i
      · right
        refine ⟨wait[k], List.getElem_mem _, hp, ?_⟩
        simp only [he]
        rw [List.getElem_set, if_pos hp]
      · have : (keepTo' keep wait (k + 1) kept)[i]'(by rw [keepTo_length keep wait kept _ hk]; exact h) = (keepTo' keep wait k kept)[i] := by
          simp only [he]
          rw [List.getElem_set, if_neg hp]
        rw [this]; exact h3
    · have : (keepTo' keep wait (k + 1) kept)[i]'(by rw [keepTo_length keep wait kept _ hk]; exact h) = (keepTo' keep wait k kept)[i] := by
        rw [if_neg hb] at he
        simp only [he]
      rw [this]; exact h3
/-- a log between two deeds: all is kept. -/
structure InvY (first fr many : Nat) (D : DiskS) (want : List (List Change)) (next : Nat) : Prop where
  kept : D.kept = D.now
  wait : D.wait = []
  cl : closedY first (sectorsY D fr many) 0 [] [] 0 = (want, next)
  nc : NoClose first (sectorsY D fr many) next
  up : D.down = false
  forty : ∀ s ∈ D.now, s.size = 40
theorem sect_at (l : List ByteArray) (fr many j : Nat) (h : j < ((l.drop fr).take many).length) : ((l.drop fr).take many)[j] = l[fr + j]'(by rw [List.length_take, List.length_drop] at h; omega) := by simp
/-- behind a fall while what waits are good turns. -/
theorem inv_fall {first fr many next : Nat} {K D : DiskS} {want : List (List Change)} (h : InvY first fr many K want next) (hk : D.kept = K.kept) (hw : ∀ t ∈ D.wait, GoodTurn first fr many next t) (hm : fr + many ≤ K.now.length) (keep : Int) :
    InvY first fr many (restartD D keep) want next := by
  obtain ⟨R, hR⟩ : ∃ R, R = keepTo' keep D.wait D.wait.length D.kept := ⟨_, rfl⟩
  have hRl : R.length = K.now.length := by rw [hR, keepTo_length keep D.wait D.kept _ (Nat.le_refl _), hk, h.kept]
  have hRat : ∀ i (hi : i < K.now.length), R[i]'(by omega) = K.now[i] ∨ ∃ t ∈ D.wait, t.pos = i ∧ R[i]'(by omega) = t.data := fun i hi => by
    subst hR
    obtain ⟨h2, h3⟩ := keepTo_at keep D.wait D.kept D.wait.length (Nat.le_refl _) i (by rw [hk, h.kept]; exact hi)
    have : D.kept[i]'(by rw [hk, h.kept]; exact hi) = K.now[i] := by simp only [hk, h.kept]
    rw [this] at h3
    exact h3
  have hS : (sectorsY K fr many).length = many := sectorsY_len hm
  have hSR : ((R.drop fr).take many).length = many := by rw [List.length_take, List.length_drop]; omega
  have hu := (head_take first _ _ _ h.cl).1
  rw [hS] at hu
  have hnc : NoClose first ((R.drop fr).take many) next := fun j hj hn => by
    rw [sect_at]
    rw [hSR] at hj
    rcases hRat (fr + j) (by omega) with e | ⟨t, ht, e1, e2⟩
    · rw [e]
      have := h.nc j (by rw [hS]; exact hj) hn
      unfold sectorsY at this
      rw [sect_at] at this
      exact this
    · rw [e2]
      obtain ⟨j', p1, p2, p3, p4, _⟩ := hw t ht
      obtain rfl : j' = j := by omega
      exact p4
  have hAB : ∀ j (hj : j < next), ((R.drop fr).take many)[j]'(by omega) = (sectorsY K fr many)[j]'(by omega) := fun j hj => by
    have e1 := sect_at R fr many j (by omega)
    have e2 := sect_at K.now fr many j (by unfold sectorsY at hS; omega)
    rw [e1]
    refine Eq.trans ?_ e2.symm
    rcases hRat (fr + j) (by omega) with e | ⟨t, ht, q1, q2⟩
    · exact e
    · obtain ⟨j', p1, p2, p3, p4, _⟩ := hw t ht
      omega
  have htk : ((R.drop fr).take many).take next = (sectorsY K fr many).take next := by
    obtain ⟨A, hA⟩ : ∃ A, A = (R.drop fr).take many := ⟨_, rfl⟩
    obtain ⟨B, hB⟩ : ∃ B, B = sectorsY K fr many := ⟨_, rfl⟩
    simp only [← hA, ← hB] at hAB hS hSR ⊢
    refine List.ext_getElem (by rw [List.length_take, List.length_take, hS, hSR]) (fun j h1 h2 => ?_)
    rw [List.getElem_take, List.getElem_take]
    exact hAB j (by rw [List.length_take] at h1; omega)
  have hcl : closedY first ((R.drop fr).take many) 0 [] [] 0 = (want, next) := by
    refine noClose_closed ?_ (by rw [hSR]; exact hu) hnc
    rw [htk]
    exact (head_take first _ _ _ h.cl).2
  refine ⟨rfl, rfl, ?_, ?_, rfl, ?_⟩
  · show closedY first (((keepTo' keep D.wait D.wait.length D.kept).drop fr).take many) 0 [] [] 0 = _
    rw [← hR]; exact hcl
  · show NoClose first (((keepTo' keep D.wait D.wait.length D.kept).drop fr).take many) next
    rw [← hR]; exact hnc
  · intro s hs
    have hs2 : s ∈ R := by rw [hR]; exact hs
    obtain ⟨i, hi, rfl⟩ := List.getElem_of_mem hs2
    rcases hRat i (by omega) with e | ⟨t, ht, e1, e2⟩
    · rw [e]; exact h.forty _ (List.getElem_mem _)
    · rw [e2]; obtain ⟨_, _, _, _, _, q⟩ := hw t ht; exact q
theorem write_cases {D : DiskS} (hd : D.down = false) (i : Nat) (s : ByteArray) (hi : i < D.now.length) (hs : s.size ≤ 40) :
    (∃ E, writeD D i s = (E, 8) ∧ E.down = true ∧ E.kept = D.kept ∧ E.now = D.now ∧ E.wait = D.wait) ∨ (∃ E, writeD D i s = (E, 0) ∧ E.down = false ∧ E.kept = D.kept ∧ E.now = D.now.set i (fullS s) ∧ E.wait = D.wait ++ [⟨i, fullS s⟩]) := by
  by_cases hf : D.fuse = 0
  · left
    have h1 : stepD D = ({ D with down := true, fuse := -1 }, 8) := by unfold stepD; rw [if_neg (by simp [hd]), if_pos hf]
    refine ⟨{ D with down := true, fuse := -1 }, ?_, rfl, rfl, rfl, rfl⟩
    unfold writeD
    rw [if_neg (by omega), if_pos (by rw [h1]; simp), h1]
  · right
    have h1 : stepD D = ({ D with fuse := if 0 < D.fuse then D.fuse - 1 else D.fuse }, 0) := by unfold stepD; rw [if_neg (by simp [hd]), if_neg hf]
    refine ⟨{ D with fuse := if 0 < D.fuse then D.fuse - 1 else D.fuse, now := D.now.set i (fullS s), wait := D.wait ++ [⟨i, fullS s⟩] }, ?_, hd, rfl, rfl, rfl⟩
    unfold writeD
    rw [if_neg (by omega), if_neg (by rw [h1]; simp), h1]
    simp
theorem flush_cases {D : DiskS} (hd : D.down = false) :
    (∃ E, flushD D = (E, 8) ∧ E.down = true ∧ E.kept = D.kept ∧ E.now = D.now ∧ E.wait = D.wait) ∨ (∃ E, flushD D = (E, 0) ∧ E.down = false ∧ E.kept = D.now ∧ E.now = D.now ∧ E.wait = []) := by
  by_cases hf : D.fuse = 0
  · left
    have h1 : stepD D = ({ D with down := true, fuse := -1 }, 8) := by unfold stepD; rw [if_neg (by simp [hd]), if_pos hf]
    refine ⟨{ D with down := true, fuse := -1 }, ?_, rfl, rfl, rfl, rfl⟩
    unfold flushD
    rw [if_pos (by rw [h1]; simp), h1]
  · right
    have h1 : stepD D = ({ D with fuse := if 0 < D.fuse then D.fuse - 1 else D.fuse }, 0) := by unfold stepD; rw [if_neg (by simp [hd]), if_neg hf]
    refine ⟨{ D with fuse := if 0 < D.fuse then D.fuse - 1 else D.fuse, kept := D.now, wait := [] }, ?_, hd, rfl, rfl, rfl⟩
    unfold flushD
    rw [if_neg (by rw [h1]; simp), h1]
theorem openY_40 (first i : Nat) (c : Change) (h : changeFault c = 0) : (openY first i c).size = 40 := by
  unfold openY
  exact fullS_size _ (by rw [textY_size]; have := (change_bytes c h).2.1; omega)
theorem rows_cases (fr many first next : Nat) : ∀ (c : List Change) (i : Nat) (D : DiskS), D.down = false → (∀ x ∈ c, changeFault x = 0) → next + i + c.length ≤ many → fr + many ≤ D.now.length → (∀ t ∈ D.wait, GoodTurn first fr many next t) →
    (∃ E, layRows fr first next i c D = (E, 8) ∧ E.down = true ∧ E.kept = D.kept ∧ ∀ t ∈ E.wait, GoodTurn first fr many next t) ∨
    (∃ E, layRows fr first next i c D = (E, 0) ∧ E.down = false ∧ E.kept = D.kept ∧ (∀ t ∈ E.wait, GoodTurn first fr many next t) ∧ E.now = setsL D.now (fr + (next + i)) (opensY first (next + i) c))
  | [], i, D, hd, _, _, _, hw => Or.inr ⟨D, rfl, hd, rfl, hw, rfl⟩
  | x :: r, i, D, hd, hf, hn, hm, hw => by
    simp only [List.length_cons] at hn
    have hx := hf x (List.mem_cons_self ..)
    have hc := change_bytes x hx
    unfold layRows
    rcases write_cases hd (fr + next + i) (textY 111 (first + next + i) (changeBytes x).1) (by omega) (by rw [textY_size]; omega) with ⟨E, e1, e2, e3, e4, e5⟩ | ⟨E, e1, e2, e3, e4, e5⟩
    · left
      refine ⟨E, ?_, e2, e3, by rw [e5]; exact hw⟩
      rw [e1, thenD_bad (by simp)]
    · have hwE : ∀ t ∈ E.wait, GoodTurn first fr many next t := by
        rw [e5]
        intro t ht
        rcases List.mem_append.1 ht with ht | ht
        · exact hw t ht
        · simp only [List.mem_singleton] at ht
          subst ht
          have ho : fullS (textY 111 (first + next + i) (changeBytes x).1) = openY first (next + i) x := by unfold openY; rw [Nat.add_assoc]
          exact ⟨next + i, by show fr + next + i = _; omega, by omega, by omega, by show notClose (fullS _) _; rw [ho]; exact notClose_open first (next + i) x hx, by show (fullS _).size = 40; rw [ho]; exact openY_40 _ _ _ hx⟩
      have ih := rows_cases fr many first next r (i + 1) E e2 (fun y hy => hf y (List.mem_cons_of_mem _ hy)) (by omega) (by rw [e4]; simpa using hm) hwE
      rw [e1, thenD_good rfl]
      rcases ih with ⟨F, f1, f2, f3, f4⟩ | ⟨F, f1, f2, f3, f4, f5⟩
      · exact Or.inl ⟨F, f1, f2, f3.trans e3, f4⟩
      · refine Or.inr ⟨F, f1, f2, f3.trans e3, f4, f5.trans ?_⟩
        rw [e4]
        simp only [opensY, setsL, openY, Nat.add_assoc]
/-- the sectors behind the rows and the blank. -/
def laidS (first many next : Nat) (c : List Change) (S : List ByteArray) : List ByteArray :=
  if next + c.length + 1 < many then (S.take next ++ opensY first next c ++ S.drop (next + c.length)).set (next + c.length + 1) (zeros 40) else S.take next ++ opensY first next c ++ S.drop (next + c.length)
theorem lay_cases (fr many first next : Nat) (c : List Change) (D : DiskS) (hd : D.down = false) (hf : ∀ x ∈ c, changeFault x = 0) (hn : next + c.length + 1 ≤ many) (hm : fr + many ≤ D.now.length) (hw : ∀ t ∈ D.wait, GoodTurn first fr many next t) (h1 : 1 ≤ first) (h2 : first + many ≤ 2000000000) :
    (∃ E, layY fr many first next c D = (E, 8) ∧ E.down = true ∧ E.kept = D.kept ∧ ∀ t ∈ E.wait, GoodTurn first fr many next t) ∨
    (∃ E, layY fr many first next c D = (E, 0) ∧ E.down = false ∧ E.kept = D.kept ∧ (∀ t ∈ E.wait, GoodTurn first fr many next t) ∧ E.now.length = D.now.length ∧ sectorsY E fr many = laidS first many next c (sectorsY D fr many)) := by
  have hS : (sectorsY D fr many).length = many := sectorsY_len hm
  unfold layY
  rcases rows_cases fr many first next c 0 D hd hf (by omega) hm hw with ⟨E, e1, e2, e3, e4⟩ | ⟨E, e1, e2, e3, e4, e5⟩
  · left; refine ⟨E, ?_, e2, e3, e4⟩; rw [e1, thenD_bad (by simp)]
  · rw [e1, thenD_good rfl]
    rw [Nat.add_zero] at e5
    have l1 : E.now.length = D.now.length := by rw [e5, setsL_length]
    have s1 : sectorsY E fr many = (sectorsY D fr many).take next ++ opensY first next c ++ (sectorsY D fr many).drop (next + c.length) := by
      unfold sectorsY
      rw [e5, sect_sets]
      have := setsL_eq (opensY first next c) next (sectorsY D fr many) (by rw [opensY_length]; omega)
      rw [opensY_length] at this
      exact this
    show (∃ F, blankY fr many next c.length E = (F, 8) ∧ _) ∨ _
    unfold blankY laidS
    by_cases hl : next + c.length + 1 < many
    · rw [if_pos hl, if_pos hl]
      rcases write_cases e2 (fr + (next + c.length + 1)) ⟨#[]⟩ (by omega) (by decide) with ⟨F, f1, f2, f3, f4, f5⟩ | ⟨F, f1, f2, f3, f4, f5⟩
      · left; exact ⟨F, f1, f2, f3.trans e3, by rw [f5]; exact e4⟩
      · right
        refine ⟨F, f1, f2, f3.trans e3, ?_, by rw [f4, List.length_set, l1], ?_⟩
        · rw [f5]
          intro t ht
          rcases List.mem_append.1 ht with ht | ht
          · exact e4 t ht
          · simp only [List.mem_singleton] at ht
            subst ht
            exact ⟨next + c.length + 1, rfl, by omega, hl, by show notClose (fullS _) _; rw [full_blank]; exact notClose_zero _ (by omega) (by omega), by show (fullS _).size = 40; rw [full_blank]; exact zeros_size 40⟩
        · unfold sectorsY at s1 ⊢
          rw [f4, sect_set, s1, full_blank]
    · rw [if_neg hl, if_neg hl]
      exact Or.inr ⟨E, rfl, e2, e3, e4, l1, s1⟩
theorem laidS_at {first many next : Nat} {c : List Change} {S : List ByteArray} (hS : S.length = many) (hn : next + c.length + 1 ≤ many) : (laidS first many next c S).length = many ∧ (laidS first many next c S).take (next + c.length) = S.take next ++ opensY first next c ∧
    ∀ j (h : j < (laidS first many next c S).length), next + c.length ≤ j → (laidS first many next c S)[j] = zeros 40 ∨ ∃ h2 : j < S.length, (laidS first many next c S)[j] = S[j] := by
  obtain ⟨A, hA⟩ : ∃ A, A = S.take next ++ opensY first next c ++ S.drop (next + c.length) := ⟨_, rfl⟩
  have hp : (S.take next ++ opensY first next c).length = next + c.length := by rw [List.length_append, List.length_take, opensY_length]; omega
  have hAl : A.length = many := by rw [hA, List.length_append, hp, List.length_drop]; omega
  have hAt : A.take (next + c.length) = S.take next ++ opensY first next c := by rw [hA, ← hp]; exact List.take_left
  have hAj : ∀ j (h : j < A.length), next + c.length ≤ j → ∃ h2 : j < S.length, A[j] = S[j] := fun j h hj => by
    refine ⟨by omega, ?_⟩
    subst hA
    rw [List.getElem_append_right (by rw [hp]; exact hj)]
    rw [List.getElem_drop]
    congr 1
    rw [hp]; omega
  unfold laidS
  rw [← hA]
  by_cases hl : next + c.length + 1 < many
  · rw [if_pos hl]
    refine ⟨by rw [List.length_set]; exact hAl, ?_, fun j h hj => ?_⟩
    · rw [List.take_set_of_le (by omega)]; exact hAt
    · rw [List.getElem_set]
      split
      · exact Or.inl rfl
      · exact Or.inr (hAj j (by simpa using h) hj)
  · rw [if_neg hl]
    exact ⟨hAl, hAt, fun j h hj => Or.inr (hAj j h hj)⟩
/-- behind the first flush: none closes a deed from next on. -/
theorem laidS_noClose {first many next : Nat} {c : List Change} {S : List ByteArray} (hS : S.length = many) (hn : next + c.length + 1 ≤ many) (hf : ∀ x ∈ c, changeFault x = 0) (hc : NoClose first S next) (h1 : 1 ≤ first) (h2 : first + many ≤ 2000000000) : NoClose first (laidS first many next c S) next := by
  obtain ⟨a1, a2, a3⟩ := laidS_at (first := first) (c := c) hS hn
  intro j hj hnj
  by_cases hlt : j < next + c.length
  · have hp : (S.take next).length = next := by rw [List.length_take]; omega
    have e : (laidS first many next c S)[j] = (S.take next ++ opensY first next c)[j]'(by rw [List.length_append, hp, opensY_length]; exact hlt) := by
      have : (laidS first many next c S)[j] = ((laidS first many next c S).take (next + c.length))[j]'(by rw [List.length_take]; omega) := by rw [List.getElem_take]
      rw [this]
      simp only [a2]
    rw [e, List.getElem_append_right (by rw [hp]; exact hnj)]
    have key : ∀ (cs : List Change) (i k : Nat) (h : k < (opensY first i cs).length), (∀ x ∈ cs, changeFault x = 0) → notClose (opensY first i cs)[k] (first + (i + k)) := by
      intro cs
      induction cs with
      | nil => intro i k h; simp [opensY] at h
      | cons x r ih =>
        intro i k h hx
        cases k with
        | zero => exact notClose_open first i x (hx x (List.mem_cons_self ..))
        | succ k =>
          have := ih (i + 1) k (by simpa [opensY] using h) (fun y hy => hx y (List.mem_cons_of_mem _ hy))
          have e2 : i + (k + 1) = i + 1 + k := by omega
          rw [e2]
          exact this
    have := key c next (j - next) (by rw [opensY_length]; omega) hf
    rw [show next + (j - next) = j by omega] at this
    simpa only [hp] using this
  · rcases a3 j hj (by omega) with e | ⟨h3, e⟩
    · rw [e]; exact notClose_zero _ (by omega) (by omega)
    · rw [e]; exact hc j h3 hnj
theorem laidS_head {first many next : Nat} {c : List Change} {S : List ByteArray} {want : List (List Change)} (hS : S.length = many) (hn : next + c.length + 1 ≤ many) (hP : HeadY first (S.take next) want) : HeadY first ((laidS first many next c S).take next) want := by
  obtain ⟨a1, a2, a3⟩ := laidS_at (first := first) (c := c) hS hn
  have hp : (S.take next).length = next := by rw [List.length_take]; omega
  have : (laidS first many next c S).take next = S.take next := by
    have h1 : ((laidS first many next c S).take (next + c.length)).take next = (laidS first many next c S).take next := by rw [List.take_take, Nat.min_eq_left (by omega)]
    rw [← h1, a2]
    exact List.take_left' hp
  rw [this]; exact hP
/-- the deed's end is laid. -/
theorem markS {first many next : Nat} {c : List Change} {S : List ByteArray} {want : List (List Change)} (hS : S.length = many) (hn : next + c.length + 1 ≤ many) (hP : HeadY first (S.take next) want) (hf : ∀ x ∈ c, changeFault x = 0) (hc : NoClose first S next) (h1 : 1 ≤ first) (h2 : first + many ≤ 2000000000) :
    closedY first ((laidS first many next c S).set (next + c.length) (closeY first (next + c.length) c.length)) 0 [] [] 0 = (want ++ [c], next + c.length + 1) ∧ NoClose first ((laidS first many next c S).set (next + c.length) (closeY first (next + c.length) c.length)) (next + c.length + 1) := by
  obtain ⟨a1, a2, a3⟩ := laidS_at (first := first) (c := c) hS hn
  have hp : (S.take next).length = next := by rw [List.length_take]; omega
  have hnc : NoClose first ((laidS first many next c S).set (next + c.length) (closeY first (next + c.length) c.length)) (next + c.length + 1) := by
    intro j hj hnj
    rw [List.getElem_set, if_neg (by omega)]
    exact laidS_noClose hS hn hf hc h1 h2 j (by simpa using hj) (by omega)
  refine ⟨noClose_closed ?_ (by rw [List.length_set, a1]; exact hn) hnc, hnc⟩
  have ht : ((laidS first many next c S).set (next + c.length) (closeY first (next + c.length) c.length)).take (next + c.length + 1) = S.take next ++ (opensY first next c ++ [closeY first (next + c.length) c.length]) := by
    rw [List.take_succ_eq_append_getElem (by rw [List.length_set, a1]; omega), List.take_set_of_le (Nat.le_refl _), a2, List.getElem_set_self, List.append_assoc]
  rw [ht]
  have := head_add hP c hf
  rw [hp] at this
  exact this
theorem inv_len {first fr many next : Nat} {D : DiskS} {want : List (List Change)} (h : InvY first fr many D want next) (hm : fr + many ≤ D.now.length) : next ≤ many := by
  have := (head_take first _ _ _ h.cl).1
  rwa [sectorsY_len hm] at this
/-- H2: a deed that is added, or the fall in it. -/
theorem add_cases {first fr many next : Nat} {D : DiskS} {want : List (List Change)} (c : List Change) (hI : InvY first fr many D want next) (hm : fr + many ≤ D.now.length) (h1 : 1 ≤ first) (h2 : first + many ≤ 2000000000) :
    (addFault many next c ≠ 0 ∧ addY fr many first next c D = (D, addFault many next c)) ∨
    (∃ E, addFault many next c = 0 ∧ addY fr many first next c D = (E, 0) ∧ InvY first fr many E (want ++ [c]) (next + c.length + 1) ∧ E.now.length = D.now.length) ∨
    (∃ E, addFault many next c = 0 ∧ addY fr many first next c D = (E, 8) ∧ E.down = true ∧ ∀ keep, InvY first fr many (restartD E keep) want next ∨ InvY first fr many (restartD E keep) (want ++ [c]) (next + c.length + 1)) := by
  by_cases h0 : addFault many next c = 0
  rotate_left
  · left; exact ⟨h0, by unfold addY; rw [if_pos h0]⟩
  right
  obtain ⟨g1, g2, g3⟩ := addFault_none h0
  have hA : addY fr many first next c D = sealY fr many first next c D := by unfold addY; rw [if_neg (by simp [h0])]
  have hS : (sectorsY D fr many).length = many := sectorsY_len hm
  have hP := (head_take first _ _ _ hI.cl).2
  rw [hA]
  unfold sealY
  rcases lay_cases fr many first next c D hI.up g3 g2 hm (by rw [hI.wait]; intro t ht; cases ht) h1 h2 with ⟨E, e1, e2, e3, e4⟩ | ⟨E, e1, e2, e3, e4, e5, e6⟩
  · right
    refine ⟨E, h0, ?_, e2, fun keep => Or.inl (inv_fall hI e3 e4 hm keep)⟩
    rw [e1, thenD_bad (p := (E, 8)) (by simp), thenD_bad (p := (E, 8)) (by simp), thenD_bad (p := (E, 8)) (by simp)]
  rw [e1, thenD_good (p := (E, 0)) rfl]
  rcases flush_cases e2 with ⟨F, f1, f2, f3, f4, f5⟩ | ⟨F, f1, f2, f3, f4, f5⟩
  · right
    refine ⟨F, h0, ?_, f2, fun keep => Or.inl (inv_fall hI (f3.trans e3) (by rw [f5]; exact e4) hm keep)⟩
    rw [f1, thenD_bad (p := (F, 8)) (by simp), thenD_bad (p := (F, 8)) (by simp)]
  rw [f1, thenD_good (p := (F, 0)) rfl]
  -- behind the first flush
  have hF40 : ∀ s ∈ F.now, s.size = 40 := by
    have := keep_lay keptY_40 fr many first next c D hI.forty
    rw [e1] at this
    rw [f4]; exact this
  have hFl : F.now.length = D.now.length := by rw [f4, e5]
  have hFs : sectorsY F fr many = laidS first many next c (sectorsY D fr many) := by unfold sectorsY at e6 ⊢; rw [f4]; exact e6
  have hFI : InvY first fr many F want next := ⟨f3.trans f4.symm, f5, by
      rw [hFs]
      exact noClose_closed (laidS_head hS g2 hP) (by rw [(laidS_at (first := first) (c := c) hS g2).1]; omega) (laidS_noClose hS g2 g3 hI.nc h1 h2), by rw [hFs]; exact laidS_noClose hS g2 g3 hI.nc h1 h2, f2, hF40⟩
  have hmF : fr + many ≤ F.now.length := by rw [hFl]; exact hm
  unfold markY
  rcases write_cases f2 (fr + (next + c.length)) (textY 99 (first + (next + c.length)) (fourB c.length)) (by omega) (by rw [textY_size, fourB_size]; omega) with ⟨G, k1, k2, k3, k4, k5⟩ | ⟨G, k1, k2, k3, k4, k5⟩
  · right
    refine ⟨G, h0, ?_, k2, fun keep => Or.inl (inv_fall hFI k3 (by rw [k5, f5]; intro t ht; cases ht) hmF keep)⟩
    rw [k1, thenD_bad (p := (G, 8)) (by simp)]
  rw [k1, thenD_good (p := (G, 0)) rfl]
  have hcl : fullS (textY 99 (first + (next + c.length)) (fourB c.length)) = closeY first (next + c.length) c.length := rfl
  rw [hcl] at k4 k5
  have hc40 : (closeY first (next + c.length) c.length).size = 40 := by rw [← hcl]; exact fullS_size _ (by rw [textY_size, fourB_size]; omega)
  obtain ⟨m1, m2⟩ := markS hS g2 hP g3 hI.nc h1 h2
  have hset : ∀ E' : DiskS, E'.now = F.now.set (fr + (next + c.length)) (closeY first (next + c.length) c.length) → sectorsY E' fr many = (laidS first many next c (sectorsY D fr many)).set (next + c.length) (closeY first (next + c.length) c.length) := fun E' hE => by
    unfold sectorsY at hFs ⊢
    rw [hE, sect_set, hFs]
  have h40s : ∀ s ∈ F.now.set (fr + (next + c.length)) (closeY first (next + c.length) c.length), s.size = 40 := fun s hs => by
    rcases List.mem_or_eq_of_mem_set hs with hs | rfl
    · exact hF40 s hs
    · exact hc40
  rcases flush_cases k2 with ⟨H, q1, q2, q3, q4, q5⟩ | ⟨H, q1, q2, q3, q4, q5⟩
  · right
    refine ⟨H, h0, q1, q2, fun keep => ?_⟩
    have hw : H.wait = [⟨fr + (next + c.length), closeY first (next + c.length) c.length⟩] := by rw [q5, k5, f5]; rfl
    have hk : H.kept = F.now := by rw [q3, k3, f3, ← f4]
    have hr : (restartD H keep).now = if keepBit keep 0 then F.now.set (fr + (next + c.length)) (closeY first (next + c.length) c.length) else F.now := by
      show keepTo' keep H.wait H.wait.length H.kept = _
      rw [hw, hk]
      show keepTo' keep [_] 1 F.now = _
      rw [keepTo_next keep _ 0 F.now (by simp), keepTo_zero]
      rfl
    cases hb : keepBit keep 0
    · left
      rw [hb] at hr
      have hr2 : (restartD H keep).now = F.now := by simpa using hr
      have hs : sectorsY (restartD H keep) fr many = sectorsY F fr many := by unfold sectorsY; rw [hr2]
      exact ⟨rfl, rfl, by rw [hs]; exact hFI.cl, by rw [hs]; exact hFI.nc, rfl, by rw [hr2]; exact hF40⟩
    · right
      rw [hb] at hr
      have hr2 : (restartD H keep).now = F.now.set (fr + (next + c.length)) (closeY first (next + c.length) c.length) := by simpa using hr
      exact ⟨rfl, rfl, by rw [hset _ hr2]; exact m1, by rw [hset _ hr2]; exact m2, rfl, by rw [hr2]; exact h40s⟩
  · left
    have hn2 : H.now = F.now.set (fr + (next + c.length)) (closeY first (next + c.length) c.length) := q4.trans k4
    exact ⟨H, h0, q1, ⟨q3.trans q4.symm, q5, by rw [hset _ hn2]; exact m1, by rw [hset _ hn2]; exact m2, q2, by rw [hn2]; exact h40s⟩, by rw [hn2, List.length_set, hFl]⟩
theorem restart_calm (D : DiskS) (keep : Int) : Calm (restartD D keep) := ⟨rfl, rfl⟩
theorem restart_len {D : DiskS} (h : D.ok) (keep : Int) : (restartD D keep).now.length = D.now.length := by
  show (keepTo' keep D.wait D.wait.length D.kept).length = _
  rw [keepTo_length keep D.wait D.kept _ (Nat.le_refl _)]; exact h.same
theorem add_wait (fr many first next : Nat) (c : List Change) (D : DiskS) : (addY fr many first next c D).1.wait.length ≤ D.wait.length + c.length + 2 := by
  unfold addY
  split
  · show D.wait.length ≤ _; omega
  · exact wait_seal _ _ _ _ _ _
/-- a restart leaves what was kept. -/
theorem inv_restart {first fr many next : Nat} {D : DiskS} {want : List (List Change)} (h : InvY first fr many D want next) (keep : Int) : InvY first fr many (restartD D keep) want next := by
  have hn : (restartD D keep).now = D.now := by
    show keepTo' keep D.wait D.wait.length D.kept = _
    rw [h.wait, h.kept]; rfl
  exact ⟨rfl, rfl, by unfold sectorsY; rw [hn]; exact h.cl, by unfold sectorsY; rw [hn]; exact h.nc, rfl, by rw [hn]; exact h.forty⟩
end Go.Proofs.Ytggpodlecljcbac
