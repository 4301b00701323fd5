/- Plain: chapter 8: what adding a deed does to a disk. -/
import Derived.Test.YtggpodlecljcbabSpecY2
import Derived.Test.YtggpodlecljcbabWalkY3
namespace Go.Proofs.Ytggpodlecljcbab
set_option linter.unusedSimpArgs false
set_option linter.unusedVariables false
open Go.RowKit Go.Sort
def thenD (p : DiskS × Nat) (f : DiskS → DiskS × Nat) : DiskS × Nat := if p.2 ≠ 0 then p else f p.1
theorem thenD_bad {p : DiskS × Nat} {f : DiskS → DiskS × Nat} (h : p.2 ≠ 0) : thenD p f = p := if_pos h
theorem thenD_good {p : DiskS × Nat} {f : DiskS → DiskS × Nat} (h : p.2 = 0) : thenD p f = f p.1 := if_neg (by simp [h])
def layRows (fr first next : Nat) : Nat → List Change → DiskS → DiskS × Nat
  | _, [], D => (D, 0)
  | i, c :: r, D => thenD (writeD D ((fr + next + i : Nat) : Int) (textY 111 (first + next + i) (changeBytes c).1)) (layRows fr first next (i + 1) r)
def blankY (fr many next n : Nat) (D : DiskS) : DiskS × Nat := if next + n + 1 < many then writeD D ((fr + (next + n + 1) : Nat) : Int) ⟨#[]⟩ else (D, 0)
def layY (fr many first next : Nat) (c : List Change) (D : DiskS) : DiskS × Nat := thenD (layRows fr first next 0 c D) (blankY fr many next c.length)
def markY (fr first next n : Nat) (D : DiskS) : DiskS × Nat := writeD D ((fr + (next + n) : Nat) : Int) (textY 99 (first + (next + n)) (fourB n))
def faultsY : List Change → Nat
  | [] => 0
  | c :: r => if changeFault c ≠ 0 then changeFault c else faultsY r
/-- the four steps. -/
def sealY (fr many first next : Nat) (c : List Change) (D : DiskS) : DiskS × Nat := thenD (thenD (thenD (layY fr many first next c D) flushD) (markY fr first next c.length)) flushD
def addFault (many next : Nat) (c : List Change) : Nat := if 14 < c.length then 2 else if many < next + c.length + 1 then 7 else faultsY c
def addY (fr many first next : Nat) (c : List Change) (D : DiskS) : DiskS × Nat := if addFault many next c ≠ 0 then (D, addFault many next c) else sealY fr many first next c D
theorem faultsY_none : ∀ (c : List Change), faultsY c = 0 → ∀ x ∈ c, changeFault x = 0
  | [], _, x, hx => by cases hx
  | c :: r, h, x, hx => by
    unfold faultsY at h
    split at h
    · rename_i hn; exact absurd h hn
    · rename_i hn
      rcases List.mem_cons.1 hx with rfl | hx
      · simpa using hn
      · exact faultsY_none r h x hx
theorem addFault_none {many next : Nat} {c : List Change} (h : addFault many next c = 0) : c.length ≤ 14 ∧ next + c.length + 1 ≤ many ∧ (∀ x ∈ c, changeFault x = 0) := by
  unfold addFault at h
  split at h
  · cases h
  · split at h
    · cases h
    · exact ⟨by omega, by omega, faultsY_none c h⟩
/-- a property that writes and flushes keep. -/
structure KeptY (I : DiskS → Prop) : Prop where
  write : ∀ D p s, I D → I (writeD D p s).1
  flush : ∀ D, I D → I (flushD D).1
theorem keep_rows {I : DiskS → Prop} (hI : KeptY I) (fr first next : Nat) : ∀ (c : List Change) (i : Nat) (D : DiskS), I D → I (layRows fr first next i c D).1
  | [], _, _, h => h
  | c :: r, i, D, h => by
    unfold layRows thenD
    split
    · exact hI.write _ _ _ h
    · exact keep_rows hI fr first next r (i + 1) _ (hI.write _ _ _ h)
theorem keep_lay {I : DiskS → Prop} (hI : KeptY I) (fr many first next : Nat) (c : List Change) (D : DiskS) (h : I D) : I (layY fr many first next c D).1 := by
  unfold layY thenD
  split
  · exact keep_rows hI _ _ _ _ _ _ h
  · unfold blankY
    split
    · exact hI.write _ _ _ (keep_rows hI _ _ _ _ _ _ h)
    · exact keep_rows hI _ _ _ _ _ _ h
theorem keep_then {I : DiskS → Prop} {p : DiskS × Nat} {f : DiskS → DiskS × Nat} (h : I p.1) (hf : ∀ D, I D → I (f D).1) : I (thenD p f).1 := by
  unfold thenD
  split
  · exact h
  · exact hf _ h
theorem keep_seal {I : DiskS → Prop} (hI : KeptY I) (fr many first next : Nat) (c : List Change) (D : DiskS) (h : I D) : I (sealY fr many first next c D).1 :=
  keep_then (keep_then (keep_then (keep_lay hI fr many first next c D h) hI.flush) (fun E hE => hI.write E _ _ hE)) hI.flush
theorem keep_add {I : DiskS → Prop} (hI : KeptY I) (fr many first next : Nat) (c : List Change) (D : DiskS) (h : I D) : I (addY fr many first next c D).1 := by
  unfold addY
  split
  · exact h
  · exact keep_seal hI _ _ _ _ _ _ h
theorem keptY_ok : KeptY DiskS.ok := ⟨fun _ p s h => h.write p s, fun _ h => h.flush⟩
theorem write_now (D : DiskS) (p : Int) (s : ByteArray) : (writeD D p s).1.now.length = D.now.length := by
  unfold writeD; split
  · rfl
  · split
    · rw [(stepD_same D).2.1]
    · simp
theorem flush_now (D : DiskS) : (flushD D).1.now = D.now := by
  unfold flushD; split
  · exact (stepD_same D).2.1
  · exact (stepD_same D).2.1
theorem keptY_len (n : Nat) : KeptY (fun D => D.now.length = n) := ⟨fun D p s h => (write_now D p s).trans h, fun D h => by rw [flush_now]; exact h⟩
theorem keptY_40 : KeptY (fun D => ∀ s ∈ D.now, s.size = 40) := ⟨fun D p s h x hx => by
    unfold writeD at hx; split at hx
    · exact h x hx
    · rename_i hn
      split at hx
      · rw [(stepD_same D).2.1] at hx; exact h x hx
      · rcases List.mem_or_eq_of_mem_set hx with hx | rfl
        · exact h x hx
        · exact fullS_size _ (by omega), fun D h => by rw [flush_now]; exact h⟩
theorem write_wait (D : DiskS) (p : Int) (s : ByteArray) : (writeD D p s).1.wait.length ≤ D.wait.length + 1 := by
  unfold writeD; split
  · exact Nat.le_succ _
  · split
    · rw [(stepD_same D).2.2]; exact Nat.le_succ _
    · simp
theorem flush_wait (D : DiskS) : (flushD D).1.wait.length ≤ D.wait.length := by
  unfold flushD; split
  · rw [(stepD_same D).2.2]; exact Nat.le_refl _
  · simp
theorem wait_rows (fr first next : Nat) : ∀ (c : List Change) (i : Nat) (D : DiskS), (layRows fr first next i c D).1.wait.length ≤ D.wait.length + c.length
  | [], _, _ => Nat.le_refl _
  | c :: r, i, D => by
    have h := write_wait D ((fr + next + i : Nat) : Int) (textY 111 (first + next + i) (changeBytes c).1)
    unfold layRows thenD
    split
    · simp only [List.length_cons]; omega
    · have := wait_rows fr first next r (i + 1) (writeD D ((fr + next + i : Nat) : Int) (textY 111 (first + next + i) (changeBytes c).1)).1
      simp only [List.length_cons]; omega
theorem wait_lay (fr many first next : Nat) (c : List Change) (D : DiskS) : (layY fr many first next c D).1.wait.length ≤ D.wait.length + c.length + 1 := by
  have h := wait_rows fr first next c 0 D
  unfold layY thenD
  split
  · omega
  · unfold blankY
    split
    · have := write_wait (layRows fr first next 0 c D).1 ((fr + (next + c.length + 1) : Nat) : Int) ⟨#[]⟩
      omega
    · show (layRows fr first next 0 c D).1.wait.length ≤ _; omega
theorem wait_seal (fr many first next : Nat) (c : List Change) (D : DiskS) : (sealY fr many first next c D).1.wait.length ≤ D.wait.length + c.length + 2 := by
  have h := wait_lay fr many first next c D
  have f1 := flush_wait (layY fr many first next c D).1
  have f2 : ∀ E : DiskS, (markY fr first next c.length E).1.wait.length ≤ E.wait.length + 1 := fun E => write_wait _ _ _
  have f3 := f2 (layY fr many first next c D).1
  have f4 := f2 (flushD (layY fr many first next c D).1).1
  have f5 := flush_wait (markY fr first next c.length (layY fr many first next c D).1).1
  have f6 := flush_wait (markY fr first next c.length (flushD (layY fr many first next c D).1).1).1
  have f7 := flush_wait (flushD (layY fr many first next c D).1).1
  unfold sealY thenD
  repeat' split
  all_goals omega
/-- a disk that goes on for ever. -/
def Calm (D : DiskS) : Prop := D.down = false ∧ D.fuse = -1
theorem Calm.step {D : DiskS} (h : Calm D) : stepD D = (D, 0) := by
  unfold stepD
  rw [if_neg (by simp [h.1]), if_neg (by rw [h.2]; decide), if_neg (by rw [h.2]; decide)]
theorem Calm.write {D : DiskS} (h : Calm D) (i : Nat) (s : ByteArray) (hi : i < D.now.length) (hs : s.size ≤ 40) : writeD D i s = ({ D with now := D.now.set i (fullS s), wait := D.wait ++ [⟨i, fullS s⟩] }, 0) := by
  unfold writeD
  rw [if_neg (by omega), if_neg (by rw [h.step]; simp), h.step]
  simp
theorem Calm.flush {D : DiskS} (h : Calm D) : flushD D = ({ D with kept := D.now, wait := [] }, 0) := by
  unfold flushD
  rw [if_neg (by rw [h.step]; simp), h.step]
def setsL (l : List ByteArray) (k : Nat) : List ByteArray → List ByteArray
  | [] => l
  | x :: r => setsL (l.set k x) (k + 1) r
theorem setsL_length : ∀ (xs : List ByteArray) (k : Nat) (l : List ByteArray), (setsL l k xs).length = l.length
  | [], _, _ => rfl
  | x :: r, k, l => by rw [setsL, setsL_length r]; simp
theorem setsL_eq : ∀ (xs : List ByteArray) (k : Nat) (l : List ByteArray), k + xs.length ≤ l.length → setsL l k xs = l.take k ++ xs ++ l.drop (k + xs.length)
  | [], k, l, h => by simp [setsL]
  | x :: r, k, l, h => by
    simp only [List.length_cons] at h
    rw [setsL, setsL_eq r (k + 1) (l.set k x) (by simp; omega)]
    have h1 : (l.set k x).take (k + 1) = l.take k ++ [x] := by
      rw [List.take_succ_eq_append_getElem (by simp; omega), List.take_set, List.set_eq_of_length_le (by simp; omega)]
      simp
    have h2 : (l.set k x).drop (k + 1 + r.length) = l.drop (k + (x :: r).length) := by
      rw [List.drop_set, if_pos (by omega)]
      congr 1
      simp; omega
    rw [h1, h2]
    simp
theorem sect_set (l : List ByteArray) (fr many i : Nat) (x : ByteArray) : ((l.set (fr + i) x).drop fr).take many = ((l.drop fr).take many).set i x := by
  rw [List.drop_set, if_neg (by omega), List.take_set]
  congr 1
  omega
theorem sect_sets (fr many : Nat) : ∀ (xs : List ByteArray) (i : Nat) (l : List ByteArray), ((setsL l (fr + i) xs).drop fr).take many = setsL ((l.drop fr).take many) i xs
  | [], _, _ => rfl
  | x :: r, i, l => by
    rw [setsL, setsL, Nat.add_assoc, sect_sets fr many r (i + 1), sect_set]
theorem full_blank : fullS ⟨#[]⟩ = zeros 40 := by decide +kernel
theorem calm_rows (fr first next : Nat) : ∀ (c : List Change) (i : Nat) (D : DiskS), Calm D → (∀ x ∈ c, changeFault x = 0) → fr + next + i + c.length ≤ D.now.length →
    (layRows fr first next i c D).2 = 0 ∧ Calm (layRows fr first next i c D).1 ∧ (layRows fr first next i c D).1.now = setsL D.now (fr + (next + i)) (opensY first (next + i) c)
  | [], i, D, h, _, _ => ⟨rfl, h, rfl⟩
  | c :: r, i, D, h, hf, hl => by
    simp only [List.length_cons] at hl
    have hc := change_bytes c (hf c (List.mem_cons_self ..))
    have hw := h.write (fr + next + i) (textY 111 (first + next + i) (changeBytes c).1) (by omega) (by rw [textY_size]; omega)
    have hr := calm_rows fr first next r (i + 1) { D with now := D.now.set (fr + next + i) (fullS (textY 111 (first + next + i) (changeBytes c).1)), wait := D.wait ++ [⟨fr + next + i, fullS (textY 111 (first + next + i) (changeBytes c).1)⟩] } ⟨h.1, h.2⟩ (fun x hx => hf x (List.mem_cons_of_mem _ hx)) (by simp; omega)
    unfold layRows
    rw [hw, thenD_good rfl]
    refine ⟨hr.1, hr.2.1, hr.2.2.trans ?_⟩
    simp only [opensY, setsL, openY, Nat.add_assoc]
theorem set_one (P : List ByteArray) (x y : ByteArray) (R : List ByteArray) (k : Nat) (h : k = P.length) : (P ++ x :: R).set k y = P ++ y :: R := by
  subst h
  rw [List.set_append_right _ _ (Nat.le_refl _)]
  simp
theorem set_two (P : List ByteArray) (x y z : ByteArray) (R : List ByteArray) (k : Nat) (h : k = P.length + 1) : (P ++ x :: y :: R).set k z = P ++ x :: z :: R := by
  subst h
  rw [List.set_append_right _ _ (by omega)]
  simp
/-- the sectors behind a deed that was added: what was ahead of it, the deed, and then none, or a blank. -/
theorem calm_seal (fr many first next : Nat) (c : List Change) (D : DiskS) (h : Calm D) (hf : ∀ x ∈ c, changeFault x = 0) (hn : next + c.length + 1 ≤ many) (hm : fr + many ≤ D.now.length) (hlen : c.length ≤ 14) :
    (sealY fr many first next c D).2 = 0 ∧ Calm (sealY fr many first next c D).1 ∧ ∃ R, stopY R ∧ sectorsY (sealY fr many first next c D).1 fr many = (sectorsY D fr many).take next ++ (opensY first next c ++ [closeY first (next + c.length) c.length]) ++ R := by
  obtain ⟨r1, r2, r3⟩ := calm_rows fr first next c 0 D h hf (by omega)
  obtain ⟨D1, hD1⟩ : ∃ D1, D1 = (layRows fr first next 0 c D).1 := ⟨_, rfl⟩
  rw [← hD1] at r2 r3
  rw [Nat.add_zero] at r3
  have l1 : D1.now.length = D.now.length := by rw [r3, setsL_length]
  have hS : (sectorsY D fr many).length = many := by unfold sectorsY; rw [List.length_take, List.length_drop]; omega
  have s1 : sectorsY D1 fr many = (sectorsY D fr many).take next ++ opensY first next c ++ (sectorsY D fr many).drop (next + c.length) := by
    unfold sectorsY
    rw [r3, sect_sets]
    have := setsL_eq (opensY first next c) next (sectorsY D fr many) (by rw [opensY_length]; omega)
    rw [opensY_length] at this
    exact this
  obtain ⟨P, hP⟩ : ∃ P, P = (sectorsY D fr many).take next ++ opensY first next c := ⟨_, rfl⟩
  have hPl : next + c.length = P.length := by rw [hP, List.length_append, List.length_take, opensY_length]; omega
  rw [← hP] at s1
  -- the blank
  have hb : ∃ D2, blankY fr many next c.length D1 = (D2, 0) ∧ Calm D2 ∧ D2.now.length = D.now.length ∧ ∃ x R, stopY R ∧ sectorsY D2 fr many = P ++ x :: R := by
    obtain ⟨x, R0, hx⟩ : ∃ x R0, (sectorsY D fr many).drop (next + c.length) = x :: R0 := by
      cases hd : (sectorsY D fr many).drop (next + c.length) with
      | nil => have := congrArg List.length hd; simp at this; omega
      | cons x R0 => exact ⟨x, R0, rfl⟩
    have hl0 : many = next + c.length + 1 + R0.length := by have := congrArg List.length hx; simp at this; omega
    rw [hx] at s1
    unfold blankY
    by_cases hlt : next + c.length + 1 < many
    · rw [if_pos hlt, r2.write _ _ (by omega) (by decide), full_blank]
      obtain ⟨y, R1, rfl⟩ : ∃ y R1, R0 = y :: R1 := by
        cases R0 with
        | nil => simp at hl0; omega
        | cons y R1 => exact ⟨y, R1, rfl⟩
      refine ⟨_, rfl, ⟨r2.1, r2.2⟩, by simp [l1], x, zeros 40 :: R1, Or.inr ⟨R1, rfl⟩, ?_⟩
      unfold sectorsY at s1 ⊢
      simp only []
      rw [sect_set, s1, set_two P x y (zeros 40) R1 _ (by omega)]
    · rw [if_neg hlt]
      have : R0 = [] := List.length_eq_zero_iff.1 (by omega)
      subst this
      exact ⟨D1, rfl, r2, l1, x, [], Or.inl rfl, s1⟩
  obtain ⟨D2, b1, b2, b3, x, R, b4, b5⟩ := hb
  have hlay : layY fr many first next c D = (D2, 0) := by
    unfold layY
    rw [thenD_good r1, ← hD1, b1]
  have hD3 := b2.flush
  have c3 : Calm { D2 with kept := D2.now, wait := [] } := ⟨b2.1, b2.2⟩
  have hw := c3.write (fr + (next + c.length)) (textY 99 (first + (next + c.length)) (fourB c.length)) (by show _ < D2.now.length; omega) (by rw [textY_size, fourB_size]; omega)
  have hseal : sealY fr many first next c D = ({ D2 with kept := D2.now.set (fr + (next + c.length)) (closeY first (next + c.length) c.length), now := D2.now.set (fr + (next + c.length)) (closeY first (next + c.length) c.length), wait := [] }, 0) := by
    unfold sealY
    rw [hlay, thenD_good (p := (D2, 0)) rfl, hD3, thenD_good (p := (_, 0)) rfl]
    unfold markY
    rw [hw, thenD_good (p := (_, 0)) rfl]
    have hcal : ∀ E : DiskS, E.down = D2.down → E.fuse = D2.fuse → flushD E = ({ E with kept := E.now, wait := [] }, 0) := fun E e1 e2 => Calm.flush ⟨e1.trans b2.1, e2.trans b2.2⟩
    exact hcal _ rfl rfl
  rw [hseal]
  refine ⟨rfl, ⟨b2.1, b2.2⟩, R, b4, ?_⟩
  unfold sectorsY at b5 ⊢
  simp only []
  rw [sect_set, b5, set_one P x _ R _ hPl]
  have hP' : ((D.now.drop fr).take many).take next ++ opensY first next c = P := hP.symm
  rw [← List.append_assoc, hP']
  simp
/-- H2: a deed that is added is there. -/
theorem calm_add (fr many first next : Nat) (c : List Change) (D : DiskS) (want : List (List Change)) (h : Calm D) (hf : addFault many next c = 0) (hm : fr + many ≤ D.now.length) (h1 : 1 ≤ first) (h2 : first ≤ 1000000) (hlen : D.now.length ≤ 60)
    (hw : closedY first (sectorsY D fr many) 0 [] [] 0 = (want, next)) :
    (addY fr many first next c D).2 = 0 ∧ Calm (addY fr many first next c D).1 ∧ closedY first (sectorsY (addY fr many first next c D).1 fr many) 0 [] [] 0 = (want ++ [c], next + c.length + 1) := by
  obtain ⟨g1, g2, g3⟩ := addFault_none hf
  obtain ⟨p1, p2, R, p3, p4⟩ := calm_seal fr many first next c D h g3 g2 hm g1
  have hS : (sectorsY D fr many).length = many := by unfold sectorsY; rw [List.length_take, List.length_drop]; omega
  obtain ⟨q1, q2⟩ := head_take first _ _ _ hw
  have hl : ((sectorsY D fr many).take next).length = next := by rw [List.length_take]; omega
  have q3 := head_add q2 c g3
  rw [hl] at q3
  unfold addY
  rw [if_neg (by simp [hf])]
  refine ⟨p1, p2, ?_⟩
  rw [p4, head_end q3 p3 h1 (by simp [opensY_length]; omega)]
  simp [opensY_length]
  omega
end Go.Proofs.Ytggpodlecljcbab
