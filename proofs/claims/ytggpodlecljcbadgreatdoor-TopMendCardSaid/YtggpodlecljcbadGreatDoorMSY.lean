/- Plain: chapter 8: what a deed that is added makes of the sectors; what is read of them then. Plain: chapter 8: what adding a deed does to a disk. Plain: chapter 8: a deed is there whole or not at all. Plain: chapter 9: a head, and the text of all rows. Plain: chapter 9: a store on a disk: formatted, opened. Plain: chapter 9: a store lays all rows, commits a deed; falls. Plain: chapter 9: a store between two deeds; a fall takes nothing. Plain: chapter 9: a deed is committed; a fall takes nothing. Plain: chapter 9: bounds of what is read. Plain: chapter 9: a formatted disk; a disk that does not fall. Plain: chapter 9: a store's disk that is armed, that is restarted. -/
import Derived.Test.YtggpodlecljcbadGreatDoorMY
namespace Go.Proofs.YtggpodlecljcbadGreatDoor
set_option linter.unusedSimpArgs false
set_option linter.unusedVariables false
open Go.RowKit Go.Sort
/-- a sector's text. -/
def textY (k : UInt8) (n : Nat) (s : ByteArray) : ByteArray := (⟨#[k]⟩ : ByteArray) ++ fourB n ++ (⟨#[s.size.toUInt8, (s.size / 256).toUInt8]⟩ : ByteArray) ++ s
theorem textY_size (k : UInt8) (n : Nat) (s : ByteArray) : (textY k n s).size = 7 + s.size := by
  unfold textY
  rw [ByteArray.size_append, ByteArray.size_append, ByteArray.size_append, fourB_size]
  show 1 + 4 + 2 + s.size = _
  omega
theorem text_data (k : UInt8) (n : Nat) (s : ByteArray) : (fullS (textY k n s)).data.toList = k :: n.toUInt8 :: (n / 256).toUInt8 :: (n / 65536).toUInt8 :: (n / 16777216).toUInt8 :: s.size.toUInt8 :: (s.size / 256).toUInt8 :: (s.data.toList ++ List.replicate (40 - (textY k n s).size) 0) := by
  unfold fullS textY fourB zeros
  simp [ByteArray.append_eq, ByteArray.data_append]
theorem ba_ext {a b : ByteArray} (h : a.data.toList = b.data.toList) : a = b := by
  cases a; cases b; simp at h; subst h; rfl
theorem extract_data (s : ByteArray) (i j : Nat) : (s.extract i j).data.toList = (s.data.toList.take j).drop i := by
  rw [ByteArray.data_extract]
  simp [Array.toList_extract, List.extract_eq_take_drop, List.drop_take]
theorem get_data (s : ByteArray) (i : Nat) (h : i < s.size) : s[i] = s.data.toList[i]'(by simpa using h) := by
  cases s; rfl
theorem cut7 {α : Type} (l r : List α) (x0 x1 x2 x3 x4 x5 x6 : α) : ((x0 :: x1 :: x2 :: x3 :: x4 :: x5 :: x6 :: (l ++ r)).take (l.length + 7)).drop 7 = l := by
  show (l ++ r).take l.length = l
  exact List.take_left
theorem cut2 {α : Type} (l r : List α) (x0 x1 : α) : ((x0 :: x1 :: (l ++ r)).take (l.length + 2)).drop 2 = l := by
  show (l ++ r).take l.length = l
  exact List.take_left
theorem cut2' {α : Type} (l r : List α) (x0 x1 : α) : (x0 :: x1 :: (l ++ r)).drop (l.length + 2) = r := by
  show (l ++ r).drop l.length = r
  exact List.drop_left
theorem data_len (s : ByteArray) : s.data.toList.length = s.size := by cases s; simp [ByteArray.size]
theorem look_text (k : UInt8) (n : Nat) (s : ByteArray) (num : Nat) (hs : s.size ≤ 33) : lookS (fullS (textY k n s)) num = if ((fourB n).toList == (fourB num).toList) = false then noneY else if ((k.toNat : Int) == 111) = false ∧ ((k.toNat : Int) == 99) = false then noneY else (k, s, true) := by
  have hd := text_data k n s
  have hz : (fullS (textY k n s)).size = 40 := fullS_size _ (by rw [textY_size]; omega)
  have h0 : (fullS (textY k n s))[0]'(by omega) = k := by rw [get_data]; simp [hd]
  have h5 : (fullS (textY k n s))[5]'(by omega) = s.size.toUInt8 := by rw [get_data]; simp [hd]
  have h6 : (fullS (textY k n s))[6]'(by omega) = (s.size / 256).toUInt8 := by rw [get_data]; simp [hd]
  have e1 : (fullS (textY k n s)).extract 1 5 = fourB n := ba_ext (by rw [extract_data, hd]; rfl)
  have e2 : s.size.toUInt8.toNat + 256 * (s.size / 256).toUInt8.toNat = s.size := by
    have a1 : s.size.toUInt8.toNat = s.size % 256 := by simp
    have a2 : (s.size / 256).toUInt8.toNat = s.size / 256 % 256 := by simp
    rw [a1, a2]; omega
  have e3 : (fullS (textY k n s)).extract 7 (7 + s.size) = s := ba_ext (by
    rw [extract_data, hd, show 7 + s.size = s.data.toList.length + 7 by rw [data_len]; omega]
    exact cut7 _ _ _ _ _ _ _ _ _)
  unfold lookS
  rw [dif_pos hz, h0, h5, h6]
  unfold lookFrom
  rw [e1, e2, if_neg (by omega : ¬ 33 < s.size), e3]
theorem look_zero (num : Nat) (h1 : 1 ≤ num) (h2 : num ≤ 2000000000) : lookS (zeros 40) num = noneY := by
  unfold lookS
  rw [dif_pos (zeros_size 40)]
  unfold lookFrom
  rw [if_pos]
  have : (zeros 40).extract 1 5 = fourB 0 := by decide +kernel
  rw [this]
  cases h : ((fourB 0).toList == (fourB num).toList)
  · rfl
  · exfalso
    have he : (fourB 0).toList = (fourB num).toList := by simpa using h
    have he2 : fourB 0 = fourB num := (bytes_eq_iff _ _).1 he
    simp only [fourB, ByteArray.mk.injEq] at he2
    have he3 := congrArg Array.toList he2
    simp only [List.cons.injEq] at he3
    obtain ⟨a0, a1, a2, a3, _⟩ := he3
    replace a0 := congrArg UInt8.toNat a0
    replace a1 := congrArg UInt8.toNat a1
    replace a2 := congrArg UInt8.toNat a2
    replace a3 := congrArg UInt8.toNat a3
    simp at a0 a1 a2 a3
    omega
theorem four_self (n : Nat) : ((fourB n).toList == (fourB n).toList) = true := by simp
/-- what was laid is read. -/
theorem change_bytes (c : Change) (h : changeFault c = 0) : (changeBytes c).2 = 0 ∧ (changeBytes c).1.size ≤ 33 ∧ changeOf (changeBytes c).1 = (c, 0) := by
  have hb : changeBytes c = ((⟨#[goneByte c, c.key.size.toUInt8]⟩ : ByteArray) ++ c.key ++ c.val, 0) := by unfold changeBytes; rw [if_neg (by simp [h])]
  obtain ⟨hk, hv⟩ := cf_sizes h
  have hz : (changeBytes c).1.size = 2 + c.key.size + c.val.size := by rw [hb, ByteArray.size_append, ByteArray.size_append]; rfl
  refine ⟨by rw [hb], by rw [hz]; omega, ?_⟩
  have hd : (changeBytes c).1.data.toList = goneByte c :: c.key.size.toUInt8 :: (c.key.data.toList ++ c.val.data.toList) := by rw [hb]; simp [ByteArray.append_eq, ByteArray.data_append]
  have h0 : (changeBytes c).1[0]'(by omega) = goneByte c := by rw [get_data]; simp [hd]
  have h1 : (changeBytes c).1[1]'(by omega) = c.key.size.toUInt8 := by rw [get_data]; simp [hd]
  have hkn : c.key.size.toUInt8.toNat = c.key.size := by simp; omega
  have e1 : (changeBytes c).1.extract 2 (2 + c.key.size) = c.key := ba_ext (by
    rw [extract_data, hd, show 2 + c.key.size = c.key.data.toList.length + 2 by rw [data_len]; omega]
    exact cut2 _ _ _ _)
  have e2 : (changeBytes c).1.extract (2 + c.key.size) (changeBytes c).1.size = c.val := ba_ext (by
    rw [extract_data]
    rw [← data_len (changeBytes c).1, List.take_length, hd, show 2 + c.key.size = c.key.data.toList.length + 2 by rw [data_len]; omega]
    exact cut2' _ _ _ _)
  unfold changeOf
  rw [dif_neg (by omega), h0, h1]
  have hat : changeAt (changeBytes c).1 (goneByte c) c.key.size.toUInt8 = c := by
    unfold changeAt
    rw [hkn, e1, e2]
    obtain ⟨k, v, g⟩ := c
    cases g <;> rfl
  have hg : (goneByte c).toNat ≤ 1 := by unfold goneByte; split <;> decide
  unfold changeFrom
  rw [if_neg (by rw [hkn, hz]; omega), hat, if_neg (by simp [h])]
/-- an opened sector. -/
def openY (first i : Nat) (c : Change) : ByteArray := fullS (textY 111 (first + i) (changeBytes c).1)
def opensY (first : Nat) : Nat → List Change → List ByteArray
  | _, [] => []
  | i, c :: r => openY first i c :: opensY first (i + 1) r
def closeY (first i n : Nat) : ByteArray := fullS (textY 99 (first + i) (fourB n))
theorem opensY_length (first : Nat) : ∀ (cs : List Change) (i : Nat), (opensY first i cs).length = cs.length
  | [], _ => rfl
  | c :: r, i => by simp [opensY, opensY_length first r (i + 1)]
theorem step_open (first i : Nat) (c : Change) (h : changeFault c = 0) (o : List (List Change)) (d : List Change) (u : Nat) : stepY first i (openY first i c) o d u = some (o, d ++ [c], u) := by
  obtain ⟨_, h2, h3⟩ := change_bytes c h
  unfold stepY openY
  rw [look_text _ _ _ _ h2, four_self]
  simp [h3]
theorem step_close (first i : Nat) (o : List (List Change)) (d : List Change) (u : Nat) : stepY first i (closeY first i d.length) o d u = some (o ++ [d], [], i + 1) := by
  unfold stepY closeY
  rw [look_text _ _ _ _ (by rw [fourB_size]; omega), four_self]
  simp
theorem step_zero (first i : Nat) (o : List (List Change)) (d : List Change) (u : Nat) (h1 : 1 ≤ first) (h2 : first + i ≤ 2000000000) : stepY first i (zeros 40) o d u = none := by
  unfold stepY
  rw [look_zero _ (by omega) h2]
  simp [noneY]
theorem run_opens (first : Nat) : ∀ (cs : List Change) (i : Nat) (R : List ByteArray) (o : List (List Change)) (d : List Change) (u : Nat), (∀ c ∈ cs, changeFault c = 0) →
    closedY first (opensY first i cs ++ R) i o d u = closedY first R (i + cs.length) o (d ++ cs) u
  | [], i, R, o, d, u, _ => by simp [opensY]
  | c :: r, i, R, o, d, u, h => by
    simp only [opensY, List.cons_append, closedY]
    rw [step_open first i c (h c (List.mem_cons_self ..))]
    simp only []
    rw [run_opens first r (i + 1) R o (d ++ [c]) u (fun x hx => h x (List.mem_cons_of_mem _ hx))]
    simp only [List.length_cons, List.append_assoc, List.singleton_append]
    congr 1
    omega
/-- sectors that end a log's deeds here: none, or the blank. -/
def stopY (R : List ByteArray) : Prop := R = [] ∨ ∃ r, R = zeros 40 :: r
theorem run_stop (first i : Nat) (R : List ByteArray) (o : List (List Change)) (d : List Change) (u : Nat) (h : stopY R) (h1 : 1 ≤ first) (h2 : first + i ≤ 2000000000) : closedY first R i o d u = (o, u) := by
  rcases h with rfl | ⟨r, rfl⟩
  · rfl
  · simp only [closedY]
    rw [step_zero first i o d u h1 h2]
/-- sectors of which none closes a deed. -/
theorem run_none (first : Nat) : ∀ (R : List ByteArray) (i : Nat) (o : List (List Change)) (d : List Change) (u : Nat), (∀ j (h : j < R.length), (lookS R[j] (first + (i + j))).2.2 = false ∨ ((lookS R[j] (first + (i + j))).1.toNat : Int) ≠ 99) → closedY first R i o d u = (o, u)
  | [], _, _, _, _, _ => rfl
  | s :: r, i, o, d, u, h => by
    have h0 := h 0 (by simp)
    simp only [List.getElem_cons_zero, Nat.add_zero] at h0
    have hr : ∀ j (hj : j < r.length), (lookS r[j] (first + (i + 1 + j))).2.2 = false ∨ ((lookS r[j] (first + (i + 1 + j))).1.toNat : Int) ≠ 99 := fun j hj => by
      have := h (j + 1) (by simpa using hj)
      rw [show i + 1 + j = i + (j + 1) by omega]
      simpa using this
    simp only [closedY]
    cases hs : stepY first i s o d u with
    | none => rfl
    | some p =>
      obtain ⟨o1, d1, u1⟩ := p
      have hk : o1 = o ∧ u1 = u := by
        unfold stepY at hs
        split at hs
        · cases hs
        · rename_i hn
          split at hs
          · rename_i h9
            rcases h0 with h0 | h0
            · exact absurd h0 hn
            · exact absurd (by simpa using h9) h0
          · split at hs
            · cases hs
            · simp only [Option.some.injEq, Prod.mk.injEq] at hs
              exact ⟨hs.1.symm, hs.2.2.symm⟩
      obtain ⟨rfl, rfl⟩ := hk
      exact run_none first r (i + 1) _ _ _ hr
/-- a log's head: its deeds, whatever comes behind it. -/
def HeadY (first : Nat) (P : List ByteArray) (want : List (List Change)) : Prop := ∀ R, closedY first (P ++ R) 0 [] [] 0 = closedY first R P.length want [] P.length
theorem head_of (first : Nat) : ∀ (l : List ByteArray) (i : Nat) (o : List (List Change)) (d : List Change) (u : Nat) (o' : List (List Change)) (u' : Nat), closedY first l i o d u = (o', u') →
    (o' = o ∧ u' = u) ∨ (i < u' ∧ u' ≤ i + l.length ∧ ∀ R, closedY first (l.take (u' - i) ++ R) i o d u = closedY first R u' o' [] u')
  | [], i, o, d, u, o', u', h => by
    simp only [closedY, Prod.mk.injEq] at h
    exact Or.inl ⟨h.1.symm, h.2.symm⟩
  | s :: r, i, o, d, u, o', u', h => by
    cases hs : stepY first i s o d u with
    | none =>
      simp only [closedY, hs, Prod.mk.injEq] at h
      exact Or.inl ⟨h.1.symm, h.2.symm⟩
    | some p =>
      obtain ⟨o1, d1, u1⟩ := p
      simp only [closedY, hs] at h
      have hk : (o1 = o ∧ u1 = u) ∨ (d1 = [] ∧ u1 = i + 1) := by
        unfold stepY at hs
        split at hs
        · cases hs
        · split at hs
          · split at hs
            · simp only [Option.some.injEq, Prod.mk.injEq] at hs
              exact Or.inr ⟨hs.2.1.symm, hs.2.2.symm⟩
            · cases hs
          · split at hs
            · cases hs
            · simp only [Option.some.injEq, Prod.mk.injEq] at hs
              exact Or.inl ⟨hs.1.symm, hs.2.2.symm⟩
      rcases head_of first r (i + 1) o1 d1 u1 o' u' h with ⟨e1, e2⟩ | ⟨h1, h2, h3⟩
      · rcases hk with ⟨k1, k2⟩ | ⟨k1, k2⟩
        · exact Or.inl ⟨e1.trans k1, e2.trans k2⟩
        · refine Or.inr ⟨by omega, by simp; omega, fun R => ?_⟩
          have : u' - i = 1 := by omega
          rw [this]
          simp only [List.take_succ_cons, List.take_zero, List.cons_append, List.nil_append, closedY, hs]
          rw [e1, e2, k1, k2]
      · refine Or.inr ⟨by omega, by simp; omega, fun R => ?_⟩
        obtain ⟨m, hm⟩ : ∃ m, u' - i = m + 1 := ⟨u' - i - 1, by omega⟩
        rw [hm]
        simp only [List.take_succ_cons, List.cons_append, closedY, hs]
        have : m = u' - (i + 1) := by omega
        rw [this]
        exact h3 R
theorem head_take (first : Nat) (S : List ByteArray) (want : List (List Change)) (used : Nat) (h : closedY first S 0 [] [] 0 = (want, used)) : used ≤ S.length ∧ HeadY first (S.take used) want := by
  rcases head_of first S 0 [] [] 0 want used h with ⟨rfl, rfl⟩ | ⟨h1, h2, h3⟩
  · exact ⟨Nat.zero_le _, fun R => by simp⟩
  · have hu : used ≤ S.length := by omega
    refine ⟨hu, fun R => ?_⟩
    have := h3 R
    rw [Nat.sub_zero] at this
    rw [this, List.length_take, Nat.min_eq_left hu]
theorem head_add {first : Nat} {P : List ByteArray} {want : List (List Change)} (h : HeadY first P want) (c : List Change) (hc : ∀ x ∈ c, changeFault x = 0) : HeadY first (P ++ (opensY first P.length c ++ [closeY first (P.length + c.length) c.length])) (want ++ [c]) := fun R => by
  rw [List.append_assoc, h, List.append_assoc, run_opens first c P.length _ want [] P.length hc]
  simp only [List.nil_append, List.cons_append, closedY]
  rw [step_close]
  simp only [List.length_append, opensY_length, List.length_cons, List.length_nil, Nat.zero_add, Nat.add_assoc]
end Go.Proofs.YtggpodlecljcbadGreatDoor
namespace Go.Proofs.YtggpodlecljcbadGreatDoor
set_option linter.unusedSimpArgs false
set_option linter.unusedVariables false
open Go.RowKit Go.Sort
def thenD (p : DiskS × Nat) (f : DiskS → DiskS × Nat) : DiskS × Nat := if p.2 ≠ 0 then p else f p.1
theorem thenD_bad {p : DiskS × Nat} {f : DiskS → DiskS × Nat} (h : p.2 ≠ 0) : thenD p f = p := if_pos h
theorem thenD_good {p : DiskS × Nat} {f : DiskS → DiskS × Nat} (h : p.2 = 0) : thenD p f = f p.1 := if_neg (by simp [h])
def layRows (fr first next : Nat) : Nat → List Change → DiskS → DiskS × Nat
  | _, [], D => (D, 0)
  | i, c :: r, D => thenD (writeD D ((fr + next + i : Nat) : Int) (textY 111 (first + next + i) (changeBytes c).1)) (layRows fr first next (i + 1) r)
def blankY (fr many next n : Nat) (D : DiskS) : DiskS × Nat := if next + n + 1 < many then writeD D ((fr + (next + n + 1) : Nat) : Int) ⟨#[]⟩ else (D, 0)
def layY (fr many first next : Nat) (c : List Change) (D : DiskS) : DiskS × Nat := thenD (layRows fr first next 0 c D) (blankY fr many next c.length)
def markY (fr first next n : Nat) (D : DiskS) : DiskS × Nat := writeD D ((fr + (next + n) : Nat) : Int) (textY 99 (first + (next + n)) (fourB n))
def faultsY : List Change → Nat
  | [] => 0
  | c :: r => if changeFault c ≠ 0 then changeFault c else faultsY r
/-- the four steps. -/
def sealY (fr many first next : Nat) (c : List Change) (D : DiskS) : DiskS × Nat := thenD (thenD (thenD (layY fr many first next c D) flushD) (markY fr first next c.length)) flushD
def addFault (many next : Nat) (c : List Change) : Nat := if 14 < c.length then 2 else if many < next + c.length + 1 then 7 else faultsY c
def addY (fr many first next : Nat) (c : List Change) (D : DiskS) : DiskS × Nat := if addFault many next c ≠ 0 then (D, addFault many next c) else sealY fr many first next c D
theorem faultsY_none : ∀ (c : List Change), faultsY c = 0 → ∀ x ∈ c, changeFault x = 0
  | [], _, x, hx => by cases hx
  | c :: r, h, x, hx => by
    unfold faultsY at h
    split at h
    · rename_i hn; exact absurd h hn
    · rename_i hn
      rcases List.mem_cons.1 hx with rfl | hx
      · simpa using hn
      · exact faultsY_none r h x hx
theorem addFault_none {many next : Nat} {c : List Change} (h : addFault many next c = 0) : c.length ≤ 14 ∧ next + c.length + 1 ≤ many ∧ (∀ x ∈ c, changeFault x = 0) := by
  unfold addFault at h
  split at h
  · cases h
  · split at h
    · cases h
    · exact ⟨by omega, by omega, faultsY_none c h⟩
/-- a property that writes and flushes keep. -/
structure KeptY (I : DiskS → Prop) : Prop where
  write : ∀ D p s, I D → I (writeD D p s).1
  flush : ∀ D, I D → I (flushD D).1
theorem keep_rows {I : DiskS → Prop} (hI : KeptY I) (fr first next : Nat) : ∀ (c : List Change) (i : Nat) (D : DiskS), I D → I (layRows fr first next i c D).1
  | [], _, _, h => h
  | c :: r, i, D, h => by
    unfold layRows thenD
    split
    · exact hI.write _ _ _ h
    · exact keep_rows hI fr first next r (i + 1) _ (hI.write _ _ _ h)
theorem keep_lay {I : DiskS → Prop} (hI : KeptY I) (fr many first next : Nat) (c : List Change) (D : DiskS) (h : I D) : I (layY fr many first next c D).1 := by
  unfold layY thenD
  split
  · exact keep_rows hI _ _ _ _ _ _ h
  · unfold blankY
    split
    · exact hI.write _ _ _ (keep_rows hI _ _ _ _ _ _ h)
    · exact keep_rows hI _ _ _ _ _ _ h
theorem keep_then {I : DiskS → Prop} {p : DiskS × Nat} {f : DiskS → DiskS × Nat} (h : I p.1) (hf : ∀ D, I D → I (f D).1) : I (thenD p f).1 := by
  unfold thenD
  split
  · exact h
  · exact hf _ h
theorem keep_seal {I : DiskS → Prop} (hI : KeptY I) (fr many first next : Nat) (c : List Change) (D : DiskS) (h : I D) : I (sealY fr many first next c D).1 :=
  keep_then (keep_then (keep_then (keep_lay hI fr many first next c D h) hI.flush) (fun E hE => hI.write E _ _ hE)) hI.flush
theorem keep_add {I : DiskS → Prop} (hI : KeptY I) (fr many first next : Nat) (c : List Change) (D : DiskS) (h : I D) : I (addY fr many first next c D).1 := by
  unfold addY
  split
  · exact h
  · exact keep_seal hI _ _ _ _ _ _ h
theorem keptY_ok : KeptY DiskS.ok := ⟨fun _ p s h => h.write p s, fun _ h => h.flush⟩
theorem write_now (D : DiskS) (p : Int) (s : ByteArray) : (writeD D p s).1.now.length = D.now.length := by
  unfold writeD; split
  · rfl
  · split
    · rw [(stepD_same D).2.1]
    · simp
theorem flush_now (D : DiskS) : (flushD D).1.now = D.now := by
  unfold flushD; split
  · exact (stepD_same D).2.1
  · exact (stepD_same D).2.1
theorem keptY_len (n : Nat) : KeptY (fun D => D.now.length = n) := ⟨fun D p s h => (write_now D p s).trans h, fun D h => by rw [flush_now]; exact h⟩
theorem keptY_40 : KeptY (fun D => ∀ s ∈ D.now, s.size = 40) := ⟨fun D p s h x hx => by
    unfold writeD at hx; split at hx
    · exact h x hx
    · rename_i hn
      split at hx
      · rw [(stepD_same D).2.1] at hx; exact h x hx
      · rcases List.mem_or_eq_of_mem_set hx with hx | rfl
        · exact h x hx
        · exact fullS_size _ (by omega), fun D h => by rw [flush_now]; exact h⟩
theorem write_wait (D : DiskS) (p : Int) (s : ByteArray) : (writeD D p s).1.wait.length ≤ D.wait.length + 1 := by
  unfold writeD; split
  · exact Nat.le_succ _
  · split
    · rw [(stepD_same D).2.2]; exact Nat.le_succ _
    · simp
theorem flush_wait (D : DiskS) : (flushD D).1.wait.length ≤ D.wait.length := by
  unfold flushD; split
  · rw [(stepD_same D).2.2]; exact Nat.le_refl _
  · simp
theorem wait_rows (fr first next : Nat) : ∀ (c : List Change) (i : Nat) (D : DiskS), (layRows fr first next i c D).1.wait.length ≤ D.wait.length + c.length
  | [], _, _ => Nat.le_refl _
  | c :: r, i, D => by
    have h := write_wait D ((fr + next + i : Nat) : Int) (textY 111 (first + next + i) (changeBytes c).1)
    unfold layRows thenD
    split
    · simp only [List.length_cons]; omega
    · have := wait_rows fr first next r (i + 1) (writeD D ((fr + next + i : Nat) : Int) (textY 111 (first + next + i) (changeBytes c).1)).1
      simp only [List.length_cons]; omega
theorem wait_lay (fr many first next : Nat) (c : List Change) (D : DiskS) : (layY fr many first next c D).1.wait.length ≤ D.wait.length + c.length + 1 := by
  have h := wait_rows fr first next c 0 D
  unfold layY thenD
  split
  · omega
  · unfold blankY
    split
    · have := write_wait (layRows fr first next 0 c D).1 ((fr + (next + c.length + 1) : Nat) : Int) ⟨#[]⟩
      omega
    · show (layRows fr first next 0 c D).1.wait.length ≤ _; omega
theorem wait_seal (fr many first next : Nat) (c : List Change) (D : DiskS) : (sealY fr many first next c D).1.wait.length ≤ D.wait.length + c.length + 2 := by
  have h := wait_lay fr many first next c D
  have f1 := flush_wait (layY fr many first next c D).1
  have f2 : ∀ E : DiskS, (markY fr first next c.length E).1.wait.length ≤ E.wait.length + 1 := fun E => write_wait _ _ _
  have f3 := f2 (layY fr many first next c D).1
  have f4 := f2 (flushD (layY fr many first next c D).1).1
  have f5 := flush_wait (markY fr first next c.length (layY fr many first next c D).1).1
  have f6 := flush_wait (markY fr first next c.length (flushD (layY fr many first next c D).1).1).1
  have f7 := flush_wait (flushD (layY fr many first next c D).1).1
  unfold sealY thenD
  repeat' split
  all_goals omega
/-- a disk that goes on for ever. -/
def Calm (D : DiskS) : Prop := D.down = false ∧ D.fuse = -1
theorem Calm.step {D : DiskS} (h : Calm D) : stepD D = (D, 0) := by
  unfold stepD
  rw [if_neg (by simp [h.1]), if_neg (by rw [h.2]; decide), if_neg (by rw [h.2]; decide)]
theorem Calm.write {D : DiskS} (h : Calm D) (i : Nat) (s : ByteArray) (hi : i < D.now.length) (hs : s.size ≤ 40) : writeD D i s = ({ D with now := D.now.set i (fullS s), wait := D.wait ++ [⟨i, fullS s⟩] }, 0) := by
  unfold writeD
  rw [if_neg (by omega), if_neg (by rw [h.step]; simp), h.step]
  simp
theorem Calm.flush {D : DiskS} (h : Calm D) : flushD D = ({ D with kept := D.now, wait := [] }, 0) := by
  unfold flushD
  rw [if_neg (by rw [h.step]; simp), h.step]
def setsL (l : List ByteArray) (k : Nat) : List ByteArray → List ByteArray
  | [] => l
  | x :: r => setsL (l.set k x) (k + 1) r
theorem setsL_length : ∀ (xs : List ByteArray) (k : Nat) (l : List ByteArray), (setsL l k xs).length = l.length
  | [], _, _ => rfl
  | x :: r, k, l => by rw [setsL, setsL_length r]; simp
theorem setsL_eq : ∀ (xs : List ByteArray) (k : Nat) (l : List ByteArray), k + xs.length ≤ l.length → setsL l k xs = l.take k ++ xs ++ l.drop (k + xs.length)
  | [], k, l, h => by simp [setsL]
  | x :: r, k, l, h => by
    simp only [List.length_cons] at h
    rw [setsL, setsL_eq r (k + 1) (l.set k x) (by simp; omega)]
    have h1 : (l.set k x).take (k + 1) = l.take k ++ [x] := by
      rw [List.take_succ_eq_append_getElem (by simp; omega), List.take_set, List.set_eq_of_length_le (by simp; omega)]
      simp
    have h2 : (l.set k x).drop (k + 1 + r.length) = l.drop (k + (x :: r).length) := by
      rw [List.drop_set, if_pos (by omega)]
      congr 1
      simp; omega
    rw [h1, h2]
    simp
theorem sect_set (l : List ByteArray) (fr many i : Nat) (x : ByteArray) : ((l.set (fr + i) x).drop fr).take many = ((l.drop fr).take many).set i x := by
  rw [List.drop_set, if_neg (by omega), List.take_set]
  congr 1
  omega
theorem sect_sets (fr many : Nat) : ∀ (xs : List ByteArray) (i : Nat) (l : List ByteArray), ((setsL l (fr + i) xs).drop fr).take many = setsL ((l.drop fr).take many) i xs
  | [], _, _ => rfl
  | x :: r, i, l => by
    rw [setsL, setsL, Nat.add_assoc, sect_sets fr many r (i + 1), sect_set]
theorem full_blank : fullS ⟨#[]⟩ = zeros 40 := by decide +kernel
end Go.Proofs.YtggpodlecljcbadGreatDoor
namespace Go.Proofs.YtggpodlecljcbadGreatDoor
set_option linter.unusedSimpArgs false
set_option linter.unusedVariables false
open Go.RowKit Go.Sort
/-- a sector that closes no deed. -/
def notClose (s : ByteArray) (num : Nat) : Prop := (lookS s num).2.2 = false ∨ ((lookS s num).1.toNat : Int) ≠ 99
theorem notClose_open (first i : Nat) (c : Change) (h : changeFault c = 0) : notClose (openY first i c) (first + i) := by
  obtain ⟨_, h2, h3⟩ := change_bytes c h
  right
  unfold openY
  rw [look_text _ _ _ _ h2, four_self]
  simp
theorem notClose_zero (num : Nat) (h1 : 1 ≤ num) (h2 : num ≤ 2000000000) : notClose (zeros 40) num := by
  left
  rw [look_zero _ h1 h2]; rfl
/-- none of the sectors from next on closes a deed. -/
def NoClose (first : Nat) (S : List ByteArray) (next : Nat) : Prop := ∀ j (h : j < S.length), next ≤ j → notClose S[j] (first + j)
theorem noClose_closed {first next : Nat} {S : List ByteArray} {want : List (List Change)} (hP : HeadY first (S.take next) want) (hn : next ≤ S.length) (hc : NoClose first S next) : closedY first S 0 [] [] 0 = (want, next) := by
  have hl : (S.take next).length = next := by rw [List.length_take]; omega
  have h1 := hP (S.drop next)
  rw [List.take_append_drop, hl] at h1
  rw [h1]
  exact run_none first (S.drop next) next want [] next (fun j hj => by
    have hj2 : next + j < S.length := by rw [List.length_drop] at hj; omega
    have := hc (next + j) hj2 (by omega)
    rw [List.getElem_drop]
    exact this)
/-- what waits: changes of a deed, blanks: behind the last deed, and none closes one. -/
def GoodTurn (first fr many next : Nat) (t : Turn) : Prop := ∃ j, t.pos = fr + j ∧ next ≤ j ∧ j < many ∧ notClose t.data (first + j) ∧ t.data.size = 40
theorem keepTo_at (keep : Int) (wait : List Turn) (kept : List ByteArray) : ∀ k, k ≤ wait.length → ∀ i (h : i < kept.length), ∃ h2 : i < (keepTo' keep wait k kept).length, (keepTo' keep wait k kept)[i] = kept[i] ∨ ∃ t ∈ wait, t.pos = i ∧ (keepTo' keep wait k kept)[i] = t.data
  | 0, _, i, h => ⟨by rw [keepTo_zero]; exact h, Or.inl (by simp [keepTo_zero])⟩
  | k + 1, hk, i, h => by
    obtain ⟨h2, h3⟩ := keepTo_at keep wait kept k (by omega) i h
    refine ⟨by rw [keepTo_length keep wait kept _ hk]; exact h, ?_⟩
    have he := keepTo_next keep wait k kept (by omega)
    by_cases hb : keepBit keep k = true
    · rw [if_pos hb] at he
      by_cases hp : wait[k].pos = i
      · right
        refine ⟨wait[k], List.getElem_mem _, hp, ?_⟩
        simp only [he]
        rw [List.getElem_set, if_pos hp]
      · have : (keepTo' keep wait (k + 1) kept)[i]'(by rw [keepTo_length keep wait kept _ hk]; exact h) = (keepTo' keep wait k kept)[i] := by
          simp only [he]
          rw [List.getElem_set, if_neg hp]
        rw [this]; exact h3
    · have : (keepTo' keep wait (k + 1) kept)[i]'(by rw [keepTo_length keep wait kept _ hk]; exact h) = (keepTo' keep wait k kept)[i] := by
        rw [if_neg hb] at he
        simp only [he]
      rw [this]; exact h3
/-- a log between two deeds: all is kept. -/
structure InvY (first fr many : Nat) (D : DiskS) (want : List (List Change)) (next : Nat) : Prop where
  kept : D.kept = D.now
  wait : D.wait = []
  cl : closedY first (sectorsY D fr many) 0 [] [] 0 = (want, next)
  nc : NoClose first (sectorsY D fr many) next
  up : D.down = false
  forty : ∀ s ∈ D.now, s.size = 40
theorem sect_at (l : List ByteArray) (fr many j : Nat) (h : j < ((l.drop fr).take many).length) : ((l.drop fr).take many)[j] = l[fr + j]'(by rw [List.length_take, List.length_drop] at h; omega) := by simp
/-- behind a fall while what waits are good turns. -/
theorem inv_fall {first fr many next : Nat} {K D : DiskS} {want : List (List Change)} (h : InvY first fr many K want next) (hk : D.kept = K.kept) (hw : ∀ t ∈ D.wait, GoodTurn first fr many next t) (hm : fr + many ≤ K.now.length) (keep : Int) :
    InvY first fr many (restartD D keep) want next := by
  obtain ⟨R, hR⟩ : ∃ R, R = keepTo' keep D.wait D.wait.length D.kept := ⟨_, rfl⟩
  have hRl : R.length = K.now.length := by rw [hR, keepTo_length keep D.wait D.kept _ (Nat.le_refl _), hk, h.kept]
  have hRat : ∀ i (hi : i < K.now.length), R[i]'(by omega) = K.now[i] ∨ ∃ t ∈ D.wait, t.pos = i ∧ R[i]'(by omega) = t.data := fun i hi => by
    subst hR
    obtain ⟨h2, h3⟩ := keepTo_at keep D.wait D.kept D.wait.length (Nat.le_refl _) i (by rw [hk, h.kept]; exact hi)
    have : D.kept[i]'(by rw [hk, h.kept]; exact hi) = K.now[i] := by simp only [hk, h.kept]
    rw [this] at h3
    exact h3
  have hS : (sectorsY K fr many).length = many := sectorsY_len hm
  have hSR : ((R.drop fr).take many).length = many := by rw [List.length_take, List.length_drop]; omega
  have hu := (head_take first _ _ _ h.cl).1
  rw [hS] at hu
  have hnc : NoClose first ((R.drop fr).take many) next := fun j hj hn => by
    rw [sect_at]
    rw [hSR] at hj
    rcases hRat (fr + j) (by omega) with e | ⟨t, ht, e1, e2⟩
    · rw [e]
      have := h.nc j (by rw [hS]; exact hj) hn
      unfold sectorsY at this
      rw [sect_at] at this
      exact this
    · rw [e2]
      obtain ⟨j', p1, p2, p3, p4, _⟩ := hw t ht
      obtain rfl : j' = j := by omega
      exact p4
  have hAB : ∀ j (hj : j < next), ((R.drop fr).take many)[j]'(by omega) = (sectorsY K fr many)[j]'(by omega) := fun j hj => by
    have e1 := sect_at R fr many j (by omega)
    have e2 := sect_at K.now fr many j (by unfold sectorsY at hS; omega)
    rw [e1]
    refine Eq.trans ?_ e2.symm
    rcases hRat (fr + j) (by omega) with e | ⟨t, ht, q1, q2⟩
    · exact e
    · obtain ⟨j', p1, p2, p3, p4, _⟩ := hw t ht
      omega
  have htk : ((R.drop fr).take many).take next = (sectorsY K fr many).take next := by
    obtain ⟨A, hA⟩ : ∃ A, A = (R.drop fr).take many := ⟨_, rfl⟩
    obtain ⟨B, hB⟩ : ∃ B, B = sectorsY K fr many := ⟨_, rfl⟩
    simp only [← hA, ← hB] at hAB hS hSR ⊢
    refine List.ext_getElem (by rw [List.length_take, List.length_take, hS, hSR]) (fun j h1 h2 => ?_)
    rw [List.getElem_take, List.getElem_take]
    exact hAB j (by rw [List.length_take] at h1; omega)
  have hcl : closedY first ((R.drop fr).take many) 0 [] [] 0 = (want, next) := by
    refine noClose_closed ?_ (by rw [hSR]; exact hu) hnc
    rw [htk]
    exact (head_take first _ _ _ h.cl).2
  refine ⟨rfl, rfl, ?_, ?_, rfl, ?_⟩
  · show closedY first (((keepTo' keep D.wait D.wait.length D.kept).drop fr).take many) 0 [] [] 0 = _
    rw [← hR]; exact hcl
  · show NoClose first (((keepTo' keep D.wait D.wait.length D.kept).drop fr).take many) next
    rw [← hR]; exact hnc
  · intro s hs
    have hs2 : s ∈ R := by rw [hR]; exact hs
    obtain ⟨i, hi, rfl⟩ := List.getElem_of_mem hs2
    rcases hRat i (by omega) with e | ⟨t, ht, e1, e2⟩
    · rw [e]; exact h.forty _ (List.getElem_mem _)
    · rw [e2]; obtain ⟨_, _, _, _, _, q⟩ := hw t ht; exact q
theorem write_cases {D : DiskS} (hd : D.down = false) (i : Nat) (s : ByteArray) (hi : i < D.now.length) (hs : s.size ≤ 40) :
    (∃ E, writeD D i s = (E, 8) ∧ E.down = true ∧ E.kept = D.kept ∧ E.now = D.now ∧ E.wait = D.wait) ∨ (∃ E, writeD D i s = (E, 0) ∧ E.down = false ∧ E.kept = D.kept ∧ E.now = D.now.set i (fullS s) ∧ E.wait = D.wait ++ [⟨i, fullS s⟩]) := by
  by_cases hf : D.fuse = 0
  · left
    have h1 : stepD D = ({ D with down := true, fuse := -1 }, 8) := by unfold stepD; rw [if_neg (by simp [hd]), if_pos hf]
    refine ⟨{ D with down := true, fuse := -1 }, ?_, rfl, rfl, rfl, rfl⟩
    unfold writeD
    rw [if_neg (by omega), if_pos (by rw [h1]; simp), h1]
  · right
    have h1 : stepD D = ({ D with fuse := if 0 < D.fuse then D.fuse - 1 else D.fuse }, 0) := by unfold stepD; rw [if_neg (by simp [hd]), if_neg hf]
    refine ⟨{ D with fuse := if 0 < D.fuse then D.fuse - 1 else D.fuse, now := D.now.set i (fullS s), wait := D.wait ++ [⟨i, fullS s⟩] }, ?_, hd, rfl, rfl, rfl⟩
    unfold writeD
    rw [if_neg (by omega), if_neg (by rw [h1]; simp), h1]
    simp
theorem flush_cases {D : DiskS} (hd : D.down = false) :
    (∃ E, flushD D = (E, 8) ∧ E.down = true ∧ E.kept = D.kept ∧ E.now = D.now ∧ E.wait = D.wait) ∨ (∃ E, flushD D = (E, 0) ∧ E.down = false ∧ E.kept = D.now ∧ E.now = D.now ∧ E.wait = []) := by
  by_cases hf : D.fuse = 0
  · left
    have h1 : stepD D = ({ D with down := true, fuse := -1 }, 8) := by unfold stepD; rw [if_neg (by simp [hd]), if_pos hf]
    refine ⟨{ D with down := true, fuse := -1 }, ?_, rfl, rfl, rfl, rfl⟩
    unfold flushD
    rw [if_pos (by rw [h1]; simp), h1]
  · right
    have h1 : stepD D = ({ D with fuse := if 0 < D.fuse then D.fuse - 1 else D.fuse }, 0) := by unfold stepD; rw [if_neg (by simp [hd]), if_neg hf]
    refine ⟨{ D with fuse := if 0 < D.fuse then D.fuse - 1 else D.fuse, kept := D.now, wait := [] }, ?_, hd, rfl, rfl, rfl⟩
    unfold flushD
    rw [if_neg (by rw [h1]; simp), h1]
theorem openY_40 (first i : Nat) (c : Change) (h : changeFault c = 0) : (openY first i c).size = 40 := by
  unfold openY
  exact fullS_size _ (by rw [textY_size]; have := (change_bytes c h).2.1; omega)
theorem rows_cases (fr many first next : Nat) : ∀ (c : List Change) (i : Nat) (D : DiskS), D.down = false → (∀ x ∈ c, changeFault x = 0) → next + i + c.length ≤ many → fr + many ≤ D.now.length → (∀ t ∈ D.wait, GoodTurn first fr many next t) →
    (∃ E, layRows fr first next i c D = (E, 8) ∧ E.down = true ∧ E.kept = D.kept ∧ ∀ t ∈ E.wait, GoodTurn first fr many next t) ∨
    (∃ E, layRows fr first next i c D = (E, 0) ∧ E.down = false ∧ E.kept = D.kept ∧ (∀ t ∈ E.wait, GoodTurn first fr many next t) ∧ E.now = setsL D.now (fr + (next + i)) (opensY first (next + i) c))
  | [], i, D, hd, _, _, _, hw => Or.inr ⟨D, rfl, hd, rfl, hw, rfl⟩
  | x :: r, i, D, hd, hf, hn, hm, hw => by
    simp only [List.length_cons] at hn
    have hx := hf x (List.mem_cons_self ..)
    have hc := change_bytes x hx
    unfold layRows
    rcases write_cases hd (fr + next + i) (textY 111 (first + next + i) (changeBytes x).1) (by omega) (by rw [textY_size]; omega) with ⟨E, e1, e2, e3, e4, e5⟩ | ⟨E, e1, e2, e3, e4, e5⟩
    · left
      refine ⟨E, ?_, e2, e3, by rw [e5]; exact hw⟩
      rw [e1, thenD_bad (by simp)]
    · have hwE : ∀ t ∈ E.wait, GoodTurn first fr many next t := by
        rw [e5]
        intro t ht
        rcases List.mem_append.1 ht with ht | ht
        · exact hw t ht
        · simp only [List.mem_singleton] at ht
          subst ht
          have ho : fullS (textY 111 (first + next + i) (changeBytes x).1) = openY first (next + i) x := by unfold openY; rw [Nat.add_assoc]
          exact ⟨next + i, by show fr + next + i = _; omega, by omega, by omega, by show notClose (fullS _) _; rw [ho]; exact notClose_open first (next + i) x hx, by show (fullS _).size = 40; rw [ho]; exact openY_40 _ _ _ hx⟩
      have ih := rows_cases fr many first next r (i + 1) E e2 (fun y hy => hf y (List.mem_cons_of_mem _ hy)) (by omega) (by rw [e4]; simpa using hm) hwE
      rw [e1, thenD_good rfl]
      rcases ih with ⟨F, f1, f2, f3, f4⟩ | ⟨F, f1, f2, f3, f4, f5⟩
      · exact Or.inl ⟨F, f1, f2, f3.trans e3, f4⟩
      · refine Or.inr ⟨F, f1, f2, f3.trans e3, f4, f5.trans ?_⟩
        rw [e4]
        simp only [opensY, setsL, openY, Nat.add_assoc]
/-- the sectors behind the rows and the blank. -/
def laidS (first many next : Nat) (c : List Change) (S : List ByteArray) : List ByteArray :=
  if next + c.length + 1 < many then (S.take next ++ opensY first next c ++ S.drop (next + c.length)).set (next + c.length + 1) (zeros 40) else S.take next ++ opensY first next c ++ S.drop (next + c.length)
theorem lay_cases (fr many first next : Nat) (c : List Change) (D : DiskS) (hd : D.down = false) (hf : ∀ x ∈ c, changeFault x = 0) (hn : next + c.length + 1 ≤ many) (hm : fr + many ≤ D.now.length) (hw : ∀ t ∈ D.wait, GoodTurn first fr many next t) (h1 : 1 ≤ first) (h2 : first + many ≤ 2000000000) :
    (∃ E, layY fr many first next c D = (E, 8) ∧ E.down = true ∧ E.kept = D.kept ∧ ∀ t ∈ E.wait, GoodTurn first fr many next t) ∨
    (∃ E, layY fr many first next c D = (E, 0) ∧ E.down = false ∧ E.kept = D.kept ∧ (∀ t ∈ E.wait, GoodTurn first fr many next t) ∧ E.now.length = D.now.length ∧ sectorsY E fr many = laidS first many next c (sectorsY D fr many)) := by
  have hS : (sectorsY D fr many).length = many := sectorsY_len hm
  unfold layY
  rcases rows_cases fr many first next c 0 D hd hf (by omega) hm hw with ⟨E, e1, e2, e3, e4⟩ | ⟨E, e1, e2, e3, e4, e5⟩
  · left; refine ⟨E, ?_, e2, e3, e4⟩; rw [e1, thenD_bad (by simp)]
  · rw [e1, thenD_good rfl]
    rw [Nat.add_zero] at e5
    have l1 : E.now.length = D.now.length := by rw [e5, setsL_length]
    have s1 : sectorsY E fr many = (sectorsY D fr many).take next ++ opensY first next c ++ (sectorsY D fr many).drop (next + c.length) := by
      unfold sectorsY
      rw [e5, sect_sets]
      have := setsL_eq (opensY first next c) next (sectorsY D fr many) (by rw [opensY_length]; omega)
      rw [opensY_length] at this
      exact this
    show (∃ F, blankY fr many next c.length E = (F, 8) ∧ _) ∨ _
    unfold blankY laidS
    by_cases hl : next + c.length + 1 < many
    · rw [if_pos hl, if_pos hl]
      rcases write_cases e2 (fr + (next + c.length + 1)) ⟨#[]⟩ (by omega) (by decide) with ⟨F, f1, f2, f3, f4, f5⟩ | ⟨F, f1, f2, f3, f4, f5⟩
      · left; exact ⟨F, f1, f2, f3.trans e3, by rw [f5]; exact e4⟩
      · right
        refine ⟨F, f1, f2, f3.trans e3, ?_, by rw [f4, List.length_set, l1], ?_⟩
        · rw [f5]
          intro t ht
          rcases List.mem_append.1 ht with ht | ht
          · exact e4 t ht
          · simp only [List.mem_singleton] at ht
            subst ht
            exact ⟨next + c.length + 1, rfl, by omega, hl, by show notClose (fullS _) _; rw [full_blank]; exact notClose_zero _ (by omega) (by omega), by show (fullS _).size = 40; rw [full_blank]; exact zeros_size 40⟩
        · unfold sectorsY at s1 ⊢
          rw [f4, sect_set, s1, full_blank]
    · rw [if_neg hl, if_neg hl]
      exact Or.inr ⟨E, rfl, e2, e3, e4, l1, s1⟩
theorem laidS_at {first many next : Nat} {c : List Change} {S : List ByteArray} (hS : S.length = many) (hn : next + c.length + 1 ≤ many) : (laidS first many next c S).length = many ∧ (laidS first many next c S).take (next + c.length) = S.take next ++ opensY first next c ∧
    ∀ j (h : j < (laidS first many next c S).length), next + c.length ≤ j → (laidS first many next c S)[j] = zeros 40 ∨ ∃ h2 : j < S.length, (laidS first many next c S)[j] = S[j] := by
  obtain ⟨A, hA⟩ : ∃ A, A = S.take next ++ opensY first next c ++ S.drop (next + c.length) := ⟨_, rfl⟩
  have hp : (S.take next ++ opensY first next c).length = next + c.length := by rw [List.length_append, List.length_take, opensY_length]; omega
  have hAl : A.length = many := by rw [hA, List.length_append, hp, List.length_drop]; omega
  have hAt : A.take (next + c.length) = S.take next ++ opensY first next c := by rw [hA, ← hp]; exact List.take_left
  have hAj : ∀ j (h : j < A.length), next + c.length ≤ j → ∃ h2 : j < S.length, A[j] = S[j] := fun j h hj => by
    refine ⟨by omega, ?_⟩
    subst hA
    rw [List.getElem_append_right (by rw [hp]; exact hj)]
    rw [List.getElem_drop]
    congr 1
    rw [hp]; omega
  unfold laidS
  rw [← hA]
  by_cases hl : next + c.length + 1 < many
  · rw [if_pos hl]
    refine ⟨by rw [List.length_set]; exact hAl, ?_, fun j h hj => ?_⟩
    · rw [List.take_set_of_le (by omega)]; exact hAt
    · rw [List.getElem_set]
      split
      · exact Or.inl rfl
      · exact Or.inr (hAj j (by simpa using h) hj)
  · rw [if_neg hl]
    exact ⟨hAl, hAt, fun j h hj => Or.inr (hAj j h hj)⟩
/-- behind the first flush: none closes a deed from next on. -/
theorem laidS_noClose {first many next : Nat} {c : List Change} {S : List ByteArray} (hS : S.length = many) (hn : next + c.length + 1 ≤ many) (hf : ∀ x ∈ c, changeFault x = 0) (hc : NoClose first S next) (h1 : 1 ≤ first) (h2 : first + many ≤ 2000000000) : NoClose first (laidS first many next c S) next := by
  obtain ⟨a1, a2, a3⟩ := laidS_at (first := first) (c := c) hS hn
  intro j hj hnj
  by_cases hlt : j < next + c.length
  · have hp : (S.take next).length = next := by rw [List.length_take]; omega
    have e : (laidS first many next c S)[j] = (S.take next ++ opensY first next c)[j]'(by rw [List.length_append, hp, opensY_length]; exact hlt) := by
      have : (laidS first many next c S)[j] = ((laidS first many next c S).take (next + c.length))[j]'(by rw [List.length_take]; omega) := by rw [List.getElem_take]
      rw [this]
      simp only [a2]
    rw [e, List.getElem_append_right (by rw [hp]; exact hnj)]
    have key : ∀ (cs : List Change) (i k : Nat) (h : k < (opensY first i cs).length), (∀ x ∈ cs, changeFault x = 0) → notClose (opensY first i cs)[k] (first + (i + k)) := by
      intro cs
      induction cs with
      | nil => intro i k h; simp [opensY] at h
      | cons x r ih =>
        intro i k h hx
        cases k with
        | zero => exact notClose_open first i x (hx x (List.mem_cons_self ..))
        | succ k =>
          have := ih (i + 1) k (by simpa [opensY] using h) (fun y hy => hx y (List.mem_cons_of_mem _ hy))
          have e2 : i + (k + 1) = i + 1 + k := by omega
          rw [e2]
          exact this
    have := key c next (j - next) (by rw [opensY_length]; omega) hf
    rw [show next + (j - next) = j by omega] at this
    simpa only [hp] using this
  · rcases a3 j hj (by omega) with e | ⟨h3, e⟩
    · rw [e]; exact notClose_zero _ (by omega) (by omega)
    · rw [e]; exact hc j h3 hnj
theorem laidS_head {first many next : Nat} {c : List Change} {S : List ByteArray} {want : List (List Change)} (hS : S.length = many) (hn : next + c.length + 1 ≤ many) (hP : HeadY first (S.take next) want) : HeadY first ((laidS first many next c S).take next) want := by
  obtain ⟨a1, a2, a3⟩ := laidS_at (first := first) (c := c) hS hn
  have hp : (S.take next).length = next := by rw [List.length_take]; omega
  have : (laidS first many next c S).take next = S.take next := by
    have h1 : ((laidS first many next c S).take (next + c.length)).take next = (laidS first many next c S).take next := by rw [List.take_take, Nat.min_eq_left (by omega)]
    rw [← h1, a2]
    exact List.take_left' hp
  rw [this]; exact hP
/-- the deed's end is laid. -/
theorem markS {first many next : Nat} {c : List Change} {S : List ByteArray} {want : List (List Change)} (hS : S.length = many) (hn : next + c.length + 1 ≤ many) (hP : HeadY first (S.take next) want) (hf : ∀ x ∈ c, changeFault x = 0) (hc : NoClose first S next) (h1 : 1 ≤ first) (h2 : first + many ≤ 2000000000) :
    closedY first ((laidS first many next c S).set (next + c.length) (closeY first (next + c.length) c.length)) 0 [] [] 0 = (want ++ [c], next + c.length + 1) ∧ NoClose first ((laidS first many next c S).set (next + c.length) (closeY first (next + c.length) c.length)) (next + c.length + 1) := by
  obtain ⟨a1, a2, a3⟩ := laidS_at (first := first) (c := c) hS hn
  have hp : (S.take next).length = next := by rw [List.length_take]; omega
  have hnc : NoClose first ((laidS first many next c S).set (next + c.length) (closeY first (next + c.length) c.length)) (next + c.length + 1) := by
    intro j hj hnj
    rw [List.getElem_set, if_neg (by omega)]
    exact laidS_noClose hS hn hf hc h1 h2 j (by simpa using hj) (by omega)
  refine ⟨noClose_closed ?_ (by rw [List.length_set, a1]; exact hn) hnc, hnc⟩
  have ht : ((laidS first many next c S).set (next + c.length) (closeY first (next + c.length) c.length)).take (next + c.length + 1) = S.take next ++ (opensY first next c ++ [closeY first (next + c.length) c.length]) := by
    rw [List.take_succ_eq_append_getElem (by rw [List.length_set, a1]; omega), List.take_set_of_le (Nat.le_refl _), a2, List.getElem_set_self, List.append_assoc]
  rw [ht]
  have := head_add hP c hf
  rw [hp] at this
  exact this
theorem inv_len {first fr many next : Nat} {D : DiskS} {want : List (List Change)} (h : InvY first fr many D want next) (hm : fr + many ≤ D.now.length) : next ≤ many := by
  have := (head_take first _ _ _ h.cl).1
  rwa [sectorsY_len hm] at this
/-- H2: a deed that is added, or the fall in it. -/
theorem add_cases {first fr many next : Nat} {D : DiskS} {want : List (List Change)} (c : List Change) (hI : InvY first fr many D want next) (hm : fr + many ≤ D.now.length) (h1 : 1 ≤ first) (h2 : first + many ≤ 2000000000) :
    (addFault many next c ≠ 0 ∧ addY fr many first next c D = (D, addFault many next c)) ∨
    (∃ E, addFault many next c = 0 ∧ addY fr many first next c D = (E, 0) ∧ InvY first fr many E (want ++ [c]) (next + c.length + 1) ∧ E.now.length = D.now.length) ∨
    (∃ E, addFault many next c = 0 ∧ addY fr many first next c D = (E, 8) ∧ E.down = true ∧ ∀ keep, InvY first fr many (restartD E keep) want next ∨ InvY first fr many (restartD E keep) (want ++ [c]) (next + c.length + 1)) := by
  by_cases h0 : addFault many next c = 0
  rotate_left
  · left; exact ⟨h0, by unfold addY; rw [if_pos h0]⟩
  right
  obtain ⟨g1, g2, g3⟩ := addFault_none h0
  have hA : addY fr many first next c D = sealY fr many first next c D := by unfold addY; rw [if_neg (by simp [h0])]
  have hS : (sectorsY D fr many).length = many := sectorsY_len hm
  have hP := (head_take first _ _ _ hI.cl).2
  rw [hA]
  unfold sealY
  rcases lay_cases fr many first next c D hI.up g3 g2 hm (by rw [hI.wait]; intro t ht; cases ht) h1 h2 with ⟨E, e1, e2, e3, e4⟩ | ⟨E, e1, e2, e3, e4, e5, e6⟩
  · right
    refine ⟨E, h0, ?_, e2, fun keep => Or.inl (inv_fall hI e3 e4 hm keep)⟩
    rw [e1, thenD_bad (p := (E, 8)) (by simp), thenD_bad (p := (E, 8)) (by simp), thenD_bad (p := (E, 8)) (by simp)]
  rw [e1, thenD_good (p := (E, 0)) rfl]
  rcases flush_cases e2 with ⟨F, f1, f2, f3, f4, f5⟩ | ⟨F, f1, f2, f3, f4, f5⟩
  · right
    refine ⟨F, h0, ?_, f2, fun keep => Or.inl (inv_fall hI (f3.trans e3) (by rw [f5]; exact e4) hm keep)⟩
    rw [f1, thenD_bad (p := (F, 8)) (by simp), thenD_bad (p := (F, 8)) (by simp)]
  rw [f1, thenD_good (p := (F, 0)) rfl]
  -- behind the first flush
  have hF40 : ∀ s ∈ F.now, s.size = 40 := by
    have := keep_lay keptY_40 fr many first next c D hI.forty
    rw [e1] at this
    rw [f4]; exact this
  have hFl : F.now.length = D.now.length := by rw [f4, e5]
  have hFs : sectorsY F fr many = laidS first many next c (sectorsY D fr many) := by unfold sectorsY at e6 ⊢; rw [f4]; exact e6
  have hFI : InvY first fr many F want next := ⟨f3.trans f4.symm, f5, by
      rw [hFs]
      exact noClose_closed (laidS_head hS g2 hP) (by rw [(laidS_at (first := first) (c := c) hS g2).1]; omega) (laidS_noClose hS g2 g3 hI.nc h1 h2), by rw [hFs]; exact laidS_noClose hS g2 g3 hI.nc h1 h2, f2, hF40⟩
  have hmF : fr + many ≤ F.now.length := by rw [hFl]; exact hm
  unfold markY
  rcases write_cases f2 (fr + (next + c.length)) (textY 99 (first + (next + c.length)) (fourB c.length)) (by omega) (by rw [textY_size, fourB_size]; omega) with ⟨G, k1, k2, k3, k4, k5⟩ | ⟨G, k1, k2, k3, k4, k5⟩
  · right
    refine ⟨G, h0, ?_, k2, fun keep => Or.inl (inv_fall hFI k3 (by rw [k5, f5]; intro t ht; cases ht) hmF keep)⟩
    rw [k1, thenD_bad (p := (G, 8)) (by simp)]
  rw [k1, thenD_good (p := (G, 0)) rfl]
  have hcl : fullS (textY 99 (first + (next + c.length)) (fourB c.length)) = closeY first (next + c.length) c.length := rfl
  rw [hcl] at k4 k5
  have hc40 : (closeY first (next + c.length) c.length).size = 40 := by rw [← hcl]; exact fullS_size _ (by rw [textY_size, fourB_size]; omega)
  obtain ⟨m1, m2⟩ := markS hS g2 hP g3 hI.nc h1 h2
  have hset : ∀ E' : DiskS, E'.now = F.now.set (fr + (next + c.length)) (closeY first (next + c.length) c.length) → sectorsY E' fr many = (laidS first many next c (sectorsY D fr many)).set (next + c.length) (closeY first (next + c.length) c.length) := fun E' hE => by
    unfold sectorsY at hFs ⊢
    rw [hE, sect_set, hFs]
  have h40s : ∀ s ∈ F.now.set (fr + (next + c.length)) (closeY first (next + c.length) c.length), s.size = 40 := fun s hs => by
    rcases List.mem_or_eq_of_mem_set hs with hs | rfl
    · exact hF40 s hs
    · exact hc40
  rcases flush_cases k2 with ⟨H, q1, q2, q3, q4, q5⟩ | ⟨H, q1, q2, q3, q4, q5⟩
  · right
    refine ⟨H, h0, q1, q2, fun keep => ?_⟩
    have hw : H.wait = [⟨fr + (next + c.length), closeY first (next + c.length) c.length⟩] := by rw [q5, k5, f5]; rfl
    have hk : H.kept = F.now := by rw [q3, k3, f3, ← f4]
    have hr : (restartD H keep).now = if keepBit keep 0 then F.now.set (fr + (next + c.length)) (closeY first (next + c.length) c.length) else F.now := by
      show keepTo' keep H.wait H.wait.length H.kept = _
      rw [hw, hk]
      show keepTo' keep [_] 1 F.now = _
      rw [keepTo_next keep _ 0 F.now (by simp), keepTo_zero]
      rfl
    cases hb : keepBit keep 0
    · left
      rw [hb] at hr
      have hr2 : (restartD H keep).now = F.now := by simpa using hr
      have hs : sectorsY (restartD H keep) fr many = sectorsY F fr many := by unfold sectorsY; rw [hr2]
      exact ⟨rfl, rfl, by rw [hs]; exact hFI.cl, by rw [hs]; exact hFI.nc, rfl, by rw [hr2]; exact hF40⟩
    · right
      rw [hb] at hr
      have hr2 : (restartD H keep).now = F.now.set (fr + (next + c.length)) (closeY first (next + c.length) c.length) := by simpa using hr
      exact ⟨rfl, rfl, by rw [hset _ hr2]; exact m1, by rw [hset _ hr2]; exact m2, rfl, by rw [hr2]; exact h40s⟩
  · left
    have hn2 : H.now = F.now.set (fr + (next + c.length)) (closeY first (next + c.length) c.length) := q4.trans k4
    exact ⟨H, h0, q1, ⟨q3.trans q4.symm, q5, by rw [hset _ hn2]; exact m1, by rw [hset _ hn2]; exact m2, q2, by rw [hn2]; exact h40s⟩, by rw [hn2, List.length_set, hFl]⟩
theorem restart_calm (D : DiskS) (keep : Int) : Calm (restartD D keep) := ⟨rfl, rfl⟩
theorem add_wait (fr many first next : Nat) (c : List Change) (D : DiskS) : (addY fr many first next c D).1.wait.length ≤ D.wait.length + c.length + 2 := by
  unfold addY
  split
  · show D.wait.length ≤ _; omega
  · exact wait_seal _ _ _ _ _ _
end Go.Proofs.YtggpodlecljcbadGreatDoor
namespace Go.Proofs.YtggpodlecljcbadGreatDoor
set_option linter.unusedSimpArgs false
set_option linter.unusedVariables false
open Go.RowKit Go.Sort
/-- a number of four bytes. -/
def u4 (a b c d : UInt8) : Nat := a.toNat + 256 * b.toNat + 65536 * c.toNat + 16777216 * d.toNat
theorem u4_four (n : Nat) (h : n < 4294967296) : u4 n.toUInt8 (n / 256).toUInt8 (n / 65536).toUInt8 (n / 16777216).toUInt8 = n := by
  unfold u4
  have a1 : n.toUInt8.toNat = n % 256 := by simp
  have a2 : (n / 256).toUInt8.toNat = n / 256 % 256 := by simp
  have a3 : (n / 65536).toUInt8.toNat = n / 65536 % 256 := by simp
  have a4 : (n / 16777216).toUInt8.toNat = n / 16777216 % 256 := by simp
  rw [a1, a2, a3, a4]
  omega
theorem u4_lt (a b c d : UInt8) : u4 a b c d < 4294967296 := by
  unfold u4
  have := a.toNat_lt
  have := b.toNat_lt
  have := c.toNat_lt
  have := d.toNat_lt
  omega
/-- a head: which one it is, where all rows stand, how many bytes, the log's first number. -/
structure Hd where
  epoch : Nat
  side : Nat
  size : Nat
  first : Nat
def Hd.ok (h : Hd) : Prop := h.epoch < 4294967296 ∧ h.side ≤ 1 ∧ h.size ≤ 480 ∧ 1 ≤ h.first ∧ h.first < 4294967296
def headText (h : Hd) : ByteArray := (⟨#[72]⟩ : ByteArray) ++ fourB h.epoch ++ fourB h.side ++ fourB h.size ++ fourB h.first
theorem headText_size (h : Hd) : (headText h).size = 17 := by
  unfold headText
  simp only [ByteArray.size_append, fourB_size]
  rfl
def zeroH : Hd := ⟨0, 0, 0, 0⟩
def headIs (x : UInt8) (h : Hd) : Hd := if x.toNat ≠ 72 ∨ 1 < h.side ∨ 480 < h.size ∨ h.first < 1 then zeroH else h
/-- the head that a sector holds; epoch 0: none. -/
def headOf (l : List UInt8) : Hd := match l with
  | x :: a0 :: a1 :: a2 :: a3 :: b0 :: b1 :: b2 :: b3 :: c0 :: c1 :: c2 :: c3 :: d0 :: d1 :: d2 :: d3 :: _ => headIs x ⟨u4 a0 a1 a2 a3, u4 b0 b1 b2 b3, u4 c0 c1 c2 c3, u4 d0 d1 d2 d3⟩
  | _ => zeroH
theorem head_data (h : Hd) : ∃ r, (fullS (headText h)).data.toList = 72 :: h.epoch.toUInt8 :: (h.epoch / 256).toUInt8 :: (h.epoch / 65536).toUInt8 :: (h.epoch / 16777216).toUInt8 :: h.side.toUInt8 :: (h.side / 256).toUInt8 :: (h.side / 65536).toUInt8 :: (h.side / 16777216).toUInt8
    :: h.size.toUInt8 :: (h.size / 256).toUInt8 :: (h.size / 65536).toUInt8 :: (h.size / 16777216).toUInt8 :: h.first.toUInt8 :: (h.first / 256).toUInt8 :: (h.first / 65536).toUInt8 :: (h.first / 16777216).toUInt8 :: r := by
  refine ⟨List.replicate (40 - (headText h).size) 0, ?_⟩
  unfold fullS headText fourB zeros
  simp [ByteArray.append_eq, ByteArray.data_append]
theorem head_back (h : Hd) (hk : h.ok) : headOf (fullS (headText h)).data.toList = h := by
  obtain ⟨r, hr⟩ := head_data h
  obtain ⟨k1, k2, k3, k4, k5⟩ := hk
  rw [hr]
  unfold headOf
  simp only []
  rw [u4_four _ k1, u4_four _ (by omega), u4_four _ (by omega), u4_four _ k5]
  unfold headIs
  rw [if_neg (by simp; omega)]
theorem head_zeros : headOf (zeros 40).data.toList = zeroH := by
  have : (zeros 40).data.toList = List.replicate 40 0 := by simp [zeros]
  rw [this]
  show headIs 0 _ = zeroH
  rw [headIs, if_pos (Or.inl (by decide))]
theorem headOf_low (l : List UInt8) : (headOf l).side ≤ 1 ∧ (headOf l).size ≤ 480 ∧ (headOf l).epoch < 4294967296 ∧ (headOf l).first < 4294967296 := by
  unfold headOf
  split
  · unfold headIs
    split
    · decide
    · rename_i hn
      simp only [not_or, Nat.not_lt] at hn
      exact ⟨hn.2.1, hn.2.2.1, u4_lt _ _ _ _, u4_lt _ _ _ _⟩
  · decide
/-- a row as text. -/
def rowText (c : Change) : ByteArray := (⟨#[c.key.size.toUInt8, c.val.size.toUInt8, (c.val.size / 256).toUInt8]⟩ : ByteArray) ++ c.key ++ c.val
def allText : List Change → ByteArray
  | [] => ⟨#[]⟩
  | c :: r => rowText c ++ allText r
theorem rowText_size (c : Change) : (rowText c).size = 3 + c.key.size + c.val.size := by
  unfold rowText
  rw [ByteArray.size_append, ByteArray.size_append]
  rfl
/-- rows of bytes, one behind the other, put to those ahead; none: these are no rows. -/
def parseL : Nat → List UInt8 → List Change → Option (List Change)
  | 0, _, acc => some acc
  | f + 1, t, acc => match t with
    | [] => some acc
    | [_] => none
    | [_, _] => none
    | k :: v :: u :: r =>
      if r.length < k.toNat + v.toNat + 256 * u.toNat then none
      else if changeFault ⟨⟨(r.take k.toNat).toArray⟩, ⟨((r.drop k.toNat).take (v.toNat + 256 * u.toNat)).toArray⟩, false⟩ ≠ 0 then none
      else parseL f (r.drop (k.toNat + v.toNat + 256 * u.toNat)) (appX acc ⟨⟨(r.take k.toNat).toArray⟩, ⟨((r.drop k.toNat).take (v.toNat + 256 * u.toNat)).toArray⟩, false⟩)
theorem parse_row (f : Nat) (c : Change) (r : List UInt8) (acc : List Change) (hc : changeFault c = 0) (hg : c.gone = false) : parseL (f + 1) ((rowText c).data.toList ++ r) acc = parseL f r (appX acc c) := by
  obtain ⟨hk, hv⟩ := cf_sizes hc
  have hd : (rowText c).data.toList ++ r = c.key.size.toUInt8 :: c.val.size.toUInt8 :: (c.val.size / 256).toUInt8 :: (c.key.data.toList ++ (c.val.data.toList ++ r)) := by
    unfold rowText
    simp [ByteArray.append_eq, ByteArray.data_append]
  have e1 : c.key.size.toUInt8.toNat = c.key.size := by simp; omega
  have e2 : c.val.size.toUInt8.toNat = c.val.size := by simp; omega
  have e3 : (c.val.size / 256).toUInt8.toNat = 0 := by simp; omega
  have l1 := data_len c.key
  have l2 := data_len c.val
  have t1 : (c.key.data.toList ++ (c.val.data.toList ++ r)).take c.key.size = c.key.data.toList := by rw [← l1]; exact List.take_left
  have t2 : (c.key.data.toList ++ (c.val.data.toList ++ r)).drop c.key.size = c.val.data.toList ++ r := by rw [← l1]; exact List.drop_left
  have t3 : (c.val.data.toList ++ r).take c.val.size = c.val.data.toList := by rw [← l2]; exact List.take_left
  have t4 : (c.key.data.toList ++ (c.val.data.toList ++ r)).drop (c.key.size + c.val.size) = r := by
    rw [← List.drop_drop, t2, ← l2]; exact List.drop_left
  have hcc : (⟨⟨c.key.data.toList.toArray⟩, ⟨c.val.data.toList.toArray⟩, false⟩ : Change) = c := by
    obtain ⟨⟨k⟩, ⟨v⟩, g⟩ := c
    simp at hg
    simp [hg]
  rw [hd]
  simp only [parseL, e1, e2, e3, Nat.mul_zero, Nat.add_zero, t1, t2, t3, t4, hcc]
  rw [if_neg (by simp [l1, l2]), if_neg (by simp [hc])]
theorem parse_all : ∀ (l : List Change) (f : Nat) (acc : List Change), l.length ≤ f → (∀ c ∈ l, changeFault c = 0 ∧ c.gone = false) → parseL f (allText l).data.toList acc = some (l.foldl appX acc)
  | [], 0, acc, _, _ => rfl
  | [], f + 1, acc, _, _ => rfl
  | c :: r, 0, acc, h, _ => by simp at h
  | c :: r, f + 1, acc, h, hc => by
    have h1 := hc c (List.mem_cons_self ..)
    have hd : (allText (c :: r)).data.toList = (rowText c).data.toList ++ (allText r).data.toList := by simp [allText, ByteArray.append_eq, ByteArray.data_append]
    rw [hd, parse_row f c _ acc h1.1 h1.2, parse_all r f (appX acc c) (by simpa using h) (fun x hx => hc x (List.mem_cons_of_mem _ hx))]
    rfl
theorem app_last {acc : List Change} {c : Change} (h : RisesX (acc ++ [c])) (hg : c.gone = false) : appX acc c = acc ++ [c] := by
  have hlt : ∀ t (ht : t < acc.length), bLt acc[t].key c.key = true := fun t ht => by
    have := RisesX.at h t acc.length ht (by simp)
    rw [List.getElem_append_left ht, List.getElem_append_right (Nat.le_refl _)] at this
    simpa using this
  have hr : rankX acc c.key = acc.length := rank_ofX c.key acc acc.length (Nat.le_refl _) (fun t ht _ => hlt t ht) (fun t ht h2 => absurd ht (by omega))
  have hi : isAtX acc c.key (rankX acc c.key) = false := isAt_geX acc c.key _ (by omega)
  unfold appX
  rw [hi, hg, hr]
  simp
theorem fold_rises : ∀ (l acc : List Change), RisesX (acc ++ l) → (∀ c ∈ l, c.gone = false) → l.foldl appX acc = acc ++ l
  | [], acc, _, _ => by simp
  | c :: r, acc, h, hg => by
    have h1 : RisesX (acc ++ [c]) := by
      have : acc ++ (c :: r) = (acc ++ [c]) ++ r := by simp
      rw [this] at h
      exact (List.pairwise_append.1 h).1
    rw [List.foldl_cons, app_last h1 (hg c (List.mem_cons_self ..)), fold_rises r (acc ++ [c]) (by simpa using h) (fun x hx => hg x (List.mem_cons_of_mem _ hx))]
    simp
/-- I1: what was laid is read. -/
theorem parse_back (l : List Change) (f : Nat) (h : l.length ≤ f) (hr : RisesX l) (hc : ∀ c ∈ l, changeFault c = 0 ∧ c.gone = false) : parseL f (allText l).data.toList [] = some l := by
  rw [parse_all l f [] h hc, fold_rises l [] (by simpa using hr) (fun c hx => (hc c hx).2)]
  simp
theorem allText_size : ∀ (l : List Change), (∀ c ∈ l, changeFault c = 0) → (allText l).size ≤ 27 * l.length
  | [], _ => Nat.le_refl _
  | c :: r, h => by
    obtain ⟨hk, hv⟩ := cf_sizes (h c (List.mem_cons_self ..))
    have ih := allText_size r (fun x hx => h x (List.mem_cons_of_mem _ hx))
    rw [allText, ByteArray.size_append, rowText_size]
    simp only [List.length_cons]
    omega
end Go.Proofs.YtggpodlecljcbadGreatDoor
namespace Go.Proofs.YtggpodlecljcbadGreatDoor
set_option linter.unusedSimpArgs false
set_option linter.unusedVariables false
open Go.RowKit Go.Sort
/-- what a store holds in memory, beside its disk: the head, how many sectors of the log are used, the rows. -/
structure StS where
  h : Hd
  next : Nat
  rows : List Change
/-- the better one of the two heads. -/
def pickH (s0 s1 : ByteArray) : Hd :=
  let a := if 0 < (headOf s0.data.toList).epoch then headOf s0.data.toList else zeroH
  if a.epoch < (headOf s1.data.toList).epoch then headOf s1.data.toList else a
def halfL (D : DiskS) (side : Nat) : List UInt8 := ((D.now.drop (2 + side * 12)).take 12).flatMap (fun s => s.data.toList)
/-- I1: the store that is on a disk of 42 sectors or more; none: there is none (ErrText). -/
def openZ (D : DiskS) : Option StS :=
  let h := pickH (D.now.getD 0 ⟨#[]⟩) (D.now.getD 1 ⟨#[]⟩)
  if h.epoch = 0 then none
  else match parseL 481 ((halfL D h.side).take h.size) [] with
    | none => none
    | some rows => let p := closedY h.first (sectorsY D 26 (D.now.length - 26)) 0 [] [] 0; some ⟨h, p.2, p.1.foldl (fun r c => c.foldl appX r) rows⟩
def blanksD : Nat → Nat → DiskS → DiskS × Nat
  | _, 0, D => (D, 0)
  | i, k + 1, D => thenD (writeD D (i : Nat) ⟨#[]⟩) (blanksD (i + 1) k)
/-- I1: Format. -/
def formatD (D : DiskS) : DiskS × Nat :=
  if D.now.length < 42 then (D, 7)
  else thenD (thenD (thenD (thenD (writeD D ((0 : Nat) : Int) ⟨#[]⟩) (blanksD 26 (D.now.length - 26))) flushD) (fun E => writeD E ((1 : Nat) : Int) (headText ⟨1, 0, 0, 1⟩))) flushD
theorem calm_blanks : ∀ (k i : Nat) (D : DiskS), Calm D → i + k ≤ D.now.length → (blanksD i k D).2 = 0 ∧ Calm (blanksD i k D).1 ∧ (blanksD i k D).1.now = setsL D.now i (List.replicate k (zeros 40))
  | 0, i, D, h, _ => ⟨rfl, h, rfl⟩
  | k + 1, i, D, h, hl => by
    have hw := h.write i ⟨#[]⟩ (by omega) (by decide)
    rw [full_blank] at hw
    have ih := calm_blanks k (i + 1) { D with now := D.now.set i (zeros 40), wait := D.wait ++ [⟨i, zeros 40⟩] } ⟨h.1, h.2⟩ (by simp; omega)
    unfold blanksD
    rw [hw, thenD_good rfl]
    refine ⟨ih.1, ih.2.1, ih.2.2.trans ?_⟩
    rw [List.replicate_succ, setsL]
theorem Calm.flushed {D : DiskS} (h : Calm D) : Calm { D with kept := D.now, wait := [] } := ⟨h.1, h.2⟩
/-- a formatted disk. -/
theorem calm_format (D : DiskS) (h : Calm D) (hn : 42 ≤ D.now.length) : ∃ E, formatD D = (E, 0) ∧ Calm E ∧ E.kept = E.now ∧ E.wait = [] ∧ E.now = ((setsL (D.now.set 0 (zeros 40)) 26 (List.replicate (D.now.length - 26) (zeros 40))).set 1 (fullS (headText ⟨1, 0, 0, 1⟩))) := by
  have hw := h.write 0 ⟨#[]⟩ (by omega) (by decide)
  rw [full_blank] at hw
  obtain ⟨D1, hD1⟩ : ∃ D1, D1 = ({ D with now := D.now.set 0 (zeros 40), wait := D.wait ++ [⟨0, zeros 40⟩] } : DiskS) := ⟨_, rfl⟩
  have c1 : Calm D1 := by rw [hD1]; exact ⟨h.1, h.2⟩
  have n1 : D1.now = D.now.set 0 (zeros 40) := by rw [hD1]
  rw [← hD1] at hw
  obtain ⟨b1, b2, b3⟩ := calm_blanks (D.now.length - 26) 26 D1 c1 (by rw [n1, List.length_set]; omega)
  obtain ⟨⟨D2, m2⟩, hp2⟩ : ∃ p, p = blanksD 26 (D.now.length - 26) D1 := ⟨_, rfl⟩
  rw [← hp2] at b1 b2 b3
  dsimp only at b1 b2 b3
  subst b1
  have f2 := b2.flush
  have c3 : Calm { D2 with kept := D2.now, wait := [] } := b2.flushed
  have l2 : D2.now.length = D.now.length := by rw [b3, setsL_length, n1, List.length_set]
  have hw2 := c3.write 1 (headText ⟨1, 0, 0, 1⟩) (by show 1 < D2.now.length; omega) (by rw [headText_size]; omega)
  obtain ⟨D3, hD3⟩ : ∃ D3, D3 = ({ D2 with kept := D2.now, now := D2.now.set 1 (fullS (headText ⟨1, 0, 0, 1⟩)), wait := [⟨1, fullS (headText ⟨1, 0, 0, 1⟩)⟩] } : DiskS) := ⟨_, rfl⟩
  have c4 : Calm D3 := by rw [hD3]; exact ⟨b2.1, b2.2⟩
  have hw3 : writeD { D2 with kept := D2.now, wait := [] } ((1 : Nat) : Int) (headText ⟨1, 0, 0, 1⟩) = (D3, 0) := by rw [hw2, hD3]; rfl
  refine ⟨{ D3 with kept := D3.now, wait := [] }, ?_, c4.flushed, rfl, rfl, ?_⟩
  · unfold formatD
    rw [if_neg (by omega), hw, thenD_good (p := (D1, 0)) rfl, ← hp2, thenD_good (p := (D2, 0)) rfl, f2, thenD_good (p := (_, 0)) rfl]
    show thenD (writeD { D2 with kept := D2.now, wait := [] } ((1 : Nat) : Int) (headText ⟨1, 0, 0, 1⟩)) flushD = _
    rw [hw3, thenD_good (p := (D3, 0)) rfl, c4.flush]
  · show D3.now = _
    rw [hD3]
    show D2.now.set 1 _ = _
    rw [b3, n1]
def firstH : Hd := ⟨1, 0, 0, 1⟩
theorem firstH_ok : firstH.ok := by unfold Hd.ok firstH; decide
/-- the sectors of a disk that was just formatted. -/
theorem format_now (l : List ByteArray) (hn : 42 ≤ l.length) : ∃ A : List ByteArray, A.length = 24 ∧ ((setsL (l.set 0 (zeros 40)) 26 (List.replicate (l.length - 26) (zeros 40))).set 1 (fullS (headText firstH))) = zeros 40 :: fullS (headText firstH) :: (A ++ List.replicate (l.length - 26) (zeros 40)) := by
  match l, hn with
  | x :: y :: r, hn =>
    simp only [List.length_cons] at hn ⊢
    have hs := setsL_eq (List.replicate (r.length + 1 + 1 - 26) (zeros 40)) 26 ((x :: y :: r).set 0 (zeros 40)) (by simp; omega)
    rw [hs]
    have hd : ((x :: y :: r).set 0 (zeros 40)).drop (26 + (List.replicate (r.length + 1 + 1 - 26) (zeros 40)).length) = [] := List.drop_eq_nil_of_le (by simp; omega)
    rw [hd, List.append_nil]
    refine ⟨r.take 24, by rw [List.length_take]; omega, ?_⟩
    simp
theorem four_ne {n m : Nat} (h : n ≠ m) (hn : n < 4294967296) (hm : m < 4294967296) : ((fourB n).toList == (fourB m).toList) = false := by
  cases hb : ((fourB n).toList == (fourB m).toList)
  · rfl
  · exfalso
    have he : (fourB n).toList = (fourB m).toList := by simpa using hb
    have he2 : fourB n = fourB m := (bytes_eq_iff _ _).1 he
    simp only [fourB, ByteArray.mk.injEq] at he2
    have he3 := congrArg Array.toList he2
    simp only [List.cons.injEq] at he3
    obtain ⟨a0, a1, a2, a3, _⟩ := he3
    have := u4_four n hn
    rw [a0, a1, a2, a3, u4_four m hm] at this
    exact h this.symm
/-- no sector has a number from b on. -/
def LowNums (b : Nat) (S : List ByteArray) : Prop := ∀ s ∈ S, ∀ num, b ≤ num → num ≤ 2000000000 → (lookS s num).2.2 = false
theorem low_zero (b num : Nat) (hb : 1 ≤ b) (h1 : b ≤ num) (h2 : num ≤ 2000000000) : (lookS (zeros 40) num).2.2 = false := by rw [look_zero _ (by omega) h2]; rfl
theorem low_text (k : UInt8) (n : Nat) (s : ByteArray) (hs : s.size ≤ 33) (num : Nat) (h : n ≠ num) (hn : n < 4294967296) (h2 : num ≤ 2000000000) : (lookS (fullS (textY k n s)) num).2.2 = false := by
  rw [look_text _ _ _ _ hs, if_pos (four_ne h hn (by omega))]; rfl
/-- I3: a log whose first number is behind all of theirs is empty. -/
theorem low_closed {b : Nat} {S : List ByteArray} (h : LowNums b S) (first : Nat) (hb : b ≤ first) (hf : first + S.length ≤ 2000000000) : closedY first S 0 [] [] 0 = ([], 0) :=
  run_none first S 0 [] [] 0 (fun j hj => Or.inl (h _ (List.getElem_mem hj) _ (by omega) (by omega)))
end Go.Proofs.YtggpodlecljcbadGreatDoor
namespace Go.Proofs.YtggpodlecljcbadGreatDoor
set_option linter.unusedSimpArgs false
set_option linter.unusedVariables false
open Go.RowKit Go.Sort
/-- a sector's text that no number from b on finds. -/
def lowS (b : Nat) (s : ByteArray) : Prop := ∀ num, b ≤ num → num ≤ 2000000000 → (lookS s num).2.2 = false
/-- all that lies, is kept, or waits behind the halves has numbers below b. -/
structure LowAll (b : Nat) (D : DiskS) : Prop where
  now : ∀ i s, 26 ≤ i → D.now[i]? = some s → lowS b s
  kept : ∀ i s, 26 ≤ i → D.kept[i]? = some s → lowS b s
  wait : ∀ t ∈ D.wait, 26 ≤ t.pos → lowS b t.data
theorem LowAll.mono {b b' : Nat} {D : DiskS} (h : LowAll b D) (hb : b ≤ b') : LowAll b' D :=
  ⟨fun i s h1 h2 n h3 h4 => h.now i s h1 h2 n (by omega) h4, fun i s h1 h2 n h3 h4 => h.kept i s h1 h2 n (by omega) h4, fun t h1 h2 n h3 h4 => h.wait t h1 h2 n (by omega) h4⟩
theorem LowAll.write {b : Nat} {D : DiskS} (h : LowAll b D) (p : Nat) (s : ByteArray) (hs : p < 26 ∨ lowS b (fullS s)) : LowAll b (writeD D (p : Int) s).1 := by
  obtain ⟨s1, s2, s3⟩ := stepD_same D
  unfold writeD
  split
  · exact h
  · split
    · exact ⟨by rw [s2]; exact h.now, by rw [s1]; exact h.kept, by rw [s3]; exact h.wait⟩
    · refine ⟨fun i x h1 h2 => ?_, by show ∀ i s, 26 ≤ i → (stepD D).1.kept[i]? = some s → _; rw [s1]; exact h.kept, fun t ht h2 => ?_⟩
      · have h2' : (D.now.set p (fullS s))[i]? = some x := by simpa using h2
        rw [List.getElem?_set] at h2'
        split at h2'
        · rename_i e
          split at h2'
          · cases h2'
            rcases hs with hs | hs
            · omega
            · exact hs
          · cases h2'
        · exact h.now i x h1 h2'
      · rcases List.mem_append.1 ht with ht | ht
        · exact h.wait t ht h2
        · simp only [List.mem_singleton] at ht
          subst ht
          rcases hs with hs | hs
          · exfalso
            have h3 : 26 ≤ (p : Int).toNat := h2
            omega
          · exact hs
theorem LowAll.flush {b : Nat} {D : DiskS} (h : LowAll b D) : LowAll b (flushD D).1 := by
  obtain ⟨s1, s2, s3⟩ := stepD_same D
  unfold flushD
  split
  · exact ⟨by rw [s2]; exact h.now, by rw [s1]; exact h.kept, by rw [s3]; exact h.wait⟩
  · exact ⟨by show ∀ i s, 26 ≤ i → (stepD D).1.now[i]? = some s → _; rw [s2]; exact h.now, h.now, fun t ht => by simp at ht⟩
theorem LowAll.restart {b : Nat} {D : DiskS} (h : LowAll b D) (keep : Int) : LowAll b (restartD D keep) := by
  have hk : ∀ i s, 26 ≤ i → (keepTo' keep D.wait D.wait.length D.kept)[i]? = some s → lowS b s := fun i s h1 h2 => by
    have hl := keepTo_length keep D.wait D.kept _ (Nat.le_refl _)
    obtain ⟨hi, he⟩ := List.getElem?_eq_some_iff.1 h2
    have hi2 : i < D.kept.length := by omega
    obtain ⟨h3, h4⟩ := keepTo_at keep D.wait D.kept D.wait.length (Nat.le_refl _) i hi2
    rcases h4 with h4 | ⟨t, ht, hp, h4⟩
    · exact h.kept i s h1 (by rw [List.getElem?_eq_getElem hi2, ← h4, he])
    · rw [he] at h4
      rw [h4]
      exact h.wait t ht (by omega)
  exact ⟨hk, hk, fun t ht => by simp [restartD] at ht⟩
theorem lowS_zero (b : Nat) (hb : 1 ≤ b) : lowS b (zeros 40) := fun num h1 h2 => low_zero b num hb h1 h2
theorem lowS_text (b : Nat) (k : UInt8) (n : Nat) (s : ByteArray) (hs : s.size ≤ 33) (hn : n < b) (hb : n < 2000000000) : lowS b (fullS (textY k n s)) := fun num h1 h2 => low_text k n s hs num (by omega) (by omega) h2
theorem LowAll.nums {b many : Nat} {D : DiskS} (h : LowAll b D) : LowNums b (sectorsY D 26 many) := fun s hs num h1 h2 => by
  have hs2 : s ∈ D.now.drop 26 := List.mem_of_mem_take hs
  obtain ⟨i, hi, rfl⟩ := List.getElem_of_mem hs2
  rw [List.length_drop] at hi
  refine h.now (26 + i) _ (by omega) ?_ num h1 h2
  rw [List.getElem_drop, List.getElem?_eq_getElem]
/-- a property that writes of some texts behind the halves, and flushes, keep. -/
structure KeptQ (Q : ByteArray → Prop) (I : DiskS → Prop) : Prop where
  write : ∀ (D : DiskS) (p : Nat) (s : ByteArray), 26 ≤ p → Q (fullS s) → s.size ≤ 40 → I D → I (writeD D (p : Int) s).1
  flush : ∀ D, I D → I (flushD D).1
theorem keepQ_rows {Q : ByteArray → Prop} {I : DiskS → Prop} (hI : KeptQ Q I) (first next many : Nat) (hQ : ∀ k n s, s.size ≤ 33 → n < first + many → Q (fullS (textY k n s))) : ∀ (c : List Change) (i : Nat) (D : DiskS), I D → (∀ x ∈ c, changeFault x = 0) → next + i + c.length ≤ many → I (layRows 26 first next i c D).1
  | [], _, _, h, _, _ => h
  | x :: r, i, D, h, hf, hn => by
    simp only [List.length_cons] at hn
    have hx := (change_bytes x (hf x (List.mem_cons_self ..))).2.1
    have h1 : I (writeD D ((26 + next + i : Nat) : Int) (textY 111 (first + next + i) (changeBytes x).1)).1 := hI.write _ _ _ (by omega) (hQ _ _ _ hx (by omega)) (by rw [textY_size]; omega) h
    unfold layRows thenD
    split
    · exact h1
    · exact keepQ_rows hI first next many hQ r (i + 1) _ h1 (fun y hy => hf y (List.mem_cons_of_mem _ hy)) (by omega)
theorem keepQ_add {Q : ByteArray → Prop} {I : DiskS → Prop} (hI : KeptQ Q I) (first next many : Nat) (hQ : ∀ k n s, s.size ≤ 33 → n < first + many → Q (fullS (textY k n s))) (hz : Q (zeros 40)) (c : List Change) (D : DiskS) (h : I D) : I (addY 26 many first next c D).1 := by
  unfold addY
  split
  · exact h
  · rename_i h0
    have h0 : addFault many next c = 0 := by simpa using h0
    obtain ⟨g1, g2, g3⟩ := addFault_none h0
    have hl : I (layY 26 many first next c D).1 := by
      have hr := keepQ_rows hI first next many hQ c 0 D h g3 (by omega)
      unfold layY thenD
      split
      · exact hr
      · unfold blankY
        split
        · exact hI.write _ _ _ (by omega) (by rw [full_blank]; exact hz) (by decide) hr
        · exact hr
    have hm : ∀ E, I E → I (markY 26 first next c.length E).1 := fun E hE => hI.write _ _ _ (by omega) (hQ _ _ _ (by rw [fourB_size]; omega) (by omega)) (by rw [textY_size, fourB_size]; omega) hE
    exact keep_then (keep_then (keep_then hl hI.flush) hm) hI.flush
theorem low_add {b : Nat} (first next many : Nat) (hb : first + many ≤ b) (hb2 : b ≤ 2000000000) (h1 : 1 ≤ b) (c : List Change) (D : DiskS) (h : LowAll b D) : LowAll b (addY 26 many first next c D).1 :=
  keepQ_add (Q := lowS b) ⟨fun D p s _ hq _ h => h.write p s (Or.inr hq), fun D h => h.flush⟩ first next many (fun k n s hs hn => lowS_text b k n s hs (by omega) (by omega)) (lowS_zero b h1) c D h
/-- how many sectors a text of so many bytes takes. -/
def cntZ (n : Nat) : Nat := (n + 39) / 40
def chunkZ (t : ByteArray) (i : Nat) : ByteArray := t.extract (40 * i) (40 * i + 40)
theorem chunkZ_size (t : ByteArray) (i : Nat) : (chunkZ t i).size ≤ 40 := by
  unfold chunkZ
  rw [ByteArray.size_extract]
  omega
def chunksD (p : Nat) (t : ByteArray) : Nat → Nat → DiskS → DiskS × Nat
  | _, 0, D => (D, 0)
  | i, k + 1, D => thenD (writeD D ((p + i : Nat) : Int) (chunkZ t i)) (chunksD p t (i + 1) k)
def nextH (h : Hd) (many n : Nat) : Hd := ⟨h.epoch + 1, 1 - h.side, n, h.first + many⟩
/-- I3: all rows are laid as a whole. -/
def checkD (many : Nat) (h : Hd) (rows : List Change) (D : DiskS) : DiskS × Nat :=
  thenD (thenD (thenD (chunksD (2 + (1 - h.side) * 12) (allText rows) 0 (cntZ (allText rows).size) D) flushD) (fun E => writeD E (((h.epoch + 1) % 2 : Nat) : Int) (headText (nextH h many (allText rows).size)))) flushD
/-- what a store has in memory behind it. -/
def checkZ (many : Nat) (S : StS) (D : DiskS) : DiskS × StS × Nat :=
  let p := checkD many S.h S.rows D
  let h := nextH S.h many (allText S.rows).size
  if p.2 ≠ 0 then (p.1, S, p.2) else (p.1, ⟨h, (closedY h.first (sectorsY p.1 26 many) 0 [] [] 0).2, S.rows⟩, 0)
def commitFault (many : Nat) (rows : List Change) (c : List Change) : Nat :=
  if 14 < c.length then 2 else if faultsY c ≠ 0 then faultsY c else if 12 < (appsTo rows c c.length).length ∨ many < c.length + 1 then 7 else 0
/-- the checkpoint that a commit may take first. -/
def roomZ (many : Nat) (S : StS) (n : Nat) (D : DiskS) : DiskS × StS × Nat := if many < S.next + n + 1 then checkZ many S D else (D, S, 0)
def putZ (many : Nat) (c : List Change) (rows : List Change) (p : DiskS × StS × Nat) : DiskS × StS × Nat :=
  let q := addY 26 many p.2.1.h.first p.2.1.next c p.1
  if q.2 = 0 then (q.1, ⟨p.2.1.h, p.2.1.next + c.length + 1, rows⟩, 0) else (q.1, p.2.1, q.2)
/-- I2: a deed. -/
def commitZ (many : Nat) (S : StS) (c : List Change) (D : DiskS) : DiskS × StS × Nat :=
  if commitFault many S.rows c ≠ 0 then (D, S, commitFault many S.rows c)
  else let p := roomZ many S c.length D
    if p.2.2 ≠ 0 then p else putZ many c (appsTo S.rows c c.length) p
/-- what differs from K at some places alone; that may wait. -/
structure Near (P : Nat → Prop) (K : List ByteArray) (D : DiskS) : Prop where
  kl : D.kept.length = K.length
  nl : D.now.length = K.length
  kept : ∀ i, ¬ P i → D.kept[i]? = K[i]?
  now : ∀ i, ¬ P i → D.now[i]? = K[i]?
  wait : ∀ t ∈ D.wait, P t.pos ∧ t.data.size = 40
  k40 : ∀ s ∈ D.kept, s.size = 40
  n40 : ∀ s ∈ D.now, s.size = 40
theorem Near.same {P : Nat → Prop} {K : List ByteArray} {D E : DiskS} (h : Near P K D) (h1 : E.kept = D.kept) (h2 : E.now = D.now) (h3 : E.wait = D.wait) : Near P K E :=
  ⟨by rw [h1]; exact h.kl, by rw [h2]; exact h.nl, by rw [h1]; exact h.kept, by rw [h2]; exact h.now, by rw [h3]; exact h.wait, by rw [h1]; exact h.k40, by rw [h2]; exact h.n40⟩
theorem Near.wrote {P : Nat → Prop} {K : List ByteArray} {D E : DiskS} (h : Near P K D) (p : Nat) (s : ByteArray) (hp : P p) (hs : s.size = 40) (h1 : E.kept = D.kept) (h2 : E.now = D.now.set p s) (h3 : E.wait = D.wait ++ [⟨p, s⟩]) : Near P K E := by
  refine ⟨by rw [h1]; exact h.kl, by rw [h2, List.length_set]; exact h.nl, by rw [h1]; exact h.kept, fun i hi => ?_, fun t ht => ?_, by rw [h1]; exact h.k40, fun x hx => ?_⟩
  · rw [h2, List.getElem?_set_ne (fun e : p = i => hi (e ▸ hp))]
    exact h.now i hi
  · rw [h3] at ht
    rcases List.mem_append.1 ht with ht | ht
    · exact h.wait t ht
    · simp only [List.mem_singleton] at ht
      subst ht
      exact ⟨hp, hs⟩
  · rw [h2] at hx
    rcases List.mem_or_eq_of_mem_set hx with hx | rfl
    · exact h.n40 x hx
    · exact hs
theorem Near.flushed {P : Nat → Prop} {K : List ByteArray} {D E : DiskS} (h : Near P K D) (h1 : E.kept = D.now) (h2 : E.now = D.now) (h3 : E.wait = []) : Near P K E :=
  ⟨by rw [h1]; exact h.nl, by rw [h2]; exact h.nl, by rw [h1]; exact h.now, by rw [h2]; exact h.now, fun t ht => (by rw [h3] at ht; cases ht), by rw [h1]; exact h.n40, by rw [h2]; exact h.n40⟩
theorem Near.restart {P : Nat → Prop} {K : List ByteArray} {D : DiskS} (h : Near P K D) (keep : Int) : Near P K (restartD D keep) := by
  have hl := keepTo_length keep D.wait D.kept _ (Nat.le_refl _)
  have hat : ∀ i (hi : i < D.kept.length), (keepTo' keep D.wait D.wait.length D.kept)[i]'(by omega) = D.kept[i] ∨ ∃ t ∈ D.wait, t.pos = i ∧ (keepTo' keep D.wait D.wait.length D.kept)[i]'(by omega) = t.data := fun i hi => (keepTo_at keep D.wait D.kept D.wait.length (Nat.le_refl _) i hi).2
  have h1 : ∀ i, ¬ P i → (keepTo' keep D.wait D.wait.length D.kept)[i]? = K[i]? := fun i hi => by
    rw [← h.kept i hi]
    by_cases hlt : i < D.kept.length
    · rw [List.getElem?_eq_getElem hlt, List.getElem?_eq_getElem (by omega)]
      rcases hat i hlt with e | ⟨t, ht, e, _⟩
      · rw [e]
      · exact absurd (e ▸ (h.wait t ht).1) hi
    · rw [List.getElem?_eq_none (by omega), List.getElem?_eq_none (by omega)]
  have h40 : ∀ s ∈ keepTo' keep D.wait D.wait.length D.kept, s.size = 40 := fun s hs => by
    obtain ⟨i, hi, rfl⟩ := List.getElem_of_mem hs
    rcases hat i (by omega) with e | ⟨t, ht, _, e⟩
    · rw [e]; exact h.k40 _ (List.getElem_mem _)
    · rw [e]; exact (h.wait t ht).2
  exact ⟨hl.trans h.kl, hl.trans h.kl, h1, h1, fun t ht => by simp [restartD] at ht, h40, h40⟩
theorem chunks_cases (P : Nat → Prop) (K : List ByteArray) (p : Nat) (t : ByteArray) : ∀ (k i : Nat) (D : DiskS), D.down = false → Near P K D → (∀ j, j < k → P (p + i + j)) → p + i + k ≤ K.length →
    (∃ E, chunksD p t i k D = (E, 8) ∧ E.down = true ∧ Near P K E) ∨ (∃ E, chunksD p t i k D = (E, 0) ∧ E.down = false ∧ Near P K E ∧ E.now = setsL D.now (p + i) ((List.range k).map fun j => fullS (chunkZ t (i + j))))
  | 0, i, D, hd, hN, _, _ => Or.inr ⟨D, rfl, hd, hN, rfl⟩
  | k + 1, i, D, hd, hN, hP, hl => by
    have h40 : (fullS (chunkZ t i)).size = 40 := fullS_size _ (chunkZ_size t i)
    unfold chunksD
    rcases write_cases hd (p + i) (chunkZ t i) (by rw [hN.nl]; omega) (chunkZ_size t i) with ⟨E, e1, e2, e3, e4, e5⟩ | ⟨E, e1, e2, e3, e4, e5⟩
    · left
      exact ⟨E, by rw [e1, thenD_bad (by simp)], e2, hN.same e3 e4 e5⟩
    · rw [e1, thenD_good rfl]
      rcases chunks_cases P K p t k (i + 1) E e2 (hN.wrote (p + i) _ (by have := hP 0 (by omega); simpa using this) h40 e3 e4 e5) (fun j hj => by have := hP (j + 1) (by omega); rwa [show p + (i + 1) + j = p + i + (j + 1) by omega]) (by omega) with ⟨F, f1, f2, f3⟩ | ⟨F, f1, f2, f3, f4⟩
      · exact Or.inl ⟨F, f1, f2, f3⟩
      · refine Or.inr ⟨F, f1, f2, f3, f4.trans ?_⟩
        rw [e4, List.range_succ_eq_map, List.map_cons, List.map_map, setsL]
        simp only [Nat.add_zero, Function.comp_def, Nat.add_assoc, Nat.succ_eq_add_one, Nat.add_comm 1]
theorem Near.write {P : Nat → Prop} {K : List ByteArray} {D : DiskS} (h : Near P K D) (p : Nat) (s : ByteArray) (hp : P p) (hs : s.size ≤ 40) : Near P K (writeD D (p : Int) s).1 := by
  obtain ⟨s1, s2, s3⟩ := stepD_same D
  unfold writeD
  split
  · exact h
  · split
    · exact h.same s1 s2 s3
    · exact h.wrote p (fullS s) hp (fullS_size _ hs) s1 (by simp) (by simp)
theorem Near.flush {P : Nat → Prop} {K : List ByteArray} {D : DiskS} (h : Near P K D) : Near P K (flushD D).1 := by
  obtain ⟨s1, s2, s3⟩ := stepD_same D
  unfold flushD
  split
  · exact h.same s1 s2 s3
  · exact h.flushed rfl s2 rfl
theorem near_add {P : Nat → Prop} {K : List ByteArray} (hP : ∀ i, 26 ≤ i → P i) (first next many : Nat) (c : List Change) (D : DiskS) (h : Near P K D) : Near P K (addY 26 many first next c D).1 :=
  keepQ_add (Q := fun _ => True) ⟨fun D p s hp _ hs h => h.write p s (hP p hp) hs, fun D h => h.flush⟩ first next many (fun _ _ _ _ _ => trivial) trivial c D h
end Go.Proofs.YtggpodlecljcbadGreatDoor
namespace Go.Proofs.YtggpodlecljcbadGreatDoor
set_option linter.unusedSimpArgs false
set_option linter.unusedVariables false
open Go.RowKit Go.Sort
def replayZ (deeds : List (List Change)) (base : List Change) : List Change := deeds.foldl (fun r c => c.foldl appX r) base
/-- a store on a disk between two deeds. -/
structure InvZ (many : Nat) (D : DiskS) (S : StS) : Prop where
  len : D.now.length = 26 + many
  m1 : 16 ≤ many
  m2 : many ≤ 34
  log : ∃ deeds base, InvY S.h.first 26 many D deeds S.next ∧ parseL 481 ((halfL D S.h.side).take S.h.size) [] = some base ∧ replayZ deeds base = S.rows
  hd : headOf (D.now.getD (S.h.epoch % 2) ⟨#[]⟩).data.toList = S.h
  other : (headOf (D.now.getD ((S.h.epoch + 1) % 2) ⟨#[]⟩).data.toList).epoch < S.h.epoch
  hok : S.h.ok
  e1 : 1 ≤ S.h.epoch
  f1 : S.h.first ≤ 40 * S.h.epoch
  low : LowAll (S.h.first + many) D
  rises : RisesX S.rows
  good : ∀ c ∈ S.rows, changeFault c = 0 ∧ c.gone = false
  few : S.rows.length ≤ 12
theorem getD_of {l m : List ByteArray} {i : Nat} (h : l[i]? = m[i]?) : l.getD i ⟨#[]⟩ = m.getD i ⟨#[]⟩ := by
  rw [List.getD_eq_getElem?_getD, List.getD_eq_getElem?_getD, h]
theorem cut_of {l m : List ByteArray} (a n : Nat) (h : ∀ i, a ≤ i → i < a + n → l[i]? = m[i]?) : (l.drop a).take n = (m.drop a).take n := by
  refine List.ext_getElem? fun i => ?_
  rw [List.getElem?_take, List.getElem?_take]
  split
  · rw [List.getElem?_drop, List.getElem?_drop]
    exact h (a + i) (by omega) (by omega)
  · rfl
theorem InvZ.parts {many : Nat} {D : DiskS} {S : StS} (h : InvZ many D S) : D.kept = D.now ∧ D.wait = [] ∧ D.down = false ∧ (∀ s ∈ D.now, s.size = 40) ∧ S.next ≤ many := by
  obtain ⟨deeds, base, hy, _, _⟩ := h.log
  exact ⟨hy.kept, hy.wait, hy.up, hy.forty, inv_len hy (by rw [h.len]; omega)⟩
/-- what stands on the disk is what is in memory. -/
theorem InvZ.open {many : Nat} {D : DiskS} {S : StS} (h : InvZ many D S) : openZ D = some S := by
  obtain ⟨deeds, base, hy, hp, hr⟩ := h.log
  have hpick : pickH (D.now.getD 0 ⟨#[]⟩) (D.now.getD 1 ⟨#[]⟩) = S.h := by
    have h1 := h.hd
    have h2 := h.other
    have h3 := h.e1
    unfold pickH
    rcases Nat.mod_two_eq_zero_or_one S.h.epoch with he | he
    · rw [he] at h1
      rw [show (S.h.epoch + 1) % 2 = 1 by omega] at h2
      simp only [h1]
      have ha : (if 0 < S.h.epoch then S.h else zeroH) = S.h := if_pos (by omega)
      rw [ha, if_neg (by omega)]
    · rw [he] at h1
      rw [show (S.h.epoch + 1) % 2 = 0 by omega] at h2
      simp only [h1]
      have hz : zeroH.epoch = 0 := rfl
      rw [if_pos]
      split
      · exact h2
      · rw [hz]; omega
  have he := h.e1
  unfold openZ
  simp only [hpick]
  rw [if_neg (by omega), hp]
  have hl : D.now.length - 26 = many := by rw [h.len]; omega
  simp only [hl, hy.cl]
  show some (⟨S.h, S.next, replayZ deeds base⟩ : StS) = some S
  rw [hr]
/-- a disk that differs where nothing of the store stands. -/
theorem InvZ.near {P : Nat → Prop} {many : Nat} {K D : DiskS} {S : StS} (h : InvZ many K S) (hN : Near P K.now D) (hP : ∀ i, P i → 2 ≤ i ∧ i < 26 ∧ ¬ (2 + S.h.side * 12 ≤ i ∧ i < 2 + S.h.side * 12 + 12)) (hk : D.kept = D.now) (hw : D.wait = []) (hd : D.down = false) : InvZ many D S := by
  obtain ⟨deeds, base, hy, hp, hr⟩ := h.log
  have hsec : sectorsY D 26 many = sectorsY K 26 many := cut_of 26 many fun i h1 h2 => hN.now i (fun hi => by have := hP i hi; omega)
  have hhalf : halfL D S.h.side = halfL K S.h.side := by
    unfold halfL
    rw [cut_of (2 + S.h.side * 12) 12 fun i h1 h2 => hN.now i (fun hi => (hP i hi).2.2 ⟨h1, h2⟩)]
  have hat : ∀ i, i < 2 → D.now.getD i ⟨#[]⟩ = K.now.getD i ⟨#[]⟩ := fun i hi => getD_of (hN.now i (fun h2 => by have := hP i h2; omega))
  refine ⟨hN.nl.trans h.len, h.m1, h.m2, ⟨deeds, base, ⟨hk, hw, by rw [hsec]; exact hy.cl, by rw [hsec]; exact hy.nc, hd, hN.n40⟩, by rw [hhalf]; exact hp, hr⟩, by rw [hat _ (Nat.mod_lt _ (by decide))]; exact h.hd, by rw [hat _ (Nat.mod_lt _ (by decide))]; exact h.other, h.hok, h.e1, h.f1, ?_, h.rises, h.good, h.few⟩
  have hn : ∀ i s, 26 ≤ i → D.now[i]? = some s → lowS (S.h.first + many) s := fun i s h1 h2 => h.low.now i s h1 (by rw [← hN.now i (fun hi => by have := hP i hi; omega)]; exact h2)
  exact ⟨hn, by rw [hk]; exact hn, fun t ht => by rw [hw] at ht; cases ht⟩
/-- the new head. -/
theorem InvZ.head {many : Nat} {K D : DiskS} {S : StS} (h : InvZ many K S) (hE : S.h.epoch ≤ 1000000) (hlaid : (halfL K (1 - S.h.side)).take (allText S.rows).size = (allText S.rows).data.toList) (hn : D.now = K.now.set ((S.h.epoch + 1) % 2) (fullS (headText (nextH S.h many (allText S.rows).size)))) (hk : D.kept = D.now) (hw : D.wait = []) (hd : D.down = false) : InvZ many D ⟨nextH S.h many (allText S.rows).size, 0, S.rows⟩ := by
  obtain ⟨deeds, base, hy, hp, hr⟩ := h.log
  have hts := allText_size S.rows (fun c hc => (h.good c hc).1)
  have hsz : (allText S.rows).size ≤ 480 := by have := h.few; omega
  have hm2 := h.m2
  have hf1 := h.f1
  obtain ⟨k1, k2, k3, k4, k5⟩ := h.hok
  have hok : (nextH S.h many (allText S.rows).size).ok := ⟨by show S.h.epoch + 1 < _; omega, by show 1 - S.h.side ≤ 1; omega, hsz, by show 1 ≤ S.h.first + many; omega, by show S.h.first + many < _; omega⟩
  have hq : (S.h.epoch + 1) % 2 < 2 := Nat.mod_lt _ (by decide)
  have hat : ∀ i, i ≠ (S.h.epoch + 1) % 2 → D.now[i]? = K.now[i]? := fun i hi => by rw [hn, List.getElem?_set_ne (fun e => hi e.symm)]
  have hsec : sectorsY D 26 many = sectorsY K 26 many := cut_of 26 many fun i h1 h2 => hat i (by omega)
  have hhalf : halfL D (1 - S.h.side) = halfL K (1 - S.h.side) := by
    unfold halfL
    rw [cut_of (2 + (1 - S.h.side) * 12) 12 fun i h1 h2 => hat i (by omega)]
  have hl : D.now.length = 26 + many := by rw [hn, List.length_set]; exact h.len
  have hnums : LowNums (S.h.first + many) (sectorsY D 26 many) := by rw [hsec]; exact h.low.nums
  have hsl : (sectorsY D 26 many).length = many := sectorsY_len (by rw [hl]; omega)
  have h40 : ∀ s ∈ D.now, s.size = 40 := fun s hs => by
    rw [hn] at hs
    rcases List.mem_or_eq_of_mem_set hs with hs | rfl
    · exact hy.forty s hs
    · exact fullS_size _ (by rw [headText_size]; omega)
  have hlow : ∀ i s, 26 ≤ i → D.now[i]? = some s → lowS (S.h.first + many) s := fun i s h1 h2 => h.low.now i s h1 (by rw [← hat i (by omega)]; exact h2)
  refine ⟨hl, h.m1, h.m2, ⟨[], S.rows, ⟨hk, hw, ?_, ?_, hd, h40⟩, ?_, rfl⟩, ?_, ?_, hok, by show 1 ≤ S.h.epoch + 1; omega, by show S.h.first + many ≤ 40 * (S.h.epoch + 1); omega, ?_, h.rises, h.good, h.few⟩
  · exact low_closed hnums _ (Nat.le_refl _) (by rw [hsl]; show S.h.first + many + many ≤ _; omega)
  · exact fun j hj _ => Or.inl (hnums _ (List.getElem_mem hj) _ (by show _ ≤ S.h.first + many + j; omega) (by rw [hsl] at hj; show S.h.first + many + j ≤ _; omega))
  · show parseL 481 ((halfL D (1 - S.h.side)).take (allText S.rows).size) [] = some S.rows
    rw [hhalf, hlaid]
    exact parse_back S.rows 481 (by have := h.few; omega) h.rises h.good
  · show headOf (D.now.getD ((S.h.epoch + 1) % 2) ⟨#[]⟩).data.toList = _
    rw [hn, List.getD_eq_getElem?_getD, List.getElem?_set_self (by rw [h.len]; omega)]
    exact head_back _ hok
  · show (headOf (D.now.getD ((S.h.epoch + 1 + 1) % 2) ⟨#[]⟩).data.toList).epoch < S.h.epoch + 1
    rw [getD_of (hat ((S.h.epoch + 1 + 1) % 2) (by omega)), show (S.h.epoch + 1 + 1) % 2 = S.h.epoch % 2 by omega, h.hd]
    omega
  · refine LowAll.mono ?_ (show S.h.first + many ≤ S.h.first + many + many by omega)
    exact ⟨hlow, by rw [hk]; exact hlow, fun t ht => by rw [hw] at ht; cases ht⟩
theorem full_data (s : ByteArray) : (fullS s).data.toList = s.data.toList ++ List.replicate (40 - s.size) 0 := by
  unfold fullS zeros
  simp [ByteArray.append_eq, ByteArray.data_append]
theorem laid_take (t : ByteArray) (R : List UInt8) : ∀ (k i : Nat), t.size ≤ 40 * (i + k) → ((((List.range k).map fun j => fullS (chunkZ t (i + j))).flatMap (fun s => s.data.toList)) ++ R).take (t.size - 40 * i) = t.data.toList.drop (40 * i)
  | 0, i, h => by
    rw [show t.size - 40 * i = 0 by omega, List.take_zero, List.drop_eq_nil_of_le (by rw [data_len]; omega)]
  | k + 1, i, h => by
    have hlen := data_len t
    have hc : (chunkZ t i).data.toList = (t.data.toList.drop (40 * i)).take 40 := by
      unfold chunkZ
      rw [extract_data, List.drop_take]
      congr 1
      omega
    have hcs : (chunkZ t i).size = min 40 (t.size - 40 * i) := by rw [← data_len, hc, List.length_take, List.length_drop, hlen]
    have ih := laid_take t R k (i + 1) (by omega)
    have hmap : (List.range (k + 1)).map (fun j => fullS (chunkZ t (i + j))) = fullS (chunkZ t i) :: (List.range k).map (fun j => fullS (chunkZ t (i + 1 + j))) := by
      rw [List.range_succ_eq_map, List.map_cons, List.map_map]
      simp only [Nat.add_zero, Function.comp_def, Nat.succ_eq_add_one, Nat.add_assoc, Nat.add_comm 1]
    rw [hmap, List.flatMap_cons, full_data, hc, hcs]
    by_cases hs : t.size - 40 * i ≤ 40
    · rw [List.take_of_length_le (l := t.data.toList.drop (40 * i)) (by rw [List.length_drop, hlen]; omega)]
      rw [List.append_assoc, List.append_assoc]
      exact List.take_left' (by rw [List.length_drop, hlen])
    · rw [show min 40 (t.size - 40 * i) = 40 by omega, Nat.sub_self, List.replicate_zero, List.append_nil, List.append_assoc]
      have hl40 : ((t.data.toList.drop (40 * i)).take 40).length = 40 := by rw [List.length_take, List.length_drop, hlen]; omega
      rw [List.take_append, hl40, List.take_of_length_le (by rw [hl40]; omega), show t.size - 40 * i - 40 = t.size - 40 * (i + 1) by omega, ih]
      rw [show 40 * (i + 1) = 40 * i + 40 by omega, ← List.drop_drop]
      exact List.take_append_drop 40 _
theorem half_laid (K D : DiskS) (side : Nat) (t : ByteArray) (hs : side ≤ 1) (hl : 26 ≤ K.now.length) (ht : t.size ≤ 480) (hn : D.now = setsL K.now (2 + side * 12) ((List.range (cntZ t.size)).map fun j => fullS (chunkZ t (0 + j)))) : (halfL D side).take t.size = t.data.toList := by
  have hc : cntZ t.size ≤ 12 := by unfold cntZ; omega
  have hc2 : t.size ≤ 40 * (0 + cntZ t.size) := by unfold cntZ; omega
  obtain ⟨X, hX⟩ : ∃ X, X = (List.range (cntZ t.size)).map fun j => fullS (chunkZ t (0 + j)) := ⟨_, rfl⟩
  have hXl : X.length = cntZ t.size := by rw [hX, List.length_map, List.length_range]
  have h0 := laid_take t (((K.now.drop (2 + side * 12 + X.length)).take (12 - X.length)).flatMap (fun s => s.data.toList)) (cntZ t.size) 0 hc2
  rw [← hX] at hn h0
  rw [setsL_eq X _ _ (by rw [hXl]; omega)] at hn
  unfold halfL
  rw [hn, List.append_assoc, List.drop_left' (by rw [List.length_take]; omega), List.take_append, List.take_of_length_le (l := X) (by rw [hXl]; exact hc), List.flatMap_append]
  simpa using h0
/-- I3, I4: all rows are laid as a whole, or the disk falls. -/
theorem check_cases {many : Nat} {D : DiskS} {S : StS} (hI : InvZ many D S) (hE : S.h.epoch ≤ 1000000) :
    (∃ E, checkD many S.h S.rows D = (E, 0) ∧ InvZ many E ⟨nextH S.h many (allText S.rows).size, 0, S.rows⟩) ∨
    (∃ E, checkD many S.h S.rows D = (E, 8) ∧ E.down = true ∧ ∀ keep, InvZ many (restartD E keep) S ∨ InvZ many (restartD E keep) ⟨nextH S.h many (allText S.rows).size, 0, S.rows⟩) := by
  obtain ⟨q1, q2, q3, q4, _⟩ := hI.parts
  have hts := allText_size S.rows (fun c hc => (hI.good c hc).1)
  have hsz : (allText S.rows).size ≤ 480 := by have := hI.few; omega
  have hside : S.h.side ≤ 1 := hI.hok.2.1
  have hlen := hI.len
  have hc : cntZ (allText S.rows).size ≤ 12 := by unfold cntZ; omega
  obtain ⟨P, hPd⟩ : ∃ P : Nat → Prop, P = fun i => 2 + (1 - S.h.side) * 12 ≤ i ∧ i < 2 + (1 - S.h.side) * 12 + 12 := ⟨_, rfl⟩
  have hP : ∀ i, P i → 2 ≤ i ∧ i < 26 ∧ ¬ (2 + S.h.side * 12 ≤ i ∧ i < 2 + S.h.side * 12 + 12) := fun i hi => by
    have hi : 2 + (1 - S.h.side) * 12 ≤ i ∧ i < 2 + (1 - S.h.side) * 12 + 12 := by rw [hPd] at hi; exact hi
    have : S.h.side = 0 ∨ S.h.side = 1 := by omega
    rcases this with e | e <;> rw [e] at hi ⊢ <;> omega
  have hN0 : Near P D.now D := ⟨by rw [q1], rfl, fun i _ => by rw [q1], fun i _ => rfl, fun t ht => (by rw [q2] at ht; cases ht), by rw [q1]; exact q4, q4⟩
  have hrest : ∀ E, Near P D.now E → ∀ keep, InvZ many (restartD E keep) S := fun E hE keep => hI.near (hE.restart keep) hP rfl rfl rfl
  unfold checkD
  rcases chunks_cases P D.now (2 + (1 - S.h.side) * 12) (allText S.rows) (cntZ (allText S.rows).size) 0 D q3 hN0 (fun j hj => by rw [hPd]; dsimp only; omega) (by omega) with ⟨E, e1, e2, e3⟩ | ⟨E, e1, e2, e3, e4⟩
  · right
    refine ⟨E, ?_, e2, fun keep => Or.inl (hrest E e3 keep)⟩
    rw [e1, thenD_bad (p := (E, 8)) (by simp), thenD_bad (p := (E, 8)) (by simp), thenD_bad (p := (E, 8)) (by simp)]
  · rw [e1, thenD_good (p := (E, 0)) rfl]
    rcases flush_cases e2 with ⟨F, f1, f2, f3, f4, f5⟩ | ⟨F, f1, f2, f3, f4, f5⟩
    · right
      refine ⟨F, ?_, f2, fun keep => Or.inl (hrest F (e3.same f3 f4 f5) keep)⟩
      show thenD (thenD (flushD E) _) flushD = _
      rw [f1, thenD_bad (p := (F, 8)) (by simp), thenD_bad (p := (F, 8)) (by simp)]
    · have hFN : Near P D.now F := e3.flushed f3 f4 f5
      have hF : InvZ many F S := hI.near hFN hP (f3.trans f4.symm) f5 f2
      have hFl : F.now.length = 26 + many := hF.len
      have hlaid : (halfL F (1 - S.h.side)).take (allText S.rows).size = (allText S.rows).data.toList := half_laid D F (1 - S.h.side) (allText S.rows) (by omega) (by omega) hsz (f4.trans e4)
      have hfk : F.kept = F.now := f3.trans f4.symm
      have hFF : ∀ G : DiskS, G.now = F.now → G.kept = F.kept → G.wait = [] → ∀ keep, InvZ many (restartD G keep) S := fun G g1 g2 g3 keep =>
        hrest G ⟨by rw [g2]; exact hFN.kl, by rw [g1]; exact hFN.nl, by rw [g2]; exact hFN.kept, by rw [g1]; exact hFN.now, fun t ht => (by rw [g3] at ht; cases ht), by rw [g2]; exact hFN.k40, by rw [g1]; exact hFN.n40⟩ keep
      show (∃ E', thenD (thenD (flushD E) _) flushD = (E', 0) ∧ _) ∨ (∃ E', thenD (thenD (flushD E) _) flushD = (E', 8) ∧ _)
      rw [f1, thenD_good (p := (F, 0)) rfl]
      rcases write_cases f2 ((S.h.epoch + 1) % 2) (headText (nextH S.h many (allText S.rows).size)) (by rw [hFl]; omega) (by rw [headText_size]; omega) with ⟨G, g1, g2, g3, g4, g5⟩ | ⟨G, g1, g2, g3, g4, g5⟩
      · right
        refine ⟨G, ?_, g2, fun keep => Or.inl (hFF G g4 g3 (g5.trans f5) keep)⟩
        show thenD (writeD F _ _) flushD = _
        rw [g1, thenD_bad (p := (G, 8)) (by simp)]
      · show (∃ E', thenD (writeD F _ _) flushD = (E', 0) ∧ _) ∨ (∃ E', thenD (writeD F _ _) flushD = (E', 8) ∧ _)
        rw [g1, thenD_good (p := (G, 0)) rfl]
        rcases flush_cases g2 with ⟨H, h1, h2, h3, h4, h5⟩ | ⟨H, h1, h2, h3, h4, h5⟩
        · right
          refine ⟨H, h1, h2, fun keep => ?_⟩
          have hw : H.wait = [⟨(S.h.epoch + 1) % 2, fullS (headText (nextH S.h many (allText S.rows).size))⟩] := by rw [h5, g5, f5]; rfl
          have hk2 : H.kept = F.now := h3.trans (g3.trans hfk)
          have hr : (restartD H keep).now = if keepBit keep 0 then F.now.set ((S.h.epoch + 1) % 2) (fullS (headText (nextH S.h many (allText S.rows).size))) else F.now := by
            show keepTo' keep H.wait H.wait.length H.kept = _
            rw [hw, hk2]
            show keepTo' keep [_] 1 F.now = _
            rw [keepTo_next keep _ 0 F.now (by simp), keepTo_zero]
            rfl
          cases hb : keepBit keep 0
          · left
            rw [hb] at hr
            have hr2 : (restartD H keep).now = F.now := by simpa using hr
            exact hF.near (P := P) ⟨by show (restartD H keep).now.length = _; rw [hr2], by rw [hr2], fun i _ => by show (restartD H keep).now[i]? = _; rw [hr2], fun i _ => by rw [hr2], fun t ht => by simp [restartD] at ht, by show ∀ s ∈ (restartD H keep).now, _; rw [hr2]; exact hFN.n40, by rw [hr2]; exact hFN.n40⟩ hP rfl rfl rfl
          · right
            rw [hb] at hr
            have hr2 : (restartD H keep).now = F.now.set ((S.h.epoch + 1) % 2) (fullS (headText (nextH S.h many (allText S.rows).size))) := by simpa using hr
            exact hF.head hE hlaid hr2 rfl rfl rfl
        · left
          exact ⟨H, h1, hF.head hE hlaid (h4.trans g4) (h3.trans h4.symm) h5 h2⟩
end Go.Proofs.YtggpodlecljcbadGreatDoor
namespace Go.Proofs.YtggpodlecljcbadGreatDoor
set_option linter.unusedSimpArgs false
set_option linter.unusedVariables false
open Go.RowKit Go.Sort
theorem app_mem {l : List Change} {c x : Change} (h : x ∈ appX l c) : x ∈ l ∨ (x = c ∧ c.gone = false) := by
  unfold appX at h
  cases hg : c.gone
  · simp only [hg] at h
    split at h
    · simp only [Bool.false_eq_true, if_false, List.mem_append, List.mem_cons] at h
      rcases h with h | h | h
      · exact Or.inl (List.mem_of_mem_take h)
      · exact Or.inr ⟨h, rfl⟩
      · exact Or.inl (List.mem_of_mem_drop h)
    · simp only [Bool.false_eq_true, if_false, List.mem_append, List.mem_cons] at h
      rcases h with h | h | h
      · exact Or.inl (List.mem_of_mem_take h)
      · exact Or.inr ⟨h, rfl⟩
      · exact Or.inl (List.mem_of_mem_drop h)
  · simp only [hg, if_true] at h
    split at h
    · rcases List.mem_append.1 h with h | h
      · exact Or.inl (List.mem_of_mem_take h)
      · exact Or.inl (List.mem_of_mem_drop h)
    · exact Or.inl h
theorem fold_mem : ∀ (c l : List Change) (x : Change), x ∈ c.foldl appX l → x ∈ l ∨ (x ∈ c ∧ x.gone = false)
  | [], _, _, h => Or.inl h
  | y :: r, l, x, h => by
    rcases fold_mem r (appX l y) x h with h | h
    · rcases app_mem h with h | ⟨rfl, h⟩
      · exact Or.inl h
      · exact Or.inr ⟨List.mem_cons_self .., h⟩
    · exact Or.inr ⟨List.mem_cons_of_mem _ h.1, h.2⟩
theorem apps_fold (l c : List Change) : appsTo l c c.length = c.foldl appX l := by unfold appsTo; rw [List.take_length]
theorem apps_good {l c : List Change} (hl : ∀ x ∈ l, changeFault x = 0 ∧ x.gone = false) (hc : ∀ x ∈ c, changeFault x = 0) : ∀ x ∈ appsTo l c c.length, changeFault x = 0 ∧ x.gone = false := fun x hx => by
  rw [apps_fold] at hx
  rcases fold_mem c l x hx with h | h
  · exact hl x h
  · exact ⟨hc x h.1, h.2⟩
theorem replay_add (deeds : List (List Change)) (c base : List Change) : replayZ (deeds ++ [c]) base = appsTo (replayZ deeds base) c c.length := by
  unfold replayZ
  rw [List.foldl_append, apps_fold]; rfl
/-- a disk that differs in the log alone. -/
theorem InvZ.logged {many : Nat} {K D : DiskS} {S : StS} (h : InvZ many K S) (hN : Near (fun i => 26 ≤ i) K.now D) (hL : LowAll (S.h.first + many) D) {deeds : List (List Change)} {base rows : List Change} {next : Nat} (hy : InvY S.h.first 26 many D deeds next)
    (hp : parseL 481 ((halfL K S.h.side).take S.h.size) [] = some base) (hr : replayZ deeds base = rows) (h1 : RisesX rows) (h2 : ∀ c ∈ rows, changeFault c = 0 ∧ c.gone = false) (h3 : rows.length ≤ 12) : InvZ many D ⟨S.h, next, rows⟩ := by
  have hside : S.h.side ≤ 1 := h.hok.2.1
  have hhalf : halfL D S.h.side = halfL K S.h.side := by
    unfold halfL
    rw [cut_of (2 + S.h.side * 12) 12 fun i g1 g2 => hN.now i (by omega)]
  have hat : ∀ i, i < 2 → D.now.getD i ⟨#[]⟩ = K.now.getD i ⟨#[]⟩ := fun i hi => getD_of (hN.now i (by omega))
  exact ⟨hN.nl.trans h.len, h.m1, h.m2, ⟨deeds, base, hy, by rw [hhalf]; exact hp, hr⟩, by rw [hat _ (Nat.mod_lt _ (by decide))]; exact h.hd, by rw [hat _ (Nat.mod_lt _ (by decide))]; exact h.other, h.hok, h.e1, h.f1, hL, h1, h2, h3⟩
theorem InvZ.self {many : Nat} {D : DiskS} {S : StS} (h : InvZ many D S) (P : Nat → Prop) : Near P D.now D := by
  obtain ⟨q1, q2, q3, q4, _⟩ := h.parts
  exact ⟨by rw [q1], rfl, fun i _ => by rw [q1], fun i _ => rfl, fun t ht => (by rw [q2] at ht; cases ht), by rw [q1]; exact q4, q4⟩
/-- I2, I4: a deed that there is room for. -/
theorem addZ_cases {many : Nat} {D : DiskS} {S : StS} (c : List Change) (hI : InvZ many D S) (hE : S.h.epoch ≤ 1000001) (hf : addFault many S.next c = 0) (hfew : (appsTo S.rows c c.length).length ≤ 12) :
    (∃ E, addY 26 many S.h.first S.next c D = (E, 0) ∧ InvZ many E ⟨S.h, S.next + c.length + 1, appsTo S.rows c c.length⟩) ∨
    (∃ E, addY 26 many S.h.first S.next c D = (E, 8) ∧ E.down = true ∧ ∀ keep, InvZ many (restartD E keep) S ∨ InvZ many (restartD E keep) ⟨S.h, S.next + c.length + 1, appsTo S.rows c c.length⟩) := by
  obtain ⟨deeds, base, hy, hp, hr⟩ := hI.log
  obtain ⟨g1, g2, g3⟩ := addFault_none hf
  have hm2 := hI.m2
  have hf1 := hI.f1
  have hf0 : 1 ≤ S.h.first := hI.hok.2.2.2.1
  have hb2 : S.h.first + many ≤ 2000000000 := by omega
  have hl : 26 + many ≤ D.now.length := by rw [hI.len]; omega
  have hrises := (appsTo_rises c hI.rises c.length (Nat.le_refl _)).1
  have hgood := apps_good hI.good g3
  have hN := near_add (P := fun i => 26 ≤ i) (fun _ h => h) S.h.first S.next many c D (hI.self _)
  have hL := low_add S.h.first S.next many (Nat.le_refl _) hb2 (by omega) c D hI.low
  have hrep : replayZ (deeds ++ [c]) base = appsTo S.rows c c.length := by rw [replay_add, hr]
  rcases add_cases c hy hl hf0 hb2 with ⟨h, _⟩ | ⟨E, _, h2, h3, h4⟩ | ⟨E, _, h2, h3, h4⟩
  · exact absurd hf h
  · rw [h2] at hN hL
    exact Or.inl ⟨E, h2, hI.logged hN hL h3 hp hrep hrises hgood hfew⟩
  · rw [h2] at hN hL
    refine Or.inr ⟨E, h2, h3, fun keep => ?_⟩
    rcases h4 keep with h5 | h5
    · exact Or.inl (hI.logged (hN.restart keep) (hL.restart keep) h5 hp hr hI.rises hI.good hI.few)
    · exact Or.inr (hI.logged (hN.restart keep) (hL.restart keep) h5 hp hrep hrises hgood hfew)
theorem commit_none {many : Nat} {rows c : List Change} (h : commitFault many rows c = 0) : c.length ≤ 14 ∧ faultsY c = 0 ∧ (appsTo rows c c.length).length ≤ 12 ∧ c.length + 1 ≤ many := by
  unfold commitFault at h
  split at h
  · cases h
  · split at h
    · rename_i h1 h2; exact absurd h h2
    · rename_i h1 h2
      split at h
      · cases h
      · rename_i h3
        exact ⟨by omega, by simpa using h2, by omega, by omega⟩
theorem check_next {many : Nat} {E : DiskS} {h : Hd} {rows : List Change} (hI : InvZ many E ⟨h, 0, rows⟩) : (closedY h.first (sectorsY E 26 many) 0 [] [] 0).2 = 0 := by
  obtain ⟨deeds, base, hy, _⟩ := hI.log
  rw [hy.cl]
/-- what is there behind a checkpoint, or behind a fall in it. -/
theorem checkZ_cases {many : Nat} {D : DiskS} {S : StS} (hI : InvZ many D S) (hE : S.h.epoch ≤ 1000000) :
    (∃ E S', checkZ many S D = (E, S', 0) ∧ InvZ many E S' ∧ S'.rows = S.rows ∧ S'.next = 0 ∧ S'.h.epoch = S.h.epoch + 1) ∨
    (∃ E, checkZ many S D = (E, S, 8) ∧ E.down = true ∧ ∀ keep, ∃ S1, InvZ many (restartD E keep) S1 ∧ S1.rows = S.rows ∧ S1.h.epoch ≤ S.h.epoch + 1) := by
  rcases check_cases hI hE with ⟨E, h1, h2⟩ | ⟨E, h1, h2, h3⟩
  · refine Or.inl ⟨E, ⟨nextH S.h many (allText S.rows).size, 0, S.rows⟩, ?_, h2, rfl, rfl, rfl⟩
    unfold checkZ
    simp only [h1]
    rw [if_neg (by simp), check_next h2]
  · refine Or.inr ⟨E, ?_, h2, fun keep => ?_⟩
    · unfold checkZ
      simp only [h1]
      rw [if_pos (by simp)]
    · rcases h3 keep with h | h
      · exact ⟨S, h, rfl, by omega⟩
      · exact ⟨_, h, rfl, Nat.le_refl _⟩
/-- I2, I4: a deed is there whole, or not at all. -/
theorem commit_cases {many : Nat} {D : DiskS} {S : StS} (c : List Change) (hI : InvZ many D S) (hE : S.h.epoch ≤ 1000000) :
    (commitFault many S.rows c ≠ 0 ∧ commitZ many S c D = (D, S, commitFault many S.rows c)) ∨
    (commitFault many S.rows c = 0 ∧ ∃ E S', commitZ many S c D = (E, S', 0) ∧ InvZ many E S' ∧ S'.rows = appsTo S.rows c c.length ∧ S'.h.epoch ≤ S.h.epoch + 1 ∧ S'.next = (if many < S.next + c.length + 1 then 0 else S.next) + c.length + 1) ∨
    (commitFault many S.rows c = 0 ∧ ∃ E S', commitZ many S c D = (E, S', 8) ∧ E.down = true ∧ ∀ keep, ∃ S1, InvZ many (restartD E keep) S1 ∧ (S1.rows = S.rows ∨ S1.rows = appsTo S.rows c c.length) ∧ S1.h.epoch ≤ S.h.epoch + 1) := by
  by_cases h0 : commitFault many S.rows c = 0
  rotate_left
  · left; exact ⟨h0, by unfold commitZ; rw [if_pos h0]⟩
  right
  obtain ⟨c1, c2, c3, c4⟩ := commit_none h0
  have hz : commitZ many S c D = (if (roomZ many S c.length D).2.2 ≠ 0 then roomZ many S c.length D else putZ many c (appsTo S.rows c c.length) (roomZ many S c.length D)) := by
    unfold commitZ; rw [if_neg (by simp [h0])]
  have hput : ∀ (D1 : DiskS) (S1 : StS), InvZ many D1 S1 → S1.rows = S.rows → S1.h.epoch ≤ S.h.epoch + 1 → S1.next + c.length + 1 ≤ many →
      (∃ E S', putZ many c (appsTo S.rows c c.length) (D1, S1, 0) = (E, S', 0) ∧ InvZ many E S' ∧ S'.rows = appsTo S.rows c c.length ∧ S'.h.epoch ≤ S.h.epoch + 1 ∧ S'.next = S1.next + c.length + 1) ∨
      (∃ E S', putZ many c (appsTo S.rows c c.length) (D1, S1, 0) = (E, S', 8) ∧ E.down = true ∧ ∀ keep, ∃ S2, InvZ many (restartD E keep) S2 ∧ (S2.rows = S.rows ∨ S2.rows = appsTo S.rows c c.length) ∧ S2.h.epoch ≤ S.h.epoch + 1) := fun D1 S1 g1 g2 g3 g4 => by
    have hf : addFault many S1.next c = 0 := by unfold addFault; rw [if_neg (by omega), if_neg (by omega)]; exact c2
    unfold putZ
    rcases addZ_cases c g1 (by omega) hf (by rw [g2]; exact c3) with ⟨E, e1, e2⟩ | ⟨E, e1, e2, e3⟩
    · left
      rw [g2] at e2
      exact ⟨E, _, by simp only [e1]; rw [if_pos trivial], e2, rfl, g3, rfl⟩
    · right
      rw [g2] at e3
      refine ⟨E, S1, by simp only [e1]; rw [if_neg (by simp)], e2, fun keep => ?_⟩
      rcases e3 keep with h | h
      · exact ⟨_, h, Or.inl g2, g3⟩
      · exact ⟨_, h, Or.inr rfl, g3⟩
  rw [hz]
  by_cases hr : many < S.next + c.length + 1
  · have hroom : roomZ many S c.length D = checkZ many S D := by unfold roomZ; rw [if_pos hr]
    rw [hroom]
    rcases checkZ_cases hI hE with ⟨E, S', e1, e2, e3, e4, e5⟩ | ⟨E, e1, e2, e3⟩
    · rw [e1, if_neg (by simp)]
      rcases hput E S' e2 e3 (by omega) (by omega) with h | h
      · left
        refine ⟨h0, ?_⟩
        obtain ⟨F, S2, f1, f2, f3, f4, f5⟩ := h
        exact ⟨F, S2, f1, f2, f3, f4, by rw [f5, e4, if_pos hr]⟩
      · right
        exact ⟨h0, h⟩
    · rw [e1, if_pos (by simp)]
      right
      refine ⟨h0, E, S, rfl, e2, fun keep => ?_⟩
      obtain ⟨S1, k1, k2, k3⟩ := e3 keep
      exact ⟨S1, k1, Or.inl k2, k3⟩
  · have hroom : roomZ many S c.length D = (D, S, 0) := by unfold roomZ; rw [if_neg hr]
    rw [hroom, if_neg (by simp)]
    rcases hput D S hI rfl (by omega) (by omega) with h | h
    · left
      refine ⟨h0, ?_⟩
      obtain ⟨F, S2, f1, f2, f3, f4, f5⟩ := h
      exact ⟨F, S2, f1, f2, f3, f4, by rw [f5, if_neg hr]⟩
    · right
      exact ⟨h0, h⟩
/-- a disk that goes on for ever does not fall. -/
theorem calm_write (D : DiskS) (h : Calm D) (p : Int) (s : ByteArray) : Calm (writeD D p s).1 ∧ (writeD D p s).2 ≠ 8 := by
  unfold writeD
  split
  · exact ⟨h, by simp⟩
  · rw [h.step]
    simp only [ne_eq, not_true_eq_false, if_false]
    exact ⟨⟨h.1, h.2⟩, by simp⟩
theorem calm_flush (D : DiskS) (h : Calm D) : Calm (flushD D).1 ∧ (flushD D).2 ≠ 8 := by
  rw [h.flush]
  exact ⟨⟨h.1, h.2⟩, by simp⟩
theorem keptY_calm : KeptY Calm := ⟨fun D p s h => (calm_write D h p s).1, fun D h => (calm_flush D h).1⟩
theorem keep_chunks {I : DiskS → Prop} (hI : KeptY I) (p : Nat) (t : ByteArray) : ∀ (k i : Nat) (D : DiskS), I D → I (chunksD p t i k D).1
  | 0, _, _, h => h
  | k + 1, i, D, h => by
    unfold chunksD
    exact keep_then (hI.write _ _ _ h) (fun E hE => keep_chunks hI p t k (i + 1) E hE)
theorem keep_check {I : DiskS → Prop} (hI : KeptY I) (many : Nat) (h : Hd) (rows : List Change) (D : DiskS) (hD : I D) : I (checkD many h rows D).1 := by
  unfold checkD
  exact keep_then (keep_then (keep_then (keep_chunks hI _ _ _ _ _ hD) hI.flush) (fun E hE => hI.write _ _ _ hE)) hI.flush
theorem keep_checkZ {I : DiskS → Prop} (hI : KeptY I) (many : Nat) (S : StS) (D : DiskS) (hD : I D) : I (checkZ many S D).1 := by
  have := keep_check hI many S.h S.rows D hD
  unfold checkZ
  simp only []
  split
  · exact this
  · exact this
theorem keep_commit {I : DiskS → Prop} (hI : KeptY I) (many : Nat) (S : StS) (c : List Change) (D : DiskS) (hD : I D) : I (commitZ many S c D).1 := by
  have hr : I (roomZ many S c.length D).1 := by
    unfold roomZ
    split
    · exact keep_checkZ hI many S D hD
    · exact hD
  unfold commitZ
  split
  · exact hD
  · simp only []
    split
    · exact hr
    · have := keep_add hI 26 many (roomZ many S c.length D).2.1.h.first (roomZ many S c.length D).2.1.next c _ hr
      unfold putZ
      simp only []
      split
      · exact this
      · exact this
/-- a calm store's disk does not fall. -/
theorem Calm.up {D : DiskS} (h : Calm D) : D.down = false := h.1
end Go.Proofs.YtggpodlecljcbadGreatDoor
namespace Go.Proofs.YtggpodlecljcbadGreatDoor
set_option linter.unusedSimpArgs false
set_option linter.unusedVariables false
open Go.RowKit Go.Sort
def massY (ds : List (List Change)) : Nat := (ds.map (fun c => c.length + 1)).sum
theorem massY_push (ds : List (List Change)) (c : List Change) : massY (ds ++ [c]) = massY ds + c.length + 1 := by
  unfold massY
  rw [List.map_append, List.sum_append]
  simp
  omega
theorem closed_mass (first : Nat) : ∀ (l : List ByteArray) (i : Nat) (o : List (List Change)) (d : List Change) (u : Nat), massY o + d.length ≤ i → massY (closedY first l i o d u).1 ≤ i + l.length
  | [], i, o, d, u, h => by show massY o ≤ _; omega
  | s :: r, i, o, d, u, h => by
    unfold closedY
    have hs : ∀ o' d' u', stepY first i s o d u = some (o', d', u') → massY o' + d'.length ≤ i + 1 := fun o' d' u' hh => by
      unfold stepY at hh
      split at hh
      · cases hh
      · split at hh
        · split at hh
          · simp only [Option.some.injEq, Prod.mk.injEq] at hh
            obtain ⟨h1, h2, _⟩ := hh
            rw [← h1, ← h2, massY_push]
            simp
            omega
          · cases hh
        · split at hh
          · cases hh
          · simp only [Option.some.injEq, Prod.mk.injEq] at hh
            obtain ⟨h1, h2, _⟩ := hh
            rw [← h1, ← h2, List.length_append]
            simp
            omega
    split
    · show massY o ≤ _; simp only [List.length_cons]; omega
    · rename_i o' d' u' he
      have := closed_mass first r (i + 1) o' d' u' (hs _ _ _ he)
      simp only [List.length_cons]
      omega
theorem mass_take (ds : List (List Change)) (k : Nat) (h : k < ds.length) : massY (ds.take (k + 1)) = massY (ds.take k) + ds[k].length + 1 := by
  rw [List.take_succ_eq_append_getElem h, massY_push]
theorem mass_take_le (ds : List (List Change)) (k : Nat) : massY (ds.take k) ≤ massY ds := by
  unfold massY
  have : ds.map (fun c => c.length + 1) = (ds.take k).map (fun c => c.length + 1) ++ (ds.drop k).map (fun c => c.length + 1) := by rw [← List.map_append, List.take_append_drop]
  rw [this, List.sum_append]
  omega
theorem headOf_first (l : List UInt8) (h : (headOf l).epoch ≠ 0) : 1 ≤ (headOf l).first := by
  unfold headOf at h ⊢
  split at h
  · unfold headIs at h ⊢
    split at h
    · exact absurd rfl h
    · rename_i hn
      simp only [not_or, Nat.not_lt] at hn
      rw [if_neg (by simp only [not_or, Nat.not_lt]; exact hn)]
      exact hn.2.2.2
  · exact absurd rfl h
/-- the best head of the first k sectors. -/
def pickTo (D : DiskS) : Nat → Hd
  | 0 => zeroH
  | k + 1 => if (pickTo D k).epoch < (headOf (D.now.getD k ⟨#[]⟩).data.toList).epoch then headOf (D.now.getD k ⟨#[]⟩).data.toList else pickTo D k
theorem pickTo_two (D : DiskS) : pickTo D 2 = pickH (D.now.getD 0 ⟨#[]⟩) (D.now.getD 1 ⟨#[]⟩) := rfl
theorem pickTo_low (D : DiskS) : ∀ k, (pickTo D k).side ≤ 1 ∧ (pickTo D k).size ≤ 480 ∧ (pickTo D k).epoch < 4294967296 ∧ (pickTo D k).first < 4294967296 ∧ ((pickTo D k).epoch ≠ 0 → 1 ≤ (pickTo D k).first)
  | 0 => by simp [pickTo, zeroH]
  | k + 1 => by
    unfold pickTo
    split
    · obtain ⟨h1, h2, h3, h4⟩ := headOf_low (D.now.getD k ⟨#[]⟩).data.toList
      exact ⟨h1, h2, h3, h4, headOf_first _⟩
    · exact pickTo_low D k
/-- the first k sectors of a half, as a text. -/
def halfTo (D : DiskS) (side : Nat) (k : Nat) : List UInt8 := ((D.now.drop (2 + side * 12)).take k).flatMap (fun s => s.data.toList)
theorem halfTo_next (D : DiskS) (side k : Nat) (h : 2 + side * 12 + k < D.now.length) : halfTo D side (k + 1) = halfTo D side k ++ D.now[2 + side * 12 + k].data.toList := by
  unfold halfTo
  rw [List.take_succ_eq_append_getElem (by rw [List.length_drop]; omega), List.flatMap_append, List.getElem_drop]
  simp
theorem halfTo_len (D : DiskS) (side : Nat) (h40 : ∀ s ∈ D.now, s.size = 40) : ∀ k, 2 + side * 12 + k ≤ D.now.length → (halfTo D side k).length = 40 * k
  | 0, _ => by simp [halfTo]
  | k + 1, h => by
    rw [halfTo_next D side k (by omega), List.length_append, halfTo_len D side h40 k (by omega), data_len, h40 _ (List.getElem_mem _)]
    omega
end Go.Proofs.YtggpodlecljcbadGreatDoor
namespace Go.Proofs.YtggpodlecljcbadGreatDoor
set_option linter.unusedSimpArgs false
set_option linter.unusedVariables false
open Go.RowKit Go.Sort
theorem head_text_40 (h : Hd) : (fullS (headText h)).size = 40 := fullS_size _ (by rw [headText_size]; omega)
/-- I1: a formatted disk is an empty store's. -/
theorem format_inv (D : DiskS) (h : Calm D) (h40 : ∀ s ∈ D.now, s.size = 40) (hn : 42 ≤ D.now.length) (h60 : D.now.length ≤ 60) : ∃ E, formatD D = (E, 0) ∧ Calm E ∧ InvZ (D.now.length - 26) E ⟨firstH, 0, []⟩ := by
  obtain ⟨E, e1, e2, e3, e4, e5⟩ := calm_format D h hn
  obtain ⟨A, hA, hE⟩ := format_now D.now hn
  have h40E : ∀ s ∈ E.now, s.size = 40 := fun s hs => by
    rw [e5] at hs
    rcases List.mem_or_eq_of_mem_set hs with hs | rfl
    · have hs2 := hs
      rw [setsL_eq _ _ _ (by simp; omega)] at hs2
      rcases List.mem_append.1 hs2 with hs2 | hs2
      · rcases List.mem_append.1 hs2 with hs2 | hs2
        · rcases List.mem_or_eq_of_mem_set (List.mem_of_mem_take hs2) with hs3 | rfl
          · exact h40 s hs3
          · decide
        · rw [List.eq_of_mem_replicate hs2]; decide
      · rcases List.mem_or_eq_of_mem_set (List.mem_of_mem_drop hs2) with hs3 | rfl
        · exact h40 s hs3
        · decide
    · exact head_text_40 _
  rw [show (⟨1, 0, 0, 1⟩ : Hd) = firstH from rfl, hE] at e5
  have hl : E.now.length = D.now.length := by rw [e5]; simp [hA]; omega
  have hd26 : E.now.drop 26 = List.replicate (D.now.length - 26) (zeros 40) := by
    rw [e5]
    show (A ++ List.replicate (D.now.length - 26) (zeros 40)).drop 24 = _
    rw [← hA]; exact List.drop_left
  have hsec : sectorsY E 26 (D.now.length - 26) = List.replicate (D.now.length - 26) (zeros 40) := by
    unfold sectorsY
    rw [hd26]
    exact List.take_of_length_le (by simp)
  have hcl : closedY 1 (sectorsY E 26 (D.now.length - 26)) 0 [] [] 0 = ([], 0) := by
    rw [hsec, show D.now.length - 26 = (D.now.length - 27) + 1 by omega, List.replicate_succ]
    exact run_stop 1 0 _ [] [] 0 (Or.inr ⟨_, rfl⟩) (Nat.le_refl _) (by omega)
  have hnc : NoClose 1 (sectorsY E 26 (D.now.length - 26)) 0 := fun j hj _ => by
    have : (sectorsY E 26 (D.now.length - 26))[j] = zeros 40 := by
      have hm : ∀ x ∈ sectorsY E 26 (D.now.length - 26), x = zeros 40 := fun x hx => by rw [hsec] at hx; exact List.eq_of_mem_replicate hx
      exact hm _ (List.getElem_mem hj)
    rw [this]
    have : j < 60 := by rw [hsec, List.length_replicate] at hj; omega
    exact notClose_zero _ (by omega) (by omega)
  have hlow : ∀ i s, 26 ≤ i → E.now[i]? = some s → lowS (1 + (D.now.length - 26)) s := fun i s hi hs => by
    have h1 : (E.now.drop 26)[i - 26]? = some s := by rw [List.getElem?_drop, show 26 + (i - 26) = i by omega]; exact hs
    rw [hd26] at h1
    have h2 := List.mem_of_getElem? h1
    rw [List.eq_of_mem_replicate h2]
    exact lowS_zero _ (by omega)
  refine ⟨E, e1, e2, by omega, by omega, by omega, ⟨[], [], ⟨e3, e4, hcl, hnc, e2.up, h40E⟩, ?_, rfl⟩, ?_, ?_, firstH_ok, Nat.le_refl _, by show 1 ≤ 40 * 1; omega, ⟨hlow, by rw [e3]; exact hlow, fun t ht => by rw [e4] at ht; cases ht⟩, ?_, fun c hc => (by cases hc), Nat.zero_le _⟩
  · show parseL 481 ((halfL E 0).take 0) [] = some []
    rw [List.take_zero]; rfl
  · have g1 : E.now.getD 1 ⟨#[]⟩ = fullS (headText firstH) := by rw [e5]; rfl
    show headOf (E.now.getD 1 ⟨#[]⟩).data.toList = firstH
    rw [g1]
    exact head_back firstH firstH_ok
  · have g0 : E.now.getD 0 ⟨#[]⟩ = zeros 40 := by rw [e5]; rfl
    show (headOf (E.now.getD 0 ⟨#[]⟩).data.toList).epoch < 1
    rw [g0, head_zeros]
    decide
  · show RisesX []
    exact List.Pairwise.nil
theorem keep_blanks {I : DiskS → Prop} (hI : KeptY I) : ∀ (k i : Nat) (D : DiskS), I D → I (blanksD i k D).1
  | 0, _, _, h => h
  | k + 1, i, D, h => by
    unfold blanksD
    exact keep_then (hI.write _ _ _ h) (fun E hE => keep_blanks hI k (i + 1) E hE)
theorem keep_format {I : DiskS → Prop} (hI : KeptY I) (D : DiskS) (h : I D) : I (formatD D).1 := by
  unfold formatD
  split
  · exact h
  · exact keep_then (keep_then (keep_then (keep_then (hI.write _ _ _ h) (fun E hE => keep_blanks hI _ _ E hE)) hI.flush) (fun E hE => hI.write _ _ _ hE)) hI.flush
theorem calm_commitZ {many : Nat} {D : DiskS} {S : StS} (c : List Change) (hI : InvZ many D S) (hC : Calm D) (hE : S.h.epoch ≤ 1000000) :
    (commitFault many S.rows c ≠ 0 ∧ commitZ many S c D = (D, S, commitFault many S.rows c)) ∨
    (commitFault many S.rows c = 0 ∧ ∃ E S', commitZ many S c D = (E, S', 0) ∧ InvZ many E S' ∧ Calm E ∧ S'.rows = appsTo S.rows c c.length ∧ S'.h.epoch ≤ S.h.epoch + 1 ∧ S'.next = (if many < S.next + c.length + 1 then 0 else S.next) + c.length + 1) := by
  have hk := keep_commit keptY_calm many S c D hC
  rcases commit_cases c hI hE with h | ⟨h0, E, S', h1, h2, h3, h4, h5⟩ | ⟨h0, E, S', h1, h2, _⟩
  · exact Or.inl h
  · rw [h1] at hk
    exact Or.inr ⟨h0, E, S', h1, h2, hk, h3, h4, h5⟩
  · rw [h1] at hk
    have := hk.up
    dsimp only at this
    rw [h2] at this
    cases this
end Go.Proofs.YtggpodlecljcbadGreatDoor
namespace Go.Proofs.YtggpodlecljcbadGreatDoor
set_option linter.unusedSimpArgs false
set_option linter.unusedVariables false
open Go.RowKit Go.Sort
theorem InvZ.fuse {many : Nat} {D : DiskS} {S : StS} (h : InvZ many D S) (f : Int) : InvZ many { D with fuse := f } S := by
  obtain ⟨deeds, base, hy, hp, hr⟩ := h.log
  exact ⟨h.len, h.m1, h.m2, ⟨deeds, base, ⟨hy.kept, hy.wait, hy.cl, hy.nc, hy.up, hy.forty⟩, hp, hr⟩, h.hd, h.other, h.hok, h.e1, h.f1, ⟨h.low.now, h.low.kept, h.low.wait⟩, h.rises, h.good, h.few⟩
theorem InvZ.restart {many : Nat} {D : DiskS} {S : StS} (h : InvZ many D S) (keep : Int) : InvZ many (restartD D keep) S := by
  obtain ⟨q1, q2, q3, q4, _⟩ := h.parts
  have e : restartD D keep = { D with fuse := -1 } := by
    obtain ⟨k, n, wt, f, d⟩ := D
    dsimp only at q1 q2 q3
    subst q1 q2 q3
    rfl
  rw [e]
  exact h.fuse (-1)
theorem wait_chunks (p : Nat) (t : ByteArray) : ∀ (k i : Nat) (D : DiskS), (chunksD p t i k D).1.wait.length ≤ D.wait.length + k
  | 0, _, _ => Nat.le_refl _
  | k + 1, i, D => by
    have h := write_wait D ((p + i : Nat) : Int) (chunkZ t i)
    unfold chunksD thenD
    split
    · omega
    · have := wait_chunks p t k (i + 1) (writeD D ((p + i : Nat) : Int) (chunkZ t i)).1
      omega
theorem wait_check (many : Nat) (h : Hd) (rows : List Change) (D : DiskS) : (checkD many h rows D).1.wait.length ≤ D.wait.length + cntZ (allText rows).size + 1 := by
  have h1 := wait_chunks (2 + (1 - h.side) * 12) (allText rows) (cntZ (allText rows).size) 0 D
  have w1 : ∀ (p : DiskS × Nat), (thenD p flushD).1.wait.length ≤ p.1.wait.length := fun p => by
    unfold thenD
    split
    · exact Nat.le_refl _
    · exact flush_wait _
  have w2 : ∀ (p : DiskS × Nat) (a : Int) (s : ByteArray), (thenD p (fun E => writeD E a s)).1.wait.length ≤ p.1.wait.length + 1 := fun p a s => by
    unfold thenD
    split
    · exact Nat.le_succ _
    · exact write_wait _ _ _
  unfold checkD
  refine Nat.le_trans (w1 _) ?_
  refine Nat.le_trans (w2 _ _ _) ?_
  have := w1 (chunksD (2 + (1 - h.side) * 12) (allText rows) 0 (cntZ (allText rows).size) D)
  omega
theorem wait_checkZ {many : Nat} {D : DiskS} {S : StS} (hI : InvZ many D S) : (checkZ many S D).1.wait.length ≤ 20 := by
  have hts := allText_size S.rows (fun c hc => (hI.good c hc).1)
  have hc : cntZ (allText S.rows).size ≤ 12 := by unfold cntZ; have := hI.few; omega
  have h := wait_check many S.h S.rows D
  rw [hI.parts.2.1] at h
  have h2 : (checkZ many S D).1 = (checkD many S.h S.rows D).1 := by
    unfold checkZ
    simp only []
    split <;> rfl
  rw [h2]
  simp only [List.length_nil] at h
  omega
theorem wait_commitZ {many : Nat} {D : DiskS} {S : StS} (c : List Change) (hI : InvZ many D S) : (commitZ many S c D).1.wait.length ≤ 100 := by
  have h0 : D.wait.length = 0 := by rw [hI.parts.2.1]; rfl
  have hr : (roomZ many S c.length D).1.wait.length ≤ 20 := by
    unfold roomZ
    split
    · exact wait_checkZ hI
    · show D.wait.length ≤ 20; omega
  unfold commitZ
  split
  · show D.wait.length ≤ 100; omega
  · rename_i hf
    have hc := (commit_none (by simpa using hf)).1
    simp only []
    split
    · omega
    · unfold putZ
      simp only []
      have ha := add_wait 26 many (roomZ many S c.length D).2.1.h.first (roomZ many S c.length D).2.1.next c (roomZ many S c.length D).1
      split
      · show (addY _ _ _ _ _ _).1.wait.length ≤ 100; omega
      · show (addY _ _ _ _ _ _).1.wait.length ≤ 100; omega
end Go.Proofs.YtggpodlecljcbadGreatDoor
