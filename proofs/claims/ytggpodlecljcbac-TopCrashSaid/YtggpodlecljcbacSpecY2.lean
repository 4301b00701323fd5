/- Plain: chapter 8: what a deed that is added makes of the sectors; what is read of them then. -/
import Derived.Test.YtggpodlecljcbacWalkY
namespace Go.Proofs.Ytggpodlecljcbac
set_option linter.unusedSimpArgs false
set_option linter.unusedVariables false
open Go.RowKit Go.Sort
/-- a sector's text. -/
def textY (k : UInt8) (n : Nat) (s : ByteArray) : ByteArray := (⟨#[k]⟩ : ByteArray) ++ fourB n ++ (⟨#[s.size.toUInt8, (s.size / 256).toUInt8]⟩ : ByteArray) ++ s
theorem textY_size (k : UInt8) (n : Nat) (s : ByteArray) : (textY k n s).size = 7 + s.size := by
  unfold textY
  rw [ByteArray.size_append, ByteArray.size_append, ByteArray.size_append, fourB_size]
  show 1 + 4 + 2 + s.size = _
  omega
theorem ba_get (a b : ByteArray) (h : a = b) (i : Nat) (h1 : i < a.size) (h2 : i < b.size) : a[i] = b[i] := by subst h; rfl
theorem text_data (k : UInt8) (n : Nat) (s : ByteArray) : (fullS (textY k n s)).data.toList = k :: n.toUInt8 :: (n / 256).toUInt8 :: (n / 65536).toUInt8 :: (n / 16777216).toUInt8 :: s.size.toUInt8 :: (s.size / 256).toUInt8 :: (s.data.toList ++ List.replicate (40 - (textY k n s).size) 0) := by
  unfold fullS textY fourB zeros
  simp [ByteArray.append_eq, ByteArray.data_append]
theorem ba_ext {a b : ByteArray} (h : a.data.toList = b.data.toList) : a = b := by
  cases a; cases b; simp at h; subst h; rfl
theorem extract_data (s : ByteArray) (i j : Nat) : (s.extract i j).data.toList = (s.data.toList.take j).drop i := by
  rw [ByteArray.data_extract]
  simp [Array.toList_extract, List.extract_eq_take_drop, List.drop_take]
theorem get_data (s : ByteArray) (i : Nat) (h : i < s.size) : s[i] = s.data.toList[i]'(by simpa using h) := by
  cases s; rfl
theorem cut7 {α : Type} (l r : List α) (x0 x1 x2 x3 x4 x5 x6 : α) : ((x0 :: x1 :: x2 :: x3 :: x4 :: x5 :: x6 :: (l ++ r)).take (l.length + 7)).drop 7 = l := by
  show (l ++ r).take l.length = l
  exact List.take_left
theorem cut2 {α : Type} (l r : List α) (x0 x1 : α) : ((x0 :: x1 :: (l ++ r)).take (l.length + 2)).drop 2 = l := by
  show (l ++ r).take l.length = l
  exact List.take_left
theorem cut2' {α : Type} (l r : List α) (x0 x1 : α) : (x0 :: x1 :: (l ++ r)).drop (l.length + 2) = r := by
  show (l ++ r).drop l.length = r
  exact List.drop_left
theorem data_len (s : ByteArray) : s.data.toList.length = s.size := by cases s; simp [ByteArray.size]
theorem look_text (k : UInt8) (n : Nat) (s : ByteArray) (num : Nat) (hs : s.size ≤ 33) : lookS (fullS (textY k n s)) num = if ((fourB n).toList == (fourB num).toList) = false then noneY else if ((k.toNat : Int) == 111) = false ∧ ((k.toNat : Int) == 99) = false then noneY else (k, s, true) := by
  have hd := text_data k n s
  have hz : (fullS (textY k n s)).size = 40 := fullS_size _ (by rw [textY_size]; omega)
  have h0 : (fullS (textY k n s))[0]'(by omega) = k := by rw [get_data]; simp [hd]
  have h5 : (fullS (textY k n s))[5]'(by omega) = s.size.toUInt8 := by rw [get_data]; simp [hd]
  have h6 : (fullS (textY k n s))[6]'(by omega) = (s.size / 256).toUInt8 := by rw [get_data]; simp [hd]
  have e1 : (fullS (textY k n s)).extract 1 5 = fourB n := ba_ext (by rw [extract_data, hd]; rfl)
  have e2 : s.size.toUInt8.toNat + 256 * (s.size / 256).toUInt8.toNat = s.size := by
    have a1 : s.size.toUInt8.toNat = s.size % 256 := by simp
    have a2 : (s.size / 256).toUInt8.toNat = s.size / 256 % 256 := by simp
    rw [a1, a2]; omega
  have e3 : (fullS (textY k n s)).extract 7 (7 + s.size) = s := ba_ext (by
    rw [extract_data, hd, show 7 + s.size = s.data.toList.length + 7 by rw [data_len]; omega]
    exact cut7 _ _ _ _ _ _ _ _ _)
  unfold lookS
  rw [dif_pos hz, h0, h5, h6]
  unfold lookFrom
  rw [e1, e2, if_neg (by omega : ¬ 33 < s.size), e3]
theorem look_zero (num : Nat) (h1 : 1 ≤ num) (h2 : num ≤ 2000000000) : lookS (zeros 40) num = noneY := by
  unfold lookS
  rw [dif_pos (zeros_size 40)]
  unfold lookFrom
  rw [if_pos]
  have : (zeros 40).extract 1 5 = fourB 0 := by decide +kernel
  rw [this]
  cases h : ((fourB 0).toList == (fourB num).toList)
  · rfl
  · exfalso
    have he : (fourB 0).toList = (fourB num).toList := by simpa using h
    have he2 : fourB 0 = fourB num := (bytes_eq_iff _ _).1 he
    simp only [fourB, ByteArray.mk.injEq] at he2
    have he3 := congrArg Array.toList he2
    simp only [List.cons.injEq] at he3
    obtain ⟨a0, a1, a2, a3, _⟩ := he3
    replace a0 := congrArg UInt8.toNat a0
    replace a1 := congrArg UInt8.toNat a1
    replace a2 := congrArg UInt8.toNat a2
    replace a3 := congrArg UInt8.toNat a3
    simp at a0 a1 a2 a3
    omega
theorem four_self (n : Nat) : ((fourB n).toList == (fourB n).toList) = true := by simp
/-- what was laid is read. -/
theorem change_bytes (c : Change) (h : changeFault c = 0) : (changeBytes c).2 = 0 ∧ (changeBytes c).1.size ≤ 33 ∧ changeOf (changeBytes c).1 = (c, 0) := by
  have hb : changeBytes c = ((⟨#[goneByte c, c.key.size.toUInt8]⟩ : ByteArray) ++ c.key ++ c.val, 0) := by unfold changeBytes; rw [if_neg (by simp [h])]
  obtain ⟨hk, hv⟩ := cf_sizes h
  have hz : (changeBytes c).1.size = 2 + c.key.size + c.val.size := by rw [hb, ByteArray.size_append, ByteArray.size_append]; rfl
  refine ⟨by rw [hb], by rw [hz]; omega, ?_⟩
  have hd : (changeBytes c).1.data.toList = goneByte c :: c.key.size.toUInt8 :: (c.key.data.toList ++ c.val.data.toList) := by rw [hb]; simp [ByteArray.append_eq, ByteArray.data_append]
  have h0 : (changeBytes c).1[0]'(by omega) = goneByte c := by rw [get_data]; simp [hd]
  have h1 : (changeBytes c).1[1]'(by omega) = c.key.size.toUInt8 := by rw [get_data]; simp [hd]
  have hkn : c.key.size.toUInt8.toNat = c.key.size := by simp; omega
  have e1 : (changeBytes c).1.extract 2 (2 + c.key.size) = c.key := ba_ext (by
    rw [extract_data, hd, show 2 + c.key.size = c.key.data.toList.length + 2 by rw [data_len]; omega]
    exact cut2 _ _ _ _)
  have e2 : (changeBytes c).1.extract (2 + c.key.size) (changeBytes c).1.size = c.val := ba_ext (by
    rw [extract_data]
    rw [← data_len (changeBytes c).1, List.take_length, hd, show 2 + c.key.size = c.key.data.toList.length + 2 by rw [data_len]; omega]
    exact cut2' _ _ _ _)
  unfold changeOf
  rw [dif_neg (by omega), h0, h1]
  have hat : changeAt (changeBytes c).1 (goneByte c) c.key.size.toUInt8 = c := by
    unfold changeAt
    rw [hkn, e1, e2]
    obtain ⟨k, v, g⟩ := c
    cases g <;> rfl
  have hg : (goneByte c).toNat ≤ 1 := by unfold goneByte; split <;> decide
  unfold changeFrom
  rw [if_neg (by rw [hkn, hz]; omega), hat, if_neg (by simp [h])]
/-- an opened sector. -/
def openY (first i : Nat) (c : Change) : ByteArray := fullS (textY 111 (first + i) (changeBytes c).1)
def opensY (first : Nat) : Nat → List Change → List ByteArray
  | _, [] => []
  | i, c :: r => openY first i c :: opensY first (i + 1) r
def closeY (first i n : Nat) : ByteArray := fullS (textY 99 (first + i) (fourB n))
theorem opensY_length (first : Nat) : ∀ (cs : List Change) (i : Nat), (opensY first i cs).length = cs.length
  | [], _ => rfl
  | c :: r, i => by simp [opensY, opensY_length first r (i + 1)]
theorem step_open (first i : Nat) (c : Change) (h : changeFault c = 0) (o : List (List Change)) (d : List Change) (u : Nat) : stepY first i (openY first i c) o d u = some (o, d ++ [c], u) := by
  obtain ⟨_, h2, h3⟩ := change_bytes c h
  unfold stepY openY
  rw [look_text _ _ _ _ h2, four_self]
  simp [h3]
theorem step_close (first i : Nat) (o : List (List Change)) (d : List Change) (u : Nat) : stepY first i (closeY first i d.length) o d u = some (o ++ [d], [], i + 1) := by
  unfold stepY closeY
  rw [look_text _ _ _ _ (by rw [fourB_size]; omega), four_self]
  simp
theorem step_zero (first i : Nat) (o : List (List Change)) (d : List Change) (u : Nat) (h1 : 1 ≤ first) (h2 : first + i ≤ 2000000000) : stepY first i (zeros 40) o d u = none := by
  unfold stepY
  rw [look_zero _ (by omega) h2]
  simp [noneY]
theorem run_opens (first : Nat) : ∀ (cs : List Change) (i : Nat) (R : List ByteArray) (o : List (List Change)) (d : List Change) (u : Nat), (∀ c ∈ cs, changeFault c = 0) →
    closedY first (opensY first i cs ++ R) i o d u = closedY first R (i + cs.length) o (d ++ cs) u
  | [], i, R, o, d, u, _ => by simp [opensY]
  | c :: r, i, R, o, d, u, h => by
    simp only [opensY, List.cons_append, closedY]
    rw [step_open first i c (h c (List.mem_cons_self ..))]
    simp only []
    rw [run_opens first r (i + 1) R o (d ++ [c]) u (fun x hx => h x (List.mem_cons_of_mem _ hx))]
    simp only [List.length_cons, List.append_assoc, List.singleton_append]
    congr 1
    omega
/-- sectors that end a log's deeds here: none, or the blank. -/
def stopY (R : List ByteArray) : Prop := R = [] ∨ ∃ r, R = zeros 40 :: r
theorem run_stop (first i : Nat) (R : List ByteArray) (o : List (List Change)) (d : List Change) (u : Nat) (h : stopY R) (h1 : 1 ≤ first) (h2 : first + i ≤ 2000000000) : closedY first R i o d u = (o, u) := by
  rcases h with rfl | ⟨r, rfl⟩
  · rfl
  · simp only [closedY]
    rw [step_zero first i o d u h1 h2]
/-- sectors of which none closes a deed. -/
theorem run_none (first : Nat) : ∀ (R : List ByteArray) (i : Nat) (o : List (List Change)) (d : List Change) (u : Nat), (∀ j (h : j < R.length), (lookS R[j] (first + (i + j))).2.2 = false ∨ ((lookS R[j] (first + (i + j))).1.toNat : Int) ≠ 99) → closedY first R i o d u = (o, u)
  | [], _, _, _, _, _ => rfl
  | s :: r, i, o, d, u, h => by
    have h0 := h 0 (by simp)
    simp only [List.getElem_cons_zero, Nat.add_zero] at h0
    have hr : ∀ j (hj : j < r.length), (lookS r[j] (first + (i + 1 + j))).2.2 = false ∨ ((lookS r[j] (first + (i + 1 + j))).1.toNat : Int) ≠ 99 := fun j hj => by
      have := h (j + 1) (by simpa using hj)
      rw [show i + 1 + j = i + (j + 1) by omega]
      simpa using this
    simp only [closedY]
    cases hs : stepY first i s o d u with
    | none => rfl
    | some p =>
      obtain ⟨o1, d1, u1⟩ := p
      have hk : o1 = o ∧ u1 = u := by
        unfold stepY at hs
        split at hs
        · cases hs
        · rename_i hn
          split at hs
          · rename_i h9
            rcases h0 with h0 | h0
            · exact absurd h0 hn
            · exact absurd (by simpa using h9) h0
          · split at hs
            · cases hs
            · simp only [Option.some.injEq, Prod.mk.injEq] at hs
              exact ⟨hs.1.symm, hs.2.2.symm⟩
      obtain ⟨rfl, rfl⟩ := hk
      exact run_none first r (i + 1) _ _ _ hr
/-- a log's head: its deeds, whatever comes behind it. -/
def HeadY (first : Nat) (P : List ByteArray) (want : List (List Change)) : Prop := ∀ R, closedY first (P ++ R) 0 [] [] 0 = closedY first R P.length want [] P.length
theorem head_of (first : Nat) : ∀ (l : List ByteArray) (i : Nat) (o : List (List Change)) (d : List Change) (u : Nat) (o' : List (List Change)) (u' : Nat), closedY first l i o d u = (o', u') →
    (o' = o ∧ u' = u) ∨ (i < u' ∧ u' ≤ i + l.length ∧ ∀ R, closedY first (l.take (u' - i) ++ R) i o d u = closedY first R u' o' [] u')
  | [], i, o, d, u, o', u', h => by
    simp only [closedY, Prod.mk.injEq] at h
    exact Or.inl ⟨h.1.symm, h.2.symm⟩
  | s :: r, i, o, d, u, o', u', h => by
    cases hs : stepY first i s o d u with
    | none =>
      simp only [closedY, hs, Prod.mk.injEq] at h
      exact Or.inl ⟨h.1.symm, h.2.symm⟩
    | some p =>
      obtain ⟨o1, d1, u1⟩ := p
      simp only [closedY, hs] at h
      have hk : (o1 = o ∧ u1 = u) ∨ (d1 = [] ∧ u1 = i + 1) := by
        unfold stepY at hs
        split at hs
        · cases hs
        · split at hs
          · split at hs
            · simp only [Option.some.injEq, Prod.mk.injEq] at hs
              exact Or.inr ⟨hs.2.1.symm, hs.2.2.symm⟩
            · cases hs
          · split at hs
            · cases hs
            · simp only [Option.some.injEq, Prod.mk.injEq] at hs
              exact Or.inl ⟨hs.1.symm, hs.2.2.symm⟩
      rcases head_of first r (i + 1) o1 d1 u1 o' u' h with ⟨e1, e2⟩ | ⟨h1, h2, h3⟩
      · rcases hk with ⟨k1, k2⟩ | ⟨k1, k2⟩
        · exact Or.inl ⟨e1.trans k1, e2.trans k2⟩
        · refine Or.inr ⟨by omega, by simp; omega, fun R => ?_⟩
          have : u' - i = 1 := by omega
          rw [this]
          simp only [List.take_succ_cons, List.take_zero, List.cons_append, List.nil_append, closedY, hs]
          rw [e1, e2, k1, k2]
      · refine Or.inr ⟨by omega, by simp; omega, fun R => ?_⟩
        obtain ⟨m, hm⟩ : ∃ m, u' - i = m + 1 := ⟨u' - i - 1, by omega⟩
        rw [hm]
        simp only [List.take_succ_cons, List.cons_append, closedY, hs]
        have : m = u' - (i + 1) := by omega
        rw [this]
        exact h3 R
theorem head_take (first : Nat) (S : List ByteArray) (want : List (List Change)) (used : Nat) (h : closedY first S 0 [] [] 0 = (want, used)) : used ≤ S.length ∧ HeadY first (S.take used) want := by
  rcases head_of first S 0 [] [] 0 want used h with ⟨rfl, rfl⟩ | ⟨h1, h2, h3⟩
  · exact ⟨Nat.zero_le _, fun R => by simp⟩
  · have hu : used ≤ S.length := by omega
    refine ⟨hu, fun R => ?_⟩
    have := h3 R
    rw [Nat.sub_zero] at this
    rw [this, List.length_take, Nat.min_eq_left hu]
theorem head_add {first : Nat} {P : List ByteArray} {want : List (List Change)} (h : HeadY first P want) (c : List Change) (hc : ∀ x ∈ c, changeFault x = 0) : HeadY first (P ++ (opensY first P.length c ++ [closeY first (P.length + c.length) c.length])) (want ++ [c]) := fun R => by
  rw [List.append_assoc, h, List.append_assoc, run_opens first c P.length _ want [] P.length hc]
  simp only [List.nil_append, List.cons_append, closedY]
  rw [step_close]
  simp only [List.length_append, opensY_length, List.length_cons, List.length_nil, Nat.zero_add, Nat.add_assoc]
theorem head_end {first : Nat} {P R : List ByteArray} {want : List (List Change)} (h : HeadY first P want) (hR : stopY R) (h1 : 1 ≤ first) (h2 : first + P.length ≤ 2000000000) : closedY first (P ++ R) 0 [] [] 0 = (want, P.length) := by
  rw [h, run_stop first _ R want [] _ hR h1 h2]
end Go.Proofs.Ytggpodlecljcbac
