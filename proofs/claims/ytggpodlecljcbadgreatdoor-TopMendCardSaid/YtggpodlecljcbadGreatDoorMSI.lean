/- Plain: chapter 5: a number's four digits. Plain: chapter 5: a quilt as rows; rows as a quilt. Plain: chapter 5: what differs between two lists of rows that rise. -/
import Derived.Lib.ItoaNum
import Derived.Lib.Atoi
import Derived.Test.YtggpodlecljcbadGreatDoorMX
namespace Go.Proofs.YtggpodlecljcbadGreatDoor
set_option linter.unusedSimpArgs false
set_option linter.unusedVariables false
open Go.RowKit Go.Sort
/-- a number with noughts ahead, four bytes at least. -/
def fourI (n : Int) : ByteArray := ⟨(List.replicate (4 - (Lib.itoa n).length) 48 ++ Lib.itoa n).toArray⟩
/-- the number that a text begins with; below 0: none. -/
def numI (s : ByteArray) : Int := if s.size < 4 then -1 else match Lib.atoi (s.data.toList.take 4) with
  | none => -1
  | some n => if (fourI n).data.toList = s.data.toList.take 4 then n else -1
def dgI (n : Nat) : UInt8 := UInt8.ofNat (48 + n)
theorem dgI_toNat {n : Nat} (h : n < 10) : (dgI n).toNat = 48 + n := by
  unfold dgI
  rw [UInt8.toNat_ofNat']
  omega
def dig4 (n : Nat) : List UInt8 := [dgI (n / 1000), dgI (n / 100 % 10), dgI (n / 10 % 10), dgI (n % 10)]
theorem digits_lt (n : Nat) (h : n ≤ 9999) : List.replicate (4 - (Lib.decDigits n).length) 48 ++ Lib.decDigits n = dig4 n := by
  have h0 : (48 : UInt8) = dgI 0 := by decide
  unfold dig4
  by_cases h1 : n < 10
  · rw [Lib.decDigits, dif_pos h1]
    have e1 : n / 1000 = 0 := by omega
    have e2 : n / 100 % 10 = 0 := by omega
    have e3 : n / 10 % 10 = 0 := by omega
    have e4 : n % 10 = n := by omega
    rw [e1, e2, e3, e4]
    rfl
  by_cases h2 : n < 100
  · rw [Lib.decDigits, dif_neg h1, Lib.decDigits, dif_pos (by omega)]
    have e1 : n / 1000 = 0 := by omega
    have e2 : n / 100 % 10 = 0 := by omega
    have e3 : n / 10 % 10 = n / 10 := by omega
    rw [e1, e2, e3]
    rfl
  by_cases h3 : n < 1000
  · rw [Lib.decDigits, dif_neg h1, Lib.decDigits, dif_neg (by omega), Lib.decDigits, dif_pos (by omega)]
    have e1 : n / 1000 = 0 := by omega
    have e2 : n / 100 % 10 = n / 10 / 10 := by omega
    rw [e1, e2]
    rfl
  · rw [Lib.decDigits, dif_neg h1, Lib.decDigits, dif_neg (by omega), Lib.decDigits, dif_neg (by omega), Lib.decDigits, dif_pos (by omega)]
    have e1 : n / 1000 = n / 10 / 10 / 10 := by omega
    have e2 : n / 100 % 10 = n / 10 / 10 % 10 := by omega
    rw [e1, e2]
    rfl
theorem four_nat (n : Nat) (h : n ≤ 9999) : (fourI (n : Int)).data.toList = dig4 n := by
  unfold fourI Lib.itoa
  rw [if_neg (by omega)]
  simp only [Int.toNat_natCast]
  exact digits_lt n h
theorem four_size (n : Nat) (h : n ≤ 9999) : (fourI (n : Int)).size = 4 := by
  have h1 := four_nat n h
  have h2 : (fourI (n : Int)).data.toList.length = 4 := by rw [h1]; rfl
  simpa using h2
theorem digit_dg {d : Nat} (h : d < 10) : Lib.digitVal (dgI d) = some d := by
  unfold Lib.digitVal
  rw [dgI_toNat h, if_pos (by omega)]
  simp
theorem dec_four (a b c d : Nat) (ha : a < 10) (hb : b < 10) (hc : c < 10) (hd : d < 10) : Lib.decFrom 0 [dgI a, dgI b, dgI c, dgI d] = some (((a * 10 + b) * 10 + c) * 10 + d) := by
  simp only [Lib.decFrom, digit_dg ha, digit_dg hb, digit_dg hc, digit_dg hd]
  simp
theorem atoi_four (n : Nat) (h : n ≤ 9999) : Lib.atoi (dig4 n) = some (n : Int) := by
  have hd : Lib.decNat (dig4 n) = some n := by
    unfold Lib.decNat dig4
    rw [if_neg (by simp), dec_four _ _ _ _ (by omega) (by omega) (by omega) (by omega)]
    congr 1
    omega
  have h1 : (dgI (n / 1000) == 45) = false := by
    rw [beq_eq_false_iff_ne]
    intro e
    have := congrArg UInt8.toNat e
    rw [dgI_toNat (by omega)] at this
    have h2 : (45 : UInt8).toNat = 45 := rfl
    omega
  have h2 : (dgI (n / 1000) == 43) = false := by
    rw [beq_eq_false_iff_ne]
    intro e
    have := congrArg UInt8.toNat e
    rw [dgI_toNat (by omega)] at this
    have h2 : (43 : UInt8).toNat = 43 := rfl
    omega
  have hd2 := hd
  unfold dig4 at hd2 ⊢
  unfold Lib.atoi
  simp only [h1, h2, Bool.false_eq_true, if_false, hd2]
  rfl
theorem dec_bound : ∀ (l : List UInt8) (acc n : Nat), Lib.decFrom acc l = some n → n < (acc + 1) * 10 ^ l.length
  | [], acc, n, h => by
    simp only [Lib.decFrom, Option.some.injEq] at h
    simp only [List.length_nil, Nat.pow_zero]
    omega
  | b :: r, acc, n, h => by
    unfold Lib.decFrom at h
    cases hd : Lib.digitVal b with
    | none => rw [hd] at h; cases h
    | some d =>
      rw [hd] at h
      have ih := dec_bound r (acc * 10 + d) n h
      have hd9 : d ≤ 9 := by
        unfold Lib.digitVal at hd
        split at hd
        · simp only [Option.some.injEq] at hd; omega
        · cases hd
      have hp : 0 < 10 ^ r.length := Nat.pow_pos (by decide)
      calc n < (acc * 10 + d + 1) * 10 ^ r.length := ih
        _ ≤ ((acc + 1) * 10) * 10 ^ r.length := Nat.mul_le_mul_right _ (by omega)
        _ = (acc + 1) * 10 ^ (b :: r).length := by rw [List.length_cons, Nat.pow_succ, Nat.mul_assoc, Nat.mul_comm (10 ^ r.length)]
/-- what is a number is four digits. -/
theorem numI_some (s : ByteArray) (h : 0 ≤ numI s) : ∃ n : Nat, numI s = (n : Int) ∧ n ≤ 9999 ∧ 4 ≤ s.size ∧ s.data.toList.take 4 = dig4 n := by
  by_cases h4 : s.size < 4
  · unfold numI at h
    rw [if_pos h4] at h
    omega
  have hl : (s.data.toList.take 4).length = 4 := by
    rw [List.length_take]
    have : s.data.toList.length = s.size := by simp
    omega
  unfold numI at h ⊢
  rw [if_neg h4] at h ⊢
  cases ha : Lib.atoi (s.data.toList.take 4) with
  | none => rw [ha] at h; simp only [] at h; omega
  | some n =>
    rw [ha] at h
    simp only [] at h ⊢
    split at h
    · rename_i he
      rw [if_pos he]
      match hs : s.data.toList.take 4, hl with
      | [a, b, c, d], _ =>
        rw [hs] at ha he
        have hn : n ≤ 9999 ∧ (fourI n).data.toList = [a, b, c, d] := ⟨by
          replace ha : (if (a == 45) = true then (Lib.decNat [b, c, d]).map fun (m : Nat) => -(m : Int) else if (a == 43) = true then (Lib.decNat [b, c, d]).map fun (m : Nat) => (m : Int) else (Lib.decNat [a, b, c, d]).map fun (m : Nat) => (m : Int)) = some n := ha
          split at ha
          · cases hd : Lib.decNat [b, c, d] with
            | none => rw [hd] at ha; cases ha
            | some m => rw [hd] at ha; simp only [Option.map_some, Option.some.injEq] at ha; omega
          · split at ha
            · cases hd : Lib.decNat [b, c, d] with
              | none => rw [hd] at ha; cases ha
              | some m =>
                rw [hd] at ha
                simp only [Option.map_some, Option.some.injEq] at ha
                unfold Lib.decNat at hd
                rw [if_neg (by simp)] at hd
                have := dec_bound _ _ _ hd
                simp only [List.length_cons, List.length_nil] at this
                omega
            · cases hd : Lib.decNat [a, b, c, d] with
              | none => rw [hd] at ha; cases ha
              | some m =>
                rw [hd] at ha
                simp only [Option.map_some, Option.some.injEq] at ha
                unfold Lib.decNat at hd
                rw [if_neg (by simp)] at hd
                have := dec_bound _ _ _ hd
                simp only [List.length_cons, List.length_nil] at this
                omega, he⟩
        obtain ⟨m, rfl⟩ : ∃ m : Nat, n = (m : Int) := ⟨n.toNat, by omega⟩
        refine ⟨m, rfl, by omega, by omega, ?_⟩
        rw [← hn.2]
        exact four_nat m (by omega)
    · omega
theorem numI_four (n : Nat) (h : n ≤ 9999) (s : ByteArray) (h4 : s.data.toList.take 4 = dig4 n) : numI s = (n : Int) := by
  have hl : 4 ≤ s.size := by
    have h1 := congrArg List.length h4
    rw [List.length_take] at h1
    have h2 : s.data.toList.length = s.size := by simp
    have h3 : (dig4 n).length = 4 := rfl
    omega
  unfold numI
  rw [if_neg (by omega), h4, atoi_four n h]
  simp only []
  rw [if_pos (four_nat n h)]
end Go.Proofs.YtggpodlecljcbadGreatDoor
namespace Go.Proofs.YtggpodlecljcbadGreatDoor
set_option linter.unusedSimpArgs false
set_option linter.unusedVariables false
open Go.RowKit Go.Sort
def fB : ByteArray := ⟨#[102]⟩
def turnB : ByteArray := ⟨#[116, 117, 114, 110]⟩
def rowF (f : File) : Change := ⟨fB ++ f.name, fourI f.times ++ f.text, false⟩
def turnRow (n : Int) : Change := ⟨turnB, fourI n, false⟩
/-- E1. -/
def rowsQ (q : Quilt) : List Change := q.files.map rowF ++ [turnRow q.turn]
def startsF (s : ByteArray) : Bool := s.data.toList.head? == some 102
def leP (p : Option ByteArray) (k : ByteArray) : Bool := match p with | some p => bLe k p | none => false
/-- E2: one row more. -/
def rowStep (prev : Option ByteArray) (q : Quilt) (c : Change) : Option Quilt :=
  if leP prev c.key = true ∨ c.gone = true ∨ numI c.val < 0 then none
  else if (c.key.toList == turnB.toList) = true ∧ c.val.size = 4 then some ⟨q.files, numI c.val⟩
  else if startsF c.key = true then some ⟨q.files ++ [⟨c.key.extract 1 c.key.size, c.val.extract 4 c.val.size, numI c.val⟩], q.turn⟩ else none
def foldQ : Option ByteArray → Quilt → List Change → Option Quilt
  | _, q, [] => some q
  | p, q, c :: r => match rowStep p q c with
    | none => none
    | some q' => foldQ (some c.key) q' r
def parseQ (l : List Change) : Option Quilt := match foldQ none noQuilt l with
  | none => none
  | some q => if quiltFault q ≠ 0 then none else some q
theorem app_list (a b : ByteArray) : (a ++ b).toList = a.toList ++ b.toList := by
  rw [bytes_list, bytes_list, bytes_list, ByteArray.data_append, Array.toList_append]
theorem app_data (a b : ByteArray) : (a ++ b).data.toList = a.data.toList ++ b.data.toList := by rw [ByteArray.data_append, Array.toList_append]
theorem f_list (a : ByteArray) : (fB ++ a).toList = 102 :: a.toList := by rw [app_list, bytes_list fB]; rfl
theorem turn_list : turnB.toList = [116, 117, 114, 110] := by rw [bytes_list]; rfl
theorem less_f (x y : List UInt8) : Op.bytesLess (102 :: x) (102 :: y) = Op.bytesLess x y := by
  show (decide ((102 : UInt8) < 102) || ((102 : UInt8) == 102 && Op.bytesLess x y)) = _
  have h1 : decide ((102 : UInt8) < 102) = false := by decide
  rw [h1]
  simp
theorem bLt_f (a b : ByteArray) : bLt (fB ++ a) (fB ++ b) = bLt a b := by
  unfold bLt
  rw [f_list, f_list, less_f]
theorem bLe_f (a b : ByteArray) : bLe (fB ++ a) (fB ++ b) = bLe a b := by
  unfold bLe
  rw [f_list, f_list, less_f]
  simp
theorem bLt_turn (a : ByteArray) : bLt (fB ++ a) turnB = true := by
  unfold bLt
  rw [f_list, turn_list]
  rfl
theorem bLe_turn (a : ByteArray) : bLe turnB (fB ++ a) = false := by
  unfold bLe
  rw [f_list, turn_list]
  rfl
theorem four_take (n : Nat) (h : n ≤ 9999) (t : ByteArray) : (fourI (n : Int) ++ t).data.toList.take 4 = dig4 n := by
  rw [app_data, four_nat n h]
  rfl
theorem four_app (n : Nat) (h : n ≤ 9999) (t : ByteArray) : (fourI (n : Int) ++ t).extract 4 (fourI (n : Int) ++ t).size = t := by
  have h4 := four_size n h
  apply ByteArray.ext
  apply Array.toList_inj.1
  rw [ByteArray.data_extract, Array.toList_extract, List.extract_eq_take_drop, app_data]
  have h5 : (fourI (n : Int)).data.toList.length = 4 := by rw [four_nat n h]; rfl
  rw [List.drop_append_of_le_length (by omega), List.drop_of_length_le (by omega), List.nil_append]
  refine List.take_of_length_le ?_
  rw [ByteArray.size_append, h4]
  simp
theorem f_app (a : ByteArray) : (fB ++ a).extract 1 (fB ++ a).size = a := by
  apply ByteArray.ext
  apply Array.toList_inj.1
  rw [ByteArray.data_extract, Array.toList_extract, List.extract_eq_take_drop, app_data]
  show ((102 :: a.data.toList).drop 1).take _ = _
  rw [List.drop_one, List.tail_cons]
  refine List.take_of_length_le ?_
  rw [ByteArray.size_append]
  have : fB.size = 1 := rfl
  simp
  omega
theorem step_row (p : Option ByteArray) (q : Quilt) (f : File) (hp : leP p (fB ++ f.name) = false) (h1 : 1 ≤ f.times) (h2 : f.times ≤ 9999) : rowStep p q (rowF f) = some ⟨q.files ++ [f], q.turn⟩ := by
  obtain ⟨n, hn⟩ : ∃ n : Nat, f.times = (n : Int) := ⟨f.times.toNat, by omega⟩
  have hn9 : n ≤ 9999 := by omega
  have hnum : numI (rowF f).val = (n : Int) := by
    unfold rowF
    rw [hn]
    exact numI_four n hn9 _ (four_take n hn9 _)
  have hk : (rowF f).key = fB ++ f.name := rfl
  have hg : (rowF f).gone = false := rfl
  unfold rowStep
  rw [hnum, hk, hg, hp, if_neg (by simp), if_neg (by
    rintro ⟨h, _⟩
    rw [f_list, turn_list] at h
    simp at h), if_pos (by
    unfold startsF
    rw [app_data]
    rfl)]
  congr 2
  rw [f_app]
  have hv : (rowF f).val.extract 4 (rowF f).val.size = f.text := by
    unfold rowF
    rw [hn]
    exact four_app n hn9 f.text
  rw [hv, ← hn]
theorem step_turn (p : Option ByteArray) (q : Quilt) (n : Int) (hp : leP p turnB = false) (h1 : 0 ≤ n) (h2 : n ≤ 9999) : rowStep p q (turnRow n) = some ⟨q.files, n⟩ := by
  obtain ⟨m, rfl⟩ : ∃ m : Nat, n = (m : Int) := ⟨n.toNat, by omega⟩
  have hnum : numI (turnRow m).val = (m : Int) := numI_four m (by omega) _ (by
    have := four_nat m (by omega)
    show (fourI (m : Int)).data.toList.take 4 = _
    rw [this]; rfl)
  have hs : (turnRow m).val.size = 4 := four_size m (by omega)
  have hk : (turnRow m).key = turnB := rfl
  have hg : (turnRow m).gone = false := rfl
  unfold rowStep
  rw [hnum, hk, hg, hp, hs, if_neg (by simp), if_pos (by simp)]
theorem fold_rows : ∀ (fs : List File) (p : Option ByteArray) (acc : List File) (t n : Int), (∀ f ∈ fs, 1 ≤ f.times ∧ f.times ≤ 9999) → Rises fs → (p = none ∨ ∃ a, p = some (fB ++ a) ∧ ∀ f ∈ fs, bLt a f.name = true) → 0 ≤ n → n ≤ 9999 →
    foldQ p ⟨acc, t⟩ (fs.map rowF ++ [turnRow n]) = some ⟨acc ++ fs, n⟩
  | [], p, acc, t, n, _, _, hp, h1, h2 => by
    have hs : rowStep p ⟨acc, t⟩ (turnRow n) = some ⟨acc, n⟩ := step_turn p ⟨acc, t⟩ n (by
      rcases hp with rfl | ⟨a, rfl, _⟩
      · rfl
      · exact bLe_turn a) h1 h2
    show foldQ p ⟨acc, t⟩ [turnRow n] = _
    unfold foldQ
    rw [hs]
    simp [foldQ]
  | f :: r, p, acc, t, n, hf, hr, hp, h1, h2 => by
    have hs : rowStep p ⟨acc, t⟩ (rowF f) = some ⟨acc ++ [f], t⟩ := step_row p ⟨acc, t⟩ f (by
      rcases hp with rfl | ⟨a, rfl, ha⟩
      · rfl
      · show bLe (fB ++ f.name) (fB ++ a) = false
        rw [bLe_f]
        exact not_le_of_lt (ha f (List.mem_cons_self ..))) (hf f (List.mem_cons_self ..)).1 (hf f (List.mem_cons_self ..)).2
    obtain ⟨g1, g2⟩ := List.pairwise_cons.1 hr
    show foldQ p ⟨acc, t⟩ (rowF f :: (r.map rowF ++ [turnRow n])) = _
    unfold foldQ
    rw [hs]
    show foldQ (some (rowF f).key) ⟨acc ++ [f], t⟩ (r.map rowF ++ [turnRow n]) = _
    rw [fold_rows r (some (rowF f).key) (acc ++ [f]) t n (fun g hg => hf g (List.mem_cons_of_mem _ hg)) g2 (Or.inr ⟨f.name, rfl, g1⟩) h1 h2, List.append_assoc]
    rfl
theorem file_parts {f : File} (h : fileFault f = 0) : nameFault f.name.data.toList = 0 ∧ f.text.size ≤ 12 ∧ 1 ≤ f.times ∧ f.times ≤ 9999 := by
  unfold fileFault at h
  split at h
  · rename_i hn; exact absurd h hn
  · rename_i hn
    split at h
    · cases h
    · split at h
      · cases h
      · rename_i hm
        exact ⟨by simpa using hn, by omega, by omega, by omega⟩
theorem name_len {f : File} (h : fileFault f = 0) : f.name.size ≤ 6 := by
  have h1 := (file_parts h).1
  unfold nameFault at h1
  split at h1
  · cases h1
  · split at h1
    · cases h1
    · have : f.name.data.toList.length = f.name.size := by simp
      omega
theorem quilt_good {q : Quilt} (h : quiltFault q = 0) : q.files.length ≤ 8 ∧ Rises q.files ∧ (∀ f ∈ q.files, fileFault f = 0) ∧ 1 ≤ q.turn ∧ q.turn ≤ 9999 := by
  obtain ⟨⟨h1, h2, h3⟩, h4, h5⟩ := (good_iff q).1 h
  exact ⟨h1, h2, h3, h4, h5⟩
theorem parse_rows {q : Quilt} (h : quiltFault q = 0) : parseQ (rowsQ q) = some q := by
  obtain ⟨h1, h2, h3, h4, h5⟩ := quilt_good h
  have hf := fold_rows q.files none [] 0 q.turn (fun f hf => (file_parts (h3 f hf)).2.2) h2 (Or.inl rfl) (by omega) h5
  unfold parseQ rowsQ
  have e : (noQuilt : Quilt) = ⟨[], 0⟩ := rfl
  rw [e, hf]
  simp only [List.nil_append]
  rw [if_neg (by simp [h])]
theorem row_fault {f : File} (h : fileFault f = 0) : changeFault (rowF f) = 0 := by
  have h1 := name_len h
  obtain ⟨_, h2, h3, h4⟩ := file_parts h
  obtain ⟨n, hn⟩ : ∃ n : Nat, f.times = (n : Int) := ⟨f.times.toNat, by omega⟩
  have h5 := four_size n (by omega)
  unfold changeFault rowF
  simp only [hn]
  rw [f_list, if_neg (by simp), if_neg]
  rw [ByteArray.size_append, ByteArray.size_append, h5]
  have : fB.size = 1 := rfl
  omega
theorem turn_fault {n : Int} (h1 : 0 ≤ n) (h2 : n ≤ 9999) : changeFault (turnRow n) = 0 := by
  obtain ⟨m, rfl⟩ : ∃ m : Nat, n = (m : Int) := ⟨n.toNat, by omega⟩
  have h5 := four_size m (by omega)
  unfold changeFault turnRow
  simp only []
  rw [turn_list, if_neg (by simp), if_neg]
  rw [h5]
  have : turnB.size = 4 := rfl
  omega
theorem rowsQ_good {q : Quilt} (h : quiltFault q = 0) : RisesX (rowsQ q) ∧ (∀ c ∈ rowsQ q, changeFault c = 0 ∧ c.gone = false) ∧ (rowsQ q).length ≤ 9 := by
  obtain ⟨h1, h2, h3, h4, h5⟩ := quilt_good h
  refine ⟨?_, fun c hc => ?_, ?_⟩
  · unfold RisesX rowsQ
    rw [List.pairwise_append]
    refine ⟨?_, List.pairwise_singleton .., fun a ha b hb => ?_⟩
    · rw [List.pairwise_map]
      exact h2.imp (fun {a b} hab => by show bLt (fB ++ a.name) (fB ++ b.name) = true; rw [bLt_f]; exact hab)
    · obtain ⟨f, _, rfl⟩ := List.mem_map.1 ha
      rw [List.mem_singleton.1 hb]
      exact bLt_turn f.name
  · unfold rowsQ at hc
    rcases List.mem_append.1 hc with hc | hc
    · obtain ⟨f, hf, rfl⟩ := List.mem_map.1 hc
      exact ⟨row_fault (h3 f hf), rfl⟩
    · rw [List.mem_singleton.1 hc]
      exact ⟨turn_fault (by omega) h5, rfl⟩
  · unfold rowsQ
    rw [List.length_append, List.length_map]
    simp only [List.length_cons, List.length_nil]
    omega
end Go.Proofs.YtggpodlecljcbadGreatDoor
namespace Go.Proofs.YtggpodlecljcbadGreatDoor
set_option linter.unusedSimpArgs false
set_option linter.unusedVariables false
open Go.RowKit Go.Sort
theorem keyX_eq (a b : ByteArray) : (a.toList == b.toList) = true ↔ a = b := by rw [beq_iff_eq, bytes_eq_iff]
theorem bLt_ne {a b : ByteArray} (h : bLt a b = true) : a ≠ b := by
  intro e
  subst e
  rw [bLt_irrefl] at h
  cases h
theorem bLt_asymI {a b : ByteArray} (h : bLt a b = true) : bLt b a = false := by
  cases e : bLt b a
  · rfl
  · have := bLt_trans h e
    rw [bLt_irrefl] at this
    cases this
theorem bLt_eqI {a b : ByteArray} (h1 : bLt a b = false) (h2 : bLt b a = false) : a = b := by
  by_cases h : a.toList = b.toList
  · exact (bytes_eq_iff a b).1 h
  · have := less_total _ _ h1 h
    unfold bLt at h2
    rw [this] at h2
    cases h2
theorem risesX_ext : ∀ (a b : List Change), RisesX a → RisesX b → (∀ c, c ∈ a ↔ c ∈ b) → a = b
  | [], [], _, _, _ => rfl
  | [], y :: b, _, _, h => absurd ((h y).2 (List.mem_cons_self ..)) (by simp)
  | x :: a, [], _, _, h => absurd ((h x).1 (List.mem_cons_self ..)) (by simp)
  | x :: a, y :: b, ha, hb, h => by
    obtain ⟨a1, a2⟩ := List.pairwise_cons.1 ha
    obtain ⟨b1, b2⟩ := List.pairwise_cons.1 hb
    have hxy : x = y := by
      rcases List.mem_cons.1 ((h x).1 (List.mem_cons_self ..)) with h1 | h1
      · exact h1
      · rcases List.mem_cons.1 ((h y).2 (List.mem_cons_self ..)) with h2 | h2
        · exact h2.symm
        · have e1 := b1 x h1
          have e2 := a1 y h2
          rw [bLt_asymI e1] at e2
          cases e2
    subst hxy
    congr 1
    refine risesX_ext a b a2 b2 (fun c => ⟨fun hc => ?_, fun hc => ?_⟩)
    · rcases List.mem_cons.1 ((h c).1 (List.mem_cons_of_mem _ hc)) with h1 | h1
      · subst h1; exact absurd (a1 c hc) (by rw [bLt_irrefl]; simp)
      · exact h1
    · rcases List.mem_cons.1 ((h c).2 (List.mem_cons_of_mem _ hc)) with h1 | h1
      · subst h1; exact absurd (b1 c hc) (by rw [bLt_irrefl]; simp)
      · exact h1
theorem rises_inj {a : List Change} (h : RisesX a) {x y : Change} (hx : x ∈ a) (hy : y ∈ a) (hk : x.key = y.key) : x = y := by
  obtain ⟨i, hi, rfl⟩ := List.getElem_of_mem hx
  obtain ⟨j, hj, rfl⟩ := List.getElem_of_mem hy
  rcases Nat.lt_trichotomy i j with h1 | h1 | h1
  · have := h.at i j h1 hj
    rw [hk, bLt_irrefl] at this; cases this
  · subst h1; rfl
  · have := h.at j i h1 hi
    rw [hk, bLt_irrefl] at this; cases this
def keyIn (b : List Change) (k : ByteArray) : Bool := isAtX b k (rankX b k)
theorem keyIn_iff {b : List Change} (h : RisesX b) (k : ByteArray) : keyIn b k = true ↔ ∃ c ∈ b, c.key = k := by
  unfold keyIn
  constructor
  · intro hi
    have hl := isAt_lenX hi
    rw [isAt_ltX b k _ hl, keyX_eq] at hi
    exact ⟨_, List.getElem_mem hl, hi⟩
  · rintro ⟨c, hc, rfl⟩
    cases hi : isAtX b c.key (rankX b c.key)
    · have := filter_none b c.key h hi
      rw [List.filter_eq_self] at this
      have h2 := this c hc
      simp at h2
    · rfl
theorem keyIn_at {b : List Change} (h : RisesX b) {c : Change} (hc : c ∈ b) : b[rankX b c.key]? = some c := by
  have hk := (keyIn_iff h c.key).2 ⟨c, hc, rfl⟩
  unfold keyIn at hk
  have hl := isAt_lenX hk
  rw [isAt_ltX b _ _ hl, keyX_eq] at hk
  rw [List.getElem?_eq_getElem hl]
  congr 1
  exact rises_inj h (List.getElem_mem hl) hc hk
def goneX (k : ByteArray) : Change := ⟨k, ⟨#[]⟩, true⟩
/-- what is new: not there, or another one. -/
def newIn (a : List Change) (c : Change) : Bool := !keyIn a c.key || match a[rankX a c.key]? with | some x => !decide (x = c) | none => true
theorem newIn_iff {a : List Change} (h : RisesX a) (c : Change) : newIn a c = true ↔ c ∉ a := by
  unfold newIn
  constructor
  · intro hn hc
    rw [(keyIn_iff h c.key).2 ⟨c, hc, rfl⟩, keyIn_at h hc] at hn
    simp at hn
  · intro hn
    cases hk : keyIn a c.key
    · rfl
    · obtain ⟨x, hx, hxk⟩ := (keyIn_iff h c.key).1 hk
      rw [← hxk, keyIn_at h hx]
      have : x ≠ c := fun e => hn (e ▸ hx)
      simp [this]
def outA (a b : List Change) : List Change := (a.filter (fun c => !keyIn b c.key)).map (fun c => goneX c.key)
def outB (a b : List Change) : List Change := b.filter (newIn a)
theorem mem_outA {a b : List Change} (hb : RisesX b) (c : Change) : c ∈ outA a b ↔ ∃ x ∈ a, (∀ y ∈ b, y.key ≠ x.key) ∧ c = goneX x.key := by
  unfold outA
  rw [List.mem_map]
  constructor
  · rintro ⟨x, hx, rfl⟩
    obtain ⟨h1, h2⟩ := List.mem_filter.1 hx
    refine ⟨x, h1, fun y hy e => ?_, rfl⟩
    rw [(keyIn_iff hb x.key).2 ⟨y, hy, e⟩] at h2
    cases h2
  · rintro ⟨x, hx, hn, rfl⟩
    refine ⟨x, List.mem_filter.2 ⟨hx, ?_⟩, rfl⟩
    cases hk : keyIn b x.key
    · rfl
    · obtain ⟨y, hy, e⟩ := (keyIn_iff hb x.key).1 hk
      exact absurd e (hn y hy)
theorem mem_outB {a b : List Change} (ha : RisesX a) (c : Change) : c ∈ outB a b ↔ c ∈ b ∧ c ∉ a := by
  unfold outB
  rw [List.mem_filter, newIn_iff ha]
def mergeC : List Change → List Change → List Change
  | [], b => b
  | x :: a, [] => goneX x.key :: mergeC a []
  | x :: a, y :: b => if bLt x.key y.key = true then goneX x.key :: mergeC a (y :: b) else if bLt y.key x.key = true then y :: mergeC (x :: a) b else if x = y then mergeC a b else y :: mergeC a b
termination_by a b => a.length + b.length
theorem mem_mergeC : ∀ (a b : List Change), RisesX a → RisesX b → ∀ c, c ∈ mergeC a b ↔ (∃ x ∈ a, (∀ y ∈ b, y.key ≠ x.key) ∧ c = goneX x.key) ∨ (c ∈ b ∧ c ∉ a)
  | [], b, _, _, c => by simp [mergeC]
  | x :: a, [], ha, hb, c => by
    rw [mergeC, List.mem_cons, mem_mergeC a [] (List.pairwise_cons.1 ha).2 hb c]
    simp
  | x :: a, y :: b, ha, hb, c => by
    obtain ⟨a1, a2⟩ := List.pairwise_cons.1 ha
    obtain ⟨b1, b2⟩ := List.pairwise_cons.1 hb
    rw [mergeC]
    by_cases h1 : bLt x.key y.key = true
    · have hbx : ∀ z ∈ y :: b, bLt x.key z.key = true := by
        intro z hz
        rcases List.mem_cons.1 hz with rfl | hz
        · exact h1
        · exact bLt_trans h1 (b1 z hz)
      rw [if_pos h1, List.mem_cons, mem_mergeC a (y :: b) a2 hb c]
      constructor
      · rintro (rfl | ⟨z, hz, hn, rfl⟩ | ⟨hc, hn⟩)
        · exact Or.inl ⟨x, List.mem_cons_self .., fun z hz e => bLt_ne (hbx z hz) e.symm, rfl⟩
        · exact Or.inl ⟨z, List.mem_cons_of_mem _ hz, hn, rfl⟩
        · refine Or.inr ⟨hc, fun h => ?_⟩
          rcases List.mem_cons.1 h with rfl | h
          · exact bLt_ne (hbx c hc) rfl
          · exact hn h
      · rintro (⟨z, hz, hn, rfl⟩ | ⟨hc, hn⟩)
        · rcases List.mem_cons.1 hz with rfl | hz
          · exact Or.inl rfl
          · exact Or.inr (Or.inl ⟨z, hz, hn, rfl⟩)
        · exact Or.inr (Or.inr ⟨hc, fun h => hn (List.mem_cons_of_mem _ h)⟩)
    · rw [if_neg h1]
      by_cases h2 : bLt y.key x.key = true
      · have hay : ∀ z ∈ x :: a, bLt y.key z.key = true := by
          intro z hz
          rcases List.mem_cons.1 hz with rfl | hz
          · exact h2
          · exact bLt_trans h2 (a1 z hz)
        rw [if_pos h2, List.mem_cons, mem_mergeC (x :: a) b ha b2 c]
        constructor
        · rintro (rfl | ⟨z, hz, hn, rfl⟩ | ⟨hc, hn⟩)
          · exact Or.inr ⟨List.mem_cons_self .., fun h => bLt_ne (hay c h) rfl⟩
          · refine Or.inl ⟨z, hz, fun u hu => ?_, rfl⟩
            rcases List.mem_cons.1 hu with rfl | hu
            · exact bLt_ne (hay z hz)
            · exact hn u hu
          · exact Or.inr ⟨List.mem_cons_of_mem _ hc, hn⟩
        · rintro (⟨z, hz, hn, rfl⟩ | ⟨hc, hn⟩)
          · exact Or.inr (Or.inl ⟨z, hz, fun u hu => hn u (List.mem_cons_of_mem _ hu), rfl⟩)
          · rcases List.mem_cons.1 hc with rfl | hc
            · exact Or.inl rfl
            · exact Or.inr (Or.inr ⟨hc, hn⟩)
      · rw [if_neg h2]
        have hk : x.key = y.key := bLt_eqI (by simpa using h1) (by simpa using h2)
        have hA : ∀ z ∈ a, z.key ≠ y.key := fun z hz e => bLt_ne (a1 z hz) (hk.trans e.symm)
        have hB : ∀ z ∈ b, z.key ≠ x.key := fun z hz e => bLt_ne (b1 z hz) (hk.symm.trans e.symm)
        have hm := mem_mergeC a b a2 b2 c
        by_cases h3 : x = y
        · subst h3
          rw [if_pos rfl, hm]
          constructor
          · rintro (⟨z, hz, hn, rfl⟩ | ⟨hc, hn⟩)
            · refine Or.inl ⟨z, List.mem_cons_of_mem _ hz, fun u hu => ?_, rfl⟩
              rcases List.mem_cons.1 hu with rfl | hu
              · exact fun e => hA z hz e.symm
              · exact hn u hu
            · refine Or.inr ⟨List.mem_cons_of_mem _ hc, fun h => ?_⟩
              rcases List.mem_cons.1 h with rfl | h
              · exact hB c hc rfl
              · exact hn h
          · rintro (⟨z, hz, hn, rfl⟩ | ⟨hc, hn⟩)
            · rcases List.mem_cons.1 hz with rfl | hz
              · exact absurd rfl (hn z (List.mem_cons_self ..))
              · exact Or.inl ⟨z, hz, fun u hu => hn u (List.mem_cons_of_mem _ hu), rfl⟩
            · rcases List.mem_cons.1 hc with rfl | hc
              · exact absurd (List.mem_cons_self ..) hn
              · exact Or.inr ⟨hc, fun h => hn (List.mem_cons_of_mem _ h)⟩
        · rw [if_neg h3, List.mem_cons, hm]
          constructor
          · rintro (rfl | ⟨z, hz, hn, rfl⟩ | ⟨hc, hn⟩)
            · refine Or.inr ⟨List.mem_cons_self .., fun h => ?_⟩
              rcases List.mem_cons.1 h with h | h
              · exact h3 h.symm
              · exact hA c h rfl
            · refine Or.inl ⟨z, List.mem_cons_of_mem _ hz, fun u hu => ?_, rfl⟩
              rcases List.mem_cons.1 hu with rfl | hu
              · exact fun e => hA z hz e.symm
              · exact hn u hu
            · refine Or.inr ⟨List.mem_cons_of_mem _ hc, fun h => ?_⟩
              rcases List.mem_cons.1 h with rfl | h
              · exact hB c hc rfl
              · exact hn h
          · rintro (⟨z, hz, hn, rfl⟩ | ⟨hc, hn⟩)
            · rcases List.mem_cons.1 hz with rfl | hz
              · exact absurd hk.symm (hn y (List.mem_cons_self ..))
              · exact Or.inr (Or.inl ⟨z, hz, fun u hu => hn u (List.mem_cons_of_mem _ hu), rfl⟩)
            · rcases List.mem_cons.1 hc with rfl | hc
              · exact Or.inl rfl
              · exact Or.inr (Or.inr ⟨hc, fun h => hn (List.mem_cons_of_mem _ h)⟩)
termination_by a b => a.length + b.length
theorem rises_mergeC : ∀ (a b : List Change), RisesX a → RisesX b → RisesX (mergeC a b)
  | [], b, _, hb => by rw [mergeC]; exact hb
  | x :: a, [], ha, hb => by
    obtain ⟨a1, a2⟩ := List.pairwise_cons.1 ha
    rw [mergeC]
    refine List.pairwise_cons.2 ⟨fun c hc => ?_, rises_mergeC a [] a2 hb⟩
    rcases (mem_mergeC a [] a2 hb c).1 hc with ⟨z, hz, _, rfl⟩ | ⟨h, _⟩
    · exact a1 z hz
    · cases h
  | x :: a, y :: b, ha, hb => by
    obtain ⟨a1, a2⟩ := List.pairwise_cons.1 ha
    obtain ⟨b1, b2⟩ := List.pairwise_cons.1 hb
    rw [mergeC]
    by_cases h1 : bLt x.key y.key = true
    · rw [if_pos h1]
      refine List.pairwise_cons.2 ⟨fun c hc => ?_, rises_mergeC a (y :: b) a2 hb⟩
      rcases (mem_mergeC a (y :: b) a2 hb c).1 hc with ⟨z, hz, _, rfl⟩ | ⟨h, _⟩
      · exact a1 z hz
      · rcases List.mem_cons.1 h with rfl | h
        · exact h1
        · exact bLt_trans h1 (b1 c h)
    · rw [if_neg h1]
      by_cases h2 : bLt y.key x.key = true
      · rw [if_pos h2]
        refine List.pairwise_cons.2 ⟨fun c hc => ?_, rises_mergeC (x :: a) b ha b2⟩
        rcases (mem_mergeC (x :: a) b ha b2 c).1 hc with ⟨z, hz, _, rfl⟩ | ⟨h, _⟩
        · rcases List.mem_cons.1 hz with rfl | hz
          · exact h2
          · exact bLt_trans h2 (a1 z hz)
        · exact b1 c h
      · rw [if_neg h2]
        have hk : x.key = y.key := bLt_eqI (by simpa using h1) (by simpa using h2)
        by_cases h3 : x = y
        · rw [if_pos h3]; exact rises_mergeC a b a2 b2
        · rw [if_neg h3]
          refine List.pairwise_cons.2 ⟨fun c hc => ?_, rises_mergeC a b a2 b2⟩
          rcases (mem_mergeC a b a2 b2 c).1 hc with ⟨z, hz, _, rfl⟩ | ⟨h, _⟩
          · show bLt y.key z.key = true
            rw [← hk]; exact a1 z hz
          · exact b1 c h
termination_by a b => a.length + b.length
theorem outs_keys {a b : List Change} (ha : RisesX a) (hb : RisesX b) : (outA a b ++ outB a b).Pairwise (fun x y => x.key ≠ y.key) := by
  refine List.pairwise_append.2 ⟨?_, ?_, ?_⟩
  · unfold outA
    refine List.pairwise_map.2 ?_
    exact (List.Pairwise.filter _ ha).imp (fun h => bLt_ne h)
  · exact (List.Pairwise.filter _ hb).imp (fun h => bLt_ne h)
  · intro x hx y hy e
    obtain ⟨z, hz, hn, rfl⟩ := (mem_outA hb x).1 hx
    exact hn y ((mem_outB ha y).1 hy).1 e.symm
/-- sorted, what is gathered is the merge. -/
theorem sorted_merge {a b l : List Change} (ha : RisesX a) (hb : RisesX b) (hp : l.Perm (outA a b ++ outB a b)) (hs : l.Pairwise (fun x y => bLt y.key x.key = false)) : l = mergeC a b := by
  have hd : l.Pairwise (fun x y => x.key ≠ y.key) := (hp.pairwise_iff (fun h => Ne.symm h)).2 (outs_keys ha hb)
  have hr : RisesX l := (hs.and hd).imp (fun {x y} h => by
    cases e : bLt x.key y.key
    · exact absurd (bLt_eqI e h.1) h.2
    · rfl)
  refine risesX_ext _ _ hr (rises_mergeC a b ha hb) (fun c => ?_)
  rw [hp.mem_iff, List.mem_append, mem_outA hb, mem_outB ha, mem_mergeC a b ha hb]
end Go.Proofs.YtggpodlecljcbadGreatDoor
