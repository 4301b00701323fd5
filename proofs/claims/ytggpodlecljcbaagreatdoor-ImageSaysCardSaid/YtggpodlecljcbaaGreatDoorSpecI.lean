/- Plain: chapter 5: a number's four digits. -/
import Derived.Test.YtggpodlecljcbaaGreatDoorSpecX2
import Derived.Lib.ItoaNum
import Derived.Lib.Atoi
namespace Go.Proofs.YtggpodlecljcbaaGreatDoor
set_option linter.unusedSimpArgs false
set_option linter.unusedVariables false
open Go.RowKit Go.Sort
/-- a number with noughts ahead, four bytes at least. -/
def fourI (n : Int) : ByteArray := ⟨(List.replicate (4 - (Lib.itoa n).length) 48 ++ Lib.itoa n).toArray⟩
/-- the number that a text begins with; below 0: none. -/
def numI (s : ByteArray) : Int := if s.size < 4 then -1 else match Lib.atoi (s.data.toList.take 4) with
  | none => -1
  | some n => if (fourI n).data.toList = s.data.toList.take 4 then n else -1
def dgI (n : Nat) : UInt8 := UInt8.ofNat (48 + n)
theorem dgI_toNat {n : Nat} (h : n < 10) : (dgI n).toNat = 48 + n := by
  unfold dgI
  rw [UInt8.toNat_ofNat']
  omega
def dig4 (n : Nat) : List UInt8 := [dgI (n / 1000), dgI (n / 100 % 10), dgI (n / 10 % 10), dgI (n % 10)]
theorem digits_lt (n : Nat) (h : n ≤ 9999) : List.replicate (4 - (Lib.decDigits n).length) 48 ++ Lib.decDigits n = dig4 n := by
  have h0 : (48 : UInt8) = dgI 0 := by decide
  unfold dig4
  by_cases h1 : n < 10
  · rw [Lib.decDigits, dif_pos h1]
    have e1 : n / 1000 = 0 := by omega
    have e2 : n / 100 % 10 = 0 := by omega
    have e3 : n / 10 % 10 = 0 := by omega
    have e4 : n % 10 = n := by omega
    rw [e1, e2, e3, e4]
    rfl
  by_cases h2 : n < 100
  · rw [Lib.decDigits, dif_neg h1, Lib.decDigits, dif_pos (by omega)]
    have e1 : n / 1000 = 0 := by omega
    have e2 : n / 100 % 10 = 0 := by omega
    have e3 : n / 10 % 10 = n / 10 := by omega
    rw [e1, e2, e3]
    rfl
  by_cases h3 : n < 1000
  · rw [Lib.decDigits, dif_neg h1, Lib.decDigits, dif_neg (by omega), Lib.decDigits, dif_pos (by omega)]
    have e1 : n / 1000 = 0 := by omega
    have e2 : n / 100 % 10 = n / 10 / 10 := by omega
    rw [e1, e2]
    rfl
  · rw [Lib.decDigits, dif_neg h1, Lib.decDigits, dif_neg (by omega), Lib.decDigits, dif_neg (by omega), Lib.decDigits, dif_pos (by omega)]
    have e1 : n / 1000 = n / 10 / 10 / 10 := by omega
    have e2 : n / 100 % 10 = n / 10 / 10 % 10 := by omega
    rw [e1, e2]
    rfl
theorem four_nat (n : Nat) (h : n ≤ 9999) : (fourI (n : Int)).data.toList = dig4 n := by
  unfold fourI Lib.itoa
  rw [if_neg (by omega)]
  simp only [Int.toNat_natCast]
  exact digits_lt n h
theorem four_size (n : Nat) (h : n ≤ 9999) : (fourI (n : Int)).size = 4 := by
  have h1 := four_nat n h
  have h2 : (fourI (n : Int)).data.toList.length = 4 := by rw [h1]; rfl
  simpa using h2
theorem digit_dg {d : Nat} (h : d < 10) : Lib.digitVal (dgI d) = some d := by
  unfold Lib.digitVal
  rw [dgI_toNat h, if_pos (by omega)]
  simp
theorem dec_four (a b c d : Nat) (ha : a < 10) (hb : b < 10) (hc : c < 10) (hd : d < 10) : Lib.decFrom 0 [dgI a, dgI b, dgI c, dgI d] = some (((a * 10 + b) * 10 + c) * 10 + d) := by
  simp only [Lib.decFrom, digit_dg ha, digit_dg hb, digit_dg hc, digit_dg hd]
  simp
theorem atoi_four (n : Nat) (h : n ≤ 9999) : Lib.atoi (dig4 n) = some (n : Int) := by
  have hd : Lib.decNat (dig4 n) = some n := by
    unfold Lib.decNat dig4
    rw [if_neg (by simp), dec_four _ _ _ _ (by omega) (by omega) (by omega) (by omega)]
    congr 1
    omega
  have h1 : (dgI (n / 1000) == 45) = false := by
    rw [beq_eq_false_iff_ne]
    intro e
    have := congrArg UInt8.toNat e
    rw [dgI_toNat (by omega)] at this
    have h2 : (45 : UInt8).toNat = 45 := rfl
    omega
  have h2 : (dgI (n / 1000) == 43) = false := by
    rw [beq_eq_false_iff_ne]
    intro e
    have := congrArg UInt8.toNat e
    rw [dgI_toNat (by omega)] at this
    have h2 : (43 : UInt8).toNat = 43 := rfl
    omega
  have hd2 := hd
  unfold dig4 at hd2 ⊢
  unfold Lib.atoi
  simp only [h1, h2, Bool.false_eq_true, if_false, hd2]
  rfl
theorem dec_bound : ∀ (l : List UInt8) (acc n : Nat), Lib.decFrom acc l = some n → n < (acc + 1) * 10 ^ l.length
  | [], acc, n, h => by
    simp only [Lib.decFrom, Option.some.injEq] at h
    simp only [List.length_nil, Nat.pow_zero]
    omega
  | b :: r, acc, n, h => by
    unfold Lib.decFrom at h
    cases hd : Lib.digitVal b with
    | none => rw [hd] at h; cases h
    | some d =>
      rw [hd] at h
      have ih := dec_bound r (acc * 10 + d) n h
      have hd9 : d ≤ 9 := by
        unfold Lib.digitVal at hd
        split at hd
        · simp only [Option.some.injEq] at hd; omega
        · cases hd
      have hp : 0 < 10 ^ r.length := Nat.pow_pos (by decide)
      calc n < (acc * 10 + d + 1) * 10 ^ r.length := ih
        _ ≤ ((acc + 1) * 10) * 10 ^ r.length := Nat.mul_le_mul_right _ (by omega)
        _ = (acc + 1) * 10 ^ (b :: r).length := by rw [List.length_cons, Nat.pow_succ, Nat.mul_assoc, Nat.mul_comm (10 ^ r.length)]
/-- what is a number is four digits. -/
theorem numI_some (s : ByteArray) (h : 0 ≤ numI s) : ∃ n : Nat, numI s = (n : Int) ∧ n ≤ 9999 ∧ 4 ≤ s.size ∧ s.data.toList.take 4 = dig4 n := by
  by_cases h4 : s.size < 4
  · unfold numI at h
    rw [if_pos h4] at h
    omega
  have hl : (s.data.toList.take 4).length = 4 := by
    rw [List.length_take]
    have : s.data.toList.length = s.size := by simp
    omega
  unfold numI at h ⊢
  rw [if_neg h4] at h ⊢
  cases ha : Lib.atoi (s.data.toList.take 4) with
  | none => rw [ha] at h; simp only [] at h; omega
  | some n =>
    rw [ha] at h
    simp only [] at h ⊢
    split at h
    · rename_i he
      rw [if_pos he]
      match hs : s.data.toList.take 4, hl with
      | [a, b, c, d], _ =>
        rw [hs] at ha he
        have hn : n ≤ 9999 ∧ (fourI n).data.toList = [a, b, c, d] := ⟨by
          replace ha : (if (a == 45) = true then (Lib.decNat [b, c, d]).map fun (m : Nat) => -(m : Int) else if (a == 43) = true then (Lib.decNat [b, c, d]).map fun (m : Nat) => (m : Int) else (Lib.decNat [a, b, c, d]).map fun (m : Nat) => (m : Int)) = some n := ha
          split at ha
          · cases hd : Lib.decNat [b, c, d] with
            | none => rw [hd] at ha; cases ha
            | some m => rw [hd] at ha; simp only [Option.map_some, Option.some.injEq] at ha; omega
          · split at ha
            · cases hd : Lib.decNat [b, c, d] with
              | none => rw [hd] at ha; cases ha
              | some m =>
                rw [hd] at ha
                simp only [Option.map_some, Option.some.injEq] at ha
                unfold Lib.decNat at hd
                rw [if_neg (by simp)] at hd
                have := dec_bound _ _ _ hd
                simp only [List.length_cons, List.length_nil] at this
                omega
            · cases hd : Lib.decNat [a, b, c, d] with
              | none => rw [hd] at ha; cases ha
              | some m =>
                rw [hd] at ha
                simp only [Option.map_some, Option.some.injEq] at ha
                unfold Lib.decNat at hd
                rw [if_neg (by simp)] at hd
                have := dec_bound _ _ _ hd
                simp only [List.length_cons, List.length_nil] at this
                omega, he⟩
        obtain ⟨m, rfl⟩ : ∃ m : Nat, n = (m : Int) := ⟨n.toNat, by omega⟩
        refine ⟨m, rfl, by omega, by omega, ?_⟩
        rw [← hn.2]
        exact four_nat m (by omega)
    · omega
theorem numI_four (n : Nat) (h : n ≤ 9999) (s : ByteArray) (h4 : s.data.toList.take 4 = dig4 n) : numI s = (n : Int) := by
  have hl : 4 ≤ s.size := by
    have h1 := congrArg List.length h4
    rw [List.length_take] at h1
    have h2 : s.data.toList.length = s.size := by simp
    have h3 : (dig4 n).length = 4 := rfl
    omega
  unfold numI
  rw [if_neg (by omega), h4, atoi_four n h]
  simp only []
  rw [if_pos (four_nat n h)]
end Go.Proofs.YtggpodlecljcbaaGreatDoor
