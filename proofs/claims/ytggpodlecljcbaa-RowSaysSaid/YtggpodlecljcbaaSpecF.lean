/- Plain: chapter 2: files by their names. -/
import Derived.Test.YtggpodlecljcbaaWalkB
namespace Go.Proofs.Ytggpodlecljcbaa
def bLt (a b : ByteArray) : Bool := Op.bytesLess a.toList b.toList
def bLe (a b : ByteArray) : Bool := Op.bytesLess a.toList b.toList || a.toList == b.toList
/-- The fault of files, the name ahead known. -/
def faultFrom (prev : Option ByteArray) : List File → Nat
  | [] => 0
  | f :: r => if fileFault f ≠ 0 then fileFault f else if (match prev with | some p => bLe f.name p | none => false) then 3 else faultFrom (some f.name) r
/-- B3. -/
def filesFault (l : List File) : Nat := if 8 < l.length then 2 else faultFrom none l
def prevAt (l : List File) (k : Nat) : Option ByteArray := if k = 0 then none else (l[k - 1]?).map File.name
theorem faultFrom_cons (l : List File) (k : Nat) (h : k < l.length) (p : Option ByteArray) : faultFrom p (l.drop k) = if fileFault l[k] ≠ 0 then fileFault l[k] else if (match p with | some p => bLe l[k].name p | none => false) then 3 else faultFrom (some l[k].name) (l.drop (k + 1)) := by
  rw [List.drop_eq_getElem_cons h]
  rfl
theorem prev_zero (l : List File) : prevAt l 0 = none := rfl
theorem prev_succ (l : List File) (k : Nat) (h : k < l.length) : prevAt l (k + 1) = some l[k].name := by simp [prevAt, h]
theorem ff_stop (l : List File) (k n : Nat) (h : k < l.length) (p : Option ByteArray) (hn : fileFault l[k] = n) (h0 : n ≠ 0) : faultFrom p (l.drop k) = n := by
  rw [faultFrom_cons l k h, hn, if_pos h0]
theorem ff_order (l : List File) (k : Nat) (h : k < l.length) (p : ByteArray) (hn : fileFault l[k] = 0) (hl : bLe l[k].name p = true) : faultFrom (some p) (l.drop k) = 3 := by
  rw [faultFrom_cons l k h, hn, if_neg (by simp)]; simp [hl]
theorem ff_next (l : List File) (k : Nat) (h : k < l.length) (p : Option ByteArray) (hn : fileFault l[k] = 0) (hl : ∀ q, p = some q → bLe l[k].name q = false) : faultFrom p (l.drop k) = faultFrom (prevAt l (k + 1)) (l.drop (k + 1)) := by
  rw [faultFrom_cons l k h, hn, if_neg (by simp), prev_succ l k h]
  cases p with
  | none => simp
  | some q => simp [hl q rfl]
theorem ff_end (l : List File) (k : Nat) (h : ¬ k < l.length) (p : Option ByteArray) : faultFrom p (l.drop k) = 0 := by
  rw [List.drop_of_length_le (by omega)]; rfl
/-- B1. -/
def getAt (l : List File) (name : ByteArray) : Option File := l.find? (fun f => f.name.toList == name.toList)
end Go.Proofs.Ytggpodlecljcbaa
