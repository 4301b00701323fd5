/- Bounds of numbers that fit. -/
import Derived.Test.YtggpodlecljcbacOpenA
namespace Go.Proofs.Ytggpodlecljcbac
open Go.RowKit Go.Sort
theorem wf_i64 {n : Int} (h : (Lit.int .i64 n).wf = true) : -9223372036854775808 ≤ n ∧ n ≤ 9223372036854775807 := by
  have h1 : (decide (IntKind.min .i64 ≤ n) && decide (n ≤ IntKind.max .i64)) = true := h
  simp only [Bool.and_eq_true, decide_eq_true_eq] at h1
  exact h1
theorem wf_u64 {n : Int} (h : (Lit.int .u64 n).wf = true) : 0 ≤ n ∧ n < 18446744073709551616 := by
  have h1 : (decide (IntKind.min .u64 ≤ n) && decide (n ≤ IntKind.max .u64)) = true := h
  simp only [Bool.and_eq_true, decide_eq_true_eq] at h1
  have h2 : 0 ≤ n ∧ n ≤ 18446744073709551615 := h1
  omega
end Go.Proofs.Ytggpodlecljcbac
