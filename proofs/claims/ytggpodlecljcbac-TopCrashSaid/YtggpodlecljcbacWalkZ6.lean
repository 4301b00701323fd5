/- slices.Chunk: its iterator's contract. -/
import Derived.RangeFuncNested
import Derived.RangeFuncBound
import Derived.RangeFuncCalls
import Derived.RangeFuncLeaves
import Derived.Shelf.Abstract
import Derived.Shelf.RegionOpen
import Derived.WalkKit
import Derived.OwnWalkIn
import Derived.TacticsInMore
import Derived.LoopNIn
import Derived.LoopIn
import Derived.RangeFuncWrites
import Derived.Test.YtggpodlecljcbacWalkZ5
namespace Go.Proofs.Ytggpodlecljcbac
set_option linter.unusedSimpArgs false
set_option linter.unusedVariables false
open Go.RowKit Go.Sort Go.Shelf
attribute [local go_sem] Oper.semAt_some
theorem range_pre {k n : Nat} (h : k < n) : List.range (k + 1) <+: List.range n :=
  ⟨(List.range (n - (k + 1))).map (fun x => (k + 1) + x), by rw [← List.range_add]; congr 1; omega⟩
/-- the k-th piece of forty. -/
def pieceV (bb len : Nat) (k : Nat) : Value := .slice (some ⟨bb, 40 * k, none⟩) (min 40 (len - 40 * k)) (min 40 (len - 40 * k))
def keptTwo (Bs Bn : Nat) (W W' : World) : Prop := W.heap.size ≤ W'.heap.size ∧ W'.heap[Bs]? = W.heap[Bs]? ∧ W'.heap[Bn]? = W.heap[Bn]?
set_option maxRecDepth 100000 in
set_option maxHeartbeats 4000000 in
theorem chunk_in (F : Fence) (n : Nat) (hf : F.fn 73) (hro : F.round = none) (hn : 1 ≤ n) (l Bs Bn bb len cap : Nat) (hlen : len ≤ 480) (hcap : len ≤ cap) (hcap2 : cap ≤ 9223372036854775807) (J Jx : List Nat → World → Prop)
    (hY : ∀ pre x W, J pre W → pre.length < cntZ len → YieldAt F (n - 1) Try.prog l #[pieceV bb len x] W fun e W' =>
      (e = .returned (.bool true) ∧ J (pre ++ [x]) W' ∧ keptTwo Bs Bn W W') ∨ (e = .returned (.bool false) ∧ Jx (pre ++ [x]) W'))
    (W : World) (hBs : W.cell? ⟨Bs, 0, none⟩ = some (.slice (some ⟨bb, 0, none⟩) len cap)) (hBn : W.cell? ⟨Bn, 0, none⟩ = some (.int .i64 40)) (h0 : J [] W) (hJd : ∀ p W, J p W → J p W.drew) :
    CallsIn F n Try.prog 73 #[.func (.yield l) #[] #[], .pointer (some ⟨Bs, 0, none⟩), .pointer (some ⟨Bn, 0, none⟩)] W fun e W' => (∃ v, e = .returned v) ∧
      ((∃ ys, ys = List.range (cntZ len) ∧ J ys W') ∨ (∃ pre, pre <+: List.range (cntZ len) ∧ Jx pre W')) := by
  refine callsIn_of_wp Try.func73 rfl hf ?_ hro
  simp only [Try.ntmps73, List.size_toArray, List.length_cons, List.length_nil, Nat.reduceAdd, Nat.reduceSub, Array.replicate_succ, Array.replicate_zero, List.push_toArray, List.append_toArray, List.nil_append, List.cons_append]
  gi_wp2
  gi_loopw [4] (fun i wr => ∃ k : Nat, k ≤ cntZ len ∧ i = .int .i64 (40 * k) ∧ J (List.range k) wr ∧ keptTwo Bs Bn W wr)
    (fun i _ => 2000 - (intOf i).toNat)
  case atStart => exact ⟨0, Nat.zero_le _, rfl, h0, Nat.le_refl _, rfl, rfl⟩
  case round =>
    obtain ⟨k, hk, rfl, hJs, hkt⟩ := hrel
    have c1 : wr.cell? ⟨Bs, 0, none⟩ = some (.slice (some ⟨bb, 0, none⟩) len cap) := by rw [← hBs]; simp only [World.cell?, hkt.2.1]
    have c2 : wr.cell? ⟨Bn, 0, none⟩ = some (.int .i64 40) := by rw [← hBn]; simp only [World.cell?, hkt.2.2]
    have hcn : cntZ len = (len + 39) / 40 := rfl
    by_cases hlt : k < cntZ len
    · have hl : 40 * k < len := by omega
      obtain ⟨fn, tmps, assign, body, hy, hR⟩ := hY _ k wr.drew (hJd _ _ hJs) (by rw [List.length_range]; exact hlt)
      have hl' : (40 * (k : Int)) < (len : Int) := by omega
      have hm : pieceV bb len k = .slice (some ⟨bb, 40 * k, none⟩) ((40 * (k : Int) + min 40 ((len - 40 * k : Nat) : Int)).toNat - 40 * k) ((40 * (k : Int) + min 40 ((len - 40 * k : Nat) : Int)).toNat - 40 * k) := by
        have e : min 40 (len - 40 * k) = (40 * (k : Int) + min 40 ((len - 40 * k : Nat) : Int)).toNat - 40 * k := by omega
        unfold pieceV
        rw [← e]
      rw [hm] at hy
      clear hcn hm
      gi_wp2
      gi_region
      gi_wp2
      all_goals
        refine hR.mono ?_
        rintro e W3 (⟨rfl, hJ3, hk3⟩ | ⟨rfl, hJx3⟩)
        · have d2 : W3.cell? ⟨Bn, 0, none⟩ = some (.int .i64 40) := by rw [← c2]; simp only [World.cell?, hk3.2.2]; rfl
          have hkt3 : keptTwo Bs Bn W W3 := ⟨Nat.le_trans hkt.1 hk3.1, hk3.2.1.trans hkt.2.1, hk3.2.2.trans hkt.2.2⟩
          clear c1 c2
          gi_wp2
          go_roundw
          case rel => exact ⟨k + 1, by omega, by go_num, by rw [List.range_succ]; exact hJ3, hkt3⟩
          case measure => simp [intOf]; omega
        · gi_wp2
          refine bodyPost_ret (results_none rfl _ _ _) rfl ?_
          exact ⟨⟨_, rfl⟩, .inr ⟨_, by rw [← List.range_succ]; exact range_pre hlt, hJx3⟩⟩
    · obtain rfl : k = cntZ len := by omega
      have hl' : ¬ (40 * ((cntZ len : Nat) : Int)) < (len : Int) := by omega
      clear hcn
      gi_wp2
      go_end0
      exact ⟨⟨_, rfl⟩, .inl hJs⟩
/-- **slices.Chunk's iterator** at pieces of forty. -/
theorem chunk_stops (F : Fence) (n : Nat) (hf : F.fn 73) (hro : F.round = none) (hn : 1 ≤ n) (Bs Bn bb len cap : Nat) (hlen : len ≤ 480) (hcap : len ≤ cap) (hcap2 : cap ≤ 9223372036854775807) (w : World) (hBs : w.cell? ⟨Bs, 0, none⟩ = some (.slice (some ⟨bb, 0, none⟩) len cap)) (hBn : w.cell? ⟨Bn, 0, none⟩ = some (.int .i64 40)) :
    SeqStopsK F n Try.prog 73 #[.pointer (some ⟨Bs, 0, none⟩), .pointer (some ⟨Bn, 0, none⟩)] (fun k : Nat => #[pieceV bb len k]) (keptTwo Bs Bn) (fun ys => ys = List.range (cntZ len)) (fun pre => pre <+: List.range (cntZ len)) (cntZ len) w := fun l J Jx W hW hJ hJx hY h0 => by
  have l1 : Bs < w.heap.size := World.block_lt_of_cell? w _ hBs
  have l2 : Bn < w.heap.size := World.block_lt_of_cell? w _ hBn
  exact chunk_in F n hf hro hn l Bs Bn bb len cap hlen hcap hcap2 J Jx hY W ((bcell hW).1 _ _ l1 ▸ hBs) ((bcell hW).1 _ _ l2 ▸ hBn) h0 (fun p W hp => hJ p W W.drew none hp ⟨rfl, rfl, rfl, Nat.le_refl _, fun _ _ _ => rfl⟩ (fun r e => by cases e))
set_option maxRecDepth 100000 in
set_option maxHeartbeats 1000000 in
theorem chunk_made (a : Option Addr) (len cap : Nat) (w : World) :
    Calls Try.prog 43 #[.slice a len cap, .int .i64 40] w fun e w' => e = .returned (.func (.func 73) #[] #[.pointer (some ⟨w.heap.size, 0, none⟩), .pointer (some ⟨w.heap.size + 1, 0, none⟩)]) ∧ w' = (w.alloc (.cells #[.slice a len cap] 93)).alloc (.cells #[.int .i64 40] 3) := by
  go_enter Try.func43, Try.ntmps43
  go_wp2_with fail
  go_ret
  exact ⟨rfl, rfl⟩
end Go.Proofs.Ytggpodlecljcbac
