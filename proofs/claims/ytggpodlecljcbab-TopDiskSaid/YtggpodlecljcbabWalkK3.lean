/- The walks of disk.full and the reference's noughts. -/
import Derived.Test.YtggpodlecljcbabWalkK2
import Derived.Deep.OwnRows
import Derived.Laws.IdiomStrings
namespace Go.Proofs.Ytggpodlecljcbab
open Go.RowKit Go.Sort
set_option linter.unusedSimpArgs false
set_option linter.unusedVariables false
theorem bytes_info : (Try.prog.info? 5).map (fun i => (i.zero, i.size, i.bytes)) = some (some (.int .u8 0), 1, 1) := by kernel_rfl
theorem make_bytes (n : Nat) (hn : n ≤ 1000) (w : World) : (Instr.makeSlice 127 (.int .i64 (n : Int)) (.int .i64 (n : Int))).run Try.prog w = .ok (.slice (some ⟨w.heap.size, 0, none⟩) n n) (w.alloc (.cells (madeCells #[.int .u8 0] n) 5)) :=
  run_make_row' (P := Try.prog) 127 5 (.int .u8 0) 1 Try.underlying127 bytes_info rfl .i64 .i64 n (by omega) (by omega) w
theorem conv_zeros (n : Nat) (w : World) : (convert 127 9 (.slice (some ⟨w.heap.size, 0, none⟩) n n)).run Try.prog (w.alloc (.cells (madeCells #[.int .u8 0] n) 5)) = .ok (.string (zeros n)) (w.alloc (.cells (madeCells #[.int .u8 0] n) 5)) := by
  have h := run_convert_bytes_back (P := Try.prog) (w.alloc (.cells (madeCells #[.int .u8 0] n) 5)) 127 9 5 ⟨w.heap.size, 0, none⟩ n (List.replicate n 0) Try.underlying127 Try.underlying5 Try.underlying9 (fun j hj => by
    rw [Addr.add_lit]
    have hj' : j < n := by simpa using hj
    simp [madeCells, hj', Nat.mod_one])
  simp only [List.length_replicate] at h
  rw [h]
  simp [zeros]
theorem disk_full (s : ByteArray) (hs : s.size ≤ 40) (w : World) :
    Calls Try.prog 49 #[.string s] w fun e w' => e = .returned (.string (fullS s)) ∧ Below w.heap.size w w' := by
  obtain ⟨n, hn⟩ : ∃ n, n = 40 - s.size := ⟨_, rfl⟩
  have q : (40 : Int) - (s.size : Int) = (n : Int) := by omega
  have hmk := make_bytes n (by omega)
  have hcv := conv_zeros n
  have HB := Lib.hid (below_alloc w (.cells (madeCells #[.int .u8 0] n) 5))
  have HN := Lib.hid hn
  have hz : ¬ 9223372036854775807 < s.size + (zeros n).size := by rw [zeros_size]; omega
  clear hn
  go_enter Try.func49, Try.ntmps49
  go_wp2_with fail
  go_ret
  exact ⟨by unfold fullS; rw [HN.out]; rfl, HB.out⟩
end Go.Proofs.Ytggpodlecljcbab
