/- The walks of chapter 7: bytes of a change, and back. -/
import Derived.Test.YtggpodlecljcbaaWalkX
import Derived.Laws.IdiomStrings
namespace Go.Proofs.Ytggpodlecljcbaa
open Go.RowKit Go.Sort
set_option linter.unusedSimpArgs false
set_option linter.unusedVariables false
theorem cf_sizes {c : Change} (h : changeFault c = 0) : c.key.size ≤ 8 ∧ c.val.size ≤ 16 := by
  unfold changeFault at h
  split at h
  · cases h
  · split at h
    · cases h
    · omega
theorem conv_gone0 (n : Nat) (hn : n ≤ 255) (w : World) : (convert 155 9 (.slice (some ⟨w.heap.size, 0, none⟩) 2 2)).run Try.prog (w.alloc (.cells #[.int .u8 0, .int .u8 (n : Int)] 5)) = .ok (.string ⟨#[0, n.toUInt8]⟩) (w.alloc (.cells #[.int .u8 0, .int .u8 (n : Int)] 5)) := by
  refine run_convert_bytes_back (P := Try.prog) (w.alloc (.cells #[.int .u8 0, .int .u8 (n : Int)] 5)) 155 9 5 ⟨w.heap.size, 0, none⟩ 2 [0, n.toUInt8] Try.underlying155 Try.underlying5 Try.underlying9 (fun j hj => ?_)
  rw [Addr.add_lit]
  match j, hj with
  | 0, _ => simp
  | 1, _ => simp; omega
theorem conv_gone1 (n : Nat) (hn : n ≤ 255) (w : World) : (convert 155 9 (.slice (some ⟨w.heap.size, 0, none⟩) 2 2)).run Try.prog (w.alloc (.cells #[.int .u8 1, .int .u8 (n : Int)] 5)) = .ok (.string ⟨#[1, n.toUInt8]⟩) (w.alloc (.cells #[.int .u8 1, .int .u8 (n : Int)] 5)) := by
  refine run_convert_bytes_back (P := Try.prog) (w.alloc (.cells #[.int .u8 1, .int .u8 (n : Int)] 5)) 155 9 5 ⟨w.heap.size, 0, none⟩ 2 [1, n.toUInt8] Try.underlying155 Try.underlying5 Try.underlying9 (fun j hj => ?_)
  rw [Addr.add_lit]
  match j, hj with
  | 0, _ => simp
  | 1, _ => simp; omega
set_option maxRecDepth 100000 in
set_option maxHeartbeats 2000000 in
theorem row_Bytes (c : Change) (w : World) (hk : c.key.size ≤ maxLen) (hv : c.val.size ≤ maxLen) :
    Calls Try.prog 45 #[.agg #[.string c.key, .string c.val, .bool c.gone]] w fun e w' => e = .returned (.tuple #[.string (changeBytes c).1, errV (changeBytes c).2]) ∧ Below w.heap.size w w' := by
  obtain ⟨k, v, g⟩ := c
  dsimp only at hk hv ⊢
  have C := Lib.hid fun W => row_Check k v g W hk hv
  unfold maxLen at hk hv
  obtain ⟨W1, hW1⟩ : ∃ W1, W1 = w.alloc (.cells #[.string k, .string v, .bool g] 78) := ⟨_, rfl⟩
  have B1 : Hid (Below w.heap.size w W1) := Lib.hid (by rw [hW1]; exact below_alloc w _)
  have CE : Hid (∀ W, Below W1.heap.size W1 W → W.cell? ⟨w.heap.size, 0, none⟩ = some (.string k) ∧ W.cell? ⟨w.heap.size, 1, none⟩ = some (.string v) ∧ W.cell? ⟨w.heap.size, 2, none⟩ = some (.bool g)) := Lib.hid fun W hb => ⟨cell_on' hb (by rw [hW1]; simp), cell_on' hb (by rw [hW1]; simp), cell_on' hb (by rw [hW1]; simp)⟩
  have HW1 := Lib.hid hW1
  clear hW1
  go_enter Try.func45, Try.ntmps45
  go_wp2_with fail
  rw [← HW1.out]
  refine (C.out _).mono ?_
  rintro e w2 ⟨rfl, hb2⟩
  have HB2 := Lib.hid hb2
  obtain ⟨c0, c1, c2⟩ := CE.out _ hb2
  clear hb2
  by_cases hf : changeFault ⟨k, v, g⟩ = 0
  rotate_left
  · have he : errV (changeFault ⟨k, v, g⟩) = .iface 138 (.int .i64 (changeFault ⟨k, v, g⟩)) := errV_pos hf
    have hcb : Hid (changeBytes ⟨k, v, g⟩ = (⟨#[]⟩, changeFault ⟨k, v, g⟩)) := Lib.hid (by unfold changeBytes; rw [if_pos hf])
    clear hf
    go_wp2_with fail
    refine bodyPost_ret (v := .tuple #[.string ⟨#[]⟩, errV (changeFault ⟨k, v, g⟩)]) (by simp [results, Try.results45, go_sem, he]) rfl ?_
    exact ⟨by rw [hcb.out], two B1.out HB2.out⟩
  have he : errV (changeFault ⟨k, v, g⟩) = .nilIface := by rw [hf]; rfl
  have HF := Lib.hid hf
  obtain ⟨hk8, hv16⟩ := cf_sizes hf
  dsimp only at hk8 hv16
  clear hf hk hv
  cases g
  · have hcv := conv_gone0 k.size (by omega) w2
    have hcb : Hid (changeBytes ⟨k, v, false⟩ = ((⟨#[0, k.size.toUInt8]⟩ : ByteArray) ++ k ++ v, 0)) := Lib.hid (by unfold changeBytes; rw [if_neg (by simp [HF.out])]; rfl)
    have HB3 := Lib.hid (two B1.out (two HB2.out (below_alloc w2 (.cells #[.int .u8 0, .int .u8 (k.size : Int)] 5))))
    obtain ⟨e0, e1, e2⟩ := CE.out _ (two HB2.out (below_alloc w2 (.cells #[.int .u8 0, .int .u8 (k.size : Int)] 5)))
    go_wp2_with fail
    refine bodyPost_ret (v := .tuple #[.string ((⟨#[0, k.size.toUInt8]⟩ : ByteArray) ++ k ++ v), .nilIface]) (by simp [results, Try.results45, go_sem, he]) rfl ?_
    exact ⟨by rw [hcb.out]; rfl, HB3.out⟩
  · have hcv := conv_gone1 k.size (by omega) w2
    have hcb : Hid (changeBytes ⟨k, v, true⟩ = ((⟨#[1, k.size.toUInt8]⟩ : ByteArray) ++ k ++ v, 0)) := Lib.hid (by unfold changeBytes; rw [if_neg (by simp [HF.out])]; rfl)
    have HB3 := Lib.hid (two B1.out (two HB2.out (below_alloc w2 (.cells #[.int .u8 1, .int .u8 (k.size : Int)] 5))))
    obtain ⟨e0, e1, e2⟩ := CE.out _ (two HB2.out (below_alloc w2 (.cells #[.int .u8 1, .int .u8 (k.size : Int)] 5)))
    go_wp2_with fail
    refine bodyPost_ret (v := .tuple #[.string ((⟨#[1, k.size.toUInt8]⟩ : ByteArray) ++ k ++ v), .nilIface]) (by simp [results, Try.results45, go_sem, he]) rfl ?_
    exact ⟨by rw [hcb.out]; rfl, HB3.out⟩
set_option maxRecDepth 100000 in
set_option maxHeartbeats 2000000 in
theorem ref_ChangeBytes (c : Change) (w : World) (hk : c.key.size ≤ maxLen) (hv : c.val.size ≤ maxLen) :
    Calls Try.prog 46 #[.agg #[.string c.key, .string c.val, .bool c.gone]] w fun e w' => e = .returned (.tuple #[.string (changeBytes c).1, .int .i64 (changeBytes c).2]) ∧ Below w.heap.size w w' := by
  obtain ⟨k, v, g⟩ := c
  dsimp only at hk hv ⊢
  have C := Lib.hid fun W => ref_ChangeFault k v g W hk hv
  unfold maxLen at hk hv
  obtain ⟨W1, hW1⟩ : ∃ W1, W1 = w.alloc (.cells #[.string k, .string v, .bool g] 78) := ⟨_, rfl⟩
  have B1 : Hid (Below w.heap.size w W1) := Lib.hid (by rw [hW1]; exact below_alloc w _)
  have CE : Hid (∀ W, Below W1.heap.size W1 W → W.cell? ⟨w.heap.size, 0, none⟩ = some (.string k) ∧ W.cell? ⟨w.heap.size, 1, none⟩ = some (.string v) ∧ W.cell? ⟨w.heap.size, 2, none⟩ = some (.bool g)) := Lib.hid fun W hb => ⟨cell_on' hb (by rw [hW1]; simp), cell_on' hb (by rw [hW1]; simp), cell_on' hb (by rw [hW1]; simp)⟩
  have HW1 := Lib.hid hW1
  clear hW1
  go_enter Try.func46, Try.ntmps46
  go_wp2_with fail
  rw [← HW1.out]
  refine (C.out _).mono ?_
  rintro e w2 ⟨rfl, hb2⟩
  have HB2 := Lib.hid hb2
  obtain ⟨c0, c1, c2⟩ := CE.out _ hb2
  clear hb2
  by_cases hf : changeFault ⟨k, v, g⟩ = 0
  rotate_left
  · have he : (0 : Int) < (changeFault ⟨k, v, g⟩ : Int) := by omega
    have hcb : Hid (changeBytes ⟨k, v, g⟩ = (⟨#[]⟩, changeFault ⟨k, v, g⟩)) := Lib.hid (by unfold changeBytes; rw [if_pos hf])
    clear hf
    go_wp2_with fail
    refine bodyPost_ret (v := .tuple #[.string ⟨#[]⟩, .int .i64 (changeFault ⟨k, v, g⟩)]) (by simp [results, Try.results46, go_sem, he]) rfl ?_
    exact ⟨by rw [hcb.out], two B1.out HB2.out⟩
  have he : ¬ (0 : Int) < (changeFault ⟨k, v, g⟩ : Int) := by omega
  have HF := Lib.hid hf
  obtain ⟨hk8, hv16⟩ := cf_sizes hf
  dsimp only at hk8 hv16
  clear hf hk hv
  cases g
  · have hcv := conv_gone0 k.size (by omega) w2
    have hcb : Hid (changeBytes ⟨k, v, false⟩ = ((⟨#[0, k.size.toUInt8]⟩ : ByteArray) ++ k ++ v, 0)) := Lib.hid (by unfold changeBytes; rw [if_neg (by simp [HF.out])]; rfl)
    have HB3 := Lib.hid (two B1.out (two HB2.out (below_alloc w2 (.cells #[.int .u8 0, .int .u8 (k.size : Int)] 5))))
    obtain ⟨e0, e1, e2⟩ := CE.out _ (two HB2.out (below_alloc w2 (.cells #[.int .u8 0, .int .u8 (k.size : Int)] 5)))
    go_wp2_with fail
    refine bodyPost_ret (v := .tuple #[.string ((⟨#[0, k.size.toUInt8]⟩ : ByteArray) ++ k ++ v), .int .i64 0]) (by simp [results, Try.results46, go_sem, he]) rfl ?_
    exact ⟨by rw [hcb.out]; rfl, HB3.out⟩
  · have hcv := conv_gone1 k.size (by omega) w2
    have hcb : Hid (changeBytes ⟨k, v, true⟩ = ((⟨#[1, k.size.toUInt8]⟩ : ByteArray) ++ k ++ v, 0)) := Lib.hid (by unfold changeBytes; rw [if_neg (by simp [HF.out])]; rfl)
    have HB3 := Lib.hid (two B1.out (two HB2.out (below_alloc w2 (.cells #[.int .u8 1, .int .u8 (k.size : Int)] 5))))
    obtain ⟨e0, e1, e2⟩ := CE.out _ (two HB2.out (below_alloc w2 (.cells #[.int .u8 1, .int .u8 (k.size : Int)] 5)))
    go_wp2_with fail
    refine bodyPost_ret (v := .tuple #[.string ((⟨#[1, k.size.toUInt8]⟩ : ByteArray) ++ k ++ v), .int .i64 0]) (by simp [results, Try.results46, go_sem, he]) rfl ?_
    exact ⟨by rw [hcb.out]; rfl, HB3.out⟩
end Go.Proofs.Ytggpodlecljcbaa
