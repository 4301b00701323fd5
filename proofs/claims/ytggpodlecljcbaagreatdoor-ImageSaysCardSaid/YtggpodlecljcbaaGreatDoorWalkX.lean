/- The walks of chapter 7: row.Check, the document's ChangeFault. The walks of chapter 7: bytes of a change, and back. The walks of chapter 7: a change of bytes. -/
import Derived.Test.YtggpodlecljcbaaGreatDoorSpecX2
import Derived.Laws.IdiomStrings
namespace Go.Proofs.YtggpodlecljcbaaGreatDoor
open Go.RowKit Go.Sort
set_option linter.unusedSimpArgs false
set_option linter.unusedVariables false
theorem cf_key {k v : ByteArray} {g : Bool} (h : k.toList = []) : changeFault ⟨k, v, g⟩ = 3 := by simp [changeFault, h]
theorem cf_gone {k v : ByteArray} (h : ¬ k.toList = []) (h2 : ¬ v.toList = []) : changeFault ⟨k, v, true⟩ = 3 := by simp [changeFault, h, h2]
theorem cf_long {k v : ByteArray} {g : Bool} (h : ¬ k.toList = []) (h2 : g = false ∨ v.toList = []) (h3 : 8 < k.size ∨ 16 < v.size) : changeFault ⟨k, v, g⟩ = 2 := by
  rcases h2 with rfl | h2 <;> simp [changeFault, h, h3, *]
theorem cf_good {k v : ByteArray} {g : Bool} (h : ¬ k.toList = []) (h2 : g = false ∨ v.toList = []) (h3 : ¬ (8 < k.size ∨ 16 < v.size)) : changeFault ⟨k, v, g⟩ = 0 := by
  rcases h2 with rfl | h2 <;> simp [changeFault, h, h3, *]
end Go.Proofs.YtggpodlecljcbaaGreatDoor
namespace Go.Proofs.YtggpodlecljcbaaGreatDoor
open Go.RowKit Go.Sort
set_option linter.unusedSimpArgs false
set_option linter.unusedVariables false
theorem cf_sizes {c : Change} (h : changeFault c = 0) : c.key.size ≤ 8 ∧ c.val.size ≤ 16 := by
  unfold changeFault at h
  split at h
  · cases h
  · split at h
    · cases h
    · omega
theorem conv_gone0 (n : Nat) (hn : n ≤ 255) (w : World) : (convert 73 9 (.slice (some ⟨w.heap.size, 0, none⟩) 2 2)).run Tryz.prog (w.alloc (.cells #[.int .u8 0, .int .u8 (n : Int)] 5)) = .ok (.string ⟨#[0, n.toUInt8]⟩) (w.alloc (.cells #[.int .u8 0, .int .u8 (n : Int)] 5)) := by
  refine run_convert_bytes_back (P := Tryz.prog) (w.alloc (.cells #[.int .u8 0, .int .u8 (n : Int)] 5)) 73 9 5 ⟨w.heap.size, 0, none⟩ 2 [0, n.toUInt8] Tryz.underlying73 Tryz.underlying5 Tryz.underlying9 (fun j hj => ?_)
  rw [Addr.add_lit]
  match j, hj with
  | 0, _ => simp
  | 1, _ => simp; omega
theorem conv_gone1 (n : Nat) (hn : n ≤ 255) (w : World) : (convert 73 9 (.slice (some ⟨w.heap.size, 0, none⟩) 2 2)).run Tryz.prog (w.alloc (.cells #[.int .u8 1, .int .u8 (n : Int)] 5)) = .ok (.string ⟨#[1, n.toUInt8]⟩) (w.alloc (.cells #[.int .u8 1, .int .u8 (n : Int)] 5)) := by
  refine run_convert_bytes_back (P := Tryz.prog) (w.alloc (.cells #[.int .u8 1, .int .u8 (n : Int)] 5)) 73 9 5 ⟨w.heap.size, 0, none⟩ 2 [1, n.toUInt8] Tryz.underlying73 Tryz.underlying5 Tryz.underlying9 (fun j hj => ?_)
  rw [Addr.add_lit]
  match j, hj with
  | 0, _ => simp
  | 1, _ => simp; omega
end Go.Proofs.YtggpodlecljcbaaGreatDoor
namespace Go.Proofs.YtggpodlecljcbaaGreatDoor
open Go.RowKit Go.Sort
set_option linter.unusedSimpArgs false
set_option linter.unusedVariables false
/-- A box of a change. -/
structure QXAt (w : World) (b : Nat) (c : Change) : Prop where
  c0 : w.cell? ⟨b, 0, none⟩ = some (.string c.key)
  c1 : w.cell? ⟨b, 1, none⟩ = some (.string c.val)
  c2 : w.cell? ⟨b, 2, none⟩ = some (.bool c.gone)
  f0 : w.frozen? ⟨b, 0, none⟩ = false
  f1 : w.frozen? ⟨b, 1, none⟩ = false
  f2 : w.frozen? ⟨b, 2, none⟩ = false
  lt : b < w.heap.size
theorem QXAt.new (w : World) (c : Change) : QXAt (w.alloc (.cells #[.string c.key, .string c.val, .bool c.gone] 41)) w.heap.size c := ⟨by simp, by simp, by simp, by simp, by simp, by simp, by simp⟩
theorem QXAt.below {w w' : World} {b : Nat} {c : Change} (h : QXAt w b c) (hb : Below w.heap.size w w') : QXAt w' b c := by
  obtain ⟨k, fr⟩ := bcell hb
  exact ⟨(k _ _ h.lt).trans h.c0, (k _ _ h.lt).trans h.c1, (k _ _ h.lt).trans h.c2, (fr _ _ h.lt).trans h.f0, (fr _ _ h.lt).trans h.f1, (fr _ _ h.lt).trans h.f2, Nat.lt_of_lt_of_le h.lt hb.size⟩
end Go.Proofs.YtggpodlecljcbaaGreatDoor
