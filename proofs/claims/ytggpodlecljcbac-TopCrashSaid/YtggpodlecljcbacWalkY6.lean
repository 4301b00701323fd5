/- The walk of log.text. -/
import Derived.Test.YtggpodlecljcbacSpecY3
import Derived.Deep.RegionLaw
namespace Go.Proofs.Ytggpodlecljcbac
set_option linter.unusedSimpArgs false
set_option linter.unusedVariables false
open Go.RowKit Go.Sort
/-- a text of one or two bytes, out of a block that holds them. -/
theorem conv_at1 (k : UInt8) (g : Nat) (W : World) (h : W.cell? ⟨g, 0, none⟩ = some (.int .u8 k.toNat)) : (convert 93 9 (.slice (some ⟨g, 0, none⟩) 1 1)).run Try.prog W = .ok (.string ⟨#[k]⟩) W := by
  refine run_convert_bytes_back (P := Try.prog) _ 93 9 5 ⟨g, 0, none⟩ 1 [k] Try.underlying93 Try.underlying5 Try.underlying9 (fun j hj => ?_)
  rw [Addr.add_lit]
  match j, hj with
  | 0, _ => simpa using h
theorem conv_at2 (x y : UInt8) (g : Nat) (W : World) (h : W.cell? ⟨g, 0, none⟩ = some (.int .u8 x.toNat)) (h' : W.cell? ⟨g, 1, none⟩ = some (.int .u8 y.toNat)) : (convert 93 9 (.slice (some ⟨g, 0, none⟩) 2 2)).run Try.prog W = .ok (.string ⟨#[x, y]⟩) W := by
  refine run_convert_bytes_back (P := Try.prog) _ 93 9 5 ⟨g, 0, none⟩ 2 [x, y] Try.underlying93 Try.underlying5 Try.underlying9 (fun j hj => ?_)
  rw [Addr.add_lit]
  match j, hj with
  | 0, _ => simpa using h
  | 1, _ => simpa using h'
theorem cells_a {w0 wA : World} {a : Value} {t : TypeId} (h : Below (w0.alloc (.cells #[a] t)).heap.size (w0.alloc (.cells #[a] t)) wA) : wA.cell? ⟨w0.heap.size, 0, none⟩ = some a ∧ ∀ o, (wA.alloc o).cell? ⟨w0.heap.size, 0, none⟩ = some a := by
  have hlt : w0.heap.size < (w0.alloc (.cells #[a] t)).heap.size := by simp
  exact ⟨by rw [(bcell h).1 _ _ hlt]; simp, fun o => by rw [(bcell (two h (below_alloc _ o))).1 _ _ hlt]; simp⟩
theorem cells_b {w0 wA : World} {a b : Value} {t : TypeId} (h : Below (w0.alloc (.cells #[a, b] t)).heap.size (w0.alloc (.cells #[a, b] t)) wA) : (wA.cell? ⟨w0.heap.size, 0, none⟩ = some a ∧ wA.cell? ⟨w0.heap.size, 1, none⟩ = some b) ∧ ∀ o, (wA.alloc o).cell? ⟨w0.heap.size, 0, none⟩ = some a ∧ (wA.alloc o).cell? ⟨w0.heap.size, 1, none⟩ = some b := by
  have hlt : w0.heap.size < (w0.alloc (.cells #[a, b] t)).heap.size := by simp
  exact ⟨⟨by rw [(bcell h).1 _ _ hlt]; simp, by rw [(bcell h).1 _ _ hlt]; simp⟩, fun o => ⟨by rw [(bcell (two h (below_alloc _ o))).1 _ _ hlt]; simp, by rw [(bcell (two h (below_alloc _ o))).1 _ _ hlt]; simp⟩⟩
theorem cells_ab {w0 wA : World} {a b c : Value} {t t' : TypeId} (h : Below ((w0.alloc (.cells #[a] t)).alloc (.cells #[b, c] t')).heap.size ((w0.alloc (.cells #[a] t)).alloc (.cells #[b, c] t')) wA) : wA.cell? ⟨w0.heap.size, 0, none⟩ = some a ∧ wA.cell? ⟨(w0.alloc (.cells #[a] t)).heap.size, 0, none⟩ = some b ∧ wA.cell? ⟨(w0.alloc (.cells #[a] t)).heap.size, 1, none⟩ = some c :=
  ⟨(cells_a (two (below_alloc _ _) h)).1, (cells_b h).1.1, (cells_b h).1.2⟩
theorem cells_ba {w0 wA : World} {a b c : Value} {t t' : TypeId} (h : Below ((w0.alloc (.cells #[b, c] t')).alloc (.cells #[a] t)).heap.size ((w0.alloc (.cells #[b, c] t')).alloc (.cells #[a] t)) wA) : wA.cell? ⟨(w0.alloc (.cells #[b, c] t')).heap.size, 0, none⟩ = some a ∧ wA.cell? ⟨w0.heap.size, 0, none⟩ = some b ∧ wA.cell? ⟨w0.heap.size, 1, none⟩ = some c :=
  ⟨(cells_a h).1, (cells_b (two (below_alloc _ _) h)).1.1, (cells_b (two (below_alloc _ _) h)).1.2⟩
set_option maxRecDepth 100000 in
set_option maxHeartbeats 4000000 in
theorem log_text (k : UInt8) (n : Nat) (s : ByteArray) (w : World) (hn : n ≤ 2000000000) (hs : s.size ≤ 33) :
    Calls Try.prog 87 #[.int .u8 k.toNat, .int .i64 n, .string s] w fun e w' => e = .returned (.string (textY k n s)) ∧ Below w.heap.size w w' := by
  have CF := Lib.hid fun W => log_four n W (by omega)
  have hkb : k.toNat ≤ 255 := by have := k.toNat_lt; omega
  have hc1 := conv_at1 k
  have hw1 : IntKind.u8.wrap (s.size : Int) = s.size := by simp [IntKind.wrap, IntKind.signed, IntKind.bits]; omega
  have hw2 : IntKind.u8.wrap ((s.size : Int) / 256) = (s.size : Int) / 256 := by simp [IntKind.wrap, IntKind.signed, IntKind.bits]; omega
  have hc2 : ∀ g W, W.cell? ⟨g, 0, none⟩ = some (.int .u8 s.size) → W.cell? ⟨g, 1, none⟩ = some (.int .u8 ((s.size : Int) / 256)) → (convert 93 9 (.slice (some ⟨g, 0, none⟩) 2 2)).run Try.prog W = .ok (.string ⟨#[s.size.toUInt8, (s.size / 256).toUInt8]⟩) W := fun g W h0 h1 => by
    have a1 : s.size.toUInt8.toNat = s.size := by simp; omega
    have a2 : (s.size / 256).toUInt8.toNat = s.size / 256 := by simp; omega
    exact conv_at2 _ _ g W (by rw [a1]; exact h0) (by rw [a2]; exact h1)
  obtain ⟨f, hf⟩ : ∃ f, f = fourB n := ⟨_, rfl⟩
  obtain ⟨kb, hkb1⟩ : ∃ f, f = (⟨#[k]⟩ : ByteArray) := ⟨_, rfl⟩
  obtain ⟨lb, hlb⟩ : ∃ f, f = (⟨#[s.size.toUInt8, (s.size / 256).toUInt8]⟩ : ByteArray) := ⟨_, rfl⟩
  have hR : textY k n s = kb ++ f ++ lb ++ s := by rw [hf, hkb1, hlb]; rfl
  have z1 : f.size = 4 := by rw [hf]; rfl
  have z2 : kb.size = 1 := by rw [hkb1]; rfl
  have z3 : lb.size = 2 := by rw [hlb]; rfl
  have z12 : (kb ++ f).size = 5 := by rw [ByteArray.size_append, z1, z2]
  have z123 : (kb ++ f ++ lb).size = 7 := by rw [ByteArray.size_append, z12, z3]
  have z4 : ¬ 9223372036854775807 < 7 + s.size := by omega
  rw [← hf] at CF
  rw [← hkb1] at hc1
  rw [← hlb] at hc2
  have HR := Lib.hid hR
  rw [hR]
  clear hf hkb1 hlb hR
  go_enter Try.func87, Try.ntmps87
  go_wp2_with fail
  go_region_law (first
    | (go_simp; go_at_call 77; refine (CF.out _).mono ?_; rintro e wA ⟨rfl, hbA⟩; have HBA : Hid (Below w.heap.size w wA) := Lib.hid (by first | exact two (Below.refl _ _).drew hbA | exact two (below_alloc _ _).drew hbA | exact two (two (below_alloc _ _) (below_alloc _ _)).drew hbA); have hbA2 := two (Below.refl _ _).drew hbA; first | (have G := cells_ab hbA2; (try simp at G)) | (have G := cells_ba hbA2; (try simp at G)) | (have G := cells_a hbA2; (try simp at G)) | (have G := cells_b hbA2; (try simp at G)) | skip))
  all_goals
    go_wp2_with fail
    go_ret
    exact ⟨rfl, by first | exact HBA.out | exact two HBA.out (below_alloc _ _) | exact two (two HBA.out (below_alloc _ _)) (below_alloc _ _)⟩
end Go.Proofs.Ytggpodlecljcbac
