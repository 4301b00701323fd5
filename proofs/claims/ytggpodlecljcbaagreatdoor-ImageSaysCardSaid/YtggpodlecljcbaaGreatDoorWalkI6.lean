/- The walks of the document's digits: Decimal, noughted. -/
import Derived.Test.YtggpodlecljcbaaGreatDoorWalkI
import Derived.Deep.RegionLaw
namespace Go.Proofs.YtggpodlecljcbaaGreatDoor
set_option linter.unusedSimpArgs false
set_option linter.unusedVariables false
open Go.RowKit Go.Sort
def decB (n : Nat) : ByteArray := ⟨(Lib.decDigits n).toArray⟩
theorem decB_small {n : Nat} (h : n < 10) : decB n = ⟨#[dgI n]⟩ := by
  unfold decB
  rw [Lib.decDigits, dif_pos h]
  rfl
theorem decB_big {n : Nat} (h : ¬ n < 10) : decB n = decB (n / 10) ++ ⟨#[dgI (n % 10)]⟩ := by
  unfold decB
  rw [Lib.decDigits, dif_neg h]
  apply ByteArray.ext
  apply Array.toList_inj.1
  rw [app_data]
  rfl
theorem decB_size : ∀ (n : Nat), n ≤ 9999 → (decB n).size ≤ 4 := by
  intro n hn
  by_cases h1 : n < 10
  · rw [decB_small h1]; exact (by decide : (1 : Nat) ≤ 4)
  rw [decB_big h1, ByteArray.size_append]
  have s1 : ∀ k, (⟨#[dgI k]⟩ : ByteArray).size = 1 := fun k => rfl
  rw [s1]
  by_cases h2 : n / 10 < 10
  · rw [decB_small h2, s1]; omega
  rw [decB_big h2, ByteArray.size_append, s1]
  by_cases h3 : n / 10 / 10 < 10
  · rw [decB_small h3, s1]; omega
  rw [decB_big h3, ByteArray.size_append, s1, decB_small (by omega), s1]
  omega
theorem conv_at1I (k : UInt8) (g : Nat) (W : World) (h : W.cell? ⟨g, 0, none⟩ = some (.int .u8 k.toNat)) : (convert 73 9 (.slice (some ⟨g, 0, none⟩) 1 1)).run Tryz.prog W = .ok (.string ⟨#[k]⟩) W := by
  refine run_convert_bytes_back (P := Tryz.prog) _ 73 9 5 ⟨g, 0, none⟩ 1 [k] Tryz.underlying73 Tryz.underlying5 Tryz.underlying9 (fun j hj => ?_)
  rw [Addr.add_lit]
  match j, hj with
  | 0, _ => simpa using h
theorem cells_aI {w0 wA : World} {a : Value} {t : TypeId} (h : Below (w0.alloc (.cells #[a] t)).heap.size (w0.alloc (.cells #[a] t)) wA) : wA.cell? ⟨w0.heap.size, 0, none⟩ = some a ∧ ∀ o, (wA.alloc o).cell? ⟨w0.heap.size, 0, none⟩ = some a := by
  have hlt : w0.heap.size < (w0.alloc (.cells #[a] t)).heap.size := by simp
  exact ⟨by rw [(bcell h).1 _ _ hlt]; simp, fun o => by rw [(bcell (two h (below_alloc _ o))).1 _ _ hlt]; simp⟩
set_option maxRecDepth 100000 in
set_option maxHeartbeats 4000000 in
theorem ref_Decimal : ∀ (n : Nat), n ≤ 9999 → ∀ w, Calls Tryz.prog 34 #[.int .i64 (n : Int)] w fun e w' => e = .returned (.string (decB n)) ∧ Below w.heap.size w w' := by
  intro n
  induction n using Nat.strongRecOn with
  | _ n ih =>
    intro hn w
    have hn0 : ¬ (n : Int) < 0 := by omega
    by_cases h1 : n < 10
    · have h1i : (n : Int) < 10 := by omega
      obtain ⟨R, hR⟩ : ∃ R, R = decB n := ⟨_, rfl⟩
      have hR2 : R = ⟨#[dgI n]⟩ := by rw [hR, decB_small h1]
      have hd := dgI_toNat h1
      have hcv : (convert 73 9 (.slice (some ⟨w.heap.size, 0, none⟩) 1 1)).run Tryz.prog (w.alloc (.cells #[.int .u8 (48 + (n : Int))] 5)) = .ok (.string R) (w.alloc (.cells #[.int .u8 (48 + (n : Int))] 5)) := by
        rw [hR2]
        refine conv_at1I (dgI n) w.heap.size _ ?_
        rw [hd]
        simp
      have hw : IntKind.u8.wrap (48 + (n : Int)) = 48 + (n : Int) := by simp [IntKind.wrap, IntKind.signed, IntKind.bits]; omega
      have HB := Lib.hid (below_alloc w (.cells #[.int .u8 (48 + (n : Int))] 5))
      rw [← hR]
      clear hR hR2 hd ih h1
      go_enter Tryz.func34, Tryz.ntmps34
      go_wp2_with fail
      go_ret
      exact ⟨rfl, HB.out⟩
    · have h1i : ¬ (n : Int) < 10 := by omega
      obtain ⟨q, hq⟩ : ∃ q : Nat, q = n / 10 := ⟨_, rfl⟩
      obtain ⟨r, hr⟩ : ∃ r : Nat, r = n % 10 := ⟨_, rfl⟩
      have hqi : (n : Int) / 10 = (q : Int) := by omega
      have hqt : Int.tdiv (n : Int) 10 = (q : Int) := by rw [hq]; rfl
      have hri : (n : Int) % 10 = (r : Int) := by omega
      have hrt : Int.tmod (n : Int) 10 = (r : Int) := by rw [hr]; rfl
      have C := Lib.hid (ih q (by omega) (by omega))
      have hr10 : r < 10 := by omega
      have hd := dgI_toNat hr10
      obtain ⟨d, hdd⟩ : ∃ d : ByteArray, d = ⟨#[dgI r]⟩ := ⟨_, rfl⟩
      have hdz : d.size = 1 := by rw [hdd]; rfl
      have hc1 : ∀ g W, W.cell? ⟨g, 0, none⟩ = some (.int .u8 (48 + (r : Int))) → (convert 73 9 (.slice (some ⟨g, 0, none⟩) 1 1)).run Tryz.prog W = .ok (.string d) W := fun g W h => by
        rw [hdd]
        refine conv_at1I (dgI r) g W ?_
        rw [hd, h]
        rfl
      have hw : IntKind.u8.wrap (48 + (r : Int)) = 48 + (r : Int) := by simp [IntKind.wrap, IntKind.signed, IntKind.bits]; omega
      have hwq : IntKind.i64.wrap (q : Int) = (q : Int) := by rw [IntKind.wrap_i64]; omega
      have hwr : IntKind.i64.wrap (48 + (r : Int)) = 48 + (r : Int) := by rw [IntKind.wrap_i64]; omega
      obtain ⟨f, hf⟩ : ∃ f, f = decB q := ⟨_, rfl⟩
      have hz : f.size ≤ 4 := by rw [hf]; exact decB_size q (by omega)
      have hz2 : ¬ 9223372036854775807 < f.size + 1 := by omega
      have hz3 : ¬ 9223372036854775807 < f.size + d.size := by omega
      have HR : Hid (decB n = f ++ d) := Lib.hid (by rw [decB_big h1, hf, hdd, hq, hr])
      rw [HR.out]
      rw [← hf] at C
      clear hf hdd hd hq hr ih h1
      go_enter Tryz.func34, Tryz.ntmps34
      go_wp2_with fail
      go_region_law (first
        | (go_simp; go_at_call 34; refine (C.out _).mono ?_; rintro e wA ⟨rfl, hbA⟩; have HBA : Hid (Below w.heap.size w wA) := Lib.hid (by first | exact two (Below.refl _ _).drew hbA | exact two (below_alloc _ _).drew hbA); have hbA2 := two (Below.refl _ _).drew hbA; first | (have G := cells_aI hbA2; (try simp at G)) | skip))
      all_goals
        go_wp2_with fail
        go_ret
        exact ⟨rfl, by first | exact HBA.out | exact two HBA.out (below_alloc _ _)⟩
def zB (k : Nat) : ByteArray := ⟨(List.replicate k 48).toArray⟩
theorem zB_succ (k : Nat) (s : ByteArray) : (⟨#[48]⟩ : ByteArray) ++ (zB k ++ s) = zB (k + 1) ++ s := by
  apply ByteArray.ext
  apply Array.toList_inj.1
  rw [app_data, app_data, app_data]
  rfl
theorem zB_size (k : Nat) : (zB k).size = k := by simp [zB, ByteArray.size]
theorem four_zB (n : Nat) : fourI (n : Int) = zB (4 - (decB n).size) ++ decB n := by
  apply ByteArray.ext
  apply Array.toList_inj.1
  rw [app_data]
  have h1 : (decB n).size = (Lib.decDigits n).length := by simp [decB, ByteArray.size]
  unfold fourI Lib.itoa
  rw [if_neg (by omega), h1]
  simp only [Int.toNat_natCast]
  rfl
set_option maxHeartbeats 2000000 in
theorem ref_noughted (n : Nat) (hn : n ≤ 9999) (w : World) : Calls Tryz.prog 21 #[.int .i64 (n : Int)] w fun e w' => e = .returned (.string (fourI n)) ∧ Below w.heap.size w w' := by
  have C := Lib.hid (ref_Decimal n hn w)
  have HZ := Lib.hid (decB_size n hn)
  go_enter Tryz.func21, Tryz.ntmps21
  go_wp2_with fail
  refine C.out.mono ?_
  rintro e w1 ⟨rfl, hb1⟩
  have HB1 := Lib.hid hb1
  clear hb1
  go_wp2_with fail
  go_loopw [3] (fun v wr => ∃ (k : Nat) (s : ByteArray), v = .string s ∧ s = zB k ++ decB n ∧ k + (decB n).size ≤ 4 ∧ s.size = k + (decB n).size ∧ Below w.heap.size w wr) (fun v _ => match v with | .string s => 4 - s.size | _ => 0)
  case atStart => exact ⟨0, _, rfl, by apply ByteArray.ext; apply Array.toList_inj.1; rw [app_data]; rfl, by have := HZ.out; omega, by omega, HB1.out⟩
  case round =>
    obtain ⟨k, s, rfl, hs, hk, hz, hb⟩ := hrel
    have HS := Lib.hid hs
    have HK := Lib.hid hk
    have HZS := Lib.hid hz
    have HBW := Lib.hid hb
    have hs4 : s.size ≤ 4 := by omega
    clear hs hk hz hb
    by_cases hlt : s.size < 4
    · have hlti : (s.size : Int) < 4 := by omega
      have hz1 : ¬ 9223372036854775807 < 1 + s.size := by omega
      go_wp2_with fail
      go_roundw
      case rel =>
        refine ⟨k + 1, _, rfl, by rw [HS.out]; exact zB_succ k _, ?_, ?_, HBW.out⟩
        · have := HZS.out; omega
        · have h2 := HZS.out
          have h3 : (⟨#[48]⟩ : ByteArray).size = 1 := rfl
          rw [ByteArray.size_append, h3]; omega
      case measure =>
        have h3 : (⟨#[48]⟩ : ByteArray).size = 1 := rfl
        simp only [ByteArray.size_append, h3]; omega
    · have hlti : ¬ (s.size : Int) < 4 := by omega
      have HF : Hid (s = fourI n) := Lib.hid (by
        have h1 := HK.out
        have h2 := HZS.out
        have e : k = 4 - (decB n).size := by omega
        rw [four_zB, ← e]; exact HS.out)
      clear HS
      go_wp2_with fail
      go_ret
      refine ⟨?_, HBW.out⟩
      rw [← HF.out]
      rfl
end Go.Proofs.YtggpodlecljcbaaGreatDoor
