/- A disk spoilt; few texts. -/
import Derived.Test.YtggpodlecljcbadGreatDoorMT0
namespace Go.Proofs.YtggpodlecljcbadGreatDoor
set_option linter.unusedSimpArgs false
set_option linter.unusedVariables false
open Go.RowKit Go.Sort
def posA (at_ : Int) (k : Nat) : Nat := (bits .and .i64 (at_ + k) 1023).toNat % 50
theorem and1023T (n : Int) : ∃ m : Nat, bits .and .i64 n 1023 = (m : Int) ∧ m ≤ 1023 := by
  refine ⟨(BitVec.ofInt 64 n &&& BitVec.ofInt 64 1023).toNat, ?_, ?_⟩
  · show IntKind.i64.wrap ((BitVec.ofInt 64 n &&& BitVec.ofInt 64 1023).toNat : Int) = _
    have h : (BitVec.ofInt 64 n &&& BitVec.ofInt 64 1023).toNat ≤ 1023 := by
      rw [BitVec.toNat_and]
      exact Nat.le_trans Nat.and_le_right (by decide)
    rw [IntKind.wrap_i64]
    omega
  · rw [BitVec.toNat_and]
    exact Nat.le_trans Nat.and_le_right (by decide)
theorem posA_lt (at_ : Int) (k : Nat) : posA at_ k < 50 := Nat.mod_lt _ (by decide)
theorem posA_zero : ∀ k, k < 50 → posA 0 k = k := by decide +kernel
def wroteD (at_ : Int) (l : List ByteArray) : Nat → DiskS → DiskS
  | 0, D => D
  | k + 1, D => (writeD (wroteD at_ l k D) (posA at_ k : Nat) (l.getD k ⟨#[]⟩)).1
def spoilD (at_ : Int) (l : List ByteArray) (D : DiskS) : DiskS := (flushD (wroteD at_ l l.length D)).1
theorem write_calm {D : DiskS} (h : Calm D) {i : Nat} {s : ByteArray} (hi : i < D.now.length) (hs : s.size ≤ 40) : writeD D (i : Int) s = ({ D with now := D.now.set i (fullS s), wait := D.wait ++ [⟨i, fullS s⟩] }, 0) := by
  have h2 : (stepD D).2 = 0 := by rw [h.step]
  rw [writeD_done hi hs h2, h.step]
structure Wrote (D E : DiskS) (k : Nat) : Prop where
  ok : E.ok
  calm : Calm E
  s40 : ∀ s ∈ E.now, s.size = 40
  len : E.now.length = 50
  wait : E.wait.length ≤ D.wait.length + k
theorem wrote_sound {D : DiskS} (h : Sound D) (at_ : Int) (l : List ByteArray) (hl : ∀ s ∈ l, s.size ≤ 40) : ∀ k, k ≤ l.length → Wrote D (wroteD at_ l k D) k
  | 0, _ => ⟨h.ok, h.calm, h.s40, h.len, Nat.le_refl _⟩
  | k + 1, hk => by
    have ih := wrote_sound h at_ l hl k (by omega)
    have hg : l.getD k ⟨#[]⟩ = l[k] := by rw [List.getD_eq_getElem?_getD, List.getElem?_eq_getElem (by omega)]; rfl
    have hs : (l.getD k ⟨#[]⟩).size ≤ 40 := by rw [hg]; exact hl _ (List.getElem_mem _)
    have hw := write_calm ih.calm (i := posA at_ k) (s := l.getD k ⟨#[]⟩) (by rw [ih.len]; exact posA_lt at_ k) hs
    refine ⟨keptY_ok.write _ _ _ ih.ok, (calm_write _ ih.calm _ _).1, ?_, ?_, ?_⟩
    · show ∀ s ∈ (writeD (wroteD at_ l k D) (posA at_ k : Nat) (l.getD k ⟨#[]⟩)).1.now, s.size = 40
      rw [hw]
      intro s h1
      rcases List.mem_or_eq_of_mem_set h1 with h2 | h2
      · exact ih.s40 s h2
      · rw [h2]; exact fullS_size _ hs
    · show (writeD (wroteD at_ l k D) (posA at_ k : Nat) (l.getD k ⟨#[]⟩)).1.now.length = 50
      rw [hw]
      show ((wroteD at_ l k D).now.set _ _).length = 50
      rw [List.length_set, ih.len]
    · show (writeD (wroteD at_ l k D) (posA at_ k : Nat) (l.getD k ⟨#[]⟩)).1.wait.length ≤ _
      rw [hw]
      show ((wroteD at_ l k D).wait ++ _).length ≤ _
      rw [List.length_append]
      have := ih.wait
      simp only [List.length_cons, List.length_nil]
      omega
theorem spoil_flush {D : DiskS} (h : Sound D) (at_ : Int) (l : List ByteArray) (hl : ∀ s ∈ l, s.size ≤ 40) : flushD (wroteD at_ l l.length D) = (spoilD at_ l D, 0) ∧ Sound (spoilD at_ l D) ∧ (spoilD at_ l D).now = (wroteD at_ l l.length D).now := by
  have hw := wrote_sound h at_ l hl l.length (Nat.le_refl _)
  have hf := hw.calm.flush
  have e : spoilD at_ l D = { wroteD at_ l l.length D with kept := (wroteD at_ l l.length D).now, wait := [] } := by unfold spoilD; rw [hf]
  have hok : (spoilD at_ l D).ok := keptY_ok.flush _ hw.ok
  refine ⟨by rw [e]; exact hf, ⟨hok, (calm_flush _ hw.calm).1, by rw [e]; exact hw.s40, by rw [e]; exact hw.len, by rw [e]; exact Nat.zero_le _⟩, by rw [e]⟩
theorem wrote_zero {D : DiskS} (h : Sound D) (l : List ByteArray) (hl : ∀ s ∈ l, s = ⟨#[]⟩) : ∀ k, k ≤ l.length → k ≤ 50 → ∀ j, j < k → (wroteD 0 l k D).now[j]? = some (zeros 40)
  | 0, _, _, j, hj => by omega
  | k + 1, hk, h50, j, hj => by
    have hl40 : ∀ s ∈ l, s.size ≤ 40 := fun s hs => by rw [hl s hs]; decide
    have ih := wrote_sound h 0 l hl40 k (by omega)
    have hg : l.getD k ⟨#[]⟩ = ⟨#[]⟩ := by rw [List.getD_eq_getElem?_getD, List.getElem?_eq_getElem (by omega)]; exact hl _ (List.getElem_mem _)
    have hw := write_calm ih.calm (i := posA 0 k) (s := l.getD k ⟨#[]⟩) (by rw [ih.len]; exact posA_lt 0 k) (by rw [hg]; decide)
    show (writeD (wroteD 0 l k D) (posA 0 k : Nat) (l.getD k ⟨#[]⟩)).1.now[j]? = _
    rw [hw, hg, posA_zero k (by omega)]
    show ((wroteD 0 l k D).now.set k (fullS ⟨#[]⟩))[j]? = _
    have hz : fullS ⟨#[]⟩ = zeros 40 := by decide +kernel
    rw [hz]
    by_cases e : j = k
    · subst e
      rw [List.getElem?_set_self (by rw [ih.len]; omega)]
    · rw [List.getElem?_set_ne (fun h => e h.symm)]
      exact wrote_zero h l hl k (by omega) (by omega) j (by omega)
/-- a blank disk has no store. -/
theorem spoil_blank {D : DiskS} (h : Sound D) (l : List ByteArray) (hl : ∀ s ∈ l, s = ⟨#[]⟩) (hn : l.length = 50) : copyC (spoilD 0 l D) = ⟨false, noQuilt⟩ := by
  have hl40 : ∀ s ∈ l, s.size ≤ 40 := fun s hs => by rw [hl s hs]; decide
  obtain ⟨_, _, e3⟩ := spoil_flush h 0 l hl40
  have z := wrote_zero h l hl l.length (Nat.le_refl _) (by omega)
  refine copyC_none (copy_none ?_)
  have g0 : (spoilD 0 l D).now.getD 0 ⟨#[]⟩ = zeros 40 := by rw [e3, List.getD_eq_getElem?_getD, z 0 (by omega)]; rfl
  have g1 : (spoilD 0 l D).now.getD 1 ⟨#[]⟩ = zeros 40 := by rw [e3, List.getD_eq_getElem?_getD, z 1 (by omega)]; rfl
  have hp : (pickH (zeros 40) (zeros 40)).epoch = 0 := by
    unfold pickH
    rw [head_zeros]
    decide
  unfold openZ
  rw [g0, g1]
  simp only [hp]
  rfl
def fewT (l : List ByteArray) : Bool := decide (l.length ≤ 60) && l.all (fun s => decide (s.size ≤ 40))
theorem fewT_yes {l : List ByteArray} (h : fewT l = true) : l.length ≤ 60 ∧ ∀ s ∈ l, s.size ≤ 40 := by
  unfold fewT at h
  rw [Bool.and_eq_true] at h
  exact ⟨of_decide_eq_true h.1, fun s hs => of_decide_eq_true (List.all_eq_true.1 h.2 s hs)⟩
set_option maxRecDepth 100000 in
set_option maxHeartbeats 4000000 in
theorem top_fewTexts (va : Value) (l : List ByteArray) (w : World) (ha : Texts w va l) (hok : ∀ s ∈ l, s.size ≤ maxLen) :
    Calls Tryz.prog 20 #[va] w fun e w' => e = .returned (.bool (fewT l)) ∧ w' = w := by
  obtain ⟨vo, vc, rfl, hvc, hvm⟩ := ha.parts
  have HA := Lib.hid ha
  have HOK := Lib.hid hok
  clear ha hok
  by_cases hl : 60 < l.length
  · have hf : fewT l = false := by unfold fewT; rw [decide_eq_false (by omega)]; rfl
    have hl' : (60 : Int) < (l.length : Int) := by omega
    have HF := Lib.hid hf
    clear hf
    go_enter Tryz.func20, Tryz.ntmps20
    go_wp2_with fail
    go_ret
    exact ⟨by rw [HF.out]; rfl, rfl⟩
  · have hl' : ¬ (60 : Int) < (l.length : Int) := by omega
    go_enter Tryz.func20, Tryz.ntmps20
    go_wp2_with fail
    go_loopw [3] (fun iv wr => ∃ k : Nat, k ≤ l.length ∧ iv = .int .i64 k ∧ wr = w ∧ ∀ i (h : i < l.length), i < k → l[i].size ≤ 40) (fun iv _ => l.length - (intOf iv).toNat)
    case atStart => exact ⟨0, Nat.zero_le _, rfl, rfl, fun i _ h => by omega⟩
    case round =>
      obtain ⟨k, hk, rfl, rfl, hall⟩ := hrel
      have HALL := Lib.hid hall
      clear hall
      by_cases hlt : k < l.length
      · obtain ⟨ba, oa, rfl, hlb, x0⟩ := Texts.cell HA.out k hlt
        have hsz := HOK.out l[k] (List.getElem_mem hlt)
        unfold maxLen at hsz
        obtain ⟨s, hs⟩ : ∃ s, s = l[k] := ⟨_, rfl⟩
        rw [← hs] at x0 hsz
        have HS := Lib.hid hs
        clear hs
        by_cases h40 : 40 < s.size
        · have h40' : (40 : Int) < (s.size : Int) := by omega
          have hf : fewT l = false := by
            unfold fewT
            have : l.all (fun s => decide (s.size ≤ 40)) = false := by
              rw [List.all_eq_false]
              exact ⟨l[k], List.getElem_mem hlt, by rw [← HS.out]; simp; omega⟩
            rw [this, Bool.and_false]
          have HF := Lib.hid hf
          clear hf
          go_wp2_with fail
          go_ret
          exact ⟨by rw [HF.out]; rfl, rfl⟩
        · have h40' : ¬ (40 : Int) < (s.size : Int) := by omega
          go_wp2_with fail
          go_roundw
          case rel =>
            refine ⟨k + 1, by omega, by go_num, by trivial, fun i hi hik => ?_⟩
            by_cases e : i = k
            · subst e; rw [← HS.out]; omega
            · exact HALL.out i hi (by omega)
          case measure => simp [intOf]; omega
      · obtain rfl : k = l.length := by omega
        have hf : fewT l = true := by
          unfold fewT
          rw [decide_eq_true (by omega), Bool.true_and, List.all_eq_true]
          intro s hs
          obtain ⟨i, hi, rfl⟩ := List.getElem_of_mem hs
          exact decide_eq_true (HALL.out i hi hi)
        have HF := Lib.hid hf
        clear hf
        go_wp2_with fail
        go_ret
        exact ⟨by rw [HF.out]; rfl, rfl⟩
set_option maxRecDepth 100000 in
set_option maxHeartbeats 4000000 in
theorem top_spoil (L : Dk) (D : DiskS) (at_ : Int) (v : Value) (l : List ByteArray) (w : World) (h : DiskAt w L D) (hs : Sound D) (hat : 0 ≤ at_ ∧ at_ ≤ 1023) (hv : RdF L.foot 1 strCells w v l) (hl : l.length ≤ 60) (h40 : ∀ s ∈ l, s.size ≤ 40) :
    Calls Tryz.prog 19 #[.pointer (some ⟨L.b, 0, none⟩), .int .i64 at_, v] w fun e w' => e = .returned (.bool true) ∧ Turned 68 72 w L (spoilD at_ l D) w' := by
  obtain ⟨vo, vc, rfl, hvc, hvm⟩ := hv.rd.parts
  obtain ⟨hf1, hf2, _⟩ := spoil_flush hs at_ l h40
  have HF := Lib.hid hf1
  have HWS : Hid (∀ k, k ≤ l.length → Wrote D (wroteD at_ l k D) k) := Lib.hid (wrote_sound hs at_ l h40)
  have HD := Lib.hid h
  have HV := Lib.hid hv
  have HW : Hid (D.wait.length ≤ 900000) := Lib.hid hs.wait
  have H40 := Lib.hid h40
  obtain ⟨ha1, ha2⟩ := hat
  obtain ⟨b, hb⟩ : ∃ b, b = L.b := ⟨_, rfl⟩
  rw [← hb]
  have HB := Lib.hid hb
  clear hf1 hf2 h hs hv h40 hb
  go_enter Tryz.func19, Tryz.ntmps19
  go_wp2_with fail
  go_loopw [7] (fun iv wr => ∃ (k : Nat) (L' : Dk), k ≤ l.length ∧ iv = .int .i64 k ∧ TurnedTo w L L' (wroteD at_ l k D) wr ∧ RdF L'.foot 1 strCells wr (.slice vo l.length vc) l) (fun iv _ => l.length - (intOf iv).toNat)
  case atStart => exact ⟨0, L, Nat.zero_le _, rfl, TurnedTo.refl HD.out, HV.out⟩
  case round =>
    obtain ⟨k, L', hk, rfl, htt, hrv⟩ := hrel
    have HT := Lib.hid htt
    have HR := Lib.hid hrv
    clear htt hrv
    have hok := HWS.out k hk
    by_cases hlt : k < l.length
    · obtain ⟨ba, oa, rfl, hlb, x0⟩ := Texts.cell HR.out.rd k hlt
      have hsz := H40.out l[k] (List.getElem_mem hlt)
      have hg : l.getD k ⟨#[]⟩ = l[k] := by rw [List.getD_eq_getElem?_getD, List.getElem?_eq_getElem hlt]; rfl
      have CWr := disk_Write L' (wroteD at_ l k D) (posA at_ k : Nat) (l.getD k ⟨#[]⟩) wr HT.out.d hok.ok (by have := hok.wait; have := HW.out; omega)
      have hwc := write_calm hok.calm (i := posA at_ k) (s := l.getD k ⟨#[]⟩) (by rw [hok.len]; exact posA_lt at_ k) (by rw [hg]; exact hsz)
      have hw1 : (writeD (wroteD at_ l k D) (posA at_ k : Nat) (l.getD k ⟨#[]⟩)).1 = wroteD at_ l (k + 1) D := rfl
      have hw2 : (writeD (wroteD at_ l k D) (posA at_ k : Nat) (l.getD k ⟨#[]⟩)).2 = 0 := by rw [hwc]
      rw [hw1, hw2, errV_zero, HT.out.eq, ← HB.out, hg] at CWr
      obtain ⟨m, hm, hm2⟩ := and1023T (at_ + k)
      have hr : (m : Int) % 50 = ((posA at_ k : Nat) : Int) := by
        unfold posA
        rw [hm]
        show (m : Int) % 50 = ((m % 50 : Nat) : Int)
        omega
      obtain ⟨pk, hpk⟩ : ∃ pk, pk = posA at_ k := ⟨_, rfl⟩
      rw [← hpk] at CWr hr
      obtain ⟨s, hs⟩ : ∃ s, s = l[k] := ⟨_, rfl⟩
      rw [← hs] at x0 hsz CWr
      have HCW := Lib.hid CWr
      have h40' : ¬ (40 : Int) < (s.size : Int) := by omega
      clear CWr hwc hw1 hw2 hg hs hpk hok hlb
      go_wp2_with fail
      refine HCW.out.mono ?_
      rintro e w3 ⟨rfl, ht3⟩
      obtain ⟨L3, hL3⟩ := HT.out.next ht3
      obtain ⟨L4, e4, d4, o4, g4⟩ := ht3
      have HX : Hid (∃ L3, TurnedTo w L L3 (wroteD at_ l (k + 1) D) w3 ∧ RdF L3.foot 1 strCells w3 (.slice (some ⟨ba, oa, none⟩) l.length vc) l) := Lib.hid ⟨L4, ⟨e4.trans HT.out.eq, d4, HT.out.off.trans o4 (fun x hx hG => by
        rcases HT.out.grow x hG with h1 | h1
        · exact h1
        · omega), fun x hx => by
        rcases g4 x hx with h1 | h1
        · exact HT.out.grow x h1
        · exact Or.inr (Nat.le_trans HT.out.off.size h1)⟩, HR.out.turned (by decide) o4 g4⟩
      clear hL3 e4 d4 o4 g4 x0 hm hr
      go_wp2_with fail
      go_roundw
      case rel =>
        obtain ⟨L5, h5, h6⟩ := HX.out
        exact ⟨k + 1, L5, by omega, by go_num, h5, h6⟩
      case measure => simp [intOf]; omega
    · obtain rfl : k = l.length := by omega
      have CF := disk_Flush L' (wroteD at_ l l.length D) wr HT.out.d hok.ok
      rw [HF.out] at CF
      dsimp only at CF
      rw [errV_zero, HT.out.eq, ← HB.out] at CF
      have HCF := Lib.hid CF
      clear CF hok
      go_wp2_with fail
      refine HCF.out.mono ?_
      rintro e w3 ⟨rfl, ht3⟩
      have HT3 := Lib.hid ht3
      clear ht3
      go_wp2_with fail
      go_ret
      obtain ⟨L5, h5⟩ := HT.out.next HT3.out
      exact ⟨rfl, h5.turned⟩
end Go.Proofs.YtggpodlecljcbadGreatDoor
