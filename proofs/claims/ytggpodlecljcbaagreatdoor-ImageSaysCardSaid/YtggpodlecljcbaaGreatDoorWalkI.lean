/- The walks of image.four, image.number. -/
import Derived.Test.YtggpodlecljcbaaGreatDoorSpecI2
import Derived.Test.YtggpodlecljcbaaGreatDoorShelf
import Derived.Lib.SmallJoins
import Derived.Lib.Repeat
import Derived.Lib.AppendIntMem
import Derived.Lib.ItoaLen
namespace Go.Proofs.YtggpodlecljcbaaGreatDoor
set_option linter.unusedSimpArgs false
set_option linter.unusedVariables false
open Go.RowKit Go.Sort
/-- what the library's tables hold. -/
structure GlobI (w : World) : Prop where
  tab : Lib.TabIs Tryz.prog w "internal/strconv.uint64pow10" .u64 Lib.pow10Tab
  err : ∃ ev, w.cell? ⟨1, 0, none⟩ = some ev ∧ (ev = .nilIface ∨ ∃ te pe, ev = .iface te pe)
theorem GlobI.below {w w' : World} (h : GlobI w) (hb : Below w.heap.size w w') : GlobI w' := by
  obtain ⟨ev, h1, h2⟩ := h.err
  exact ⟨Go.Joins.tab_stays (g := 3) (by kernel_rfl) h.tab hb (Nat.le_refl _), ev, cell_on' hb h1, h2⟩
theorem grown_belowI (w : World) (k : Nat) (os : Array Obj) : Below w.heap.size w (grow (w.drewN k) os) := Lib.below_grow w.heap.size w (Nat.le_refl _) k os
theorem repeat_one (c : Nat) : Lib.repeatL [48] c = List.replicate c (48 : UInt8) := by
  induction c with
  | zero => rfl
  | succ c ih => rw [Lib.repeatL, ih, List.replicate_succ]; rfl
theorem four_cat (n : Int) : (⟨(Lib.repeatL [48] (4 - (Lib.itoa n).length)).toArray⟩ : ByteArray) ++ ⟨(Lib.itoa n).toArray⟩ = fourI n := by
  rw [repeat_one]
  apply ByteArray.ext
  apply Array.toList_inj.1
  rw [app_data]
  rfl
theorem image_four (n : Int) (hn1 : -9999 ≤ n) (hn2 : n ≤ 99999) (w : World) (hg : GlobI w) :
    Calls Tryz.prog 20 #[.int .i64 n] w fun e w' => e = .returned (.string (fourI n)) ∧ Below w.heap.size w w' := by
  have CI := Lib.hid (Tryz.strconv_Itoa n (by omega) (by omega) w hg.tab)
  have HFC := Lib.hid (four_cat n)
  have hlen := Lib.itoa_length_le n (by omega) (by omega)
  obtain ⟨l, hl⟩ : ∃ l, l = Lib.itoa n := ⟨_, rfl⟩
  obtain ⟨s, hs⟩ : ∃ s : ByteArray, s = ⟨l.toArray⟩ := ⟨_, rfl⟩
  have hsz : s.size = l.length := by rw [hs]; rfl
  obtain ⟨m, hm⟩ : ∃ m : Nat, m = 4 - l.length := ⟨_, rfl⟩
  rw [← hl] at CI HFC hlen
  rw [← hs] at CI HFC
  rw [← hm] at HFC
  have hmx : max (0 : Int) (4 - (s.size : Int)) = (m : Int) := by omega
  have hwr : IntKind.i64.wrap (4 - (s.size : Int)) = 4 - (s.size : Int) := by rw [IntKind.wrap_i64]; omega
  have hm4 : m ≤ 4 := by omega
  obtain ⟨r, hr⟩ : ∃ r : ByteArray, r = ⟨(Lib.repeatL [48] m).toArray⟩ := ⟨_, rfl⟩
  have hrz : r.size = m := by rw [hr, repeat_one]; simp [ByteArray.size]
  have hrs : r.size + s.size ≤ 9223372036854775807 := by omega
  have CR := fun W => Tryz.strings_Repeat ⟨#[48]⟩ m W (by omega) (by
    have : (⟨#[48]⟩ : ByteArray).size = 1 := rfl
    rw [this]; omega)
  rw [show (⟨(Lib.repeatL (⟨#[48]⟩ : ByteArray).data.toList m).toArray⟩ : ByteArray) = r from hr.symm] at CR
  rw [← hr] at HFC
  have HCR := Lib.hid CR
  clear hl hs hsz hm hg CR hlen hr hrz
  go_enter Tryz.func20, Tryz.ntmps20
  go_wp2_with fail
  refine CI.out.mono ?_
  rintro e w1 ⟨rfl, k, os, hw1⟩
  have HB1 : Hid (Below w.heap.size w w1) := Lib.hid (by rw [hw1]; exact grown_belowI w k os)
  clear hw1
  go_wp2_with fail
  refine (HCR.out _).mono ?_
  rintro e w2 ⟨rfl, hb2⟩
  have HB2 := Lib.hid (two HB1.out hb2)
  clear hb2
  go_wp2_with fail
  go_ret
  rw [← HFC.out]
  exact ⟨rfl, HB2.out⟩
theorem extract4 (s : ByteArray) : (s.extract 0 4).data.toList = s.data.toList.take 4 := by
  rw [ByteArray.data_extract, Array.toList_extract, List.extract_eq_take_drop, List.drop_zero]
theorem atoi_small {l : List UInt8} {n : Int} (hl : l.length ≤ 4) (h : Lib.atoi l = some n) : -9999 ≤ n ∧ n ≤ 99999 := by
  match l, h with
  | b :: r, h =>
    simp only [List.length_cons] at hl
    have hb : ∀ (x : List UInt8) (m : Nat), x.length ≤ 4 → Lib.decNat x = some m → m ≤ 9999 := fun x m hx hm => by
      unfold Lib.decNat at hm
      split at hm
      · cases hm
      · have h1 := dec_bound _ _ _ hm
        have h2 : 10 ^ x.length ≤ 10 ^ 4 := Nat.pow_le_pow_right (by decide) hx
        have h3 : (10 : Nat) ^ 4 = 10000 := rfl
        omega
    replace h : (if (b == 45) = true then (Lib.decNat r).map fun (m : Nat) => -(m : Int) else if (b == 43) = true then (Lib.decNat r).map fun (m : Nat) => (m : Int) else (Lib.decNat (b :: r)).map fun (m : Nat) => (m : Int)) = some n := h
    split at h
    · cases hd : Lib.decNat r with
      | none => rw [hd] at h; cases h
      | some m =>
        rw [hd] at h
        simp only [Option.map_some, Option.some.injEq] at h
        have := hb r m (by omega) hd
        omega
    · split at h
      · cases hd : Lib.decNat r with
        | none => rw [hd] at h; cases h
        | some m =>
          rw [hd] at h
          simp only [Option.map_some, Option.some.injEq] at h
          have := hb r m (by omega) hd
          omega
      · cases hd : Lib.decNat (b :: r) with
        | none => rw [hd] at h; cases h
        | some m =>
          rw [hd] at h
          simp only [Option.map_some, Option.some.injEq] at h
          have := hb (b :: r) m (by simp only [List.length_cons]; omega) hd
          omega
theorem image_number (s : ByteArray) (w : World) (hg : GlobI w) (hs : s.size ≤ 9223372036854775807) :
    Calls Tryz.prog 22 #[.string s] w fun e w' => e = .returned (.int .i64 (numI s)) ∧ Below w.heap.size w w' := by
  by_cases h4 : s.size < 4
  · have h4' : (s.size : Int) < 4 := by omega
    have HN : Hid (numI s = -1) := Lib.hid (by unfold numI; rw [if_pos h4])
    clear h4 hg
    go_enter Tryz.func22, Tryz.ntmps22
    go_wp2_with fail
    go_ret
    exact ⟨by rw [HN.out]; rfl, Below.refl _ _⟩
  have h4' : ¬ (s.size : Int) < 4 := by omega
  have h4s : 4 ≤ s.size := by omega
  have h4z : (4 : Int) ≤ (s.size : Int) := by omega
  obtain ⟨s4, hs4⟩ : ∃ x, x = s.extract 0 4 := ⟨_, rfl⟩
  have hd4 : s4.data.toList = s.data.toList.take 4 := by rw [hs4]; exact extract4 s
  have hz4 : s4.size = 4 := by
    have h1 := congrArg List.length hd4
    rw [List.length_take] at h1
    have h2 : s.data.toList.length = s.size := by simp
    have h3 : s4.data.toList.length = s4.size := by simp
    omega
  have HS4 := Lib.hid hs4
  have HG := Lib.hid hg
  cases ha : Lib.atoi s4.data.toList with
  | none =>
    have HN : Hid (numI s = -1) := Lib.hid (by unfold numI; rw [if_neg h4, ← hd4, ha])
    obtain ⟨ev, he1, he2⟩ := hg.err
    have CA := Lib.hid (Tryz.strconv_Atoi_err s4 (by omega) ha ev w he1 he2)
    clear hs4 hd4 hz4 ha hg he1 he2 h4
    go_enter Tryz.func22, Tryz.ntmps22
    go_wp2_with fail
    rw [← HS4.out]
    refine CA.out.mono ?_
    rintro e w1 ⟨NB, rfl, _, _, hb1⟩
    have HB1 := Lib.hid hb1
    clear hb1
    go_wp2_with fail
    refine wp_region_q (by kernel_rfl) (by kernel_rfl) ?_
    repeat (go_big_quiet_step (fail))
    refine wpQuiet_nil ?_
    intro w2 hb2
    have HB2 := Lib.hid (two HB1.out hb2)
    clear hb2
    go_wp2_with fail
    go_ret
    exact ⟨by rw [HN.out]; rfl, HB2.out⟩
  | some n =>
    obtain ⟨hn1, hn2⟩ := atoi_small (by have h3 : s4.data.toList.length = s4.size := by simp
                                        omega) ha
    have CA := Lib.hid (Tryz.strconv_Atoi s4 n (by omega) ha w)
    have CF := Lib.hid (fun W (hb : Below w.heap.size w W) => image_four n hn1 hn2 W (hg.below hb))
    have HN : Hid (numI s = if (fourI n).data.toList = s4.data.toList then n else -1) := Lib.hid (by unfold numI; rw [if_neg h4, ← hd4, ha])
    clear hs4 hd4 hz4 ha hg h4
    go_enter Tryz.func22, Tryz.ntmps22
    go_wp2_with fail
    rw [← HS4.out]
    refine CA.out.mono ?_
    rintro e w1 ⟨rfl, t, hw1⟩
    have HB1 : Hid (Below w.heap.size w w1) := Lib.hid (by rw [hw1]; exact Go.Joins.below_bytesWorld _ _ _ _ (Nat.le_refl _))
    clear hw1
    have CQ := Lib.hid (CF.out w1 HB1.out)
    have CF1 : Hid (∀ W, Below w1.heap.size w1 W → Calls Tryz.prog 20 #[.int .i64 n] W fun e w' => e = .returned (.string (fourI n)) ∧ Below W.heap.size W w') := Lib.hid (fun W hW => CF.out W (two HB1.out hW))
    go_wp2_with fail
    refine wp_region_q (by kernel_rfl) (by kernel_rfl) ?_
    repeat (go_big_quiet_step (first | (go_at_call 20; exact Calls.regrown_of (CF1.out _ (below_regrown _ _ _)))))
    refine wpQuiet_nil ?_
    intro w2 hb2
    have HB2 := Lib.hid (two HB1.out hb2)
    clear hb2
    rw [← HS4.out]
    cases hq : ((fourI n).toList == s4.toList)
    · have HZ : Hid (numI s = -1) := Lib.hid (by
        rw [HN.out, if_neg]
        intro h
        rw [bytes_list, bytes_list, h] at hq
        simp at hq)
      clear hq
      go_wp2_with fail
      go_ret
      exact ⟨by rw [HZ.out]; rfl, HB2.out⟩
    · have HZ : Hid (numI s = n) := Lib.hid (by
        rw [HN.out, if_pos]
        rw [bytes_list, bytes_list] at hq
        simpa using hq)
      clear hq
      go_wp2_with fail
      go_ret
      exact ⟨by rw [HZ.out]; rfl, HB2.out⟩
end Go.Proofs.YtggpodlecljcbaaGreatDoor
