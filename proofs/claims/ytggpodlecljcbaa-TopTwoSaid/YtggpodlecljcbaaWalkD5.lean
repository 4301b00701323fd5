/- The walk of the document's answer: the vote. -/
import Derived.Test.YtggpodlecljcbaaWalkD4
namespace Go.Proofs.Ytggpodlecljcbaa
open Go.RowKit Go.Sort

def pairAt (t : Trio) (i k : Nat) : Bool := (t.at i).is && sameCopy (t.at i) (t.at k)
theorem pair_none (t : Trio) (i : Nat) (h : ∀ k, i < k → k < 3 → pairAt t i k = false) : twin t i = false := by
  match i with
  | 0 =>
    have h1 := h 1 (by omega) (by omega)
    have h2 := h 2 (by omega) (by omega)
    simp only [pairAt, Trio.at] at h1 h2
    simp only [twin, Trio.at]
    revert h1 h2
    cases t.a.is <;> simp <;> intro a b <;> simp [a, b]
  | 1 =>
    have h1 := h 2 (by omega) (by omega)
    simp only [pairAt, Trio.at] at h1
    simp only [twin, Trio.at]
    exact h1
  | n + 2 => simp [twin]
theorem pair_some (t : Trio) (i k : Nat) (hk : k < 3) (hik : i < k) (h : pairAt t i k = true) : twin t i = true := by
  match i, k, hk, hik with
  | 0, 1, _, _ => simp only [pairAt, Trio.at, Bool.and_eq_true] at h; simp [twin, Trio.at, h.1, h.2]
  | 0, 2, _, _ => simp only [pairAt, Trio.at, Bool.and_eq_true] at h; simp [twin, Trio.at, h.1, h.2]
  | 1, 2, _, _ => simp only [pairAt, Trio.at, Bool.and_eq_true] at h; simp [twin, Trio.at, h.1, h.2]
  | n + 2, m, h1, h2 => omega

set_option maxRecDepth 100000 in
set_option maxHeartbeats 2000000 in
theorem ref_Voted (tv : TrioV) (t : Trio) (w : World) (ht : IsTrio w tv t) :
    Calls Try.prog 21 #[tv.val] w (RetQI (votedQ t) (votedE t) w) := by
  have HT := Lib.hid ht
  clear ht
  obtain ⟨W2, hW2⟩ : ∃ W2, W2 = (w.alloc (.cells tv.arr 37)).alloc (.cells #[.slice none 0 0, .int .i64 0] 34) := ⟨_, rfl⟩
  have B2 : Below w.heap.size w W2 := by rw [hW2]; exact two (below_alloc w _) (below_alloc _ _)
  have hrd : CopyVs W2 (.slice (some ⟨w.heap.size, 0, none⟩) 3 3) tv.list := trio_rd tv fun j u hj => by
    rw [hW2]
    simp only [TrioV.arr] at hj ⊢
    match j, hj with
    | 0, hj | 1, hj | 2, hj | 3, hj | 4, hj | 5, hj | 6, hj | 7, hj | 8, hj => simp at hj; subst hj; simp
  have g0 : W2.cell? ⟨w.heap.size + 1, 0, none⟩ = some (.slice none 0 0) := by rw [hW2]; simp
  have g1 : W2.cell? ⟨w.heap.size + 1, 1, none⟩ = some (.int .i64 0) := by rw [hW2]; simp
  have g2 : W2.frozen? ⟨w.heap.size + 1, 0, none⟩ = false := by rw [hW2]; simp
  have g3 : W2.frozen? ⟨w.heap.size + 1, 1, none⟩ = false := by rw [hW2]; simp
  have hz : W2.heap.size = w.heap.size + 2 := by rw [hW2]; simp
  have hlen : tv.list.length = 3 := rfl
  have hlen2 : t.list.length = 3 := rfl
  have HL0 := Lib.hid HT.out.list
  generalize tv.list = L at *
  obtain ⟨⟨a0, a1, a2⟩, ⟨b0, b1, b2⟩, ⟨d0, d1, d2⟩⟩ := tv
  unfold TrioV.val TrioV.arr at *
  have PA := HT.out.1.2.2.parts
  have PB := HT.out.2.1.2.2.parts
  have PD := HT.out.2.2.2.2.parts
  have HRD := Lib.hid hrd
  have HW2 := Lib.hid hW2
  have HZ := Lib.hid hz
  have HLEN := Lib.hid hlen
  replace g0 := Lib.hid g0
  replace g1 := Lib.hid g1
  replace g2 := Lib.hid g2
  replace g3 := Lib.hid g3
  replace B2 := Lib.hid B2
  dsimp only at PA PB PD
  obtain ⟨a3, a4, rfl, _, _⟩ := PA
  obtain ⟨b3, b4, rfl, _, _⟩ := PB
  obtain ⟨d3, d4, rfl, _, _⟩ := PD
  generalize t.a.quilt.files.length = a5, t.b.quilt.files.length = b5, t.c.quilt.files.length = d5 at *
  -- what the round reads of copy i
  have AT : ∀ (i : Nat) (hi : i < 3), Hid (∃ is v turn, IsCopy w ⟨is, v, turn⟩ (t.at i) ∧ (∃ ao len n, v = .slice ao len n) ∧ W2.cell? ⟨w.heap.size, i * 3, none⟩ = some (.bool is) ∧ W2.cell? ⟨w.heap.size, i * 3 + 1, none⟩ = some v ∧ W2.cell? ⟨w.heap.size, i * 3 + 2, none⟩ = some (.int .i64 turn)) := by
    intro i hi
    have hm1 : i < L.length := by rw [HLEN.out]; exact hi
    have hm2 : i < t.list.length := hi
    obtain ⟨bm, om, em, _, m0, m1, m2⟩ := CopyVs.cell HRD.out i hm1
    simp only [Option.some.injEq, Addr.mk.injEq, and_true] at em
    obtain ⟨rfl, rfl⟩ := em
    rw [Nat.zero_add] at m0 m1 m2
    have HM : IsCopy w L[i] (t.at i) := by rw [← Trio.list_at t i hm2]; exact HL0.out.2 i hm1 hm2
    obtain ⟨ao, n, hv, _, _⟩ := HM.2.2.parts
    exact ⟨L[i].is, L[i].v, L[i].turn, HM, ⟨ao, _, n, hv⟩, m0, m1, m2⟩
  clear hrd hW2 hz hlen hlen2 HRD HL0 HLEN HT
  go_enter Try.func21, Try.ntmps21
  go_wp2_with fail
  rw [← HW2.out]
  clear HW2
  go_loopw [4] (fun i wr => ∃ k : Nat, k ≤ 3 ∧ i = .int .i64 k ∧ (∀ i, i < k → twin t i = false) ∧ Below W2.heap.size W2 wr) (fun i _ => 3 - (intOf i).toNat)
  case atStart => exact ⟨0, Nat.zero_le _, rfl, fun _ h => by omega, Below.refl _ _⟩
  case round =>
    obtain ⟨k, hk, rfl, htw, hbw⟩ := hrel
    have HTW := Lib.hid htw
    have HW := Lib.hid hbw
    clear htw hbw
    by_cases hlt : k < 3
    · have hd : decide ((k : Int) < 3) = true := by simp; omega
      obtain ⟨isk, vk, tk, HK, ⟨aok, lk, nk, hvk⟩, p0, p1, p2⟩ := (AT k hlt).out
      subst hvk
      have HKH := Lib.hid HK
      have hik : (t.at k).is = isk := HK.1.symm
      clear HK
      obtain ⟨wo, hwo⟩ : ∃ wo, wo = wr := ⟨_, rfl⟩
      subst hwo
      go_wp2_with fail
      go_loopw [5] (fun r wi => ∃ j : Nat, k + 1 ≤ j ∧ j ≤ 3 ∧ r = .int .i64 j ∧ (∀ m, k < m → m < j → pairAt t k m = false) ∧ Below W2.heap.size W2 wi) (fun r _ => 3 - (intOf r).toNat)
      case atStart => exact ⟨k + 1, Nat.le_refl _, by omega, by go_num, fun _ h h' => by omega, HW.out⟩
      case round =>
        obtain ⟨j, hj, hj3, rfl, hpr, hbi⟩ := hrel
        have HPR := Lib.hid hpr
        have HI := Lib.hid hbi
        clear hpr
        by_cases hjl : j < 3
        · obtain ⟨isj, vj, tj, HJ, ⟨aoj, lj, nj, hvj⟩, e0, e1, e2⟩ := (AT j hjl).out
          subst hvj
          obtain ⟨hc, hfz⟩ := bcell hbi
          have hzi : w.heap.size + 1 < wr.heap.size := by have := hbi.size; rw [HZ.out] at this; omega
          have u0 := (hc w.heap.size (k * 3) (by rw [HZ.out]; omega)).trans p0
          have u1 := (hc w.heap.size (k * 3 + 1) (by rw [HZ.out]; omega)).trans p1
          have u2 := (hc w.heap.size (k * 3 + 2) (by rw [HZ.out]; omega)).trans p2
          have r0 := (hc (w.heap.size + 1) 0 (by rw [HZ.out]; omega)).trans g0.out
          have r1 := (hc (w.heap.size + 1) 1 (by rw [HZ.out]; omega)).trans g1.out
          have r2 := (hfz (w.heap.size + 1) 0 (by rw [HZ.out]; omega)).trans g2.out
          have r3 := (hfz (w.heap.size + 1) 1 (by rw [HZ.out]; omega)).trans g3.out
          have t0 := regrown_cell u0
          have t1 := regrown_cell u1
          have t2 := regrown_cell u2
          have t3 := regrown_cell ((hc w.heap.size (j * 3) (by rw [HZ.out]; omega)).trans e0)
          have t4 := regrown_cell ((hc w.heap.size (j * 3 + 1) (by rw [HZ.out]; omega)).trans e1)
          have t5 := regrown_cell ((hc w.heap.size (j * 3 + 2) (by rw [HZ.out]; omega)).trans e2)
          have C := fun W (hb : Below wr.heap.size wr W) => ref_SameCopy (CopyV.val ⟨isk, .slice aok lk nk, tk⟩) (CopyV.val ⟨isj, .slice aoj lj nj, tj⟩) (t.at k) (t.at j) W (((HKH.out.below B2.out).below HI.out).below hb).copies (((HJ.below B2.out).below HI.out).below hb).copies
          clear HJ hbi hc hfz
          by_cases hsame : sameCopy (t.at k) (t.at j) = true
          · rw [hsame] at C
            replace C := Lib.hid C
            cases isk
            · have HP : Hid (pairAt t k j = false) := by show pairAt t k j = false; unfold pairAt; rw [hik]; rfl
              clear hik hsame p0 p1 p2 e0 e1 e2
              go_wp2_with fail
              refine wp_region_q (by kernel_rfl) (by kernel_rfl) ?_
              repeat (go_big_quiet_step (exact Calls.regrown_of (C.out _ (below_regrown _ _ _))))
              refine wpQuiet_nil ?_
              intro w3 hb3
              have z0 := ((bcell hb3).1 w.heap.size (k * 3) (by omega)).trans u0
              have HB3 := Lib.hid hb3
              clear hb3 u0 u1 u2 t0 t1 t2 t3 t4 t5 r0 r1 r2 r3
              go_wp2_with fail
              go_roundw
              case rel => exact ⟨j + 1, by omega, by omega, by go_num, (fun m h1 h2 => by rcases Nat.lt_succ_iff_lt_or_eq.1 h2 with h | rfl; exact HPR.out m h1 h; exact HP.out), two HI.out HB3.out⟩
              case measure => simp [intOf]; omega
            · have HP : Hid (twin t k = true) := pair_some t k j hjl (by omega) (by unfold pairAt; rw [hik, hsame]; rfl)
              have V := Lib.hid (voted_twin t k hlt HTW.out HP.out)
              clear hik hsame p0 p1 p2 e0 e1 e2
              go_wp2_with fail
              refine wp_region_q (by kernel_rfl) (by kernel_rfl) ?_
              repeat (go_big_quiet_step (exact Calls.regrown_of (C.out _ (below_regrown _ _ _))))
              refine wpQuiet_nil ?_
              intro w3 hb3
              obtain ⟨hc3, hf3⟩ := bcell hb3
              have z0 := (hc3 w.heap.size (k * 3) (by omega)).trans u0
              have z1 := (hc3 w.heap.size (k * 3 + 1) (by omega)).trans u1
              have z2 := (hc3 w.heap.size (k * 3 + 2) (by omega)).trans u2
              have z3 := (hc3 (w.heap.size + 1) 0 (by omega)).trans r0
              have z4 := (hc3 (w.heap.size + 1) 1 (by omega)).trans r1
              have z5 := (hf3 (w.heap.size + 1) 0 (by omega)).trans r2
              have z6 := (hf3 (w.heap.size + 1) 1 (by omega)).trans r3
              have HB3 := Lib.hid hb3
              clear hb3 hc3 hf3 u0 u1 u2 t0 t1 t2 t3 t4 t5 r0 r1 r2 r3
              go_wp2_with fail
              have HBF := ((two B2.out (two HI.out HB3.out)).setCell (p := ⟨w.heap.size + 1, 0, none⟩) (by simp) (.slice aok lk nk)).setCell (p := ⟨w.heap.size + 1, 1, none⟩) (by simp) (.int .i64 tk)
              exact bodyPost_ret (v := .tuple #[.agg #[.slice aok lk nk, .int .i64 tk], .int .i64 0]) (by simp [results, Try.results21, go_sem, z3, z4, z5, z6]) rfl
                ⟨_, by rw [V.out.2]; rfl, by rw [V.out.1]; exact ⟨_, by rw [← HKH.out.2.1], HKH.out.2.2.below HBF⟩, HBF⟩
          · have hsame' : sameCopy (t.at k) (t.at j) = false := by simpa using hsame
            have HP : Hid (pairAt t k j = false) := by show pairAt t k j = false; unfold pairAt; rw [hsame']; simp
            rw [hsame'] at C
            replace C := Lib.hid C
            clear hik hsame hsame' p0 p1 p2 e0 e1 e2
            cases isk
            all_goals
              go_wp2_with fail
              refine wp_region_q (by kernel_rfl) (by kernel_rfl) ?_
              repeat (go_big_quiet_step (exact Calls.regrown_of (C.out _ (below_regrown _ _ _))))
              refine wpQuiet_nil ?_
              intro w3 hb3
              have z0 := ((bcell hb3).1 w.heap.size (k * 3) (by omega)).trans u0
              have HB3 := Lib.hid hb3
              clear hb3 u0 u1 u2 t0 t1 t2 t3 t4 t5 r0 r1 r2 r3
              go_wp2_with fail
              go_roundw
              case rel => exact ⟨j + 1, by omega, by omega, by go_num, (fun m h1 h2 => by rcases Nat.lt_succ_iff_lt_or_eq.1 h2 with h | rfl; exact HPR.out m h1 h; exact HP.out), two HI.out HB3.out⟩
              case measure => simp [intOf]; omega
        · have HTK := Lib.hid (pair_none t k (fun m h1 h2 => HPR.out m h1 (by omega)))
          clear hbi p0 p1 p2 hik
          go_wp2_with fail
          go_roundw
          case rel => exact ⟨k + 1, by omega, by go_num, (fun i hi => by rcases Nat.lt_succ_iff_lt_or_eq.1 hi with h | rfl; exact HTW.out i h; exact HTK.out), HI.out⟩
          case measure => simp [intOf]; omega
    · obtain rfl : k = 3 := by omega
      go_wp2_with fail
      have H0 := Lib.hid (HTW.out 0 (by omega))
      have H1 := Lib.hid (HTW.out 1 (by omega))
      clear HTW
      obtain ⟨wo, hwo⟩ : ∃ wo, wo = wr := ⟨_, rfl⟩
      subst hwo
      go_loopw [7, 8] (fun o i wi => ∃ k : Nat, k ≤ 3 ∧ i = .int .i64 k ∧ o = .int .i64 (bestTo t k) ∧ Below W2.heap.size W2 wi) (fun _ i _ => 3 - (intOf i).toNat)
      case atStart => exact ⟨0, Nat.zero_le _, rfl, rfl, HW.out⟩
      case round =>
        obtain ⟨k, hk, rfl, rfl, hbi⟩ := hrel
        have hbr := bestTo_range t k
        obtain ⟨hc, hfz⟩ := bcell hbi
        have hzi : w.heap.size + 1 < wr.heap.size := by have := hbi.size; rw [HZ.out] at this; omega
        have HI := Lib.hid hbi
        by_cases hkl : k < 3
        · obtain ⟨isk, vk, tk, HK, ⟨aok, lk, nk, hvk⟩, p0, p1, p2⟩ := (AT k hkl).out
          subst hvk
          have hik : (t.at k).is = isk := HK.1.symm
          have htk : (t.at k).quilt.turn = tk := HK.2.1.symm
          have q0 := regrown_cell ((hc w.heap.size (k * 3) (by rw [HZ.out]; omega)).trans p0)
          have q2 := regrown_cell ((hc w.heap.size (k * 3 + 2) (by rw [HZ.out]; omega)).trans p2)
          clear HK p0 p1 p2
          cases isk
          · have HBN := Lib.hid (best_no t k _ rfl (better_not t _ k hik))
            clear hik hbi hc hfz htk
            go_wp2_with fail
            refine wp_region_q (by kernel_rfl) (by kernel_rfl) ?_
            repeat (go_big_quiet_step (fail))
            refine wpQuiet_nil ?_
            intro w3 hb3
            have HB3 := Lib.hid hb3
            clear hb3
            go_wp2_with fail
            go_roundw
            case rel => exact ⟨k + 1, by omega, by go_num, by rw [HBN.out], two HI.out HB3.out⟩
            case measure => simp [intOf]; omega
          · by_cases hneg : bestTo t k < 0
            · have HBN := Lib.hid (best_yes t k _ rfl (better_neg t _ k hik hneg))
              clear hik hbi hc hfz htk
              go_wp2_with fail
              refine wp_region_q (by kernel_rfl) (by kernel_rfl) ?_
              repeat (go_big_quiet_step (fail))
              refine wpQuiet_nil ?_
              intro w3 hb3
              have HB3 := Lib.hid hb3
              clear hb3
              go_wp2_with fail
              go_roundw
              case rel => exact ⟨k + 1, by omega, by go_num, by rw [HBN.out], two HI.out HB3.out⟩
              case measure => simp [intOf]; omega
            · obtain ⟨m, hm⟩ : ∃ m : Nat, bestTo t k = m := ⟨(bestTo t k).toNat, by omega⟩
              have hdn : decide ((m : Int) < 0) = false := by simp
              obtain ⟨ism, vm, tm, HM, _, p0, p1, p2⟩ := (AT m (by omega)).out
              have htm : (t.at m).quilt.turn = tm := HM.2.1.symm
              have q3 := regrown_cell ((hc w.heap.size (m * 3 + 2) (by rw [HZ.out]; omega)).trans p2)
              clear HM p0 p1 p2 hbi hc hfz
              rw [hm] at hneg hbr ⊢
              by_cases hgt : tm < tk
              · have HBN := Lib.hid (best_yes t k m hm (by rw [better_pos t m k hik, htk, htm]; simpa using hgt))
                clear hik htk htm hm
                go_wp2_with fail
                refine wp_region_q (by kernel_rfl) (by kernel_rfl) ?_
                repeat (go_big_quiet_step (fail))
                refine wpQuiet_nil ?_
                intro w3 hb3
                have HB3 := Lib.hid hb3
                clear hb3
                go_wp2_with fail
                go_roundw
                case rel => ((repeat apply Exists.intro); exact ⟨⟨k + 1, by omega, by go_num, by rw [HBN.out], two HI.out HB3.out⟩, rfl⟩)
                case measure => simp [intOf]; omega
              · have HBN := Lib.hid (best_no t k m hm (by rw [better_pos t m k hik, htk, htm]; simpa using hgt))
                clear hik htk htm hm
                go_wp2_with fail
                refine wp_region_q (by kernel_rfl) (by kernel_rfl) ?_
                repeat (go_big_quiet_step (fail))
                refine wpQuiet_nil ?_
                intro w3 hb3
                have HB3 := Lib.hid hb3
                clear hb3
                go_wp2_with fail
                go_roundw
                case rel => ((repeat apply Exists.intro); exact ⟨⟨k + 1, by omega, by go_num, by rw [HBN.out], two HI.out HB3.out⟩, rfl⟩)
                case measure => simp [intOf]; omega
        · obtain rfl : k = 3 := by omega
          have r0 := (hc (w.heap.size + 1) 0 (by rw [HZ.out]; omega)).trans g0.out
          have r1 := (hc (w.heap.size + 1) 1 (by rw [HZ.out]; omega)).trans g1.out
          have r2 := (hfz (w.heap.size + 1) 0 (by rw [HZ.out]; omega)).trans g2.out
          have r3 := (hfz (w.heap.size + 1) 1 (by rw [HZ.out]; omega)).trans g3.out
          by_cases hneg : bestTo t 3 < 0
          · have V := Lib.hid (votedN t H0.out H1.out (by omega))
            clear hbi hc hfz
            go_wp2_with fail
            have HBF := ((two B2.out HI.out).setCell (p := ⟨w.heap.size + 1, 0, none⟩) (by simp) (.slice none 0 0)).setCell (p := ⟨w.heap.size + 1, 1, none⟩) (by simp) (.int .i64 0)
            exact bodyPost_ret (v := .tuple #[.agg #[.slice none 0 0, .int .i64 0], .int .i64 4]) (by simp [results, Try.results21, go_sem, r0, r1, r2, r3]) rfl
              ⟨_, by rw [V.out.2]; rfl, by rw [V.out.1]; exact ⟨_, rfl, noFiles _⟩, HBF⟩
          · obtain ⟨m, hm⟩ : ∃ m : Nat, bestTo t 3 = m := ⟨(bestTo t 3).toNat, by omega⟩
            have V := Lib.hid (votedB t m H0.out H1.out hm)
            obtain ⟨ism, vm, tm, HM, ⟨aom, lm, nm, hvm⟩, p0, p1, p2⟩ := (AT m (by omega)).out
            subst hvm
            have HMH := Lib.hid HM
            have q1 := (hc w.heap.size (m * 3 + 1) (by rw [HZ.out]; omega)).trans p1
            have q2 := (hc w.heap.size (m * 3 + 2) (by rw [HZ.out]; omega)).trans p2
            clear HM p0 p1 p2 hbi hc hfz
            rw [hm] at hneg hbr ⊢
            clear hm
            go_wp2_with fail
            have HBF := ((two B2.out HI.out).setCell (p := ⟨w.heap.size + 1, 0, none⟩) (by simp) (.slice aom lm nm)).setCell (p := ⟨w.heap.size + 1, 1, none⟩) (by simp) (.int .i64 tm)
            exact bodyPost_ret (v := .tuple #[.agg #[.slice aom lm nm, .int .i64 tm], .int .i64 0]) (by simp [results, Try.results21, go_sem, r0, r1, r2, r3]) rfl
              ⟨_, by rw [V.out.2]; rfl, by rw [V.out.1]; exact ⟨_, by rw [← HMH.out.2.1], HMH.out.2.2.below HBF⟩, HBF⟩
end Go.Proofs.Ytggpodlecljcbaa
