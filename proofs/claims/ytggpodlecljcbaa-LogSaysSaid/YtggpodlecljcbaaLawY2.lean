/- The walk of the statement LogSays. -/
import Derived.Test.YtggpodlecljcbaaLawY
import Derived.Test.YtggpodlecljcbaaWalkK6
import Derived.Maps.AppendAt
namespace Go.Proofs.Ytggpodlecljcbaa
set_option linter.unusedSimpArgs false
set_option linter.unusedVariables false
open Go.RowKit Go.Sort
theorem closedY_len (first : Nat) : ∀ (l : List ByteArray) (i : Nat) (o : List (List Change)) (d : List Change) (u : Nat), (closedY first l i o d u).1.length ≤ o.length + l.length
  | [], _, _, _, _ => by simp [closedY]
  | s :: r, i, o, d, u => by
    simp only [closedY]
    cases hs : stepY first i s o d u with
    | none => simp
    | some p =>
      obtain ⟨o1, d1, u1⟩ := p
      have ih := closedY_len first r (i + 1) o1 d1 u1
      have hk : o1.length ≤ o.length + 1 := by
        unfold stepY at hs
        split at hs
        · cases hs
        · split at hs
          · split at hs
            · simp only [Option.some.injEq, Prod.mk.injEq] at hs; rw [← hs.1]; simp
            · cases hs
          · split at hs
            · cases hs
            · simp only [Option.some.injEq, Prod.mk.injEq] at hs; rw [← hs.1]; omega
      simp only [List.length_cons]
      omega
theorem step_own {P : Program} (w : World) {ops : Array Oper} {o : Oper} {a : Go.Act} {K : Go.Act → World → Prop} {Q : Exit → Go.Act → World → Prop} {E : Prop} (hgd : o.guard = none) (s x : Operand) (t : TypeId)
    (ho : o.op = .call { callee := .builtin .append, args := #[s, x], argTypes := #[t, t] })
    (base : Nat) (e : TypeId) (size bytes : Nat) (I : ElemInfo P t e size bytes)
    (v : Value) (n : Nat) (xs : List Value) (hs : a.eval s = v) (hown : w.ownsRow base e size v n xs)
    (ad : Addr) (m c : Nat) (news : List Value) (hx : a.eval x = .slice (some ad) m c) (hl : news.length = m * size) (hnews : ∀ j u, news[j]? = some u → w.cell? (ad.add j) = some u) (h1 : ∀ u ∈ news, u.oneCell' = true)
    (h63 : n + m ≤ 1000000000) (hbase : base ≤ w.heap.size)
    (h : ∀ v' w', w'.ownsRow base e size v' (n + m) (xs ++ news) → w.grownBy w' v.ownBlock → K (a.put o.dst v') w') :
    if Region.wanted o (yielded ops a.tmps) = true then Oper.wp P o a w K Q else E := by
  have hw : Region.wanted o (yielded ops a.tmps) = true := by simp [Region.wanted, hgd]
  rw [if_pos hw]
  obtain ⟨i, z, e1, e2, e3, e4, e5, e6, e7, e8⟩ := I
  obtain ⟨v', w', hr, h2, h3, _, _⟩ := run_append_own_at (P := P) w base t o.type e i z size bytes e1 e2 e3 e4 e5 e6 e7 v n xs hown ad m c news hl hnews h1 (by unfold maxLen; omega) (by
    calc (n + m) * bytes ≤ 1000000000 * 100 := Nat.mul_le_mul h63 e8
      _ ≤ 140737488355328 := by decide) hbase
  unfold Oper.wp execOp
  simp only [ho, resolve, invoke, builtin, Sem.run_bind, Sem.run_pure, Result.andThen_ok, List.map_toArray, List.map_cons, List.map_nil, hs, hx, hr]
  exact h v' w' h2 h3
theorem deeds_push {F : Nat → Prop} {W w2 : World} {vs : List Value} {ds : List (List Change)} {cv v2 : Value} {c : List Change} (h3 : ∀ i (h : i < vs.length) (h' : i < ds.length), ChangesF F W vs[i] ds[i]) (hlen : vs.length = ds.length) (hc : ChangesF F W cv c) (hb : Below W.heap.size W w2)
    (ho : w2.ownsRow W.heap.size 60 1 v2 (vs.length + 1) (vs ++ [cv])) (hF : ∀ k, F k → k < W.heap.size) : Deeds F w2 v2 (ds ++ [c]) := by
  refine ⟨vs ++ [cv], ⟨?_, fun a n c' e p q => far_own ho a n c' e p (hF _ q)⟩, by simp [hlen], fun i a b => ?_⟩
  · have := SL.of_own ho
    rw [Rd, flat_single]
    simpa using this
  · by_cases hi : i < vs.length
    · have hi' : i < ds.length := by omega
      rw [List.getElem_append_left hi, List.getElem_append_left hi']
      exact (h3 i hi hi').below hb
    · have e1 : i = vs.length := by simp at a; omega
      have e2 : i = ds.length := by omega
      have g1 : (vs ++ [cv])[i] = cv := by simp [e1]
      have g2 : (ds ++ [c])[i] = c := by simp [e2]
      rw [g1, g2]
      exact hc.below hb
theorem texts_own {w : World} {base n : Nat} {v : Value} {S : List ByteArray} (hn : S.length = n) (h : w.ownsRow base 9 1 v n ((S.map Value.string).take n)) : Texts w v S := by
  subst hn
  have := SL.of_own h
  rw [List.take_of_length_le (by simp)] at this
  have hm : S.map Value.string = S.flatMap strCells := by
    clear this h
    induction S with
    | nil => rfl
    | cons a r ih => simp [strCells, ih]
  rw [hm] at this
  exact this
theorem one_newd {w : World} {u : Value} {t : TypeId} : ∀ (j : Nat) (x : Value), [u][j]? = some x → (w.alloc (.cells #[u] t)).drew.cell? ((⟨w.heap.size, 0, none⟩ : Addr).add j) = some x := fun j x h => one_new j x h
theorem srcd {w w1 : World} {u : Value} {t : TypeId} (h : (w.alloc (.cells #[u] t)).drew.grownBy w1 none) : ∀ (j : Nat) (x : Value), [u][j]? = some x → w1.cell? ((⟨w.heap.size, 0, none⟩ : Addr).add j) = some x := fun j x hj => by
  have hb : Below (w.alloc (.cells #[u] t)).drew.heap.size (w.alloc (.cells #[u] t)).drew w1 := ⟨h.os, h.tape, h.output, h.size, fun k hk => h.block k hk (by simp)⟩
  have h1 := one_newd (w := w) (t := t) j x hj
  rw [Addr.add_lit] at h1 ⊢
  exact cell_on' hb h1
theorem calm_add_bad (fr many first next : Nat) (c : List Change) (D : DiskS) (h : addFault many next c ≠ 0) : addY fr many first next c D = (D, addFault many next c) := by
  unfold addY; rw [if_pos h]
set_option maxRecDepth 100000 in
set_option maxHeartbeats 16000000 in
theorem law_LogSays (vs : Value) (ls : List ByteArray) (fr many first : Int) (va : Value) (avs : List ActV) (al : List Act) (w : World) (hs : Texts w vs ls) (hav : ActVs w va avs) (haa : IsActs w avs al) (hso : ∀ s ∈ ls, s.size ≤ maxLen) (hak : ∀ a ∈ al, a.ok)
    (hfr : -9223372036854775808 ≤ fr ∧ fr ≤ 9223372036854775807) (hmy : -9223372036854775808 ≤ many ∧ many ≤ 9223372036854775807) (hfi : -9223372036854775808 ≤ first ∧ first ≤ 9223372036854775807) :
    Calls Try.prog 7 #[vs, .int .i64 fr, .int .i64 many, .int .i64 first, va] w fun e w' => e = .returned (.bool true) ∧ Below w.heap.size w w' := by
  have CG := Lib.hid (law_logs w)
  have CA := Lib.hid fun W hb => law_LightActs va avs al 20 W (hav.below hb) (haa.below hb) hak
  obtain ⟨vo, vc, rfl, hvc, hvc'⟩ := hav.parts
  obtain ⟨so, sc, rfl, hsc, hsc'⟩ := hs.parts
  have HAV := Lib.hid hav
  have HAA := Lib.hid haa
  have HS := Lib.hid hs
  have HLE := Lib.hid haa.1
  have HAK := Lib.hid hak
  have HSO := Lib.hid hso
  have HFR := Lib.hid hfr
  have HMY := Lib.hid hmy
  have HFI := Lib.hid hfi
  clear hav haa hs hak hso hfr hmy hfi
  go_enter Try.func7, Try.ntmps7
  go_wp2_with fail
  refine CG.out.mono ?_
  rintro e w1 ⟨rfl, hb1⟩
  have HB1 := Lib.hid hb1
  clear hb1
  by_cases h40 : 40 < ls.length
  · have h40' : (40 : Int) < (ls.length : Int) := by omega
    clear h40
    go_wp2_with fail
    go_ret
    exact ⟨rfl, HB1.out⟩
  have h40' : ¬ (40 : Int) < (ls.length : Int) := by omega
  go_wp2_with fail
  refine (CA.out _ HB1.out).mono ?_
  rintro e w2 ⟨rfl, rfl⟩
  cases hla : lightActs al 20
  · go_wp2_with fail
    go_ret
    exact ⟨rfl, HB1.out⟩
  have HA20 : Hid (al.length ≤ 20 ∧ ∀ a ∈ al, a.changes.length ≤ 20) := Lib.hid (by
    unfold lightActs at hla
    simp only [Bool.and_eq_true, decide_eq_true_eq, List.all_eq_true] at hla
    refine ⟨by omega, fun a ha => ?_⟩
    have := hla.2 a ha
    unfold Act.light at this
    simp only [Bool.and_eq_true, decide_eq_true_eq] at this
    have := light_lenY this.2
    omega)
  clear hla
  by_cases hf6 : (1000000 : Int) < first
  · go_wp2_with fail
    go_ret
    exact ⟨rfl, HB1.out⟩
  have HF6 := Lib.hid hf6
  go_wp2_with fail
  go_loopw [12] (fun iv wr => ∃ k : Nat, k ≤ ls.length ∧ iv = .int .i64 k ∧ (∀ j (hj : j < ls.length), j < k → ls[j].size ≤ 40) ∧ Below w.heap.size w wr) (fun iv _ => ls.length - (intOf iv).toNat)
  case atStart => exact ⟨0, Nat.zero_le _, rfl, fun j hj h => absurd h (Nat.not_lt_zero _), HB1.out⟩
  case round =>
    obtain ⟨k, hk, rfl, hup, hbw⟩ := hrel
    have HUP := Lib.hid hup
    have HBW := Lib.hid hbw
    clear hup hbw
    by_cases hlt : k < ls.length
    · obtain ⟨sb, sof, rfl, hlb, x0⟩ := Texts.cell (Rd.below HS.out HBW.out) k hlt
      obtain ⟨s, hse⟩ : ∃ s, s = ls[k] := ⟨_, rfl⟩
      have hs63 : s.size ≤ 9223372036854775807 := by rw [hse]; exact HSO.out _ (List.getElem_mem hlt)
      have HSE := Lib.hid hse
      rw [← hse] at x0
      clear hse
      by_cases h4 : 40 < s.size
      · have h4' : (40 : Int) < (s.size : Int) := by omega
        clear h4
        go_wp2_with fail
        go_ret
        exact ⟨rfl, HBW.out⟩
      · have h4' : ¬ (40 : Int) < (s.size : Int) := by omega
        have HUP2 : Hid (∀ j (hj : j < ls.length), j < k + 1 → ls[j].size ≤ 40) := Lib.hid fun j hj h => by
          by_cases hjk : j < k
          · exact HUP.out j hj hjk
          · obtain rfl : j = k := by omega
            rw [← HSE.out]; omega
        clear h4
        go_wp2_with fail
        go_roundw
        case rel => exact ⟨k + 1, by omega, by go_num, HUP2.out, HBW.out⟩
        case measure => simp [intOf]; omega
    · have HUP2 : Hid (∀ j (hj : j < ls.length), ls[j].size ≤ 40) := Lib.hid fun j hj => HUP.out j hj (by omega)
      obtain ⟨N, hN⟩ : ∃ N : Nat, N = max 1 ls.length := ⟨_, rfl⟩
      have hmx : max (1 : Int) (ls.length : Int) = (N : Int) := by omega
      have hN1 : 1 ≤ N := by omega
      have hN2 : N ≤ 60 := by omega
      have hNl : ls.length ≤ N := by omega
      clear hN
      go_wp2_with fail
      refine (disk_New N _ hN1 hN2).mono ?_
      rintro e w2 ⟨L0, rfl, hd2, hb2, hf2⟩
      have HD2 := Lib.hid hd2
      have HF2 : Hid (∀ x, L0.foot x → w.heap.size ≤ x) := Lib.hid fun x hx => Nat.le_trans HBW.out.size (hf2 x hx)
      have HB2 := Lib.hid (two HBW.out hb2)
      obtain ⟨b, hbd⟩ : ∃ b, b = L0.b := ⟨_, rfl⟩
      rw [← hbd]
      have HBD := Lib.hid hbd.symm
      clear hd2 hb2 hf2 hbd
      go_wp2_with fail
      go_loopw [15] (fun iv wr => ∃ (k : Nat) (L : Dk) (D : DiskS), k ≤ ls.length ∧ iv = .int .i64 k ∧ DiskAt wr L D ∧ L.b = b ∧ Calm D ∧ D.ok ∧ D.now.length = N ∧ (∀ s ∈ D.now, s.size = 40) ∧ D.wait.length ≤ k ∧ (∀ x, L.foot x → w.heap.size ≤ x) ∧ Below w.heap.size w wr) (fun iv _ => ls.length - (intOf iv).toNat)
      case atStart => exact ⟨0, L0, newD N, Nat.zero_le _, rfl, HD2.out, HBD.out, newD_calm N, newD_ok hN1 hN2, newD_len N, newD_40 N, by simp [newD], HF2.out, HB2.out⟩
      case round =>
        obtain ⟨k, L, D, hk, rfl, hd, hb, hc, hok, hnl, h4s, hwl, hf, hbw⟩ := hrel
        have HD := Lib.hid hd
        have HBE := Lib.hid hb
        have HC := Lib.hid hc
        have HOK := Lib.hid hok
        have HNL := Lib.hid hnl
        have H4S := Lib.hid h4s
        have HWL := Lib.hid hwl
        have HF := Lib.hid hf
        have HBX := Lib.hid hbw
        clear hd hb hc hok hnl h4s hwl hf hbw
        by_cases hlt2 : k < ls.length
        · obtain ⟨sb, sof, rfl, hlb, x0⟩ := Texts.cell (Rd.below HS.out HBX.out) k hlt2
          obtain ⟨s, hse⟩ : ∃ s, s = ls[k] := ⟨_, rfl⟩
          have hs40 : s.size ≤ 40 := by rw [hse]; exact HUP2.out k hlt2
          rw [← hse] at x0
          have hcw := disk_Write L D k s wr HD.out HOK.out (by have := HWL.out; omega)
          have hww := HC.out.write k s (by rw [HNL.out]; omega) hs40
          obtain ⟨⟨D2, n2⟩, hp⟩ : ∃ p, p = writeD D (k : Int) s := ⟨_, rfl⟩
          have hok2 := HOK.out.write (k : Int) s
          have h4s2 := keptY_40.write D (k : Int) s H4S.out
          have hnl2 := write_now D (k : Int) s
          have hwl2 := write_wait D (k : Int) s
          rw [← hp] at hcw hww hok2 h4s2 hnl2 hwl2
          dsimp only at hcw hok2 h4s2 hnl2 hwl2
          obtain ⟨hD2, hn2⟩ := Prod.mk.inj hww
          have HC2 : Hid (Calm D2) := Lib.hid (by rw [hD2]; exact ⟨HC.out.1, HC.out.2⟩)
          rw [hn2, HBE.out, errV_zero] at hcw
          have CW := Lib.hid hcw
          have HX2 : Hid (D2.ok ∧ D2.now.length = N ∧ (∀ s ∈ D2.now, s.size = 40) ∧ D2.wait.length ≤ k + 1) := Lib.hid ⟨hok2, hnl2.trans HNL.out, h4s2, by have := HWL.out; omega⟩
          clear hse hcw hww hp hok2 h4s2 hnl2 hwl2 hD2 hn2
          go_wp2_with fail
          refine CW.out.mono ?_
          rintro e w3 ⟨rfl, ht⟩
          obtain ⟨L3, hl3, hd3, hb3, hf3⟩ := ht.below w.heap.size HBX.out.size HF.out
          have HB3 := Lib.hid (HBX.out.trans hb3)
          have HD3 := Lib.hid hd3
          have HF3 := Lib.hid hf3
          have HL3 := Lib.hid (hl3.trans HBE.out)
          clear ht hl3 hd3 hb3 hf3 x0
          go_wp2_with fail
          go_roundw
          case rel => exact ⟨k + 1, L3, D2, by omega, by go_num, HD3.out, HL3.out, HC2.out, HX2.out.1, HX2.out.2.1, HX2.out.2.2.1, HX2.out.2.2.2, HF3.out, HB3.out⟩
          case measure => simp [intOf]; omega
        · have HWL2 : Hid (D.wait.length ≤ 40) := Lib.hid (by have := HWL.out; omega)
          by_cases hbad : fr < 0 ∨ many < 1 ∨ (N : Int) < many ∨ (N : Int) - many < fr ∨ first < 1
          · have CO := log_Open_bad L D fr many first wr HD.out HOK.out HFR.out.1 HMY.out.2 (by rw [HNL.out]; exact hbad)
            have CS := disk_Sectors L D wr HD.out
            rw [HBE.out] at CO CS
            rw [HNL.out] at CS
            have CE := Lib.hid fun W => same_eq 1 W
            have CO2 := Lib.hid CO
            have HDW : Hid (∀ W, Below wr.heap.size wr W → DiskAt W L D) := Lib.hid fun W hW => HD.out.below hW
            have CSW : Hid (∀ W, Below wr.heap.size wr W → Calls Try.prog 32 #[.pointer (some ⟨b, 0, none⟩)] W fun e w' => e = .returned (.int .i64 N) ∧ w' = W) := Lib.hid fun W hW => by
              have := disk_Sectors L D W (HDW.out W hW)
              rw [HBE.out, HNL.out] at this
              exact this
            clear CO CS
            go_wp2_with fail
            refine CO2.out.mono ?_
            rintro e w3 ⟨rfl, hb3⟩
            have HB3 := Lib.hid hb3
            have HB3' := Lib.hid (two HBX.out hb3)
            have HER := Lib.hid (rfl : errV 1 = errV 1)
            clear hb3
            by_cases hc0 : fr < 0
            · clear hbad
              go_wp2_with fail
              refine (CE.out _).mono ?_
              rintro e w9 ⟨rfl, hb9⟩
              have HB9 := Lib.hid (two HB3'.out hb9)
              clear hb9
              go_wp2_with fail
              go_ret
              exact ⟨rfl, HB9.out⟩
            by_cases hc1 : many < 1
            · clear hbad
              go_wp2_with fail
              refine (CE.out _).mono ?_
              rintro e w9 ⟨rfl, hb9⟩
              have HB9 := Lib.hid (two HB3'.out hb9)
              clear hb9
              go_wp2_with fail
              go_ret
              exact ⟨rfl, HB9.out⟩
            by_cases hc2 : (N : Int) < many
            · clear hbad
              go_wp2_with fail
              refine (CSW.out _ HB3.out).mono ?_
              rintro e w4 ⟨rfl, hq⟩
              rw [hq]
              clear hq
              go_wp2_with fail
              refine (CE.out _).mono ?_
              rintro e w9 ⟨rfl, hb9⟩
              have HB9 := Lib.hid (two HB3'.out hb9)
              clear hb9
              go_wp2_with fail
              go_ret
              exact ⟨rfl, HB9.out⟩
            by_cases hc3 : (N : Int) - many < fr
            · clear hbad
              have hz1 : (0 : Int) ≤ (N : Int) - many := by omega
              have hz2 : (N : Int) - many ≤ 60 := by omega
              go_wp2_with fail
              refine (CSW.out _ HB3.out).mono ?_
              rintro e w4 ⟨rfl, hq⟩
              rw [hq]
              clear hq
              go_wp2_with fail
              refine (CSW.out _ HB3.out).mono ?_
              rintro e w5 ⟨rfl, hq⟩
              rw [hq]
              clear hq
              go_wp2_with fail
              refine (CE.out _).mono ?_
              rintro e w9 ⟨rfl, hb9⟩
              have HB9 := Lib.hid (two HB3'.out hb9)
              clear hb9
              go_wp2_with fail
              go_ret
              exact ⟨rfl, HB9.out⟩
            by_cases hc4 : first < 1
            · clear hbad
              have hz1 : (0 : Int) ≤ (N : Int) - many := by omega
              have hz2 : (N : Int) - many ≤ 60 := by omega
              go_wp2_with fail
              refine (CSW.out _ HB3.out).mono ?_
              rintro e w4 ⟨rfl, hq⟩
              rw [hq]
              clear hq
              go_wp2_with fail
              refine (CSW.out _ HB3.out).mono ?_
              rintro e w5 ⟨rfl, hq⟩
              rw [hq]
              clear hq
              go_wp2_with fail
              refine (CE.out _).mono ?_
              rintro e w9 ⟨rfl, hb9⟩
              have HB9 := Lib.hid (two HB3'.out hb9)
              clear hb9
              go_wp2_with fail
              go_ret
              exact ⟨rfl, HB9.out⟩
            omega
          · obtain ⟨fr, rfl⟩ : ∃ n : Nat, fr = n := ⟨fr.toNat, by omega⟩
            obtain ⟨many, rfl⟩ : ∃ n : Nat, many = n := ⟨many.toNat, by omega⟩
            obtain ⟨first, rfl⟩ : ∃ n : Nat, first = n := ⟨first.toNat, by omega⟩
            have hm1 : 1 ≤ many := by omega
            have hfm : fr + many ≤ N := by omega
            have hf1 : 1 ≤ first := by omega
            have hf7 : first ≤ 1000000 := by omega
            have hq1 : ¬ ((fr : Int) < 0) := by omega
            have hq2 : ¬ ((many : Int) < 1) := by omega
            have hq3 : ¬ ((N : Int) < many) := by omega
            have hq6 : ¬ (N < many) := by omega
            have hz1 : (0 : Int) ≤ (N : Int) - many := by omega
            have hz2 : (N : Int) - many ≤ 60 := by omega
            have hq4 : ¬ ((N : Int) - many < fr) := by omega
            have hq5 : ¬ ((first : Int) < 1) := by omega
            obtain ⟨S, hS⟩ : ∃ S, S = sectorsY D fr many := ⟨_, rfl⟩
            have hfm2 : fr + many ≤ D.now.length := by rw [HNL.out]; exact hfm
            have hSl : S.length = many := by rw [hS]; exact sectorsY_len hfm2
            have HS40 : Hid (∀ s ∈ S, s.size = 40) := Lib.hid fun s hs => H4S.out s (by rw [hS] at hs; exact List.mem_of_mem_drop (List.mem_of_mem_take hs))
            obtain ⟨⟨ds, used⟩, hcl⟩ : ∃ p, p = closedY first S 0 [] [] 0 := ⟨_, rfl⟩
            have HCL : Hid (closedY first (sectorsY D fr many) 0 [] [] 0 = (ds, used)) := Lib.hid (by rw [← hS, ← hcl])
            have HDL : Hid (ds.length ≤ 60) := Lib.hid (by have := closedY_len first S 0 [] [] 0; rw [← hcl] at this; simp only [List.length_nil] at this; omega)
            have hus : used ≤ many := by have := (head_take first S ds used hcl.symm).1; omega
            have HCLS : Hid (closedY first S 0 [] [] 0 = (ds, used)) := Lib.hid hcl.symm
            have CO := Lib.hid (open_logd wr w.heap.size b L D fr many first HD.out HBE.out HC.out.1 HOK.out H4S.out hm1 hfm2 hf1 hf7 HF.out HBX.out.size HCL.out)
            have CSW : Hid (∀ W, DiskAt W L D → Calls Try.prog 32 #[.pointer (some ⟨b, 0, none⟩)] W fun e w' => e = .returned (.int .i64 N) ∧ w' = W) := Lib.hid fun W hW => by
              have := disk_Sectors L D W hW
              rw [HBE.out, HNL.out] at this
              exact this
            have CRD : Hid (∀ (k : Nat) (hk : k < S.length) W, DiskAt W L D → Calls Try.prog 35 #[.pointer (some ⟨b, 0, none⟩), .int .i64 ((fr : Int) + k)] W fun e w' => e = .returned (.tuple #[.string S[k], .nilIface]) ∧ w' = W) := Lib.hid fun k hk W hW => by
              have := disk_Read L D ((fr + k : Nat) : Int) W hW
              rw [readD_at HC.out.1 (fr + k) (by rw [hSl] at hk; omega), HBE.out] at this
              subst hS
              rw [sectorsY_at hfm2 k hk]
              simpa [errV] using this
            have HSL := Lib.hid hSl
            clear hbad hf6 hS hcl hfm2
            go_wp2_with fail
            refine CO.out.mono ?_
            rintro e w3 ⟨lb, gv, rfl, hld, hde, hlb, hb3⟩
            obtain ⟨go, gc, rfl, hgc, hgc'⟩ := hde.parts
            have HLD := Lib.hid hld
            have HDE := Lib.hid hde
            have HB3 := Lib.hid (two HBX.out hb3)
            clear hld hde hlb hb3
            go_wp2_with fail
            refine (CSW.out _ HLD.out.d).mono ?_
            rintro e w4 ⟨rfl, hq⟩
            rw [hq]
            clear hq
            go_wp2_with fail
            refine (CSW.out _ HLD.out.d).mono ?_
            rintro e w4 ⟨rfl, hq⟩
            rw [hq]
            clear hq
            go_wp2_with fail
            clear hq1 hq2 hq3 hq4 hq5 hz1 hz2
            go_loopw [18, 19] (fun nv iv wr => ∃ k : Nat, k ≤ many ∧ iv = .int .i64 k ∧ wr.ownsRow w3.heap.size 9 1 nv k ((S.map Value.string).take k) ∧ Below w3.heap.size w3 wr) (fun _ iv _ => many - (intOf iv).toNat)
            case atStart => exact ⟨0, Nat.zero_le _, rfl, World.ownsRow_nil _ _ _ _, Below.refl _ _⟩
            case round =>
              obtain ⟨k3, hk3, rfl, hown, hbw3⟩ := hrel
              have HOW := Lib.hid hown
              have HBW3 := Lib.hid hbw3
              clear hown hbw3
              by_cases hlt3 : k3 < many
              · have hkS : k3 < S.length := by rw [HSL.out]; exact hlt3
                have CR := CRD.out k3 hkS wr (HLD.out.d.below HBW3.out)
                obtain ⟨s, hse⟩ : ∃ s, s = S[k3] := ⟨_, rfl⟩
                rw [← hse] at CR
                have HTK : Hid ((S.map Value.string).take (k3 + 1) = (S.map Value.string).take k3 ++ [.string s]) := Lib.hid (by rw [List.take_succ_eq_append_getElem (by simpa using hkS), hse]; simp)
                have CR2 := Lib.hid CR
                have hk60 : fr + k3 ≤ 200 := by omega
                clear CR hse
                go_wp2_with fail
                refine CR2.out.mono ?_
                rintro e w5 ⟨rfl, hq⟩
                rw [hq]
                clear hq
                go_wp2_with (at_builtin; refine wpList_app I_texts' rfl _ _ rfl w3.heap.size _ _ _ rfl (HOW.out.alloc _) ⟨wr.heap.size, 0, none⟩ 1 1 [.string s] rfl rfl ?c1 ?c2 ?c3 ?c4 ?_)
                case c1 => exact one_new
                case c2 => intro u hu; simp at hu; subst hu; rfl
                case c3 => omega
                case c4 => have := HBW3.out.size; simp; omega
                intro v6 w6 hown6 hg6
                have HB6 := Lib.hid (grown_below (two HBW3.out (below_alloc _ _)) (HOW.out.alloc (.cells #[.string s] 9)) hg6 (Nat.le_refl _))
                have HO6 : Hid (w6.ownsRow w3.heap.size 9 1 v6 (k3 + 1) ((S.map Value.string).take (k3 + 1))) := Lib.hid (by rw [HTK.out]; exact hown6)
                clear hown6 hg6
                go_wp2_with fail
                go_roundw
                case rel => exact ⟨k3 + 1, by omega, by go_num, HO6.out, HB6.out⟩
                case measure => simp [intOf]; omega
              · obtain rfl : many = k3 := by omega
                obtain ⟨wx, hwx⟩ : ∃ wx : World, wx = wr := ⟨_, rfl⟩
                subst hwx
                have CCD := ref_ClosedDeeds _ S first wx (texts_own HSL.out HOW.out) HS40.out (by omega) hf7
                rw [HCLS.out] at CCD
                have CCD2 := Lib.hid CCD
                have HLX := Lib.hid (HLD.out.below HBW3.out)
                have HDX := Lib.hid (HDE.out.below HBW3.out)
                have HBX3 := Lib.hid (two HB3.out HBW3.out)
                clear CCD
                go_wp2_with fail
                refine CCD2.out.mono ?_
                rintro e w5 ⟨wv, rfl, hdw, hb5⟩
                obtain ⟨wo, wc, rfl, hwc, hwc'⟩ := hdw.parts
                have HLY := Lib.hid (HLX.out.below hb5)
                have HDY := Lib.hid (HDX.out.below hb5)
                have HWY := Lib.hid (hdw.logs HLX.out)
                have HBY := Lib.hid (two HBX3.out hb5)
                clear hdw hb5
                go_wp2_with fail
                go_loopw [16, 17, 22, 23, 24] (fun lv gv wv uv iv wr => ∃ (k lb : Nat) (L : Dk) (D : DiskS) (ds : List (List Change)) (used : Nat), k ≤ avs.length ∧ lv = .pointer (some ⟨lb, 0, none⟩) ∧ iv = .int .i64 k ∧ uv = .int .i64 used ∧ LogD wr w.heap.size lb b L D fr many first used ∧ closedY first (sectorsY D fr many) 0 [] [] 0 = (ds, used) ∧ Calm D ∧ D.ok ∧ D.now.length = N ∧ (∀ s ∈ D.now, s.size = 40) ∧ used ≤ many ∧ D.wait.length ≤ 100 + 100 * k ∧ Deeds (logF L lb) wr gv ds ∧ Deeds (logF L lb) wr wv ds ∧ ds.length ≤ 60 + k ∧ Below w.heap.size w wr) (fun _ _ _ _ iv _ => avs.length + 1 - (intOf iv).toNat)
                case atStart => exact ⟨0, lb, L, D, ds, used, Nat.zero_le _, rfl, rfl, rfl, HLY.out, HCL.out, HC.out, HOK.out, HNL.out, H4S.out, hus, by have := HWL2.out; omega, HDY.out, HWY.out, HDL.out, HBY.out⟩
                case round =>
                  clear HD HBE HC HOK HNL H4S HWL HF HWL2 HCL HDL HLY HDY HWY HBY hus
                  obtain ⟨k4, lb, L, D, ds, used, hk4, rfl, rfl, rfl, hld, hcl, hc, hok, hnl, h4s, hus, hwl, hg, hw4, hdl, hbw⟩ := hrel
                  obtain ⟨go, gc, rfl, hgc, hgc'⟩ := hg.parts
                  obtain ⟨wo, wc, rfl, hwc, hwc'⟩ := hw4.parts
                  have CSD := ref_SameDeeds _ _ _ _ ds ds wr hg hw4
                  rw [decide_eq_true (rfl : ds = ds)] at CSD
                  have CSD2 := Lib.hid CSD
                  have CRM : Hid (∀ W, Below wr.heap.size wr W → Calls Try.prog 59 #[.pointer (some ⟨lb, 0, none⟩)] W fun e w' => e = .returned (.int .i64 ((many : Int) - used)) ∧ Below W.heap.size W w') := Lib.hid fun W hW => log_Room lb L fr many first used W (hld.l.below hW) hus (by omega)
                  have CNX : Hid (∀ W, Below wr.heap.size wr W → Calls Try.prog 60 #[.pointer (some ⟨lb, 0, none⟩)] W fun e w' => e = .returned (.int .i64 ((first : Int) + many)) ∧ Below W.heap.size W w') := Lib.hid fun W hW => log_Next lb L fr many first used W (hld.l.below hW) (by omega) (by omega)
                  have hz1 : (0 : Int) ≤ (many : Int) - used := by omega
                  have hz2 : (many : Int) - used ≤ 60 := by omega
                  have hz3 : first + many ≤ 2000000 := by omega
                  have HLD := Lib.hid hld
                  have HCL := Lib.hid hcl
                  have HC := Lib.hid hc
                  have HOK := Lib.hid hok
                  have HNL := Lib.hid hnl
                  have H4S := Lib.hid h4s
                  have HWL := Lib.hid hwl
                  have HDG := Lib.hid hg
                  have HDW := Lib.hid hw4
                  have HDL := Lib.hid hdl
                  have HBW := Lib.hid hbw
                  clear hld hcl hc hok hnl h4s hwl hg hw4 hdl hbw CSD
                  go_wp2_with fail
                  refine CSD2.out.mono ?_
                  rintro e w7 ⟨rfl, hb7⟩
                  have HB7 := Lib.hid hb7
                  clear hb7
                  go_wp2_with fail
                  refine (CRM.out _ HB7.out).mono ?_
                  rintro e w8 ⟨rfl, hb8⟩
                  have HB8 := Lib.hid (two HB7.out hb8)
                  clear hb8
                  go_wp2_with fail
                  refine (CNX.out _ HB8.out).mono ?_
                  rintro e w9 ⟨rfl, hb9⟩
                  have HB9 := Lib.hid (two HB8.out hb9)
                  have HB9' := Lib.hid (two HBW.out HB9.out)
                  clear hb9
                  by_cases hke : k4 = avs.length
                  · have hke' : (k4 : Int) = (avs.length : Int) := by omega
                    clear hke
                    go_wp2_with fail
                    go_ret
                    exact ⟨rfl, HB9'.out⟩
                  have hke' : ((k4 : Int) == (avs.length : Int)) = false := by simp; omega
                  have hlt4 : k4 < avs.length := by omega
                  have hlt4' : k4 < al.length := by rw [← HLE.out]; exact hlt4
                  obtain ⟨ba, oa, rfl, hlb, x0, x1, x2, x3, x4, x5⟩ := ActVs.cell (Rd.below HAV.out HB9'.out) k4 hlt4
                  have hia := HAA.out.2 k4 hlt4 hlt4'
                  have hcl20 : al[k4].changes.length ≤ 20 := HA20.out.2 _ (List.getElem_mem hlt4')
                  have hcok := (HAK.out _ (List.getElem_mem hlt4')).2.2.2
                  obtain ⟨c, hcc⟩ : ∃ c, c = al[k4].changes := ⟨_, rfl⟩
                  have hch := hia.2.2.2.2.2
                  rw [← hcc] at hch hcl20 hcok
                  obtain ⟨av, hav⟩ : ∃ v, v = avs[k4] := ⟨_, rfl⟩
                  rw [← hav] at hch x0 x1 x2 x3 x4 x5
                  obtain ⟨co, cc, hcv, hcle, hcle'⟩ := hch.parts
                  rw [hcv] at hch x5
                  have HCH := Lib.hid hch
                  have HCOK := Lib.hid hcok
                  have HK20 : Hid (k4 ≤ 20) := Lib.hid (by have := HA20.out.1; have := HLE.out; omega)
                  obtain ⟨W3, hW3⟩ : ∃ W3, W3 = w9.alloc (.cells #[.string av.kind, .string av.s, .string av.t, .int .i64 av.n, .int .u64 av.k, .slice co c.length cc] 62) := ⟨_, rfl⟩
                  have HB3 : Hid (Below wr.heap.size wr W3) := Lib.hid (by rw [hW3]; exact two HB9.out (below_alloc _ _))
                  have HB3' := Lib.hid (two HBW.out HB3.out)
                  have HBX : Hid (∀ W, Below W3.heap.size W3 W → W.cell? ⟨w9.heap.size, 5, none⟩ = some (.slice co c.length cc)) := Lib.hid fun W hb => cell_on' hb (by rw [hW3]; simp)
                  have HBZ : Hid (∀ W, Below W3.heap.size W3 W → W.cell? ⟨w9.heap.size, 0, none⟩ = some (.string av.kind)) := Lib.hid fun W hb => cell_on' hb (by rw [hW3]; simp)
                  have HW3 := Lib.hid hW3
                  have hbz : wr.heap.size ≤ w9.heap.size := HB9.out.size
                  have HBXN : Hid (∀ (L : Dk) (D : DiskS), DiskAt wr L D → LogAt wr lb L fr many first used → ¬ logF L lb w9.heap.size) := Lib.hid fun L D h1 h2 hf => by
                    rcases hf with hf | hf
                    · have := h1.lt _ hf; omega
                    · have := h2.lt; omega
                  clear hia hcc hav hch hcok hcv hW3 hbz
                  cases hkd : (av.kind.toList == [97, 100, 100])
                  · have CO := Lib.hid (open_logd W3 w.heap.size b L D fr many first (HLD.out.d.below HB3.out) HLD.out.eq HC.out.1 HOK.out H4S.out hm1 (by rw [HNL.out]; exact hfm) hf1 hf7 HLD.out.low HB3'.out.size HCL.out)
                    go_wp2_with fail
                    rw [← HW3.out]
                    obtain y0 := HBZ.out W3 (Below.refl _ _)
                    clear x0 x1 x2 x3 x4 x5
                    go_wp2_with fail
                    refine CO.out.mono ?_
                    rintro e w10 ⟨lb2, v2, rfl, hld2, hde2, hlb2, hb10⟩
                    have HLD2 := Lib.hid hld2
                    have HDE2 := Lib.hid hde2
                    have HDW2 : Hid (Deeds (logF L lb2) w10 (.slice wo ds.length wc) ds) := Lib.hid (((HDW.out.below HB3.out).turned (G := logF L lb2) (Off.refl _ _) (fun x hx => by
                      rcases hx with hx | hx
                      · exact Or.inl (Or.inl hx)
                      · exact Or.inr (by rw [hx]; exact hlb2))).below hb10)
                    have HB10 := Lib.hid (two HB3'.out hb10)
                    clear hld2 hde2 hlb2 hb10 y0
                    go_wp2_with fail
                    go_roundw
                    case rel => exact ⟨k4 + 1, lb2, L, D, ds, used, by omega, rfl, by go_num, rfl, HLD2.out, HCL.out, HC.out, HOK.out, HNL.out, H4S.out, hus, by have := HWL.out; omega, HDE2.out, HDW2.out, by have := HDL.out; omega, HB10.out⟩
                    case measure => simp [intOf]; omega
                  · obtain ⟨F, hF⟩ : ∃ F, F = addFault many used c := ⟨_, rfl⟩
                    have HLW : Hid (∀ W, Below W3.heap.size W3 W → LogD W w.heap.size lb b L D fr many first used) := Lib.hid fun W hW => (HLD.out.below HB3.out).below hW
                    have CAD : Hid (∀ W, Below W3.heap.size W3 W → Calls Try.prog 61 #[.pointer (some ⟨lb, 0, none⟩), .slice co c.length cc] W fun e w' => e = .returned (errV F) ∧ ∃ L', LogD w' w.heap.size lb b L' (addY fr many first used c D).1 fr many first (nextY F used c.length) ∧ Below w.heap.size W w' ∧ Off (logF L lb) W w' ∧ ∀ k, logF L' lb k → logF L lb k ∨ W.heap.size ≤ k) := Lib.hid fun W hW => by
                      have hl := HLW.out W hW
                      have h2 : (addY fr many first used c D).2 = F := by
                        by_cases h0 : addFault many used c = 0
                        · rw [(calm_add fr many first used c D ds HC.out h0 (by rw [HNL.out]; exact hfm) hf1 hf7 (by rw [HNL.out]; exact hN2) HCL.out).1, hF, h0]
                        · rw [calm_add_bad _ _ _ _ _ _ h0, hF]
                      have := log_Add lb L D fr many first used _ c W hl.l hl.d HOK.out hl.out ((Rd.outside HCH.out (by decide) HLD.out.low).below (two HB3'.out hW)) HCOK.out (by have := HWL.out; have := HK20.out; omega) (by omega) (by omega) hus hf7
                      rw [h2] at this
                      refine this.mono ?_
                      rintro e w' ⟨rfl, ha⟩
                      exact ⟨rfl, hl.added (Nat.le_trans HB3'.out.size hW.size) ha⟩
                    have CSM := Lib.hid fun W => same_eq F W
                    have HDG3 : Hid (∀ W, Below W3.heap.size W3 W → Deeds (logF L lb) W (.slice go ds.length gc) ds ∧ Deeds (logF L lb) W (.slice wo ds.length wc) ds) := Lib.hid fun W hW => ⟨(HDG.out.below HB3.out).below hW, (HDW.out.below HB3.out).below hW⟩
                    have HNB : Hid (¬ logF L lb w9.heap.size) := Lib.hid (HBXN.out L D HLD.out.d HLD.out.l)
                    have HF := Lib.hid hF
                    clear hF
                    by_cases h14 : 14 < c.length
                    · have h14' : (14 : Int) < (c.length : Int) := by omega
                      have hF2 : F = 2 := by rw [HF.out, addFault, if_pos h14]
                      subst hF2
                      clear h14
                      go_wp2_with fail
                      rw [← HW3.out]
                      have y5 := HBX.out W3 (Below.refl _ _)
                      clear x0 x1 x2 x3 x4 x5
                      go_loopw [26, 27] (fun fv jv wr => fv = .int .i64 2 ∧ jv = .int .i64 0 ∧ wr = W3) (fun _ _ _ => 0)
                      case atStart => exact ⟨rfl, rfl, rfl⟩
                      case round =>
                        obtain ⟨rfl, rfl, rfl⟩ := hrel
                        have HBV : Hid (Below wr.heap.size wr wr) := Lib.hid (Below.refl _ _)
                        have HF0 : Hid (2 ≠ 0) := Lib.hid (by decide)
                        go_wp2_with fail
                        all_goals
                          have CAX := Lib.hid (CAD.out wr HBV.out)
                          refine CAX.out.mono ?_
                          rintro e wA ⟨rfl, L', hl', hbl', hO', hG'⟩
                          have HLD2 := Lib.hid hl'
                          have HBA := Lib.hid ((two HB3'.out HBV.out).trans hbl')
                          obtain ⟨dg, dw⟩ := HDG3.out wr HBV.out
                          have HDG2 := Lib.hid (dg.turned hO' hG')
                          have HDW2 := Lib.hid (dw.turned hO' hG')
                          clear hl' hbl' hO' hG' dg dw
                          go_wp2_with fail
                          refine (CSM.out _).mono ?_
                          rintro e wB ⟨rfl, hbB⟩
                          have HLD3 := Lib.hid (HLD2.out.below hbB)
                          have HDG4 := Lib.hid (HDG2.out.below hbB)
                          have HDW4 := Lib.hid (HDW2.out.below hbB)
                          have HBB := Lib.hid (two HBA.out hbB)
                          have HAB : Hid ((addY fr many first used c D).1 = D) := Lib.hid (by rw [calm_add_bad _ _ _ _ _ _ (by rw [← HF.out]; first | decide | exact HF0.out)])
                          rw [HAB.out] at HLD3
                          clear hbB y5
                          go_wp2_with fail
                          go_roundw
                          case rel => exact ⟨k4 + 1, lb, L', D, ds, used, by omega, rfl, by go_num, rfl, HLD3.out.as (by first | rfl | exact if_neg HF0.out), HCL.out, HC.out, HOK.out, HNL.out, H4S.out, hus, by have := HWL.out; omega, HDG4.out, HDW4.out, by have := HDL.out; omega, HBB.out⟩
                          case measure => simp [intOf]; omega
                    have h14' : ¬ (14 : Int) < (c.length : Int) := by omega
                    by_cases hful : many < used + c.length + 1
                    · have hful' : ((many : Int) - used) < (c.length : Int) + 1 := by omega
                      have hF7 : F = 7 := by rw [HF.out, addFault, if_neg h14, if_pos hful]
                      subst hF7
                      clear hful h14
                      go_wp2_with fail
                      rw [← HW3.out]
                      have y5 := HBX.out W3 (Below.refl _ _)
                      clear x0 x1 x2 x3 x4 x5
                      go_loopw [26, 27] (fun fv jv wr => fv = .int .i64 7 ∧ jv = .int .i64 0 ∧ wr = W3) (fun _ _ _ => 0)
                      case atStart => exact ⟨rfl, rfl, rfl⟩
                      case round =>
                        obtain ⟨rfl, rfl, rfl⟩ := hrel
                        have HBV : Hid (Below wr.heap.size wr wr) := Lib.hid (Below.refl _ _)
                        have HF0 : Hid (7 ≠ 0) := Lib.hid (by decide)
                        go_wp2_with fail
                        all_goals
                          have CAX := Lib.hid (CAD.out wr HBV.out)
                          refine CAX.out.mono ?_
                          rintro e wA ⟨rfl, L', hl', hbl', hO', hG'⟩
                          have HLD2 := Lib.hid hl'
                          have HBA := Lib.hid ((two HB3'.out HBV.out).trans hbl')
                          obtain ⟨dg, dw⟩ := HDG3.out wr HBV.out
                          have HDG2 := Lib.hid (dg.turned hO' hG')
                          have HDW2 := Lib.hid (dw.turned hO' hG')
                          clear hl' hbl' hO' hG' dg dw
                          go_wp2_with fail
                          refine (CSM.out _).mono ?_
                          rintro e wB ⟨rfl, hbB⟩
                          have HLD3 := Lib.hid (HLD2.out.below hbB)
                          have HDG4 := Lib.hid (HDG2.out.below hbB)
                          have HDW4 := Lib.hid (HDW2.out.below hbB)
                          have HBB := Lib.hid (two HBA.out hbB)
                          have HAB : Hid ((addY fr many first used c D).1 = D) := Lib.hid (by rw [calm_add_bad _ _ _ _ _ _ (by rw [← HF.out]; first | decide | exact HF0.out)])
                          rw [HAB.out] at HLD3
                          clear hbB y5
                          go_wp2_with fail
                          go_roundw
                          case rel => exact ⟨k4 + 1, lb, L', D, ds, used, by omega, rfl, by go_num, rfl, HLD3.out.as (by first | rfl | exact if_neg HF0.out), HCL.out, HC.out, HOK.out, HNL.out, H4S.out, hus, by have := HWL.out; omega, HDG4.out, HDW4.out, by have := HDL.out; omega, HBB.out⟩
                          case measure => simp [intOf]; omega
                    have hful' : ¬ ((many : Int) - used) < (c.length : Int) + 1 := by omega
                    have HFF : Hid (F = faultsY c) := Lib.hid (by rw [HF.out, addFault, if_neg h14, if_neg hful])
                    have HH14 := Lib.hid h14
                    have HHFU := Lib.hid hful
                    clear hful h14
                    go_wp2_with fail
                    rw [← HW3.out]
                    have y5 := HBX.out W3 (Below.refl _ _)
                    clear x0 x1 x2 x3 x4 x5
                    go_loopw [26, 27] (fun fv jv wr => ∃ (j f : Nat), j ≤ c.length ∧ fv = .int .i64 f ∧ jv = .int .i64 j ∧ ((f ≠ 0 ∧ f = F) ∨ (f = 0 ∧ F = faultsY (c.drop j))) ∧ Below W3.heap.size W3 wr) (fun _ jv _ => c.length - (intOf jv).toNat)
                    case atStart => exact ⟨0, 0, Nat.zero_le _, rfl, rfl, Or.inr ⟨rfl, HFF.out⟩, Below.refl _ _⟩
                    case round =>
                      obtain ⟨j, f, hj, rfl, rfl, hor, hbv⟩ := hrel
                      have HBV := Lib.hid hbv
                      have HOR := Lib.hid hor
                      clear y5 hor hbv
                      have y5 := HBX.out wr HBV.out
                      by_cases hgo : j < c.length ∧ f = 0
                      · obtain ⟨hjl, rfl⟩ := hgo
                        obtain ⟨cb, cof, rfl, hlb2, x0, x1, x2⟩ := Changes.cell (Rd.below HCH.out (two HB3'.out HBV.out)) j hjl
                        obtain ⟨x, hx⟩ : ∃ x, x = c[j] := ⟨_, rfl⟩
                        have hxo : x.ok := by rw [hx]; exact HCOK.out _ (List.getElem_mem hjl)
                        have CK := ref_ChangeFault x.key x.val x.gone wr hxo.1 hxo.2
                        obtain ⟨n, hn⟩ : ∃ n, n = changeFault x := ⟨_, rfl⟩
                        rw [show (⟨x.key, x.val, x.gone⟩ : Change) = x from rfl, ← hn] at CK
                        have CK2 := Lib.hid CK
                        have HOR2 : Hid ((n ≠ 0 ∧ n = F) ∨ (n = 0 ∧ F = faultsY (c.drop (j + 1)))) := Lib.hid (by
                          rcases HOR.out with h | ⟨_, h⟩
                          · exact absurd rfl h.1
                          · rw [List.drop_eq_getElem_cons hjl, faultsY, ← hx, ← hn] at h
                            by_cases h0 : n = 0
                            · rw [if_neg (by simp [h0])] at h; exact Or.inr ⟨h0, h⟩
                            · rw [if_pos h0] at h; exact Or.inl ⟨h0, h.symm⟩)
                        rw [← hx] at x0 x1 x2
                        clear hx hxo hn CK
                        go_wp2_with fail
                        refine CK2.out.mono ?_
                        rintro e wA ⟨rfl, hbA⟩
                        have HBV2 := Lib.hid (two HBV.out hbA)
                        clear hbA x0 x1 x2 y5
                        go_wp2_with fail
                        go_roundw
                        case rel => exact ⟨j + 1, n, by omega, rfl, by go_num, HOR2.out, HBV2.out⟩
                        case measure => simp [intOf]; omega
                      · have hfF : F = f := by
                          rcases HOR.out with h | ⟨h0, h⟩
                          · exact h.2.symm
                          · have hjl : ¬ j < c.length := fun hh => hgo ⟨hh, h0⟩
                            rw [List.drop_eq_nil_of_le (by omega)] at h
                            rw [h, h0]; rfl
                        subst hfF
                        by_cases hF0 : F = 0
                        · subst hF0
                          have hjl : ¬ j < c.length := fun hh => hgo ⟨hh, rfl⟩
                          have hca := calm_add fr many first used c D ds HC.out HF.out.symm (by rw [HNL.out]; exact hfm) hf1 hf7 (by rw [HNL.out]; exact hN2) HCL.out
                          have hus2 : used + c.length + 1 ≤ many := (addFault_none HF.out.symm).2.1
                          have hwl2 : (addY fr many first used c D).1.wait.length ≤ D.wait.length + c.length + 2 := by unfold addY; rw [if_neg (by rw [← HF.out]; decide)]; exact wait_seal _ _ _ _ _ _
                          have hok2 := keep_add keptY_ok fr many first used c D HOK.out
                          have hnl2 := keep_add (keptY_len N) fr many first used c D HNL.out
                          have h4s2 := keep_add keptY_40 fr many first used c D H4S.out
                          have CAX := CAD.out wr HBV.out
                          obtain ⟨D2, hD2⟩ : ∃ D2, D2 = (addY fr many first used c D).1 := ⟨_, rfl⟩
                          rw [← hD2] at hca hwl2 hok2 hnl2 h4s2 CAX
                          have HCA := Lib.hid hca.2
                          have HX2 : Hid (D2.ok ∧ D2.now.length = N ∧ (∀ s ∈ D2.now, s.size = 40) ∧ D2.wait.length ≤ 100 + 100 * (k4 + 1)) := Lib.hid ⟨hok2, hnl2, h4s2, by have := HWL.out; omega⟩
                          have CAX2 := Lib.hid CAX
                          have HY5 := Lib.hid y5
                          clear hca hwl2 hok2 hnl2 h4s2 CAX hD2 hgo
                          go_wp2_with fail
                          refine CAX2.out.mono ?_
                          rintro e wA ⟨rfl, L', hl', hbl', hO', hG'⟩
                          have HLD2 : Hid (LogD wA w.heap.size lb b L' D2 fr many first (used + c.length + 1)) := Lib.hid (hl'.as rfl)
                          have HBA := Lib.hid ((two HB3'.out HBV.out).trans hbl')
                          obtain ⟨dg, dw⟩ := HDG3.out wr HBV.out
                          have HDW2 := Lib.hid (dw.turned hO' hG')
                          have HY6 := Lib.hid (hO'.cell HY5.out HNB.out)
                          clear hl' hbl' hO' hG' dg dw y5
                          go_wp2_with fail
                          refine (CSM.out _).mono ?_
                          rintro e wB ⟨rfl, hbB⟩
                          have HLD3 := Lib.hid (HLD2.out.below hbB)
                          have HDW4 := Lib.hid (HDW2.out.below hbB)
                          have HBB := Lib.hid (two HBA.out hbB)
                          have y5 := cell_on' hbB HY6.out
                          have HY7 : Hid (∀ W, Below wB.heap.size wB W → W.cell? ⟨w9.heap.size, 5, none⟩ = some (.slice co c.length cc)) := Lib.hid fun W hW => cell_on' (two hbB hW) HY6.out
                          have hq5 : ∀ o, (wB.alloc o).cell? ⟨w9.heap.size, 5, none⟩ = some (.slice co c.length cc) := fun o => HY7.out _ (below_alloc wB o)
                          clear hbB
                          obtain ⟨vs, h1, h2, h3⟩ := HDW4.out
                          have HVL := Lib.hid h2
                          have HV3 := Lib.hid h3
                          have hdl := HDL.out
                          have hk20 := HK20.out
                          have hone : ∀ u ∈ vs, u.oneCell' = true := fun u hu => by
                            obtain ⟨i, hi, rfl⟩ := List.getElem_of_mem hu
                            obtain ⟨ao, cap, e, _, _⟩ := (h3 i hi (by omega)).rd.parts
                            rw [e]; rfl
                          have HONE := Lib.hid hone
                          have HH1 := Lib.hid h1
                          clear h1 h2 h3 hone
                          have HL3F := Lib.hid HLD3.out.lt
                          have HCF2 : Hid (ChangesF (logF L' lb) wB (.slice co c.length cc) c) := Lib.hid ((Rd.outside HCH.out (by decide) (fun x hx => by
                            rcases hx with hx | hx
                            · exact HLD3.out.low x hx
                            · rw [hx]; exact HLD3.out.blow)).below HBB.out)
                          cases wo with
                          | none =>
                            have hv0 : vs = [] := by
                              obtain ⟨_, ao, cap, e, _, _, _, h6⟩ := HH1.out.rd
                              cases vs with
                              | nil => rfl
                              | cons a r =>
                                obtain ⟨b0, off0, e0, _⟩ := h6 0 a rfl
                                rw [e0] at e
                                cases e
                            have hd0 : ds.length = 0 := by rw [← HVL.out, hv0]; rfl
                            have HD0 := Lib.hid hd0
                            have HV0 := Lib.hid hv0
                            rw [hd0]
                            clear hv0
                            go_wp2_with fail
                            go_region_law (first
                              | (refine step_own _ rfl (.tmp 249) (.tmp 252) 93 rfl wB.heap.size 60 1 24 I_deeds (.slice none 0 0) 0 [] (by simp [Act.eval, Act.put]) (World.ownsRow_nil _ _ _ _) ⟨wB.heap.size, 0, none⟩ 1 1 [.slice co c.length cc] (by simp [Act.eval, Act.put]) rfl one_newd (by simp [Value.oneCell']) (by omega) (by simp) ?_; intro v2 w2 ho2 hg2; have HO2 : Hid (w2.ownsRow wB.heap.size 60 1 v2 (vs.length + 1) (vs ++ [.slice co c.length cc])) := Lib.hid (by rw [HV0.out]; exact ho2); have HB2 : Hid (Below wB.heap.size wB w2) := Lib.hid (grown_below (by first | exact (below_alloc _ _).drew | exact below_alloc _ _) (World.ownsRow_nil _ _ 60 1) hg2 (Nat.le_refl _)); have y6 := HY7.out _ HB2.out; clear ho2 hg2))
                            all_goals
                              have HD2 := Lib.hid (deeds_push HV3.out HVL.out HCF2.out HB2.out HO2.out HL3F.out)
                              have HL2 := Lib.hid (HLD3.out.below HB2.out)
                              have HBE := Lib.hid (two HBB.out HB2.out)
                              go_wp2_with fail
                              go_roundw
                              case rel => exact ⟨k4 + 1, lb, L', D2, ds ++ [c], used + c.length + 1, by omega, rfl, by go_num, by go_num, HL2.out, HCA.out.2, HCA.out.1, HX2.out.1, HX2.out.2.1, HX2.out.2.2.1, hus2, HX2.out.2.2.2, HD2.out, HD2.out, by simp; omega, HBE.out⟩
                              case measure => simp [intOf]; omega
                          | some ad =>
                            have HNW : Hid (∀ W, Below wB.heap.size wB W → ∀ j u, vs[j]? = some u → W.cell? (ad.add j) = some u) := Lib.hid fun W hW j u hj => by
                              obtain ⟨_, ao, cap, e, _, _, _, h6⟩ := (HH1.out.below hW).rd
                              obtain ⟨b0, off0, e0, hc0⟩ := h6 j u (by rw [flat_single]; exact hj)
                              rw [e0] at e
                              simp only [Value.slice.injEq, Option.some.injEq] at e
                              rw [e.1, Addr.add_lit]
                              exact hc0
                            have hvl : vs.length = ds.length * 1 := by rw [HVL.out]; omega
                            go_wp2_with fail
                            go_region_law (first
                              | (refine step_own _ rfl (.const (.slice none 0 0)) (.tmp 248) 93 rfl wB.heap.size 60 1 24 I_deeds (.slice none 0 0) 0 [] (by simp [Act.eval, Act.put]) (World.ownsRow_nil _ _ _ _) ad ds.length wc vs (by simp [Act.eval, Act.put]) hvl (by first | exact HNW.out _ (Below.refl _ _).drew | exact HNW.out _ (below_alloc _ _).drew) HONE.out (by omega) (by simp) ?_; intro v1 w1 ho1 hg1; have HO1 : Hid (w1.ownsRow wB.heap.size 60 1 v1 ds.length vs) := Lib.hid (by simpa using ho1); have HBO : Hid (Below wB.heap.size wB w1) := Lib.hid (by first | exact grown_below (Below.refl _ _).drew (World.ownsRow_nil _ _ 60 1) hg1 (Nat.le_refl _) | exact grown_below (below_alloc _ _).drew (World.ownsRow_nil _ _ 60 1) hg1 (Nat.le_refl _)); have y8 := HY7.out _ HBO.out; have y9 := fun o => HY7.out _ (two HBO.out (below_alloc w1 o)); (try (with_reducible have HSRC := Lib.hid (srcd hg1))); clear ho1 hg1)
                              | (refine step_own _ rfl (.tmp 249) (.tmp 252) 93 rfl wB.heap.size 60 1 24 I_deeds v1 ds.length vs (by simp [Act.eval, Act.put]) (HO1.out.alloc _) ⟨w1.heap.size, 0, none⟩ 1 1 [.slice co c.length cc] (by simp [Act.eval, Act.put]) rfl one_new (by simp [Value.oneCell']) (by omega) (by have := HBO.out.size; simp; omega) ?_; intro v2 w2 ho2 hg2; have HO2 : Hid (w2.ownsRow wB.heap.size 60 1 v2 (vs.length + 1) (vs ++ [.slice co c.length cc])) := Lib.hid (by rw [HVL.out]; exact ho2); have HB2 : Hid (Below wB.heap.size wB w2) := Lib.hid (grown_below (two HBO.out (below_alloc _ _)) (HO1.out.alloc (.cells #[.slice co c.length cc] 60)) hg2 (Nat.le_refl _)); have y6 := HY7.out _ HB2.out; clear ho2 hg2)
                              | (refine step_own _ rfl (.tmp 249) (.tmp 252) 93 rfl wB.heap.size 60 1 24 I_deeds v1 ds.length vs (by simp [Act.eval, Act.put]) HO1.out ⟨wB.heap.size, 0, none⟩ 1 1 [.slice co c.length cc] (by simp [Act.eval, Act.put]) rfl HSRC.out (by simp [Value.oneCell']) (by omega) (by have := HBO.out.size; omega) ?_; intro v2 w2 ho2 hg2; have HO2 : Hid (w2.ownsRow wB.heap.size 60 1 v2 (vs.length + 1) (vs ++ [.slice co c.length cc])) := Lib.hid (by rw [HVL.out]; exact ho2); have HB2 : Hid (Below wB.heap.size wB w2) := Lib.hid (grown_below HBO.out HO1.out hg2 (Nat.le_refl _)); have y6 := HY7.out _ HB2.out; clear ho2 hg2))
                            all_goals
                              have HD2 := Lib.hid (deeds_push HV3.out HVL.out HCF2.out HB2.out HO2.out HL3F.out)
                              have HL2 := Lib.hid (HLD3.out.below HB2.out)
                              have HBE := Lib.hid (two HBB.out HB2.out)
                              go_wp2_with fail
                              go_roundw
                              case rel => exact ⟨k4 + 1, lb, L', D2, ds ++ [c], used + c.length + 1, by omega, rfl, by go_num, by go_num, HL2.out, HCA.out.2, HCA.out.1, HX2.out.1, HX2.out.2.1, HX2.out.2.2.1, hus2, HX2.out.2.2.2, HD2.out, HD2.out, by simp; omega, HBE.out⟩
                              case measure => simp [intOf]; omega
                        · have HF0 := Lib.hid hF0
                          have hFi : ¬ ((F : Int) = 0) := by omega
                          clear hgo
                          go_wp2_with fail
                          all_goals
                            have CAX := Lib.hid (CAD.out wr HBV.out)
                            refine CAX.out.mono ?_
                            rintro e wA ⟨rfl, L', hl', hbl', hO', hG'⟩
                            have HLD2 := Lib.hid hl'
                            have HBA := Lib.hid ((two HB3'.out HBV.out).trans hbl')
                            obtain ⟨dg, dw⟩ := HDG3.out wr HBV.out
                            have HDG2 := Lib.hid (dg.turned hO' hG')
                            have HDW2 := Lib.hid (dw.turned hO' hG')
                            clear hl' hbl' hO' hG' dg dw
                            go_wp2_with fail
                            refine (CSM.out _).mono ?_
                            rintro e wB ⟨rfl, hbB⟩
                            have HLD3 := Lib.hid (HLD2.out.below hbB)
                            have HDG4 := Lib.hid (HDG2.out.below hbB)
                            have HDW4 := Lib.hid (HDW2.out.below hbB)
                            have HBB := Lib.hid (two HBA.out hbB)
                            have HAB : Hid ((addY fr many first used c D).1 = D) := Lib.hid (by rw [calm_add_bad _ _ _ _ _ _ (by rw [← HF.out]; first | decide | exact HF0.out)])
                            rw [HAB.out] at HLD3
                            clear hbB y5
                            go_wp2_with fail
                            go_roundw
                            case rel => exact ⟨k4 + 1, lb, L', D, ds, used, by omega, rfl, by go_num, rfl, HLD3.out.as (by first | rfl | exact if_neg HF0.out), HCL.out, HC.out, HOK.out, HNL.out, H4S.out, hus, by have := HWL.out; omega, HDG4.out, HDW4.out, by have := HDL.out; omega, HBB.out⟩
                            case measure => simp [intOf]; omega
end Go.Proofs.Ytggpodlecljcbaa
