/- The walk of the statement TopDisk. -/
import Derived.Test.YtggpodlecljcbabLawK
import Derived.Test.YtggpodlecljcbabSpecTD
import Derived.Test.YtggpodlecljcbabWalkR
import Derived.Deep.RegionHeld3
namespace Go.Proofs.Ytggpodlecljcbab
open Go.RowKit Go.Sort
set_option linter.unusedSimpArgs false
set_option linter.unusedVariables false
def fourB : List ByteArray := [⟨#[]⟩, ⟨#[]⟩, ⟨#[]⟩, ⟨#[]⟩]
/-- Four texts, in an array of one's own. -/
structure WAt (w : World) (g : Nat) (l : List ByteArray) : Prop where
  len : l.length = 4
  cell : ∀ i (h : i < l.length), w.cell? ⟨g, i, none⟩ = some (.string l[i])
  froz : ∀ i, i < 4 → w.frozen? ⟨g, i, none⟩ = false
  lt : g < w.heap.size
theorem WAt.new (w : World) (ty : TypeId) : WAt (w.alloc (.cells #[.string ⟨#[]⟩, .string ⟨#[]⟩, .string ⟨#[]⟩, .string ⟨#[]⟩] ty)) w.heap.size fourB := by
  refine ⟨rfl, fun i h => ?_, fun i h => ?_, by simp⟩
  · match i, h with
    | 0, _ => simp [fourB]
    | 1, _ => simp [fourB]
    | 2, _ => simp [fourB]
    | 3, _ => simp [fourB]
    | i + 4, h => exact absurd h (by simp [fourB])
  · simp
theorem WAt.off {F : Nat → Prop} {w w' : World} {g : Nat} {l : List ByteArray} (h : WAt w g l) (ho : Off F w w') (hF : ¬ F g) : WAt w' g l := by
  have hb : w'.heap[g]? = w.heap[g]? := ho.block g h.lt hF
  refine ⟨h.len, fun i hi => (ho.cell (h.cell i hi) hF), fun i hi => ?_, Nat.lt_of_lt_of_le h.lt ho.size⟩
  have := h.froz i hi
  simp only [World.frozen?, hb] at this ⊢
  exact this
theorem WAt.below {w w' : World} {g : Nat} {l : List ByteArray} (h : WAt w g l) (hb : Below w.heap.size w w') : WAt w' g l := h.off (off_below hb (fun _ => False)) id
theorem WAt.set {w : World} {g : Nat} {l : List ByteArray} (h : WAt w g l) (i : Nat) (hi : i < 4) (s : ByteArray) : WAt (w.setCell ⟨g, i, none⟩ (.string s)) g (l.set i s) := by
  refine ⟨by rw [List.length_set]; exact h.len, fun j hj => ?_, fun j hj => by rw [World.frozen?_setCell]; exact h.froz j hj, by simp [World.setCell]; exact h.lt⟩
  have hj' : j < l.length := by simpa using hj
  by_cases e : i = j
  · subst e
    rw [World.cell?_setCell_same _ _ _ (h.cell i hj')]
    simp
  · rw [World.cell?_setCell_other _ _ _ _ (by intro h; cases h; exact e rfl), h.cell j hj']
    simp [e]
theorem below_set {B g i : Nat} {w0 w : World} (h : Below B w0 w) (hg : B ≤ g) (v : Value) : Below B w0 (w.setCell ⟨g, i, none⟩ v) := h.setCell (p := ⟨g, i, none⟩) hg v
/-- A disk and an array apart from it. -/
structure DW (w : World) (B b g : Nat) (L : Dk) (D : DiskS) (l : List ByteArray) : Prop where
  d : DiskAt w L D
  lb : L.b = b
  lf : ∀ k, L.foot k → B ≤ k
  a : WAt w g l
  apart : ¬ L.foot g
  gb : B ≤ g
theorem DW.below {w w' : World} {B b g : Nat} {L : Dk} {D : DiskS} {l : List ByteArray} (h : DW w B b g L D l) (hb : Below w.heap.size w w') : DW w' B b g L D l := ⟨h.d.below hb, h.lb, h.lf, h.a.below hb, h.apart, h.gb⟩
theorem DW.turn {w w' : World} {B b g : Nat} {L : Dk} {D D' : DiskS} {l : List ByteArray} (h : DW w B b g L D l) (t : Turned 99 102 w L D' w') (hB : B ≤ w.heap.size) : ∃ L', DW w' B b g L' D' l ∧ Below B w w' := by
  obtain ⟨L', hb, hd, ho, hf⟩ := t
  refine ⟨L', ⟨hd, hb.trans h.lb, fun k hk => (hf k hk).elim (h.lf k) (fun x => Nat.le_trans hB x), h.a.off ho h.apart, fun hg => ?_, h.gb⟩, ho.below B hB h.lf⟩
  rcases hf g hg with h1 | h1
  · exact h.apart h1
  · have := h.a.lt; omega
theorem DW.set {w : World} {B b g : Nat} {L : Dk} {D : DiskS} {l : List ByteArray} (h : DW w B b g L D l) (i : Nat) (hi : i < 4) (s : ByteArray) : DW (w.setCell ⟨g, i, none⟩ (.string s)) B b g L D (l.set i s) :=
  ⟨h.d.off (off_setCell (F := fun k => k = g) w ⟨g, i, none⟩ rfl _) (fun k hk e => h.apart (e ▸ hk)), h.lb, h.lf, h.a.set i hi s, h.apart, h.gb⟩
set_option maxRecDepth 100000 in
set_option maxHeartbeats 8000000 in
theorem law_TopDisk (va vb : Value) (avs bvs : List ActV) (al bl : List Act) (keep : Int) (w : World) (hav : ActVs w va avs) (haa : IsActs w avs al) (hbv : ActVs w vb bvs) (hba : IsActs w bvs bl) (hk0 : 0 ≤ keep) (hk1 : keep < 18446744073709551616) (hak : ∀ a ∈ al, a.ok) (hbk : ∀ a ∈ bl, a.ok)
    (han : ∀ a ∈ al, -9223372036854775808 ≤ a.n ∧ a.n ≤ 9223372036854775807) (hbn : ∀ a ∈ bl, -9223372036854775808 ≤ a.n ∧ a.n ≤ 9223372036854775807) :
    Calls Try.prog 4 #[va, vb, .int .u64 keep] w fun e w' => e = .returned (.bool true) ∧ Below w.heap.size w w' := by
  have CA := Lib.hid fun W hb => law_LightActs va avs al 40 W (hav.below hb) (haa.below hb) hak
  have CB := Lib.hid fun W hb => law_LightActs vb bvs bl 60 W (hbv.below hb) (hba.below hb) hbk
  have CN := Lib.hid (disk_New 4 w (by decide) (by decide))
  obtain ⟨ao, ac, rfl, hac, hac'⟩ := hav.parts
  obtain ⟨bo, bc, rfl, hbc, hbc'⟩ := hbv.parts
  have HAV := Lib.hid hav
  have HAA := Lib.hid haa
  have HBV := Lib.hid hbv
  have HBA := Lib.hid hba
  have HAN := Lib.hid han
  have HBN := Lib.hid hbn
  have HLA := Lib.hid haa.1
  have HLB := Lib.hid hba.1
  have HK0 := Lib.hid hk0
  have HK1 := Lib.hid hk1
  clear hav haa hbv hba hak hbk han hbn hk0 hk1
  go_enter Try.func4, Try.ntmps4
  go_wp2_with fail
  refine CN.out.mono ?_
  rintro e w1 ⟨L0, rfl, hd1, hb1, hf1⟩
  have HB1 := Lib.hid hb1
  have HF1 := Lib.hid hf1
  have C := disk_Flush L0 (newD 4) w1 hd1 calm_new.ok
  rw [calm_new.flush] at C
  obtain ⟨D1, hD1⟩ : ∃ D1, D1 = ({ newD 4 with kept := (newD 4).now, wait := [] } : DiskS) := ⟨_, rfl⟩
  have HC1 : Hid (Calm D1 0) := Lib.hid (by rw [hD1]; exact calm_new.flushed)
  rw [← hD1] at C
  obtain ⟨b, hb⟩ : ∃ b, b = L0.b := ⟨_, rfl⟩
  have HL0 := Lib.hid hb.symm
  rw [← hb] at C ⊢
  replace C := Lib.hid C
  clear hd1 hb1 hf1 hD1 hb
  go_wp2_with fail
  refine C.out.mono ?_
  rintro e w2 ⟨rfl, ht⟩
  obtain ⟨L2, hl2, hd2, hb2, hf2⟩ := ht.below w.heap.size HB1.out.size HF1.out
  have HL2 := Lib.hid (hl2.trans HL0.out)
  have HB2 := Lib.hid (HB1.out.trans hb2)
  have HD2 := Lib.hid hd2
  have HF2 := Lib.hid hf2
  have C := disk_Sectors L2 D1 w2 hd2
  rw [HC1.out.four, HL2.out] at C
  replace C := Lib.hid C
  have he : errV ((D1, 0) : DiskS × Nat).2 = .nilIface := rfl
  rw [he]
  clear ht hl2 hd2 hb2 hf2
  go_wp2_with fail
  refine C.out.mono ?_
  rintro e w3 ⟨rfl, hq⟩
  rw [hq]
  clear hq
  go_wp2_with fail
  refine (CA.out _ HB2.out).mono ?_
  rintro e w3 ⟨rfl, rfl⟩
  cases hla : lightActs al 40
  · go_wp2_with fail
    go_ret
    exact ⟨rfl, HB2.out⟩
  have HAL : Hid (avs.length ≤ 40) := Lib.hid (by
    have h := HLA.out
    unfold lightActs at hla
    simp only [Bool.and_eq_true, decide_eq_true_eq] at hla
    omega)
  clear hla
  go_wp2_with fail
  refine (CB.out _ HB2.out).mono ?_
  rintro e w4 ⟨rfl, rfl⟩
  cases hlb : lightActs bl 60
  · go_wp2_with fail
    go_ret
    exact ⟨rfl, HB2.out⟩
  have HBL : Hid (bvs.length ≤ 60) := Lib.hid (by
    have h := HLB.out
    unfold lightActs at hlb
    simp only [Bool.and_eq_true, decide_eq_true_eq] at hlb
    omega)
  clear hlb
  go_wp2_with fail
  go_loopw [9] (fun i wr => ∃ (k : Nat) (L : Dk) (D : DiskS), k ≤ avs.length ∧ i = .int .i64 k ∧ DiskAt wr L D ∧ L.b = b ∧ (∀ j, L.foot j → w.heap.size ≤ j) ∧ Calm D k ∧ Below w.heap.size w wr) (fun i _ => avs.length - (intOf i).toNat)
  case atStart => exact ⟨0, L2, D1, Nat.zero_le _, rfl, HD2.out, HL2.out, HF2.out, HC1.out, HB2.out⟩
  case round =>
    obtain ⟨k, L, D, hk, rfl, hd, hlb, hlf, hc, hb⟩ := hrel
    have HD := Lib.hid hd
    have HLBB := Lib.hid hlb
    have HLF := Lib.hid hlf
    have HC := Lib.hid hc
    have HB := Lib.hid hb
    clear hd hlb hlf hc hb
    by_cases hlt : k < avs.length
    · obtain ⟨ba, oa, rfl, hlb, x0, x1, x2, x3, x4, x5⟩ := ActVs.cell HAV.out k hlt
      have HXC : Hid (∀ W, Below w.heap.size w W → W.cell? ⟨ba, oa + k * 6 + 1, none⟩ = some (.string avs[k].s) ∧ W.cell? ⟨ba, oa + k * 6 + 3, none⟩ = some (.int .i64 avs[k].n)) := Lib.hid fun W hb => by
        obtain ⟨kc, _⟩ := bcell hb
        exact ⟨(kc _ _ hlb).trans x1, (kc _ _ hlb).trans x3⟩
      obtain ⟨y1, y3⟩ := HXC.out _ HB.out
      have C := fun W h => disk_Write L D avs[k].n avs[k].s W h HC.out.ok (by have := HC.out.few; have := HAL.out; omega)
      have HC2 := Lib.hid (HC.out.write avs[k].n avs[k].s)
      obtain ⟨D2, hD2⟩ : ∃ D2, D2 = (writeD D avs[k].n avs[k].s).1 := ⟨_, rfl⟩
      rw [← hD2] at C HC2
      obtain ⟨en, hen⟩ : ∃ en, en = errV (writeD D avs[k].n avs[k].s).2 := ⟨_, rfl⟩
      rw [← hen, HLBB.out] at C
      clear hD2 hen x0 x1 x2 x3 x4 x5
      replace C := Lib.hid C
      have HDD := Lib.hid (HD.out.below (Below.refl _ _).drew)
      have HBD := Lib.hid HB.out.drew
      go_wp2_with fail
      go_region_held3 (fun W => W.cell? ⟨ba, oa + k * 6 + 1, none⟩ = some (.string avs[k].s) ∧ W.cell? ⟨ba, oa + k * 6 + 3, none⟩ = some (.int .i64 avs[k].n))
        (first
          | exact HXC.out _ HBD.out
          | exact HXC.out _ (HBA2 : Hid _).out)
        (first
          | (go_at_call 23; refine (C.out _ HDD.out).mono ?_; rintro e wA ⟨rfl, tA⟩; obtain ⟨L3, hl3, hd3, hb3, hf3⟩ := tA.below w.heap.size HBD.out.size HLF.out; have HL3 := Lib.hid (hl3.trans HLBB.out); have HD3 := Lib.hid hd3; have HBA2 := Lib.hid (HBD.out.trans hb3); have HF3 := Lib.hid hf3; clear tA hl3 hd3 hb3 hf3))
      all_goals
        clear y1 y3
        go_wp2_with fail
        go_roundw
        case rel => exact ⟨k + 1, L3, D2, by omega, by go_num, HD3.out, HL3.out, HF3.out, HC2.out, HBA2.out⟩
        case measure => simp [intOf]; omega
    · have CF := disk_Flush L D wr HD.out HC.out.ok
      rw [HC.out.flush, HLBB.out] at CF
      obtain ⟨D3, hD3⟩ : ∃ D3, D3 = ({ D with kept := D.now, wait := [] } : DiskS) := ⟨_, rfl⟩
      have HC3 : Hid (Calm D3 0) := Lib.hid (by rw [hD3]; exact HC.out.flushed)
      have HK3 : Hid (D3.kept = D3.now ∧ D3.wait = []) := Lib.hid (by rw [hD3]; exact ⟨rfl, rfl⟩)
      rw [← hD3] at CF
      have he3 : errV ((D3, 0) : DiskS × Nat).2 = .nilIface := rfl
      rw [he3] at CF
      replace CF := Lib.hid CF
      clear hD3 he3
      go_wp2_with fail
      refine CF.out.mono ?_
      rintro e w5 ⟨rfl, ht⟩
      obtain ⟨L5, hl5, hd5, hb5, hf5⟩ := ht.below w.heap.size HB.out.size HLF.out
      obtain ⟨W5, hW5⟩ : ∃ W5, W5 = w5.alloc (.cells #[.string ⟨#[]⟩, .string ⟨#[]⟩, .string ⟨#[]⟩, .string ⟨#[]⟩] 51) := ⟨_, rfl⟩
      obtain ⟨g, hg⟩ : ∃ g, g = w5.heap.size := ⟨_, rfl⟩
      have HX5 : Hid (DW W5 w.heap.size b g L5 D3 fourB) := Lib.hid (by
        rw [hW5, hg]
        exact ⟨hd5.below (below_alloc _ _), hl5.trans HLBB.out, hf5, WAt.new w5 _, fun hg => Nat.lt_irrefl _ (hd5.lt _ hg), (HB.out.trans hb5).size⟩)
      have HB5 : Hid (Below w.heap.size w W5) := Lib.hid (by
        rw [hW5]
        exact (HB.out.trans hb5).alloc (HB.out.trans hb5).size _)
      have HW5 := Lib.hid hW5
      have HG := Lib.hid hg
      clear hW5 hg ht hl5 hd5 hb5 hf5
      go_wp2_with fail
      rw [← HW5.out, ← HG.out]
      go_loopw [11] (fun i wr => ∃ (t : Nat) (l : List ByteArray), t ≤ 4 ∧ i = .int .i64 t ∧ DW wr w.heap.size b g L5 D3 l ∧ (∀ j, j < t → l[j]? = D3.now[j]?) ∧ Below w.heap.size w wr) (fun i _ => 4 - (intOf i).toNat)
      case atStart => exact ⟨0, _, Nat.zero_le _, rfl, HX5.out, fun j hj => absurd hj (Nat.not_lt_zero _), HB5.out⟩
      case round =>
        obtain ⟨t, l, ht, rfl, hx, hl, hbw⟩ := hrel
        have HX := Lib.hid hx
        have HL := Lib.hid hl
        have HBW := Lib.hid hbw
        clear hx hl hbw
        by_cases hlt : t < 4
        · have C := disk_Read L5 D3 t _ HX.out.d
          rw [HC3.out.read t hlt, HX.out.lb] at C
          obtain ⟨s, hs⟩ : ∃ s, s = D3.now[t]'(by rw [HC3.out.four]; exact hlt) := ⟨_, rfl⟩
          rw [← hs] at C
          have HS : Hid (D3.now[t]? = some s) := Lib.hid (by rw [hs]; exact List.getElem?_eq_getElem _)
          clear hs
          replace C := Lib.hid C
          go_wp2_with fail
          refine C.out.mono ?_
          rintro e w6 ⟨rfl, hq⟩
          rw [hq]
          clear hq
          have he6 : errV (s, 0).2 = .nilIface := rfl
          try rw [he6]
          have hc := HX.out.a.cell t (by rw [HX.out.a.len]; exact hlt)
          have hfz := HX.out.a.froz t hlt
          go_wp2_with fail
          go_roundw
          case rel =>
            refine ⟨t + 1, l.set t s, by omega, by go_num, HX.out.set t hlt s, fun j hj => ?_, below_set HBW.out HX.out.gb _⟩
            rw [List.getElem?_set]
            by_cases e : t = j
            · subst e
              rw [if_pos rfl, if_pos (by rw [HX.out.a.len]; exact hlt)]
              exact HS.out.symm
            · rw [if_neg e]
              exact HL.out j (by omega)
          case measure => simp [intOf]; omega
        · have hl3 : l = D3.now := by
            refine List.ext_getElem? fun j => ?_
            by_cases hj : j < 4
            · exact HL.out j (by omega)
            · rw [List.getElem?_eq_none (by rw [HX.out.a.len]; omega), List.getElem?_eq_none (by rw [HC3.out.four]; omega)]
          obtain ⟨K, hK⟩ : ∃ K, K = D3.now := ⟨_, rfl⟩
          have HX6 : Hid (DW wr w.heap.size b g L5 D3 (keepTo' keep D3.wait D3.wait.length K)) := Lib.hid (by
            rw [HK3.out.2, hK, ← hl3]
            exact (keepTo_zero keep [] l) ▸ HX.out)
          have HKK : Hid (D3.kept = K) := Lib.hid (by rw [hK]; exact HK3.out.1)
          have HW0 : Hid (D3.wait.length = 0) := Lib.hid (by rw [HK3.out.2]; rfl)
          clear hl3 hK
          go_wp2_with fail
          go_loopw [14, 15] (fun n i wr => ∃ (k : Nat) (L : Dk) (D : DiskS), k ≤ bvs.length ∧ i = .int .i64 k ∧ n = .int .i64 D.wait.length ∧ DW wr w.heap.size b g L D (keepTo' keep D.wait D.wait.length K) ∧ D.kept = K ∧ Calm D k ∧ Below w.heap.size w wr) (fun _ i _ => bvs.length - (intOf i).toNat)
          case atStart => exact ⟨0, L5, D3, Nat.zero_le _, rfl, by rw [HW0.out]; rfl, HX6.out, HKK.out, HC3.out, HBW.out⟩
          case round =>
            obtain ⟨k, L, D, hk, rfl, rfl, hx, hkept, hc, hbw⟩ := hrel
            have HX := Lib.hid hx
            have HKD := Lib.hid hkept
            have HC := Lib.hid hc
            have HBW := Lib.hid hbw
            clear hx hkept hc hbw
            by_cases hlt : k < bvs.length
            · obtain ⟨ba, oa, rfl, hlb, x0, x1, x2, x3, x4, x5⟩ := ActVs.cell HBV.out k hlt
              have HXC : Hid (∀ W, Below w.heap.size w W → W.cell? ⟨ba, oa + k * 6 + 1, none⟩ = some (.string bvs[k].s) ∧ W.cell? ⟨ba, oa + k * 6 + 3, none⟩ = some (.int .i64 bvs[k].n)) := Lib.hid fun W hb => by
                obtain ⟨kc, _⟩ := bcell hb
                exact ⟨(kc _ _ hlb).trans x1, (kc _ _ hlb).trans x3⟩
              obtain ⟨y1, y3⟩ := HXC.out _ HBW.out
              have C := fun W h => disk_Write L D bvs[k].n bvs[k].s W h HC.out.ok (by have := HC.out.few; have := HBL.out; omega)
              rw [HX.out.lb] at C
              have HDD := Lib.hid (HX.out.below (Below.refl _ _).drew)
              have HBD := Lib.hid HBW.out.drew
              have HK60 : Hid (k < 60) := Lib.hid (by have := HBL.out; omega)
              clear x0 x1 x2 x3 x4 x5
              by_cases hp : bvs[k].n < 0 ∨ 4 ≤ bvs[k].n ∨ 40 < bvs[k].s.size
              · rw [HC.out.write_bad hp] at C
                have he : errV ((D, 1) : DiskS × Nat).2 = .iface 91 (.int .i64 1) := rfl
                rw [he] at C
                replace C := Lib.hid C
                clear hp he
                go_wp2_with fail
                go_region_held3 (fun W => W.cell? ⟨ba, oa + k * 6 + 1, none⟩ = some (.string bvs[k].s) ∧ W.cell? ⟨ba, oa + k * 6 + 3, none⟩ = some (.int .i64 bvs[k].n))
                  (first
                    | exact HXC.out _ HBD.out
                    | exact HXC.out _ (HBA2 : Hid _).out)
                  (first
                    | (go_at_call 23; refine (C.out _ HDD.out.d).mono ?_; rintro e wA ⟨rfl, tA⟩; obtain ⟨L3, hx3, hb3⟩ := HDD.out.turn tA HBD.out.size; have HX3 := Lib.hid hx3; have HBA2 := Lib.hid (HBD.out.trans hb3); clear tA hx3 hb3))
                all_goals
                  clear y1 y3
                  go_wp2_with fail
                  go_roundw
                  case rel => exact ⟨k + 1, L3, D, by omega, by go_num, rfl, HX3.out, HKD.out, HC.out.more, HBA2.out⟩
                  case measure => simp [intOf]; omega
              · obtain ⟨p, hpn⟩ : ∃ p : Nat, bvs[k].n = p := ⟨bvs[k].n.toNat, by omega⟩
                have hp4 : p < 4 := by omega
                have hs4 : bvs[k].s.size ≤ 40 := by omega
                rw [hpn] at C y3
                have HXC2 : Hid (∀ W, Below w.heap.size w W → W.cell? ⟨ba, oa + k * 6 + 1, none⟩ = some (.string bvs[k].s) ∧ W.cell? ⟨ba, oa + k * 6 + 3, none⟩ = some (.int .i64 p)) := Lib.hid fun W hb => by
                  have h := HXC.out W hb
                  rw [hpn] at h
                  exact h
                rw [HC.out.write_good p hp4 hs4] at C
                have HC2 := Lib.hid (HC.out.written p hp4 hs4)
                obtain ⟨t, ht⟩ : ∃ t, t = fullS bvs[k].s := ⟨_, rfl⟩
                rw [← ht] at C HC2
                obtain ⟨D2, hD2⟩ : ∃ D2, D2 = ({ D with now := D.now.set p t, wait := D.wait ++ [⟨p, t⟩] } : DiskS) := ⟨_, rfl⟩
                rw [← hD2] at C HC2
                have he : errV ((D2, 0) : DiskS × Nat).2 = .nilIface := rfl
                rw [he] at C
                have HR2 : Hid (readD D2 p = (t, 0)) := Lib.hid (by
                  rw [HC2.out.read p hp4]
                  simp [hD2, HC.out.four, hp4])
                have HKD2 : Hid (D2.kept = K) := Lib.hid (by rw [hD2]; exact HKD.out)
                have HWL : Hid (D2.wait.length = D.wait.length + 1) := Lib.hid (by rw [hD2]; simp)
                have HKT : Hid (keepTo' keep D2.wait D2.wait.length K = if keepBit keep D.wait.length then (keepTo' keep D.wait D.wait.length K).set p t else keepTo' keep D.wait D.wait.length K) := Lib.hid (by rw [hD2]; exact keepTo_more keep D.wait ⟨p, t⟩ K)
                replace C := Lib.hid C
                obtain ⟨m, hm⟩ : ∃ m, m = D.wait.length := ⟨_, rfl⟩
                have hm60 : m < 60 := by rw [hm]; have := HC.out.few; have := HK60.out; omega
                rw [← hm] at HWL HKT
                have HM := Lib.hid hm
                obtain ⟨wl, hwl⟩ : ∃ wl, wl = keepTo' keep D.wait D.wait.length K := ⟨_, rfl⟩
                have HXD : Hid (DW wr.drew w.heap.size b g L D wl) := Lib.hid (by rw [hwl]; exact HDD.out)
                rw [hm, ← hwl] at HKT
                rw [← hm] at HKT
                clear hp hpn he hD2 hwl ht hs4 hm
                cases hkb : keepBit keep m
                · have HKE : Hid (keepTo' keep D2.wait D2.wait.length K = wl) := Lib.hid (by rw [HKT.out, hkb]; rfl)
                  have hkb' : (bits BinOp.and IntKind.u64 (keep / 2 ^ m) 1 == 1) = false := by
                    unfold keepBit at hkb
                    rwa [Nat.mod_eq_of_lt (by omega)] at hkb
                  rw [← HM.out]
                  clear hkb
                  go_wp2_with fail
                  go_region_held3 (fun W => W.cell? ⟨ba, oa + k * 6 + 1, none⟩ = some (.string bvs[k].s) ∧ W.cell? ⟨ba, oa + k * 6 + 3, none⟩ = some (.int .i64 p))
                    (first
                      | exact HXC2.out _ HBD.out
                      | exact HXC2.out _ (HBA2 : Hid _).out)
                    (first
                      | (go_at_call 23; refine (C.out _ HXD.out.d).mono ?_; rintro e wA ⟨rfl, tA⟩; obtain ⟨L3, hx3, hb3⟩ := HXD.out.turn tA HBD.out.size; have HX3 := Lib.hid hx3; have HBA2 := Lib.hid (HBD.out.trans hb3); clear tA hx3 hb3))
                  all_goals
                    clear y1 y3
                    go_wp2_with fail
                    go_roundw
                    case rel => exact ⟨k + 1, L3, D2, by omega, by go_num, by rw [HWL.out]; go_num, by rw [HKE.out]; exact HX3.out, HKD2.out, HC2.out, HBA2.out⟩
                    case measure => simp [intOf]; omega
                · have HKE : Hid (keepTo' keep D2.wait D2.wait.length K = wl.set p t) := Lib.hid (by rw [HKT.out, hkb]; rfl)
                  have hkb' : (bits BinOp.and IntKind.u64 (keep / 2 ^ m) 1 == 1) = true := by
                    unfold keepBit at hkb
                    rwa [Nat.mod_eq_of_lt (by omega)] at hkb
                  rw [← HM.out]
                  clear hkb
                  go_wp2_with fail
                  go_region_held3 (fun W => W.cell? ⟨ba, oa + k * 6 + 1, none⟩ = some (.string bvs[k].s) ∧ W.cell? ⟨ba, oa + k * 6 + 3, none⟩ = some (.int .i64 p))
                    (first
                      | exact HXC2.out _ HBD.out
                      | exact HXC2.out _ (HBA2 : Hid _).out)
                    (first
                      | (go_at_call 23; refine (C.out _ HXD.out.d).mono ?_; rintro e wA ⟨rfl, tA⟩; obtain ⟨L3, hx3, hb3⟩ := HXD.out.turn tA HBD.out.size; have HX3 := Lib.hid hx3; have HBA2 := Lib.hid (HBD.out.trans hb3); clear tA hx3 hb3))
                  all_goals
                    clear y1 y3
                    have CR := disk_Read L3 D2 p wA HX3.out.d
                    rw [HR2.out, HX3.out.lb] at CR
                    have he8 : errV ((t, 0) : ByteArray × Nat).2 = .nilIface := rfl
                    rw [he8] at CR
                    replace CR := Lib.hid CR
                    clear he8
                    go_wp2_with fail
                    refine CR.out.mono ?_
                    rintro e wB ⟨rfl, hq⟩
                    rw [hq]
                    clear hq
                    obtain ⟨z1, z3⟩ := HXC2.out _ HBA2.out
                    have hc := HX3.out.a.cell p (by rw [HX3.out.a.len]; exact hp4)
                    have hfz := HX3.out.a.froz p hp4
                    go_wp2_with fail
                    go_roundw
                    case rel => exact ⟨k + 1, L3, D2, by omega, by go_num, by rw [HWL.out]; go_num, by rw [HKE.out]; exact HX3.out.set p hp4 t, HKD2.out, HC2.out, below_set HBA2.out HX3.out.gb _⟩
                    case measure => simp [intOf]; omega
            · have CR := disk_Restart L D keep wr HX.out.d HC.out.ok HK0.out HK1.out (by have := HC.out.few; have := HBL.out; omega)
              rw [HX.out.lb] at CR
              obtain ⟨wl, hwl⟩ : ∃ wl, wl = keepTo' keep D.wait D.wait.length K := ⟨_, rfl⟩
              obtain ⟨DR, hDR⟩ : ∃ DR, DR = restartD D keep := ⟨_, rfl⟩
              rw [← hDR] at CR
              have hnow : DR.now = wl := by rw [hDR, hwl]; show keepTo' keep D.wait D.wait.length D.kept = _; rw [HKD.out]
              have hXW := HX.out
              rw [← hwl] at hXW
              have HXW := Lib.hid hXW
              have hw4 : wl.length = 4 := hXW.a.len
              have HRD : Hid (∀ i : Nat, (h : i < 4) → readD DR i = (wl[i]'(by rw [hw4]; exact h), 0)) := Lib.hid fun i hi => by
                unfold readD
                rw [if_neg (by rw [hDR]; simp [restartD]), if_neg (by rw [hnow, hXW.a.len]; omega), hnow]
                simp [hXW.a.len, hi]
              replace CR := Lib.hid CR
              clear hwl hDR hnow hXW
              go_wp2_with fail
              refine CR.out.mono ?_
              rintro e w7 ⟨rfl, ht⟩
              obtain ⟨L7, hx7, hb7⟩ := HXW.out.turn ht HBW.out.size
              have HX7 := Lib.hid hx7
              have HB7 := Lib.hid (HBW.out.trans hb7)
              clear ht hx7 hb7
              go_wp2_with fail
              go_loopw [18] (fun i wr => ∃ t : Nat, t ≤ 4 ∧ i = .int .i64 t ∧ wr = w7) (fun i _ => 4 - (intOf i).toNat)
              case atStart => exact ⟨0, Nat.zero_le _, rfl, rfl⟩
              case round =>
                obtain ⟨t, ht4, rfl, rfl⟩ := hrel
                by_cases hlt4 : t < 4
                · have C := disk_Read L7 DR t wr HX7.out.d
                  rw [HRD.out t hlt4, HX7.out.lb] at C
                  have hc := HX7.out.a.cell t (by rw [HX7.out.a.len]; exact hlt4)
                  obtain ⟨s, hs⟩ : ∃ s, s = wl[t]'(by rw [HX7.out.a.len]; exact hlt4) := ⟨_, rfl⟩
                  rw [← hs] at C hc
                  have he9 : errV ((s, 0) : ByteArray × Nat).2 = .nilIface := rfl
                  rw [he9] at C
                  replace C := Lib.hid C
                  clear hs he9
                  go_wp2_with fail
                  refine C.out.mono ?_
                  rintro e w8 ⟨rfl, hq⟩
                  rw [hq]
                  clear hq
                  go_wp2_with fail
                  go_roundw
                  case rel => exact ⟨t + 1, by omega, by go_num, trivial⟩
                  case measure => simp [intOf]; omega
                · go_wp2_with fail
                  go_ret
                  exact ⟨rfl, HB7.out⟩
end Go.Proofs.Ytggpodlecljcbab
