/- The walk of the document's QuiltOf. -/
import Derived.Test.YtggpodlecljcbaaGreatDoorWalkI3
import Derived.Test.YtggpodlecljcbaaGreatDoorWalkI6
import Derived.Deep.RegionLaw
import Derived.Deep.CutRange
namespace Go.Proofs.YtggpodlecljcbaaGreatDoor
set_option linter.unusedSimpArgs false
set_option linter.unusedVariables false
open Go.RowKit Go.Sort
def digB (b : UInt8) : Bool := decide (48 ≤ b.toNat ∧ b.toNat ≤ 57)
def numTo (s : ByteArray) (j : Nat) : Nat := (s.data.toList.take j).foldl (fun n b => 10 * n + (b.toNat - 48)) 0
theorem byte_at (s : ByteArray) (j : Nat) (h : j < s.size) : s.data.toList[j]? = some s[j] := by
  have h1 : j < s.data.toList.length := by simpa using h
  rw [List.getElem?_eq_getElem h1]
  rfl
theorem numTo_succ (s : ByteArray) (j : Nat) (h : j < s.size) : numTo s (j + 1) = 10 * numTo s j + (s[j].toNat - 48) := by
  have h1 : j < s.data.toList.length := by simpa using h
  unfold numTo
  rw [List.take_succ_eq_append_getElem h1, List.foldl_append]
  rfl
theorem numTo_lt (s : ByteArray) : ∀ j, j ≤ s.size → (∀ i, (hi : i < s.size) → i < j → digB s[i] = true) → numTo s j < 10 ^ j
  | 0, _, _ => by simp [numTo]
  | j + 1, h, hd => by
    have ih := numTo_lt s j (by omega) (fun i hi hij => hd i hi (by omega))
    have h1 := hd j (by omega) (by omega)
    unfold digB at h1
    have h2 := of_decide_eq_true h1
    rw [numTo_succ s j (by omega), Nat.pow_succ]
    omega
theorem four_list (s : ByteArray) (h : 4 ≤ s.size) : s.data.toList.take 4 = [s[0], s[1], s[2], s[3]] := by
  apply List.ext_getElem?
  intro i
  rw [List.getElem?_take]
  by_cases hi : i < 4
  · rw [if_pos hi]
    match i, hi with
    | 0, _ => rw [byte_at s 0 (by omega)]; rfl
    | 1, _ => rw [byte_at s 1 (by omega)]; rfl
    | 2, _ => rw [byte_at s 2 (by omega)]; rfl
    | 3, _ => rw [byte_at s 3 (by omega)]; rfl
  · rw [if_neg hi, List.getElem?_eq_none (by simp; omega)]
theorem dgI_eq {b : UInt8} {n : Nat} (hn : n < 10) (h : b.toNat = 48 + n) : b = dgI n := by
  apply UInt8.toNat_inj.1
  rw [dgI_toNat hn, h]
theorem numI_digits (s : ByteArray) (h : 4 ≤ s.size) (hd : ∀ i, (hi : i < s.size) → i < 4 → digB s[i] = true) : numI s = (numTo s 4 : Int) := by
  have d0 := of_decide_eq_true (hd 0 (by omega) (by omega))
  have d1 := of_decide_eq_true (hd 1 (by omega) (by omega))
  have d2 := of_decide_eq_true (hd 2 (by omega) (by omega))
  have d3 := of_decide_eq_true (hd 3 (by omega) (by omega))
  have hn : numTo s 4 = 10 * (10 * (10 * (10 * 0 + (s[0].toNat - 48)) + (s[1].toNat - 48)) + (s[2].toNat - 48)) + (s[3].toNat - 48) := by
    unfold numTo
    rw [four_list s h]
    rfl
  have hlt := numTo_lt s 4 h hd
  obtain ⟨N, hN⟩ : ∃ N, N = numTo s 4 := ⟨_, rfl⟩
  rw [← hN] at hn hlt ⊢
  refine numI_four N (by omega) s ?_
  rw [four_list s h]
  unfold dig4
  rw [dgI_eq (b := s[0]) (n := N / 1000) (by omega) (by omega), dgI_eq (b := s[1]) (n := N / 100 % 10) (by omega) (by omega), dgI_eq (b := s[2]) (n := N / 10 % 10) (by omega) (by omega), dgI_eq (b := s[3]) (n := N % 10) (by omega) (by omega)]
theorem dig4_dig (n : Nat) (h : n ≤ 9999) : ∀ b ∈ dig4 n, digB b = true := by
  intro b hb
  have : ∀ d, d < 10 → digB (dgI d) = true := fun d hd => by
    unfold digB
    rw [dgI_toNat hd]
    exact decide_eq_true (by omega)
  unfold dig4 at hb
  simp only [List.mem_cons, List.not_mem_nil, or_false] at hb
  rcases hb with rfl | rfl | rfl | rfl <;> exact this _ (by omega)
theorem numI_bad (s : ByteArray) (j : Nat) (hj : j < s.size) (hj4 : j < 4) (hd : digB s[j] = false) : numI s < 0 := by
  by_cases h : 0 ≤ numI s
  · obtain ⟨n, _, h9, h4, ht⟩ := numI_some s h
    have hm : s[j] ∈ dig4 n := by
      rw [← ht]
      refine List.mem_iff_getElem?.2 ⟨j, ?_⟩
      rw [List.getElem?_take, if_pos hj4]
      exact byte_at s j hj
    rw [dig4_dig n h9 _ hm] at hd
    cases hd
  · omega
theorem numI_short (s : ByteArray) (h : s.size < 4) : numI s < 0 := by
  unfold numI
  rw [if_pos h]
  decide
theorem startsF_at (s : ByteArray) (h : 0 < s.size) : startsF s = decide (s[0].toNat = 102) := by
  have h1 := byte_at s 0 h
  unfold startsF
  cases hd : s.data.toList with
  | nil => rw [hd] at h1; cases h1
  | cons a r =>
    rw [hd] at h1
    have h2 : a = s[0] := by simpa using h1
    rw [← h2]
    show (some a == some 102) = _
    rw [Bool.eq_iff_iff]
    simp only [beq_iff_eq, Option.some.injEq, decide_eq_true_eq]
    constructor
    · rintro rfl; rfl
    · intro h3; apply UInt8.toNat_inj.1; rw [h3]; rfl
theorem startsF_empty (s : ByteArray) (h : s.toList.isEmpty = true) : startsF s = false ∧ (s.toList == turnB.toList) = false := by
  have h1 : s.toList = [] := List.isEmpty_iff.1 h
  constructor
  · unfold startsF
    rw [← bytes_list, h1]; rfl
  · rw [h1, turn_list]; rfl
theorem size_pos (s : ByteArray) (h : s.toList.isEmpty = false) : 0 < s.size := by
  have h1 : s.data.toList.length = s.size := by simp
  rw [bytes_list] at h
  cases hd : s.data.toList with
  | nil => rw [hd] at h; cases h
  | cons a r => rw [hd] at h1; simp at h1; omega
set_option maxRecDepth 100000 in
set_option maxHeartbeats 8000000 in
theorem ref_QuiltOf (va : Value) (l : List Change) (w : World) (ha : Changes w va l) (hl : l.length ≤ 100) (hok : ∀ c ∈ l, c.ok) :
    Calls Tryz.prog 12 #[va] w fun e w' => ∃ qv, e = .returned (.tuple #[qv, .int .i64 (faultI l)]) ∧ OwnQ w.heap.size w' qv (quiltI l) ∧ Below w.heap.size w w' := by
  obtain ⟨ao, ac, rfl, hac, hac'⟩ := ha.parts
  have HA := Lib.hid ha
  have HOK := Lib.hid hok
  obtain ⟨W1, hW1⟩ : ∃ W1, W1 = (w.alloc (.cells #[.slice none 0 0, .int .i64 0] 24)).alloc (.cells #[.slice none 0 0, .int .i64 0] 24) := ⟨_, rfl⟩
  have HB1 : Hid (Below w.heap.size w W1) := Lib.hid (by rw [hW1]; exact two (below_alloc _ _) (below_alloc _ _))
  have HR1 : Hid (∀ W, Below W1.heap.size W1 W → W.heap[w.heap.size]? = some (.cells #[.slice none 0 0, .int .i64 0] 24 (0, 0))) := Lib.hid (fun W hb => by
    rw [hb.block _ (by rw [hW1]; simp; omega), hW1]
    rw [(below_alloc _ _).block _ (by simp)]
    exact alloc_heapI _ _)
  have HQ0 : Hid (W1.heap[w.heap.size + 1]? = some (.cells #[.slice none 0 0, .int .i64 0] 24 (0, 0))) := Lib.hid (by
    rw [hW1]
    have := alloc_heapI (w.alloc (.cells #[.slice none 0 0, .int .i64 0] 24)) (.cells #[.slice none 0 0, .int .i64 0] 24)
    rw [show (w.alloc (.cells #[.slice none 0 0, .int .i64 0] 24)).heap.size = w.heap.size + 1 by simp] at this
    exact this)
  have HZ1 : Hid (W1.heap.size = w.heap.size + 2) := Lib.hid (by rw [hW1]; simp)
  have HW1 := Lib.hid hW1
  clear ha hok hW1
  go_enter Tryz.func12, Tryz.ntmps12
  go_wp2_with fail
  rw [show (w.alloc (.cells #[.slice none 0 0, .int .i64 0] 24)).alloc (.cells #[.slice none 0 0, .int .i64 0] 24) = W1 from HW1.out.symm]
  go_loopw [5] (fun iv wr => ∃ (k : Nat) (q : Quilt) (fv : Value), k ≤ l.length ∧ iv = .int .i64 k ∧ foldQ (prevX l k) q (l.drop k) = foldQ none noQuilt l ∧ wr.heap[w.heap.size + 1]? = some (.cells #[fv, .int .i64 q.turn] 24 (0, 0)) ∧ wr.ownsRow W1.heap.size 48 3 fv q.files.length (q.files.flatMap File.cells) ∧ q.files.length ≤ k ∧ (∀ f ∈ q.files, f.ok) ∧ wr.heap[w.heap.size]? = some (.cells #[.slice none 0 0, .int .i64 0] 24 (0, 0)) ∧ W1.heap.size ≤ wr.heap.size ∧ Below w.heap.size w wr) (fun iv _ => l.length - (intOf iv).toNat)
  case atStart => exact ⟨0, noQuilt, .slice none 0 0, Nat.zero_le _, rfl, rfl, HQ0.out, World.ownsRow_nil _ _ _ _, Nat.le_refl _, (fun f hf => by cases hf), HR1.out _ (Below.refl _ _), Nat.le_refl _, HB1.out⟩
  case round =>
    obtain ⟨k, q, fv, hk, rfl, hfd, hqb, ho, hql, hqo, hrb, hsz, hbw⟩ := hrel
    have HQO := Lib.hid hqo
    clear hqo
    obtain ⟨fo, fc, rfl, hfc, hfc'⟩ := own_sliceI ho
    have HFD := Lib.hid hfd
    have HQB := Lib.hid hqb
    have HO := Lib.hid ho
    have HRB := Lib.hid hrb
    have HBW := Lib.hid hbw
    have HSZ := Lib.hid hsz
    have HQL := Lib.hid hql
    clear hfd hqb ho hrb hbw hsz hql
    by_cases hlt : k < l.length
    · obtain ⟨cb, cof, rfl, hlb, x0, x1, x2⟩ := Changes.cell (Rd.below HA.out HBW.out) k hlt
      have hco := HOK.out l[k] (List.getElem_mem hlt)
      have HST : Hid (∀ q', stepQ (prevX l k) q l[k] = some q' → foldQ (prevX l (k + 1)) q' (l.drop (k + 1)) = foldQ none noQuilt l) := Lib.hid (fun q' h => (fold_next hlt h).symm.trans HFD.out)
      have HSN : Hid (stepQ (prevX l k) q l[k] = none → faultI l = 4 ∧ quiltI l = noQuilt) := Lib.hid (fun h => parse_none ((HFD.out.symm).trans (fold_bad hlt h)))
      obtain ⟨c, hce⟩ : ∃ c, c = l[k] := ⟨_, rfl⟩
      rw [← hce] at x0 x1 x2 hco HST HSN
      have hv63 : c.val.size ≤ 9223372036854775807 := hco.2
      have hk63 : c.key.size ≤ 9223372036854775807 := hco.1
      obtain ⟨W3, hW3⟩ : ∃ W3, W3 = wr.alloc (.cells #[.string c.key, .string c.val, .bool c.gone] 41) := ⟨_, rfl⟩
      have HB3 : Hid (Below wr.heap.size wr W3) := Lib.hid (by rw [hW3]; exact below_alloc _ _)
      have HC3 : Hid (∀ W, Below W3.heap.size W3 W → W.cell? ⟨wr.heap.size, 0, none⟩ = some (.string c.key) ∧ W.cell? ⟨wr.heap.size, 1, none⟩ = some (.string c.val) ∧ W.cell? ⟨wr.heap.size, 2, none⟩ = some (.bool c.gone)) := Lib.hid fun W hb => ⟨cell_on' hb (by rw [hW3]; simp), cell_on' hb (by rw [hW3]; simp), cell_on' hb (by rw [hW3]; simp)⟩
      have HW3 := Lib.hid hW3
      have HBW3 := Lib.hid (two HBW.out HB3.out)
      obtain ⟨X, hX⟩ : ∃ X : Bool, X = (leP (prevX l k) c.key || c.gone || decide (c.val.size < 4) || c.key.toList.isEmpty) := ⟨_, rfl⟩
      have HX := Lib.hid hX
      clear hce hW3 hco hX
      go_upto_region 6 with fail
      rw [← HW3.out]
      clear x0 x1 x2
      go_cut [47] from 20 to 47 (fun s47 wx => s47 = .bool X ∧ Below W3.heap.size W3 wx)
      case first =>
        obtain ⟨z0, z1, z2⟩ := HC3.out W3 (Below.refl _ _)
        obtain ⟨g, hgg⟩ : ∃ g : Bool, g = c.gone := ⟨_, rfl⟩
        rw [← hgg] at z2
        have HXG : Hid (X = (leP (prevX l k) c.key || g || decide (c.val.size < 4) || c.key.toList.isEmpty)) := Lib.hid (by rw [HX.out, hgg])
        replace z0 := regrown_cell z0
        replace z1 := regrown_cell z1
        replace z2 := regrown_cell z2
        clear hgg
        by_cases hk0 : k = 0
        · have hk0' : ¬ (0 : Int) < (k : Int) := by omega
          have hk1' : ¬ 0 < k := by omega
          have hd0 : decide (0 < k) = false := decide_eq_false hk1'
          have hXe : X = (g || decide (c.val.size < 4) || c.key.toList.isEmpty) := by rw [HXG.out, hk0]; rfl
          have HXE := Lib.hid hXe
          clear hk0 hXe
          cases g
          · by_cases hsz : c.val.size < 4
            · have hszi : (c.val.size : Int) < 4 := by omega
              have hd4 : decide (c.val.size < 4) = true := decide_eq_true hsz
              have HS4 := Lib.hid hd4
              refine wp_region_q (by kernel_rfl) (by kernel_rfl) ?_
              repeat (go_big_quiet_step (fail))
              refine wpQuiet_nil ?_
              intro wx hbx
              have HBX := Lib.hid hbx
              clear hbx
              go_wp2_with fail
              go_meet
              exact ⟨by rw [HXE.out]; rw [HS4.out]; simp, HBX.out⟩
            · have hszi : ¬ (c.val.size : Int) < 4 := by omega
              have hd4 : decide (c.val.size < 4) = false := decide_eq_false hsz
              have HS4 := Lib.hid hd4
              cases hke : c.key.toList.isEmpty
              · have HKE := Lib.hid hke
                have hke2 : (c.key.toList == []) = false := by cases h : c.key.toList with
                  | nil => rw [h] at hke; cases hke
                  | cons a r => rfl
                refine wp_region_q (by kernel_rfl) (by kernel_rfl) ?_
                repeat (go_big_quiet_step (fail))
                refine wpQuiet_nil ?_
                intro wx hbx
                have HBX := Lib.hid hbx
                clear hbx
                go_wp2_with fail
                go_meet
                exact ⟨by rw [HXE.out]; rw [HS4.out]; rw [HKE.out]; simp, HBX.out⟩
              · have HKE := Lib.hid hke
                have hke2 : (c.key.toList == []) = true := by rw [List.isEmpty_iff.1 hke]; rfl
                have hke3 : c.key.toList = [] := List.isEmpty_iff.1 hke
                clear hke3
                refine wp_region_q (by kernel_rfl) (by kernel_rfl) ?_
                repeat (go_big_quiet_step (fail))
                refine wpQuiet_nil ?_
                intro wx hbx
                have HBX := Lib.hid hbx
                clear hbx
                go_wp2_with fail
                go_meet
                exact ⟨by rw [HXE.out]; rw [HS4.out]; rw [HKE.out]; simp, HBX.out⟩
          · skip
            refine wp_region_q (by kernel_rfl) (by kernel_rfl) ?_
            repeat (go_big_quiet_step (fail))
            refine wpQuiet_nil ?_
            intro wx hbx
            have HBX := Lib.hid hbx
            clear hbx
            go_wp2_with fail
            go_meet
            exact ⟨by rw [HXE.out]; simp, HBX.out⟩
        · have hk0' : (0 : Int) < (k : Int) := by omega
          have hk1' : 0 < k := by omega
          have hd0 : decide (0 < k) = true := decide_eq_true hk1'
          obtain ⟨j, hj⟩ : ∃ j, k = j + 1 := ⟨k - 1, by omega⟩
          have hjl : j < l.length := by omega
          obtain ⟨cb2, cof2, hpe, hlb2, p0, p1, p2⟩ := Changes.cell (Rd.below HA.out HBW3.out) j hjl
          simp only [Option.some.injEq, Addr.mk.injEq] at hpe
          obtain ⟨rfl, rfl, _⟩ := hpe
          obtain ⟨p, hp⟩ : ∃ p, p = l[j].key := ⟨_, rfl⟩
          rw [← hp] at p0
          have hXe : X = (bLe c.key p || g || decide (c.val.size < 4) || c.key.toList.isEmpty) := by
            have e1 : leP (prevX l k) c.key = bLe c.key p := by
              subst hj
              rw [prevX_succ l j hjl, ← hp]; rfl
            rw [HXG.out, e1]
          have HXE := Lib.hid hXe
          have hj1 : (k : Int) - 1 = ((j : Nat) : Int) := by omega
          have hj2 : IntKind.i64.wrap ((k : Int) - 1) = ((j : Nat) : Int) := by rw [IntKind.wrap_i64]; omega
          have hj3 : (0 : Int) ≤ ((j : Nat) : Int) := by omega
          have hj4 : ((j : Nat) : Int) < ((l.length : Nat) : Int) := by omega
          replace p0 := regrown_cell p0
          clear hk0 hXe p1 p2 hp hlb2 hj
          cases hle : (Op.bytesLess c.key.toList p.toList || c.key.toList == p.toList)
          · have hle2 : bLe c.key p = false := hle
            have HLE := Lib.hid hle2
            clear hle2
            cases g
            · by_cases hsz : c.val.size < 4
              · have hszi : (c.val.size : Int) < 4 := by omega
                have hd4 : decide (c.val.size < 4) = true := decide_eq_true hsz
                have HS4 := Lib.hid hd4
                refine wp_region_q (by kernel_rfl) (by kernel_rfl) ?_
                repeat (go_big_quiet_step (fail))
                refine wpQuiet_nil ?_
                intro wx hbx
                have HBX := Lib.hid hbx
                clear hbx
                go_wp2_with fail
                go_meet
                exact ⟨by rw [HXE.out, HLE.out]; rw [HS4.out]; simp, HBX.out⟩
              · have hszi : ¬ (c.val.size : Int) < 4 := by omega
                have hd4 : decide (c.val.size < 4) = false := decide_eq_false hsz
                have HS4 := Lib.hid hd4
                cases hke : c.key.toList.isEmpty
                · have HKE := Lib.hid hke
                  have hke2 : (c.key.toList == []) = false := by cases h : c.key.toList with
                    | nil => rw [h] at hke; cases hke
                    | cons a r => rfl
                  refine wp_region_q (by kernel_rfl) (by kernel_rfl) ?_
                  repeat (go_big_quiet_step (fail))
                  refine wpQuiet_nil ?_
                  intro wx hbx
                  have HBX := Lib.hid hbx
                  clear hbx
                  go_wp2_with fail
                  go_meet
                  exact ⟨by rw [HXE.out, HLE.out]; rw [HS4.out]; rw [HKE.out]; simp, HBX.out⟩
                · have HKE := Lib.hid hke
                  have hke2 : (c.key.toList == []) = true := by rw [List.isEmpty_iff.1 hke]; rfl
                  have hke3 : c.key.toList = [] := List.isEmpty_iff.1 hke
                  clear hke3
                  refine wp_region_q (by kernel_rfl) (by kernel_rfl) ?_
                  repeat (go_big_quiet_step (fail))
                  refine wpQuiet_nil ?_
                  intro wx hbx
                  have HBX := Lib.hid hbx
                  clear hbx
                  go_wp2_with fail
                  go_meet
                  exact ⟨by rw [HXE.out, HLE.out]; rw [HS4.out]; rw [HKE.out]; simp, HBX.out⟩
            · skip
              refine wp_region_q (by kernel_rfl) (by kernel_rfl) ?_
              repeat (go_big_quiet_step (fail))
              refine wpQuiet_nil ?_
              intro wx hbx
              have HBX := Lib.hid hbx
              clear hbx
              go_wp2_with fail
              go_meet
              exact ⟨by rw [HXE.out, HLE.out]; simp, HBX.out⟩
          · have hle2 : bLe c.key p = true := hle
            have HLE := Lib.hid hle2
            clear hle2
            refine wp_region_q (by kernel_rfl) (by kernel_rfl) ?_
            repeat (go_big_quiet_step (fail))
            refine wpQuiet_nil ?_
            intro wx hbx
            have HBX := Lib.hid hbx
            clear hbx
            go_wp2_with fail
            go_meet
            exact ⟨by rw [HXE.out, HLE.out]; simp, HBX.out⟩
      case rest =>
      obtain ⟨rfl, hbx⟩ := hcut
      have HBC3 := Lib.hid (two HB3.out hbx)
      have HB3C := Lib.hid hbx
      have HBC := Lib.hid (two HBW3.out hbx)
      have HRC : Hid (wc.heap[w.heap.size]? = some (.cells #[.slice none 0 0, .int .i64 0] 24 (0, 0))) := Lib.hid (by
        rw [HBC3.out.block _ (Array.getElem?_eq_some_iff.1 HRB.out).1]; exact HRB.out)
      have HQC : Hid (wc.heap[w.heap.size + 1]? = some (.cells #[.slice fo q.files.length fc, .int .i64 q.turn] 24 (0, 0))) := Lib.hid (by
        rw [HBC3.out.block _ (Array.getElem?_eq_some_iff.1 HQB.out).1]; exact HQB.out)
      have HOC := Lib.hid (own_belowI HO.out HBC3.out)
      have HSZC : Hid (W1.heap.size ≤ wc.heap.size) := Lib.hid (Nat.le_trans HSZ.out HBC3.out.size)
      clear hbx
      cases X
      · have hx := HX.out
        have hx1 : leP (prevX l k) c.key = false := by
          cases h : leP (prevX l k) c.key
          · rfl
          · rw [h] at hx; simp at hx
        have hx2 : c.gone = false := by
          cases h : c.gone
          · rfl
          · rw [h] at hx; simp at hx
        have hx3 : ¬ c.val.size < 4 := by
          intro h
          rw [decide_eq_true h] at hx
          simp at hx
        have hx4 : c.key.toList.isEmpty = false := by
          cases h : c.key.toList.isEmpty
          · rfl
          · rw [h] at hx; simp at hx
        have hkz : 0 < c.key.size := size_pos _ hx4
        have hvz : 4 ≤ c.val.size := by omega
        have HOKX := Lib.hid (And.intro hx1 hx2)
        clear hx hx1 hx2 hx3 hx4
        have HNEG : Hid (numI c.val < 0 → stepQ (prevX l k) q c = none) := Lib.hid (fun h => by unfold stepQ; rw [if_pos (Or.inr (Or.inr h))])
        go_wp2_with fail
        go_loopw [7, 8] (fun nv jv wr => ∃ (j n : Nat), j ≤ 4 ∧ nv = .int .i64 n ∧ jv = .int .i64 j ∧ n = numTo c.val j ∧ (∀ i, (hi : i < c.val.size) → i < j → digB c.val[i] = true) ∧ Below wc.heap.size wc wr) (fun _ jv _ => 4 - (intOf jv).toNat)
        case atStart => exact ⟨0, 0, by omega, rfl, rfl, rfl, (fun i hi h => absurd h (by omega)), Below.refl _ _⟩
        case round =>
          obtain ⟨j, n, hj, rfl, rfl, hn, hdg, hbr⟩ := hrel
          have HDG := Lib.hid hdg
          have HN := Lib.hid hn
          have HBR := Lib.hid hbr
          have hn9 : n ≤ 9999 := by
            have h1 := numTo_lt c.val j (by omega) hdg
            have h2 : 10 ^ j ≤ 10 ^ 4 := Nat.pow_le_pow_right (by decide) hj
            have h3 : (10 : Nat) ^ 4 = 10000 := rfl
            omega
          have HRR : Hid (wr.heap[w.heap.size]? = some (.cells #[.slice none 0 0, .int .i64 0] 24 (0, 0))) := Lib.hid (by
            rw [hbr.block _ (Array.getElem?_eq_some_iff.1 HRC.out).1]; exact HRC.out)
          have HQR : Hid (wr.heap[w.heap.size + 1]? = some (.cells #[.slice fo q.files.length fc, .int .i64 q.turn] 24 (0, 0))) := Lib.hid (by
            rw [hbr.block _ (Array.getElem?_eq_some_iff.1 HQC.out).1]; exact HQC.out)
          have HBWR := Lib.hid (two HBC.out hbr)
          have HOR := Lib.hid (own_belowI HOC.out hbr)
          have HSZR : Hid (W1.heap.size ≤ wr.heap.size) := Lib.hid (Nat.le_trans HSZC.out hbr.size)
          obtain ⟨z0, z1, z2⟩ := HC3.out wr (two HB3C.out hbr)
          clear hn hdg hbr z2
          by_cases hj4 : j < 4
          · have hjv : j < c.val.size := by omega
            cases hdb : digB c.val[j]
            · have HFA := Lib.hid (HSN.out (HNEG.out (numI_bad c.val j hjv hj4 hdb)))
              have hnd : ¬ (48 ≤ c.val[j].toNat ∧ c.val[j].toNat ≤ 57) := of_decide_eq_false hdb
              clear hdb
              by_cases hlo : c.val[j].toNat < 48
              · clear hnd
                have hrc := HRR.out
                have r0 : wr.cell? ⟨w.heap.size, 0, none⟩ = some (.slice none 0 0) := by simp [World.cell?, hrc]
                have r1 : wr.cell? ⟨w.heap.size, 1, none⟩ = some (.int .i64 0) := by simp [World.cell?, hrc]
                have rf : ∀ o, wr.frozen? ⟨w.heap.size, o, none⟩ = false := fun o => by simp [World.frozen?, hrc]
                have hend : ((wr.setCell ⟨w.heap.size, 0, none⟩ (.slice none 0 0)).setCell ⟨w.heap.size, 1, none⟩ (.int .i64 0)).heap[w.heap.size]? = some (.cells #[.slice none 0 0, .int .i64 0] 24 (0, 0)) := heap_set_self _ _ _ _ (heap_set_self _ _ _ _ hrc)
                have e0 : ((wr.setCell ⟨w.heap.size, 0, none⟩ (.slice none 0 0)).setCell ⟨w.heap.size, 1, none⟩ (.int .i64 0)).cell? ⟨w.heap.size, 0, none⟩ = some (.slice none 0 0) := by simp [World.cell?, hend]
                have e1 : ((wr.setCell ⟨w.heap.size, 0, none⟩ (.slice none 0 0)).setCell ⟨w.heap.size, 1, none⟩ (.int .i64 0)).cell? ⟨w.heap.size, 1, none⟩ = some (.int .i64 0) := by simp [World.cell?, hend]
                have HBE : Hid (Below w.heap.size w ((wr.setCell ⟨w.heap.size, 0, none⟩ (.slice none 0 0)).setCell ⟨w.heap.size, 1, none⟩ (.int .i64 0))) := Lib.hid ((HBWR.out.setCell (p := ⟨w.heap.size, 0, none⟩) (Nat.le_refl _) _).setCell (p := ⟨w.heap.size, 1, none⟩) (Nat.le_refl _) _)
                clear hend hrc 
                go_wp2_with fail
                refine bodyPost_ret (v := .tuple #[.agg #[.slice none 0 0, .int .i64 0], .int .i64 4]) (by simp [results, Tryz.results12, go_sem, e0, e1]) rfl ?_
                exact ⟨_, by rw [HFA.out.1]; rfl, by rw [HFA.out.2]; exact OwnQ.none _ _, HBE.out⟩
              · have hhi : 57 < c.val[j].toNat := by omega
                clear hnd
                have hrc := HRR.out
                have r0 : wr.cell? ⟨w.heap.size, 0, none⟩ = some (.slice none 0 0) := by simp [World.cell?, hrc]
                have r1 : wr.cell? ⟨w.heap.size, 1, none⟩ = some (.int .i64 0) := by simp [World.cell?, hrc]
                have rf : ∀ o, wr.frozen? ⟨w.heap.size, o, none⟩ = false := fun o => by simp [World.frozen?, hrc]
                have hend : ((wr.setCell ⟨w.heap.size, 0, none⟩ (.slice none 0 0)).setCell ⟨w.heap.size, 1, none⟩ (.int .i64 0)).heap[w.heap.size]? = some (.cells #[.slice none 0 0, .int .i64 0] 24 (0, 0)) := heap_set_self _ _ _ _ (heap_set_self _ _ _ _ hrc)
                have e0 : ((wr.setCell ⟨w.heap.size, 0, none⟩ (.slice none 0 0)).setCell ⟨w.heap.size, 1, none⟩ (.int .i64 0)).cell? ⟨w.heap.size, 0, none⟩ = some (.slice none 0 0) := by simp [World.cell?, hend]
                have e1 : ((wr.setCell ⟨w.heap.size, 0, none⟩ (.slice none 0 0)).setCell ⟨w.heap.size, 1, none⟩ (.int .i64 0)).cell? ⟨w.heap.size, 1, none⟩ = some (.int .i64 0) := by simp [World.cell?, hend]
                have HBE : Hid (Below w.heap.size w ((wr.setCell ⟨w.heap.size, 0, none⟩ (.slice none 0 0)).setCell ⟨w.heap.size, 1, none⟩ (.int .i64 0))) := Lib.hid ((HBWR.out.setCell (p := ⟨w.heap.size, 0, none⟩) (Nat.le_refl _) _).setCell (p := ⟨w.heap.size, 1, none⟩) (Nat.le_refl _) _)
                clear hend hrc 
                go_wp2_with fail
                refine bodyPost_ret (v := .tuple #[.agg #[.slice none 0 0, .int .i64 0], .int .i64 4]) (by simp [results, Tryz.results12, go_sem, e0, e1]) rfl ?_
                exact ⟨_, by rw [HFA.out.1]; rfl, by rw [HFA.out.2]; exact OwnQ.none _ _, HBE.out⟩
            · have hdd : 48 ≤ c.val[j].toNat ∧ c.val[j].toNat ≤ 57 := of_decide_eq_true hdb
              have HDB := Lib.hid hdb
              have hd1 := hdd.1
              have hd2 := hdd.2
              have HNS := Lib.hid (numTo_succ c.val j hjv)
              have hw1 : IntKind.u8.wrap ((c.val[j].toNat : Int) - 48) = (c.val[j].toNat : Int) - 48 := by simp [IntKind.wrap, IntKind.signed, IntKind.bits]; omega
              have hw2 : IntKind.i64.wrap ((c.val[j].toNat : Int) - 48) = (c.val[j].toNat : Int) - 48 := by rw [IntKind.wrap_i64]; omega
              have hw3 : IntKind.i64.wrap (10 * (n : Int) + ((c.val[j].toNat : Int) - 48)) = 10 * (n : Int) + ((c.val[j].toNat : Int) - 48) := by rw [IntKind.wrap_i64]; omega
              have hlo : ¬ c.val[j].toNat < 48 := by omega
              have hhi : ¬ 57 < c.val[j].toNat := by omega
              clear hdb hdd
              go_wp2_with fail
              go_roundw
              case rel =>
                refine ⟨j + 1, 10 * n + (c.val[j].toNat - 48), by omega, ?_, by go_num, ?_, ?_, HBR.out⟩
                · show Value.int _ _ = Value.int _ _
                  congr 1
                  omega
                · rw [HNS.out, HN.out]
                · intro i hi hij
                  by_cases e : i = j
                  · subst e; exact HDB.out
                  · exact HDG.out i hi (by omega)
              case measure => simp [intOf]; omega
          · obtain rfl : j = 4 := by omega
            have HNI : Hid ((n : Int) = numI c.val) := Lib.hid (by rw [HN.out]; exact (numI_digits c.val hvz HDG.out).symm)
            have hqc := HQR.out
            have q0 : wr.cell? ⟨w.heap.size + 1, 0, none⟩ = some (.slice fo q.files.length fc) := by simp [World.cell?, hqc]
            have q1 : wr.cell? ⟨w.heap.size + 1, 1, none⟩ = some (.int .i64 q.turn) := by simp [World.cell?, hqc]
            have qf : ∀ o, wr.frozen? ⟨w.heap.size + 1, o, none⟩ = false := fun o => by simp [World.frozen?, hqc]
            clear hqc
            by_cases htn : (c.key.toList == turnB.toList) = true ∧ c.val.size = 4
            · have hq : (c.key.toList == [116, 117, 114, 110]) = true := by rw [← turn_list]; exact htn.1
              have h4 : c.val.size = 4 := htn.2
              have h4a : decide (c.val.size = 4) = true := decide_eq_true h4
              have HSQ : Hid (stepQ (prevX l k) q c = some ⟨q.files, n⟩) := Lib.hid (by
                obtain ⟨g1, g2⟩ := HOKX.out
                unfold stepQ
                rw [← HNI.out, if_neg (by rw [g1, g2]; simp), if_pos htn])
              have hO : Off (fun b => b = w.heap.size + 1) wr (wr.setCell ⟨w.heap.size + 1, 1, none⟩ (.int .i64 n)) := off_setCell (F := fun b => b = w.heap.size + 1) wr ⟨w.heap.size + 1, 1, none⟩ rfl _
              have HOF := Lib.hid hO
              clear htn hO
              go_wp2_with fail
              go_roundw
              case rel =>
                refine ⟨k + 1, ⟨q.files, n⟩, .slice fo q.files.length fc, by omega, by go_num, HST.out _ HSQ.out, heap_set_self _ _ _ _ HQR.out, HOF.out.owns HOR.out (fun g hg hx => ?_), by have := HQL.out; show q.files.length ≤ _; omega, HQO.out, ?_, ?_, HBWR.out.setCell (p := ⟨w.heap.size + 1, 1, none⟩) (Nat.le_succ _) _⟩
                · have h1 := (HOR.out.lt g hg).1
                  have h2 := HZ1.out
                  have h3 : g = w.heap.size + 1 := hx
                  omega
                · rw [HOF.out.block _ (Array.getElem?_eq_some_iff.1 HRR.out).1 (by show ¬ w.heap.size = w.heap.size + 1; omega)]
                  exact HRR.out
                · exact Nat.le_trans HSZR.out HOF.out.size
              case measure => simp [intOf]; omega
            · have HNO : Hid (startsF c.key = false → stepQ (prevX l k) q c = none) := Lib.hid (fun h => by
                obtain ⟨g1, g2⟩ := HOKX.out
                unfold stepQ
                rw [← HNI.out, if_neg (by rw [g1, g2]; simp), if_neg htn, if_neg (by rw [h]; decide)])
              have HYES : Hid (startsF c.key = true → stepQ (prevX l k) q c = some ⟨q.files ++ [⟨c.key.extract 1 c.key.size, c.val.extract 4 c.val.size, n⟩], q.turn⟩) := Lib.hid (fun h => by
                obtain ⟨g1, g2⟩ := HOKX.out
                unfold stepQ
                rw [← HNI.out, if_neg (by rw [g1, g2]; simp), if_neg htn, if_pos h])
              have HSA := Lib.hid (startsF_at c.key hkz)
              have hk00 : (0 : Int) < (c.key.size : Int) := by omega
              cases hq : (c.key.toList == [116, 117, 114, 110])
              · skip
                by_cases hsF : c.key[0].toNat = 102
                · have HSQ := Lib.hid (HYES.out (by rw [HSA.out]; exact decide_eq_true hsF))
                  have hks1 : 1 ≤ c.key.size := by omega
                  have hks2 : (1 : Int) ≤ (c.key.size : Int) := by omega
                  have hvs2 : (4 : Int) ≤ (c.val.size : Int) := by omega
                  have hsF2 : (c.key[0].toNat : Int) = 102 := by omega
                  obtain ⟨fl, hfl⟩ : ∃ fl : File, fl = ⟨c.key.extract 1 c.key.size, c.val.extract 4 c.val.size, n⟩ := ⟨_, rfl⟩
                  have HFL := Lib.hid hfl
                  have hql2 : q.files.length ≤ 100 := by have := HQL.out; omega
                  have HQ9 : Hid (∀ W w2 : World, (∃ o, W.heap = (wr.alloc o).heap) → W.grownBy w2 (Value.slice fo q.files.length fc).ownBlock → w2.heap[w.heap.size + 1]? = some (.cells #[.slice fo q.files.length fc, .int .i64 q.turn] 24 (0, 0)) ∧ w2.heap[w.heap.size]? = some (.cells #[.slice none 0 0, .int .i64 0] 24 (0, 0))) := Lib.hid (fun W w2 ⟨o, hw⟩ hg => by
                    have hl1 := (Array.getElem?_eq_some_iff.1 HQR.out).1
                    have hl2 := (Array.getElem?_eq_some_iff.1 HRR.out).1
                    have hz := HZ1.out
                    refine ⟨?_, ?_⟩
                    · rw [hg.block _ (by rw [hw]; simp; omega) (fun e => by have := (HOR.out.lt _ e.symm).1; omega), hw, (below_alloc wr o).block _ hl1]
                      exact HQR.out
                    · rw [hg.block _ (by rw [hw]; simp; omega) (fun e => by have := (HOR.out.lt _ e.symm).1; omega), hw, (below_alloc wr o).block _ hl2]
                      exact HRR.out)
                  have hq1 : ∀ o, (wr.alloc o).cell? ⟨w.heap.size + 1, 0, none⟩ = some (.slice fo q.files.length fc) := fun o => cell_on' (below_alloc wr o) q0
                  clear hfl
                  go_wp2_with fail
                  go_region_law (first
                    | (refine step_ownI _ rfl (.tmp 91) (.tmp 100) 22 rfl W1.heap.size 48 3 40 I_files (.slice fo q.files.length fc) q.files.length _ (by simp [Act.eval, Act.put]) (HOR.out.alloc _) ⟨wr.heap.size, 0, none⟩ 1 1 [.string (c.key.extract 1 c.key.size), .string (c.val.extract 4 c.val.size), .int .i64 n] (by simp [Act.eval, Act.put]) rfl three_new (by simp [Value.oneCell']) (by omega) (by have := HSZR.out; simp; omega) ?_; intro v2 w2 ho2 hg2; obtain ⟨ao2, ac2, hv2, _, _⟩ := own_sliceI ho2; subst hv2; have HO2 := Lib.hid ho2; have HG2 := Lib.hid hg2; have H9 := Lib.hid (HQ9.out _ _ (by exact ⟨_, rfl⟩) hg2); have q9 : w2.cell? ⟨w.heap.size + 1, 0, none⟩ = some (.slice fo q.files.length fc) := (by simp [World.cell?, H9.out.1]); have qf9 : ∀ o, w2.frozen? ⟨w.heap.size + 1, o, none⟩ = false := (fun o => by simp [World.frozen?, H9.out.1]); have HB9 : Hid (Below w.heap.size w w2) := Lib.hid (belowI hg2 (by first | exact two HBWR.out (below_alloc _ _) | exact (two HBWR.out (below_alloc _ _)).drew | exact two HBWR.out.drew (below_alloc _ _)) (by exact HOR.out.alloc _) HB1.out.size); have HS9 : Hid (W1.heap.size ≤ w2.heap.size) := Lib.hid (Nat.le_trans (Nat.le_trans HSZR.out (by first | exact Nat.le_refl _ | (simp; done) | (simp; omega))) hg2.size); clear ho2 hg2))
                  all_goals
                    go_wp2_with fail
                    go_roundw
                    case rel =>
                      have hO : Off (fun b => b = w.heap.size + 1) w2 (w2.setCell ⟨w.heap.size + 1, 0, none⟩ (.slice ao2 (q.files.length + 1) ac2)) := off_setCell (F := fun b => b = w.heap.size + 1) w2 ⟨w.heap.size + 1, 0, none⟩ rfl _
                      have e1 : (q.files ++ [fl]).length = q.files.length + 1 := by simp
                      have e2 : (q.files ++ [fl]).flatMap File.cells = q.files.flatMap File.cells ++ [.string (c.key.extract 1 c.key.size), .string (c.val.extract 4 c.val.size), .int .i64 n] := by
                        rw [List.flatMap_append, HFL.out]; rfl
                      refine ⟨k + 1, ⟨q.files ++ [fl], q.turn⟩, .slice ao2 (q.files.length + 1) ac2, by omega, by go_num, HST.out _ (by rw [HSQ.out, HFL.out]), heap_set_self _ _ _ _ H9.out.1, ?_, by have := HQL.out; show (q.files ++ [fl]).length ≤ _; omega, ?_, ?_, Nat.le_trans HS9.out hO.size, HB9.out.setCell (p := ⟨w.heap.size + 1, 0, none⟩) (Nat.le_succ _) _⟩
                      · show World.ownsRow _ _ _ _ _ (q.files ++ [fl]).length ((q.files ++ [fl]).flatMap File.cells)
                        rw [e1, e2]
                        exact hO.owns HO2.out (fun g hg hx => by
                          have h1 := (HO2.out.lt g hg).1
                          have h2 := HZ1.out
                          have h3 : g = w.heap.size + 1 := hx
                          omega)
                      · intro f hf
                        rcases List.mem_append.1 hf with hf | hf
                        · exact HQO.out f hf
                        · rw [List.mem_singleton.1 hf, HFL.out]
                          have hml : maxLen = 9223372036854775807 := rfl
                          exact ⟨by show (c.key.extract 1 c.key.size).size ≤ maxLen; rw [ByteArray.size_extract]; omega, by show (c.val.extract 4 c.val.size).size ≤ maxLen; rw [ByteArray.size_extract]; omega⟩
                      · rw [hO.block _ (Array.getElem?_eq_some_iff.1 H9.out.2).1 (by show ¬ w.heap.size = w.heap.size + 1; omega)]
                        exact H9.out.2
                    case measure => simp [intOf]; omega
                · have HFA := Lib.hid (HSN.out (HNO.out (by rw [HSA.out]; exact decide_eq_false hsF)))
                  have hsF2 : ¬ (c.key[0].toNat : Int) = 102 := by omega
                  have hrc := HRR.out
                  have r0 : wr.cell? ⟨w.heap.size, 0, none⟩ = some (.slice none 0 0) := by simp [World.cell?, hrc]
                  have r1 : wr.cell? ⟨w.heap.size, 1, none⟩ = some (.int .i64 0) := by simp [World.cell?, hrc]
                  have rf : ∀ o, wr.frozen? ⟨w.heap.size, o, none⟩ = false := fun o => by simp [World.frozen?, hrc]
                  have hend : ((wr.setCell ⟨w.heap.size, 0, none⟩ (.slice none 0 0)).setCell ⟨w.heap.size, 1, none⟩ (.int .i64 0)).heap[w.heap.size]? = some (.cells #[.slice none 0 0, .int .i64 0] 24 (0, 0)) := heap_set_self _ _ _ _ (heap_set_self _ _ _ _ hrc)
                  have e0 : ((wr.setCell ⟨w.heap.size, 0, none⟩ (.slice none 0 0)).setCell ⟨w.heap.size, 1, none⟩ (.int .i64 0)).cell? ⟨w.heap.size, 0, none⟩ = some (.slice none 0 0) := by simp [World.cell?, hend]
                  have e1 : ((wr.setCell ⟨w.heap.size, 0, none⟩ (.slice none 0 0)).setCell ⟨w.heap.size, 1, none⟩ (.int .i64 0)).cell? ⟨w.heap.size, 1, none⟩ = some (.int .i64 0) := by simp [World.cell?, hend]
                  have HBE : Hid (Below w.heap.size w ((wr.setCell ⟨w.heap.size, 0, none⟩ (.slice none 0 0)).setCell ⟨w.heap.size, 1, none⟩ (.int .i64 0))) := Lib.hid ((HBWR.out.setCell (p := ⟨w.heap.size, 0, none⟩) (Nat.le_refl _) _).setCell (p := ⟨w.heap.size, 1, none⟩) (Nat.le_refl _) _)
                  clear hend hrc 
                  go_wp2_with fail
                  refine bodyPost_ret (v := .tuple #[.agg #[.slice none 0 0, .int .i64 0], .int .i64 4]) (by simp [results, Tryz.results12, go_sem, e0, e1]) rfl ?_
                  exact ⟨_, by rw [HFA.out.1]; rfl, by rw [HFA.out.2]; exact OwnQ.none _ _, HBE.out⟩
              · have h4 : ¬ c.val.size = 4 := fun h => htn ⟨by rw [turn_list]; exact hq, h⟩
                have h4a : decide (c.val.size = 4) = false := decide_eq_false h4
                by_cases hsF : c.key[0].toNat = 102
                · have HSQ := Lib.hid (HYES.out (by rw [HSA.out]; exact decide_eq_true hsF))
                  have hks1 : 1 ≤ c.key.size := by omega
                  have hks2 : (1 : Int) ≤ (c.key.size : Int) := by omega
                  have hvs2 : (4 : Int) ≤ (c.val.size : Int) := by omega
                  have hsF2 : (c.key[0].toNat : Int) = 102 := by omega
                  obtain ⟨fl, hfl⟩ : ∃ fl : File, fl = ⟨c.key.extract 1 c.key.size, c.val.extract 4 c.val.size, n⟩ := ⟨_, rfl⟩
                  have HFL := Lib.hid hfl
                  have hql2 : q.files.length ≤ 100 := by have := HQL.out; omega
                  have HQ9 : Hid (∀ W w2 : World, (∃ o, W.heap = (wr.alloc o).heap) → W.grownBy w2 (Value.slice fo q.files.length fc).ownBlock → w2.heap[w.heap.size + 1]? = some (.cells #[.slice fo q.files.length fc, .int .i64 q.turn] 24 (0, 0)) ∧ w2.heap[w.heap.size]? = some (.cells #[.slice none 0 0, .int .i64 0] 24 (0, 0))) := Lib.hid (fun W w2 ⟨o, hw⟩ hg => by
                    have hl1 := (Array.getElem?_eq_some_iff.1 HQR.out).1
                    have hl2 := (Array.getElem?_eq_some_iff.1 HRR.out).1
                    have hz := HZ1.out
                    refine ⟨?_, ?_⟩
                    · rw [hg.block _ (by rw [hw]; simp; omega) (fun e => by have := (HOR.out.lt _ e.symm).1; omega), hw, (below_alloc wr o).block _ hl1]
                      exact HQR.out
                    · rw [hg.block _ (by rw [hw]; simp; omega) (fun e => by have := (HOR.out.lt _ e.symm).1; omega), hw, (below_alloc wr o).block _ hl2]
                      exact HRR.out)
                  have hq1 : ∀ o, (wr.alloc o).cell? ⟨w.heap.size + 1, 0, none⟩ = some (.slice fo q.files.length fc) := fun o => cell_on' (below_alloc wr o) q0
                  clear hfl
                  go_wp2_with fail
                  go_region_law (first
                    | (refine step_ownI _ rfl (.tmp 91) (.tmp 100) 22 rfl W1.heap.size 48 3 40 I_files (.slice fo q.files.length fc) q.files.length _ (by simp [Act.eval, Act.put]) (HOR.out.alloc _) ⟨wr.heap.size, 0, none⟩ 1 1 [.string (c.key.extract 1 c.key.size), .string (c.val.extract 4 c.val.size), .int .i64 n] (by simp [Act.eval, Act.put]) rfl three_new (by simp [Value.oneCell']) (by omega) (by have := HSZR.out; simp; omega) ?_; intro v2 w2 ho2 hg2; obtain ⟨ao2, ac2, hv2, _, _⟩ := own_sliceI ho2; subst hv2; have HO2 := Lib.hid ho2; have HG2 := Lib.hid hg2; have H9 := Lib.hid (HQ9.out _ _ (by exact ⟨_, rfl⟩) hg2); have q9 : w2.cell? ⟨w.heap.size + 1, 0, none⟩ = some (.slice fo q.files.length fc) := (by simp [World.cell?, H9.out.1]); have qf9 : ∀ o, w2.frozen? ⟨w.heap.size + 1, o, none⟩ = false := (fun o => by simp [World.frozen?, H9.out.1]); have HB9 : Hid (Below w.heap.size w w2) := Lib.hid (belowI hg2 (by first | exact two HBWR.out (below_alloc _ _) | exact (two HBWR.out (below_alloc _ _)).drew | exact two HBWR.out.drew (below_alloc _ _)) (by exact HOR.out.alloc _) HB1.out.size); have HS9 : Hid (W1.heap.size ≤ w2.heap.size) := Lib.hid (Nat.le_trans (Nat.le_trans HSZR.out (by first | exact Nat.le_refl _ | (simp; done) | (simp; omega))) hg2.size); clear ho2 hg2))
                  all_goals
                    go_wp2_with fail
                    go_roundw
                    case rel =>
                      have hO : Off (fun b => b = w.heap.size + 1) w2 (w2.setCell ⟨w.heap.size + 1, 0, none⟩ (.slice ao2 (q.files.length + 1) ac2)) := off_setCell (F := fun b => b = w.heap.size + 1) w2 ⟨w.heap.size + 1, 0, none⟩ rfl _
                      have e1 : (q.files ++ [fl]).length = q.files.length + 1 := by simp
                      have e2 : (q.files ++ [fl]).flatMap File.cells = q.files.flatMap File.cells ++ [.string (c.key.extract 1 c.key.size), .string (c.val.extract 4 c.val.size), .int .i64 n] := by
                        rw [List.flatMap_append, HFL.out]; rfl
                      refine ⟨k + 1, ⟨q.files ++ [fl], q.turn⟩, .slice ao2 (q.files.length + 1) ac2, by omega, by go_num, HST.out _ (by rw [HSQ.out, HFL.out]), heap_set_self _ _ _ _ H9.out.1, ?_, by have := HQL.out; show (q.files ++ [fl]).length ≤ _; omega, ?_, ?_, Nat.le_trans HS9.out hO.size, HB9.out.setCell (p := ⟨w.heap.size + 1, 0, none⟩) (Nat.le_succ _) _⟩
                      · show World.ownsRow _ _ _ _ _ (q.files ++ [fl]).length ((q.files ++ [fl]).flatMap File.cells)
                        rw [e1, e2]
                        exact hO.owns HO2.out (fun g hg hx => by
                          have h1 := (HO2.out.lt g hg).1
                          have h2 := HZ1.out
                          have h3 : g = w.heap.size + 1 := hx
                          omega)
                      · intro f hf
                        rcases List.mem_append.1 hf with hf | hf
                        · exact HQO.out f hf
                        · rw [List.mem_singleton.1 hf, HFL.out]
                          have hml : maxLen = 9223372036854775807 := rfl
                          exact ⟨by show (c.key.extract 1 c.key.size).size ≤ maxLen; rw [ByteArray.size_extract]; omega, by show (c.val.extract 4 c.val.size).size ≤ maxLen; rw [ByteArray.size_extract]; omega⟩
                      · rw [hO.block _ (Array.getElem?_eq_some_iff.1 H9.out.2).1 (by show ¬ w.heap.size = w.heap.size + 1; omega)]
                        exact H9.out.2
                    case measure => simp [intOf]; omega
                · have HFA := Lib.hid (HSN.out (HNO.out (by rw [HSA.out]; exact decide_eq_false hsF)))
                  have hsF2 : ¬ (c.key[0].toNat : Int) = 102 := by omega
                  have hrc := HRR.out
                  have r0 : wr.cell? ⟨w.heap.size, 0, none⟩ = some (.slice none 0 0) := by simp [World.cell?, hrc]
                  have r1 : wr.cell? ⟨w.heap.size, 1, none⟩ = some (.int .i64 0) := by simp [World.cell?, hrc]
                  have rf : ∀ o, wr.frozen? ⟨w.heap.size, o, none⟩ = false := fun o => by simp [World.frozen?, hrc]
                  have hend : ((wr.setCell ⟨w.heap.size, 0, none⟩ (.slice none 0 0)).setCell ⟨w.heap.size, 1, none⟩ (.int .i64 0)).heap[w.heap.size]? = some (.cells #[.slice none 0 0, .int .i64 0] 24 (0, 0)) := heap_set_self _ _ _ _ (heap_set_self _ _ _ _ hrc)
                  have e0 : ((wr.setCell ⟨w.heap.size, 0, none⟩ (.slice none 0 0)).setCell ⟨w.heap.size, 1, none⟩ (.int .i64 0)).cell? ⟨w.heap.size, 0, none⟩ = some (.slice none 0 0) := by simp [World.cell?, hend]
                  have e1 : ((wr.setCell ⟨w.heap.size, 0, none⟩ (.slice none 0 0)).setCell ⟨w.heap.size, 1, none⟩ (.int .i64 0)).cell? ⟨w.heap.size, 1, none⟩ = some (.int .i64 0) := by simp [World.cell?, hend]
                  have HBE : Hid (Below w.heap.size w ((wr.setCell ⟨w.heap.size, 0, none⟩ (.slice none 0 0)).setCell ⟨w.heap.size, 1, none⟩ (.int .i64 0))) := Lib.hid ((HBWR.out.setCell (p := ⟨w.heap.size, 0, none⟩) (Nat.le_refl _) _).setCell (p := ⟨w.heap.size, 1, none⟩) (Nat.le_refl _) _)
                  clear hend hrc 
                  go_wp2_with fail
                  refine bodyPost_ret (v := .tuple #[.agg #[.slice none 0 0, .int .i64 0], .int .i64 4]) (by simp [results, Tryz.results12, go_sem, e0, e1]) rfl ?_
                  exact ⟨_, by rw [HFA.out.1]; rfl, by rw [HFA.out.2]; exact OwnQ.none _ _, HBE.out⟩
      · have hx := HX.out
        have HFA := Lib.hid (HSN.out (by
          by_cases he : c.key.toList.isEmpty = true
          · obtain ⟨s1, s2⟩ := startsF_empty c.key he
            unfold stepQ
            split
            · rfl
            · rw [if_neg (by rw [s2]; simp), if_neg (by rw [s1]; simp)]
          · have he2 : c.key.toList.isEmpty = false := by simpa using he
            rw [he2] at hx
            unfold stepQ
            rw [if_pos]
            by_cases h4 : c.val.size < 4
            · exact Or.inr (Or.inr (numI_short c.val h4))
            · rw [decide_eq_false h4] at hx
              revert hx
              cases leP (prevX l k) c.key <;> cases c.gone <;> simp))
        clear hx
        have hrc := HRC.out
        have r0 : wc.cell? ⟨w.heap.size, 0, none⟩ = some (.slice none 0 0) := by simp [World.cell?, hrc]
        have r1 : wc.cell? ⟨w.heap.size, 1, none⟩ = some (.int .i64 0) := by simp [World.cell?, hrc]
        have rf : ∀ o, wc.frozen? ⟨w.heap.size, o, none⟩ = false := fun o => by simp [World.frozen?, hrc]
        have hend : ((wc.setCell ⟨w.heap.size, 0, none⟩ (.slice none 0 0)).setCell ⟨w.heap.size, 1, none⟩ (.int .i64 0)).heap[w.heap.size]? = some (.cells #[.slice none 0 0, .int .i64 0] 24 (0, 0)) := heap_set_self _ _ _ _ (heap_set_self _ _ _ _ hrc)
        have e0 : ((wc.setCell ⟨w.heap.size, 0, none⟩ (.slice none 0 0)).setCell ⟨w.heap.size, 1, none⟩ (.int .i64 0)).cell? ⟨w.heap.size, 0, none⟩ = some (.slice none 0 0) := by simp [World.cell?, hend]
        have e1 : ((wc.setCell ⟨w.heap.size, 0, none⟩ (.slice none 0 0)).setCell ⟨w.heap.size, 1, none⟩ (.int .i64 0)).cell? ⟨w.heap.size, 1, none⟩ = some (.int .i64 0) := by simp [World.cell?, hend]
        have HBE : Hid (Below w.heap.size w ((wc.setCell ⟨w.heap.size, 0, none⟩ (.slice none 0 0)).setCell ⟨w.heap.size, 1, none⟩ (.int .i64 0))) := Lib.hid ((HBC.out.setCell (p := ⟨w.heap.size, 0, none⟩) (Nat.le_refl _) _).setCell (p := ⟨w.heap.size, 1, none⟩) (Nat.le_refl _) _)
        clear hend hrc 
        go_wp2_with fail
        refine bodyPost_ret (v := .tuple #[.agg #[.slice none 0 0, .int .i64 0], .int .i64 4]) (by simp [results, Tryz.results12, go_sem, e0, e1]) rfl ?_
        exact ⟨_, by rw [HFA.out.1]; rfl, by rw [HFA.out.2]; exact OwnQ.none _ _, HBE.out⟩
    · obtain rfl : k = l.length := by omega
      have hfq : foldQ none noQuilt l = some q := by
        have := HFD.out
        rw [List.drop_length] at this
        exact this.symm
      have HFQ := Lib.hid hfq
      have q0 : wr.cell? ⟨w.heap.size + 1, 0, none⟩ = some (.slice fo q.files.length fc) := by simp [World.cell?, HQB.out]
      have q1 : wr.cell? ⟨w.heap.size + 1, 1, none⟩ = some (.int .i64 q.turn) := by simp [World.cell?, HQB.out]
      have CK := Lib.hid (ref_QuiltFault (.agg #[.slice fo q.files.length fc, .int .i64 q.turn]) q wr ⟨_, rfl, SL.of_own HO.out⟩ HQO.out)
      clear hfq
      go_wp2_with fail
      refine CK.out.mono ?_
      rintro e wK ⟨rfl, hbk⟩
      have HBK := Lib.hid (two HBW.out hbk)
      have HQK : Hid (wK.heap[w.heap.size + 1]? = some (.cells #[.slice fo q.files.length fc, .int .i64 q.turn] 24 (0, 0))) := Lib.hid (by
        rw [hbk.block _ (Array.getElem?_eq_some_iff.1 HQB.out).1]; exact HQB.out)
      have HRK : Hid (wK.heap[w.heap.size]? = some (.cells #[.slice none 0 0, .int .i64 0] 24 (0, 0))) := Lib.hid (by
        rw [hbk.block _ (Array.getElem?_eq_some_iff.1 HRB.out).1]; exact HRB.out)
      have HOK2 := Lib.hid (own_belowI HO.out hbk)
      clear hbk q0 q1
      by_cases hqf : quiltFault q = 0
      · obtain ⟨hfa, hqa⟩ := parse_good HFQ.out hqf
        have HFA := Lib.hid (And.intro hfa hqa)
        have q0 : wK.cell? ⟨w.heap.size + 1, 0, none⟩ = some (.slice fo q.files.length fc) := by simp [World.cell?, HQK.out]
        have q1 : wK.cell? ⟨w.heap.size + 1, 1, none⟩ = some (.int .i64 q.turn) := by simp [World.cell?, HQK.out]
        have r0 : wK.cell? ⟨w.heap.size, 0, none⟩ = some (.slice none 0 0) := by simp [World.cell?, HRK.out]
        have r1 : wK.cell? ⟨w.heap.size, 1, none⟩ = some (.int .i64 0) := by simp [World.cell?, HRK.out]
        have rf : ∀ o, wK.frozen? ⟨w.heap.size, o, none⟩ = false := fun o => by simp [World.frozen?, HRK.out]
        have hend : ((wK.setCell ⟨w.heap.size, 0, none⟩ (.slice fo q.files.length fc)).setCell ⟨w.heap.size, 1, none⟩ (.int .i64 q.turn)).heap[w.heap.size]? = some (.cells #[.slice fo q.files.length fc, .int .i64 q.turn] 24 (0, 0)) := heap_set_self _ _ _ _ (heap_set_self _ _ _ _ HRK.out)
        have e0 : ((wK.setCell ⟨w.heap.size, 0, none⟩ (.slice fo q.files.length fc)).setCell ⟨w.heap.size, 1, none⟩ (.int .i64 q.turn)).cell? ⟨w.heap.size, 0, none⟩ = some (.slice fo q.files.length fc) := by simp [World.cell?, hend]
        have e1 : ((wK.setCell ⟨w.heap.size, 0, none⟩ (.slice fo q.files.length fc)).setCell ⟨w.heap.size, 1, none⟩ (.int .i64 q.turn)).cell? ⟨w.heap.size, 1, none⟩ = some (.int .i64 q.turn) := by simp [World.cell?, hend]
        have HBE : Hid (Below w.heap.size w ((wK.setCell ⟨w.heap.size, 0, none⟩ (.slice fo q.files.length fc)).setCell ⟨w.heap.size, 1, none⟩ (.int .i64 q.turn))) := Lib.hid ((HBK.out.setCell (p := ⟨w.heap.size, 0, none⟩) (Nat.le_refl _) _).setCell (p := ⟨w.heap.size, 1, none⟩) (Nat.le_refl _) _)
        have HOE : Hid (((wK.setCell ⟨w.heap.size, 0, none⟩ (.slice fo q.files.length fc)).setCell ⟨w.heap.size, 1, none⟩ (.int .i64 q.turn)).ownsRow w.heap.size 48 3 (.slice fo q.files.length fc) q.files.length (q.files.flatMap File.cells)) := Lib.hid (own_baseI (((off_setCell (F := fun b => b = w.heap.size) wK ⟨w.heap.size, 0, none⟩ rfl _).trans (off_setCell (F := fun b => b = w.heap.size) _ ⟨w.heap.size, 1, none⟩ rfl _) (fun _ _ h => h)).owns HOK2.out (fun g hg hx => by
          have h1 := (HOK2.out.lt g hg).1
          have h2 := HZ1.out
          have h3 : g = w.heap.size := hx
          omega)) HB1.out.size)
        have hqf2 : (quiltFault q : Int) = 0 := by omega
        rw [hqf2]
        clear hfa hqa hend hqf hqf2
        go_wp2_with fail
        refine bodyPost_ret (v := .tuple #[.agg #[.slice fo q.files.length fc, .int .i64 q.turn], .int .i64 0]) (by simp [results, Tryz.results12, go_sem, e0, e1]) rfl ?_
        exact ⟨_, by rw [HFA.out.1]; rfl, by rw [HFA.out.2]; exact ⟨_, rfl, HOE.out⟩, HBE.out⟩
      · have HQF := Lib.hid hqf
        have hqfp : (0 : Int) < (quiltFault q : Int) := by omega
        have hqfn : 0 < quiltFault q := by omega
        clear hqf
        obtain ⟨hfa, hqa⟩ := parse_bad HFQ.out HQF.out
        have HFA := Lib.hid (And.intro hfa hqa)
        have hrc := HRK.out
        have r0 : wK.cell? ⟨w.heap.size, 0, none⟩ = some (.slice none 0 0) := by simp [World.cell?, hrc]
        have r1 : wK.cell? ⟨w.heap.size, 1, none⟩ = some (.int .i64 0) := by simp [World.cell?, hrc]
        have rf : ∀ o, wK.frozen? ⟨w.heap.size, o, none⟩ = false := fun o => by simp [World.frozen?, hrc]
        have hend : ((wK.setCell ⟨w.heap.size, 0, none⟩ (.slice none 0 0)).setCell ⟨w.heap.size, 1, none⟩ (.int .i64 0)).heap[w.heap.size]? = some (.cells #[.slice none 0 0, .int .i64 0] 24 (0, 0)) := heap_set_self _ _ _ _ (heap_set_self _ _ _ _ hrc)
        have e0 : ((wK.setCell ⟨w.heap.size, 0, none⟩ (.slice none 0 0)).setCell ⟨w.heap.size, 1, none⟩ (.int .i64 0)).cell? ⟨w.heap.size, 0, none⟩ = some (.slice none 0 0) := by simp [World.cell?, hend]
        have e1 : ((wK.setCell ⟨w.heap.size, 0, none⟩ (.slice none 0 0)).setCell ⟨w.heap.size, 1, none⟩ (.int .i64 0)).cell? ⟨w.heap.size, 1, none⟩ = some (.int .i64 0) := by simp [World.cell?, hend]
        have HBE : Hid (Below w.heap.size w ((wK.setCell ⟨w.heap.size, 0, none⟩ (.slice none 0 0)).setCell ⟨w.heap.size, 1, none⟩ (.int .i64 0))) := Lib.hid ((HBK.out.setCell (p := ⟨w.heap.size, 0, none⟩) (Nat.le_refl _) _).setCell (p := ⟨w.heap.size, 1, none⟩) (Nat.le_refl _) _)
        clear hfa hqa hend hrc
        go_wp2_with fail
        refine bodyPost_ret (v := .tuple #[.agg #[.slice none 0 0, .int .i64 0], .int .i64 4]) (by simp [results, Tryz.results12, go_sem, e0, e1]) rfl ?_
        exact ⟨_, by rw [HFA.out.1]; rfl, by rw [HFA.out.2]; exact OwnQ.none _ _, HBE.out⟩
end Go.Proofs.YtggpodlecljcbaaGreatDoor
