/- Plain: chapter 2: files by their names. The walks of chapter 2: are files fine? Plain: files that rise, and the place of a name among them. -/
import Derived.Test.YtggpodlecljcbaaGreatDoorWalkB
namespace Go.Proofs.YtggpodlecljcbaaGreatDoor
def bLt (a b : ByteArray) : Bool := Op.bytesLess a.toList b.toList
def bLe (a b : ByteArray) : Bool := Op.bytesLess a.toList b.toList || a.toList == b.toList
/-- The fault of files, the name ahead known. -/
def faultFrom (prev : Option ByteArray) : List File → Nat
  | [] => 0
  | f :: r => if fileFault f ≠ 0 then fileFault f else if (match prev with | some p => bLe f.name p | none => false) then 3 else faultFrom (some f.name) r
/-- B3. -/
def filesFault (l : List File) : Nat := if 8 < l.length then 2 else faultFrom none l
def prevAt (l : List File) (k : Nat) : Option ByteArray := if k = 0 then none else (l[k - 1]?).map File.name
theorem faultFrom_cons (l : List File) (k : Nat) (h : k < l.length) (p : Option ByteArray) : faultFrom p (l.drop k) = if fileFault l[k] ≠ 0 then fileFault l[k] else if (match p with | some p => bLe l[k].name p | none => false) then 3 else faultFrom (some l[k].name) (l.drop (k + 1)) := by
  rw [List.drop_eq_getElem_cons h]
  rfl
theorem prev_zero (l : List File) : prevAt l 0 = none := rfl
theorem prev_succ (l : List File) (k : Nat) (h : k < l.length) : prevAt l (k + 1) = some l[k].name := by simp [prevAt, h]
theorem ff_stop (l : List File) (k n : Nat) (h : k < l.length) (p : Option ByteArray) (hn : fileFault l[k] = n) (h0 : n ≠ 0) : faultFrom p (l.drop k) = n := by
  rw [faultFrom_cons l k h, hn, if_pos h0]
theorem ff_order (l : List File) (k : Nat) (h : k < l.length) (p : ByteArray) (hn : fileFault l[k] = 0) (hl : bLe l[k].name p = true) : faultFrom (some p) (l.drop k) = 3 := by
  rw [faultFrom_cons l k h, hn, if_neg (by simp)]; simp [hl]
theorem ff_next (l : List File) (k : Nat) (h : k < l.length) (p : Option ByteArray) (hn : fileFault l[k] = 0) (hl : ∀ q, p = some q → bLe l[k].name q = false) : faultFrom p (l.drop k) = faultFrom (prevAt l (k + 1)) (l.drop (k + 1)) := by
  rw [faultFrom_cons l k h, hn, if_neg (by simp), prev_succ l k h]
  cases p with
  | none => simp
  | some q => simp [hl q rfl]
theorem ff_end (l : List File) (k : Nat) (h : ¬ k < l.length) (p : Option ByteArray) : faultFrom p (l.drop k) = 0 := by
  rw [List.drop_of_length_le (by omega)]; rfl
/-- B1. -/
def getAt (l : List File) (name : ByteArray) : Option File := l.find? (fun f => f.name.toList == name.toList)
end Go.Proofs.YtggpodlecljcbaaGreatDoor
namespace Go.Proofs.YtggpodlecljcbaaGreatDoor
open Go.RowKit Go.Sort

set_option maxHeartbeats 1000000 in
theorem ref_FilesFault (va : Value) (l : List File) (w : World) (ha : Files w va l) (hok : ∀ f ∈ l, f.ok) :
    Calls Tryz.prog 19 #[va] w fun e w' => e = .returned (.int .i64 (filesFault l)) ∧ Below w.heap.size w w' := by
  obtain ⟨ao, ca, rfl, hca, hca'⟩ := ha.parts
  have HA := Lib.hid ha
  have HOK := Lib.hid hok
  clear ha hok
  by_cases hl : l.length ≤ 8
  · have HL : Hid (filesFault l = faultFrom none l) := by show filesFault l = _; unfold filesFault; rw [if_neg (by omega)]
    go_enter Tryz.func19, Tryz.ntmps19
    go_wp2_with fail
    go_loopw [3] (fun i wr => ∃ k : Nat, k ≤ l.length ∧ i = .int .i64 k ∧ faultFrom (prevAt l k) (l.drop k) = faultFrom none l ∧ Below w.heap.size w wr) (fun i _ => l.length - (intOf i).toNat)
    case atStart => exact ⟨0, Nat.zero_le _, rfl, rfl, Below.refl _ _⟩
    case round =>
      obtain ⟨k, hk, rfl, htk, hbw⟩ := hrel
      have HT := Lib.hid htk
      have HW := Lib.hid hbw
      clear htk
      by_cases hlt : k < l.length
      · obtain ⟨ba, oa, rfl, _, x0, x1, x2⟩ := Files.cell (HA.out.below hbw) k hlt
        have C := fun W => ref_FileFault l[k] W (HOK.out l[k] (List.getElem_mem hlt))
        unfold File.val at C
        clear hbw
        by_cases hf : fileFault l[k] = 0
        · rw [hf] at C
          replace C := Lib.hid C
          cases k with
          | zero =>
            have HN := Lib.hid (ff_next l 0 hlt (prevAt l 0) hf (fun q h => by cases h))
            clear hf
            simp only [Nat.zero_mul, Nat.add_zero] at x0 x1 x2
            go_wp2_with fail
            refine (C.out _).mono ?_
            rintro e w2 ⟨rfl, hb2⟩
            have HB2 := Lib.hid (two HW.out hb2)
            clear hb2 x0 x1 x2
            go_wp2_with fail
            refine wp_region_q (by kernel_rfl) (by kernel_rfl) ?_
            repeat (go_big_quiet_step (fail))
            refine wpQuiet_nil ?_
            intro w3 hb3
            have HB3 := Lib.hid (two HB2.out hb3)
            clear hb3
            go_wp2_with fail
            go_roundw
            case rel => exact ⟨1, by omega, by go_num, by rw [← HN.out]; exact HT.out, HB3.out⟩
            case measure => simp [intOf]; omega
          | succ m =>
            obtain ⟨bb, ob, eb, _, y0, y1, y2⟩ := Files.cell (HA.out.below HW.out) m (by omega)
            simp only [Option.some.injEq, Addr.mk.injEq, and_true] at eb
            obtain ⟨rfl, rfl⟩ := eb
            have hp := prev_succ l m (by omega)
            have hgt : (0 : Int) < ((m + 1 : Nat) : Int) := by omega
            have hgt' : decide ((0 : Int) < ((m + 1 : Nat) : Int)) = true := by simp
            by_cases hle : bLe l[m + 1].name (l[m]'(by omega)).name = true
            · have HN := Lib.hid (ff_order l (m + 1) hlt _ hf hle)
              have hle2 : (Op.bytesLess l[m + 1].name.toList (l[m]'(by omega)).name.toList || l[m + 1].name.toList == (l[m]'(by omega)).name.toList) = true := hle
              rw [hp] at HT
              clear hf hle hp
              go_wp2_with fail
              refine (C.out _).mono ?_
              rintro e w2 ⟨rfl, hb2⟩
              have HB2 := Lib.hid (two HW.out hb2)
              replace x0 := regrown_cell (cell_on' hb2 x0)
              replace y0 := regrown_cell (cell_on' hb2 y0)
              clear hb2 x1 x2 y1 y2
              go_wp2_with fail
              refine wp_region_q (by kernel_rfl) (by kernel_rfl) ?_
              repeat (go_big_quiet_step (fail))
              refine wpQuiet_nil ?_
              intro w3 hb3
              have HB3 := Lib.hid (two HB2.out hb3)
              clear hb3
              go_wp2_with fail
              go_ret
              exact ⟨ret_int (by rw [HL.out, ← HT.out, HN.out]; rfl), HB3.out⟩
            · have hle1 : bLe l[m + 1].name (l[m]'(by omega)).name = false := by simpa using hle
              have HN := Lib.hid (ff_next l (m + 1) hlt (prevAt l (m + 1)) hf (fun q hq => by rw [hp] at hq; cases hq; exact hle1))
              have hle2 : (Op.bytesLess l[m + 1].name.toList (l[m]'(by omega)).name.toList || l[m + 1].name.toList == (l[m]'(by omega)).name.toList) = false := hle1
              clear hf hle hle1 hp
              go_wp2_with fail
              refine (C.out _).mono ?_
              rintro e w2 ⟨rfl, hb2⟩
              have HB2 := Lib.hid (two HW.out hb2)
              replace x0 := regrown_cell (cell_on' hb2 x0)
              replace y0 := regrown_cell (cell_on' hb2 y0)
              clear hb2 x1 x2 y1 y2
              go_wp2_with fail
              refine wp_region_q (by kernel_rfl) (by kernel_rfl) ?_
              repeat (go_big_quiet_step (fail))
              refine wpQuiet_nil ?_
              intro w3 hb3
              have HB3 := Lib.hid (two HB2.out hb3)
              clear hb3
              go_wp2_with fail
              go_roundw
              case rel => exact ⟨m + 1 + 1, by omega, by go_num, by rw [← HN.out]; exact HT.out, HB3.out⟩
              case measure => simp [intOf]; omega
        · have HN := Lib.hid (ff_stop l k _ hlt (prevAt l k) rfl hf)
          have hf' : 0 < (fileFault l[k] : Int) := by omega
          replace C := Lib.hid C
          clear hf
          cases k with
          | zero =>
            simp only [Nat.zero_mul, Nat.add_zero] at x0 x1 x2
            go_wp2_with fail
            refine (C.out _).mono ?_
            rintro e w2 ⟨rfl, hb2⟩
            have HB2 := Lib.hid (two HW.out hb2)
            clear hb2
            go_wp2_with fail
            go_ret
            exact ⟨ret_int (by rw [HL.out, ← HT.out, HN.out]), HB2.out⟩
          | succ m =>
            go_wp2_with fail
            refine (C.out _).mono ?_
            rintro e w2 ⟨rfl, hb2⟩
            have HB2 := Lib.hid (two HW.out hb2)
            clear hb2
            go_wp2_with fail
            go_ret
            exact ⟨ret_int (by rw [HL.out, ← HT.out, HN.out]), HB2.out⟩
      · have HN := Lib.hid (ff_end l k hlt (prevAt l k))
        clear hbw
        go_wp2_with fail
        go_ret
        exact ⟨ret_int (by rw [HL.out, ← HT.out, HN.out]; rfl), HW.out⟩
  · have HL : Hid (filesFault l = 2) := by show filesFault l = _; unfold filesFault; rw [if_pos (by omega)]
    go_enter Tryz.func19, Tryz.ntmps19
    go_wp2_with fail
    go_ret
    exact ⟨ret_int (by rw [HL.out]; rfl), Below.refl _ _⟩

set_option maxHeartbeats 1000000 in
theorem shelf_Check (va : Value) (l : List File) (w : World) (ha : Files w va l) (hok : ∀ f ∈ l, f.ok) :
    Calls Tryz.prog 37 #[va] w fun e w' => e = .returned (errV (filesFault l)) ∧ Below w.heap.size w w' := by
  obtain ⟨ao, ca, rfl, hca, hca'⟩ := ha.parts
  have HA := Lib.hid ha
  have HOK := Lib.hid hok
  clear ha hok
  by_cases hl : l.length ≤ 8
  · have HL : Hid (filesFault l = faultFrom none l) := by show filesFault l = _; unfold filesFault; rw [if_neg (by omega)]
    go_enter Tryz.func37, Tryz.ntmps37
    go_wp2_with fail
    go_loopw [12] (fun i wr => ∃ k : Nat, k ≤ l.length ∧ i = .int .i64 k ∧ faultFrom (prevAt l k) (l.drop k) = faultFrom none l ∧ Below w.heap.size w wr) (fun i _ => l.length - (intOf i).toNat)
    case atStart => exact ⟨0, Nat.zero_le _, rfl, rfl, Below.refl _ _⟩
    case round =>
      obtain ⟨k, hk, rfl, htk, hbw⟩ := hrel
      have HT := Lib.hid htk
      have HW := Lib.hid hbw
      clear htk
      by_cases hlt : k < l.length
      · obtain ⟨ba, oa, rfl, hlb, x0, x1, x2⟩ := Files.cell (HA.out.below hbw) k hlt
        have C := fun W => file_Check l[k] W (HOK.out l[k] (List.getElem_mem hlt))
        unfold File.val at C
        have B1 := below_alloc wr (.cells #[.string l[k].name, .string l[k].text, .int .i64 l[k].times] 48)
        have HB1 := Lib.hid (two HW.out B1)
        clear hbw
        by_cases hf : fileFault l[k] = 0
        · rw [hf, errV_zero] at C
          replace C := Lib.hid C
          cases k with
          | zero =>
            have HN := Lib.hid (ff_next l 0 hlt (prevAt l 0) hf (fun q h => by cases h))
            clear hf B1
            simp only [Nat.zero_mul, Nat.add_zero] at x0 x1 x2
            go_wp2_with fail
            refine (C.out _).mono ?_
            rintro e w2 ⟨rfl, hb2⟩
            have HB2 := Lib.hid (two HB1.out hb2)
            clear hb2 x0 x1 x2
            go_wp2_with fail
            refine wp_region_q (by kernel_rfl) (by kernel_rfl) ?_
            repeat (go_big_quiet_step (fail))
            refine wpQuiet_nil ?_
            intro w3 hb3
            have HB3 := Lib.hid (two HB2.out hb3)
            clear hb3
            go_wp2_with fail
            go_roundw
            case rel => exact ⟨1, by omega, by go_num, by rw [← HN.out]; exact HT.out, HB3.out⟩
            case measure => simp [intOf]; omega
          | succ m =>
            obtain ⟨bb, ob, eb, _, y0, y1, y2⟩ := Files.cell (HA.out.below HW.out) m (by omega)
            simp only [Option.some.injEq, Addr.mk.injEq, and_true] at eb
            obtain ⟨rfl, rfl⟩ := eb
            have hp := prev_succ l m (by omega)
            have hgt : (0 : Int) < ((m + 1 : Nat) : Int) := by omega
            have hgt' : decide ((0 : Int) < ((m + 1 : Nat) : Int)) = true := by simp
            have Y0 := Lib.hid (cell_on' B1 y0)
            by_cases hle : bLe l[m + 1].name (l[m]'(by omega)).name = true
            · have HN := Lib.hid (ff_order l (m + 1) hlt _ hf hle)
              have hle2 : (Op.bytesLess l[m + 1].name.toList (l[m]'(by omega)).name.toList || l[m + 1].name.toList == (l[m]'(by omega)).name.toList) = true := hle
              rw [hp] at HT
              clear hf hle hp B1 y0 y1 y2
              go_wp2_with fail
              refine (C.out _).mono ?_
              rintro e w2 ⟨rfl, hb2⟩
              have HB2 := Lib.hid (two HB1.out hb2)
              have y0 := regrown_cell (cell_on' hb2 Y0.out)
              have z0 := regrown_cell (cell_on' hb2 (b := wr.heap.size) (o := 0) (v := .string l[m + 1].name) (by simp))
              clear hb2 x0 x1 x2
              go_wp2_with fail
              refine wp_region_q (by kernel_rfl) (by kernel_rfl) ?_
              repeat (go_big_quiet_step (fail))
              refine wpQuiet_nil ?_
              intro w3 hb3
              have HB3 := Lib.hid (two HB2.out hb3)
              clear hb3
              go_wp2_with fail
              go_ret
              exact ⟨by rw [HL.out, ← HT.out, HN.out]; rfl, HB3.out⟩
            · have hle1 : bLe l[m + 1].name (l[m]'(by omega)).name = false := by simpa using hle
              have HN := Lib.hid (ff_next l (m + 1) hlt (prevAt l (m + 1)) hf (fun q hq => by rw [hp] at hq; cases hq; exact hle1))
              have hle2 : (Op.bytesLess l[m + 1].name.toList (l[m]'(by omega)).name.toList || l[m + 1].name.toList == (l[m]'(by omega)).name.toList) = false := hle1
              clear hf hle hle1 hp B1 y0 y1 y2
              go_wp2_with fail
              refine (C.out _).mono ?_
              rintro e w2 ⟨rfl, hb2⟩
              have HB2 := Lib.hid (two HB1.out hb2)
              have y0 := regrown_cell (cell_on' hb2 Y0.out)
              have z0 := regrown_cell (cell_on' hb2 (b := wr.heap.size) (o := 0) (v := .string l[m + 1].name) (by simp))
              clear hb2 x0 x1 x2
              go_wp2_with fail
              refine wp_region_q (by kernel_rfl) (by kernel_rfl) ?_
              repeat (go_big_quiet_step (fail))
              refine wpQuiet_nil ?_
              intro w3 hb3
              have HB3 := Lib.hid (two HB2.out hb3)
              clear hb3
              go_wp2_with fail
              go_roundw
              case rel => exact ⟨m + 1 + 1, by omega, by go_num, by rw [← HN.out]; exact HT.out, HB3.out⟩
              case measure => simp [intOf]; omega
        · have HN := Lib.hid (ff_stop l k _ hlt (prevAt l k) rfl hf)
          have HE := Lib.hid (errV_pos hf)
          rw [errV_pos hf] at C
          replace C := Lib.hid C
          clear hf B1
          cases k with
          | zero =>
            simp only [Nat.zero_mul, Nat.add_zero] at x0 x1 x2
            go_wp2_with fail
            refine (C.out _).mono ?_
            rintro e w2 ⟨rfl, hb2⟩
            have HB2 := Lib.hid (two HB1.out hb2)
            clear hb2
            go_wp2_with fail
            go_ret
            exact ⟨by rw [HL.out, ← HT.out, HN.out, HE.out]; rfl, HB2.out⟩
          | succ m =>
            go_wp2_with fail
            refine (C.out _).mono ?_
            rintro e w2 ⟨rfl, hb2⟩
            have HB2 := Lib.hid (two HB1.out hb2)
            clear hb2
            go_wp2_with fail
            go_ret
            exact ⟨by rw [HL.out, ← HT.out, HN.out, HE.out]; rfl, HB2.out⟩
      · have HN := Lib.hid (ff_end l k hlt (prevAt l k))
        clear hbw
        go_wp2_with fail
        go_ret
        exact ⟨by rw [HL.out, ← HT.out, HN.out]; rfl, HW.out⟩
  · have HL : Hid (filesFault l = 2) := by show filesFault l = _; unfold filesFault; rw [if_pos (by omega)]
    go_enter Tryz.func37, Tryz.ntmps37
    go_wp2_with fail
    go_ret
    exact ⟨by rw [HL.out]; rfl, Below.refl _ _⟩
end Go.Proofs.YtggpodlecljcbaaGreatDoor
namespace Go.Proofs.YtggpodlecljcbaaGreatDoor
set_option linter.unusedSimpArgs false
set_option linter.unusedVariables false
open Go.Lib
def cmpB (a b : ByteArray) : Int := Lib.compareBytes a.data.toList b.data.toList
theorem bytes_list (a : ByteArray) : a.toList = a.data.toList := ByteArray.toList_eq a
theorem cmpL_lt : ∀ (x y : List UInt8), (Lib.compareBytes x y < 0) ↔ Op.bytesLess x y = true
  | [], [] => by simp [compareBytes, Op.bytesLess]
  | [], _ :: _ => by simp [compareBytes, Op.bytesLess]
  | _ :: _, [] => by simp [compareBytes, Op.bytesLess]
  | a :: x, b :: y => by
    have ih := cmpL_lt x y
    unfold compareBytes Op.bytesLess
    by_cases h : a < b
    · simp [h]
    · by_cases h2 : b < a
      · have h3 : a ≠ b := by rintro rfl; exact h h2
        simp [h, h2, h3]
      · have h3 : a = b := by
          apply UInt8.toNat_inj.mp
          simp only [UInt8.lt_iff_toNat_lt] at h h2
          omega
        subst h3
        simp [h, ih]
theorem cmpL_eq0 : ∀ (x y : List UInt8), (Lib.compareBytes x y = 0) ↔ x = y
  | [], [] => by simp [compareBytes]
  | [], _ :: _ => by simp [compareBytes]
  | _ :: _, [] => by simp [compareBytes]
  | a :: x, b :: y => by
    have ih := cmpL_eq0 x y
    unfold compareBytes
    by_cases h : a < b
    · have h3 : a ≠ b := by rintro rfl; simp at h
      simp [h, h3]
    · by_cases h2 : b < a
      · have h3 : a ≠ b := by rintro rfl; exact h h2
        simp [h, h2, h3]
      · have h3 : a = b := by
          apply UInt8.toNat_inj.mp
          simp only [UInt8.lt_iff_toNat_lt] at h h2
          omega
        subst h3
        simp [h, ih]
theorem less_trans : ∀ (x y z : List UInt8), Op.bytesLess x y = true → Op.bytesLess y z = true → Op.bytesLess x z = true
  | _, _, [], _, h => by simp [Op.bytesLess] at h
  | [], _, _ :: _, _, _ => by simp [Op.bytesLess]
  | _ :: _, [], _ :: _, h, _ => by simp [Op.bytesLess] at h
  | a :: x, b :: y, c :: z, h1, h2 => by
    have ih := less_trans x y z
    simp only [Op.bytesLess, Bool.or_eq_true, decide_eq_true_eq, Bool.and_eq_true, beq_iff_eq, UInt8.lt_iff_toNat_lt, ← UInt8.toNat_inj] at *
    rcases h1 with h1 | ⟨h1, h1'⟩ <;> rcases h2 with h2 | ⟨h2, h2'⟩
    · left; omega
    · left; omega
    · left; omega
    · right; exact ⟨by omega, ih h1' h2'⟩
theorem less_irrefl (x : List UInt8) : Op.bytesLess x x = false := by
  have h := cmpL_lt x x
  have h0 := (cmpL_eq0 x x).mpr rfl
  rw [h0] at h
  simpa using h
theorem less_total (x y : List UInt8) (h : Op.bytesLess x y = false) (hn : x ≠ y) : Op.bytesLess y x = true := by
  induction x generalizing y with
  | nil => cases y <;> simp_all [Op.bytesLess]
  | cons a x ih =>
    cases y with
    | nil => simp [Op.bytesLess]
    | cons b y =>
      simp only [Op.bytesLess, Bool.or_eq_true, Bool.or_eq_false_iff, decide_eq_true_eq, decide_eq_false_iff_not, Bool.and_eq_true, beq_iff_eq, UInt8.lt_iff_toNat_lt, ← UInt8.toNat_inj] at *
      by_cases e : a.toNat = b.toNat
      · right
        have e' : a = b := UInt8.toNat_inj.mp e
        subst e'
        refine ⟨rfl, ih y ?_ ?_⟩
        · simpa using h.2
        · rintro rfl; exact hn rfl
      · left; omega
theorem cmpB_lt (a b : ByteArray) : cmpB a b < 0 ↔ bLt a b = true := by unfold cmpB bLt; rw [bytes_list, bytes_list]; exact cmpL_lt _ _
theorem cmpB_eq (a b : ByteArray) : cmpB a b = 0 ↔ (a.toList == b.toList) = true := by unfold cmpB; rw [bytes_list, bytes_list, beq_iff_eq]; exact cmpL_eq0 _ _
theorem bLt_trans {a b c : ByteArray} (h1 : bLt a b = true) (h2 : bLt b c = true) : bLt a c = true := less_trans _ _ _ h1 h2
theorem bLt_irrefl (a : ByteArray) : bLt a a = false := less_irrefl _
theorem bLt_of_not_le {a b : ByteArray} (h : bLe a b = false) : bLt b a = true := by
  unfold bLe at h
  simp only [Bool.or_eq_false_iff] at h
  exact less_total _ _ h.1 (by simpa using h.2)
/-- Files rise. -/
def Rises (l : List File) : Prop := l.Pairwise (fun a b => bLt a.name b.name = true)
theorem rises_of (l : List File) : ∀ (p : Option ByteArray), faultFrom p l = 0 → Rises l ∧ (∀ q, p = some q → ∀ f ∈ l, bLt q f.name = true) := by
  induction l with
  | nil => intro p _; exact ⟨List.Pairwise.nil, fun _ _ f hf => by simp at hf⟩
  | cons f r ih =>
    intro p h
    have key : fileFault f = 0 := by
      by_cases h1 : fileFault f = 0
      · exact h1
      · unfold faultFrom at h; rw [if_pos h1] at h; exact absurd h h1
    have key2 : (∀ q, p = some q → bLe f.name q = false) ∧ faultFrom (some f.name) r = 0 := by
      unfold faultFrom at h
      rw [if_neg (by simp [key])] at h
      cases p with
      | none => exact ⟨(fun q hq => by cases hq), by simpa using h⟩
      | some q =>
        cases hq : bLe f.name q
        · refine ⟨fun q' e => by cases e; exact hq, ?_⟩
          simpa [hq] using h
        · simp [hq] at h
    obtain ⟨hr, hl⟩ := ih _ key2.2
    refine ⟨List.Pairwise.cons (fun g hg => hl _ rfl g hg) hr, ?_⟩
    rintro q rfl g hg
    have hq : bLt q f.name = true := bLt_of_not_le (key2.1 q rfl)
    rcases List.mem_cons.mp hg with rfl | hg
    · exact hq
    · exact bLt_trans hq (hl _ rfl g hg)
theorem Rises.at {l : List File} (h : Rises l) (i j : Nat) (hij : i < j) (hj : j < l.length) : bLt (l[i]'(by omega)).name l[j].name = true := List.pairwise_iff_getElem.mp h i j (by omega) hj hij
theorem Rises.mono {l : List File} (h : Rises l) (name : ByteArray) (i j : Nat) (hij : i ≤ j) (hj : j < l.length) (hl : bLt l[j].name name = true) : bLt (l[i]'(by omega)).name name = true := by
  by_cases e : i = j
  · subst e; exact hl
  · exact bLt_trans (h.at i j (by omega) hj) hl
/-- The place of a name. -/
def rank (l : List File) (name : ByteArray) : Nat := (l.takeWhile (fun f => bLt f.name name)).length
theorem rank_of (name : ByteArray) : ∀ (l : List File) (i : Nat), i ≤ l.length → (∀ t, (ht : t < l.length) → t < i → bLt l[t].name name = true) → (∀ t, (ht : t < l.length) → i ≤ t → bLt l[t].name name = false) → rank l name = i
  | [], i, h, _, _ => by simp at h; simp [rank, h]
  | f :: r, 0, _, _, h2 => by
    have := h2 0 (by simp) (Nat.le_refl _)
    simp at this
    simp [rank, this]
  | f :: r, i + 1, h, h1, h2 => by
    have ha := h1 0 (by simp) (by omega)
    have ih := rank_of name r i (by simpa using h) (fun t ht hti => h1 (t + 1) (by simpa using ht) (by omega)) (fun t ht hti => h2 (t + 1) (by simpa using ht) (by omega))
    simp at ha
    unfold rank at ih ⊢
    simp [ha, ih]
def isAt (l : List File) (name : ByteArray) (i : Nat) : Bool := match l[i]? with | some f => f.name.toList == name.toList | none => false
theorem isAt_lt (l : List File) (name : ByteArray) (i : Nat) (h : i < l.length) : isAt l name i = (l[i].name.toList == name.toList) := by unfold isAt; rw [List.getElem?_eq_getElem h]
theorem isAt_ge (l : List File) (name : ByteArray) (i : Nat) (h : ¬ i < l.length) : isAt l name i = false := by unfold isAt; rw [List.getElem?_eq_none (by omega)]
end Go.Proofs.YtggpodlecljcbaaGreatDoor
