/- The walks that hold two lists against each other: files, changes, texts, numbers. -/
import Derived.Test.YtggpodlecljcbabWalkA
namespace Go.Proofs.Ytggpodlecljcbab
open Go.RowKit Go.Sort

structure Change where
  key : ByteArray
  val : ByteArray
  gone : Bool
  deriving DecidableEq
def File.cells (f : File) : List Value := [.string f.name, .string f.text, .int .i64 f.times]
def Change.cells (c : Change) : List Value := [.string c.key, .string c.val, .bool c.gone]
def Change.val' (c : Change) : Value := .agg #[.string c.key, .string c.val, .bool c.gone]
def strCells (s : ByteArray) : List Value := [.string s]
def intCells (n : Int) : List Value := [.int .i64 n]
theorem File.cells_len (f : File) : f.cells.length = 3 := rfl
theorem Change.cells_len (f : Change) : f.cells.length = 3 := rfl
theorem strCells_len (s : ByteArray) : (strCells s).length = 1 := rfl
theorem intCells_len (s : Int) : (intCells s).length = 1 := rfl
abbrev Files := Rd 3 File.cells
abbrev Changes := Rd 3 Change.cells
abbrev Texts := Rd 1 strCells
abbrev Nums := Rd 1 intCells
section
variable {w : World} {ao : Option Addr} {n cap : Nat}
theorem Files.cell {l : List File} (h : Files w (.slice ao n cap) l) (i : Nat) (hi : i < l.length) :
    ∃ b off, ao = some ⟨b, off, none⟩ ∧ b < w.heap.size ∧ w.cell? ⟨b, off + i * 3, none⟩ = some (.string l[i].name) ∧ w.cell? ⟨b, off + i * 3 + 1, none⟩ = some (.string l[i].text) ∧ w.cell? ⟨b, off + i * 3 + 2, none⟩ = some (.int .i64 l[i].times) := by
  obtain ⟨b, off, e, hb, hc⟩ := Rd.at File.cells_len (by decide) h i hi
  exact ⟨b, off, e, hb, hc 0 _ rfl, hc 1 _ rfl, hc 2 _ rfl⟩
theorem Changes.cell {l : List Change} (h : Changes w (.slice ao n cap) l) (i : Nat) (hi : i < l.length) :
    ∃ b off, ao = some ⟨b, off, none⟩ ∧ b < w.heap.size ∧ w.cell? ⟨b, off + i * 3, none⟩ = some (.string l[i].key) ∧ w.cell? ⟨b, off + i * 3 + 1, none⟩ = some (.string l[i].val) ∧ w.cell? ⟨b, off + i * 3 + 2, none⟩ = some (.bool l[i].gone) := by
  obtain ⟨b, off, e, hb, hc⟩ := Rd.at Change.cells_len (by decide) h i hi
  exact ⟨b, off, e, hb, hc 0 _ rfl, hc 1 _ rfl, hc 2 _ rfl⟩
theorem Texts.cell {l : List ByteArray} (h : Texts w (.slice ao n cap) l) (i : Nat) (hi : i < l.length) :
    ∃ b off, ao = some ⟨b, off, none⟩ ∧ b < w.heap.size ∧ w.cell? ⟨b, off + i, none⟩ = some (.string l[i]) := by
  obtain ⟨b, off, e, hb, hc⟩ := Rd.at strCells_len (by decide) h i hi
  exact ⟨b, off, e, hb, by have := hc 0 _ rfl; simpa using this⟩
theorem Nums.cell {l : List Int} (h : Nums w (.slice ao n cap) l) (i : Nat) (hi : i < l.length) :
    ∃ b off, ao = some ⟨b, off, none⟩ ∧ b < w.heap.size ∧ w.cell? ⟨b, off + i, none⟩ = some (.int .i64 l[i]) := by
  obtain ⟨b, off, e, hb, hc⟩ := Rd.at intCells_len (by decide) h i hi
  exact ⟨b, off, e, hb, by have := hc 0 _ rfl; simpa using this⟩
end
def fileSame (n1 t1 : ByteArray) (k1 : Int) (n2 t2 : ByteArray) (k2 : Int) : Bool := decide ((⟨n1, t1, k1⟩ : File) = ⟨n2, t2, k2⟩)
theorem fileSame_iff (f g : File) : fileSame f.name f.text f.times g.name g.text g.times = decide (f = g) := rfl
def changeSame (n1 t1 : ByteArray) (k1 : Bool) (n2 t2 : ByteArray) (k2 : Bool) : Bool := decide ((⟨n1, t1, k1⟩ : Change) = ⟨n2, t2, k2⟩)
theorem changeSame_iff (f g : Change) : changeSame f.key f.val f.gone g.key g.val g.gone = decide (f = g) := rfl
@[go_sem] theorem eqGuard_file : Try.prog.eqGuardType Try.prog.depth 57 = false := by kernel_rfl
@[go_sem high] theorem neq_file (n1 t1 n2 t2 : ByteArray) (k1 k2 : Int) (w : World) : (binOp .neq 57 (.agg #[.string n1, .string t1, .int .i64 k1]) (.agg #[.string n2, .string t2, .int .i64 k2])).run Try.prog w = .ok (.bool (!fileSame n1 t1 k1 n2 t2 k2)) w := by
  have hf : Try.prog.underlying 57 = some (.struct (Try.prog.fieldsOf 57)) := by kernel_rfl
  have hp : Try.prog.stoodInHeld 57 = false := by kernel_rfl
  have h0 := run_equalIn_struct (P := Try.prog) w 9999 57 #[.string n1, .string t1, .int .i64 k1] #[.string n2, .string t2, .int .i64 k2] hf hp
  simp only [binOp]
  simp only [fileSame, File.mk.injEq]
  simp [Op.equal, Op.maxDepth, h0, Program.fieldsOf, Try.underlying57, go_sem]
  by_cases h1 : n1 = n2 <;> by_cases h2 : t1 = t2 <;> by_cases h3 : k1 = k2 <;>
    simp [h1, h2, h3, bytes_eq_iff]
@[go_sem high] theorem eql_file (n1 t1 n2 t2 : ByteArray) (k1 k2 : Int) (w : World) : (binOp .eql 57 (.agg #[.string n1, .string t1, .int .i64 k1]) (.agg #[.string n2, .string t2, .int .i64 k2])).run Try.prog w = .ok (.bool (fileSame n1 t1 k1 n2 t2 k2)) w := by
  have hf : Try.prog.underlying 57 = some (.struct (Try.prog.fieldsOf 57)) := by kernel_rfl
  have hp : Try.prog.stoodInHeld 57 = false := by kernel_rfl
  have h0 := run_equalIn_struct (P := Try.prog) w 9999 57 #[.string n1, .string t1, .int .i64 k1] #[.string n2, .string t2, .int .i64 k2] hf hp
  simp only [binOp]
  simp only [fileSame, File.mk.injEq]
  simp [Op.equal, Op.maxDepth, h0, Program.fieldsOf, Try.underlying57, go_sem]
  by_cases h1 : n1 = n2 <;> by_cases h2 : t1 = t2 <;> by_cases h3 : k1 = k2 <;>
    simp [h1, h2, h3, bytes_eq_iff]
@[go_sem] theorem eqGuard_change : Try.prog.eqGuardType Try.prog.depth 75 = false := by kernel_rfl
@[go_sem high] theorem neq_change (n1 t1 n2 t2 : ByteArray) (k1 k2 : Bool) (w : World) : (binOp .neq 75 (.agg #[.string n1, .string t1, .bool k1]) (.agg #[.string n2, .string t2, .bool k2])).run Try.prog w = .ok (.bool (!changeSame n1 t1 k1 n2 t2 k2)) w := by
  have hf : Try.prog.underlying 75 = some (.struct (Try.prog.fieldsOf 75)) := by kernel_rfl
  have hp : Try.prog.stoodInHeld 75 = false := by kernel_rfl
  have h0 := run_equalIn_struct (P := Try.prog) w 9999 75 #[.string n1, .string t1, .bool k1] #[.string n2, .string t2, .bool k2] hf hp
  simp only [binOp]
  simp only [changeSame, Change.mk.injEq]
  simp [Op.equal, Op.maxDepth, h0, Program.fieldsOf, Try.underlying75, go_sem]
  by_cases h1 : n1 = n2 <;> by_cases h2 : t1 = t2 <;> by_cases h3 : k1 = k2 <;>
    simp [h1, h2, h3, bytes_eq_iff]
@[go_sem high] theorem eql_change (n1 t1 n2 t2 : ByteArray) (k1 k2 : Bool) (w : World) : (binOp .eql 75 (.agg #[.string n1, .string t1, .bool k1]) (.agg #[.string n2, .string t2, .bool k2])).run Try.prog w = .ok (.bool (changeSame n1 t1 k1 n2 t2 k2)) w := by
  have hf : Try.prog.underlying 75 = some (.struct (Try.prog.fieldsOf 75)) := by kernel_rfl
  have hp : Try.prog.stoodInHeld 75 = false := by kernel_rfl
  have h0 := run_equalIn_struct (P := Try.prog) w 9999 75 #[.string n1, .string t1, .bool k1] #[.string n2, .string t2, .bool k2] hf hp
  simp only [binOp]
  simp only [changeSame, Change.mk.injEq]
  simp [Op.equal, Op.maxDepth, h0, Program.fieldsOf, Try.underlying75, go_sem]
  by_cases h1 : n1 = n2 <;> by_cases h2 : t1 = t2 <;> by_cases h3 : k1 = k2 <;>
    simp [h1, h2, h3, bytes_eq_iff]

set_option maxHeartbeats 400000 in
theorem ref_SameFiles (va vb : Value) (a b : List File) (w : World) (ha : Files w va a) (hb : Files w vb b) :
    Calls Try.prog 41 #[va, vb] w fun e w' => e = .returned (.bool (decide (a = b))) ∧ Below w.heap.size w w' := by
  obtain ⟨ao, ca, rfl, hca, hca'⟩ := ha.parts
  obtain ⟨bo, cb, rfl, hcb, hcb'⟩ := hb.parts
  have HA := Lib.hid ha
  have HB := Lib.hid hb
  clear ha hb
  by_cases hl : a.length = b.length
  · have HL := Lib.hid hl
    have e1 : ((a.length : Int) != (b.length : Int)) = false := by simp [hl]
    clear hl
    go_enter Try.func41, Try.ntmps41
    go_wp2
    go_loopw [5] (fun i wr => ∃ k : Nat, k ≤ a.length ∧ i = .int .i64 k ∧ a.take k = b.take k ∧ Below w.heap.size w wr) (fun i _ => a.length - (intOf i).toNat)
    case atStart => exact ⟨0, Nat.zero_le _, rfl, rfl, Below.refl _ _⟩
    case round =>
      obtain ⟨k, hk, rfl, htk, hbw⟩ := hrel
      have HT := Lib.hid htk
      clear htk
      by_cases hlt : k < a.length
      · have hlt2 : k < b.length := by have := HL.out; omega
        obtain ⟨ba, oa, rfl, _, x0, x1, x2⟩ := Files.cell (HA.out.below hbw) k hlt
        obtain ⟨bb, ob, rfl, _, y0, y1, y2⟩ := Files.cell (HB.out.below hbw) k hlt2
        have HW := Lib.hid hbw
        replace x0 := regrown_cell x0
        replace y0 := regrown_cell y0
        replace x1 := regrown_cell x1
        replace y1 := regrown_cell y1
        replace x2 := regrown_cell x2
        replace y2 := regrown_cell y2
        clear hbw
        by_cases hf : a[k] = b[k]
        · have hs : fileSame a[k].name a[k].text a[k].times b[k].name b[k].text b[k].times = true := by rw [fileSame_iff]; simp [hf]
          have HF := Lib.hid hf
          clear hf
          go_wp2
          refine wp_region_q (by kernel_rfl) (by kernel_rfl) ?_
          repeat (quiet_step (fail))
          refine wpQuiet_nil ?_
          intro w2 hb2
          have HW2 := Lib.hid hb2
          clear hb2
          go_wp2
          go_roundw
          case rel => exact ⟨k + 1, by omega, by go_num, take_next _ _ _ HT.out hlt hlt2 HF.out, HW.out.trans (HW2.out.mono HW.out.size)⟩
          case measure => simp [intOf]; omega
        · have hs : fileSame a[k].name a[k].text a[k].times b[k].name b[k].text b[k].times = false := by rw [fileSame_iff]; simp [hf]
          have HF := Lib.hid hf
          clear hf
          go_wp2
          refine wp_region_q (by kernel_rfl) (by kernel_rfl) ?_
          repeat (quiet_step (fail))
          refine wpQuiet_nil ?_
          intro w2 hb2
          have HW2 := Lib.hid hb2
          clear hb2
          go_wp2
          go_ret
          exact ⟨ret_bool (by simp [ne_of_at a b k hlt hlt2 HF.out]), HW.out.trans (HW2.out.mono HW.out.size)⟩
      · have HW := Lib.hid hbw
        clear hbw
        go_wp2
        go_ret
        exact ⟨ret_bool (by simp [eq_of_take a b k HT.out hlt HL.out]), HW.out⟩
  · have HL := Lib.hid hl
    have e1 : ((a.length : Int) != (b.length : Int)) = true := by simpa using (by omega : ¬ (a.length : Int) = b.length)
    clear hl
    go_enter Try.func41, Try.ntmps41
    go_wp2
    go_ret
    exact ⟨ret_bool (by simp [ne_of_length HL.out]), Below.refl _ _⟩

set_option maxHeartbeats 400000 in
theorem slices_Equal_files (va vb : Value) (a b : List File) (w : World) (ha : Files w va a) (hb : Files w vb b) :
    Calls Try.prog 72 #[va, vb] w fun e w' => e = .returned (.bool (decide (a = b))) ∧ Below w.heap.size w w' := by
  obtain ⟨ao, ca, rfl, hca, hca'⟩ := ha.parts
  obtain ⟨bo, cb, rfl, hcb, hcb'⟩ := hb.parts
  have HA := Lib.hid ha
  have HB := Lib.hid hb
  clear ha hb
  by_cases hl : a.length = b.length
  · have HL := Lib.hid hl
    have e1 : ((a.length : Int) != (b.length : Int)) = false := by simp [hl]
    clear hl
    go_enter Try.func72, Try.ntmps72
    go_wp2
    go_loopw [13] (fun i wr => ∃ k : Nat, k ≤ a.length ∧ i = .int .i64 k ∧ a.take k = b.take k ∧ Below w.heap.size w wr) (fun i _ => a.length - (intOf i).toNat)
    case atStart => exact ⟨0, Nat.zero_le _, rfl, rfl, Below.refl _ _⟩
    case round =>
      obtain ⟨k, hk, rfl, htk, hbw⟩ := hrel
      have HT := Lib.hid htk
      clear htk
      by_cases hlt : k < a.length
      · have hlt2 : k < b.length := by have := HL.out; omega
        obtain ⟨ba, oa, rfl, _, x0, x1, x2⟩ := Files.cell (HA.out.below hbw) k hlt
        obtain ⟨bb, ob, rfl, _, y0, y1, y2⟩ := Files.cell (HB.out.below hbw) k hlt2
        have HW := Lib.hid hbw
        replace x0 := regrown_cell x0
        replace y0 := regrown_cell y0
        replace x1 := regrown_cell x1
        replace y1 := regrown_cell y1
        replace x2 := regrown_cell x2
        replace y2 := regrown_cell y2
        clear hbw
        by_cases hf : a[k] = b[k]
        · have hs : fileSame a[k].name a[k].text a[k].times b[k].name b[k].text b[k].times = true := by rw [fileSame_iff]; simp [hf]
          have HF := Lib.hid hf
          clear hf
          go_wp2
          refine wp_region_q (by kernel_rfl) (by kernel_rfl) ?_
          repeat (quiet_step (fail))
          refine wpQuiet_nil ?_
          intro w2 hb2
          have HW2 := Lib.hid hb2
          clear hb2
          go_wp2
          go_roundw
          case rel => exact ⟨k + 1, by omega, by go_num, take_next _ _ _ HT.out hlt hlt2 HF.out, HW.out.trans (HW2.out.mono HW.out.size)⟩
          case measure => simp [intOf]; omega
        · have hs : fileSame a[k].name a[k].text a[k].times b[k].name b[k].text b[k].times = false := by rw [fileSame_iff]; simp [hf]
          have HF := Lib.hid hf
          clear hf
          go_wp2
          refine wp_region_q (by kernel_rfl) (by kernel_rfl) ?_
          repeat (quiet_step (fail))
          refine wpQuiet_nil ?_
          intro w2 hb2
          have HW2 := Lib.hid hb2
          clear hb2
          go_wp2
          go_ret
          exact ⟨ret_bool (by simp [ne_of_at a b k hlt hlt2 HF.out]), HW.out.trans (HW2.out.mono HW.out.size)⟩
      · have HW := Lib.hid hbw
        clear hbw
        go_wp2
        go_ret
        exact ⟨ret_bool (by simp [eq_of_take a b k HT.out hlt HL.out]), HW.out⟩
  · have HL := Lib.hid hl
    have e1 : ((a.length : Int) != (b.length : Int)) = true := by simpa using (by omega : ¬ (a.length : Int) = b.length)
    clear hl
    go_enter Try.func72, Try.ntmps72
    go_wp2
    go_ret
    exact ⟨ret_bool (by simp [ne_of_length HL.out]), Below.refl _ _⟩

set_option maxHeartbeats 400000 in
theorem ref_SameChanges (va vb : Value) (a b : List Change) (w : World) (ha : Changes w va a) (hb : Changes w vb b) :
    Calls Try.prog 67 #[va, vb] w fun e w' => e = .returned (.bool (decide (a = b))) ∧ Below w.heap.size w w' := by
  obtain ⟨ao, ca, rfl, hca, hca'⟩ := ha.parts
  obtain ⟨bo, cb, rfl, hcb, hcb'⟩ := hb.parts
  have HA := Lib.hid ha
  have HB := Lib.hid hb
  clear ha hb
  by_cases hl : a.length = b.length
  · have HL := Lib.hid hl
    have e1 : ((a.length : Int) != (b.length : Int)) = false := by simp [hl]
    clear hl
    go_enter Try.func67, Try.ntmps67
    go_wp2
    go_loopw [5] (fun i wr => ∃ k : Nat, k ≤ a.length ∧ i = .int .i64 k ∧ a.take k = b.take k ∧ Below w.heap.size w wr) (fun i _ => a.length - (intOf i).toNat)
    case atStart => exact ⟨0, Nat.zero_le _, rfl, rfl, Below.refl _ _⟩
    case round =>
      obtain ⟨k, hk, rfl, htk, hbw⟩ := hrel
      have HT := Lib.hid htk
      clear htk
      by_cases hlt : k < a.length
      · have hlt2 : k < b.length := by have := HL.out; omega
        obtain ⟨ba, oa, rfl, _, x0, x1, x2⟩ := Changes.cell (HA.out.below hbw) k hlt
        obtain ⟨bb, ob, rfl, _, y0, y1, y2⟩ := Changes.cell (HB.out.below hbw) k hlt2
        have HW := Lib.hid hbw
        replace x0 := regrown_cell x0
        replace y0 := regrown_cell y0
        replace x1 := regrown_cell x1
        replace y1 := regrown_cell y1
        replace x2 := regrown_cell x2
        replace y2 := regrown_cell y2
        clear hbw
        by_cases hf : a[k] = b[k]
        · have hs : changeSame a[k].key a[k].val a[k].gone b[k].key b[k].val b[k].gone = true := by rw [changeSame_iff]; simp [hf]
          have HF := Lib.hid hf
          clear hf
          go_wp2
          refine wp_region_q (by kernel_rfl) (by kernel_rfl) ?_
          repeat (quiet_step (fail))
          refine wpQuiet_nil ?_
          intro w2 hb2
          have HW2 := Lib.hid hb2
          clear hb2
          go_wp2
          go_roundw
          case rel => exact ⟨k + 1, by omega, by go_num, take_next _ _ _ HT.out hlt hlt2 HF.out, HW.out.trans (HW2.out.mono HW.out.size)⟩
          case measure => simp [intOf]; omega
        · have hs : changeSame a[k].key a[k].val a[k].gone b[k].key b[k].val b[k].gone = false := by rw [changeSame_iff]; simp [hf]
          have HF := Lib.hid hf
          clear hf
          go_wp2
          refine wp_region_q (by kernel_rfl) (by kernel_rfl) ?_
          repeat (quiet_step (fail))
          refine wpQuiet_nil ?_
          intro w2 hb2
          have HW2 := Lib.hid hb2
          clear hb2
          go_wp2
          go_ret
          exact ⟨ret_bool (by simp [ne_of_at a b k hlt hlt2 HF.out]), HW.out.trans (HW2.out.mono HW.out.size)⟩
      · have HW := Lib.hid hbw
        clear hbw
        go_wp2
        go_ret
        exact ⟨ret_bool (by simp [eq_of_take a b k HT.out hlt HL.out]), HW.out⟩
  · have HL := Lib.hid hl
    have e1 : ((a.length : Int) != (b.length : Int)) = true := by simpa using (by omega : ¬ (a.length : Int) = b.length)
    clear hl
    go_enter Try.func67, Try.ntmps67
    go_wp2
    go_ret
    exact ⟨ret_bool (by simp [ne_of_length HL.out]), Below.refl _ _⟩

end Go.Proofs.Ytggpodlecljcbab
