/- The walks that hold two lists against each other: files, changes, texts, numbers. The walks over quilts and copies that hold two against each other. The walks that ask whether files, quilts are not too much. -/
import Derived.Test.YtggpodlecljcbaaGreatDoorWalkA
namespace Go.Proofs.YtggpodlecljcbaaGreatDoor
open Go.RowKit Go.Sort

structure Change where
  key : ByteArray
  val : ByteArray
  gone : Bool
  deriving DecidableEq
def File.cells (f : File) : List Value := [.string f.name, .string f.text, .int .i64 f.times]
def Change.cells (c : Change) : List Value := [.string c.key, .string c.val, .bool c.gone]
def Change.val' (c : Change) : Value := .agg #[.string c.key, .string c.val, .bool c.gone]
def strCells (s : ByteArray) : List Value := [.string s]
def intCells (n : Int) : List Value := [.int .i64 n]
theorem File.cells_len (f : File) : f.cells.length = 3 := rfl
theorem Change.cells_len (f : Change) : f.cells.length = 3 := rfl
theorem strCells_len (s : ByteArray) : (strCells s).length = 1 := rfl
theorem intCells_len (s : Int) : (intCells s).length = 1 := rfl
abbrev Files := Rd 3 File.cells
abbrev Changes := Rd 3 Change.cells
abbrev Texts := Rd 1 strCells
abbrev Nums := Rd 1 intCells
section
variable {w : World} {ao : Option Addr} {n cap : Nat}
theorem Files.cell {l : List File} (h : Files w (.slice ao n cap) l) (i : Nat) (hi : i < l.length) :
    ∃ b off, ao = some ⟨b, off, none⟩ ∧ b < w.heap.size ∧ w.cell? ⟨b, off + i * 3, none⟩ = some (.string l[i].name) ∧ w.cell? ⟨b, off + i * 3 + 1, none⟩ = some (.string l[i].text) ∧ w.cell? ⟨b, off + i * 3 + 2, none⟩ = some (.int .i64 l[i].times) := by
  obtain ⟨b, off, e, hb, hc⟩ := Rd.at File.cells_len (by decide) h i hi
  exact ⟨b, off, e, hb, hc 0 _ rfl, hc 1 _ rfl, hc 2 _ rfl⟩
theorem Changes.cell {l : List Change} (h : Changes w (.slice ao n cap) l) (i : Nat) (hi : i < l.length) :
    ∃ b off, ao = some ⟨b, off, none⟩ ∧ b < w.heap.size ∧ w.cell? ⟨b, off + i * 3, none⟩ = some (.string l[i].key) ∧ w.cell? ⟨b, off + i * 3 + 1, none⟩ = some (.string l[i].val) ∧ w.cell? ⟨b, off + i * 3 + 2, none⟩ = some (.bool l[i].gone) := by
  obtain ⟨b, off, e, hb, hc⟩ := Rd.at Change.cells_len (by decide) h i hi
  exact ⟨b, off, e, hb, hc 0 _ rfl, hc 1 _ rfl, hc 2 _ rfl⟩
theorem Texts.cell {l : List ByteArray} (h : Texts w (.slice ao n cap) l) (i : Nat) (hi : i < l.length) :
    ∃ b off, ao = some ⟨b, off, none⟩ ∧ b < w.heap.size ∧ w.cell? ⟨b, off + i, none⟩ = some (.string l[i]) := by
  obtain ⟨b, off, e, hb, hc⟩ := Rd.at strCells_len (by decide) h i hi
  exact ⟨b, off, e, hb, by have := hc 0 _ rfl; simpa using this⟩
theorem Nums.cell {l : List Int} (h : Nums w (.slice ao n cap) l) (i : Nat) (hi : i < l.length) :
    ∃ b off, ao = some ⟨b, off, none⟩ ∧ b < w.heap.size ∧ w.cell? ⟨b, off + i, none⟩ = some (.int .i64 l[i]) := by
  obtain ⟨b, off, e, hb, hc⟩ := Rd.at intCells_len (by decide) h i hi
  exact ⟨b, off, e, hb, by have := hc 0 _ rfl; simpa using this⟩
end
def fileSame (n1 t1 : ByteArray) (k1 : Int) (n2 t2 : ByteArray) (k2 : Int) : Bool := decide ((⟨n1, t1, k1⟩ : File) = ⟨n2, t2, k2⟩)
theorem fileSame_iff (f g : File) : fileSame f.name f.text f.times g.name g.text g.times = decide (f = g) := rfl
def changeSame (n1 t1 : ByteArray) (k1 : Bool) (n2 t2 : ByteArray) (k2 : Bool) : Bool := decide ((⟨n1, t1, k1⟩ : Change) = ⟨n2, t2, k2⟩)
theorem changeSame_iff (f g : Change) : changeSame f.key f.val f.gone g.key g.val g.gone = decide (f = g) := rfl
@[go_sem] theorem eqGuard_file : Tryz.prog.eqGuardType Tryz.prog.depth 48 = false := by kernel_rfl
@[go_sem high] theorem neq_file (n1 t1 n2 t2 : ByteArray) (k1 k2 : Int) (w : World) : (binOp .neq 48 (.agg #[.string n1, .string t1, .int .i64 k1]) (.agg #[.string n2, .string t2, .int .i64 k2])).run Tryz.prog w = .ok (.bool (!fileSame n1 t1 k1 n2 t2 k2)) w := by
  have hf : Tryz.prog.underlying 48 = some (.struct (Tryz.prog.fieldsOf 48)) := by kernel_rfl
  have hp : Tryz.prog.stoodInHeld 48 = false := by kernel_rfl
  have h0 := run_equalIn_struct (P := Tryz.prog) w 9999 48 #[.string n1, .string t1, .int .i64 k1] #[.string n2, .string t2, .int .i64 k2] hf hp
  simp only [binOp]
  simp only [fileSame, File.mk.injEq]
  simp [Op.equal, Op.maxDepth, h0, Program.fieldsOf, Tryz.underlying48, go_sem]
  by_cases h1 : n1 = n2 <;> by_cases h2 : t1 = t2 <;> by_cases h3 : k1 = k2 <;>
    simp [h1, h2, h3, bytes_eq_iff]
@[go_sem high] theorem eql_file (n1 t1 n2 t2 : ByteArray) (k1 k2 : Int) (w : World) : (binOp .eql 48 (.agg #[.string n1, .string t1, .int .i64 k1]) (.agg #[.string n2, .string t2, .int .i64 k2])).run Tryz.prog w = .ok (.bool (fileSame n1 t1 k1 n2 t2 k2)) w := by
  have hf : Tryz.prog.underlying 48 = some (.struct (Tryz.prog.fieldsOf 48)) := by kernel_rfl
  have hp : Tryz.prog.stoodInHeld 48 = false := by kernel_rfl
  have h0 := run_equalIn_struct (P := Tryz.prog) w 9999 48 #[.string n1, .string t1, .int .i64 k1] #[.string n2, .string t2, .int .i64 k2] hf hp
  simp only [binOp]
  simp only [fileSame, File.mk.injEq]
  simp [Op.equal, Op.maxDepth, h0, Program.fieldsOf, Tryz.underlying48, go_sem]
  by_cases h1 : n1 = n2 <;> by_cases h2 : t1 = t2 <;> by_cases h3 : k1 = k2 <;>
    simp [h1, h2, h3, bytes_eq_iff]
@[go_sem] theorem eqGuard_change : Tryz.prog.eqGuardType Tryz.prog.depth 41 = false := by kernel_rfl
@[go_sem high] theorem neq_change (n1 t1 n2 t2 : ByteArray) (k1 k2 : Bool) (w : World) : (binOp .neq 41 (.agg #[.string n1, .string t1, .bool k1]) (.agg #[.string n2, .string t2, .bool k2])).run Tryz.prog w = .ok (.bool (!changeSame n1 t1 k1 n2 t2 k2)) w := by
  have hf : Tryz.prog.underlying 41 = some (.struct (Tryz.prog.fieldsOf 41)) := by kernel_rfl
  have hp : Tryz.prog.stoodInHeld 41 = false := by kernel_rfl
  have h0 := run_equalIn_struct (P := Tryz.prog) w 9999 41 #[.string n1, .string t1, .bool k1] #[.string n2, .string t2, .bool k2] hf hp
  simp only [binOp]
  simp only [changeSame, Change.mk.injEq]
  simp [Op.equal, Op.maxDepth, h0, Program.fieldsOf, Tryz.underlying41, go_sem]
  by_cases h1 : n1 = n2 <;> by_cases h2 : t1 = t2 <;> by_cases h3 : k1 = k2 <;>
    simp [h1, h2, h3, bytes_eq_iff]
@[go_sem high] theorem eql_change (n1 t1 n2 t2 : ByteArray) (k1 k2 : Bool) (w : World) : (binOp .eql 41 (.agg #[.string n1, .string t1, .bool k1]) (.agg #[.string n2, .string t2, .bool k2])).run Tryz.prog w = .ok (.bool (changeSame n1 t1 k1 n2 t2 k2)) w := by
  have hf : Tryz.prog.underlying 41 = some (.struct (Tryz.prog.fieldsOf 41)) := by kernel_rfl
  have hp : Tryz.prog.stoodInHeld 41 = false := by kernel_rfl
  have h0 := run_equalIn_struct (P := Tryz.prog) w 9999 41 #[.string n1, .string t1, .bool k1] #[.string n2, .string t2, .bool k2] hf hp
  simp only [binOp]
  simp only [changeSame, Change.mk.injEq]
  simp [Op.equal, Op.maxDepth, h0, Program.fieldsOf, Tryz.underlying41, go_sem]
  by_cases h1 : n1 = n2 <;> by_cases h2 : t1 = t2 <;> by_cases h3 : k1 = k2 <;>
    simp [h1, h2, h3, bytes_eq_iff]

set_option maxHeartbeats 400000 in
theorem ref_SameFiles (va vb : Value) (a b : List File) (w : World) (ha : Files w va a) (hb : Files w vb b) :
    Calls Tryz.prog 25 #[va, vb] w fun e w' => e = .returned (.bool (decide (a = b))) ∧ Below w.heap.size w w' := by
  obtain ⟨ao, ca, rfl, hca, hca'⟩ := ha.parts
  obtain ⟨bo, cb, rfl, hcb, hcb'⟩ := hb.parts
  have HA := Lib.hid ha
  have HB := Lib.hid hb
  clear ha hb
  by_cases hl : a.length = b.length
  · have HL := Lib.hid hl
    have e1 : ((a.length : Int) != (b.length : Int)) = false := by simp [hl]
    clear hl
    go_enter Tryz.func25, Tryz.ntmps25
    go_wp2
    go_loopw [5] (fun i wr => ∃ k : Nat, k ≤ a.length ∧ i = .int .i64 k ∧ a.take k = b.take k ∧ Below w.heap.size w wr) (fun i _ => a.length - (intOf i).toNat)
    case atStart => exact ⟨0, Nat.zero_le _, rfl, rfl, Below.refl _ _⟩
    case round =>
      obtain ⟨k, hk, rfl, htk, hbw⟩ := hrel
      have HT := Lib.hid htk
      clear htk
      by_cases hlt : k < a.length
      · have hlt2 : k < b.length := by have := HL.out; omega
        obtain ⟨ba, oa, rfl, _, x0, x1, x2⟩ := Files.cell (HA.out.below hbw) k hlt
        obtain ⟨bb, ob, rfl, _, y0, y1, y2⟩ := Files.cell (HB.out.below hbw) k hlt2
        have HW := Lib.hid hbw
        replace x0 := regrown_cell x0
        replace y0 := regrown_cell y0
        replace x1 := regrown_cell x1
        replace y1 := regrown_cell y1
        replace x2 := regrown_cell x2
        replace y2 := regrown_cell y2
        clear hbw
        by_cases hf : a[k] = b[k]
        · have hs : fileSame a[k].name a[k].text a[k].times b[k].name b[k].text b[k].times = true := by rw [fileSame_iff]; simp [hf]
          have HF := Lib.hid hf
          clear hf
          go_wp2
          refine wp_region_q (by kernel_rfl) (by kernel_rfl) ?_
          repeat (quiet_step (fail))
          refine wpQuiet_nil ?_
          intro w2 hb2
          have HW2 := Lib.hid hb2
          clear hb2
          go_wp2
          go_roundw
          case rel => exact ⟨k + 1, by omega, by go_num, take_next _ _ _ HT.out hlt hlt2 HF.out, HW.out.trans (HW2.out.mono HW.out.size)⟩
          case measure => simp [intOf]; omega
        · have hs : fileSame a[k].name a[k].text a[k].times b[k].name b[k].text b[k].times = false := by rw [fileSame_iff]; simp [hf]
          have HF := Lib.hid hf
          clear hf
          go_wp2
          refine wp_region_q (by kernel_rfl) (by kernel_rfl) ?_
          repeat (quiet_step (fail))
          refine wpQuiet_nil ?_
          intro w2 hb2
          have HW2 := Lib.hid hb2
          clear hb2
          go_wp2
          go_ret
          exact ⟨ret_bool (by simp [ne_of_at a b k hlt hlt2 HF.out]), HW.out.trans (HW2.out.mono HW.out.size)⟩
      · have HW := Lib.hid hbw
        clear hbw
        go_wp2
        go_ret
        exact ⟨ret_bool (by simp [eq_of_take a b k HT.out hlt HL.out]), HW.out⟩
  · have HL := Lib.hid hl
    have e1 : ((a.length : Int) != (b.length : Int)) = true := by simpa using (by omega : ¬ (a.length : Int) = b.length)
    clear hl
    go_enter Tryz.func25, Tryz.ntmps25
    go_wp2
    go_ret
    exact ⟨ret_bool (by simp [ne_of_length HL.out]), Below.refl _ _⟩

set_option maxHeartbeats 400000 in
theorem ref_SameChanges (va vb : Value) (a b : List Change) (w : World) (ha : Changes w va a) (hb : Changes w vb b) :
    Calls Tryz.prog 8 #[va, vb] w fun e w' => e = .returned (.bool (decide (a = b))) ∧ Below w.heap.size w w' := by
  obtain ⟨ao, ca, rfl, hca, hca'⟩ := ha.parts
  obtain ⟨bo, cb, rfl, hcb, hcb'⟩ := hb.parts
  have HA := Lib.hid ha
  have HB := Lib.hid hb
  clear ha hb
  by_cases hl : a.length = b.length
  · have HL := Lib.hid hl
    have e1 : ((a.length : Int) != (b.length : Int)) = false := by simp [hl]
    clear hl
    go_enter Tryz.func8, Tryz.ntmps8
    go_wp2
    go_loopw [5] (fun i wr => ∃ k : Nat, k ≤ a.length ∧ i = .int .i64 k ∧ a.take k = b.take k ∧ Below w.heap.size w wr) (fun i _ => a.length - (intOf i).toNat)
    case atStart => exact ⟨0, Nat.zero_le _, rfl, rfl, Below.refl _ _⟩
    case round =>
      obtain ⟨k, hk, rfl, htk, hbw⟩ := hrel
      have HT := Lib.hid htk
      clear htk
      by_cases hlt : k < a.length
      · have hlt2 : k < b.length := by have := HL.out; omega
        obtain ⟨ba, oa, rfl, _, x0, x1, x2⟩ := Changes.cell (HA.out.below hbw) k hlt
        obtain ⟨bb, ob, rfl, _, y0, y1, y2⟩ := Changes.cell (HB.out.below hbw) k hlt2
        have HW := Lib.hid hbw
        replace x0 := regrown_cell x0
        replace y0 := regrown_cell y0
        replace x1 := regrown_cell x1
        replace y1 := regrown_cell y1
        replace x2 := regrown_cell x2
        replace y2 := regrown_cell y2
        clear hbw
        by_cases hf : a[k] = b[k]
        · have hs : changeSame a[k].key a[k].val a[k].gone b[k].key b[k].val b[k].gone = true := by rw [changeSame_iff]; simp [hf]
          have HF := Lib.hid hf
          clear hf
          go_wp2
          refine wp_region_q (by kernel_rfl) (by kernel_rfl) ?_
          repeat (quiet_step (fail))
          refine wpQuiet_nil ?_
          intro w2 hb2
          have HW2 := Lib.hid hb2
          clear hb2
          go_wp2
          go_roundw
          case rel => exact ⟨k + 1, by omega, by go_num, take_next _ _ _ HT.out hlt hlt2 HF.out, HW.out.trans (HW2.out.mono HW.out.size)⟩
          case measure => simp [intOf]; omega
        · have hs : changeSame a[k].key a[k].val a[k].gone b[k].key b[k].val b[k].gone = false := by rw [changeSame_iff]; simp [hf]
          have HF := Lib.hid hf
          clear hf
          go_wp2
          refine wp_region_q (by kernel_rfl) (by kernel_rfl) ?_
          repeat (quiet_step (fail))
          refine wpQuiet_nil ?_
          intro w2 hb2
          have HW2 := Lib.hid hb2
          clear hb2
          go_wp2
          go_ret
          exact ⟨ret_bool (by simp [ne_of_at a b k hlt hlt2 HF.out]), HW.out.trans (HW2.out.mono HW.out.size)⟩
      · have HW := Lib.hid hbw
        clear hbw
        go_wp2
        go_ret
        exact ⟨ret_bool (by simp [eq_of_take a b k HT.out hlt HL.out]), HW.out⟩
  · have HL := Lib.hid hl
    have e1 : ((a.length : Int) != (b.length : Int)) = true := by simpa using (by omega : ¬ (a.length : Int) = b.length)
    clear hl
    go_enter Tryz.func8, Tryz.ntmps8
    go_wp2
    go_ret
    exact ⟨ret_bool (by simp [ne_of_length HL.out]), Below.refl _ _⟩

end Go.Proofs.YtggpodlecljcbaaGreatDoor
namespace Go.Proofs.YtggpodlecljcbaaGreatDoor
open Go.RowKit Go.Sort

structure Quilt where
  files : List File
  turn : Int
  deriving DecidableEq
def Quilts (w : World) (qv : Value) (q : Quilt) : Prop := ∃ v, qv = .agg #[v, .int .i64 q.turn] ∧ Files w v q.files
theorem Quilts.below {w w' : World} {v : Value} {q : Quilt} (h : Quilts w v q) (hb : Below w.heap.size w w') : Quilts w' v q := by
  obtain ⟨u, e, h⟩ := h
  exact ⟨u, e, h.below hb⟩
/-- A copy: is there one, and which. -/
structure Copy where
  is : Bool
  quilt : Quilt
def Copies (w : World) (cv : Value) (c : Copy) : Prop := ∃ v, cv = .agg #[.bool c.is, v, .int .i64 c.quilt.turn] ∧ Files w v c.quilt.files
def sameCopy (a b : Copy) : Bool := a.is == b.is && (!a.is || decide (a.quilt = b.quilt))

theorem quilt_eq (a b : Quilt) : a = b ↔ a.turn = b.turn ∧ a.files = b.files := by
  obtain ⟨x, y⟩ := a; obtain ⟨z, t⟩ := b; simp; exact and_comm

set_option maxHeartbeats 400000 in
theorem ref_SameQuilt (va vb : Value) (a b : Quilt) (w : World) (ha : Quilts w va a) (hb : Quilts w vb b) :
    Calls Tryz.prog 14 #[va, vb] w fun e w' => e = .returned (.bool (decide (a = b))) ∧ Below w.heap.size w w' := by
  obtain ⟨va, rfl, ha⟩ := ha
  obtain ⟨vb, rfl, hb⟩ := hb
  obtain ⟨ao, ca, rfl, hca, hca'⟩ := ha.parts
  obtain ⟨bo, cb, rfl, hcb, hcb'⟩ := hb.parts
  have HA := Lib.hid ha
  have HB := Lib.hid hb
  clear ha hb
  have B2 := Lib.hid (two (below_alloc w (.cells #[.slice ao a.files.length ca, .int .i64 a.turn] 24)) (below_alloc _ (.cells #[.slice bo b.files.length cb, .int .i64 b.turn] 24)))
  have C := ref_SameFiles _ _ _ _ _ (HA.out.below B2.out) (HB.out.below B2.out)
  by_cases hf : a.files = b.files
  · have H : Hid (decide (a.files = b.files) = true) := by simp [Hid, hf]
    rw [H.out] at C
    have HC := Lib.hid C
    have HF := Lib.hid hf
    clear hf C
    go_enter Tryz.func14, Tryz.ntmps14
    go_wp2_with fail
    refine HC.out.mono ?_
    rintro e w1 ⟨rfl, hb1⟩
    obtain ⟨hc, _⟩ := bcell hb1
    have HB1 := Lib.hid hb1
    clear hb1
    go_wp2_with fail
    go_ret
    exact ⟨ret_bool (by rw [Bool.eq_iff_iff]; simp [quilt_eq, HF.out]), two B2.out HB1.out⟩
  · have H : Hid (decide (a.files = b.files) = false) := by simp [Hid, hf]
    rw [H.out] at C
    have HC := Lib.hid C
    have HF := Lib.hid hf
    clear hf C
    go_enter Tryz.func14, Tryz.ntmps14
    go_wp2_with fail
    refine HC.out.mono ?_
    rintro e w1 ⟨rfl, hb1⟩
    obtain ⟨hc, _⟩ := bcell hb1
    have HB1 := Lib.hid hb1
    clear hb1
    go_wp2_with fail
    go_ret
    exact ⟨ret_bool (by simp [quilt_eq, HF.out]), two B2.out HB1.out⟩

theorem sc_is {a b : Copy} (h : a.is ≠ b.is) : sameCopy a b = false := by simp [sameCopy, h]
theorem sc_none {a b : Copy} (h : a.is = b.is) (ha : a.is = false) : sameCopy a b = true := by simp [sameCopy, ha, ← h]
theorem sc_both {a b : Copy} (ha : a.is = true) (hb : b.is = true) : sameCopy a b = decide (a.quilt = b.quilt) := by simp [sameCopy, ha, hb]

end Go.Proofs.YtggpodlecljcbaaGreatDoor
namespace Go.Proofs.YtggpodlecljcbaaGreatDoor
open Go.RowKit Go.Sort

def File.light (f : File) : Bool := decide (f.name.size ≤ 20) && decide (f.text.size ≤ 30)
def lightFiles (l : List File) : Bool := decide (l.length ≤ 12) && l.all File.light
theorem all_take {α : Type} (l : List α) (k : Nat) (h : k < l.length) (p : α → Bool) (h1 : (l.take k).all p = true) (h2 : p l[k] = true) : (l.take (k + 1)).all p = true := by
  rw [List.take_succ_eq_append_getElem h, List.all_append, h1]
  simp [h2]
theorem all_not {α : Type} (l : List α) (k : Nat) (h : k < l.length) (p : α → Bool) (h2 : p l[k] = false) : l.all p = false := by
  rw [List.all_eq_false]; exact ⟨_, List.getElem_mem h, by simp [h2]⟩
theorem all_end {α : Type} (l : List α) (k : Nat) (h : ¬ k < l.length) (p : α → Bool) (h1 : (l.take k).all p = true) : l.all p = true := by
  rwa [List.take_of_length_le (by omega)] at h1

set_option maxHeartbeats 400000 in
theorem law_LightFiles (va : Value) (a : List File) (w : World) (ha : Files w va a) (hok : ∀ f ∈ a, f.ok) :
    Calls Tryz.prog 18 #[va] w fun e w' => e = .returned (.bool (lightFiles a)) ∧ w = w' := by
  obtain ⟨ao, ca, rfl, hca, hca'⟩ := ha.parts
  have HA := Lib.hid ha
  have HOK := Lib.hid hok
  clear ha hok
  by_cases hl : a.length ≤ 12
  · have HL := Lib.hid hl
    go_enter Tryz.func18, Tryz.ntmps18
    go_wp2_with fail
    go_loop [3] (fun i => ∃ k : Nat, k ≤ a.length ∧ i = .int .i64 k ∧ (a.take k).all File.light = true) (fun i => a.length - (intOf i).toNat)
    case atStart => exact ⟨0, Nat.zero_le _, rfl, rfl⟩
    case round =>
      obtain ⟨k, hk, rfl, htk⟩ := hrel
      have HT := Lib.hid htk
      clear htk
      by_cases hlt : k < a.length
      · obtain ⟨ba, oa, rfl, _, x0, x1, x2⟩ := HA.out.cell k hlt
        have ok := HOK.out a[k] (List.getElem_mem hlt)
        have o1 : a[k].name.size ≤ 9223372036854775807 := by have := ok.1; unfold maxLen at this; exact this
        have o2 : a[k].text.size ≤ 9223372036854775807 := by have := ok.2; unfold maxLen at this; exact this
        clear ok
        by_cases h1 : a[k].name.size ≤ 20
        · by_cases h2 : a[k].text.size ≤ 30
          · have HF : Hid (a[k].light = true) := by simp [Hid, File.light, h1, h2]
            go_wp2_with fail
            go_round
            case rel => exact ⟨k + 1, by omega, by go_num, all_take _ _ hlt _ HT.out HF.out⟩
            case measure => simp [intOf]; omega
          · have HF : Hid (a[k].light = false) := by simp [Hid, File.light, h2]
            go_wp2_with fail
            go_ret
            exact ⟨ret_bool (by simp [lightFiles, all_not a k hlt _ HF.out]), rfl⟩
        · have HF : Hid (a[k].light = false) := by simp [Hid, File.light, h1]
          go_wp2_with fail
          go_ret
          exact ⟨ret_bool (by simp [lightFiles, all_not a k hlt _ HF.out]), rfl⟩
      · go_wp2_with fail
        go_ret
        exact ⟨ret_bool (by simp [lightFiles, all_end a k hlt _ HT.out, HL.out]), rfl⟩
  · have HL := Lib.hid hl
    go_enter Tryz.func18, Tryz.ntmps18
    go_wp2_with fail
    go_ret
    exact ⟨ret_bool (by simp [lightFiles]; intro h; exact (HL.out h).elim), rfl⟩

set_option maxHeartbeats 400000 in
theorem law_LightQuilt (vq : Value) (q : Quilt) (w : World) (hq : Quilts w vq q) (hok : ∀ f ∈ q.files, f.ok) :
    Calls Tryz.prog 5 #[vq] w fun e w' => e = .returned (.bool (lightFiles q.files)) ∧ Below w.heap.size w w' := by
  obtain ⟨v, rfl, hq⟩ := hq
  obtain ⟨ao, ca, rfl, hca, hca'⟩ := hq.parts
  have B1 := Lib.hid (below_alloc w (.cells #[.slice ao q.files.length ca, .int .i64 q.turn] 24))
  have C := law_LightFiles _ _ _ (hq.below B1.out) hok
  have HC := Lib.hid C
  clear C hq
  by_cases hl : q.files.length ≤ 12
  · go_enter Tryz.func5, Tryz.ntmps5
    go_wp2_with fail
    refine HC.out.mono ?_
    rintro e w1 ⟨rfl, rfl⟩
    go_wp2_with fail
    go_ret
    exact ⟨rfl, B1.out⟩
  · have H : Hid (lightFiles q.files = false) := by simp only [Hid, lightFiles, decide_eq_false hl, Bool.false_and]
    go_enter Tryz.func5, Tryz.ntmps5
    go_wp2_with fail
    go_ret
    exact ⟨ret_bool (by rw [H.out]), B1.out⟩
end Go.Proofs.YtggpodlecljcbaaGreatDoor
