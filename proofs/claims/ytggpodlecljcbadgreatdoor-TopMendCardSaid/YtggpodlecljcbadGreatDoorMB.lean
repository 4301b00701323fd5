/- Plain definitions: what chapter 1 of the document computes (names, files); no program. Plain: a string holds a rune that is neither a small letter nor a digit just if it holds such a byte. The walks of chapter 1: file.Name, file.Check, and the document's answers, law.same. The walks of chapter 1, continued: file.Check, the document's FileFault, law.same. The walks that hold two lists against each other: files, changes, texts, numbers. The walks over quilts and copies that hold two against each other. The walks that ask whether files, quilts are not too much. -/
import Derived.WalkKit
import Derived.Shelf.GgClosure.StringsRunes
import Derived.Test.YtggpodlecljcbadGreatDoorProg
import Derived.Test.YtggpodlecljcbadGreatDoorShelf
import Derived.Test.YtggpodlecljcbadGreatDoorMBase
namespace Go.Proofs.YtggpodlecljcbadGreatDoor

/-- A small letter or a digit. -/
def okByte (c : UInt8) : Bool := (97 ≤ c.toNat && c.toNat ≤ 122) || (48 ≤ c.toNat && c.toNat ≤ 57)
def badName (s : List UInt8) : Bool := s.any (fun c => !okByte c) || s.isEmpty
/-- A1. -/
def nameFault (s : List UInt8) : Nat := if badName s then 3 else if 6 < s.length then 2 else 0
structure File where
  name : ByteArray
  text : ByteArray
  times : Int
  deriving DecidableEq
/-- A2. -/
def fileFault (f : File) : Nat := if nameFault f.name.data.toList ≠ 0 then nameFault f.name.data.toList else if 12 < f.text.size then 2 else if f.times < 1 ∨ 9999 < f.times then 1 else 0
theorem nameFault_empty (s : List UInt8) (h : s.isEmpty = true) : nameFault s = 3 := by simp [nameFault, badName, h]
theorem nameFault_long (s : List UInt8) (h : s.any (fun c => !okByte c) = false) (he : s.isEmpty = false) (h6 : 6 < s.length) : nameFault s = 2 := by
  simp only [nameFault, badName, h, he, Bool.or_self, Bool.false_eq_true, if_false, if_pos h6]
theorem nameFault_good (s : List UInt8) (h : s.any (fun c => !okByte c) = false) (he : s.isEmpty = false) (h6 : s.length ≤ 6) : nameFault s = 0 := by
  simp only [nameFault, badName, h, he, Bool.or_self, Bool.false_eq_true, if_false, if_neg (show ¬ 6 < s.length by omega)]
end Go.Proofs.YtggpodlecljcbadGreatDoor
namespace Go.Proofs.YtggpodlecljcbadGreatDoor
def okRune (x : Nat) : Bool := (97 ≤ x && x ≤ 122) || (48 ≤ x && x ≤ 57)
theorem decode_lo (s : ByteArray) (i : Nat) (h : (s.get! i).toNat < 128) : Utf8.decode s i = ((s.get! i).toNat, 1) := by
  simp [Utf8.decode, h]
theorem decode_hi (s : ByteArray) (i : Nat) (h : ¬ (s.get! i).toNat < 128) : 128 ≤ (Utf8.decode s i).1 := by
  unfold Utf8.decode
  simp only [Nat.add_zero, h, if_false, Utf8.runeError]
  repeat' split
  all_goals simp_all
  all_goals omega
theorem okRune_hi {x : Nat} (h : 128 ≤ x) : okRune x = false := by
  simp [okRune]; omega
theorem okByte_hi {x : UInt8} (h : ¬ x.toNat < 128) : okByte x = false := by
  simp [okByte]; omega
theorem idx_any (s : ByteArray) : ∀ (f pos : Nat), s.size ≤ pos + f →
    decide (0 ≤ Lib.idxFuncFrom (fun x => !okRune x) true s f pos) = (s.data.toList.drop pos).any (fun c => !okByte c)
  | 0, pos, h => by
    rw [List.drop_of_length_le (by simp; omega)]
    simp [Lib.idxFuncFrom]
  | f + 1, pos, h => by
    unfold Lib.idxFuncFrom
    by_cases hp : pos < s.size
    · have hb : s.get! pos = s[pos] := by
        show s.data[pos]! = s.data[pos]
        rw [getElem!_pos]
      rw [if_pos hp, List.drop_eq_getElem_cons (by simpa using hp), List.any_cons]
      have hg : s.data.toList[pos]'(by simpa using hp) = s[pos] := rfl
      rw [hg]
      by_cases h1 : (s.get! pos).toNat < 128
      · rw [decode_lo s pos h1, hb]
        have hok : okRune s[pos].toNat = okByte s[pos] := rfl
        simp only [hok]
        cases hk : okByte s[pos]
        · simp
        · simp only [Bool.not_true, Bool.false_eq_true, if_false, Bool.false_or]
          exact idx_any s f (pos + 1) (by omega)
      · have h2 := okRune_hi (decode_hi s pos h1)
        have h3 := okByte_hi (x := s[pos]) (by rw [← hb]; exact h1)
        simp [h2, h3]
    · rw [if_neg hp, List.drop_of_length_le (by simp; omega)]
      simp
theorem contains_any (s : ByteArray) : decide (0 ≤ Lib.idxFunc (fun x => !okRune x) true s) = s.data.toList.any (fun c => !okByte c) := by
  have := idx_any s s.size 0 (by omega)
  rw [List.drop_zero] at this
  exact this
end Go.Proofs.YtggpodlecljcbadGreatDoor
namespace Go.Proofs.YtggpodlecljcbadGreatDoor
open Go.RowKit



set_option maxHeartbeats 400000 in
theorem name_fn (x : Nat) (hx : x ≤ 1114111) (w : World) :
    Calls Tryz.prog 65 #[encR x] w fun e w' => e = .returned (.bool (!okRune x)) ∧ w = w' := by
  go_enter Tryz.func65, Tryz.ntmps65
  go_wp2
  all_goals
    go_ret
    refine ⟨ret_bool ?_, rfl⟩
    rw [Bool.eq_iff_iff]
    simp [okRune]
    omega
theorem name_pred (w : World) : PredAtRunes Tryz.prog 65 #[] (fun x => !okRune x) w := by
  intro W x hx _
  unfold FnGives
  exact (name_fn x hx W).mono fun e w' ⟨h1, h2⟩ => ⟨h1, 0, h2.symm⟩

theorem contains_fn (s : ByteArray) (w : World) :
    Calls Tryz.prog 64 #[.string s, .func (.func 65) #[] #[]] w fun e w' => e = .returned (.bool (s.data.toList.any fun c => !okByte c)) ∧ Below w.heap.size w w' := by
  refine (Tryz.strings_ContainsFunc_runes 65 #[] (fun _ _ => by kernel_rfl) (fun x => !okRune x) s w (name_pred w)).mono fun e w' ⟨h1, h2⟩ => ⟨?_, h2⟩
  rw [h1, contains_any]

set_option maxHeartbeats 400000 in
theorem file_Name (s : ByteArray) (w : World) (hs : s.size ≤ maxLen) :
    Calls Tryz.prog 43 #[.string s] w fun e w' => e = .returned (errV (nameFault s.data.toList)) ∧ Below w.heap.size w w' := by
  unfold maxLen at hs
  have hc := contains_fn s w
  by_cases hb : (s.data.toList.any fun c => !okByte c) = true
  · have H1 : Hid (nameFault s.data.toList = 3) := by simp [Hid, nameFault, badName, hb]
    rw [hb] at hc
    have HC := Lib.hid hc
    clear hc hb
    go_enter Tryz.func43, Tryz.ntmps43
    go_wp2_with (go_at_call 64; refine HC.out.mono ?_; rintro e w1 ⟨rfl, hb1⟩)
    go_ret
    exact ⟨by rw [H1.out]; rfl, hb1⟩
  · have hb' : (s.data.toList.any fun c => !okByte c) = false := by simpa using hb
    rw [hb'] at hc
    have HC := Lib.hid hc
    have H := Lib.hid hb'
    clear hc hb hb'
    by_cases he : s.toList.isEmpty = true
    · have H2 := Lib.hid (nameFault_empty s.data.toList (by rw [← ByteArray.toList_eq s]; exact he))
      go_enter Tryz.func43, Tryz.ntmps43
      go_wp2_with (go_at_call 64; refine HC.out.mono ?_; rintro e w1 ⟨rfl, hb1⟩)
      go_ret
      exact ⟨by rw [H2.out]; rfl, hb1⟩
    · have he' : s.toList.isEmpty = false := by simpa using he
      have h2 : s.data.toList.isEmpty = false := by rw [← ByteArray.toList_eq s]; exact he'
      clear he
      by_cases h6 : 6 < s.size
      · have H2 := Lib.hid (nameFault_long _ H.out h2 (by simp; omega))
        clear h2
        go_enter Tryz.func43, Tryz.ntmps43
        go_wp2_with (go_at_call 64; refine HC.out.mono ?_; rintro e w1 ⟨rfl, hb1⟩)
        go_ret
        exact ⟨by rw [H2.out]; rfl, hb1⟩
      · have H2 := Lib.hid (nameFault_good _ H.out h2 (by simp; omega))
        clear h2
        go_enter Tryz.func43, Tryz.ntmps43
        go_wp2_with (go_at_call 64; refine HC.out.mono ?_; rintro e w1 ⟨rfl, hb1⟩)
        go_ret
        exact ⟨by rw [H2.out]; rfl, hb1⟩
end Go.Proofs.YtggpodlecljcbadGreatDoor
namespace Go.Proofs.YtggpodlecljcbadGreatDoor
open Go.RowKit

def File.val (f : File) : Value := .agg #[.string f.name, .string f.text, .int .i64 f.times]
def File.ok (f : File) : Prop := f.name.size ≤ maxLen ∧ f.text.size ≤ maxLen

@[go_sem] theorem ta_errno (m : Int) (w : World) : (Instr.typeAssert (.iface 100 (.int .i64 m)) 39 100 true).run Tryz.prog w = .ok (.tuple #[.int .i64 m, .bool true]) w := by kernel_rfl

theorem ff_bad (f : File) (h : nameFault f.name.data.toList ≠ 0) : fileFault f = nameFault f.name.data.toList := if_pos h
theorem ff_long (f : File) (h : nameFault f.name.data.toList = 0) (h2 : 12 < f.text.size) : fileFault f = 2 := by
  unfold fileFault; rw [if_neg (by simp [h]), if_pos h2]
theorem ff_bound (f : File) (h : nameFault f.name.data.toList = 0) (h2 : ¬ 12 < f.text.size) (h3 : f.times < 1 ∨ 9999 < f.times) : fileFault f = 1 := by
  unfold fileFault; rw [if_neg (by simp [h]), if_neg h2, if_pos h3]
theorem ff_good (f : File) (h : nameFault f.name.data.toList = 0) (h2 : ¬ 12 < f.text.size) (h3 : ¬ (f.times < 1 ∨ 9999 < f.times)) : fileFault f = 0 := by
  unfold fileFault; rw [if_neg (by simp [h]), if_neg h2, if_neg h3]

set_option maxHeartbeats 400000 in
theorem file_Check (f : File) (w : World) (hf : f.ok) :
    Calls Tryz.prog 61 #[f.val] w fun e w' => e = .returned (errV (fileFault f)) ∧ Below w.heap.size w w' := by
  obtain ⟨h1, h2⟩ := hf
  have hN := fun w => file_Name f.name w h1
  unfold maxLen at h2
  clear h1
  by_cases hn : nameFault f.name.data.toList = 0
  · rw [hn, errV_zero] at hN
    have HN := Lib.hid hN
    clear hN
    by_cases ht : 12 < f.text.size
    · have H := Lib.hid (ff_long f hn ht)
      clear hn
      go_enter Tryz.func61, Tryz.ntmps61
      unfold File.val
      go_wp2_with (go_at_call 43; refine (HN.out _).mono ?_; rintro e w1 ⟨rfl, hb⟩; obtain ⟨hc, _⟩ := bcell hb; replace hb := Lib.hid hb)
      go_ret
      exact ⟨by rw [H.out]; rfl, ((Below.refl _ _).alloc (Nat.le_refl _) _).trans (hb.out.mono (by simp))⟩
    · by_cases hz : f.times < 1 ∨ 9999 < f.times
      · have H := Lib.hid (ff_bound f hn ht hz)
        clear hn
        go_enter Tryz.func61, Tryz.ntmps61
        unfold File.val
        go_wp2_with (go_at_call 43; refine (HN.out _).mono ?_; rintro e w1 ⟨rfl, hb⟩; obtain ⟨hc, _⟩ := bcell hb; replace hb := Lib.hid hb)
        all_goals
          go_ret
          exact ⟨by rw [H.out]; rfl, ((Below.refl _ _).alloc (Nat.le_refl _) _).trans (hb.out.mono (by simp))⟩
      · have H := Lib.hid (ff_good f hn ht hz)
        clear hn
        go_enter Tryz.func61, Tryz.ntmps61
        unfold File.val
        go_wp2_with (go_at_call 43; refine (HN.out _).mono ?_; rintro e w1 ⟨rfl, hb⟩; obtain ⟨hc, _⟩ := bcell hb; replace hb := Lib.hid hb)
        all_goals
          go_ret
          exact ⟨by rw [H.out]; rfl, ((Below.refl _ _).alloc (Nat.le_refl _) _).trans (hb.out.mono (by simp))⟩
  · rw [errV_pos hn] at hN
    have HN := Lib.hid hN
    have H := Lib.hid (ff_bad f hn)
    have H2 := Lib.hid (errV_pos hn)
    have hn' : (nameFault f.name.data.toList : Int) ≠ 0 := by omega
    clear hN hn
    go_enter Tryz.func61, Tryz.ntmps61
    unfold File.val
    go_wp2_with (go_at_call 43; refine (HN.out _).mono ?_; rintro e w1 ⟨rfl, hb⟩; obtain ⟨hc, _⟩ := bcell hb; replace hb := Lib.hid hb)
    go_ret
    exact ⟨by rw [H.out, H2.out]; rfl, ((Below.refl _ _).alloc (Nat.le_refl _) _).trans (hb.out.mono (by simp))⟩

end Go.Proofs.YtggpodlecljcbadGreatDoor
namespace Go.Proofs.YtggpodlecljcbadGreatDoor
open Go.RowKit Go.Sort

structure Change where
  key : ByteArray
  val : ByteArray
  gone : Bool
  deriving DecidableEq
def File.cells (f : File) : List Value := [.string f.name, .string f.text, .int .i64 f.times]
def Change.cells (c : Change) : List Value := [.string c.key, .string c.val, .bool c.gone]
def Change.val' (c : Change) : Value := .agg #[.string c.key, .string c.val, .bool c.gone]
def strCells (s : ByteArray) : List Value := [.string s]
def intCells (n : Int) : List Value := [.int .i64 n]
theorem File.cells_len (f : File) : f.cells.length = 3 := rfl
theorem Change.cells_len (f : Change) : f.cells.length = 3 := rfl
theorem strCells_len (s : ByteArray) : (strCells s).length = 1 := rfl
theorem intCells_len (s : Int) : (intCells s).length = 1 := rfl
abbrev Files := Rd 3 File.cells
abbrev Changes := Rd 3 Change.cells
abbrev Texts := Rd 1 strCells
abbrev Nums := Rd 1 intCells
section
variable {w : World} {ao : Option Addr} {n cap : Nat}
theorem Files.cell {l : List File} (h : Files w (.slice ao n cap) l) (i : Nat) (hi : i < l.length) :
    ∃ b off, ao = some ⟨b, off, none⟩ ∧ b < w.heap.size ∧ w.cell? ⟨b, off + i * 3, none⟩ = some (.string l[i].name) ∧ w.cell? ⟨b, off + i * 3 + 1, none⟩ = some (.string l[i].text) ∧ w.cell? ⟨b, off + i * 3 + 2, none⟩ = some (.int .i64 l[i].times) := by
  obtain ⟨b, off, e, hb, hc⟩ := Rd.at File.cells_len (by decide) h i hi
  exact ⟨b, off, e, hb, hc 0 _ rfl, hc 1 _ rfl, hc 2 _ rfl⟩
theorem Changes.cell {l : List Change} (h : Changes w (.slice ao n cap) l) (i : Nat) (hi : i < l.length) :
    ∃ b off, ao = some ⟨b, off, none⟩ ∧ b < w.heap.size ∧ w.cell? ⟨b, off + i * 3, none⟩ = some (.string l[i].key) ∧ w.cell? ⟨b, off + i * 3 + 1, none⟩ = some (.string l[i].val) ∧ w.cell? ⟨b, off + i * 3 + 2, none⟩ = some (.bool l[i].gone) := by
  obtain ⟨b, off, e, hb, hc⟩ := Rd.at Change.cells_len (by decide) h i hi
  exact ⟨b, off, e, hb, hc 0 _ rfl, hc 1 _ rfl, hc 2 _ rfl⟩
theorem Texts.cell {l : List ByteArray} (h : Texts w (.slice ao n cap) l) (i : Nat) (hi : i < l.length) :
    ∃ b off, ao = some ⟨b, off, none⟩ ∧ b < w.heap.size ∧ w.cell? ⟨b, off + i, none⟩ = some (.string l[i]) := by
  obtain ⟨b, off, e, hb, hc⟩ := Rd.at strCells_len (by decide) h i hi
  exact ⟨b, off, e, hb, by have := hc 0 _ rfl; simpa using this⟩
theorem Nums.cell {l : List Int} (h : Nums w (.slice ao n cap) l) (i : Nat) (hi : i < l.length) :
    ∃ b off, ao = some ⟨b, off, none⟩ ∧ b < w.heap.size ∧ w.cell? ⟨b, off + i, none⟩ = some (.int .i64 l[i]) := by
  obtain ⟨b, off, e, hb, hc⟩ := Rd.at intCells_len (by decide) h i hi
  exact ⟨b, off, e, hb, by have := hc 0 _ rfl; simpa using this⟩
end
def fileSame (n1 t1 : ByteArray) (k1 : Int) (n2 t2 : ByteArray) (k2 : Int) : Bool := decide ((⟨n1, t1, k1⟩ : File) = ⟨n2, t2, k2⟩)
theorem fileSame_iff (f g : File) : fileSame f.name f.text f.times g.name g.text g.times = decide (f = g) := rfl
def changeSame (n1 t1 : ByteArray) (k1 : Bool) (n2 t2 : ByteArray) (k2 : Bool) : Bool := decide ((⟨n1, t1, k1⟩ : Change) = ⟨n2, t2, k2⟩)
@[go_sem] theorem eqGuard_file : Tryz.prog.eqGuardType Tryz.prog.depth 93 = false := by kernel_rfl
@[go_sem high] theorem neq_file (n1 t1 n2 t2 : ByteArray) (k1 k2 : Int) (w : World) : (binOp .neq 93 (.agg #[.string n1, .string t1, .int .i64 k1]) (.agg #[.string n2, .string t2, .int .i64 k2])).run Tryz.prog w = .ok (.bool (!fileSame n1 t1 k1 n2 t2 k2)) w := by
  have hf : Tryz.prog.underlying 93 = some (.struct (Tryz.prog.fieldsOf 93)) := by kernel_rfl
  have hp : Tryz.prog.stoodInHeld 93 = false := by kernel_rfl
  have h0 := run_equalIn_struct (P := Tryz.prog) w 9999 93 #[.string n1, .string t1, .int .i64 k1] #[.string n2, .string t2, .int .i64 k2] hf hp
  simp only [binOp]
  simp only [fileSame, File.mk.injEq]
  simp [Op.equal, Op.maxDepth, h0, Program.fieldsOf, Tryz.underlying93, go_sem]
  by_cases h1 : n1 = n2 <;> by_cases h2 : t1 = t2 <;> by_cases h3 : k1 = k2 <;>
    simp [h1, h2, h3, bytes_eq_iff]
@[go_sem high] theorem eql_file (n1 t1 n2 t2 : ByteArray) (k1 k2 : Int) (w : World) : (binOp .eql 93 (.agg #[.string n1, .string t1, .int .i64 k1]) (.agg #[.string n2, .string t2, .int .i64 k2])).run Tryz.prog w = .ok (.bool (fileSame n1 t1 k1 n2 t2 k2)) w := by
  have hf : Tryz.prog.underlying 93 = some (.struct (Tryz.prog.fieldsOf 93)) := by kernel_rfl
  have hp : Tryz.prog.stoodInHeld 93 = false := by kernel_rfl
  have h0 := run_equalIn_struct (P := Tryz.prog) w 9999 93 #[.string n1, .string t1, .int .i64 k1] #[.string n2, .string t2, .int .i64 k2] hf hp
  simp only [binOp]
  simp only [fileSame, File.mk.injEq]
  simp [Op.equal, Op.maxDepth, h0, Program.fieldsOf, Tryz.underlying93, go_sem]
  by_cases h1 : n1 = n2 <;> by_cases h2 : t1 = t2 <;> by_cases h3 : k1 = k2 <;>
    simp [h1, h2, h3, bytes_eq_iff]
@[go_sem] theorem eqGuard_change : Tryz.prog.eqGuardType Tryz.prog.depth 91 = false := by kernel_rfl
@[go_sem high] theorem neq_change (n1 t1 n2 t2 : ByteArray) (k1 k2 : Bool) (w : World) : (binOp .neq 91 (.agg #[.string n1, .string t1, .bool k1]) (.agg #[.string n2, .string t2, .bool k2])).run Tryz.prog w = .ok (.bool (!changeSame n1 t1 k1 n2 t2 k2)) w := by
  have hf : Tryz.prog.underlying 91 = some (.struct (Tryz.prog.fieldsOf 91)) := by kernel_rfl
  have hp : Tryz.prog.stoodInHeld 91 = false := by kernel_rfl
  have h0 := run_equalIn_struct (P := Tryz.prog) w 9999 91 #[.string n1, .string t1, .bool k1] #[.string n2, .string t2, .bool k2] hf hp
  simp only [binOp]
  simp only [changeSame, Change.mk.injEq]
  simp [Op.equal, Op.maxDepth, h0, Program.fieldsOf, Tryz.underlying91, go_sem]
  by_cases h1 : n1 = n2 <;> by_cases h2 : t1 = t2 <;> by_cases h3 : k1 = k2 <;>
    simp [h1, h2, h3, bytes_eq_iff]
@[go_sem high] theorem eql_change (n1 t1 n2 t2 : ByteArray) (k1 k2 : Bool) (w : World) : (binOp .eql 91 (.agg #[.string n1, .string t1, .bool k1]) (.agg #[.string n2, .string t2, .bool k2])).run Tryz.prog w = .ok (.bool (changeSame n1 t1 k1 n2 t2 k2)) w := by
  have hf : Tryz.prog.underlying 91 = some (.struct (Tryz.prog.fieldsOf 91)) := by kernel_rfl
  have hp : Tryz.prog.stoodInHeld 91 = false := by kernel_rfl
  have h0 := run_equalIn_struct (P := Tryz.prog) w 9999 91 #[.string n1, .string t1, .bool k1] #[.string n2, .string t2, .bool k2] hf hp
  simp only [binOp]
  simp only [changeSame, Change.mk.injEq]
  simp [Op.equal, Op.maxDepth, h0, Program.fieldsOf, Tryz.underlying91, go_sem]
  by_cases h1 : n1 = n2 <;> by_cases h2 : t1 = t2 <;> by_cases h3 : k1 = k2 <;>
    simp [h1, h2, h3, bytes_eq_iff]

set_option maxHeartbeats 400000 in
theorem ref_SameFiles (va vb : Value) (a b : List File) (w : World) (ha : Files w va a) (hb : Files w vb b) :
    Calls Tryz.prog 34 #[va, vb] w fun e w' => e = .returned (.bool (decide (a = b))) ∧ Below w.heap.size w w' := by
  obtain ⟨ao, ca, rfl, hca, hca'⟩ := ha.parts
  obtain ⟨bo, cb, rfl, hcb, hcb'⟩ := hb.parts
  have HA := Lib.hid ha
  have HB := Lib.hid hb
  clear ha hb
  by_cases hl : a.length = b.length
  · have HL := Lib.hid hl
    have e1 : ((a.length : Int) != (b.length : Int)) = false := by simp [hl]
    clear hl
    go_enter Tryz.func34, Tryz.ntmps34
    go_wp2
    go_loopw [5] (fun i wr => ∃ k : Nat, k ≤ a.length ∧ i = .int .i64 k ∧ a.take k = b.take k ∧ Below w.heap.size w wr) (fun i _ => a.length - (intOf i).toNat)
    case atStart => exact ⟨0, Nat.zero_le _, rfl, rfl, Below.refl _ _⟩
    case round =>
      obtain ⟨k, hk, rfl, htk, hbw⟩ := hrel
      have HT := Lib.hid htk
      clear htk
      by_cases hlt : k < a.length
      · have hlt2 : k < b.length := by have := HL.out; omega
        obtain ⟨ba, oa, rfl, _, x0, x1, x2⟩ := Files.cell (HA.out.below hbw) k hlt
        obtain ⟨bb, ob, rfl, _, y0, y1, y2⟩ := Files.cell (HB.out.below hbw) k hlt2
        have HW := Lib.hid hbw
        replace x0 := regrown_cell x0
        replace y0 := regrown_cell y0
        replace x1 := regrown_cell x1
        replace y1 := regrown_cell y1
        replace x2 := regrown_cell x2
        replace y2 := regrown_cell y2
        clear hbw
        by_cases hf : a[k] = b[k]
        · have hs : fileSame a[k].name a[k].text a[k].times b[k].name b[k].text b[k].times = true := by rw [fileSame_iff]; simp [hf]
          have HF := Lib.hid hf
          clear hf
          go_wp2
          refine wp_region_q (by kernel_rfl) (by kernel_rfl) ?_
          repeat (quiet_step (fail))
          refine wpQuiet_nil ?_
          intro w2 hb2
          have HW2 := Lib.hid hb2
          clear hb2
          go_wp2
          go_roundw
          case rel => exact ⟨k + 1, by omega, by go_num, take_next _ _ _ HT.out hlt hlt2 HF.out, HW.out.trans (HW2.out.mono HW.out.size)⟩
          case measure => simp [intOf]; omega
        · have hs : fileSame a[k].name a[k].text a[k].times b[k].name b[k].text b[k].times = false := by rw [fileSame_iff]; simp [hf]
          have HF := Lib.hid hf
          clear hf
          go_wp2
          refine wp_region_q (by kernel_rfl) (by kernel_rfl) ?_
          repeat (quiet_step (fail))
          refine wpQuiet_nil ?_
          intro w2 hb2
          have HW2 := Lib.hid hb2
          clear hb2
          go_wp2
          go_ret
          exact ⟨ret_bool (by simp [ne_of_at a b k hlt hlt2 HF.out]), HW.out.trans (HW2.out.mono HW.out.size)⟩
      · have HW := Lib.hid hbw
        clear hbw
        go_wp2
        go_ret
        exact ⟨ret_bool (by simp [eq_of_take a b k HT.out hlt HL.out]), HW.out⟩
  · have HL := Lib.hid hl
    have e1 : ((a.length : Int) != (b.length : Int)) = true := by simpa using (by omega : ¬ (a.length : Int) = b.length)
    clear hl
    go_enter Tryz.func34, Tryz.ntmps34
    go_wp2
    go_ret
    exact ⟨ret_bool (by simp [ne_of_length HL.out]), Below.refl _ _⟩

set_option maxHeartbeats 400000 in
theorem slices_Equal_files (va vb : Value) (a b : List File) (w : World) (ha : Files w va a) (hb : Files w vb b) :
    Calls Tryz.prog 112 #[va, vb] w fun e w' => e = .returned (.bool (decide (a = b))) ∧ Below w.heap.size w w' := by
  obtain ⟨ao, ca, rfl, hca, hca'⟩ := ha.parts
  obtain ⟨bo, cb, rfl, hcb, hcb'⟩ := hb.parts
  have HA := Lib.hid ha
  have HB := Lib.hid hb
  clear ha hb
  by_cases hl : a.length = b.length
  · have HL := Lib.hid hl
    have e1 : ((a.length : Int) != (b.length : Int)) = false := by simp [hl]
    clear hl
    go_enter Tryz.func112, Tryz.ntmps112
    go_wp2
    go_loopw [13] (fun i wr => ∃ k : Nat, k ≤ a.length ∧ i = .int .i64 k ∧ a.take k = b.take k ∧ Below w.heap.size w wr) (fun i _ => a.length - (intOf i).toNat)
    case atStart => exact ⟨0, Nat.zero_le _, rfl, rfl, Below.refl _ _⟩
    case round =>
      obtain ⟨k, hk, rfl, htk, hbw⟩ := hrel
      have HT := Lib.hid htk
      clear htk
      by_cases hlt : k < a.length
      · have hlt2 : k < b.length := by have := HL.out; omega
        obtain ⟨ba, oa, rfl, _, x0, x1, x2⟩ := Files.cell (HA.out.below hbw) k hlt
        obtain ⟨bb, ob, rfl, _, y0, y1, y2⟩ := Files.cell (HB.out.below hbw) k hlt2
        have HW := Lib.hid hbw
        replace x0 := regrown_cell x0
        replace y0 := regrown_cell y0
        replace x1 := regrown_cell x1
        replace y1 := regrown_cell y1
        replace x2 := regrown_cell x2
        replace y2 := regrown_cell y2
        clear hbw
        by_cases hf : a[k] = b[k]
        · have hs : fileSame a[k].name a[k].text a[k].times b[k].name b[k].text b[k].times = true := by rw [fileSame_iff]; simp [hf]
          have HF := Lib.hid hf
          clear hf
          go_wp2
          refine wp_region_q (by kernel_rfl) (by kernel_rfl) ?_
          repeat (quiet_step (fail))
          refine wpQuiet_nil ?_
          intro w2 hb2
          have HW2 := Lib.hid hb2
          clear hb2
          go_wp2
          go_roundw
          case rel => exact ⟨k + 1, by omega, by go_num, take_next _ _ _ HT.out hlt hlt2 HF.out, HW.out.trans (HW2.out.mono HW.out.size)⟩
          case measure => simp [intOf]; omega
        · have hs : fileSame a[k].name a[k].text a[k].times b[k].name b[k].text b[k].times = false := by rw [fileSame_iff]; simp [hf]
          have HF := Lib.hid hf
          clear hf
          go_wp2
          refine wp_region_q (by kernel_rfl) (by kernel_rfl) ?_
          repeat (quiet_step (fail))
          refine wpQuiet_nil ?_
          intro w2 hb2
          have HW2 := Lib.hid hb2
          clear hb2
          go_wp2
          go_ret
          exact ⟨ret_bool (by simp [ne_of_at a b k hlt hlt2 HF.out]), HW.out.trans (HW2.out.mono HW.out.size)⟩
      · have HW := Lib.hid hbw
        clear hbw
        go_wp2
        go_ret
        exact ⟨ret_bool (by simp [eq_of_take a b k HT.out hlt HL.out]), HW.out⟩
  · have HL := Lib.hid hl
    have e1 : ((a.length : Int) != (b.length : Int)) = true := by simpa using (by omega : ¬ (a.length : Int) = b.length)
    clear hl
    go_enter Tryz.func112, Tryz.ntmps112
    go_wp2
    go_ret
    exact ⟨ret_bool (by simp [ne_of_length HL.out]), Below.refl _ _⟩

end Go.Proofs.YtggpodlecljcbadGreatDoor
namespace Go.Proofs.YtggpodlecljcbadGreatDoor
open Go.RowKit Go.Sort

structure Quilt where
  files : List File
  turn : Int
  deriving DecidableEq
def Quilts (w : World) (qv : Value) (q : Quilt) : Prop := ∃ v, qv = .agg #[v, .int .i64 q.turn] ∧ Files w v q.files
theorem Quilts.below {w w' : World} {v : Value} {q : Quilt} (h : Quilts w v q) (hb : Below w.heap.size w w') : Quilts w' v q := by
  obtain ⟨u, e, h⟩ := h
  exact ⟨u, e, h.below hb⟩
/-- A copy: is there one, and which. -/
structure Copy where
  is : Bool
  quilt : Quilt
def Copies (w : World) (cv : Value) (c : Copy) : Prop := ∃ v, cv = .agg #[.bool c.is, v, .int .i64 c.quilt.turn] ∧ Files w v c.quilt.files
def sameCopy (a b : Copy) : Bool := a.is == b.is && (!a.is || decide (a.quilt = b.quilt))

theorem quilt_eq (a b : Quilt) : a = b ↔ a.turn = b.turn ∧ a.files = b.files := by
  obtain ⟨x, y⟩ := a; obtain ⟨z, t⟩ := b; simp; exact and_comm

set_option maxHeartbeats 400000 in
theorem quilt_Same (va vb : Value) (a b : Quilt) (w : World) (ha : Quilts w va a) (hb : Quilts w vb b) :
    Calls Tryz.prog 79 #[va, vb] w fun e w' => e = .returned (.bool (decide (a = b))) ∧ Below w.heap.size w w' := by
  obtain ⟨va, rfl, ha⟩ := ha
  obtain ⟨vb, rfl, hb⟩ := hb
  obtain ⟨ao, ca, rfl, hca, hca'⟩ := ha.parts
  obtain ⟨bo, cb, rfl, hcb, hcb'⟩ := hb.parts
  have HA := Lib.hid ha
  have HB := Lib.hid hb
  clear ha hb
  by_cases ht : a.turn = b.turn
  · have e1 : (a.turn == b.turn) = true := by simp [ht]
    have HT := Lib.hid ht
    clear ht
    go_enter Tryz.func79, Tryz.ntmps79
    go_wp2_with fail
    have B2 := Lib.hid (two (below_alloc w (.cells #[.slice ao a.files.length ca, .int .i64 a.turn] 36)) (below_alloc _ (.cells #[.slice bo b.files.length cb, .int .i64 b.turn] 36)))
    refine (slices_Equal_files _ _ _ _ _ (HA.out.below B2.out) (HB.out.below B2.out)).mono ?_
    rintro e w1 ⟨rfl, hb1⟩
    have HB1 := Lib.hid hb1
    clear hb1
    go_wp2_with fail
    go_ret
    exact ⟨ret_bool (by rw [Bool.eq_iff_iff]; simp [quilt_eq, HT.out]), two B2.out HB1.out⟩
  · have e1 : (a.turn == b.turn) = false := by simp [ht]
    have HT := Lib.hid ht
    clear ht
    go_enter Tryz.func79, Tryz.ntmps79
    go_wp2_with fail
    go_ret
    exact ⟨ret_bool (by simp [quilt_eq, HT.out]), two (below_alloc w _) (below_alloc _ _)⟩

set_option maxHeartbeats 400000 in
theorem ref_SameQuilt (va vb : Value) (a b : Quilt) (w : World) (ha : Quilts w va a) (hb : Quilts w vb b) :
    Calls Tryz.prog 17 #[va, vb] w fun e w' => e = .returned (.bool (decide (a = b))) ∧ Below w.heap.size w w' := by
  obtain ⟨va, rfl, ha⟩ := ha
  obtain ⟨vb, rfl, hb⟩ := hb
  obtain ⟨ao, ca, rfl, hca, hca'⟩ := ha.parts
  obtain ⟨bo, cb, rfl, hcb, hcb'⟩ := hb.parts
  have HA := Lib.hid ha
  have HB := Lib.hid hb
  clear ha hb
  have B2 := Lib.hid (two (below_alloc w (.cells #[.slice ao a.files.length ca, .int .i64 a.turn] 36)) (below_alloc _ (.cells #[.slice bo b.files.length cb, .int .i64 b.turn] 36)))
  have C := ref_SameFiles _ _ _ _ _ (HA.out.below B2.out) (HB.out.below B2.out)
  by_cases hf : a.files = b.files
  · have H : Hid (decide (a.files = b.files) = true) := by simp [Hid, hf]
    rw [H.out] at C
    have HC := Lib.hid C
    have HF := Lib.hid hf
    clear hf C
    go_enter Tryz.func17, Tryz.ntmps17
    go_wp2_with fail
    refine HC.out.mono ?_
    rintro e w1 ⟨rfl, hb1⟩
    obtain ⟨hc, _⟩ := bcell hb1
    have HB1 := Lib.hid hb1
    clear hb1
    go_wp2_with fail
    go_ret
    exact ⟨ret_bool (by rw [Bool.eq_iff_iff]; simp [quilt_eq, HF.out]), two B2.out HB1.out⟩
  · have H : Hid (decide (a.files = b.files) = false) := by simp [Hid, hf]
    rw [H.out] at C
    have HC := Lib.hid C
    have HF := Lib.hid hf
    clear hf C
    go_enter Tryz.func17, Tryz.ntmps17
    go_wp2_with fail
    refine HC.out.mono ?_
    rintro e w1 ⟨rfl, hb1⟩
    obtain ⟨hc, _⟩ := bcell hb1
    have HB1 := Lib.hid hb1
    clear hb1
    go_wp2_with fail
    go_ret
    exact ⟨ret_bool (by simp [quilt_eq, HF.out]), two B2.out HB1.out⟩

theorem sc_is {a b : Copy} (h : a.is ≠ b.is) : sameCopy a b = false := by simp [sameCopy, h]
theorem sc_none {a b : Copy} (h : a.is = b.is) (ha : a.is = false) : sameCopy a b = true := by simp [sameCopy, ha, ← h]
theorem sc_both {a b : Copy} (ha : a.is = true) (hb : b.is = true) : sameCopy a b = decide (a.quilt = b.quilt) := by simp [sameCopy, ha, hb]

set_option maxHeartbeats 400000 in
theorem vote_Same (va vb : Value) (a b : Copy) (w : World) (ha : Copies w va a) (hb : Copies w vb b) :
    Calls Tryz.prog 50 #[va, vb] w fun e w' => e = .returned (.bool (sameCopy a b)) ∧ Below w.heap.size w w' := by
  obtain ⟨va, rfl, ha⟩ := ha
  obtain ⟨vb, rfl, hb⟩ := hb
  obtain ⟨ao, ca, rfl, hca, hca'⟩ := ha.parts
  obtain ⟨bo, cb, rfl, hcb, hcb'⟩ := hb.parts
  have HA := Lib.hid ha
  have HB := Lib.hid hb
  clear ha hb
  have B2 := Lib.hid (two (below_alloc w (.cells #[.bool a.is, .slice ao a.quilt.files.length ca, .int .i64 a.quilt.turn] 74)) (below_alloc _ (.cells #[.bool b.is, .slice bo b.quilt.files.length cb, .int .i64 b.quilt.turn] 74)))
  cases hia : a.is <;> cases hib : b.is
  · have H := Lib.hid (sc_none (a := a) (b := b) (by rw [hia, hib]) hia)
    rw [hia, hib] at B2
    clear hia hib
    go_enter Tryz.func50, Tryz.ntmps50
    go_wp2_with fail
    go_ret
    exact ⟨ret_bool (by rw [H.out]), B2.out⟩
  · have H := Lib.hid (sc_is (a := a) (b := b) (by rw [hia, hib]; decide))
    rw [hia, hib] at B2
    clear hia hib
    go_enter Tryz.func50, Tryz.ntmps50
    go_wp2_with fail
    go_ret
    exact ⟨ret_bool (by rw [H.out]), B2.out⟩
  · have H := Lib.hid (sc_is (a := a) (b := b) (by rw [hia, hib]; decide))
    rw [hia, hib] at B2
    clear hia hib
    go_enter Tryz.func50, Tryz.ntmps50
    go_wp2_with fail
    go_ret
    exact ⟨ret_bool (by rw [H.out]), B2.out⟩
  · have H := Lib.hid (sc_both hia hib)
    rw [hia, hib] at B2
    clear hia hib
    go_enter Tryz.func50, Tryz.ntmps50
    go_wp2_with fail
    refine (quilt_Same _ _ a.quilt b.quilt _ ⟨_, rfl, HA.out.below B2.out⟩ ⟨_, rfl, HB.out.below B2.out⟩).mono ?_
    rintro e w1 ⟨rfl, hb1⟩
    have HB1 := Lib.hid hb1
    clear hb1
    go_wp2_with fail
    go_ret
    exact ⟨ret_bool (by rw [H.out]), two B2.out HB1.out⟩

end Go.Proofs.YtggpodlecljcbadGreatDoor
namespace Go.Proofs.YtggpodlecljcbadGreatDoor
open Go.RowKit Go.Sort

def File.light (f : File) : Bool := decide (f.name.size ≤ 20) && decide (f.text.size ≤ 30)
theorem all_take {α : Type} (l : List α) (k : Nat) (h : k < l.length) (p : α → Bool) (h1 : (l.take k).all p = true) (h2 : p l[k] = true) : (l.take (k + 1)).all p = true := by
  rw [List.take_succ_eq_append_getElem h, List.all_append, h1]
  simp [h2]
theorem all_not {α : Type} (l : List α) (k : Nat) (h : k < l.length) (p : α → Bool) (h2 : p l[k] = false) : l.all p = false := by
  rw [List.all_eq_false]; exact ⟨_, List.getElem_mem h, by simp [h2]⟩
theorem all_end {α : Type} (l : List α) (k : Nat) (h : ¬ k < l.length) (p : α → Bool) (h1 : (l.take k).all p = true) : l.all p = true := by
  rwa [List.take_of_length_le (by omega)] at h1

end Go.Proofs.YtggpodlecljcbadGreatDoor
