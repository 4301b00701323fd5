/- The walks of the acts: are they light; what is done. -/
import Derived.Test.YtggpodlecljcbaaGreatDoorBase2
import Derived.Test.YtggpodlecljcbaaGreatDoorWalkB
namespace Go.Proofs.YtggpodlecljcbaaGreatDoor
open Go.RowKit Go.Sort
set_option linter.unusedSimpArgs false
set_option linter.unusedVariables false
def Change.ok (c : Change) : Prop := c.key.size ≤ maxLen ∧ c.val.size ≤ maxLen
def Change.light (c : Change) : Bool := decide (c.key.size ≤ 20) && decide (c.val.size ≤ 40)
def lightChanges (l : List Change) (most : Int) : Bool := decide ((l.length : Int) ≤ most) && l.all Change.light
structure Act where
  kind : ByteArray
  s : ByteArray
  t : ByteArray
  n : Int
  k : Int
  changes : List Change
structure ActV where
  kind : ByteArray
  s : ByteArray
  t : ByteArray
  n : Int
  k : Int
  cv : Value
def ActV.cells (a : ActV) : List Value := [.string a.kind, .string a.s, .string a.t, .int .i64 a.n, .int .u64 a.k, a.cv]
theorem ActV.cells_len (a : ActV) : a.cells.length = 6 := rfl
def ActV.val (a : ActV) : Value := .agg #[.string a.kind, .string a.s, .string a.t, .int .i64 a.n, .int .u64 a.k, a.cv]
abbrev ActVs := Rd 6 ActV.cells
def IsAct (w : World) (av : ActV) (a : Act) : Prop := av.kind = a.kind ∧ av.s = a.s ∧ av.t = a.t ∧ av.n = a.n ∧ av.k = a.k ∧ Changes w av.cv a.changes
def Act.ok (a : Act) : Prop := a.kind.size ≤ maxLen ∧ a.s.size ≤ maxLen ∧ a.t.size ≤ maxLen ∧ (∀ c ∈ a.changes, c.ok)
theorem IsAct.below {w w' : World} {av : ActV} {a : Act} (h : IsAct w av a) (hb : Below w.heap.size w w') : IsAct w' av a := ⟨h.1, h.2.1, h.2.2.1, h.2.2.2.1, h.2.2.2.2.1, h.2.2.2.2.2.below hb⟩
def IsActs (w : World) (avs : List ActV) (al : List Act) : Prop := avs.length = al.length ∧ ∀ i (h : i < avs.length) (h' : i < al.length), IsAct w avs[i] al[i]
theorem IsActs.below {w w' : World} {av : List ActV} {a : List Act} (h : IsActs w av a) (hb : Below w.heap.size w w') : IsActs w' av a := ⟨h.1, fun i h1 h2 => (h.2 i h1 h2).below hb⟩
theorem ActVs.cell {w : World} {ao : Option Addr} {n cap : Nat} {l : List ActV} (h : ActVs w (.slice ao n cap) l) (i : Nat) (hi : i < l.length) :
    ∃ b off, ao = some ⟨b, off, none⟩ ∧ b < w.heap.size ∧ w.cell? ⟨b, off + i * 6, none⟩ = some (.string l[i].kind) ∧ w.cell? ⟨b, off + i * 6 + 1, none⟩ = some (.string l[i].s) ∧ w.cell? ⟨b, off + i * 6 + 2, none⟩ = some (.string l[i].t) ∧ w.cell? ⟨b, off + i * 6 + 3, none⟩ = some (.int .i64 l[i].n) ∧ w.cell? ⟨b, off + i * 6 + 4, none⟩ = some (.int .u64 l[i].k) ∧ w.cell? ⟨b, off + i * 6 + 5, none⟩ = some l[i].cv := by
  obtain ⟨b, off, e, hb, hc⟩ := Rd.at ActV.cells_len (by decide) h i hi
  exact ⟨b, off, e, hb, hc 0 _ rfl, hc 1 _ rfl, hc 2 _ rfl, hc 3 _ rfl, hc 4 _ rfl, hc 5 _ rfl⟩
def Act.light (a : Act) : Bool := decide (a.s.size ≤ 100) && decide (a.t.size ≤ 40) && lightChanges a.changes 20
def lightActs (l : List Act) (most : Int) : Bool := decide ((l.length : Int) ≤ most) && l.all Act.light

theorem law_LightChanges (va : Value) (a : List Change) (most : Int) (w : World) (ha : Changes w va a) (hok : ∀ f ∈ a, f.ok) :
    Calls Tryz.prog 6 #[va, .int .i64 most] w fun e w' => e = .returned (.bool (lightChanges a most)) ∧ w = w' := by
  obtain ⟨ao, ca, rfl, hca, hca'⟩ := ha.parts
  have HA := Lib.hid ha
  have HOK := Lib.hid hok
  clear ha hok
  by_cases hl : (a.length : Int) ≤ most
  · have HL := Lib.hid hl
    go_enter Tryz.func6, Tryz.ntmps6
    go_wp2_with fail
    go_loop [5] (fun i => ∃ k : Nat, k ≤ a.length ∧ i = .int .i64 k ∧ (a.take k).all Change.light = true) (fun i => a.length - (intOf i).toNat)
    case atStart => exact ⟨0, Nat.zero_le _, rfl, rfl⟩
    case round =>
      obtain ⟨k, hk, rfl, htk⟩ := hrel
      have HT := Lib.hid htk
      clear htk
      by_cases hlt : k < a.length
      · obtain ⟨ba, oa, rfl, _, x0, x1, x2⟩ := Changes.cell HA.out k hlt
        have ok := HOK.out a[k] (List.getElem_mem hlt)
        have o1 : a[k].key.size ≤ 9223372036854775807 := by have := ok.1; unfold maxLen at this; exact this
        have o2 : a[k].val.size ≤ 9223372036854775807 := by have := ok.2; unfold maxLen at this; exact this
        clear ok
        by_cases h1 : a[k].key.size ≤ 20
        · by_cases h2 : a[k].val.size ≤ 40
          · have HF : Hid (a[k].light = true) := by simp [Hid, Change.light, h1, h2]
            go_wp2_with fail
            go_round
            case rel => exact ⟨k + 1, by omega, by go_num, all_take _ _ hlt _ HT.out HF.out⟩
            case measure => simp [intOf]; omega
          · have HF : Hid (a[k].light = false) := by simp [Hid, Change.light, h2]
            go_wp2_with fail
            go_ret
            exact ⟨ret_bool (by simp [lightChanges, all_not a k hlt _ HF.out]), rfl⟩
        · have HF : Hid (a[k].light = false) := by simp [Hid, Change.light, h1]
          go_wp2_with fail
          go_ret
          exact ⟨ret_bool (by simp [lightChanges, all_not a k hlt _ HF.out]), rfl⟩
      · go_wp2_with fail
        go_ret
        exact ⟨ret_bool (by simp [lightChanges, all_end a k hlt _ HT.out, HL.out]), rfl⟩
  · have HL := Lib.hid hl
    have hl' : most < (a.length : Int) := by omega
    go_enter Tryz.func6, Tryz.ntmps6
    go_wp2_with fail
    go_ret
    exact ⟨ret_bool (by simp [lightChanges]; intro h; exact absurd h (by have := HL.out; omega)), rfl⟩

end Go.Proofs.YtggpodlecljcbaaGreatDoor
