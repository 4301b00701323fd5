/- The walks over quilts and copies that hold two against each other. The walks that ask whether files, quilts are not too much. -/
import Derived.Test.YtggpodlecljcbabWalkB
namespace Go.Proofs.Ytggpodlecljcbab
open Go.RowKit Go.Sort

structure Quilt where
  files : List File
  turn : Int
  deriving DecidableEq
def Quilts (w : World) (qv : Value) (q : Quilt) : Prop := ∃ v, qv = .agg #[v, .int .i64 q.turn] ∧ Files w v q.files
theorem Quilts.below {w w' : World} {v : Value} {q : Quilt} (h : Quilts w v q) (hb : Below w.heap.size w w') : Quilts w' v q := by
  obtain ⟨u, e, h⟩ := h
  exact ⟨u, e, h.below hb⟩
/-- A copy: is there one, and which. -/
structure Copy where
  is : Bool
  quilt : Quilt
def Copies (w : World) (cv : Value) (c : Copy) : Prop := ∃ v, cv = .agg #[.bool c.is, v, .int .i64 c.quilt.turn] ∧ Files w v c.quilt.files
def sameCopy (a b : Copy) : Bool := a.is == b.is && (!a.is || decide (a.quilt = b.quilt))

theorem quilt_eq (a b : Quilt) : a = b ↔ a.turn = b.turn ∧ a.files = b.files := by
  obtain ⟨x, y⟩ := a; obtain ⟨z, t⟩ := b; simp; exact and_comm

set_option maxHeartbeats 400000 in
theorem quilt_Same (va vb : Value) (a b : Quilt) (w : World) (ha : Quilts w va a) (hb : Quilts w vb b) :
    Calls Try.prog 47 #[va, vb] w fun e w' => e = .returned (.bool (decide (a = b))) ∧ Below w.heap.size w w' := by
  obtain ⟨va, rfl, ha⟩ := ha
  obtain ⟨vb, rfl, hb⟩ := hb
  obtain ⟨ao, ca, rfl, hca, hca'⟩ := ha.parts
  obtain ⟨bo, cb, rfl, hcb, hcb'⟩ := hb.parts
  have HA := Lib.hid ha
  have HB := Lib.hid hb
  clear ha hb
  by_cases ht : a.turn = b.turn
  · have e1 : (a.turn == b.turn) = true := by simp [ht]
    have HT := Lib.hid ht
    clear ht
    go_enter Try.func47, Try.ntmps47
    go_wp2_with fail
    have B2 := Lib.hid (two (below_alloc w (.cells #[.slice ao a.files.length ca, .int .i64 a.turn] 24)) (below_alloc _ (.cells #[.slice bo b.files.length cb, .int .i64 b.turn] 24)))
    refine (slices_Equal_files _ _ _ _ _ (HA.out.below B2.out) (HB.out.below B2.out)).mono ?_
    rintro e w1 ⟨rfl, hb1⟩
    have HB1 := Lib.hid hb1
    clear hb1
    go_wp2_with fail
    go_ret
    exact ⟨ret_bool (by rw [Bool.eq_iff_iff]; simp [quilt_eq, HT.out]), two B2.out HB1.out⟩
  · have e1 : (a.turn == b.turn) = false := by simp [ht]
    have HT := Lib.hid ht
    clear ht
    go_enter Try.func47, Try.ntmps47
    go_wp2_with fail
    go_ret
    exact ⟨ret_bool (by simp [quilt_eq, HT.out]), two (below_alloc w _) (below_alloc _ _)⟩

set_option maxHeartbeats 400000 in
theorem ref_SameQuilt (va vb : Value) (a b : Quilt) (w : World) (ha : Quilts w va a) (hb : Quilts w vb b) :
    Calls Try.prog 17 #[va, vb] w fun e w' => e = .returned (.bool (decide (a = b))) ∧ Below w.heap.size w w' := by
  obtain ⟨va, rfl, ha⟩ := ha
  obtain ⟨vb, rfl, hb⟩ := hb
  obtain ⟨ao, ca, rfl, hca, hca'⟩ := ha.parts
  obtain ⟨bo, cb, rfl, hcb, hcb'⟩ := hb.parts
  have HA := Lib.hid ha
  have HB := Lib.hid hb
  clear ha hb
  have B2 := Lib.hid (two (below_alloc w (.cells #[.slice ao a.files.length ca, .int .i64 a.turn] 24)) (below_alloc _ (.cells #[.slice bo b.files.length cb, .int .i64 b.turn] 24)))
  have C := ref_SameFiles _ _ _ _ _ (HA.out.below B2.out) (HB.out.below B2.out)
  by_cases hf : a.files = b.files
  · have H : Hid (decide (a.files = b.files) = true) := by simp [Hid, hf]
    rw [H.out] at C
    have HC := Lib.hid C
    have HF := Lib.hid hf
    clear hf C
    go_enter Try.func17, Try.ntmps17
    go_wp2_with fail
    refine HC.out.mono ?_
    rintro e w1 ⟨rfl, hb1⟩
    obtain ⟨hc, _⟩ := bcell hb1
    have HB1 := Lib.hid hb1
    clear hb1
    go_wp2_with fail
    go_ret
    exact ⟨ret_bool (by rw [Bool.eq_iff_iff]; simp [quilt_eq, HF.out]), two B2.out HB1.out⟩
  · have H : Hid (decide (a.files = b.files) = false) := by simp [Hid, hf]
    rw [H.out] at C
    have HC := Lib.hid C
    have HF := Lib.hid hf
    clear hf C
    go_enter Try.func17, Try.ntmps17
    go_wp2_with fail
    refine HC.out.mono ?_
    rintro e w1 ⟨rfl, hb1⟩
    obtain ⟨hc, _⟩ := bcell hb1
    have HB1 := Lib.hid hb1
    clear hb1
    go_wp2_with fail
    go_ret
    exact ⟨ret_bool (by simp [quilt_eq, HF.out]), two B2.out HB1.out⟩

theorem sc_is {a b : Copy} (h : a.is ≠ b.is) : sameCopy a b = false := by simp [sameCopy, h]
theorem sc_none {a b : Copy} (h : a.is = b.is) (ha : a.is = false) : sameCopy a b = true := by simp [sameCopy, ha, ← h]
theorem sc_both {a b : Copy} (ha : a.is = true) (hb : b.is = true) : sameCopy a b = decide (a.quilt = b.quilt) := by simp [sameCopy, ha, hb]

set_option maxHeartbeats 400000 in
theorem vote_Same (va vb : Value) (a b : Copy) (w : World) (ha : Copies w va a) (hb : Copies w vb b) :
    Calls Try.prog 16 #[va, vb] w fun e w' => e = .returned (.bool (sameCopy a b)) ∧ Below w.heap.size w w' := by
  obtain ⟨va, rfl, ha⟩ := ha
  obtain ⟨vb, rfl, hb⟩ := hb
  obtain ⟨ao, ca, rfl, hca, hca'⟩ := ha.parts
  obtain ⟨bo, cb, rfl, hcb, hcb'⟩ := hb.parts
  have HA := Lib.hid ha
  have HB := Lib.hid hb
  clear ha hb
  have B2 := Lib.hid (two (below_alloc w (.cells #[.bool a.is, .slice ao a.quilt.files.length ca, .int .i64 a.quilt.turn] 26)) (below_alloc _ (.cells #[.bool b.is, .slice bo b.quilt.files.length cb, .int .i64 b.quilt.turn] 26)))
  cases hia : a.is <;> cases hib : b.is
  · have H := Lib.hid (sc_none (a := a) (b := b) (by rw [hia, hib]) hia)
    rw [hia, hib] at B2
    clear hia hib
    go_enter Try.func16, Try.ntmps16
    go_wp2_with fail
    go_ret
    exact ⟨ret_bool (by rw [H.out]), B2.out⟩
  · have H := Lib.hid (sc_is (a := a) (b := b) (by rw [hia, hib]; decide))
    rw [hia, hib] at B2
    clear hia hib
    go_enter Try.func16, Try.ntmps16
    go_wp2_with fail
    go_ret
    exact ⟨ret_bool (by rw [H.out]), B2.out⟩
  · have H := Lib.hid (sc_is (a := a) (b := b) (by rw [hia, hib]; decide))
    rw [hia, hib] at B2
    clear hia hib
    go_enter Try.func16, Try.ntmps16
    go_wp2_with fail
    go_ret
    exact ⟨ret_bool (by rw [H.out]), B2.out⟩
  · have H := Lib.hid (sc_both hia hib)
    rw [hia, hib] at B2
    clear hia hib
    go_enter Try.func16, Try.ntmps16
    go_wp2_with fail
    refine (quilt_Same _ _ a.quilt b.quilt _ ⟨_, rfl, HA.out.below B2.out⟩ ⟨_, rfl, HB.out.below B2.out⟩).mono ?_
    rintro e w1 ⟨rfl, hb1⟩
    have HB1 := Lib.hid hb1
    clear hb1
    go_wp2_with fail
    go_ret
    exact ⟨ret_bool (by rw [H.out]), two B2.out HB1.out⟩

end Go.Proofs.Ytggpodlecljcbab
namespace Go.Proofs.Ytggpodlecljcbab
open Go.RowKit Go.Sort

def File.light (f : File) : Bool := decide (f.name.size ≤ 20) && decide (f.text.size ≤ 30)
def lightFiles (l : List File) : Bool := decide (l.length ≤ 12) && l.all File.light
theorem all_take {α : Type} (l : List α) (k : Nat) (h : k < l.length) (p : α → Bool) (h1 : (l.take k).all p = true) (h2 : p l[k] = true) : (l.take (k + 1)).all p = true := by
  rw [List.take_succ_eq_append_getElem h, List.all_append, h1]
  simp [h2]
theorem all_not {α : Type} (l : List α) (k : Nat) (h : k < l.length) (p : α → Bool) (h2 : p l[k] = false) : l.all p = false := by
  rw [List.all_eq_false]; exact ⟨_, List.getElem_mem h, by simp [h2]⟩
theorem all_end {α : Type} (l : List α) (k : Nat) (h : ¬ k < l.length) (p : α → Bool) (h1 : (l.take k).all p = true) : l.all p = true := by
  rwa [List.take_of_length_le (by omega)] at h1

set_option maxHeartbeats 400000 in
theorem law_LightFiles (va : Value) (a : List File) (w : World) (ha : Files w va a) (hok : ∀ f ∈ a, f.ok) :
    Calls Try.prog 27 #[va] w fun e w' => e = .returned (.bool (lightFiles a)) ∧ w = w' := by
  obtain ⟨ao, ca, rfl, hca, hca'⟩ := ha.parts
  have HA := Lib.hid ha
  have HOK := Lib.hid hok
  clear ha hok
  by_cases hl : a.length ≤ 12
  · have HL := Lib.hid hl
    go_enter Try.func27, Try.ntmps27
    go_wp2_with fail
    go_loop [3] (fun i => ∃ k : Nat, k ≤ a.length ∧ i = .int .i64 k ∧ (a.take k).all File.light = true) (fun i => a.length - (intOf i).toNat)
    case atStart => exact ⟨0, Nat.zero_le _, rfl, rfl⟩
    case round =>
      obtain ⟨k, hk, rfl, htk⟩ := hrel
      have HT := Lib.hid htk
      clear htk
      by_cases hlt : k < a.length
      · obtain ⟨ba, oa, rfl, _, x0, x1, x2⟩ := HA.out.cell k hlt
        have ok := HOK.out a[k] (List.getElem_mem hlt)
        have o1 : a[k].name.size ≤ 9223372036854775807 := by have := ok.1; unfold maxLen at this; exact this
        have o2 : a[k].text.size ≤ 9223372036854775807 := by have := ok.2; unfold maxLen at this; exact this
        clear ok
        by_cases h1 : a[k].name.size ≤ 20
        · by_cases h2 : a[k].text.size ≤ 30
          · have HF : Hid (a[k].light = true) := by simp [Hid, File.light, h1, h2]
            go_wp2_with fail
            go_round
            case rel => exact ⟨k + 1, by omega, by go_num, all_take _ _ hlt _ HT.out HF.out⟩
            case measure => simp [intOf]; omega
          · have HF : Hid (a[k].light = false) := by simp [Hid, File.light, h2]
            go_wp2_with fail
            go_ret
            exact ⟨ret_bool (by simp [lightFiles, all_not a k hlt _ HF.out]), rfl⟩
        · have HF : Hid (a[k].light = false) := by simp [Hid, File.light, h1]
          go_wp2_with fail
          go_ret
          exact ⟨ret_bool (by simp [lightFiles, all_not a k hlt _ HF.out]), rfl⟩
      · go_wp2_with fail
        go_ret
        exact ⟨ret_bool (by simp [lightFiles, all_end a k hlt _ HT.out, HL.out]), rfl⟩
  · have HL := Lib.hid hl
    go_enter Try.func27, Try.ntmps27
    go_wp2_with fail
    go_ret
    exact ⟨ret_bool (by simp [lightFiles]; intro h; exact (HL.out h).elim), rfl⟩

set_option maxHeartbeats 400000 in
theorem law_LightQuilt (vq : Value) (q : Quilt) (w : World) (hq : Quilts w vq q) (hok : ∀ f ∈ q.files, f.ok) :
    Calls Try.prog 15 #[vq] w fun e w' => e = .returned (.bool (lightFiles q.files)) ∧ Below w.heap.size w w' := by
  obtain ⟨v, rfl, hq⟩ := hq
  obtain ⟨ao, ca, rfl, hca, hca'⟩ := hq.parts
  have B1 := Lib.hid (below_alloc w (.cells #[.slice ao q.files.length ca, .int .i64 q.turn] 24))
  have C := law_LightFiles _ _ _ (hq.below B1.out) hok
  have HC := Lib.hid C
  clear C hq
  by_cases hl : q.files.length ≤ 12
  · go_enter Try.func15, Try.ntmps15
    go_wp2_with fail
    refine HC.out.mono ?_
    rintro e w1 ⟨rfl, rfl⟩
    go_wp2_with fail
    go_ret
    exact ⟨rfl, B1.out⟩
  · have H : Hid (lightFiles q.files = false) := by simp only [Hid, lightFiles, decide_eq_false hl, Bool.false_and]
    go_enter Try.func15, Try.ntmps15
    go_wp2_with fail
    go_ret
    exact ⟨ret_bool (by rw [H.out]), B1.out⟩
end Go.Proofs.Ytggpodlecljcbab
