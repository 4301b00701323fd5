/- The walks of chapter 10: the vote. -/
import Derived.Test.YtggpodlecljcbabWalkC
namespace Go.Proofs.Ytggpodlecljcbab
set_option linter.unusedSimpArgs false
set_option linter.unusedVariables false
open Go.RowKit Go.Sort

/-- A copy as its three cells; the second is a slice of files. -/
structure CopyV where
  is : Bool
  v : Value
  turn : Int
def CopyV.cells (c : CopyV) : List Value := [.bool c.is, c.v, .int .i64 c.turn]
theorem CopyV.cells_len (c : CopyV) : c.cells.length = 3 := rfl
def CopyV.val (c : CopyV) : Value := .agg #[.bool c.is, c.v, .int .i64 c.turn]
def IsCopy (w : World) (cv : CopyV) (c : Copy) : Prop := cv.is = c.is ∧ cv.turn = c.quilt.turn ∧ Files w cv.v c.quilt.files
theorem IsCopy.below {w w' : World} {cv : CopyV} {c : Copy} (h : IsCopy w cv c) (hb : Below w.heap.size w w') : IsCopy w' cv c := ⟨h.1, h.2.1, h.2.2.below hb⟩
theorem IsCopy.copies {w : World} {cv : CopyV} {c : Copy} (h : IsCopy w cv c) : Copies w cv.val c := by
  obtain ⟨is, v, t⟩ := cv
  obtain ⟨h1, h2, h3⟩ := h
  dsimp only at h1 h2 h3
  subst h1 h2
  exact ⟨v, rfl, h3⟩
abbrev CopyVs := Rd 3 CopyV.cells
theorem CopyVs.cell {w : World} {ao : Option Addr} {n cap : Nat} {l : List CopyV} (h : CopyVs w (.slice ao n cap) l) (i : Nat) (hi : i < l.length) :
    ∃ b off, ao = some ⟨b, off, none⟩ ∧ b < w.heap.size ∧ w.cell? ⟨b, off + i * 3, none⟩ = some (.bool l[i].is) ∧ w.cell? ⟨b, off + i * 3 + 1, none⟩ = some l[i].v ∧ w.cell? ⟨b, off + i * 3 + 2, none⟩ = some (.int .i64 l[i].turn) := by
  obtain ⟨b, off, e, hb, hc⟩ := Rd.at CopyV.cells_len (by decide) h i hi
  exact ⟨b, off, e, hb, hc 0 _ rfl, hc 1 _ rfl, hc 2 _ rfl⟩

set_option maxHeartbeats 400000 in
theorem vote_Of_fn (xv cv : CopyV) (x c : Copy) (b : Nat) (w : World) (hx : IsCopy w xv x) (hc : IsCopy w cv c)
    (c0 : w.cell? ⟨b, 0, none⟩ = some (.bool cv.is)) (c1 : w.cell? ⟨b, 1, none⟩ = some cv.v) (c2 : w.cell? ⟨b, 2, none⟩ = some (.int .i64 cv.turn)) :
    Calls Try.prog 46 #[xv.val, .pointer (some ⟨b, 0, none⟩)] w fun e w' => e = .returned (.bool (sameCopy c x)) ∧ Below w.heap.size w w' := by
  have hbl := World.block_lt_of_cell? w _ c0
  dsimp only at hbl
  obtain ⟨xi, xv, xt⟩ := xv
  have HX := Lib.hid hx
  have HC := Lib.hid hc
  obtain ⟨ao, ca, rfl, hca, hca'⟩ := hx.2.2.parts
  clear hx hc
  go_enter Try.func46, Try.ntmps46
  unfold CopyV.val
  go_wp2_with fail
  have B1 := Lib.hid (below_alloc w (.cells #[.bool xi, .slice ao x.quilt.files.length ca, .int .i64 xt] 26))
  refine (vote_Same _ _ c x _ (HC.out.below B1.out).copies (HX.out.below B1.out).copies).mono ?_
  rintro e w1 ⟨rfl, hb1⟩
  have HB1 := Lib.hid hb1
  clear hb1
  go_wp2_with fail
  go_ret
  exact ⟨rfl, two B1.out HB1.out⟩

/-- A number that is below 0, or not, as a Bool says. -/
def Sign (b : Bool) (w : World) (e : Ending) (w' : World) : Prop := ∃ n : Int, (b = true → 0 ≤ n) ∧ (b = false → n < 0) ∧ e = .returned (.int .i64 n) ∧ Below w.heap.size w w'
def IsCopies (w : World) (cvs : List CopyV) (cs : List Copy) : Prop := cvs.length = cs.length ∧ ∀ i (h : i < cvs.length) (h' : i < cs.length), IsCopy w cvs[i] cs[i]
theorem IsCopies.below {w w' : World} {cv : List CopyV} {c : List Copy} (h : IsCopies w cv c) (hb : Below w.heap.size w w') : IsCopies w' cv c := ⟨h.1, fun i h1 h2 => (h.2 i h1 h2).below hb⟩
theorem any_take {α : Type} (l : List α) (k : Nat) (h : k < l.length) (p : α → Bool) (h1 : (l.take k).any p = false) (h2 : p l[k] = false) : (l.take (k + 1)).any p = false := by
  rw [List.take_succ_eq_append_getElem h, List.any_append, h1]
  simp [h2]
theorem any_of {α : Type} (l : List α) (k : Nat) (h : k < l.length) (p : α → Bool) (h2 : p l[k] = true) : l.any p = true := by
  rw [List.any_eq_true]; exact ⟨_, List.getElem_mem h, h2⟩
theorem any_end {α : Type} (l : List α) (k : Nat) (h : ¬ k < l.length) (p : α → Bool) (h1 : (l.take k).any p = false) : l.any p = false := by
  rwa [List.take_of_length_le (by omega)] at h1

set_option maxHeartbeats 400000 in
theorem slices_IndexFunc (sv : Value) (cvs : List CopyV) (cs : List Copy) (cv : CopyV) (c : Copy) (b : Nat) (w : World) (hs : CopyVs w sv cvs) (hcs : IsCopies w cvs cs) (hc : IsCopy w cv c)
    (c0 : w.cell? ⟨b, 0, none⟩ = some (.bool cv.is)) (c1 : w.cell? ⟨b, 1, none⟩ = some cv.v) (c2 : w.cell? ⟨b, 2, none⟩ = some (.int .i64 cv.turn)) :
    Calls Try.prog 71 #[sv, .func (.func 46) #[] #[.pointer (some ⟨b, 0, none⟩)]] w (Sign (cs.any (sameCopy c)) w) := by
  obtain ⟨ao, ca, rfl, hca, hca'⟩ := hs.parts
  have hbl := World.block_lt_of_cell? w _ c0
  dsimp only at hbl
  have HS := Lib.hid hs
  have HCS := Lib.hid hcs
  have HC := Lib.hid hc
  have HL := Lib.hid hcs.1
  have D0 := Lib.hid c0
  have D1 := Lib.hid c1
  have D2 := Lib.hid c2
  clear hs hcs hc c0 c1 c2
  go_enter Try.func71, Try.ntmps71
  go_wp2_with fail
  go_loopw [8] (fun i wr => ∃ k : Nat, k ≤ cvs.length ∧ i = .int .i64 k ∧ (cs.take k).any (sameCopy c) = false ∧ Below w.heap.size w wr) (fun i _ => cvs.length - (intOf i).toNat)
  case atStart => exact ⟨0, Nat.zero_le _, rfl, rfl, Below.refl _ _⟩
  case round =>
    obtain ⟨k, hk, rfl, htk, hbw⟩ := hrel
    have HT := Lib.hid htk
    clear htk
    by_cases hlt : k < cvs.length
    · have hlt2 : k < cs.length := by have := HL.out; omega
      obtain ⟨ba, oa, rfl, _, x0, x1, x2⟩ := CopyVs.cell (HS.out.below hbw) k hlt
      have HK := Lib.hid ((HCS.out.below hbw).2 k hlt hlt2)
      have HKC := Lib.hid (HC.out.below hbw)
      have K := fun W (hb : Below wr.heap.size wr W) => vote_Of_fn cvs[k] cv cs[k] c b W (HK.out.below hb) (HKC.out.below hb) (by rw [hb.cell (p := ⟨b, 0, none⟩) (by have := hbw.size; show b < _; omega), hbw.cell (p := ⟨b, 0, none⟩) hbl]; exact D0.out)
        (by rw [hb.cell (p := ⟨b, 1, none⟩) (by have := hbw.size; show b < _; omega), hbw.cell (p := ⟨b, 1, none⟩) hbl]; exact D1.out)
        (by rw [hb.cell (p := ⟨b, 2, none⟩) (by have := hbw.size; show b < _; omega), hbw.cell (p := ⟨b, 2, none⟩) hbl]; exact D2.out)
      have HW := Lib.hid hbw
      clear hbw
      by_cases hf : sameCopy c cs[k] = true
      · rw [hf] at K
        replace K := Lib.hid K
        have HF := Lib.hid hf
        clear hf
        go_wp2_with fail
        refine (K.out _ (Below.refl _ _)).mono ?_
        rintro e w2 ⟨rfl, hb2⟩
        have HW2 := Lib.hid hb2
        clear hb2
        go_wp2_with fail
        go_ret
        exact ⟨k, fun _ => by omega, (fun h => by rw [any_of cs k hlt2 _ HF.out] at h; cases h), rfl, two HW.out HW2.out⟩
      · have hf' : sameCopy c cs[k] = false := by simpa using hf
        rw [hf'] at K
        replace K := Lib.hid K
        have HF := Lib.hid hf'
        clear hf hf'
        go_wp2_with fail
        refine (K.out _ (Below.refl _ _)).mono ?_
        rintro e w2 ⟨rfl, hb2⟩
        have HW2 := Lib.hid hb2
        clear hb2
        go_wp2_with fail
        go_roundw
        case rel => exact ⟨k + 1, by omega, by go_num, any_take _ _ hlt2 _ HT.out HF.out, two HW.out HW2.out⟩
        case measure => simp [intOf]; omega
    · have HW := Lib.hid hbw
      clear hbw
      go_wp2_with fail
      go_ret
      exact ⟨-1, fun h => (by rw [any_end cs k (by have := HL.out; omega) _ HT.out] at h; cases h), fun _ => by decide, rfl, HW.out⟩

set_option maxHeartbeats 400000 in
theorem slices_ContainsFunc (sv : Value) (cvs : List CopyV) (cs : List Copy) (cv : CopyV) (c : Copy) (b : Nat) (w : World) (hs : CopyVs w sv cvs) (hcs : IsCopies w cvs cs) (hc : IsCopy w cv c)
    (c0 : w.cell? ⟨b, 0, none⟩ = some (.bool cv.is)) (c1 : w.cell? ⟨b, 1, none⟩ = some cv.v) (c2 : w.cell? ⟨b, 2, none⟩ = some (.int .i64 cv.turn)) :
    Calls Try.prog 45 #[sv, .func (.func 46) #[] #[.pointer (some ⟨b, 0, none⟩)]] w fun e w' => e = .returned (.bool (cs.any (sameCopy c))) ∧ Below w.heap.size w w' := by
  have K := Lib.hid (slices_IndexFunc sv cvs cs cv c b w hs hcs hc c0 c1 c2)
  obtain ⟨ao, ca, rfl, hca, hca'⟩ := hs.parts
  clear hs hcs hc c0 c1 c2
  go_enter Try.func45, Try.ntmps45
  go_wp2_with fail
  refine K.out.mono ?_
  rintro e w2 ⟨n, h1, h2, rfl, hb2⟩
  have HW2 := Lib.hid hb2
  have H1 := Lib.hid h1
  have H2 := Lib.hid h2
  clear hb2 h1 h2
  go_wp2_with fail
  go_ret
  refine ⟨ret_bool ?_, HW2.out⟩
  cases h : cs.any (sameCopy c)
  · have := H2.out h; simp; omega
  · have := H1.out h; simp; omega
end Go.Proofs.Ytggpodlecljcbab
