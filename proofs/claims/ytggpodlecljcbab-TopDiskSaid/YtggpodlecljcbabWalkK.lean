/- The walks of a disk's small methods: step, Read, Arm, Down, Sectors; and the reference's. -/
import Derived.Test.YtggpodlecljcbabSpecK
import Derived.Test.YtggpodlecljcbabBaseE
namespace Go.Proofs.Ytggpodlecljcbab
open Go.RowKit Go.Sort
set_option linter.unusedSimpArgs false
set_option linter.unusedVariables false
abbrev DiskAt := DAt 99 102
/-- What a step leaves: the box alone is another one. -/
def Stepped (ty tt : TypeId) (w : World) (L : Dk) (D' : DiskS) (w' : World) : Prop := DAt ty tt w' L D' ∧ Off (fun k => k = L.b) w w' ∧ w'.heap.size = w.heap.size
theorem size_setCell' (w : World) (a : Addr) (v : Value) : (w.setCell a v).heap.size = w.heap.size := by simp [World.setCell]
theorem stepped_two {ty tt : TypeId} {w : World} {L : Dk} {D : DiskS} (h : DAt ty tt w L D) (f : Int) (d : Bool) : Stepped ty tt w L { D with fuse := f, down := d } ((w.setCell ⟨L.b, 4, none⟩ (.bool d)).setCell ⟨L.b, 3, none⟩ (.int .i64 f)) :=
  ⟨(h.set_down d).set_fuse f, (off_setCell (F := fun k => k = L.b) w ⟨L.b, 4, none⟩ rfl _).trans (off_setCell (F := fun k => k = L.b) _ ⟨L.b, 3, none⟩ rfl _) (fun _ _ h => h), by rw [size_setCell', size_setCell']⟩
theorem stepped_fuse {ty tt : TypeId} {w : World} {L : Dk} {D : DiskS} (h : DAt ty tt w L D) (f : Int) : Stepped ty tt w L { D with fuse := f } (w.setCell ⟨L.b, 3, none⟩ (.int .i64 f)) :=
  ⟨h.set_fuse f, off_setCell (F := fun k => k = L.b) w ⟨L.b, 3, none⟩ rfl _, by rw [size_setCell']⟩
theorem stepped_refl {ty tt : TypeId} {w : World} {L : Dk} {D : DiskS} (h : DAt ty tt w L D) : Stepped ty tt w L D w := ⟨h, Off.refl _ _, rfl⟩

theorem disk_step (L : Dk) (D : DiskS) (w : World) (h : DiskAt w L D) (hok : D.ok) :
    Calls Try.prog 51 #[.pointer (some ⟨L.b, 0, none⟩)] w fun e w' => e = .returned (errV (stepD D).2) ∧ Stepped 99 102 w L (stepD D).1 w' := by
  have c3 := h.c3
  have c4 := h.c4
  have f3 := h.f 3
  have f4 := h.f 4
  have l1 := hok.low
  have l2 := hok.high
  have H := Lib.hid h
  obtain ⟨b, gk, gn, ck, cn, wv⟩ := L
  obtain ⟨kept, now, wait, fuse, down⟩ := D
  simp only at c3 c4 f3 f4 l1 l2
  cases down
  · by_cases hf : fuse = 0
    · subst hf
      have S := Lib.hid (stepped_two H.out (-1) true)
      have E : Hid (stepD ⟨kept, now, wait, 0, false⟩ = (⟨kept, now, wait, -1, true⟩, 8)) := Lib.hid (by simp [stepD])
      clear h hok
      go_enter Try.func51, Try.ntmps51
      go_wp2_with fail
      go_ret
      exact ⟨by rw [E.out]; rfl, by rw [E.out]; exact S.out⟩
    · by_cases hn : fuse = -1
      · subst hn
        have E : Hid (stepD ⟨kept, now, wait, -1, false⟩ = (⟨kept, now, wait, -1, false⟩, 0)) := Lib.hid (by simp [stepD])
        have S := Lib.hid (stepped_fuse H.out (-1))
        clear h hok hf
        go_enter Try.func51, Try.ntmps51
        go_wp2_with fail
        go_ret
        exact ⟨by rw [E.out]; rfl, by rw [E.out]; exact S.out⟩
      · have E : Hid (stepD ⟨kept, now, wait, fuse, false⟩ = (⟨kept, now, wait, fuse - 1, false⟩, 0)) := Lib.hid (by
          have : 0 < fuse := by omega
          simp [stepD, hf, this])
        have S := Lib.hid (stepped_fuse H.out (fuse - 1))
        have hp : 0 < fuse := by omega
        clear h hok hn
        go_enter Try.func51, Try.ntmps51
        go_wp2_with fail
        go_ret
        exact ⟨by rw [E.out]; rfl, by rw [E.out]; exact S.out⟩
  · have E : Hid (stepD ⟨kept, now, wait, fuse, true⟩ = (⟨kept, now, wait, fuse, true⟩, 8)) := Lib.hid (by simp [stepD])
    clear h hok
    go_enter Try.func51, Try.ntmps51
    go_wp2_with fail
    go_ret
    exact ⟨by rw [E.out]; rfl, by rw [E.out]; exact stepped_refl H.out⟩

theorem disk_Down (L : Dk) (D : DiskS) (w : World) (h : DiskAt w L D) :
    Calls Try.prog 58 #[.pointer (some ⟨L.b, 0, none⟩)] w fun e w' => e = .returned (.bool D.down) ∧ w' = w := by
  have c4 := h.c4
  have H := Lib.hid h
  clear h
  go_enter Try.func58, Try.ntmps58
  go_wp2_with fail
  go_ret
  exact ⟨rfl, rfl⟩
theorem disk_Sectors (L : Dk) (D : DiskS) (w : World) (h : DiskAt w L D) :
    Calls Try.prog 21 #[.pointer (some ⟨L.b, 0, none⟩)] w fun e w' => e = .returned (.int .i64 D.now.length) ∧ w' = w := by
  have c1 := h.c1
  have hc := (owns_cap h.now).1
  have hm := (owns_cap h.now).2
  have H := Lib.hid h
  clear h
  unfold maxLen at hm
  go_enter Try.func21, Try.ntmps21
  go_wp2_with fail
  go_ret
  exact ⟨rfl, rfl⟩
theorem disk_Arm (L : Dk) (D : DiskS) (n : Int) (w : World) (h : DiskAt w L D) (hn : n ≤ 9223372036854775807) (hn' : -9223372036854775808 ≤ n) :
    Calls Try.prog 34 #[.pointer (some ⟨L.b, 0, none⟩), .int .i64 n] w fun e w' => e = .returned (.tuple #[]) ∧ Stepped 99 102 w L (armD D n) w' := by
  have c3 := h.c3
  have f3 := h.f 3
  have H := Lib.hid h
  clear h
  by_cases hl : n < -1
  · have S : Hid (Stepped 99 102 w L (armD D n) (w.setCell ⟨L.b, 3, none⟩ (.int .i64 (-1)))) := Lib.hid (by
      have : max n (-1) = -1 := by omega
      unfold armD; rw [this]; exact stepped_fuse H.out (-1))
    go_enter Try.func34, Try.ntmps34
    go_wp2_with fail
    go_end0
    exact ⟨rfl, S.out⟩
  · have S : Hid (Stepped 99 102 w L (armD D n) (w.setCell ⟨L.b, 3, none⟩ (.int .i64 n))) := Lib.hid (by
      have : max n (-1) = n := by omega
      unfold armD; rw [this]; exact stepped_fuse H.out n)
    have hl' : -1 ≤ n := by omega
    clear hl
    go_enter Try.func34, Try.ntmps34
    go_wp2_with fail
    go_end0
    exact ⟨rfl, S.out⟩
end Go.Proofs.Ytggpodlecljcbab
