/- The walks of a disk's small methods: step, Read, Arm, Down, Sectors; and the reference's. The walks of a disk's Read, and the reference's. The walks of disk.full and the reference's noughts. -/
import Derived.Test.YtggpodlecljcbacSpecK
import Derived.Test.YtggpodlecljcbacBaseE
import Derived.Deep.OwnRows
import Derived.Laws.IdiomStrings
namespace Go.Proofs.Ytggpodlecljcbac
open Go.RowKit Go.Sort
set_option linter.unusedSimpArgs false
set_option linter.unusedVariables false
abbrev DiskAt := DAt 81 100
/-- What a step leaves: the box alone is another one. -/
def Stepped (ty tt : TypeId) (w : World) (L : Dk) (D' : DiskS) (w' : World) : Prop := DAt ty tt w' L D' ∧ Off (fun k => k = L.b) w w' ∧ w'.heap.size = w.heap.size
theorem size_setCell' (w : World) (a : Addr) (v : Value) : (w.setCell a v).heap.size = w.heap.size := by simp [World.setCell]
theorem stepped_two {ty tt : TypeId} {w : World} {L : Dk} {D : DiskS} (h : DAt ty tt w L D) (f : Int) (d : Bool) : Stepped ty tt w L { D with fuse := f, down := d } ((w.setCell ⟨L.b, 4, none⟩ (.bool d)).setCell ⟨L.b, 3, none⟩ (.int .i64 f)) :=
  ⟨(h.set_down d).set_fuse f, (off_setCell (F := fun k => k = L.b) w ⟨L.b, 4, none⟩ rfl _).trans (off_setCell (F := fun k => k = L.b) _ ⟨L.b, 3, none⟩ rfl _) (fun _ _ h => h), by rw [size_setCell', size_setCell']⟩
theorem stepped_fuse {ty tt : TypeId} {w : World} {L : Dk} {D : DiskS} (h : DAt ty tt w L D) (f : Int) : Stepped ty tt w L { D with fuse := f } (w.setCell ⟨L.b, 3, none⟩ (.int .i64 f)) :=
  ⟨h.set_fuse f, off_setCell (F := fun k => k = L.b) w ⟨L.b, 3, none⟩ rfl _, by rw [size_setCell']⟩
theorem stepped_refl {ty tt : TypeId} {w : World} {L : Dk} {D : DiskS} (h : DAt ty tt w L D) : Stepped ty tt w L D w := ⟨h, Off.refl _ _, rfl⟩

theorem disk_step (L : Dk) (D : DiskS) (w : World) (h : DiskAt w L D) (hok : D.ok) :
    Calls Try.prog 74 #[.pointer (some ⟨L.b, 0, none⟩)] w fun e w' => e = .returned (errV (stepD D).2) ∧ Stepped 81 100 w L (stepD D).1 w' := by
  have c3 := h.c3
  have c4 := h.c4
  have f3 := h.f 3
  have f4 := h.f 4
  have l1 := hok.low
  have l2 := hok.high
  have H := Lib.hid h
  obtain ⟨b, gk, gn, ck, cn, wv⟩ := L
  obtain ⟨kept, now, wait, fuse, down⟩ := D
  simp only at c3 c4 f3 f4 l1 l2
  cases down
  · by_cases hf : fuse = 0
    · subst hf
      have S := Lib.hid (stepped_two H.out (-1) true)
      have E : Hid (stepD ⟨kept, now, wait, 0, false⟩ = (⟨kept, now, wait, -1, true⟩, 8)) := Lib.hid (by simp [stepD])
      clear h hok
      go_enter Try.func74, Try.ntmps74
      go_wp2_with fail
      go_ret
      exact ⟨by rw [E.out]; rfl, by rw [E.out]; exact S.out⟩
    · by_cases hn : fuse = -1
      · subst hn
        have E : Hid (stepD ⟨kept, now, wait, -1, false⟩ = (⟨kept, now, wait, -1, false⟩, 0)) := Lib.hid (by simp [stepD])
        have S := Lib.hid (stepped_fuse H.out (-1))
        clear h hok hf
        go_enter Try.func74, Try.ntmps74
        go_wp2_with fail
        go_ret
        exact ⟨by rw [E.out]; rfl, by rw [E.out]; exact S.out⟩
      · have E : Hid (stepD ⟨kept, now, wait, fuse, false⟩ = (⟨kept, now, wait, fuse - 1, false⟩, 0)) := Lib.hid (by
          have : 0 < fuse := by omega
          simp [stepD, hf, this])
        have S := Lib.hid (stepped_fuse H.out (fuse - 1))
        have hp : 0 < fuse := by omega
        clear h hok hn
        go_enter Try.func74, Try.ntmps74
        go_wp2_with fail
        go_ret
        exact ⟨by rw [E.out]; rfl, by rw [E.out]; exact S.out⟩
  · have E : Hid (stepD ⟨kept, now, wait, fuse, true⟩ = (⟨kept, now, wait, fuse, true⟩, 8)) := Lib.hid (by simp [stepD])
    clear h hok
    go_enter Try.func74, Try.ntmps74
    go_wp2_with fail
    go_ret
    exact ⟨by rw [E.out]; rfl, by rw [E.out]; exact stepped_refl H.out⟩

theorem disk_Down (L : Dk) (D : DiskS) (w : World) (h : DiskAt w L D) :
    Calls Try.prog 53 #[.pointer (some ⟨L.b, 0, none⟩)] w fun e w' => e = .returned (.bool D.down) ∧ w' = w := by
  have c4 := h.c4
  have H := Lib.hid h
  clear h
  go_enter Try.func53, Try.ntmps53
  go_wp2_with fail
  go_ret
  exact ⟨rfl, rfl⟩
theorem disk_Sectors (L : Dk) (D : DiskS) (w : World) (h : DiskAt w L D) :
    Calls Try.prog 48 #[.pointer (some ⟨L.b, 0, none⟩)] w fun e w' => e = .returned (.int .i64 D.now.length) ∧ w' = w := by
  have c1 := h.c1
  have hc := (owns_cap h.now).1
  have hm := (owns_cap h.now).2
  have H := Lib.hid h
  clear h
  unfold maxLen at hm
  go_enter Try.func48, Try.ntmps48
  go_wp2_with fail
  go_ret
  exact ⟨rfl, rfl⟩
theorem disk_Arm (L : Dk) (D : DiskS) (n : Int) (w : World) (h : DiskAt w L D) (hn : n ≤ 9223372036854775807) (hn' : -9223372036854775808 ≤ n) :
    Calls Try.prog 20 #[.pointer (some ⟨L.b, 0, none⟩), .int .i64 n] w fun e w' => e = .returned (.tuple #[]) ∧ Stepped 81 100 w L (armD D n) w' := by
  have c3 := h.c3
  have f3 := h.f 3
  have H := Lib.hid h
  clear h
  by_cases hl : n < -1
  · have S : Hid (Stepped 81 100 w L (armD D n) (w.setCell ⟨L.b, 3, none⟩ (.int .i64 (-1)))) := Lib.hid (by
      have : max n (-1) = -1 := by omega
      unfold armD; rw [this]; exact stepped_fuse H.out (-1))
    go_enter Try.func20, Try.ntmps20
    go_wp2_with fail
    go_end0
    exact ⟨rfl, S.out⟩
  · have S : Hid (Stepped 81 100 w L (armD D n) (w.setCell ⟨L.b, 3, none⟩ (.int .i64 n))) := Lib.hid (by
      have : max n (-1) = n := by omega
      unfold armD; rw [this]; exact stepped_fuse H.out n)
    have hl' : -1 ≤ n := by omega
    clear hl
    go_enter Try.func20, Try.ntmps20
    go_wp2_with fail
    go_end0
    exact ⟨rfl, S.out⟩
end Go.Proofs.Ytggpodlecljcbac
namespace Go.Proofs.Ytggpodlecljcbac
open Go.RowKit Go.Sort
set_option linter.unusedSimpArgs false
set_option linter.unusedVariables false
theorem readD_down {D : DiskS} (h : D.down = true) (p : Int) : readD D p = (ByteArray.empty, 8) := by unfold readD; rw [if_pos h]
theorem readD_out {D : DiskS} (h : D.down = false) {p : Int} (hp : p < 0 ∨ (D.now.length : Int) ≤ p) : readD D p = (ByteArray.empty, 1) := by unfold readD; rw [if_neg (by simp [h]), if_pos hp]
theorem readD_at {D : DiskS} (h : D.down = false) (i : Nat) (hi : i < D.now.length) : readD D i = (D.now[i], 0) := by
  unfold readD; rw [if_neg (by simp [h]), if_neg (by omega)]; simp [hi]
theorem disk_Read (L : Dk) (D : DiskS) (p : Int) (w : World) (h : DiskAt w L D) :
    Calls Try.prog 54 #[.pointer (some ⟨L.b, 0, none⟩), .int .i64 p] w fun e w' => e = .returned (.tuple #[.string (readD D p).1, errV (readD D p).2]) ∧ w' = w := by
  have c1 := h.c1
  have c4 := h.c4
  have hc := (owns_cap h.now).1
  have hm := (owns_cap h.now).2
  unfold maxLen at hm
  cases hd : D.down
  · rw [hd] at c4
    by_cases hp : p < 0 ∨ (D.now.length : Int) ≤ p
    · have E := Lib.hid (readD_out hd hp)
      rw [E.out]
      clear h hd E
      rcases hp with hp | hp
      · go_enter Try.func54, Try.ntmps54
        go_wp2_with fail
        refine bodyPost_ret (v := .tuple #[.string ByteArray.empty, errV 1]) (by simp [results, Try.results54, go_sem, errV]; rfl) rfl ?_
        exact ⟨rfl, rfl⟩
      · have hp' : ¬ p < 0 := by omega
        go_enter Try.func54, Try.ntmps54
        go_wp2_with fail
        refine bodyPost_ret (v := .tuple #[.string ByteArray.empty, errV 1]) (by simp [results, Try.results54, go_sem, errV]; rfl) rfl ?_
        exact ⟨rfl, rfl⟩
    · obtain ⟨i, rfl⟩ : ∃ i : Nat, p = i := ⟨p.toNat, by omega⟩
      have hi : i < D.now.length := by omega
      have cn := h.ncell i hi
      have E := Lib.hid (readD_at hd i hi)
      obtain ⟨s, hs⟩ : ∃ s, s = D.now[i] := ⟨_, rfl⟩
      rw [← hs] at cn E
      rw [E.out]
      clear h hd E hs hp
      go_enter Try.func54, Try.ntmps54
      go_wp2_with fail
      refine bodyPost_ret (v := .tuple #[.string s, errV 0]) (by simp [results, Try.results54, go_sem, errV]) rfl ?_
      exact ⟨rfl, rfl⟩
  · rw [hd] at c4
    have E := Lib.hid (readD_down hd p)
    rw [E.out]
    clear h hd E
    go_enter Try.func54, Try.ntmps54
    go_wp2_with fail
    refine bodyPost_ret (v := .tuple #[.string ByteArray.empty, errV 8]) (by simp [results, Try.results54, go_sem, errV]; rfl) rfl ?_
    exact ⟨rfl, rfl⟩
end Go.Proofs.Ytggpodlecljcbac
namespace Go.Proofs.Ytggpodlecljcbac
open Go.RowKit Go.Sort
set_option linter.unusedSimpArgs false
set_option linter.unusedVariables false
theorem bytes_info : (Try.prog.info? 5).map (fun i => (i.zero, i.size, i.bytes)) = some (some (.int .u8 0), 1, 1) := by kernel_rfl
theorem make_bytes (n : Nat) (hn : n ≤ 1000) (w : World) : (Instr.makeSlice 93 (.int .i64 (n : Int)) (.int .i64 (n : Int))).run Try.prog w = .ok (.slice (some ⟨w.heap.size, 0, none⟩) n n) (w.alloc (.cells (madeCells #[.int .u8 0] n) 5)) :=
  run_make_row' (P := Try.prog) 93 5 (.int .u8 0) 1 Try.underlying93 bytes_info rfl .i64 .i64 n (by omega) (by omega) w
theorem conv_zeros (n : Nat) (w : World) : (convert 93 9 (.slice (some ⟨w.heap.size, 0, none⟩) n n)).run Try.prog (w.alloc (.cells (madeCells #[.int .u8 0] n) 5)) = .ok (.string (zeros n)) (w.alloc (.cells (madeCells #[.int .u8 0] n) 5)) := by
  have h := run_convert_bytes_back (P := Try.prog) (w.alloc (.cells (madeCells #[.int .u8 0] n) 5)) 93 9 5 ⟨w.heap.size, 0, none⟩ n (List.replicate n 0) Try.underlying93 Try.underlying5 Try.underlying9 (fun j hj => by
    rw [Addr.add_lit]
    have hj' : j < n := by simpa using hj
    simp [madeCells, hj', Nat.mod_one])
  simp only [List.length_replicate] at h
  rw [h]
  simp [zeros]
theorem disk_full (s : ByteArray) (hs : s.size ≤ 40) (w : World) :
    Calls Try.prog 69 #[.string s] w fun e w' => e = .returned (.string (fullS s)) ∧ Below w.heap.size w w' := by
  obtain ⟨n, hn⟩ : ∃ n, n = 40 - s.size := ⟨_, rfl⟩
  have q : (40 : Int) - (s.size : Int) = (n : Int) := by omega
  have hmk := make_bytes n (by omega)
  have hcv := conv_zeros n
  have HB := Lib.hid (below_alloc w (.cells (madeCells #[.int .u8 0] n) 5))
  have HN := Lib.hid hn
  have hz : ¬ 9223372036854775807 < s.size + (zeros n).size := by rw [zeros_size]; omega
  clear hn
  go_enter Try.func69, Try.ntmps69
  go_wp2_with fail
  go_ret
  exact ⟨by unfold fullS; rw [HN.out]; rfl, HB.out⟩
end Go.Proofs.Ytggpodlecljcbac
