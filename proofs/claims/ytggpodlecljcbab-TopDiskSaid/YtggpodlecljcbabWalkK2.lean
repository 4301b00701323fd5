/- The walks of a disk's Read, and the reference's. -/
import Derived.Test.YtggpodlecljcbabWalkK
namespace Go.Proofs.Ytggpodlecljcbab
open Go.RowKit Go.Sort
set_option linter.unusedSimpArgs false
set_option linter.unusedVariables false
theorem readD_down {D : DiskS} (h : D.down = true) (p : Int) : readD D p = (ByteArray.empty, 8) := by unfold readD; rw [if_pos h]
theorem readD_out {D : DiskS} (h : D.down = false) {p : Int} (hp : p < 0 ∨ (D.now.length : Int) ≤ p) : readD D p = (ByteArray.empty, 1) := by unfold readD; rw [if_neg (by simp [h]), if_pos hp]
theorem readD_at {D : DiskS} (h : D.down = false) (i : Nat) (hi : i < D.now.length) : readD D i = (D.now[i], 0) := by
  unfold readD; rw [if_neg (by simp [h]), if_neg (by omega)]; simp [hi]
theorem disk_Read (L : Dk) (D : DiskS) (p : Int) (w : World) (h : DiskAt w L D) :
    Calls Try.prog 24 #[.pointer (some ⟨L.b, 0, none⟩), .int .i64 p] w fun e w' => e = .returned (.tuple #[.string (readD D p).1, errV (readD D p).2]) ∧ w' = w := by
  have c1 := h.c1
  have c4 := h.c4
  have hc := (owns_cap h.now).1
  have hm := (owns_cap h.now).2
  unfold maxLen at hm
  cases hd : D.down
  · rw [hd] at c4
    by_cases hp : p < 0 ∨ (D.now.length : Int) ≤ p
    · have E := Lib.hid (readD_out hd hp)
      rw [E.out]
      clear h hd E
      rcases hp with hp | hp
      · go_enter Try.func24, Try.ntmps24
        go_wp2_with fail
        refine bodyPost_ret (v := .tuple #[.string ByteArray.empty, errV 1]) (by simp [results, Try.results24, go_sem, errV]; rfl) rfl ?_
        exact ⟨rfl, rfl⟩
      · have hp' : ¬ p < 0 := by omega
        go_enter Try.func24, Try.ntmps24
        go_wp2_with fail
        refine bodyPost_ret (v := .tuple #[.string ByteArray.empty, errV 1]) (by simp [results, Try.results24, go_sem, errV]; rfl) rfl ?_
        exact ⟨rfl, rfl⟩
    · obtain ⟨i, rfl⟩ : ∃ i : Nat, p = i := ⟨p.toNat, by omega⟩
      have hi : i < D.now.length := by omega
      have cn := h.ncell i hi
      have E := Lib.hid (readD_at hd i hi)
      obtain ⟨s, hs⟩ : ∃ s, s = D.now[i] := ⟨_, rfl⟩
      rw [← hs] at cn E
      rw [E.out]
      clear h hd E hs hp
      go_enter Try.func24, Try.ntmps24
      go_wp2_with fail
      refine bodyPost_ret (v := .tuple #[.string s, errV 0]) (by simp [results, Try.results24, go_sem, errV]) rfl ?_
      exact ⟨rfl, rfl⟩
  · rw [hd] at c4
    have E := Lib.hid (readD_down hd p)
    rw [E.out]
    clear h hd E
    go_enter Try.func24, Try.ntmps24
    go_wp2_with fail
    refine bodyPost_ret (v := .tuple #[.string ByteArray.empty, errV 8]) (by simp [results, Try.results24, go_sem, errV]; rfl) rfl ?_
    exact ⟨rfl, rfl⟩
end Go.Proofs.Ytggpodlecljcbab
