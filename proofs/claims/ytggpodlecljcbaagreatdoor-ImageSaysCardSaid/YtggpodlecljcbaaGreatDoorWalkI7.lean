/- The walk of the document's RowsOf. -/
import Derived.Test.YtggpodlecljcbaaGreatDoorWalkI2
import Derived.Test.YtggpodlecljcbaaGreatDoorWalkI6
namespace Go.Proofs.YtggpodlecljcbaaGreatDoor
set_option linter.unusedSimpArgs false
set_option linter.unusedVariables false
open Go.RowKit Go.Sort
set_option maxRecDepth 100000 in
set_option maxHeartbeats 8000000 in
theorem ref_RowsOf (qv : Value) (q : Quilt) (w : World) (hq : Quilts w qv q) (hl : q.files.length ≤ 100) (hf : ∀ f ∈ q.files, 1 ≤ f.times ∧ f.times ≤ 9999 ∧ f.name.size ≤ 1000 ∧ f.text.size ≤ 1000) (ht : 0 ≤ q.turn ∧ q.turn ≤ 9999) :
    Calls Tryz.prog 10 #[qv] w fun e w' => ∃ v, e = .returned v ∧ w'.ownsRow w.heap.size 41 3 v (rowsQ q).length ((rowsQ q).flatMap Change.cells) ∧ Below w.heap.size w w' := by
  obtain ⟨vf, rfl, hfs⟩ := hq
  obtain ⟨ao, ac, rfl, hac, hac'⟩ := hfs.parts
  obtain ⟨fs, tn⟩ := q
  dsimp only at hfs hl hf ht hac
  have HFS := Lib.hid hfs
  have HF := Lib.hid hf
  have HT := Lib.hid ht
  have CF : Hid (∀ n : Int, 0 ≤ n → n ≤ 9999 → ∀ W, Below w.heap.size w W → Calls Tryz.prog 21 #[.int .i64 n] W fun e w' => e = .returned (.string (fourI n)) ∧ Below W.heap.size W w') := Lib.hid (fun n h1 h2 W hb => by
    obtain ⟨m, rfl⟩ : ∃ m : Nat, n = (m : Int) := ⟨n.toNat, by omega⟩
    exact ref_noughted m (by omega) W)
  clear hfs hf ht
  go_enter Tryz.func10, Tryz.ntmps10
  go_wp2_with fail
  obtain ⟨W1, hW1⟩ : ∃ W1, W1 = w.alloc (.cells #[.slice ao fs.length ac, .int .i64 tn] 24) := ⟨_, rfl⟩
  rw [← hW1]
  have HB1 : Hid (Below w.heap.size w W1) := Lib.hid (by rw [hW1]; exact below_alloc _ _)
  have HQ0 : Hid (∀ W, Below W1.heap.size W1 W → W.cell? ⟨w.heap.size, 0, none⟩ = some (.slice ao fs.length ac)) := Lib.hid fun W hb => cell_on' hb (by rw [hW1]; simp)
  have HQ1 : Hid (∀ W, Below W1.heap.size W1 W → W.cell? ⟨w.heap.size, 1, none⟩ = some (.int .i64 tn)) := Lib.hid fun W hb => cell_on' hb (by rw [hW1]; simp)
  clear hW1
  go_loopw [3, 4] (fun v iv wr => ∃ k : Nat, k ≤ fs.length ∧ iv = .int .i64 k ∧ wr.ownsRow W1.heap.size 41 3 v k (((fs.take k).map rowF).flatMap Change.cells) ∧ Below W1.heap.size W1 wr) (fun _ iv _ => fs.length - (intOf iv).toNat)
  case atStart => exact ⟨0, Nat.zero_le _, rfl, World.ownsRow_nil _ _ _ _, Below.refl _ _⟩
  case round =>
    obtain ⟨k, hk, rfl, ho, hbw⟩ := hrel
    obtain ⟨lo, lc, rfl, hlc, hlc'⟩ := own_sliceI ho
    have HO := Lib.hid ho
    have HBW := Lib.hid hbw
    clear ho hbw
    by_cases hlt : k < fs.length
    · obtain ⟨fb, fo, rfl, hlb, x0, x1, x2⟩ := Files.cell (Rd.below HFS.out (two HB1.out HBW.out)) k hlt
      have y0 := HQ0.out wr HBW.out
      have hff := HF.out fs[k] (List.getElem_mem hlt)
      have hrn := rows_next fs k hlt
      obtain ⟨f, hfe⟩ : ∃ f, f = fs[k] := ⟨_, rfl⟩
      rw [← hfe] at x0 x1 x2 hff hrn
      have HRN := Lib.hid hrn
      have HFF := Lib.hid hff
      obtain ⟨W3, hW3⟩ : ∃ W3, W3 = wr.alloc (.cells #[.string f.name, .string f.text, .int .i64 f.times] 48) := ⟨_, rfl⟩
      have HB3 : Hid (Below wr.heap.size wr W3) := Lib.hid (by rw [hW3]; exact below_alloc _ _)
      have HC3 : Hid (∀ W, Below W3.heap.size W3 W → W.cell? ⟨wr.heap.size, 0, none⟩ = some (.string f.name) ∧ W.cell? ⟨wr.heap.size, 1, none⟩ = some (.string f.text) ∧ W.cell? ⟨wr.heap.size, 2, none⟩ = some (.int .i64 f.times)) := Lib.hid fun W hb => ⟨cell_on' hb (by rw [hW3]; simp), cell_on' hb (by rw [hW3]; simp), cell_on' hb (by rw [hW3]; simp)⟩
      have HW3 := Lib.hid hW3
      have CF3 : Hid (∀ W, Below W3.heap.size W3 W → Calls Tryz.prog 21 #[.int .i64 f.times] W fun e w' => e = .returned (.string (fourI f.times)) ∧ Below W.heap.size W w') := Lib.hid (fun W hb => CF.out f.times (by omega) (by omega) W (two HB1.out (two HBW.out (two HB3.out hb))))
      have hs1 : (⟨#[102]⟩ : ByteArray).size + f.name.size ≤ 9223372036854775807 := by
        have : (⟨#[102]⟩ : ByteArray).size = 1 := rfl
        omega
      have hs3 : 1 + f.name.size ≤ 9223372036854775807 := by omega
      have hs4 : ¬ 9223372036854775807 < 1 + f.name.size := by omega
      have hs2 : (fourI f.times).size + f.text.size ≤ 9223372036854775807 := by
        obtain ⟨m, hm⟩ : ∃ m : Nat, f.times = (m : Int) := ⟨f.times.toNat, by omega⟩
        rw [hm, four_size m (by omega)]
        omega
      have hs5 : ¬ 9223372036854775807 < (fourI f.times).size + f.text.size := by omega
      have hs6 : ((fourI f.times).size : Int) + (f.text.size : Int) ≤ 9223372036854775807 := by omega
      have hs7 : ¬ (9223372036854775807 : Int) < ((fourI f.times).size : Int) + (f.text.size : Int) := by omega
      have HOA : Hid (∀ W, Below W3.heap.size W3 W → W.ownsRow W1.heap.size 41 3 (.slice lo k lc) (k : Nat) (((fs.take k).map rowF).flatMap Change.cells) ∧ W1.heap.size ≤ W.heap.size) := Lib.hid (fun W hb => ⟨own_belowI HO.out (two HB3.out hb), by have h1 := HBW.out.size; have h2 := HB3.out.size; have h3 := hb.size; omega⟩)
      have hk100 : k ≤ 100 := by omega
      have HNB : Hid ((Value.slice lo k lc).ownBlock ≠ some wr.heap.size) := Lib.hid (fun e => by have := (HO.out.lt _ e).2; omega)
      clear hrn hfe hW3 hff
      go_wp2_with fail
      rw [← HW3.out]
      clear x0 x1 x2 hlb y0
      go_region_held3 (fun W => W.cell? ⟨wr.heap.size, 0, none⟩ = some (.string f.name) ∧ W.cell? ⟨wr.heap.size, 1, none⟩ = some (.string f.text) ∧ W.cell? ⟨wr.heap.size, 2, none⟩ = some (.int .i64 f.times))
        (first
          | exact HC3.out _ (Below.refl _ _).drew
          | exact HC3.out _ (HBA : Hid _).out
          | exact HC3.out _ (two (HBA : Hid _).out (below_alloc _ _))
          | exact (HKZ : Hid _).out)
        (first
          | (go_at_call 21; refine (CF3.out _ (Below.refl _ _).drew).mono ?_; rintro e wA ⟨rfl, hba⟩; have HBA : Hid (Below W3.heap.size W3 wA) := Lib.hid (two (Below.refl _ _).drew hba); clear hba)
          | (refine step_ownI _ rfl (.tmp 18) (.tmp 29) 25 rfl W1.heap.size 41 3 40 I_changes (.slice lo k lc) k _ (by simp [Act.eval, Act.put]) ((HOA.out _ (HBA : Hid _).out).1.alloc _) ⟨wA.heap.size, 0, none⟩ 1 1 [.string (fB ++ f.name), .string (fourI f.times ++ f.text), .bool false] (by simp [Act.eval, Act.put]) rfl three_new (by simp [Value.oneCell']) (by omega) (by have := (HOA.out _ (HBA : Hid _).out).2; simp; omega) ?_; intro v2 w2 ho2 hg2; have HO2 := Lib.hid ho2; have HG2 := Lib.hid hg2; have HKZ := Lib.hid (And.intro (cell_grownI hg2 (HC3.out _ (two (HBA : Hid _).out (below_alloc _ _))).1 HNB.out) (And.intro (cell_grownI hg2 (HC3.out _ (two (HBA : Hid _).out (below_alloc _ _))).2.1 HNB.out) (cell_grownI hg2 (HC3.out _ (two (HBA : Hid _).out (below_alloc _ _))).2.2 HNB.out))); clear ho2 hg2))
      all_goals
        have HO3 : Hid (w2.ownsRow W1.heap.size 41 3 v2 (k + 1) (((fs.take (k + 1)).map rowF).flatMap Change.cells)) := Lib.hid (by rw [HRN.out]; exact HO2.out)
        have HBZ : Hid (Below W1.heap.size W1 w2) := Lib.hid (grown_below (two HBW.out (two HB3.out (two HBA.out (below_alloc _ _)))) ((HOA.out _ HBA.out).1.alloc _) HG2.out (Nat.le_refl _))
        go_wp2_with fail
        go_roundw
        case rel => exact ⟨k + 1, by omega, by go_num, HO3.out, HBZ.out⟩
        case measure => simp [intOf]; omega
    · obtain rfl : k = fs.length := by omega
      have x1 := HQ1.out wr HBW.out
      have y0 := HQ0.out wr HBW.out
      have CFT := Lib.hid (CF.out tn (by have := HT.out; omega) (by have := HT.out; omega) wr (two HB1.out HBW.out))
      go_wp2_with fail
      refine CFT.out.mono ?_
      rintro e wA ⟨rfl, hba⟩
      have HBA := Lib.hid (two HBW.out hba)
      have HOA := Lib.hid (own_belowI HO.out hba)
      have hz := HBA.out.size
      clear hba x1 y0
      go_wp2_with (at_builtin; refine wpList_app I_changes rfl _ _ rfl W1.heap.size _ _ _ rfl (HOA.out.alloc _) ⟨wA.heap.size, 0, none⟩ 1 1 [.string turnB, .string (fourI tn), .bool false] rfl rfl ?c1 ?c2 ?c3 ?c4 ?_)
      case c1 => exact three_new
      case c2 => intro u hu; simp at hu; rcases hu with rfl | rfl | rfl <;> rfl
      case c3 => omega
      case c4 => simp; omega
      intro v3 w3 ho3 hg3
      have HB3 := Lib.hid (grown_below (two HBA.out (below_alloc wA (.cells #[.string turnB, .string (fourI tn), .bool false] 41))) (HOA.out.alloc _) hg3 (Nat.le_refl _))
      have HO3 : Hid (w3.ownsRow w.heap.size 41 3 v3 (rowsQ ⟨fs, tn⟩).length ((rowsQ ⟨fs, tn⟩).flatMap Change.cells)) := Lib.hid (by
        have e1 : (rowsQ ⟨fs, tn⟩).length = fs.length + 1 := by simp [rowsQ]
        have e2 : (rowsQ ⟨fs, tn⟩).flatMap Change.cells = ((fs.take fs.length).map rowF).flatMap Change.cells ++ [.string turnB, .string (fourI tn), .bool false] := by
          rw [List.take_length]
          unfold rowsQ
          rw [List.flatMap_append]
          rfl
        rw [e1, e2, List.take_length]
        exact own_baseI ho3 HB1.out.size)
      clear ho3 hg3
      go_wp2_with fail
      go_ret
      exact ⟨_, rfl, HO3.out, two HB1.out HB3.out⟩
end Go.Proofs.YtggpodlecljcbaaGreatDoor
