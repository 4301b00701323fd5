/- The walk of image.Rows. -/
import Derived.Test.YtggpodlecljcbaaGreatDoorWalkI
import Derived.Test.YtggpodlecljcbaaGreatDoorWalkX4
import Derived.Maps.AppendAt
import Derived.Deep.RegionHeld3
namespace Go.Proofs.YtggpodlecljcbaaGreatDoor
set_option linter.unusedSimpArgs false
set_option linter.unusedVariables false
open Go.RowKit Go.Sort
theorem step_ownI {P : Program} (w : World) {ops : Array Oper} {o : Oper} {a : Go.Act} {K : Go.Act → World → Prop} {Q : Exit → Go.Act → World → Prop} {E : Prop} (hgd : o.guard = none) (s x : Operand) (t : TypeId)
    (ho : o.op = .call { callee := .builtin .append, args := #[s, x], argTypes := #[t, t] })
    (base : Nat) (e : TypeId) (size bytes : Nat) (I : ElemInfo P t e size bytes)
    (v : Value) (n : Nat) (xs : List Value) (hs : a.eval s = v) (hown : w.ownsRow base e size v n xs)
    (ad : Addr) (m c : Nat) (news : List Value) (hx : a.eval x = .slice (some ad) m c) (hl : news.length = m * size) (hnews : ∀ j u, news[j]? = some u → w.cell? (ad.add j) = some u) (h1 : ∀ u ∈ news, u.oneCell' = true)
    (h63 : n + m ≤ 1000000000) (hbase : base ≤ w.heap.size)
    (h : ∀ v' w', w'.ownsRow base e size v' (n + m) (xs ++ news) → w.grownBy w' v.ownBlock → K (a.put o.dst v') w') :
    if Region.wanted o (yielded ops a.tmps) = true then Oper.wp P o a w K Q else E := by
  have hw : Region.wanted o (yielded ops a.tmps) = true := by simp [Region.wanted, hgd]
  rw [if_pos hw]
  obtain ⟨i, z, e1, e2, e3, e4, e5, e6, e7, e8⟩ := I
  obtain ⟨v', w', hr, h2, h3, _, _⟩ := run_append_own_at (P := P) w base t o.type e i z size bytes e1 e2 e3 e4 e5 e6 e7 v n xs hown ad m c news hl hnews h1 (by unfold maxLen; omega) (by
    calc (n + m) * bytes ≤ 1000000000 * 100 := Nat.mul_le_mul h63 e8
      _ ≤ 140737488355328 := by decide) hbase
  unfold Oper.wp execOp
  simp only [ho, resolve, invoke, builtin, Sem.run_bind, Sem.run_pure, Result.andThen_ok, List.map_toArray, List.map_cons, List.map_nil, hs, hx, hr]
  exact h v' w' h2 h3
theorem own_belowI {w w' : World} {base e k n : Nat} {v : Value} {xs : List Value} (h : w.ownsRow base e k v n xs) (hb : Below w.heap.size w w') : w'.ownsRow base e k v n xs :=
  h.kept (⟨hb.os, hb.tape, hb.output, hb.size, fun j hj _ => hb.block j hj⟩ : World.grownBy _ _ none) (by cases h : Value.ownBlock _ <;> simp)
theorem cell_grownI {w w' : World} {row : Option Nat} {b o : Nat} {v : Value} (hg : w.grownBy w' row) (hc : w.cell? ⟨b, o, none⟩ = some v) (hne : row ≠ some b) : w'.cell? ⟨b, o, none⟩ = some v := by
  have hlt := World.block_lt_of_cell? w _ hc
  have h := hg.block b hlt (fun e => hne e.symm)
  simpa [World.cell?, h] using hc
theorem own_sliceI {w : World} {base e k n : Nat} {v : Value} {xs : List Value} (h : w.ownsRow base e k v n xs) : ∃ ao cap, v = .slice ao n cap ∧ n ≤ cap ∧ cap ≤ 9223372036854775807 := by
  obtain ⟨_, h2⟩ := h
  rcases h2 with ⟨rfl, rfl⟩ | ⟨g, cap, cur, rfl, _, _, hn, hm, _⟩
  · exact ⟨none, 0, rfl, Nat.le_refl _, by decide⟩
  · exact ⟨_, _, rfl, hn, by unfold maxLen at hm; omega⟩
theorem own_baseI {w : World} {base base' e k n : Nat} {v : Value} {xs : List Value} (h : w.ownsRow base e k v n xs) (hb : base' ≤ base) : w.ownsRow base' e k v n xs := by
  obtain ⟨h1, h2⟩ := h
  refine ⟨h1, ?_⟩
  rcases h2 with h2 | ⟨g, cap, cur, a1, a2, a3⟩
  · exact Or.inl h2
  · exact Or.inr ⟨g, cap, cur, a1, by omega, a3⟩
theorem rows_next (fs : List File) (k : Nat) (h : k < fs.length) : ((fs.take (k + 1)).map rowF).flatMap Change.cells = ((fs.take k).map rowF).flatMap Change.cells ++ [.string (fB ++ fs[k].name), .string (fourI fs[k].times ++ fs[k].text), .bool false] := by
  rw [List.take_succ_eq_append_getElem h, List.map_append, List.flatMap_append]
  rfl
set_option maxRecDepth 100000 in
set_option maxHeartbeats 8000000 in
theorem image_Rows (qv : Value) (q : Quilt) (w : World) (hq : Quilts w qv q) (hg : GlobI w) (hl : q.files.length ≤ 100) (hf : ∀ f ∈ q.files, 1 ≤ f.times ∧ f.times ≤ 9999 ∧ f.name.size ≤ 1000 ∧ f.text.size ≤ 1000) (ht : 0 ≤ q.turn ∧ q.turn ≤ 9999) :
    Calls Tryz.prog 9 #[qv] w fun e w' => ∃ v, e = .returned v ∧ w'.ownsRow w.heap.size 41 3 v (rowsQ q).length ((rowsQ q).flatMap Change.cells) ∧ Below w.heap.size w w' := by
  obtain ⟨vf, rfl, hfs⟩ := hq
  obtain ⟨ao, ac, rfl, hac, hac'⟩ := hfs.parts
  obtain ⟨fs, tn⟩ := q
  dsimp only at hfs hl hf ht hac
  have HFS := Lib.hid hfs
  have HG := Lib.hid hg
  have HF := Lib.hid hf
  have HT := Lib.hid ht
  have CF : Hid (∀ n : Int, -9999 ≤ n → n ≤ 99999 → ∀ W, Below w.heap.size w W → Calls Tryz.prog 20 #[.int .i64 n] W fun e w' => e = .returned (.string (fourI n)) ∧ Below W.heap.size W w') := Lib.hid (fun n h1 h2 W hb => image_four n h1 h2 W (hg.below hb))
  clear hfs hg hf ht
  go_enter Tryz.func9, Tryz.ntmps9
  go_wp2_with fail
  obtain ⟨W1, hW1⟩ : ∃ W1, W1 = w.alloc (.cells #[.slice ao fs.length ac, .int .i64 tn] 24) := ⟨_, rfl⟩
  rw [← hW1]
  have HB1 : Hid (Below w.heap.size w W1) := Lib.hid (by rw [hW1]; exact below_alloc _ _)
  have HQ1 : Hid (∀ W, Below W1.heap.size W1 W → W.cell? ⟨w.heap.size, 1, none⟩ = some (.int .i64 tn)) := Lib.hid fun W hb => cell_on' hb (by rw [hW1]; simp)
  clear hW1
  go_loopw [3, 9] (fun v iv wr => ∃ k : Nat, k ≤ fs.length ∧ iv = .int .i64 k ∧ wr.ownsRow W1.heap.size 41 3 v k (((fs.take k).map rowF).flatMap Change.cells) ∧ Below W1.heap.size W1 wr) (fun _ iv _ => fs.length - (intOf iv).toNat)
  case atStart => exact ⟨0, Nat.zero_le _, rfl, World.ownsRow_nil _ _ _ _, Below.refl _ _⟩
  case round =>
    obtain ⟨k, hk, rfl, ho, hbw⟩ := hrel
    obtain ⟨lo, lc, rfl, hlc, hlc'⟩ := own_sliceI ho
    have HO := Lib.hid ho
    have HBW := Lib.hid hbw
    clear ho hbw
    by_cases hlt : k < fs.length
    · obtain ⟨fb, fo, rfl, hlb, x0, x1, x2⟩ := Files.cell (Rd.below HFS.out (two HB1.out HBW.out)) k hlt
      have hff := HF.out fs[k] (List.getElem_mem hlt)
      have hrn := rows_next fs k hlt
      obtain ⟨f, hfe⟩ : ∃ f, f = fs[k] := ⟨_, rfl⟩
      rw [← hfe] at x0 x1 x2 hff hrn
      have HRN := Lib.hid hrn
      have HFF := Lib.hid hff
      obtain ⟨W3, hW3⟩ : ∃ W3, W3 = wr.alloc (.cells #[.string f.name, .string f.text, .int .i64 f.times] 48) := ⟨_, rfl⟩
      have HB3 : Hid (Below wr.heap.size wr W3) := Lib.hid (by rw [hW3]; exact below_alloc _ _)
      have HC3 : Hid (∀ W, Below W3.heap.size W3 W → W.cell? ⟨wr.heap.size, 0, none⟩ = some (.string f.name) ∧ W.cell? ⟨wr.heap.size, 1, none⟩ = some (.string f.text) ∧ W.cell? ⟨wr.heap.size, 2, none⟩ = some (.int .i64 f.times)) := Lib.hid fun W hb => ⟨cell_on' hb (by rw [hW3]; simp), cell_on' hb (by rw [hW3]; simp), cell_on' hb (by rw [hW3]; simp)⟩
      have HW3 := Lib.hid hW3
      have CF3 : Hid (∀ W, Below W3.heap.size W3 W → Calls Tryz.prog 20 #[.int .i64 f.times] W fun e w' => e = .returned (.string (fourI f.times)) ∧ Below W.heap.size W w') := Lib.hid (fun W hb => CF.out f.times (by omega) (by omega) W (two HB1.out (two HBW.out (two HB3.out hb))))
      have hs1 : (⟨#[102]⟩ : ByteArray).size + f.name.size ≤ 9223372036854775807 := by
        have : (⟨#[102]⟩ : ByteArray).size = 1 := rfl
        omega
      have hs3 : 1 + f.name.size ≤ 9223372036854775807 := by omega
      have hs4 : ¬ 9223372036854775807 < 1 + f.name.size := by omega
      have hs2 : (fourI f.times).size + f.text.size ≤ 9223372036854775807 := by
        obtain ⟨m, hm⟩ : ∃ m : Nat, f.times = (m : Int) := ⟨f.times.toNat, by omega⟩
        rw [hm, four_size m (by omega)]
        omega
      have hs5 : ¬ 9223372036854775807 < (fourI f.times).size + f.text.size := by omega
      have hs6 : ((fourI f.times).size : Int) + (f.text.size : Int) ≤ 9223372036854775807 := by omega
      have hs7 : ¬ (9223372036854775807 : Int) < ((fourI f.times).size : Int) + (f.text.size : Int) := by omega
      have HOA : Hid (∀ W, Below W3.heap.size W3 W → W.ownsRow W1.heap.size 41 3 (.slice lo k lc) (k : Nat) (((fs.take k).map rowF).flatMap Change.cells) ∧ W1.heap.size ≤ W.heap.size) := Lib.hid (fun W hb => ⟨own_belowI HO.out (two HB3.out hb), by have h1 := HBW.out.size; have h2 := HB3.out.size; have h3 := hb.size; omega⟩)
      have hk100 : k ≤ 100 := by omega
      have HNB : Hid ((Value.slice lo k lc).ownBlock ≠ some wr.heap.size) := Lib.hid (fun e => by have := (HO.out.lt _ e).2; omega)
      clear hrn hfe hW3 hff
      go_wp2_with fail
      rw [← HW3.out]
      clear x0 x1 x2 hlb
      go_region_held3 (fun W => W.cell? ⟨wr.heap.size, 0, none⟩ = some (.string f.name) ∧ W.cell? ⟨wr.heap.size, 1, none⟩ = some (.string f.text) ∧ W.cell? ⟨wr.heap.size, 2, none⟩ = some (.int .i64 f.times))
        (first
          | exact HC3.out _ (Below.refl _ _).drew
          | exact HC3.out _ (HBA : Hid _).out
          | exact HC3.out _ (two (HBA : Hid _).out (below_alloc _ _))
          | exact (HKZ : Hid _).out)
        (first
          | (go_at_call 20; refine (CF3.out _ (Below.refl _ _).drew).mono ?_; rintro e wA ⟨rfl, hba⟩; have HBA : Hid (Below W3.heap.size W3 wA) := Lib.hid (two (Below.refl _ _).drew hba); clear hba)
          | (refine step_ownI _ rfl (.tmp 13) (.tmp 24) 25 rfl W1.heap.size 41 3 40 I_changes (.slice lo k lc) k _ (by simp [Act.eval, Act.put]) ((HOA.out _ (HBA : Hid _).out).1.alloc _) ⟨wA.heap.size, 0, none⟩ 1 1 [.string (fB ++ f.name), .string (fourI f.times ++ f.text), .bool false] (by simp [Act.eval, Act.put]) rfl three_new (by simp [Value.oneCell']) (by omega) (by have := (HOA.out _ (HBA : Hid _).out).2; simp; omega) ?_; intro v2 w2 ho2 hg2; have HO2 := Lib.hid ho2; have HG2 := Lib.hid hg2; have HKZ := Lib.hid (And.intro (cell_grownI hg2 (HC3.out _ (two (HBA : Hid _).out (below_alloc _ _))).1 HNB.out) (And.intro (cell_grownI hg2 (HC3.out _ (two (HBA : Hid _).out (below_alloc _ _))).2.1 HNB.out) (cell_grownI hg2 (HC3.out _ (two (HBA : Hid _).out (below_alloc _ _))).2.2 HNB.out))); clear ho2 hg2))
      all_goals
        have HO3 : Hid (w2.ownsRow W1.heap.size 41 3 v2 (k + 1) (((fs.take (k + 1)).map rowF).flatMap Change.cells)) := Lib.hid (by rw [HRN.out]; exact HO2.out)
        have HBZ : Hid (Below W1.heap.size W1 w2) := Lib.hid (grown_below (two HBW.out (two HB3.out (two HBA.out (below_alloc _ _)))) ((HOA.out _ HBA.out).1.alloc _) HG2.out (Nat.le_refl _))
        go_wp2_with fail
        go_roundw
        case rel => exact ⟨k + 1, by omega, by go_num, HO3.out, HBZ.out⟩
        case measure => simp [intOf]; omega
    · obtain rfl : k = fs.length := by omega
      have x1 := HQ1.out wr HBW.out
      have CFT := Lib.hid (CF.out tn (by have := HT.out; omega) (by have := HT.out; omega) wr (two HB1.out HBW.out))
      go_wp2_with fail
      refine CFT.out.mono ?_
      rintro e wA ⟨rfl, hba⟩
      have HBA := Lib.hid (two HBW.out hba)
      have HOA := Lib.hid (own_belowI HO.out hba)
      have hz := HBA.out.size
      clear hba x1
      go_wp2_with (at_builtin; refine wpList_app I_changes rfl _ _ rfl W1.heap.size _ _ _ rfl (HOA.out.alloc _) ⟨wA.heap.size, 0, none⟩ 1 1 [.string turnB, .string (fourI tn), .bool false] rfl rfl ?c1 ?c2 ?c3 ?c4 ?_)
      case c1 => exact three_new
      case c2 => intro u hu; simp at hu; rcases hu with rfl | rfl | rfl <;> rfl
      case c3 => omega
      case c4 => simp; omega
      intro v3 w3 ho3 hg3
      have HB3 := Lib.hid (grown_below (two HBA.out (below_alloc wA (.cells #[.string turnB, .string (fourI tn), .bool false] 41))) (HOA.out.alloc _) hg3 (Nat.le_refl _))
      have HO3 : Hid (w3.ownsRow w.heap.size 41 3 v3 (rowsQ ⟨fs, tn⟩).length ((rowsQ ⟨fs, tn⟩).flatMap Change.cells)) := Lib.hid (by
        have e1 : (rowsQ ⟨fs, tn⟩).length = fs.length + 1 := by simp [rowsQ]
        have e2 : (rowsQ ⟨fs, tn⟩).flatMap Change.cells = ((fs.take fs.length).map rowF).flatMap Change.cells ++ [.string turnB, .string (fourI tn), .bool false] := by
          rw [List.take_length]
          unfold rowsQ
          rw [List.flatMap_append]
          rfl
        rw [e1, e2, List.take_length]
        exact own_baseI ho3 HB1.out.size)
      clear ho3 hg3
      go_wp2_with fail
      go_ret
      exact ⟨_, rfl, HO3.out, two HB1.out HB3.out⟩
end Go.Proofs.YtggpodlecljcbaaGreatDoor
