/- The walk of the reference's NewDisk. -/
import Derived.Test.YtggpodlecljcbaaWalkK11
namespace Go.Proofs.Ytggpodlecljcbaa
open Go.RowKit Go.Sort
set_option linter.unusedSimpArgs false
set_option linter.unusedVariables false
def strs (l : List ByteArray) : List Value := l.map .string
/-- A disk that is being made: its box, what is kept, what is now. -/
structure NAt (w : World) (b B : Nat) (kv nv : Value) (lk ln : List ByteArray) : Prop where
  box : w.heap[b]? = some (.cells #[kv, nv, .slice none 0 0, .int .i64 (-1), .bool false] 74 (0, 0))
  kept : w.ownsRow B 9 1 kv lk.length (strs lk)
  now : w.ownsRow B 9 1 nv ln.length (strs ln)
  kb : kv.ownBlock ≠ some b
  nb : nv.ownBlock ≠ some b
  kn : ∀ x, kv.ownBlock = some x → nv.ownBlock ≠ some x
section
variable {w w' : World} {b B : Nat} {kv nv : Value} {lk ln : List ByteArray}
theorem NAt.lt (h : NAt w b B kv nv lk ln) : b < w.heap.size := (Array.getElem?_eq_some_iff.1 h.box).1
theorem NAt.below (h : NAt w b B kv nv lk ln) (hb : Below w.heap.size w w') : NAt w' b B kv nv lk ln :=
  ⟨by rw [hb.block _ h.lt]; exact h.box, owns_of_block h.kept (fun g hg => hb.block g (h.kept.lt g hg).2), owns_of_block h.now (fun g hg => hb.block g (h.now.lt g hg).2), h.kb, h.nb, h.kn⟩
theorem NAt.c0 (h : NAt w b B kv nv lk ln) : w.cell? ⟨b, 0, none⟩ = some kv := by simp [World.cell?, h.box]
theorem NAt.c1 (h : NAt w b B kv nv lk ln) : w.cell? ⟨b, 1, none⟩ = some nv := by simp [World.cell?, h.box]
theorem NAt.f (h : NAt w b B kv nv lk ln) (o : Nat) : w.frozen? ⟨b, o, none⟩ = false := by simp [World.frozen?, h.box]
theorem NAt.grow_kept (h : NAt w b B kv nv lk ln) (hg : w.grownBy w' kv.ownBlock) (g c : Nat) (l : List ByteArray) (hv : w'.ownsRow B 9 1 (.slice (some ⟨g, 0, none⟩) l.length c) l.length (strs l)) (hor : kv.ownBlock = some g ∨ w.heap.size ≤ g) :
    NAt (w'.setCell ⟨b, 0, none⟩ (.slice (some ⟨g, 0, none⟩) l.length c)) b B (.slice (some ⟨g, 0, none⟩) l.length c) nv l ln := by
  have hlt := h.lt
  have e1 : g ≠ b := by rintro rfl; rcases hor with h1 | h1; exact h.kb h1; omega
  have e2 : nv.ownBlock ≠ some g := by
    intro e
    rcases hor with h1 | h1
    · exact h.kn g h1 e
    · have := (h.now.lt g e).2; omega
  have hbx := hg.block b hlt (fun e => h.kb e.symm)
  rw [h.box] at hbx
  refine ⟨?_, owns_set_far hv (own_ne e1) _, owns_set_far (owns_of_block h.now (fun x hx => hg.block x (h.now.lt x hx).2 (fun e => h.kn x e.symm hx))) h.nb _, own_ne e1, h.nb, fun x hx => ?_⟩
  · rw [heap_set_self _ _ _ _ hbx]; rfl
  · have : g = x := by simpa [Value.ownBlock] using hx
    subst this; exact e2
theorem NAt.grow_now (h : NAt w b B kv nv lk ln) (hg : w.grownBy w' nv.ownBlock) (g c : Nat) (l : List ByteArray) (hv : w'.ownsRow B 9 1 (.slice (some ⟨g, 0, none⟩) l.length c) l.length (strs l)) (hor : nv.ownBlock = some g ∨ w.heap.size ≤ g) :
    NAt (w'.setCell ⟨b, 1, none⟩ (.slice (some ⟨g, 0, none⟩) l.length c)) b B kv (.slice (some ⟨g, 0, none⟩) l.length c) lk l := by
  have hlt := h.lt
  have e1 : g ≠ b := by rintro rfl; rcases hor with h1 | h1; exact h.nb h1; omega
  have e2 : kv.ownBlock ≠ some g := by
    intro e
    rcases hor with h1 | h1
    · exact h.kn g e h1
    · have := (h.kept.lt g e).2; omega
  have hbx := hg.block b hlt (fun e => h.nb e.symm)
  rw [h.box] at hbx
  refine ⟨?_, owns_set_far (owns_of_block h.kept (fun x hx => hg.block x (h.kept.lt x hx).2 (fun e => h.kn x hx e.symm))) h.kb _, owns_set_far hv (own_ne e1) _, h.kb, own_ne e1, fun x hx e => ?_⟩
  · rw [heap_set_self _ _ _ _ hbx]; rfl
  · have : g = x := by simpa [Value.ownBlock] using e
    subst this; exact e2 hx
theorem NAt.keeps0 (h : NAt w b B kv nv lk ln) (hg : w.grownBy w' kv.ownBlock) : w'.cell? ⟨b, 0, none⟩ = some kv ∧ w'.frozen? ⟨b, 0, none⟩ = false := by
  have e := hg.block b h.lt (fun e => h.kb e.symm)
  exact ⟨(World.cell?_of_block (a := ⟨b, 0, none⟩) e).trans h.c0, (World.frozen?_of_block (a := ⟨b, 0, none⟩) e).trans (h.f 0)⟩
theorem NAt.keeps1 (h : NAt w b B kv nv lk ln) (hg : w.grownBy w' nv.ownBlock) : w'.cell? ⟨b, 1, none⟩ = some nv ∧ w'.frozen? ⟨b, 1, none⟩ = false := by
  have e := hg.block b h.lt (fun e => h.nb e.symm)
  exact ⟨(World.cell?_of_block (a := ⟨b, 1, none⟩) e).trans h.c1, (World.frozen?_of_block (a := ⟨b, 1, none⟩) e).trans (h.f 1)⟩
end
theorem strs_next (k : Nat) (z : ByteArray) : strs (List.replicate k z) ++ [.string z] = strs (List.replicate (k + 1) z) := by
  unfold strs; rw [List.replicate_succ']; simp
set_option maxRecDepth 100000 in
theorem ref_NewDisk_bad (n : Int) (w : World) (h : n < 1 ∨ 60 < n) :
    Calls Try.prog 31 #[.int .i64 n] w fun e w' => e = .returned (.tuple #[.pointer none, .int .i64 1]) ∧ w' = w := by
  rcases h with h | h
  · go_enter Try.func31, Try.ntmps31
    go_wp2_with fail
    refine bodyPost_ret (v := .tuple #[.pointer none, .int .i64 1]) (by simp [results, Try.results31, go_sem]) rfl ?_
    exact ⟨rfl, rfl⟩
  · have h2 : ¬ n < 1 := by omega
    go_enter Try.func31, Try.ntmps31
    go_wp2_with fail
    refine bodyPost_ret (v := .tuple #[.pointer none, .int .i64 1]) (by simp [results, Try.results31, go_sem]) rfl ?_
    exact ⟨rfl, rfl⟩
set_option maxRecDepth 100000 in
set_option maxHeartbeats 4000000 in
theorem ref_NewDisk (n : Nat) (w : World) (h1 : 1 ≤ n) (h2 : n ≤ 60) :
    Calls Try.prog 31 #[.int .i64 n] w fun e w' => ∃ L : Dk, e = .returned (.tuple #[.pointer (some ⟨L.b, 0, none⟩), .int .i64 0]) ∧ RefAt w' L (newD n) ∧ Below w.heap.size w w' ∧ ∀ k, L.foot k → w.heap.size ≤ k := by
  have NC := ref_noughts 40 (by decide)
  obtain ⟨z, hz⟩ : ∃ z, z = zeros 40 := ⟨_, rfl⟩
  have HZ := Lib.hid hz
  rw [← hz] at NC
  clear hz
  replace NC := Lib.hid NC
  obtain ⟨W1, hW1⟩ : ∃ W1, W1 = w.alloc (.cells #[.slice none 0 0, .slice none 0 0, .slice none 0 0, .int .i64 (-1), .bool false] 74) := ⟨_, rfl⟩
  have HN0 : Hid (NAt W1 w.heap.size w.heap.size (.slice none 0 0) (.slice none 0 0) [] []) := Lib.hid (by
    rw [hW1]
    exact ⟨heap_alloc_new w _, World.ownsRow_nil _ _ _ _, World.ownsRow_nil _ _ _ _, by simp [Value.ownBlock], by simp [Value.ownBlock], fun x hx => by simp [Value.ownBlock] at hx⟩)
  have HB1 : Hid (Below w.heap.size w W1) := Lib.hid (by rw [hW1]; exact below_alloc w _)
  have HW1 := Lib.hid hW1
  clear hW1
  have mixed : Try.prog.follows .mixedOrders = true := by kernel_rfl
  obtain ⟨i0, z0, e1, e2, e3, e4, e5, e6, e7, e8⟩ := I_texts'
  go_enter Try.func31, Try.ntmps31
  go_wp2_with fail
  rw [← HW1.out]
  go_loopw [5] (fun i wr => ∃ (k : Nat) (kv nv : Value), k ≤ n ∧ i = .int .i64 k ∧ NAt wr w.heap.size w.heap.size kv nv (List.replicate k z) (List.replicate k z) ∧ Below w.heap.size w wr) (fun i _ => n - (intOf i).toNat)
  case atStart => exact ⟨0, _, _, Nat.zero_le _, rfl, HN0.out, HB1.out⟩
  case round =>
    obtain ⟨k, kv, nv, hk, rfl, hn, hb⟩ := hrel
    have HN := Lib.hid hn
    have HB := Lib.hid hb
    clear hn hb
    by_cases hlt : k < n
    · have ED := Lib.hid (Below.refl wr.heap.size wr).drew
      have c0 := HN.out.c0
      have hq1 : k + 1 ≤ maxLen := by unfold maxLen; omega
      have hq2 : (k + 1) * 16 ≤ 140737488355328 := by omega
      have HQ := Lib.hid (And.intro hq1 hq2)
      clear hq1 hq2
      have HG7 : Hid (∀ wA, Below wr.heap.size wr wA → (wA.alloc (.cells #[.string z] 9)).ownsRow w.heap.size 9 1 kv k (strs (List.replicate k z)) ∧ w.heap.size ≤ (wA.alloc (.cells #[.string z] 9)).heap.size ∧ ∀ g cap w', w'.ownsRow w.heap.size 9 1 (.slice (some ⟨g, 0, none⟩) (k + 1) cap) (k + 1) (strs (List.replicate k z) ++ [.string z]) → (wA.alloc (.cells #[.string z] 9)).grownBy w' (kv).ownBlock → ((kv).ownBlock = some g ∨ g = wA.heap.size + 1) →
          NAt (w'.setCell ⟨w.heap.size, 0, none⟩ (.slice (some ⟨g, 0, none⟩) (k + 1) cap)) w.heap.size w.heap.size (.slice (some ⟨g, 0, none⟩) (k + 1) cap) nv (List.replicate (k + 1) z) (List.replicate k z) ∧ Below w.heap.size w (w'.setCell ⟨w.heap.size, 0, none⟩ (.slice (some ⟨g, 0, none⟩) (k + 1) cap))) := Lib.hid fun wA hbA => by
        have h3 := HN.out.below (two hbA (below_alloc wA (.cells #[.string z] 9)))
        have hs := HB.out.size
        have hs2 := hbA.size
        refine ⟨by simpa using h3.kept, by simp; omega, fun g cap w' ho hg hor => ?_⟩
        rw [strs_next] at ho
        have hl : (List.replicate (k + 1) z).length = k + 1 := by simp
        have h4 := h3.grow_kept hg g cap (List.replicate (k + 1) z) (by rw [hl]; exact ho) (hor.imp id (fun e => by simp; omega))
        rw [hl] at h4
        refine ⟨h4, ((two HB.out (two hbA (below_alloc wA (.cells #[.string z] 9)))).grown hg (by simp; omega) (fun j hj => (h3.kept.lt j hj).1)).setCell (Nat.le_refl _) _⟩
      go_wp2_with fail
      go_region_law (first
        | (go_simp; go_at_call 102; refine (NC.out _).mono ?_; rintro e wA ⟨rfl, hbA⟩; have HE1 := Lib.hid (two ED.out hbA); have HNW := Lib.hid (HN.out.below HE1.out); have HNA := Lib.hid (HNW.out.below (below_alloc wA (.cells #[.string z] 9))); have x0 := HNW.out.c0; have x1 := HNA.out.c0; clear hbA)
        | (refine step_append_lies _ rfl (.tmp 23) (.tmp 25) 71 rfl w.heap.size 9 i0 z0 1 16 e1 e2 e3 e4 e5 e6 e7 kv k (strs (List.replicate k z)) (by simp [Act.eval, Act.put]) (HG7.out wA (HE1 : Hid _).out).1 ⟨wA.heap.size, 0, none⟩ 1 1 [.string z] (by simp [Act.eval, Act.put]) rfl one_new (by simp [Value.oneCell']) (by decide) HQ.out.1 HQ.out.2 (HG7.out wA (HE1 : Hid _).out).2.1 (wA.heap.size + 1) (by simp) ?_; intro g cap w' ho hg hor hlt2; have y0 := ((HNA : Hid _).out.keeps0 hg).1; have y1 := ((HNA : Hid _).out.keeps0 hg).2; have HY := Lib.hid ((HG7.out wA (HE1 : Hid _).out).2.2 g cap w' ho hg hor); clear ho hg hor hlt2))
      all_goals
        obtain ⟨W2, hW2⟩ : ∃ W2, W2 = w'.setCell ⟨w.heap.size, 0, none⟩ (.slice (some ⟨g, 0, none⟩) (k + 1) cap) := ⟨_, rfl⟩
        rw [← hW2] at HY ⊢
        have HN2 := Lib.hid HY.out.1
        have HB2 := Lib.hid HY.out.2
        clear hW2 HY HE1 HNW HNA x0 x1 y0 y1 c0 HG7 ED
        have ED2 := Lib.hid (Below.refl W2.heap.size W2).drew
        have c1 := HN2.out.c1
        obtain ⟨kv2, hkv2⟩ : ∃ v, v = (Value.slice (some ⟨g, 0, none⟩) (k + 1) cap) := ⟨_, rfl⟩
        rw [← hkv2] at HN2
        have HKV := Lib.hid hkv2
        clear hkv2
        have HG8 : Hid (∀ wA, Below W2.heap.size W2 wA → (wA.alloc (.cells #[.string z] 9)).ownsRow w.heap.size 9 1 nv k (strs (List.replicate k z)) ∧ w.heap.size ≤ (wA.alloc (.cells #[.string z] 9)).heap.size ∧ ∀ g cap w', w'.ownsRow w.heap.size 9 1 (.slice (some ⟨g, 0, none⟩) (k + 1) cap) (k + 1) (strs (List.replicate k z) ++ [.string z]) → (wA.alloc (.cells #[.string z] 9)).grownBy w' (nv).ownBlock → ((nv).ownBlock = some g ∨ g = wA.heap.size + 1) →
            NAt (w'.setCell ⟨w.heap.size, 1, none⟩ (.slice (some ⟨g, 0, none⟩) (k + 1) cap)) w.heap.size w.heap.size kv2 (.slice (some ⟨g, 0, none⟩) (k + 1) cap) (List.replicate (k + 1) z) (List.replicate (k + 1) z) ∧ Below w.heap.size w (w'.setCell ⟨w.heap.size, 1, none⟩ (.slice (some ⟨g, 0, none⟩) (k + 1) cap))) := Lib.hid fun wA hbA => by
          have h3 := HN2.out.below (two hbA (below_alloc wA (.cells #[.string z] 9)))
          have hs := HB2.out.size
          have hs2 := hbA.size
          refine ⟨by simpa using h3.now, by simp; omega, fun g cap w' ho hg hor => ?_⟩
          rw [strs_next] at ho
          have hl : (List.replicate (k + 1) z).length = k + 1 := by simp
          have h4 := h3.grow_now hg g cap (List.replicate (k + 1) z) (by rw [hl]; exact ho) (hor.imp id (fun e => by simp; omega))
          rw [hl] at h4
          refine ⟨h4, ((two HB2.out (two hbA (below_alloc wA (.cells #[.string z] 9)))).grown hg (by simp; omega) (fun j hj => (h3.now.lt j hj).1)).setCell (Nat.le_refl _) _⟩
  
        go_wp2_with fail
        go_region_law (first
        | (go_simp; go_at_call 102; refine (NC.out _).mono ?_; rintro e wA ⟨rfl, hbA⟩; have HE1 := Lib.hid (two ED2.out hbA); have HNW := Lib.hid (HN2.out.below HE1.out); have HNA := Lib.hid (HNW.out.below (below_alloc wA (.cells #[.string z] 9))); have x0 := HNW.out.c1; have x1 := HNA.out.c1; clear hbA)
        | (refine step_append_lies _ rfl (.tmp 33) (.tmp 35) 71 rfl w.heap.size 9 i0 z0 1 16 e1 e2 e3 e4 e5 e6 e7 nv k (strs (List.replicate k z)) (by simp [Act.eval, Act.put]) (HG8.out wA (HE1 : Hid _).out).1 ⟨wA.heap.size, 0, none⟩ 1 1 [.string z] (by simp [Act.eval, Act.put]) rfl one_new (by simp [Value.oneCell']) (by decide) HQ.out.1 HQ.out.2 (HG8.out wA (HE1 : Hid _).out).2.1 (wA.heap.size + 1) (by simp) ?_; intro g cap w' ho hg hor hlt2; have y0 := ((HNA : Hid _).out.keeps1 hg).1; have y1 := ((HNA : Hid _).out.keeps1 hg).2; have HY := Lib.hid ((HG8.out wA (HE1 : Hid _).out).2.2 g cap w' ho hg hor); clear ho hg hor hlt2))
        all_goals
          go_wp2_with fail
          go_roundw
          case rel => exact ⟨k + 1, _, _, by omega, by go_num, HY.out.1, HY.out.2⟩
          case measure => simp [intOf]; omega
    · have hke : k = n := by omega
      have HKE := Lib.hid hke
      clear hke
      go_wp2_with fail
      refine bodyPost_ret (v := .tuple #[.pointer (some ⟨w.heap.size, 0, none⟩), .int .i64 0]) (by simp [results, Try.results31, go_sem]) rfl ?_
      have hn := HN.out
      rw [HKE.out] at hn
      have hkl : (List.replicate n z).length = n := by simp
      have hk' := hn.kept
      have hn' := hn.now
      rw [hkl] at hk' hn'
      obtain ⟨gk, ck, rfl⟩ := Go.Joins.ownsRow_form hk' (by omega)
      obtain ⟨gn, cn, rfl⟩ := Go.Joins.ownsRow_form hn' (by omega)
      have hkn := hn.kn gk rfl
      have hbx := hn.box
      refine ⟨⟨w.heap.size, gk, gn, ck, cn, .slice none 0 0⟩, rfl, ⟨?_, ?_, ?_, World.ownsRow_nil _ _ _ _, ?_, ?_, ?_, by simp [Value.ownBlock], by simp [Value.ownBlock], by simp [Value.ownBlock]⟩, HB.out, ?_⟩
      · simpa [newD] using hbx
      · have := owns_zero hk'; simpa [newD, HZ.out, strs] using this
      · have := owns_zero hn'; simpa [newD, HZ.out, strs] using this
      · intro e; exact hn.kb (by simp only at e; rw [e]; rfl)
      · intro e; exact hn.nb (by simp only at e; rw [e]; rfl)
      · intro e; exact hkn (by simp only at e; rw [e]; rfl)
      · intro k hk
        rcases hk with hk | hk | hk | hk
        · simp only at hk; omega
        · simp only at hk; have := (hk'.lt gk rfl).1; omega
        · simp only at hk; have := (hn'.lt gn rfl).1; omega
        · simp [Value.ownBlock] at hk
end Go.Proofs.Ytggpodlecljcbaa
