/- The walk of log.Open. The walk of the document's ClosedDeeds. -/
import Derived.Test.YtggpodlecljcbacWalkY
namespace Go.Proofs.Ytggpodlecljcbac
set_option linter.unusedSimpArgs false
set_option linter.unusedVariables false
open Go.RowKit Go.Sort
theorem lookS_size (s : ByteArray) (num : Nat) : (lookS s num).2.1.size ≤ 40 := by
  unfold lookS
  split
  · unfold lookFrom
    split
    · exact (by decide : noneY.2.1.size ≤ 40)
    · split
      · exact (by decide : noneY.2.1.size ≤ 40)
      · split
        · exact (by decide : noneY.2.1.size ≤ 40)
        · dsimp only
          rw [ByteArray.size_extract]
          omega
  · exact (by decide : noneY.2.1.size ≤ 40)
def sectorsY (D : DiskS) (fr many : Nat) : List ByteArray := (D.now.drop fr).take many
theorem sectorsY_len {D : DiskS} {fr many : Nat} (h : fr + many ≤ D.now.length) : (sectorsY D fr many).length = many := by simp [sectorsY]; omega
theorem sectorsY_at {D : DiskS} {fr many : Nat} (h : fr + many ≤ D.now.length) (k : Nat) (hk : k < (sectorsY D fr many).length) : (sectorsY D fr many)[k] = D.now[fr + k]'(by rw [sectorsY_len h] at hk; omega) := by simp [sectorsY]
theorem slice_one {dv : Value} {w : World} {b e k n : Nat} {xs : List Value} (h : w.ownsRow b e k dv n xs) : dv.oneCell' = true := by
  rcases h.2 with ⟨rfl, _⟩ | ⟨g, c, cur, rfl, _⟩ <;> rfl
theorem own_slice {dv : Value} {w : World} {b e k n : Nat} {xs : List Value} (h : w.ownsRow b e k dv n xs) : ∃ a c, dv = .slice a n c ∧ n ≤ c ∧ c ≤ 9223372036854775807 := by
  rcases h.2 with ⟨rfl, rfl⟩ | ⟨g, c, cur, rfl, _, _, h1, h2, _⟩
  · exact ⟨none, 0, rfl, Nat.le_refl _, by decide⟩
  · exact ⟨_, c, rfl, h1, h2⟩
theorem LogAt.store {w : World} {lb : Nat} {L : Dk} {fr many first next : Nat} (h : LogAt w lb L fr many first next) (n : Nat) : LogAt (w.setCell ⟨lb, 4, none⟩ (.int .i64 n)) lb L fr many first n := ⟨by rw [heap_set_self _ _ _ _ h.box]; rfl⟩
theorem LogAt.f4 {w : World} {lb : Nat} {L : Dk} {fr many first next : Nat} (h : LogAt w lb L fr many first next) : w.frozen? ⟨lb, 4, none⟩ = false := by simp [World.frozen?, h.box]
theorem LogAt.grown {w w' : World} {lb : Nat} {L : Dk} {fr many first next base e k n : Nat} {v : Value} {xs : List Value} (h : LogAt w lb L fr many first next) (ho : w.ownsRow base e k v n xs) (he : 129 ≠ e) (hg : w.grownBy w' v.ownBlock) : LogAt w' lb L fr many first next := ⟨by
  have hb := h.box
  have hlt := (Array.getElem?_eq_some_iff.1 hb).1
  rw [hg.block lb hlt ?_]
  · exact hb
  · rcases ho.2 with ⟨rfl, _⟩ | ⟨g, c, cur, rfl, _, hgg, _⟩
    · simp [Value.ownBlock]
    · intro e2
      simp [Value.ownBlock] at e2
      rw [← e2, hb] at hgg
      simp at hgg
      exact he hgg.2⟩
theorem grown_set (w : World) (b o : Nat) (u : Value) : w.grownBy (w.setCell ⟨b, o, none⟩ u) (some b) :=
  ⟨rfl, rfl, rfl, by simp, fun k hk hne => heap_setCell_other w _ k _ (fun e => hne (by rw [e]))⟩
theorem own_not_log {w : World} {lb : Nat} {L : Dk} {fr many first next base e k n : Nat} {v : Value} {xs : List Value} (h : LogAt w lb L fr many first next) (ho : w.ownsRow base e k v n xs) (he : 129 ≠ e) : v.ownBlock = none ∨ v.ownBlock ≠ some lb := by
  rcases ho.2 with ⟨rfl, _⟩ | ⟨g, c, cur, rfl, _, hgg, _⟩
  · exact Or.inl rfl
  · right
    intro e2
    simp [Value.ownBlock] at e2
    rw [e2, h.box] at hgg
    simp at hgg
    exact he hgg.2
theorem OutAt.stored {base b : Nat} {w : World} {ov : Value} {vs : List Value} {ds : List (List Change)} {lb : Nat} {L : Dk} {fr many first next : Nat} (h : OutAt base b w ov vs ds) (hl : LogAt w lb L fr many first next) (u : Value) : OutAt base b (w.setCell ⟨lb, 4, none⟩ u) ov vs ds :=
  ⟨h.own.kept (grown_set w lb 4 u) (own_not_log hl h.own (by decide)), h.len, fun i a c => (h.each i a c).kept (grown_set w lb 4 u) (own_not_log hl (h.each i a c) (by decide)), h.low⟩
theorem far_or {base lb : Nat} {v : Value} (h : far (fun x => x < base) v) (h2 : v.ownBlock = none ∨ v.ownBlock ≠ some lb) : far (fun x => x < base ∨ x = lb) v := by
  intro a n c hv hn hf
  rcases hf with hf | hf
  · exact h a n c hv hn hf
  · subst hv
    rcases h2 with h2 | h2
    · simp [Value.ownBlock] at h2
    · exact h2 (by rw [← hf]; rfl)
theorem OutAt.deedsL {base b : Nat} {w : World} {ov : Value} {vs : List Value} {ds : List (List Change)} {lb : Nat} {L : Dk} {fr many first next : Nat} (h : OutAt base b w ov vs ds) (hl : LogAt w lb L fr many first next) : Deeds (fun x => x < base ∨ x = lb) w ov ds :=
  ⟨vs, ⟨by have := SL.of_own h.own; rwa [Rd, flat_single], far_or (far_own h.own) (own_not_log hl h.own (by decide))⟩, h.len, fun i a c => ⟨SL.of_own (h.each i a c), far_or (far_own (h.each i a c)) (own_not_log hl (h.each i a c) (by decide))⟩⟩
set_option maxRecDepth 100000 in
set_option maxHeartbeats 8000000 in
theorem log_Open (L : Dk) (D : DiskS) (fr many first : Nat) (w : World) (h : DiskAt w L D) (hd : D.down = false) (hok : D.ok) (h40 : ∀ s ∈ D.now, s.size = 40) (hm : 1 ≤ many) (hfm : fr + many ≤ D.now.length) (hf1 : 1 ≤ first) (hf : first ≤ 5000000000) :
    Calls Try.prog 47 #[.pointer (some ⟨L.b, 0, none⟩), .int .i64 fr, .int .i64 many, .int .i64 first] w fun e w' => ∃ lb v, e = .returned (.tuple #[.pointer (some ⟨lb, 0, none⟩), v, .nilIface]) ∧ LogAt w' lb L fr many first (closedY first (sectorsY D fr many) 0 [] [] 0).2 ∧ w.heap.size ≤ lb ∧ Deeds (fun x => x < w.heap.size ∨ x = lb) w' v (closedY first (sectorsY D fr many) 0 [] [] 0).1 ∧ Below w.heap.size w w' := by
  have hN := hok.few
  have CS := Lib.hid (disk_Sectors L D w h)
  have CD := Lib.hid (disk_Down L D w h)
  rw [hd] at CD
  obtain ⟨S, hS⟩ : ∃ S, S = sectorsY D fr many := ⟨_, rfl⟩
  have hSl : S.length = many := by rw [hS]; exact sectorsY_len hfm
  have CLK : Hid (∀ (W : World) (lb next k : Nat) (hk : k < S.length), LogAt W lb L fr many first next → Below w.heap.size w W → Calls Try.prog 76 #[.pointer (some ⟨lb, 0, none⟩), .int .i64 k] W fun e w' => e = .returned (.tuple #[.int .u8 (lookS S[k] (first + k)).1.toNat, .string (lookS S[k] (first + k)).2.1, .bool (lookS S[k] (first + k)).2.2]) ∧ Below W.heap.size W w') := Lib.hid fun W lb next k hk hlg hb => by
    subst hS
    have hk2 : k < many := by rw [hSl] at hk; exact hk
    refine log_look lb L D fr many first next k _ W hlg (h.below hb) hd (by omega) (sectorsY_at hfm k hk).symm ?_ hN hf
    rw [sectorsY_at hfm k hk]
    exact h40 _ (List.getElem_mem _)
  rw [← hS]
  have HS := Lib.hid hSl
  clear h hd hok h40 hS hSl
  have hmany : many ≤ 60 := by omega
  have hsub : ((D.now.length : Int) - many) = ((D.now.length - many : Nat) : Int) := by omega
  obtain ⟨N, hNN⟩ : ∃ N, N = D.now.length := ⟨_, rfl⟩
  rw [← hNN] at CS hN hfm hsub
  clear hNN
  obtain ⟨W1, hW1⟩ : ∃ W1, W1 = w.alloc (.cells #[.pointer (some ⟨L.b, 0, none⟩), .int .i64 fr, .int .i64 many, .int .i64 first, .int .i64 0] 129) := ⟨_, rfl⟩
  have HL1 : Hid (LogAt W1 w.heap.size L fr many first 0) := Lib.hid (by rw [hW1]; exact ⟨heap_alloc_new w _⟩)
  have HB1 : Hid (Below w.heap.size w W1) := Lib.hid (by rw [hW1]; exact below_alloc w _)
  have HW1 := Lib.hid hW1
  have hz1 : w.heap.size + 1 = W1.heap.size := by rw [hW1]; simp
  have HZ1 := Lib.hid hz1
  clear hW1 hz1
  go_enter Try.func47, Try.ntmps47
  go_wp2_with fail
  refine CS.out.mono ?_
  rintro e wa ⟨rfl, hwa⟩
  replace hwa := hwa.symm
  subst hwa
  go_wp2_with fail
  refine CS.out.mono ?_
  rintro e wa ⟨rfl, hwa⟩
  replace hwa := hwa.symm
  subst hwa
  go_wp2_with fail
  refine CD.out.mono ?_
  rintro e wa ⟨rfl, hwa⟩
  replace hwa := hwa.symm
  subst hwa
  go_wp2_with fail
  rw [← HW1.out]
  go_loopw [12, 13, 55] (fun ov dv iv wr => ∃ (k b : Nat) (o : List (List Change)) (d : List Change) (u : Nat) (vs : List Value), k ≤ many ∧ iv = .int .i64 k ∧ closedY first (S.drop k) k o d u = closedY first S 0 [] [] 0 ∧ OutAt w.heap.size b wr ov vs o ∧ wr.ownsRow b 75 3 dv d.length (d.flatMap Change.cells) ∧ w.heap.size ≤ b ∧ b ≤ wr.heap.size ∧ LogAt wr w.heap.size L fr many first u ∧ Below w.heap.size w wr ∧ o.length ≤ k ∧ d.length ≤ k) (fun _ _ iv _ => many - (intOf iv).toNat)
  case atStart => exact ⟨0, W1.heap.size, [], [], 0, [], Nat.zero_le _, rfl, rfl, OutAt.nil _ _ _, World.ownsRow_nil _ _ _ _, by have := HB1.out.size; omega, Nat.le_refl _, HL1.out, HB1.out, by simp, by simp⟩
  case round =>
    obtain ⟨k, b, o, d, u, vs, hk, rfl, hclo, hout, hdv, hb1, hb2, hlog, hbw, hol, hdl⟩ := hrel
    have hov := own_slice hout.own
    obtain ⟨oa, oc, rfl, hoc, hoc'⟩ := hov
    obtain ⟨da, dc, rfl, hdc, hdc'⟩ := own_slice hdv
    have hvl : vs.length = o.length := hout.len
    have HVL := Lib.hid hvl
    have HCLO := Lib.hid hclo
    have HOUT := Lib.hid hout
    have HDV := Lib.hid hdv
    have HLOG := Lib.hid hlog
    have HBW := Lib.hid hbw
    have HB12 : Hid (w.heap.size ≤ b ∧ b ≤ wr.heap.size) := Lib.hid ⟨hb1, hb2⟩
    clear hclo hout hdv hlog hbw hvl hb1 hb2
    by_cases hlt : k < many
    · have hkS : k < S.length := by rw [HS.out]; exact hlt
      obtain ⟨s, hs⟩ : ∃ s, s = S[k] := ⟨_, rfl⟩
      have CL := CLK.out wr w.heap.size u k hkS HLOG.out HBW.out
      rw [← hs] at CL
      obtain ⟨⟨kd, t, is⟩, hr⟩ : ∃ r, r = lookS s (first + k) := ⟨_, rfl⟩
      rw [← hr] at CL
      dsimp only at CL
      have ht40 : t.size ≤ 40 := by have := lookS_size s (first + k); rw [← hr] at this; exact this
      have hkd : kd.toNat ≤ 255 := by have := kd.toNat_lt; omega
      have HSTEP : Hid (stepY first k S[k] o d u = if is = false then none else if ((kd.toNat : Int) == 99) then (if (t.toList == (fourB d.length).toList) then some (o ++ [d], [], k + 1) else none) else if (changeOf t).2 ≠ 0 then none else some (o, d ++ [(changeOf t).1], u)) := Lib.hid (by rw [← hs, stepY, ← hr])
      replace CL := Lib.hid CL
      have CF := Lib.hid fun W => log_four d.length W (by omega)
      have CP := fun W => row_Parse t W (by omega)
      clear hs hr
      go_wp2_with fail
      refine CL.out.mono ?_
      rintro e w2 ⟨rfl, hb2⟩
      have HG2 : Hid (wr.grownBy w2 none) := Lib.hid (⟨hb2.os, hb2.tape, hb2.output, hb2.size, fun j hj _ => hb2.block j hj⟩)
      have HOUT2 := Lib.hid (HOUT.out.quiet HG2.out)
      have HDV2 := Lib.hid (HDV.out.kept HG2.out (by cases Value.ownBlock _ <;> simp))
      have HLOG2 := Lib.hid (HLOG.out.below hb2)
      have HBW2 := Lib.hid (two HBW.out hb2)
      have HZ2 : Hid (wr.heap.size ≤ w2.heap.size) := Lib.hid hb2.size
      clear hb2
      cases is
      · have HE : Hid (closedY first S 0 [] [] 0 = (o, u)) := Lib.hid (by rw [← HCLO.out]; exact closedY_stop first S k o d u hkS (by rw [HSTEP.out]; rfl))
        go_wp2_with fail
        refine bodyPost_ret (v := .tuple #[.pointer (some ⟨w.heap.size, 0, none⟩), .slice oa vs.length oc, .nilIface]) (by simp [results, Try.results47, go_sem]) rfl ?_
        exact ⟨w.heap.size, _, rfl, by rw [HE.out]; exact HLOG2.out, Nat.le_refl _, by rw [HE.out]; exact HOUT2.out.deedsL HLOG2.out, HBW2.out⟩
      cases hk9 : ((kd.toNat : Int) == 99)
      · obtain ⟨⟨⟨xk, xv, xg⟩, n2⟩, hp2⟩ : ∃ p, p = changeOf t := ⟨_, rfl⟩
        have HP2 := Lib.hid hp2
        simp only [← hp2, Change.val'] at CP
        clear hp2
        replace CP := Lib.hid CP
        go_wp2_with fail
        refine (CP.out _).mono ?_
        rintro e w3 ⟨rfl, hb3⟩
        have HG3 : Hid (w2.grownBy w3 none) := Lib.hid (⟨hb3.os, hb3.tape, hb3.output, hb3.size, fun j hj _ => hb3.block j hj⟩)
        have HOUT3 := Lib.hid (HOUT2.out.quiet HG3.out)
        have HDV3 := Lib.hid (HDV2.out.kept HG3.out (by cases Value.ownBlock _ <;> simp))
        have HLOG3 := Lib.hid (HLOG2.out.below hb3)
        have HBW3 := Lib.hid (two HBW2.out hb3)
        have HZ3 : Hid (w2.heap.size ≤ w3.heap.size) := Lib.hid hb3.size
        clear hb3
        obtain ⟨W4, hW4⟩ : ∃ W4, W4 = w3.alloc (.cells #[.string xk, .string xv, .bool xg] 75) := ⟨_, rfl⟩
        have hb4 : Below w3.heap.size w3 W4 := by rw [hW4]; exact below_alloc _ _
        have HX4 : Hid (QXAt W4 w3.heap.size ⟨xk, xv, xg⟩) := Lib.hid (by rw [hW4]; exact QXAt.new w3 ⟨xk, xv, xg⟩)
        have HW4 := Lib.hid hW4
        clear hW4
        have HG4 : Hid (w3.grownBy W4 none) := Lib.hid (⟨hb4.os, hb4.tape, hb4.output, hb4.size, fun j hj _ => hb4.block j hj⟩)
        have HOUT4 := Lib.hid (HOUT3.out.quiet HG4.out)
        have HDV4 := Lib.hid (HDV3.out.kept HG4.out (by cases Value.ownBlock _ <;> simp))
        have HLOG4 := Lib.hid (HLOG3.out.below hb4)
        have HBW4 := Lib.hid (two HBW3.out hb4)
        have HZ4 : Hid (w3.heap.size ≤ W4.heap.size) := Lib.hid hb4.size
        clear hb4
        obtain ⟨xb, hxb⟩ : ∃ xb, xb = w3.heap.size := ⟨_, rfl⟩
        have HXB := Lib.hid hxb
        rw [← hxb] at HX4
        clear hxb
        have x0 := HX4.out.c0
        have x1 := HX4.out.c1
        have x2 := HX4.out.c2
        dsimp only at x0 x1 x2
        by_cases hn2 : n2 = 0
        · have he : errV n2 = .nilIface := by rw [hn2]; rfl
          have HNX : Hid (stepY first k S[k] o d u = some (o, d ++ [⟨xk, xv, xg⟩], u)) := Lib.hid (by rw [HSTEP.out, if_neg (by simp), hk9, ← HP2.out]; simp [hn2])
          clear hn2
          have HOW3 := Lib.hid ((HDV3.out.alloc (.cells #[.string xk, .string xv, .bool xg] 75)).alloc (.cells #[.string xk, .string xv, .bool xg] 75))
          go_wp2_with (at_builtin; refine wpList_app I_changes rfl _ _ rfl b _ _ _ rfl HOW3.out ⟨w3.heap.size + 1, 0, none⟩ 1 1 [.string xk, .string xv, .bool xg] rfl rfl ?c1 ?c2 ?c3 ?c4 ?_)
          case c1 =>
            intro j u hj
            have h3 := three_new (w := w3.alloc (.cells #[.string xk, .string xv, .bool xg] 75)) (t := 75) j u hj
            rwa [show (w3.alloc (.cells #[.string xk, .string xv, .bool xg] 75)).heap.size = w3.heap.size + 1 by simp] at h3
          case c2 => exact change_one ⟨xk, xv, xg⟩
          case c3 => omega
          case c4 => have := HB12.out; have := HZ2.out; have := HZ3.out; simp; omega
          intro v6 w6 hown6 hg6
          have HOUT6 := Lib.hid (((HOUT3.out.quiet (World.grownBy_alloc _ (.cells #[.string xk, .string xv, .bool xg] 75) none)).quiet (World.grownBy_alloc _ (.cells #[.string xk, .string xv, .bool xg] 75) none)).add HOW3.out hg6)
          have HLOG6 := Lib.hid (((HLOG3.out.below (below_alloc _ (.cells #[.string xk, .string xv, .bool xg] 75))).below (below_alloc _ (.cells #[.string xk, .string xv, .bool xg] 75))).grown HOW3.out (by decide) hg6)
          have HBW6 := Lib.hid (grown_below (two (two HBW3.out (below_alloc _ (.cells #[.string xk, .string xv, .bool xg] 75))) (below_alloc _ (.cells #[.string xk, .string xv, .bool xg] 75))) HOW3.out hg6 HB12.out.1)
          have HD6 : Hid (w6.ownsRow b 75 3 v6 (d ++ [(⟨xk, xv, xg⟩ : Change)]).length ((d ++ [(⟨xk, xv, xg⟩ : Change)]).flatMap Change.cells)) := Lib.hid (by simp only [List.flatMap_append, List.length_append, List.flatMap_cons, List.flatMap_nil, List.append_nil, List.length_cons, List.length_nil]; exact hown6)
          have HZ6 : Hid (b ≤ w6.heap.size) := Lib.hid (by have h1 := hg6.size; have := HB12.out; have := HZ2.out; have := HZ3.out; simp at h1; omega)
          clear hown6 hg6 x0 x1 x2
          go_wp2_with fail
          go_roundw
          case rel => exact ⟨k + 1, b, o, d ++ [⟨xk, xv, xg⟩], u, vs, by omega, by go_num, by rw [← HCLO.out]; exact (closedY_next first S k o d u _ _ _ hkS HNX.out).symm, HOUT6.out, HD6.out, HB12.out.1, HZ6.out, HLOG6.out, HBW6.out, by omega, by simp; omega⟩
          case measure => simp [intOf]; omega
        · have he : errV n2 = .iface 70 (.int .i64 n2) := errV_pos hn2
          have HE : Hid (closedY first S 0 [] [] 0 = (o, u)) := Lib.hid (by rw [← HCLO.out]; exact closedY_stop first S k o d u hkS (by rw [HSTEP.out, if_neg (by simp), hk9, ← HP2.out]; simp [hn2]))
          clear hn2
          go_wp2_with fail
          rw [← HW4.out]
          go_wp2_with fail
          refine bodyPost_ret (v := .tuple #[.pointer (some ⟨w.heap.size, 0, none⟩), .slice oa vs.length oc, .nilIface]) (by simp [results, Try.results47, go_sem]) rfl ?_
          exact ⟨w.heap.size, _, rfl, by rw [HE.out]; exact HLOG4.out, Nat.le_refl _, by rw [HE.out]; exact HOUT4.out.deedsL HLOG4.out, HBW4.out⟩
      · cases hf4 : (t.toList == (fourB d.length).toList)
        · have HE : Hid (closedY first S 0 [] [] 0 = (o, u)) := Lib.hid (by rw [← HCLO.out]; exact closedY_stop first S k o d u hkS (by rw [HSTEP.out, if_neg (by simp), hk9, hf4]; rfl))
          go_wp2_with fail
          refine (CF.out _).mono ?_
          rintro e w3 ⟨rfl, hb3⟩
          have HG3 : Hid (w2.grownBy w3 none) := Lib.hid (⟨hb3.os, hb3.tape, hb3.output, hb3.size, fun j hj _ => hb3.block j hj⟩)
          have HOUT3 := Lib.hid (HOUT2.out.quiet HG3.out)
          have HDV3 := Lib.hid (HDV2.out.kept HG3.out (by cases Value.ownBlock _ <;> simp))
          have HLOG3 := Lib.hid (HLOG2.out.below hb3)
          have HBW3 := Lib.hid (two HBW2.out hb3)
          have HZ3 : Hid (w2.heap.size ≤ w3.heap.size) := Lib.hid hb3.size
          clear hb3
          go_wp2_with fail
          refine bodyPost_ret (v := .tuple #[.pointer (some ⟨w.heap.size, 0, none⟩), .slice oa vs.length oc, .nilIface]) (by simp [results, Try.results47, go_sem]) rfl ?_
          exact ⟨w.heap.size, _, rfl, by rw [HE.out]; exact HLOG3.out, Nat.le_refl _, by rw [HE.out]; exact HOUT3.out.deedsL HLOG3.out, HBW3.out⟩
        · have HNX : Hid (stepY first k S[k] o d u = some (o ++ [d], [], k + 1)) := Lib.hid (by rw [HSTEP.out, if_neg (by simp), hk9, hf4]; rfl)
          go_wp2_with fail
          refine (CF.out _).mono ?_
          rintro e w3 ⟨rfl, hb3⟩
          have HG3 : Hid (w2.grownBy w3 none) := Lib.hid (⟨hb3.os, hb3.tape, hb3.output, hb3.size, fun j hj _ => hb3.block j hj⟩)
          have HOUT3 := Lib.hid (HOUT2.out.quiet HG3.out)
          have HDV3 := Lib.hid (HDV2.out.kept HG3.out (by cases Value.ownBlock _ <;> simp))
          have HLOG3 := Lib.hid (HLOG2.out.below hb3)
          have HBW3 := Lib.hid (two HBW2.out hb3)
          have HZ3 : Hid (w2.heap.size ≤ w3.heap.size) := Lib.hid hb3.size
          clear hb3
          go_wp2_with (at_builtin; refine wpList_app I_deeds rfl _ _ rfl w.heap.size _ _ _ rfl (HOUT3.out.own.alloc _) ⟨w3.heap.size, 0, none⟩ 1 1 [.slice da d.length dc] rfl rfl ?c1 ?c2 ?c3 ?c4 ?_)
          case c1 => exact one_new
          case c2 => intro u hu; simp at hu; subst hu; exact slice_one HDV3.out
          case c3 => have := HVL.out; omega
          case c4 => have := HB12.out; have := HZ2.out; have := HZ3.out; simp; omega
          intro v6 w6 hown6 hg6
          have HOA := Lib.hid (HOUT3.out.own.alloc (.cells #[.slice da d.length dc] 34))
          have HOUT6 := Lib.hid ((HOUT3.out.quiet (World.grownBy_alloc _ (.cells #[.slice da d.length dc] 34) none)).push HB12.out.1 (HDV3.out.alloc (.cells #[.slice da d.length dc] 34)) hown6 hg6)
          have HLOG6 := Lib.hid ((HLOG3.out.below (below_alloc _ (.cells #[.slice da d.length dc] 34))).grown HOA.out (by decide) hg6)
          have HBW6 := Lib.hid (grown_below (two HBW3.out (below_alloc _ (.cells #[.slice da d.length dc] 34))) HOA.out hg6 (Nat.le_refl _))
          have l4 := HLOG6.out.c4
          have f4 := HLOG6.out.f4
          clear hown6 hg6
          go_wp2_with fail
          go_roundw
          case rel => exact ⟨k + 1, w6.heap.size, o ++ [d], [], k + 1, vs ++ [.slice da d.length dc], by omega, by go_num, by rw [← HCLO.out]; exact (closedY_next first S k o d u _ _ _ hkS HNX.out).symm, HOUT6.out.stored HLOG6.out _, World.ownsRow_nil _ _ _ _, by have := HBW6.out.size; omega, by simp, by have := HLOG6.out.store (k + 1); simpa using this, HBW6.out.setCell (p := ⟨w.heap.size, 4, none⟩) (Nat.le_refl _) _, by simp; omega, by simp⟩
          case measure => simp [intOf]; omega
    · have HE : Hid (closedY first S 0 [] [] 0 = (o, u)) := Lib.hid (by rw [← HCLO.out]; exact closedY_end first S k o d u (by rw [HS.out]; exact hlt))
      go_wp2_with fail
      refine bodyPost_ret (v := .tuple #[.pointer (some ⟨w.heap.size, 0, none⟩), .slice oa vs.length oc, .nilIface]) (by simp [results, Try.results47, go_sem]) rfl ?_
      exact ⟨w.heap.size, _, rfl, by rw [HE.out]; exact HLOG.out, Nat.le_refl _, by rw [HE.out]; exact HOUT.out.deedsL HLOG.out, HBW.out⟩
end Go.Proofs.Ytggpodlecljcbac
namespace Go.Proofs.Ytggpodlecljcbac
set_option linter.unusedSimpArgs false
set_option linter.unusedVariables false
open Go.RowKit Go.Sort
theorem stepY_form (first i : Nat) (s : ByteArray) (o : List (List Change)) (d : List Change) (u : Nat) (h40 : s.size = 40) (k x y : UInt8) (hk : k = s[0]) (hx : x = s[5]) (hy : y = s[6]) (t : ByteArray) (ht : t = s.extract 7 (7 + (x.toNat + 256 * y.toNat))) :
    stepY first i s o d u = if ((s.extract 1 5).toList == (fourB (first + i)).toList) = false then none else if 33 < x.toNat + 256 * y.toNat then none
      else if ((k.toNat : Int) == 99) then (if (t.toList == (fourB d.length).toList) then some (o ++ [d], [], i + 1) else none) else if ((k.toNat : Int) == 111) = false then none else if (changeOf t).2 ≠ 0 then none else some (o, d ++ [(changeOf t).1], u) := by
  have hL : lookS s (first + i) = lookFrom s (first + i) k x y := by unfold lookS; rw [dif_pos h40, hk, hx, hy]
  unfold stepY
  rw [hL, ht]
  unfold lookFrom
  cases hA : ((s.extract 1 5).toList == (fourB (first + i)).toList)
  · simp [noneY]
  · by_cases hn : 33 < x.toNat + 256 * y.toNat
    · cases h1 : ((k.toNat : Int) == 111) <;> cases h2 : ((k.toNat : Int) == 99) <;> simp [noneY, hn]
    · cases h1 : ((k.toNat : Int) == 111) <;> cases h2 : ((k.toNat : Int) == 99) <;> simp [noneY, hn, h2]
end Go.Proofs.Ytggpodlecljcbac
