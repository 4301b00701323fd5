/- Plain: chapter 8: four bytes of a number, a sector of a log, the deeds that are closed. The walk of (*log.Log).look. Deeds, in memory: slices of slices that grow. -/
import Derived.Test.YtggpodlecljcbacWalkX8
import Derived.Test.YtggpodlecljcbacSpecK
import Derived.Test.YtggpodlecljcbacWalkK
namespace Go.Proofs.Ytggpodlecljcbac
set_option linter.unusedSimpArgs false
set_option linter.unusedVariables false
open Go.RowKit Go.Sort
def fourB (n : Nat) : ByteArray := ⟨#[n.toUInt8, (n / 256).toUInt8, (n / 65536).toUInt8, (n / 16777216).toUInt8]⟩
theorem fourB_size (n : Nat) : (fourB n).size = 4 := rfl
theorem conv_four (n : Nat) (x0 x1 x2 x3 : Int) (h0 : x0 = (n % 256 : Nat)) (h1 : x1 = (n / 256 % 256 : Nat)) (h2 : x2 = (n / 65536 % 256 : Nat)) (h3 : x3 = (n / 16777216 % 256 : Nat)) (w : World) : (convert 93 9 (.slice (some ⟨w.heap.size, 0, none⟩) 4 4)).run Try.prog (w.alloc (.cells #[.int .u8 x0, .int .u8 x1, .int .u8 x2, .int .u8 x3] 5)) = .ok (.string (fourB n)) (w.alloc (.cells #[.int .u8 x0, .int .u8 x1, .int .u8 x2, .int .u8 x3] 5)) := by
  subst h0 h1 h2 h3
  refine run_convert_bytes_back (P := Try.prog) _ 93 9 5 ⟨w.heap.size, 0, none⟩ 4 [n.toUInt8, (n / 256).toUInt8, (n / 65536).toUInt8, (n / 16777216).toUInt8] Try.underlying93 Try.underlying5 Try.underlying9 (fun j hj => ?_)
  rw [Addr.add_lit]
  match j, hj with
  | 0, _ => simp
  | 1, _ => simp
  | 2, _ => simp
  | 3, _ => simp
set_option maxRecDepth 100000 in
set_option maxHeartbeats 2000000 in
theorem log_four (n : Nat) (w : World) (hn : n ≤ 8000000000) :
    Calls Try.prog 77 #[.int .i64 n] w fun e w' => e = .returned (.string (fourB n)) ∧ Below w.heap.size w w' := by
  have hcv := conv_four n ((n : Int) % 256) ((n : Int) / 256 % 256) ((n : Int) / 65536 % 256) ((n : Int) / 16777216 % 256) (by omega) (by omega) (by omega) (by omega) w
  have hb := below_alloc w (.cells #[.int .u8 ((n : Int) % 256), .int .u8 ((n : Int) / 256 % 256), .int .u8 ((n : Int) / 65536 % 256), .int .u8 ((n : Int) / 16777216 % 256)] 5)
  go_enter Try.func77, Try.ntmps77
  go_wp2_with fail
  go_ret
  exact ⟨rfl, hb⟩
end Go.Proofs.Ytggpodlecljcbac
namespace Go.Proofs.Ytggpodlecljcbac
set_option linter.unusedSimpArgs false
set_option linter.unusedVariables false
open Go.RowKit Go.Sort
def noneY : UInt8 × ByteArray × Bool := (0, ⟨#[]⟩, false)
def lookFrom (s : ByteArray) (num : Nat) (k x y : UInt8) : UInt8 × ByteArray × Bool :=
  if ((s.extract 1 5).toList == (fourB num).toList) = false then noneY
  else if ((k.toNat : Int) == 111) = false ∧ ((k.toNat : Int) == 99) = false then noneY
  else if 33 < x.toNat + 256 * y.toNat then noneY
  else (k, s.extract 7 (7 + (x.toNat + 256 * y.toNat)), true)
/-- a sector of a log: its kind, and what it has. -/
def lookS (s : ByteArray) (num : Nat) : UInt8 × ByteArray × Bool := if h : s.size = 40 then lookFrom s num (s[0]'(by omega)) (s[5]'(by omega)) (s[6]'(by omega)) else noneY
structure LogAt (w : World) (lb : Nat) (L : Dk) (fr many first next : Nat) : Prop where
  box : w.heap[lb]? = some (.cells #[.pointer (some ⟨L.b, 0, none⟩), .int .i64 fr, .int .i64 many, .int .i64 first, .int .i64 next] 129 (0, 0))
section
variable {w : World} {lb : Nat} {L : Dk} {fr many first next : Nat}
theorem LogAt.c0 (h : LogAt w lb L fr many first next) : w.cell? ⟨lb, 0, none⟩ = some (.pointer (some ⟨L.b, 0, none⟩)) := by simp [World.cell?, h.box]
theorem LogAt.c1 (h : LogAt w lb L fr many first next) : w.cell? ⟨lb, 1, none⟩ = some (.int .i64 fr) := by simp [World.cell?, h.box]
theorem LogAt.c2 (h : LogAt w lb L fr many first next) : w.cell? ⟨lb, 2, none⟩ = some (.int .i64 many) := by simp [World.cell?, h.box]
theorem LogAt.c3 (h : LogAt w lb L fr many first next) : w.cell? ⟨lb, 3, none⟩ = some (.int .i64 first) := by simp [World.cell?, h.box]
theorem LogAt.c4 (h : LogAt w lb L fr many first next) : w.cell? ⟨lb, 4, none⟩ = some (.int .i64 next) := by simp [World.cell?, h.box]
theorem LogAt.below {w' : World} (h : LogAt w lb L fr many first next) (hb : Below w.heap.size w w') : LogAt w' lb L fr many first next := ⟨by rw [hb.block _ (Array.getElem?_eq_some_iff.1 h.box).1]; exact h.box⟩
end
set_option maxRecDepth 100000 in
set_option maxHeartbeats 4000000 in
theorem log_look (lb : Nat) (L : Dk) (D : DiskS) (fr many first next i : Nat) (s : ByteArray) (w : World) (hl : LogAt w lb L fr many first next) (h : DiskAt w L D) (hd : D.down = false) (hi : fr + i < D.now.length) (hs : D.now[fr + i] = s) (h40 : s.size = 40) (hN : D.now.length ≤ 60) (hf : first ≤ 5000000000) :
    Calls Try.prog 76 #[.pointer (some ⟨lb, 0, none⟩), .int .i64 i] w fun e w' => e = .returned (.tuple #[.int .u8 (lookS s (first + i)).1.toNat, .string (lookS s (first + i)).2.1, .bool (lookS s (first + i)).2.2]) ∧ Below w.heap.size w w' := by
  have CR : Hid (∀ W, Below w.heap.size w W → Calls Try.prog 54 #[.pointer (some ⟨L.b, 0, none⟩), .int .i64 ((fr : Int) + i)] W fun e w' => e = .returned (.tuple #[.string s, .nilIface]) ∧ Below W.heap.size W w') := Lib.hid fun W hb => by
    have := disk_Read L D ((fr + i : Nat) : Int) W (h.below hb)
    rw [readD_at hd _ hi, hs] at this
    refine Calls.mono (by simpa [errV] using this) ?_
    rintro e w' ⟨h1, rfl⟩
    exact ⟨h1, Below.refl _ _⟩
  have CF : ∀ W, Calls Try.prog 77 #[.int .i64 ((first : Int) + i)] W fun e w' => e = .returned (.string (fourB (first + i))) ∧ Below W.heap.size W w' := fun W => by
    have := log_four (first + i) W (by omega)
    simpa using this
  replace CF := Lib.hid CF
  have l0 := hl.c0
  have l1 := hl.c1
  have l3 := hl.c3
  have hi2 : fr + i ≤ 60 := by omega
  have HL := Lib.hid hl
  clear h hd hs hi hN hl
  obtain ⟨k, hk⟩ : ∃ k, k = s[0]'(by omega) := ⟨_, rfl⟩
  obtain ⟨x, hx⟩ : ∃ k, k = s[5]'(by omega) := ⟨_, rfl⟩
  obtain ⟨y, hy⟩ : ∃ k, k = s[6]'(by omega) := ⟨_, rfl⟩
  have hL : lookS s (first + i) = lookFrom s (first + i) k x y := by unfold lookS; rw [dif_pos h40, hk, hx, hy]
  have HK := Lib.hid hk
  have HX := Lib.hid hx
  have HY := Lib.hid hy
  clear hk hx hy
  have hxb : x.toNat ≤ 255 := by have := x.toNat_lt; omega
  have hyb : y.toNat ≤ 255 := by have := y.toNat_lt; omega
  have hkb : k.toNat ≤ 255 := by have := k.toNat_lt; omega
  rw [hL]
  clear hL
  obtain ⟨R, hR⟩ : ∃ R, R = lookFrom s (first + i) k x y := ⟨_, rfl⟩
  rw [← hR]
  have HR := Lib.hid hR
  clear hR
  have l0r := regrown_cell (w := w) l0
  have l1r := regrown_cell (w := w) l1
  have l3r := regrown_cell (w := w) l3
  go_enter Try.func76, Try.ntmps76
  go_wp2_with fail
  refine wp_region_q (by kernel_rfl) (by kernel_rfl) ?_
  repeat (go_big_quiet_step (first
    | (go_at_call 54; exact Calls.regrown_of (CR.out _ (below_regrown _ _ _)))))
  refine wpQuiet_nil ?_
  intro w1 hb1
  have HB1 := Lib.hid hb1
  have m3 := regrown_cell (HL.out.below hb1).c3
  clear hb1 l0 l1 l3 l0r l1r l3r
  have b0 : s[0].toNat ≤ 255 := by rw [← HK.out]; exact hkb
  have b5 : s[5].toNat ≤ 255 := by rw [← HX.out]; exact hxb
  have b6 : s[6].toNat ≤ 255 := by rw [← HY.out]; exact hyb
  cases hA : ((s.extract 1 5).toList == (fourB (first + i)).toList)
  · go_wp2_with fail
    refine wp_region_q (by kernel_rfl) (by kernel_rfl) ?_
    repeat (go_big_quiet_step (first
      | (go_at_call 77; exact Calls.regrown_of (CF.out _))))
    refine wpQuiet_nil ?_
    intro w2 hb2
    have HB2 := Lib.hid (two HB1.out hb2)
    clear hb2 m3
    go_wp2_with fail
    refine bodyPost_ret (v := .tuple #[.int .u8 0, .string ⟨#[]⟩, .bool false]) (by simp [results, Try.results76, go_sem]) rfl ?_
    exact ⟨by rw [HR.out, lookFrom, if_pos hA]; rfl, HB2.out⟩
  cases hk1 : ((k.toNat : Int) == 111)
  · cases hk2 : ((k.toNat : Int) == 99)
    · have hk3 : ((s[0].toNat : Int) != 111) = true := by rw [← HK.out, bne, hk1]; rfl
      have hk4 : ((s[0].toNat : Int) != 99) = true := by rw [← HK.out, bne, hk2]; rfl
      go_wp2_with fail
      refine wp_region_q (by kernel_rfl) (by kernel_rfl) ?_
      repeat (go_big_quiet_step (first
        | (go_at_call 77; exact Calls.regrown_of (CF.out _))))
      refine wpQuiet_nil ?_
      intro w2 hb2
      have HB2 := Lib.hid (two HB1.out hb2)
      clear hb2 m3
      go_wp2_with fail
      refine bodyPost_ret (v := .tuple #[.int .u8 0, .string ⟨#[]⟩, .bool false]) (by simp [results, Try.results76, go_sem]) rfl ?_
      exact ⟨by rw [HR.out, lookFrom, if_neg (by simp [hA]), if_pos ⟨hk1, hk2⟩]; rfl, HB2.out⟩
    · have hk3 : ((s[0].toNat : Int) != 111) = true := by rw [← HK.out, bne, hk1]; rfl
      have hk4 : ((s[0].toNat : Int) != 99) = false := by rw [← HK.out, bne, hk2]; rfl
      go_wp2_with fail
      refine wp_region_q (by kernel_rfl) (by kernel_rfl) ?_
      repeat (go_big_quiet_step (first
        | (go_at_call 77; exact Calls.regrown_of (CF.out _))))
      refine wpQuiet_nil ?_
      intro w2 hb2
      have HB2 := Lib.hid (two HB1.out hb2)
      clear hb2 m3
      go_wp2_with fail
      go_region
      have HB3 := Lib.hid HB2.out.drew
      obtain ⟨W3, hW3⟩ : ∃ W3, W3 = w2.drew := ⟨_, rfl⟩
      rw [← hW3] at HB3 ⊢
      clear hW3
      by_cases hn : 33 < x.toNat + 256 * y.toNat
      · have hn1 : (33 : Int) < ((s[5].toNat : Int) + 256 * (s[6].toNat : Int)) := by rw [← HX.out, ← HY.out]; omega
        go_wp2_with fail
        refine bodyPost_ret (v := .tuple #[.int .u8 0, .string ⟨#[]⟩, .bool false]) (by simp [results, Try.results76, go_sem]) rfl ?_
        exact ⟨by rw [HR.out, lookFrom, if_neg (by simp [hA]), if_neg (by simp [hk1, hk2]), if_pos hn]; rfl, HB3.out⟩
      · have hn1 : ¬ (33 : Int) < ((s[5].toNat : Int) + 256 * (s[6].toNat : Int)) := by rw [← HX.out, ← HY.out]; omega
        go_wp2_with fail
        go_region
        have hN : lookFrom s (first + i) k x y = (k, s.extract 7 (7 + (x.toNat + 256 * y.toNat)), true) := by rw [lookFrom, if_neg (by simp [hA]), if_neg (by simp [hk1, hk2]), if_neg hn]
        have HB4 := Lib.hid HB3.out.drew
        go_wp2_with fail
        refine bodyPost_ret (v := .tuple #[.int .u8 k.toNat, .string (s.extract 7 (7 + (x.toNat + 256 * y.toNat))), .bool true]) (by simp [results, Try.results76, go_sem, HK.out, HX.out, HY.out]) rfl ?_
        exact ⟨by rw [HR.out, hN], HB4.out⟩
  · have hk3 : ((s[0].toNat : Int) != 111) = false := by rw [← HK.out, bne, hk1]; rfl
    go_wp2_with fail
    refine wp_region_q (by kernel_rfl) (by kernel_rfl) ?_
    repeat (go_big_quiet_step (first
      | (go_at_call 77; exact Calls.regrown_of (CF.out _))))
    refine wpQuiet_nil ?_
    intro w2 hb2
    have HB2 := Lib.hid (two HB1.out hb2)
    clear hb2 m3
    go_wp2_with fail
    go_region
    have HB3 := Lib.hid HB2.out.drew
    obtain ⟨W3, hW3⟩ : ∃ W3, W3 = w2.drew := ⟨_, rfl⟩
    rw [← hW3] at HB3 ⊢
    clear hW3
    by_cases hn : 33 < x.toNat + 256 * y.toNat
    · have hn1 : (33 : Int) < ((s[5].toNat : Int) + 256 * (s[6].toNat : Int)) := by rw [← HX.out, ← HY.out]; omega
      go_wp2_with fail
      refine bodyPost_ret (v := .tuple #[.int .u8 0, .string ⟨#[]⟩, .bool false]) (by simp [results, Try.results76, go_sem]) rfl ?_
      exact ⟨by rw [HR.out, lookFrom, if_neg (by simp [hA]), if_neg (by simp [hk1]), if_pos hn]; rfl, HB3.out⟩
    · have hn1 : ¬ (33 : Int) < ((s[5].toNat : Int) + 256 * (s[6].toNat : Int)) := by rw [← HX.out, ← HY.out]; omega
      go_wp2_with fail
      go_region
      have hN : lookFrom s (first + i) k x y = (k, s.extract 7 (7 + (x.toNat + 256 * y.toNat)), true) := by rw [lookFrom, if_neg (by simp [hA]), if_neg (by simp [hk1]), if_neg hn]
      have HB4 := Lib.hid HB3.out.drew
      go_wp2_with fail
      refine bodyPost_ret (v := .tuple #[.int .u8 k.toNat, .string (s.extract 7 (7 + (x.toNat + 256 * y.toNat))), .bool true]) (by simp [results, Try.results76, go_sem, HK.out, HX.out, HY.out]) rfl ?_
      exact ⟨by rw [HR.out, hN], HB4.out⟩
end Go.Proofs.Ytggpodlecljcbac
namespace Go.Proofs.Ytggpodlecljcbac
set_option linter.unusedSimpArgs false
set_option linter.unusedVariables false
open Go.RowKit Go.Sort
/-- what a sector does to the deeds so far: none: the log ends ahead of it. -/
def stepY (first i : Nat) (s : ByteArray) (out : List (List Change)) (deed : List Change) (used : Nat) : Option (List (List Change) × List Change × Nat) :=
  if (lookS s (first + i)).2.2 = false then none
  else if ((lookS s (first + i)).1.toNat : Int) == 99 then (if ((lookS s (first + i)).2.1.toList == (fourB deed.length).toList) then some (out ++ [deed], [], i + 1) else none)
  else if (changeOf (lookS s (first + i)).2.1).2 ≠ 0 then none else some (out, deed ++ [(changeOf (lookS s (first + i)).2.1).1], used)
def closedY (first : Nat) : List ByteArray → Nat → List (List Change) → List Change → Nat → List (List Change) × Nat
  | [], _, out, _, used => (out, used)
  | s :: r, i, out, deed, used => match stepY first i s out deed used with
    | none => (out, used)
    | some (o, d, u) => closedY first r (i + 1) o d u
theorem closedY_end (first : Nat) (l : List ByteArray) (k : Nat) (o d u) (h : ¬ k < l.length) : closedY first (l.drop k) k o d u = (o, u) := by
  rw [List.drop_eq_nil_of_le (by omega)]; rfl
theorem closedY_stop (first : Nat) (l : List ByteArray) (k : Nat) (o d u) (h : k < l.length) (hs : stepY first k l[k] o d u = none) : closedY first (l.drop k) k o d u = (o, u) := by
  rw [List.drop_eq_getElem_cons h, closedY, hs]
theorem closedY_next (first : Nat) (l : List ByteArray) (k : Nat) (o d u) (o' d' u') (h : k < l.length) (hs : stepY first k l[k] o d u = some (o', d', u')) : closedY first (l.drop k) k o d u = closedY first (l.drop (k + 1)) (k + 1) o' d' u' := by
  rw [List.drop_eq_getElem_cons h, closedY, hs]
theorem own_apart {w : World} {b1 b2 k1 k2 n1 n2 : Nat} {e1 e2 : TypeId} {v1 v2 : Value} {x1 x2 : List Value} (h1 : w.ownsRow b1 e1 k1 v1 n1 x1) (h2 : w.ownsRow b2 e2 k2 v2 n2 x2) (he : e1 ≠ e2) : v1.ownBlock = none ∨ v1.ownBlock ≠ v2.ownBlock := by
  rcases h1.2 with ⟨rfl, _⟩ | ⟨g, c, cur, rfl, _, hg, _⟩
  · exact Or.inl rfl
  · right
    rcases h2.2 with ⟨rfl, _⟩ | ⟨g', c', cur', rfl, _, hg', _⟩
    · simp [Value.ownBlock]
    · intro e
      simp [Value.ownBlock] at e
      rw [e, hg'] at hg
      simp at hg
      exact he hg.2.symm
theorem I_deeds : ElemInfo Try.prog 47 34 1 24 := elemInfo_of (z := .slice none 0 0) Try.underlying47 (by kernel_rfl) rfl (by decide) (by decide)
structure OutAt (base b : Nat) (w : World) (ov : Value) (vs : List Value) (ds : List (List Change)) : Prop where
  own : w.ownsRow base 34 1 ov vs.length vs
  len : vs.length = ds.length
  each : ∀ i (h : i < vs.length) (h' : i < ds.length), w.ownsRow base 75 3 vs[i] ds[i].length (ds[i].flatMap Change.cells)
  low : ∀ v ∈ vs, ∀ p, v.ownBlock = some p → p < b
section
variable {base b : Nat} {w w' : World} {ov : Value} {vs : List Value} {ds : List (List Change)}
theorem OutAt.nil (base b : Nat) (w : World) : OutAt base b w (.slice none 0 0) [] [] := ⟨World.ownsRow_nil _ _ _ _, rfl, fun i h => by simp at h, fun v h => by simp at h⟩
theorem OutAt.quiet (h : OutAt base b w ov vs ds) (hg : w.grownBy w' none) : OutAt base b w' ov vs ds :=
  ⟨h.own.kept hg (by cases ov.ownBlock <;> simp), h.len, fun i a c => (h.each i a c).kept hg (by cases Value.ownBlock _ <;> simp), h.low⟩
/-- the deed that is open grows. -/
theorem OutAt.add {dv : Value} {n : Nat} {xs : List Value} (h : OutAt base b w ov vs ds) (hd : w.ownsRow b 75 3 dv n xs) (hg : w.grownBy w' dv.ownBlock) : OutAt base b w' ov vs ds := by
  refine ⟨h.own.kept hg (own_apart h.own hd (by decide)), h.len, fun i a c => (h.each i a c).kept hg ?_, h.low⟩
  by_cases hn : vs[i].ownBlock = none
  · exact Or.inl hn
  · right
    intro e
    obtain ⟨p, hp⟩ := Option.ne_none_iff_exists'.1 hn
    have h1 := h.low _ (List.getElem_mem a) p hp
    have h2 := (hd.lt p (by rw [← e, hp])).1
    omega
/-- the deed is closed. -/
theorem OutAt.push {dv ov' : Value} {d : List Change} (h : OutAt base b w ov vs ds) (hb : base ≤ b) (hd : w.ownsRow b 75 3 dv d.length (d.flatMap Change.cells)) (ho : w'.ownsRow base 34 1 ov' (vs.length + 1) (vs ++ [dv])) (hg : w.grownBy w' ov.ownBlock) : OutAt base w'.heap.size w' ov' (vs ++ [dv]) (ds ++ [d]) := by
  have hk : w'.ownsRow b 75 3 dv d.length (d.flatMap Change.cells) := hd.kept hg (own_apart hd h.own (by decide))
  refine ⟨by simpa using ho, by simp [h.len], fun i a c => ?_, fun v hv p hp => ?_⟩
  · by_cases hi : i < vs.length
    · have hi' : i < ds.length := by have := h.len; omega
      rw [List.getElem_append_left hi, List.getElem_append_left hi']
      exact (h.each i hi hi').kept hg (own_apart (h.each i hi hi') h.own (by decide))
    · have e1 : i = vs.length := by simp at a; omega
      have e2 : i = ds.length := by have := h.len; omega
      have g1 : (vs ++ [dv])[i] = dv := by simp [e1]
      have g2 : (ds ++ [d])[i] = d := by simp [e2]
      rw [g1, g2]
      refine ⟨hk.1, ?_⟩
      rcases hk.2 with hz | ⟨g, cap, cur, r1, r2, r3⟩
      · exact Or.inl hz
      · exact Or.inr ⟨g, cap, cur, r1, by omega, r3⟩
  · rw [List.mem_append] at hv
    rcases hv with hv | hv
    · obtain ⟨i, hi, rfl⟩ := List.getElem_of_mem hv
      have hi' : i < ds.length := by have := h.len; omega
      have := ((h.each i hi hi').lt p hp).2
      have := hg.size
      omega
    · simp at hv
      subst hv
      exact (hk.lt p hp).2
end
/-- a slice's elements, if it has any, lie outside F. -/
def far (F : Nat → Prop) (v : Value) : Prop := ∀ a n c, v = .slice (some a) n c → 0 < n → ¬ F a.block
structure RdF {α : Type} (F : Nat → Prop) (k : Nat) (enc : α → List Value) (w : World) (v : Value) (l : List α) : Prop where
  rd : Rd k enc w v l
  far : far F v
section
variable {α : Type} {F G : Nat → Prop} {k : Nat} {enc : α → List Value} {w w' : World} {v : Value} {l : List α}
theorem RdF.off (h : RdF F k enc w v l) (hO : Off F w w') : RdF F k enc w' v l := by
  obtain ⟨⟨h1, ao, cap, h2, h3, h4, h5, h6⟩, hf⟩ := h
  refine ⟨⟨h1, ao, cap, h2, h3, h4, h5, fun j u hj => ?_⟩, hf⟩
  obtain ⟨b, off, e, hc⟩ := h6 j u hj
  have hn : 0 < l.length := by
    have := (List.getElem?_eq_some_iff.1 hj).1
    rw [h1] at this
    exact Nat.pos_of_ne_zero (fun e => by rw [e] at this; simp at this)
  exact ⟨b, off, e, hO.cell hc (hf _ _ _ (by rw [h2, e]) hn)⟩
theorem RdF.below (h : RdF F k enc w v l) (hb : Below w.heap.size w w') : RdF F k enc w' v l := ⟨h.rd.below hb, h.far⟩
theorem RdF.moved (h : RdF F k enc w v l) (hk : 0 < k) (hG : ∀ x, G x → F x ∨ w.heap.size ≤ x) : RdF G k enc w v l := by
  refine ⟨h.rd, fun a n c hv hn hg => ?_⟩
  obtain ⟨h1, ao, cap, h2, h3, h4, h5, h6⟩ := h.rd
  rw [h2] at hv
  simp only [Value.slice.injEq] at hv
  obtain ⟨rfl, rfl, rfl⟩ := hv
  have hc : 0 < (l.flatMap enc).length := by rw [h1]; exact Nat.mul_pos hn hk
  obtain ⟨b, off, e, hcell⟩ := h6 0 _ (List.getElem?_eq_getElem hc)
  have hlt := World.block_lt_of_cell? w _ hcell
  simp only [Option.some.injEq] at e
  subst e
  rcases hG _ hg with h' | h'
  · exact h.far _ _ _ h2 hn h'
  · have : b < w.heap.size := hlt
    have h'' : w.heap.size ≤ b := h'
    omega
theorem RdF.turned (h : RdF F k enc w v l) (hk : 0 < k) (hO : Off F w w') (hG : ∀ x, G x → F x ∨ w.heap.size ≤ x) : RdF G k enc w' v l := ⟨(h.off hO).rd, (h.moved hk hG).far⟩
theorem Rd.outside (h : Rd k enc w v l) (hk : 0 < k) (hF : ∀ x, F x → w.heap.size ≤ x) : RdF F k enc w v l :=
  RdF.moved (F := fun _ => False) ⟨h, fun _ _ _ _ _ h => h⟩ hk (fun x hx => Or.inr (hF x hx))
end
abbrev ChangesF (F : Nat → Prop) := RdF F 3 Change.cells
/-- deeds, to be read. -/
def Deeds (F : Nat → Prop) (w : World) (v : Value) (ds : List (List Change)) : Prop := ∃ vs : List Value, RdF F 1 (fun x : Value => [x]) w v vs ∧ vs.length = ds.length ∧ ∀ i (h : i < vs.length) (h' : i < ds.length), ChangesF F w vs[i] ds[i]
theorem Deeds.below {F : Nat → Prop} {w w' : World} {v : Value} {ds : List (List Change)} (h : Deeds F w v ds) (hb : Below w.heap.size w w') : Deeds F w' v ds := by
  obtain ⟨vs, h1, h2, h3⟩ := h
  exact ⟨vs, h1.below hb, h2, fun i a c => (h3 i a c).below hb⟩
theorem Deeds.turned {F G : Nat → Prop} {w w' : World} {v : Value} {ds : List (List Change)} (h : Deeds F w v ds) (hO : Off F w w') (hG : ∀ x, G x → F x ∨ w.heap.size ≤ x) : Deeds G w' v ds := by
  obtain ⟨vs, h1, h2, h3⟩ := h
  exact ⟨vs, h1.turned (by decide) hO hG, h2, fun i a c => (h3 i a c).turned (by decide) hO hG⟩
theorem Deeds.mono {F G : Nat → Prop} {w : World} {v : Value} {ds : List (List Change)} (h : Deeds F w v ds) (hG : ∀ x, G x → F x) : Deeds G w v ds := by
  obtain ⟨vs, h1, h2, h3⟩ := h
  exact ⟨vs, ⟨h1.rd, fun a n c e p q => h1.far a n c e p (hG _ q)⟩, h2, fun i a c => ⟨(h3 i a c).rd, fun a' n c' e p q => (h3 i a c).far a' n c' e p (hG _ q)⟩⟩
theorem far_own {w : World} {base e k n : Nat} {v : Value} {xs : List Value} (h : w.ownsRow base e k v n xs) : far (fun x => x < base) v := by
  intro a m c hv _ hlt
  have := (h.lt a.block (by rw [hv]; rfl)).1
  have h2 : a.block < base := hlt
  omega
theorem flat_single (vs : List Value) : vs.flatMap (fun x => [x]) = vs := by induction vs with | nil => rfl | cons a r ih => simp [List.flatMap_cons, ih]
theorem OutAt.deeds {base b : Nat} {w : World} {ov : Value} {vs : List Value} {ds : List (List Change)} (h : OutAt base b w ov vs ds) : Deeds (fun x => x < base) w ov ds :=
  ⟨vs, ⟨by have := SL.of_own h.own; rwa [Rd, flat_single], far_own h.own⟩, h.len, fun i a c => ⟨SL.of_own (h.each i a c), far_own (h.each i a c)⟩⟩
end Go.Proofs.Ytggpodlecljcbac
