/- Plain: disks, and how a disk lies in memory. The walks of a disk's small methods: step, Read, Arm, Down, Sectors; and the reference's. The walks of a disk's Read, and the reference's. The walks of disk.full and the reference's noughts. -/
import Derived.Test.YtggpodlecljcbadGreatDoorProg
import Derived.Deep.OwnRows
import Derived.Laws.IdiomStrings
import Derived.Test.YtggpodlecljcbadGreatDoorMBase
namespace Go.Proofs.YtggpodlecljcbadGreatDoor
set_option linter.unusedSimpArgs false
set_option linter.unusedVariables false
open Go.RowKit Go.Sort
structure Turn where
  pos : Nat
  data : ByteArray
def Turn.cells (t : Turn) : List Value := [.int .i64 t.pos, .string t.data]
theorem Turn.cells_len (t : Turn) : t.cells.length = 2 := rfl
structure DiskS where
  kept : List ByteArray
  now : List ByteArray
  wait : List Turn
  fuse : Int
  down : Bool
def zeros (n : Nat) : ByteArray := ⟨Array.replicate n 0⟩
def fullS (s : ByteArray) : ByteArray := s ++ zeros (40 - s.size)
theorem zeros_size (n : Nat) : (zeros n).size = n := by simp [zeros, ByteArray.size]
theorem fullS_size (s : ByteArray) (h : s.size ≤ 40) : (fullS s).size = 40 := by
  unfold fullS
  rw [ByteArray.size_append, zeros_size]
  omega
/-- F1: a disk of noughts. -/
def newD (n : Nat) : DiskS := ⟨List.replicate n (zeros 40), List.replicate n (zeros 40), [], -1, false⟩
def stepD (d : DiskS) : DiskS × Nat :=
  if d.down then (d, 8) else if d.fuse = 0 then ({ d with down := true, fuse := -1 }, 8) else ({ d with fuse := if 0 < d.fuse then d.fuse - 1 else d.fuse }, 0)
def writeD (d : DiskS) (pos : Int) (s : ByteArray) : DiskS × Nat :=
  if pos < 0 ∨ (d.now.length : Int) ≤ pos ∨ 40 < s.size then (d, 1)
  else if (stepD d).2 ≠ 0 then stepD d
  else ({ (stepD d).1 with now := d.now.set pos.toNat (fullS s), wait := d.wait ++ [⟨pos.toNat, fullS s⟩] }, 0)
def readD (d : DiskS) (pos : Int) : ByteArray × Nat :=
  if d.down then (ByteArray.empty, 8) else if pos < 0 ∨ (d.now.length : Int) ≤ pos then (ByteArray.empty, 1) else ((d.now[pos.toNat]?).getD ByteArray.empty, 0)
def flushD (d : DiskS) : DiskS × Nat :=
  if (stepD d).2 ≠ 0 then stepD d else ({ (stepD d).1 with kept := d.now, wait := [] }, 0)
def armD (d : DiskS) (n : Int) : DiskS := { d with fuse := max n (-1) }
def keepBit (keep : Int) (i : Nat) : Bool := bits BinOp.and IntKind.u64 (keep / 2 ^ (i % 64)) 1 == 1
def keepTo' (keep : Int) (wait : List Turn) (k : Nat) (kept : List ByteArray) : List ByteArray :=
  ((wait.take k).zipIdx).foldl (fun l p => if keepBit keep p.2 then l.set p.1.pos p.1.data else l) kept
def restartD (d : DiskS) (keep : Int) : DiskS := ⟨keepTo' keep d.wait d.wait.length d.kept, keepTo' keep d.wait d.wait.length d.kept, [], -1, false⟩
structure DiskS.ok (d : DiskS) : Prop where
  same : d.kept.length = d.now.length
  some : 1 ≤ d.now.length
  few : d.now.length ≤ 60
  pos : ∀ t ∈ d.wait, t.pos < d.now.length
  low : -1 ≤ d.fuse
  high : d.fuse ≤ 9223372036854775807
theorem keepTo_zero (keep : Int) (wait : List Turn) (kept : List ByteArray) : keepTo' keep wait 0 kept = kept := by simp [keepTo']
theorem keepTo_next (keep : Int) (wait : List Turn) (k : Nat) (kept : List ByteArray) (h : k < wait.length) :
    keepTo' keep wait (k + 1) kept = if keepBit keep k then (keepTo' keep wait k kept).set wait[k].pos wait[k].data else keepTo' keep wait k kept := by
  unfold keepTo'
  rw [List.take_succ_eq_append_getElem h, List.zipIdx_append, List.foldl_append]
  simp only [List.zipIdx_cons, List.zipIdx_nil, List.foldl_cons, List.foldl_nil, List.length_take, Nat.zero_add]
  rw [Nat.min_eq_left (by omega)]
theorem keepTo_length (keep : Int) (wait : List Turn) (kept : List ByteArray) : ∀ k, k ≤ wait.length → (keepTo' keep wait k kept).length = kept.length
  | 0, _ => by rw [keepTo_zero]
  | k + 1, h => by
    rw [keepTo_next keep wait k kept (by omega)]
    split
    · rw [List.length_set]; exact keepTo_length keep wait kept k (by omega)
    · exact keepTo_length keep wait kept k (by omega)
theorem newD_ok {n : Nat} (h1 : 1 ≤ n) (h2 : n ≤ 60) : (newD n).ok := ⟨by simp [newD], by simpa [newD] using h1, by simpa [newD] using h2, fun t ht => by simp [newD] at ht, by simp [newD], by simp [newD]⟩
theorem stepD_same (d : DiskS) : (stepD d).1.kept = d.kept ∧ (stepD d).1.now = d.now ∧ (stepD d).1.wait = d.wait := by
  unfold stepD; split
  · exact ⟨rfl, rfl, rfl⟩
  · split <;> exact ⟨rfl, rfl, rfl⟩
theorem DiskS.ok.step {d : DiskS} (h : d.ok) : (stepD d).1.ok := by
  obtain ⟨h1, h2, h3⟩ := stepD_same d
  refine ⟨by rw [h1, h2]; exact h.same, by rw [h2]; exact h.some, by rw [h2]; exact h.few, by rw [h2, h3]; exact h.pos, ?_, ?_⟩
  · have := h.low; unfold stepD; split
    · exact h.low
    · split
      · exact Int.le_refl _
      · show -1 ≤ (if 0 < d.fuse then d.fuse - 1 else d.fuse); split <;> omega
  · have := h.high; unfold stepD; split
    · exact h.high
    · split
      · show (-1 : Int) ≤ _; omega
      · show (if 0 < d.fuse then d.fuse - 1 else d.fuse) ≤ _; split <;> omega
theorem DiskS.ok.write {d : DiskS} (h : d.ok) (pos : Int) (s : ByteArray) : (writeD d pos s).1.ok := by
  unfold writeD; split
  · exact h
  · rename_i h0
    split
    · exact h.step
    · have h5 := h.step
      refine ⟨by rw [List.length_set]; exact (stepD_same d).1 ▸ h.same, by rw [List.length_set]; exact h.some, by rw [List.length_set]; exact h.few, fun t ht => ?_, h5.low, h5.high⟩
      rw [List.length_set]
      rcases List.mem_append.mp ht with ht | ht
      · exact h.pos t ht
      · simp at ht; subst ht; simp; omega
theorem DiskS.ok.flush {d : DiskS} (h : d.ok) : (flushD d).1.ok := by
  unfold flushD; split
  · exact h.step
  · have h5 := h.step
    have h2 := (stepD_same d).2.1
    exact ⟨by rw [h2], by rw [h2]; exact h.some, by rw [h2]; exact h.few, fun t ht => by simp at ht, h5.low, h5.high⟩
theorem DiskS.ok.arm {d : DiskS} (h : d.ok) (n : Int) (hn : n ≤ 9223372036854775807) : (armD d n).ok :=
  ⟨h.same, h.some, h.few, h.pos, by show (-1 : Int) ≤ max n (-1); omega, by show max n (-1) ≤ _; omega⟩
theorem DiskS.ok.restart {d : DiskS} (h : d.ok) (keep : Int) : (restartD d keep).ok := by
  have hl : (keepTo' keep d.wait d.wait.length d.kept).length = d.now.length := by rw [keepTo_length keep d.wait d.kept _ (Nat.le_refl _)]; exact h.same
  exact ⟨rfl, by show 1 ≤ (keepTo' _ _ _ _).length; rw [hl]; exact h.some, by show (keepTo' _ _ _ _).length ≤ 60; rw [hl]; exact h.few, fun t ht => by simp [restartD] at ht, by simp [restartD], by simp [restartD]⟩

/-- Where a disk lies: its box, the rows kept and now, what waits. -/
structure Dk where
  b : Nat
  gk : Nat
  gn : Nat
  ck : Nat
  cn : Nat
  wv : Value
def Dk.foot (L : Dk) (k : Nat) : Prop := k = L.b ∨ k = L.gk ∨ k = L.gn ∨ L.wv.ownBlock = some k
structure DAt (ty tt : TypeId) (w : World) (L : Dk) (D : DiskS) : Prop where
  box : w.heap[L.b]? = some (.cells #[.slice (some ⟨L.gk, 0, none⟩) D.kept.length L.ck, .slice (some ⟨L.gn, 0, none⟩) D.now.length L.cn, L.wv, .int .i64 D.fuse, .bool D.down] ty (0, 0))
  kept : w.ownsRow 0 9 1 (.slice (some ⟨L.gk, 0, none⟩) D.kept.length L.ck) D.kept.length (D.kept.map .string)
  now : w.ownsRow 0 9 1 (.slice (some ⟨L.gn, 0, none⟩) D.now.length L.cn) D.now.length (D.now.map .string)
  wait : w.ownsRow 0 tt 2 L.wv D.wait.length (D.wait.flatMap Turn.cells)
  kb : L.gk ≠ L.b
  nb : L.gn ≠ L.b
  kn : L.gk ≠ L.gn
  wb : L.wv.ownBlock ≠ some L.b
  wk : L.wv.ownBlock ≠ some L.gk
  wn : L.wv.ownBlock ≠ some L.gn
section
variable {ty tt : TypeId} {w w' : World} {L : Dk} {D : DiskS}
theorem DAt.lt (h : DAt ty tt w L D) : ∀ k, L.foot k → k < w.heap.size := by
  rintro k (rfl | rfl | rfl | hk)
  · exact (Array.getElem?_eq_some_iff.1 h.box).1
  · exact (h.kept.lt _ rfl).2
  · exact (h.now.lt _ rfl).2
  · exact (h.wait.lt _ hk).2
theorem DAt.keep (h : DAt ty tt w L D) (hb : ∀ k, L.foot k → w'.heap[k]? = w.heap[k]?) : DAt ty tt w' L D :=
  ⟨by rw [hb _ (Or.inl rfl)]; exact h.box, owns_of_block h.kept (fun g hg => by cases hg; exact hb _ (Or.inr (Or.inl rfl))), owns_of_block h.now (fun g hg => by cases hg; exact hb _ (Or.inr (Or.inr (Or.inl rfl)))),
    owns_of_block h.wait (fun g hg => hb _ (Or.inr (Or.inr (Or.inr hg)))), h.kb, h.nb, h.kn, h.wb, h.wk, h.wn⟩
theorem DAt.off {G : Nat → Prop} (h : DAt ty tt w L D) (hO : Off G w w') (hG : ∀ k, L.foot k → ¬ G k) : DAt ty tt w' L D := h.keep fun k hk => hO.block k (h.lt k hk) (hG k hk)
theorem DAt.below (h : DAt ty tt w L D) (hb : Below w.heap.size w w') : DAt ty tt w' L D := h.keep fun k hk => hb.block k (h.lt k hk)
theorem DAt.c0 (h : DAt ty tt w L D) : w.cell? ⟨L.b, 0, none⟩ = some (.slice (some ⟨L.gk, 0, none⟩) D.kept.length L.ck) := by simp [World.cell?, h.box]
theorem DAt.c1 (h : DAt ty tt w L D) : w.cell? ⟨L.b, 1, none⟩ = some (.slice (some ⟨L.gn, 0, none⟩) D.now.length L.cn) := by simp [World.cell?, h.box]
theorem DAt.c2 (h : DAt ty tt w L D) : w.cell? ⟨L.b, 2, none⟩ = some L.wv := by simp [World.cell?, h.box]
theorem DAt.c3 (h : DAt ty tt w L D) : w.cell? ⟨L.b, 3, none⟩ = some (.int .i64 D.fuse) := by simp [World.cell?, h.box]
theorem DAt.c4 (h : DAt ty tt w L D) : w.cell? ⟨L.b, 4, none⟩ = some (.bool D.down) := by simp [World.cell?, h.box]
theorem DAt.f (h : DAt ty tt w L D) (o : Nat) : w.frozen? ⟨L.b, o, none⟩ = false := by simp [World.frozen?, h.box]
theorem DAt.ncell (h : DAt ty tt w L D) (i : Nat) (hi : i < D.now.length) : w.cell? ⟨L.gn, i, none⟩ = some (.string D.now[i]) := by
  have := owns_cell h.now i (by simpa using hi); simpa using this
theorem DAt.kcell (h : DAt ty tt w L D) (i : Nat) (hi : i < D.kept.length) : w.cell? ⟨L.gk, i, none⟩ = some (.string D.kept[i]) := by
  have := owns_cell h.kept i (by simpa using hi); simpa using this
theorem DAt.fn (h : DAt ty tt w L D) (o : Nat) : w.frozen? ⟨L.gn, o, none⟩ = false := owns_frozen h.now o
theorem DAt.fk (h : DAt ty tt w L D) (o : Nat) : w.frozen? ⟨L.gk, o, none⟩ = false := owns_frozen h.kept o
theorem owns_set_far {base n size : Nat} {e : TypeId} {v : Value} {xs : List Value} (h : w.ownsRow base e size v n xs) {a : Addr} (ha : v.ownBlock ≠ some a.block) (u : Value) : (w.setCell a u).ownsRow base e size v n xs :=
  owns_of_block h fun g hg => Below.heap_setCell _ _ _ _ (fun e => ha (by rw [hg, e]))
theorem owns_sets_far {base n size : Nat} {e : TypeId} {v : Value} {xs : List Value} (h : w.ownsRow base e size v n xs) {b : Nat} (hb : v.ownBlock ≠ some b) (o : Nat) (us : List Value) : (w.setCells b o us).ownsRow base e size v n xs :=
  owns_of_block h fun g hg => heap_setCells _ _ _ _ _ (fun e => hb (by rw [hg, e]))
theorem own_ne {a b n c : Nat} (h : a ≠ b) : (Value.slice (some ⟨a, 0, none⟩) n c).ownBlock ≠ some b := fun e => h (by simpa [Value.ownBlock] using e)
theorem DAt.set_fuse (h : DAt ty tt w L D) (f : Int) : DAt ty tt (w.setCell ⟨L.b, 3, none⟩ (.int .i64 f)) L { D with fuse := f } :=
  ⟨by rw [heap_set_self _ _ _ _ h.box]; rfl, owns_set_far h.kept (own_ne h.kb) _, owns_set_far h.now (own_ne h.nb) _, owns_set_far h.wait h.wb _, h.kb, h.nb, h.kn, h.wb, h.wk, h.wn⟩
theorem DAt.set_down (h : DAt ty tt w L D) (f : Bool) : DAt ty tt (w.setCell ⟨L.b, 4, none⟩ (.bool f)) L { D with down := f } :=
  ⟨by rw [heap_set_self _ _ _ _ h.box]; rfl, owns_set_far h.kept (own_ne h.kb) _, owns_set_far h.now (own_ne h.nb) _, owns_set_far h.wait h.wb _, h.kb, h.nb, h.kn, h.wb, h.wk, h.wn⟩
theorem DAt.set_wait (h : DAt ty tt w L D) (v : Value) (l : List Turn) (hv : w.ownsRow 0 tt 2 v l.length (l.flatMap Turn.cells)) (h1 : v.ownBlock ≠ some L.b) (h2 : v.ownBlock ≠ some L.gk) (h3 : v.ownBlock ≠ some L.gn) :
    DAt ty tt (w.setCell ⟨L.b, 2, none⟩ v) { L with wv := v } { D with wait := l } :=
  ⟨by rw [heap_set_self _ _ _ _ h.box]; rfl, owns_set_far h.kept (own_ne h.kb) _, owns_set_far h.now (own_ne h.nb) _, owns_set_far hv h1 _, h.kb, h.nb, h.kn, h1, h2, h3⟩
theorem DAt.now_at (h : DAt ty tt w L D) (i : Nat) (hi : i < D.now.length) (s : ByteArray) : DAt ty tt (w.setCell ⟨L.gn, i, none⟩ (.string s)) L { D with now := D.now.set i s } := by
  have h1 := owns_set h.now i (by simpa using hi) (.string s)
  refine ⟨by rw [Below.heap_setCell _ _ _ _ (fun e => h.nb e.symm), h.box]; simp, owns_set_far h.kept (own_ne h.kn) _, ?_, owns_set_far h.wait h.wn _, h.kb, h.nb, h.kn, h.wb, h.wk, h.wn⟩
  simpa using h1
theorem DAt.kept_at (h : DAt ty tt w L D) (i : Nat) (hi : i < D.kept.length) (s : ByteArray) : DAt ty tt (w.setCell ⟨L.gk, i, none⟩ (.string s)) L { D with kept := D.kept.set i s } := by
  have h1 := owns_set h.kept i (by simpa using hi) (.string s)
  refine ⟨by rw [Below.heap_setCell _ _ _ _ (fun e => h.kb e.symm), h.box]; simp, ?_, owns_set_far h.now (own_ne h.kn.symm) _, owns_set_far h.wait h.wk _, h.kb, h.nb, h.kn, h.wb, h.wk, h.wn⟩
  simpa using h1
theorem DAt.now_all (h : DAt ty tt w L D) (l : List ByteArray) (hl : l.length = D.now.length) : DAt ty tt (w.setCells L.gn 0 (l.map .string)) L { D with now := l } := by
  have h1 := owns_sets h.now (l.map .string) (by simpa using hl)
  refine ⟨by rw [heap_setCells _ _ _ _ _ (fun e => h.nb e.symm), h.box]; simp [hl], owns_sets_far h.kept (own_ne h.kn) _ _, ?_, owns_sets_far h.wait h.wn _ _, h.kb, h.nb, h.kn, h.wb, h.wk, h.wn⟩
  simpa [hl] using h1
theorem DAt.kept_all (h : DAt ty tt w L D) (l : List ByteArray) (hl : l.length = D.kept.length) : DAt ty tt (w.setCells L.gk 0 (l.map .string)) L { D with kept := l } := by
  have h1 := owns_sets h.kept (l.map .string) (by simpa using hl)
  refine ⟨by rw [heap_setCells _ _ _ _ _ (fun e => h.kb e.symm), h.box]; simp [hl], ?_, owns_sets_far h.now (own_ne h.kn.symm) _ _, owns_sets_far h.wait h.wk _ _, h.kb, h.nb, h.kn, h.wb, h.wk, h.wn⟩
  simpa [hl] using h1
/-- What a call on a disk leaves: the disk as D', in new places or its own; all else as it was. -/
def Turned (ty tt : TypeId) (w : World) (L : Dk) (D' : DiskS) (w' : World) : Prop := ∃ L', L'.b = L.b ∧ DAt ty tt w' L' D' ∧ Off L.foot w w' ∧ (∀ k, L'.foot k → L.foot k ∨ w.heap.size ≤ k)
theorem Turned.refl (h : DAt ty tt w L D) : Turned ty tt w L D w := ⟨L, rfl, h, Off.refl _ _, fun _ hk => Or.inl hk⟩
end
end Go.Proofs.YtggpodlecljcbadGreatDoor
namespace Go.Proofs.YtggpodlecljcbadGreatDoor
open Go.RowKit Go.Sort
set_option linter.unusedSimpArgs false
set_option linter.unusedVariables false
abbrev DiskAt := DAt 68 72
/-- What a step leaves: the box alone is another one. -/
def Stepped (ty tt : TypeId) (w : World) (L : Dk) (D' : DiskS) (w' : World) : Prop := DAt ty tt w' L D' ∧ Off (fun k => k = L.b) w w' ∧ w'.heap.size = w.heap.size
theorem size_setCell' (w : World) (a : Addr) (v : Value) : (w.setCell a v).heap.size = w.heap.size := by simp [World.setCell]
theorem stepped_two {ty tt : TypeId} {w : World} {L : Dk} {D : DiskS} (h : DAt ty tt w L D) (f : Int) (d : Bool) : Stepped ty tt w L { D with fuse := f, down := d } ((w.setCell ⟨L.b, 4, none⟩ (.bool d)).setCell ⟨L.b, 3, none⟩ (.int .i64 f)) :=
  ⟨(h.set_down d).set_fuse f, (off_setCell (F := fun k => k = L.b) w ⟨L.b, 4, none⟩ rfl _).trans (off_setCell (F := fun k => k = L.b) _ ⟨L.b, 3, none⟩ rfl _) (fun _ _ h => h), by rw [size_setCell', size_setCell']⟩
theorem stepped_fuse {ty tt : TypeId} {w : World} {L : Dk} {D : DiskS} (h : DAt ty tt w L D) (f : Int) : Stepped ty tt w L { D with fuse := f } (w.setCell ⟨L.b, 3, none⟩ (.int .i64 f)) :=
  ⟨h.set_fuse f, off_setCell (F := fun k => k = L.b) w ⟨L.b, 3, none⟩ rfl _, by rw [size_setCell']⟩
theorem stepped_refl {ty tt : TypeId} {w : World} {L : Dk} {D : DiskS} (h : DAt ty tt w L D) : Stepped ty tt w L D w := ⟨h, Off.refl _ _, rfl⟩

theorem disk_step (L : Dk) (D : DiskS) (w : World) (h : DiskAt w L D) (hok : D.ok) :
    Calls Tryz.prog 59 #[.pointer (some ⟨L.b, 0, none⟩)] w fun e w' => e = .returned (errV (stepD D).2) ∧ Stepped 68 72 w L (stepD D).1 w' := by
  have c3 := h.c3
  have c4 := h.c4
  have f3 := h.f 3
  have f4 := h.f 4
  have l1 := hok.low
  have l2 := hok.high
  have H := Lib.hid h
  obtain ⟨b, gk, gn, ck, cn, wv⟩ := L
  obtain ⟨kept, now, wait, fuse, down⟩ := D
  simp only at c3 c4 f3 f4 l1 l2
  cases down
  · by_cases hf : fuse = 0
    · subst hf
      have S := Lib.hid (stepped_two H.out (-1) true)
      have E : Hid (stepD ⟨kept, now, wait, 0, false⟩ = (⟨kept, now, wait, -1, true⟩, 8)) := Lib.hid (by simp [stepD])
      clear h hok
      go_enter Tryz.func59, Tryz.ntmps59
      go_wp2_with fail
      go_ret
      exact ⟨by rw [E.out]; rfl, by rw [E.out]; exact S.out⟩
    · by_cases hn : fuse = -1
      · subst hn
        have E : Hid (stepD ⟨kept, now, wait, -1, false⟩ = (⟨kept, now, wait, -1, false⟩, 0)) := Lib.hid (by simp [stepD])
        have S := Lib.hid (stepped_fuse H.out (-1))
        clear h hok hf
        go_enter Tryz.func59, Tryz.ntmps59
        go_wp2_with fail
        go_ret
        exact ⟨by rw [E.out]; rfl, by rw [E.out]; exact S.out⟩
      · have E : Hid (stepD ⟨kept, now, wait, fuse, false⟩ = (⟨kept, now, wait, fuse - 1, false⟩, 0)) := Lib.hid (by
          have : 0 < fuse := by omega
          simp [stepD, hf, this])
        have S := Lib.hid (stepped_fuse H.out (fuse - 1))
        have hp : 0 < fuse := by omega
        clear h hok hn
        go_enter Tryz.func59, Tryz.ntmps59
        go_wp2_with fail
        go_ret
        exact ⟨by rw [E.out]; rfl, by rw [E.out]; exact S.out⟩
  · have E : Hid (stepD ⟨kept, now, wait, fuse, true⟩ = (⟨kept, now, wait, fuse, true⟩, 8)) := Lib.hid (by simp [stepD])
    clear h hok
    go_enter Tryz.func59, Tryz.ntmps59
    go_wp2_with fail
    go_ret
    exact ⟨by rw [E.out]; rfl, by rw [E.out]; exact stepped_refl H.out⟩

theorem disk_Down (L : Dk) (D : DiskS) (w : World) (h : DiskAt w L D) :
    Calls Tryz.prog 80 #[.pointer (some ⟨L.b, 0, none⟩)] w fun e w' => e = .returned (.bool D.down) ∧ w' = w := by
  have c4 := h.c4
  have H := Lib.hid h
  clear h
  go_enter Tryz.func80, Tryz.ntmps80
  go_wp2_with fail
  go_ret
  exact ⟨rfl, rfl⟩
theorem disk_Sectors (L : Dk) (D : DiskS) (w : World) (h : DiskAt w L D) :
    Calls Tryz.prog 74 #[.pointer (some ⟨L.b, 0, none⟩)] w fun e w' => e = .returned (.int .i64 D.now.length) ∧ w' = w := by
  have c1 := h.c1
  have hc := (owns_cap h.now).1
  have hm := (owns_cap h.now).2
  have H := Lib.hid h
  clear h
  unfold maxLen at hm
  go_enter Tryz.func74, Tryz.ntmps74
  go_wp2_with fail
  go_ret
  exact ⟨rfl, rfl⟩
theorem disk_Arm (L : Dk) (D : DiskS) (n : Int) (w : World) (h : DiskAt w L D) (hn : n ≤ 9223372036854775807) (hn' : -9223372036854775808 ≤ n) :
    Calls Tryz.prog 12 #[.pointer (some ⟨L.b, 0, none⟩), .int .i64 n] w fun e w' => e = .returned (.tuple #[]) ∧ Stepped 68 72 w L (armD D n) w' := by
  have c3 := h.c3
  have f3 := h.f 3
  have H := Lib.hid h
  clear h
  by_cases hl : n < -1
  · have S : Hid (Stepped 68 72 w L (armD D n) (w.setCell ⟨L.b, 3, none⟩ (.int .i64 (-1)))) := Lib.hid (by
      have : max n (-1) = -1 := by omega
      unfold armD; rw [this]; exact stepped_fuse H.out (-1))
    go_enter Tryz.func12, Tryz.ntmps12
    go_wp2_with fail
    go_end0
    exact ⟨rfl, S.out⟩
  · have S : Hid (Stepped 68 72 w L (armD D n) (w.setCell ⟨L.b, 3, none⟩ (.int .i64 n))) := Lib.hid (by
      have : max n (-1) = n := by omega
      unfold armD; rw [this]; exact stepped_fuse H.out n)
    have hl' : -1 ≤ n := by omega
    clear hl
    go_enter Tryz.func12, Tryz.ntmps12
    go_wp2_with fail
    go_end0
    exact ⟨rfl, S.out⟩
end Go.Proofs.YtggpodlecljcbadGreatDoor
namespace Go.Proofs.YtggpodlecljcbadGreatDoor
open Go.RowKit Go.Sort
set_option linter.unusedSimpArgs false
set_option linter.unusedVariables false
theorem readD_down {D : DiskS} (h : D.down = true) (p : Int) : readD D p = (ByteArray.empty, 8) := by unfold readD; rw [if_pos h]
theorem readD_out {D : DiskS} (h : D.down = false) {p : Int} (hp : p < 0 ∨ (D.now.length : Int) ≤ p) : readD D p = (ByteArray.empty, 1) := by unfold readD; rw [if_neg (by simp [h]), if_pos hp]
theorem readD_at {D : DiskS} (h : D.down = false) (i : Nat) (hi : i < D.now.length) : readD D i = (D.now[i], 0) := by
  unfold readD; rw [if_neg (by simp [h]), if_neg (by omega)]; simp [hi]
theorem disk_Read (L : Dk) (D : DiskS) (p : Int) (w : World) (h : DiskAt w L D) :
    Calls Tryz.prog 81 #[.pointer (some ⟨L.b, 0, none⟩), .int .i64 p] w fun e w' => e = .returned (.tuple #[.string (readD D p).1, errV (readD D p).2]) ∧ w' = w := by
  have c1 := h.c1
  have c4 := h.c4
  have hc := (owns_cap h.now).1
  have hm := (owns_cap h.now).2
  unfold maxLen at hm
  cases hd : D.down
  · rw [hd] at c4
    by_cases hp : p < 0 ∨ (D.now.length : Int) ≤ p
    · have E := Lib.hid (readD_out hd hp)
      rw [E.out]
      clear h hd E
      rcases hp with hp | hp
      · go_enter Tryz.func81, Tryz.ntmps81
        go_wp2_with fail
        refine bodyPost_ret (v := .tuple #[.string ByteArray.empty, errV 1]) (by simp [results, Tryz.results81, go_sem, errV]; rfl) rfl ?_
        exact ⟨rfl, rfl⟩
      · have hp' : ¬ p < 0 := by omega
        go_enter Tryz.func81, Tryz.ntmps81
        go_wp2_with fail
        refine bodyPost_ret (v := .tuple #[.string ByteArray.empty, errV 1]) (by simp [results, Tryz.results81, go_sem, errV]; rfl) rfl ?_
        exact ⟨rfl, rfl⟩
    · obtain ⟨i, rfl⟩ : ∃ i : Nat, p = i := ⟨p.toNat, by omega⟩
      have hi : i < D.now.length := by omega
      have cn := h.ncell i hi
      have E := Lib.hid (readD_at hd i hi)
      obtain ⟨s, hs⟩ : ∃ s, s = D.now[i] := ⟨_, rfl⟩
      rw [← hs] at cn E
      rw [E.out]
      clear h hd E hs hp
      go_enter Tryz.func81, Tryz.ntmps81
      go_wp2_with fail
      refine bodyPost_ret (v := .tuple #[.string s, errV 0]) (by simp [results, Tryz.results81, go_sem, errV]) rfl ?_
      exact ⟨rfl, rfl⟩
  · rw [hd] at c4
    have E := Lib.hid (readD_down hd p)
    rw [E.out]
    clear h hd E
    go_enter Tryz.func81, Tryz.ntmps81
    go_wp2_with fail
    refine bodyPost_ret (v := .tuple #[.string ByteArray.empty, errV 8]) (by simp [results, Tryz.results81, go_sem, errV]; rfl) rfl ?_
    exact ⟨rfl, rfl⟩
end Go.Proofs.YtggpodlecljcbadGreatDoor
namespace Go.Proofs.YtggpodlecljcbadGreatDoor
open Go.RowKit Go.Sort
set_option linter.unusedSimpArgs false
set_option linter.unusedVariables false
theorem bytes_info : (Tryz.prog.info? 5).map (fun i => (i.zero, i.size, i.bytes)) = some (some (.int .u8 0), 1, 1) := by kernel_rfl
theorem make_bytes (n : Nat) (hn : n ≤ 1000) (w : World) : (Instr.makeSlice 154 (.int .i64 (n : Int)) (.int .i64 (n : Int))).run Tryz.prog w = .ok (.slice (some ⟨w.heap.size, 0, none⟩) n n) (w.alloc (.cells (madeCells #[.int .u8 0] n) 5)) :=
  run_make_row' (P := Tryz.prog) 154 5 (.int .u8 0) 1 Tryz.underlying154 bytes_info rfl .i64 .i64 n (by omega) (by omega) w
theorem conv_zeros (n : Nat) (w : World) : (convert 154 9 (.slice (some ⟨w.heap.size, 0, none⟩) n n)).run Tryz.prog (w.alloc (.cells (madeCells #[.int .u8 0] n) 5)) = .ok (.string (zeros n)) (w.alloc (.cells (madeCells #[.int .u8 0] n) 5)) := by
  have h := run_convert_bytes_back (P := Tryz.prog) (w.alloc (.cells (madeCells #[.int .u8 0] n) 5)) 154 9 5 ⟨w.heap.size, 0, none⟩ n (List.replicate n 0) Tryz.underlying154 Tryz.underlying5 Tryz.underlying9 (fun j hj => by
    rw [Addr.add_lit]
    have hj' : j < n := by simpa using hj
    simp [madeCells, hj', Nat.mod_one])
  simp only [List.length_replicate] at h
  rw [h]
  simp [zeros]
theorem disk_full (s : ByteArray) (hs : s.size ≤ 40) (w : World) :
    Calls Tryz.prog 56 #[.string s] w fun e w' => e = .returned (.string (fullS s)) ∧ Below w.heap.size w w' := by
  obtain ⟨n, hn⟩ : ∃ n, n = 40 - s.size := ⟨_, rfl⟩
  have q : (40 : Int) - (s.size : Int) = (n : Int) := by omega
  have hmk := make_bytes n (by omega)
  have hcv := conv_zeros n
  have HB := Lib.hid (below_alloc w (.cells (madeCells #[.int .u8 0] n) 5))
  have HN := Lib.hid hn
  have hz : ¬ 9223372036854775807 < s.size + (zeros n).size := by rw [zeros_size]; omega
  clear hn
  go_enter Tryz.func56, Tryz.ntmps56
  go_wp2_with fail
  go_ret
  exact ⟨by unfold fullS; rw [HN.out]; rfl, HB.out⟩
end Go.Proofs.YtggpodlecljcbadGreatDoor
