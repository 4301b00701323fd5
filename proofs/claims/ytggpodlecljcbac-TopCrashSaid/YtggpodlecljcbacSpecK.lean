/- Plain: disks, and how a disk lies in memory. -/
import Derived.Test.YtggpodlecljcbacProg
import Derived.Test.YtggpodlecljcbacBase
namespace Go.Proofs.Ytggpodlecljcbac
set_option linter.unusedSimpArgs false
set_option linter.unusedVariables false
open Go.RowKit Go.Sort
structure Turn where
  pos : Nat
  data : ByteArray
def Turn.cells (t : Turn) : List Value := [.int .i64 t.pos, .string t.data]
theorem Turn.cells_len (t : Turn) : t.cells.length = 2 := rfl
structure DiskS where
  kept : List ByteArray
  now : List ByteArray
  wait : List Turn
  fuse : Int
  down : Bool
def zeros (n : Nat) : ByteArray := ⟨Array.replicate n 0⟩
def fullS (s : ByteArray) : ByteArray := s ++ zeros (40 - s.size)
theorem zeros_size (n : Nat) : (zeros n).size = n := by simp [zeros, ByteArray.size]
theorem fullS_size (s : ByteArray) (h : s.size ≤ 40) : (fullS s).size = 40 := by
  unfold fullS
  rw [ByteArray.size_append, zeros_size]
  omega
/-- F1: a disk of noughts. -/
def newD (n : Nat) : DiskS := ⟨List.replicate n (zeros 40), List.replicate n (zeros 40), [], -1, false⟩
def stepD (d : DiskS) : DiskS × Nat :=
  if d.down then (d, 8) else if d.fuse = 0 then ({ d with down := true, fuse := -1 }, 8) else ({ d with fuse := if 0 < d.fuse then d.fuse - 1 else d.fuse }, 0)
def writeD (d : DiskS) (pos : Int) (s : ByteArray) : DiskS × Nat :=
  if pos < 0 ∨ (d.now.length : Int) ≤ pos ∨ 40 < s.size then (d, 1)
  else if (stepD d).2 ≠ 0 then stepD d
  else ({ (stepD d).1 with now := d.now.set pos.toNat (fullS s), wait := d.wait ++ [⟨pos.toNat, fullS s⟩] }, 0)
def readD (d : DiskS) (pos : Int) : ByteArray × Nat :=
  if d.down then (ByteArray.empty, 8) else if pos < 0 ∨ (d.now.length : Int) ≤ pos then (ByteArray.empty, 1) else ((d.now[pos.toNat]?).getD ByteArray.empty, 0)
def flushD (d : DiskS) : DiskS × Nat :=
  if (stepD d).2 ≠ 0 then stepD d else ({ (stepD d).1 with kept := d.now, wait := [] }, 0)
def armD (d : DiskS) (n : Int) : DiskS := { d with fuse := max n (-1) }
def keepBit (keep : Int) (i : Nat) : Bool := bits BinOp.and IntKind.u64 (keep / 2 ^ (i % 64)) 1 == 1
def keepTo' (keep : Int) (wait : List Turn) (k : Nat) (kept : List ByteArray) : List ByteArray :=
  ((wait.take k).zipIdx).foldl (fun l p => if keepBit keep p.2 then l.set p.1.pos p.1.data else l) kept
def restartD (d : DiskS) (keep : Int) : DiskS := ⟨keepTo' keep d.wait d.wait.length d.kept, keepTo' keep d.wait d.wait.length d.kept, [], -1, false⟩
structure DiskS.ok (d : DiskS) : Prop where
  same : d.kept.length = d.now.length
  some : 1 ≤ d.now.length
  few : d.now.length ≤ 60
  pos : ∀ t ∈ d.wait, t.pos < d.now.length
  low : -1 ≤ d.fuse
  high : d.fuse ≤ 9223372036854775807
theorem keepTo_zero (keep : Int) (wait : List Turn) (kept : List ByteArray) : keepTo' keep wait 0 kept = kept := by simp [keepTo']
theorem keepTo_next (keep : Int) (wait : List Turn) (k : Nat) (kept : List ByteArray) (h : k < wait.length) :
    keepTo' keep wait (k + 1) kept = if keepBit keep k then (keepTo' keep wait k kept).set wait[k].pos wait[k].data else keepTo' keep wait k kept := by
  unfold keepTo'
  rw [List.take_succ_eq_append_getElem h, List.zipIdx_append, List.foldl_append]
  simp only [List.zipIdx_cons, List.zipIdx_nil, List.foldl_cons, List.foldl_nil, List.length_take, Nat.zero_add]
  rw [Nat.min_eq_left (by omega)]
theorem keepTo_length (keep : Int) (wait : List Turn) (kept : List ByteArray) : ∀ k, k ≤ wait.length → (keepTo' keep wait k kept).length = kept.length
  | 0, _ => by rw [keepTo_zero]
  | k + 1, h => by
    rw [keepTo_next keep wait k kept (by omega)]
    split
    · rw [List.length_set]; exact keepTo_length keep wait kept k (by omega)
    · exact keepTo_length keep wait kept k (by omega)
theorem newD_ok {n : Nat} (h1 : 1 ≤ n) (h2 : n ≤ 60) : (newD n).ok := ⟨by simp [newD], by simpa [newD] using h1, by simpa [newD] using h2, fun t ht => by simp [newD] at ht, by simp [newD], by simp [newD]⟩
theorem stepD_same (d : DiskS) : (stepD d).1.kept = d.kept ∧ (stepD d).1.now = d.now ∧ (stepD d).1.wait = d.wait := by
  unfold stepD; split
  · exact ⟨rfl, rfl, rfl⟩
  · split <;> exact ⟨rfl, rfl, rfl⟩
theorem DiskS.ok.step {d : DiskS} (h : d.ok) : (stepD d).1.ok := by
  obtain ⟨h1, h2, h3⟩ := stepD_same d
  refine ⟨by rw [h1, h2]; exact h.same, by rw [h2]; exact h.some, by rw [h2]; exact h.few, by rw [h2, h3]; exact h.pos, ?_, ?_⟩
  · have := h.low; unfold stepD; split
    · exact h.low
    · split
      · exact Int.le_refl _
      · show -1 ≤ (if 0 < d.fuse then d.fuse - 1 else d.fuse); split <;> omega
  · have := h.high; unfold stepD; split
    · exact h.high
    · split
      · show (-1 : Int) ≤ _; omega
      · show (if 0 < d.fuse then d.fuse - 1 else d.fuse) ≤ _; split <;> omega
theorem DiskS.ok.write {d : DiskS} (h : d.ok) (pos : Int) (s : ByteArray) : (writeD d pos s).1.ok := by
  unfold writeD; split
  · exact h
  · rename_i h0
    split
    · exact h.step
    · have h5 := h.step
      refine ⟨by rw [List.length_set]; exact (stepD_same d).1 ▸ h.same, by rw [List.length_set]; exact h.some, by rw [List.length_set]; exact h.few, fun t ht => ?_, h5.low, h5.high⟩
      rw [List.length_set]
      rcases List.mem_append.mp ht with ht | ht
      · exact h.pos t ht
      · simp at ht; subst ht; simp; omega
theorem DiskS.ok.flush {d : DiskS} (h : d.ok) : (flushD d).1.ok := by
  unfold flushD; split
  · exact h.step
  · have h5 := h.step
    have h2 := (stepD_same d).2.1
    exact ⟨by rw [h2], by rw [h2]; exact h.some, by rw [h2]; exact h.few, fun t ht => by simp at ht, h5.low, h5.high⟩
theorem DiskS.ok.arm {d : DiskS} (h : d.ok) (n : Int) (hn : n ≤ 9223372036854775807) : (armD d n).ok :=
  ⟨h.same, h.some, h.few, h.pos, by show (-1 : Int) ≤ max n (-1); omega, by show max n (-1) ≤ _; omega⟩
theorem DiskS.ok.restart {d : DiskS} (h : d.ok) (keep : Int) : (restartD d keep).ok := by
  have hl : (keepTo' keep d.wait d.wait.length d.kept).length = d.now.length := by rw [keepTo_length keep d.wait d.kept _ (Nat.le_refl _)]; exact h.same
  exact ⟨rfl, by show 1 ≤ (keepTo' _ _ _ _).length; rw [hl]; exact h.some, by show (keepTo' _ _ _ _).length ≤ 60; rw [hl]; exact h.few, fun t ht => by simp [restartD] at ht, by simp [restartD], by simp [restartD]⟩

/-- Where a disk lies: its box, the rows kept and now, what waits. -/
structure Dk where
  b : Nat
  gk : Nat
  gn : Nat
  ck : Nat
  cn : Nat
  wv : Value
def Dk.foot (L : Dk) (k : Nat) : Prop := k = L.b ∨ k = L.gk ∨ k = L.gn ∨ L.wv.ownBlock = some k
structure DAt (ty tt : TypeId) (w : World) (L : Dk) (D : DiskS) : Prop where
  box : w.heap[L.b]? = some (.cells #[.slice (some ⟨L.gk, 0, none⟩) D.kept.length L.ck, .slice (some ⟨L.gn, 0, none⟩) D.now.length L.cn, L.wv, .int .i64 D.fuse, .bool D.down] ty (0, 0))
  kept : w.ownsRow 0 9 1 (.slice (some ⟨L.gk, 0, none⟩) D.kept.length L.ck) D.kept.length (D.kept.map .string)
  now : w.ownsRow 0 9 1 (.slice (some ⟨L.gn, 0, none⟩) D.now.length L.cn) D.now.length (D.now.map .string)
  wait : w.ownsRow 0 tt 2 L.wv D.wait.length (D.wait.flatMap Turn.cells)
  kb : L.gk ≠ L.b
  nb : L.gn ≠ L.b
  kn : L.gk ≠ L.gn
  wb : L.wv.ownBlock ≠ some L.b
  wk : L.wv.ownBlock ≠ some L.gk
  wn : L.wv.ownBlock ≠ some L.gn
section
variable {ty tt : TypeId} {w w' : World} {L : Dk} {D : DiskS}
theorem DAt.lt (h : DAt ty tt w L D) : ∀ k, L.foot k → k < w.heap.size := by
  rintro k (rfl | rfl | rfl | hk)
  · exact (Array.getElem?_eq_some_iff.1 h.box).1
  · exact (h.kept.lt _ rfl).2
  · exact (h.now.lt _ rfl).2
  · exact (h.wait.lt _ hk).2
theorem DAt.keep (h : DAt ty tt w L D) (hb : ∀ k, L.foot k → w'.heap[k]? = w.heap[k]?) : DAt ty tt w' L D :=
  ⟨by rw [hb _ (Or.inl rfl)]; exact h.box, owns_of_block h.kept (fun g hg => by cases hg; exact hb _ (Or.inr (Or.inl rfl))), owns_of_block h.now (fun g hg => by cases hg; exact hb _ (Or.inr (Or.inr (Or.inl rfl)))),
    owns_of_block h.wait (fun g hg => hb _ (Or.inr (Or.inr (Or.inr hg)))), h.kb, h.nb, h.kn, h.wb, h.wk, h.wn⟩
theorem DAt.off {G : Nat → Prop} (h : DAt ty tt w L D) (hO : Off G w w') (hG : ∀ k, L.foot k → ¬ G k) : DAt ty tt w' L D := h.keep fun k hk => hO.block k (h.lt k hk) (hG k hk)
theorem DAt.below (h : DAt ty tt w L D) (hb : Below w.heap.size w w') : DAt ty tt w' L D := h.keep fun k hk => hb.block k (h.lt k hk)
theorem DAt.c0 (h : DAt ty tt w L D) : w.cell? ⟨L.b, 0, none⟩ = some (.slice (some ⟨L.gk, 0, none⟩) D.kept.length L.ck) := by simp [World.cell?, h.box]
theorem DAt.c1 (h : DAt ty tt w L D) : w.cell? ⟨L.b, 1, none⟩ = some (.slice (some ⟨L.gn, 0, none⟩) D.now.length L.cn) := by simp [World.cell?, h.box]
theorem DAt.c2 (h : DAt ty tt w L D) : w.cell? ⟨L.b, 2, none⟩ = some L.wv := by simp [World.cell?, h.box]
theorem DAt.c3 (h : DAt ty tt w L D) : w.cell? ⟨L.b, 3, none⟩ = some (.int .i64 D.fuse) := by simp [World.cell?, h.box]
theorem DAt.c4 (h : DAt ty tt w L D) : w.cell? ⟨L.b, 4, none⟩ = some (.bool D.down) := by simp [World.cell?, h.box]
theorem DAt.f (h : DAt ty tt w L D) (o : Nat) : w.frozen? ⟨L.b, o, none⟩ = false := by simp [World.frozen?, h.box]
theorem DAt.ncell (h : DAt ty tt w L D) (i : Nat) (hi : i < D.now.length) : w.cell? ⟨L.gn, i, none⟩ = some (.string D.now[i]) := by
  have := owns_cell h.now i (by simpa using hi); simpa using this
theorem DAt.kcell (h : DAt ty tt w L D) (i : Nat) (hi : i < D.kept.length) : w.cell? ⟨L.gk, i, none⟩ = some (.string D.kept[i]) := by
  have := owns_cell h.kept i (by simpa using hi); simpa using this
theorem DAt.fn (h : DAt ty tt w L D) (o : Nat) : w.frozen? ⟨L.gn, o, none⟩ = false := owns_frozen h.now o
theorem DAt.fk (h : DAt ty tt w L D) (o : Nat) : w.frozen? ⟨L.gk, o, none⟩ = false := owns_frozen h.kept o
theorem owns_set_far {base n size : Nat} {e : TypeId} {v : Value} {xs : List Value} (h : w.ownsRow base e size v n xs) {a : Addr} (ha : v.ownBlock ≠ some a.block) (u : Value) : (w.setCell a u).ownsRow base e size v n xs :=
  owns_of_block h fun g hg => Below.heap_setCell _ _ _ _ (fun e => ha (by rw [hg, e]))
theorem owns_sets_far {base n size : Nat} {e : TypeId} {v : Value} {xs : List Value} (h : w.ownsRow base e size v n xs) {b : Nat} (hb : v.ownBlock ≠ some b) (o : Nat) (us : List Value) : (w.setCells b o us).ownsRow base e size v n xs :=
  owns_of_block h fun g hg => heap_setCells _ _ _ _ _ (fun e => hb (by rw [hg, e]))
theorem own_ne {a b n c : Nat} (h : a ≠ b) : (Value.slice (some ⟨a, 0, none⟩) n c).ownBlock ≠ some b := fun e => h (by simpa [Value.ownBlock] using e)
theorem DAt.set_fuse (h : DAt ty tt w L D) (f : Int) : DAt ty tt (w.setCell ⟨L.b, 3, none⟩ (.int .i64 f)) L { D with fuse := f } :=
  ⟨by rw [heap_set_self _ _ _ _ h.box]; rfl, owns_set_far h.kept (own_ne h.kb) _, owns_set_far h.now (own_ne h.nb) _, owns_set_far h.wait h.wb _, h.kb, h.nb, h.kn, h.wb, h.wk, h.wn⟩
theorem DAt.set_down (h : DAt ty tt w L D) (f : Bool) : DAt ty tt (w.setCell ⟨L.b, 4, none⟩ (.bool f)) L { D with down := f } :=
  ⟨by rw [heap_set_self _ _ _ _ h.box]; rfl, owns_set_far h.kept (own_ne h.kb) _, owns_set_far h.now (own_ne h.nb) _, owns_set_far h.wait h.wb _, h.kb, h.nb, h.kn, h.wb, h.wk, h.wn⟩
theorem DAt.set_wait (h : DAt ty tt w L D) (v : Value) (l : List Turn) (hv : w.ownsRow 0 tt 2 v l.length (l.flatMap Turn.cells)) (h1 : v.ownBlock ≠ some L.b) (h2 : v.ownBlock ≠ some L.gk) (h3 : v.ownBlock ≠ some L.gn) :
    DAt ty tt (w.setCell ⟨L.b, 2, none⟩ v) { L with wv := v } { D with wait := l } :=
  ⟨by rw [heap_set_self _ _ _ _ h.box]; rfl, owns_set_far h.kept (own_ne h.kb) _, owns_set_far h.now (own_ne h.nb) _, owns_set_far hv h1 _, h.kb, h.nb, h.kn, h1, h2, h3⟩
theorem DAt.set_kept (h : DAt ty tt w L D) (g c : Nat) (l : List ByteArray) (hv : w.ownsRow 0 9 1 (.slice (some ⟨g, 0, none⟩) l.length c) l.length (l.map .string)) (h1 : g ≠ L.b) (h2 : g ≠ L.gn) (h3 : L.wv.ownBlock ≠ some g) :
    DAt ty tt (w.setCell ⟨L.b, 0, none⟩ (.slice (some ⟨g, 0, none⟩) l.length c)) { L with gk := g, ck := c } { D with kept := l } :=
  ⟨by rw [heap_set_self _ _ _ _ h.box]; rfl, owns_set_far hv (own_ne h1) _, owns_set_far h.now (own_ne h.nb) _, owns_set_far h.wait h.wb _, h1, h.nb, h2, h.wb, h3, h.wn⟩
theorem DAt.set_now (h : DAt ty tt w L D) (g c : Nat) (l : List ByteArray) (hv : w.ownsRow 0 9 1 (.slice (some ⟨g, 0, none⟩) l.length c) l.length (l.map .string)) (h1 : g ≠ L.b) (h2 : L.gk ≠ g) (h3 : L.wv.ownBlock ≠ some g) :
    DAt ty tt (w.setCell ⟨L.b, 1, none⟩ (.slice (some ⟨g, 0, none⟩) l.length c)) { L with gn := g, cn := c } { D with now := l } :=
  ⟨by rw [heap_set_self _ _ _ _ h.box]; rfl, owns_set_far h.kept (own_ne h.kb) _, owns_set_far hv (own_ne h1) _, owns_set_far h.wait h.wb _, h.kb, h1, h2, h.wb, h.wk, h3⟩
theorem DAt.now_at (h : DAt ty tt w L D) (i : Nat) (hi : i < D.now.length) (s : ByteArray) : DAt ty tt (w.setCell ⟨L.gn, i, none⟩ (.string s)) L { D with now := D.now.set i s } := by
  have h1 := owns_set h.now i (by simpa using hi) (.string s)
  refine ⟨by rw [Below.heap_setCell _ _ _ _ (fun e => h.nb e.symm), h.box]; simp, owns_set_far h.kept (own_ne h.kn) _, ?_, owns_set_far h.wait h.wn _, h.kb, h.nb, h.kn, h.wb, h.wk, h.wn⟩
  simpa using h1
theorem DAt.kept_at (h : DAt ty tt w L D) (i : Nat) (hi : i < D.kept.length) (s : ByteArray) : DAt ty tt (w.setCell ⟨L.gk, i, none⟩ (.string s)) L { D with kept := D.kept.set i s } := by
  have h1 := owns_set h.kept i (by simpa using hi) (.string s)
  refine ⟨by rw [Below.heap_setCell _ _ _ _ (fun e => h.kb e.symm), h.box]; simp, ?_, owns_set_far h.now (own_ne h.kn.symm) _, owns_set_far h.wait h.wk _, h.kb, h.nb, h.kn, h.wb, h.wk, h.wn⟩
  simpa using h1
theorem DAt.now_all (h : DAt ty tt w L D) (l : List ByteArray) (hl : l.length = D.now.length) : DAt ty tt (w.setCells L.gn 0 (l.map .string)) L { D with now := l } := by
  have h1 := owns_sets h.now (l.map .string) (by simpa using hl)
  refine ⟨by rw [heap_setCells _ _ _ _ _ (fun e => h.nb e.symm), h.box]; simp [hl], owns_sets_far h.kept (own_ne h.kn) _ _, ?_, owns_sets_far h.wait h.wn _ _, h.kb, h.nb, h.kn, h.wb, h.wk, h.wn⟩
  simpa [hl] using h1
theorem DAt.kept_all (h : DAt ty tt w L D) (l : List ByteArray) (hl : l.length = D.kept.length) : DAt ty tt (w.setCells L.gk 0 (l.map .string)) L { D with kept := l } := by
  have h1 := owns_sets h.kept (l.map .string) (by simpa using hl)
  refine ⟨by rw [heap_setCells _ _ _ _ _ (fun e => h.kb e.symm), h.box]; simp [hl], ?_, owns_sets_far h.now (own_ne h.kn.symm) _ _, owns_sets_far h.wait h.wk _ _, h.kb, h.nb, h.kn, h.wb, h.wk, h.wn⟩
  simpa [hl] using h1
/-- What a call on a disk leaves: the disk as D', in new places or its own; all else as it was. -/
def Turned (ty tt : TypeId) (w : World) (L : Dk) (D' : DiskS) (w' : World) : Prop := ∃ L', L'.b = L.b ∧ DAt ty tt w' L' D' ∧ Off L.foot w w' ∧ (∀ k, L'.foot k → L.foot k ∨ w.heap.size ≤ k)
theorem Turned.refl (h : DAt ty tt w L D) : Turned ty tt w L D w := ⟨L, rfl, h, Off.refl _ _, fun _ hk => Or.inl hk⟩
theorem Turned.of_below (h : DAt ty tt w L D) (hb : Below w.heap.size w w') : Turned ty tt w L D w' := ⟨L, rfl, h.below hb, off_below hb _, fun _ hk => Or.inl hk⟩
end
end Go.Proofs.Ytggpodlecljcbac
