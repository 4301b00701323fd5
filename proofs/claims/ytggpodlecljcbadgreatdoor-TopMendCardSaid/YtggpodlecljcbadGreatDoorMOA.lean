/- What a reading of an argument says of memory: files, changes, texts, quilts, copies. What a reading of an argument says of memory: acts. Bounds of numbers that fit. -/
import Derived.ProofKit
import Derived.OpenShut
import Derived.Deep.Slices
import Derived.Lib.SmallJoins
import Derived.Test.YtggpodlecljcbadGreatDoorMB
import Derived.Test.YtggpodlecljcbadGreatDoorMR
namespace Go.Proofs.YtggpodlecljcbadGreatDoor
open Go.ChangeShapes Go.WideShapes Go.ChangeAt Go.RowKit Go.Deep Go.Joins
section
variable {H : Type} {enc : TypeId × Value → H} {w : World} {base : Nat} {spare : Nat → Bool} {held : Bool}

theorem build_list {α : Type} {p : Nat → α → Prop} : ∀ n : Nat, (∀ i, i < n → ∃ x, p i x) → ∃ l : List α, l.length = n ∧ ∀ i (h : i < l.length), p i l[i]
  | 0, _ => ⟨[], rfl, fun i h => by simp at h⟩
  | n + 1, h => by
    obtain ⟨l, hl, hp⟩ := build_list n (fun i hi => h i (by omega))
    obtain ⟨x, hx⟩ := h n (by omega)
    refine ⟨l ++ [x], by simp [hl], fun i hi => ?_⟩
    by_cases hin : i < l.length
    · rw [List.getElem_append_left hin]; exact hp i hin
    · have : i = n := by simp at hi; omega
      subst this
      rw [List.getElem_append_right (by omega)]
      simpa [hl] using hx
theorem addr_add {w : World} {a : Addr} {j : Nat} {u : Value} (hs : a.spot = none) (h : w.cell? (a.add j) = some u) : ∃ b off, a = ⟨b, off, none⟩ ∧ w.cell? ⟨b, off + j, none⟩ = some u := by
  obtain ⟨b, off, spot⟩ := a
  simp only at hs
  subst hs
  refine ⟨b, off, rfl, ?_⟩
  by_cases hj : j = 0
  · subst hj; simpa [Addr.add] using h
  · simpa [Addr.add, hj] using h
theorem add_add' (a : Addr) (i j : Nat) : (a.add i).add j = a.add (i + j) := by
  simpa using Go.Deep.add_add a i j
/-- A slice whose elements read as k cells each. -/
theorem trod_rd {α : Type} {k : Nat} {encα : α → List Value} {ok : α → Prop} {P : Program} {t e : TypeId} (ht : P.underlying t = some (.slice e)) (hC : P.cellsOf e = k) (hk : 0 < k) (hlen : ∀ x, (encα x).length = k)
    (hel : ∀ n cs y, DataW.trod enc P w base spare held n e cs = some y → ∃ x, cs = encα x ∧ ok x)
    {fuel : Nat} {cs : List Value} {x : DataW H × List MemPlace} (h : DataW.trod enc P w base spare held fuel t cs = some x) :
    ∃ v l, cs = [v] ∧ Rd k encα w v l ∧ ∀ x ∈ l, ok x := by
  rcases open_slice ht h with ⟨rfl, _⟩ | ⟨a, len, cap, m, n, D, Pl, rfl, _, hl, hm, hmm, _, hi⟩
  · exact ⟨_, [], rfl, Rd.nil w, fun x hx => by cases hx⟩
  · rw [hC] at hi
    have hlm : len ≤ m := by rw [hmm]; split <;> omega
    obtain ⟨l, hll, hp⟩ := build_list (p := fun i (x : α) => w.cells? base (a.add (i * k)) k = some (encα x) ∧ ok x) len (fun i him => by
      obtain ⟨cs', h1, h2⟩ := hi i (by omega)
      obtain ⟨x, rfl, hx⟩ := hel _ _ _ h2
      exact ⟨x, h1, hx⟩)
    refine ⟨_, l, rfl, ⟨flat_length hlen l, some a, cap, by rw [hll], by omega, hm, (fun _ h => by cases h), fun j u hj => ?_⟩, fun x hx => ?_⟩
    · have hjl : j < l.length * k := by rw [← flat_length hlen l]; exact (List.getElem?_eq_some_iff.1 hj).1
      have hik : j / k < l.length := (Nat.div_lt_iff_lt_mul hk).2 hjl
      have hjk : j % k < k := Nat.mod_lt _ hk
      have hsplit : j = j / k * k + j % k := by rw [Nat.mul_comm]; exact (Nat.div_add_mod j k).symm
      have h1 := flat_at hlen l (j / k) hik (j % k) hjk
      rw [← hsplit, hj] at h1
      obtain ⟨_, _, hc⟩ := World.cells?_some (hp _ hik).1
      have h2 := hc (j % k) hjk
      rw [← h1, add_add', ← hsplit] at h2
      have h0k : 0 < l.length := Nat.lt_of_le_of_lt (Nat.zero_le _) hik
      obtain ⟨_, _, hc0⟩ := World.cells?_some (hp 0 h0k).1
      have h3 := hc0 0 hk
      have hs : a.spot = none := by
        have h4 : (encα l[0])[0]? = some ((encα l[0])[0]'(by rw [hlen]; exact hk)) := List.getElem?_eq_getElem _
        rw [h4, Nat.zero_mul] at h3
        have h5 := World.cell?_spot h3
        simpa [Addr.add] using h5
      obtain ⟨b, off, ea, hcell⟩ := addr_add hs h2
      exact ⟨b, off, by rw [ea], hcell⟩
    · obtain ⟨i, hi', rfl⟩ := List.mem_iff_getElem.1 hx
      exact (hp i hi').2
theorem trod_part {P : Program} {t : TypeId} {fs : Array Field} (ht : P.underlying t = some (.struct fs)) (i T o c : Nat) (hi : (fs[i]?).map (fun f => (f.type, f.offset)) = some (T, o)) (hc : P.cellsOf T = c)
    {n : Nat} {cs : List Value} {y : DataW H × List MemPlace} (h : DataW.trod enc P w base spare held n t cs = some y) : ∃ m z, DataW.trod enc P w base spare held m T ((cs.drop o).take c) = some z := by
  obtain ⟨xs, m, _, _, _, hl, hf⟩ := DataW.trod_struct ht h
  obtain ⟨f, hf1, hf2⟩ := Option.map_eq_some_iff.1 hi
  simp only [Prod.mk.injEq] at hf2
  have h1 := hf i f hf1
  have hlt : i < fs.size := (Array.getElem?_eq_some_iff.1 hf1).1
  rw [hf2.1, hf2.2, hc, List.getElem?_eq_getElem (by omega)] at h1
  exact ⟨m, _, h1⟩
theorem trod_cells {P : Program} {t : TypeId} {fs : Array Field} (ht : P.underlying t = some (.struct fs)) (k : Nat) (hk : P.cellsOf t = k)
    {n : Nat} {cs : List Value} {y : DataW H × List MemPlace} (h : DataW.trod enc P w base spare held n t cs = some y) : cs.length = k := by
  obtain ⟨xs, m, _, _, hl, _⟩ := DataW.trod_struct ht h
  exact hl.trans hk
theorem three_of {α : Type} {cs : List α} (h : cs.length = 3) : ∃ a b c, cs = [a, b, c] := by
  match cs, h with
  | [a, b, c], _ => exact ⟨a, b, c, rfl⟩
theorem trod_change {n : Nat} {cs : List Value} {y : DataW H × List MemPlace} (h : DataW.trod enc Tryz.prog w base spare held n 91 cs = some y) : ∃ f : Change, cs = f.cells ∧ f.key.size ≤ maxLen ∧ f.val.size ≤ maxLen := by
  obtain ⟨m0, z0, h0⟩ := trod_part Tryz.underlying91 0 9 0 1 rfl (by kernel_rfl) h
  obtain ⟨m1, z1, h1⟩ := trod_part Tryz.underlying91 1 9 1 1 rfl (by kernel_rfl) h
  obtain ⟨m2, z2, h2⟩ := trod_part Tryz.underlying91 2 4 2 1 rfl (by kernel_rfl) h
  obtain ⟨a, b, c, rfl⟩ := three_of (trod_cells Tryz.underlying91 3 (by kernel_rfl) h)
  obtain ⟨s0, k0, _, o0⟩ := DataW.trod_string Tryz.underlying9 h0
  obtain ⟨s1, k1, _, o1⟩ := DataW.trod_string Tryz.underlying9 h1
  obtain ⟨i, k2, _⟩ := DataW.trod_bool Tryz.underlying4 h2
  simp only [List.drop_zero, List.drop_succ_cons, List.take_succ_cons, List.take_zero, List.cons.injEq, and_true] at k0 k1 k2
  subst k0 k1 k2
  exact ⟨⟨s0, s1, i⟩, rfl, o0, o1⟩
theorem trod_text {n : Nat} {cs : List Value} {y : DataW H × List MemPlace} (h : DataW.trod enc Tryz.prog w base spare held n 9 cs = some y) : ∃ f : ByteArray, cs = strCells f ∧ f.size ≤ maxLen := by
  obtain ⟨s0, k0, _, o0⟩ := DataW.trod_string Tryz.underlying9 h
  exact ⟨s0, k0, o0⟩
theorem trod_changes {n : Nat} {cs : List Value} {y : DataW H × List MemPlace} (h : DataW.trod enc Tryz.prog w base spare held n 24 cs = some y) : ∃ v l, cs = [v] ∧ Changes w v l ∧ ∀ f ∈ l, f.key.size ≤ maxLen ∧ f.val.size ≤ maxLen :=
  trod_rd Tryz.underlying24 (by kernel_rfl) (by decide) Change.cells_len (fun _ _ _ h => trod_change h) h
theorem trod_texts {n : Nat} {cs : List Value} {y : DataW H × List MemPlace} (h : DataW.trod enc Tryz.prog w base spare held n 52 cs = some y) : ∃ v l, cs = [v] ∧ Texts w v l ∧ ∀ f ∈ l, f.size ≤ maxLen :=
  trod_rd Tryz.underlying52 (by kernel_rfl) (by decide) strCells_len (fun _ _ _ h => trod_text h) h
end
end Go.Proofs.YtggpodlecljcbadGreatDoor
namespace Go.Proofs.YtggpodlecljcbadGreatDoor
open Go.ChangeShapes Go.WideShapes Go.ChangeAt Go.RowKit Go.Deep Go.Joins
section
variable {H : Type} {enc : TypeId × Value → H} {w : World} {base : Nat} {spare : Nat → Bool} {held : Bool}
theorem six_of {α : Type} {cs : List α} (h : cs.length = 6) : ∃ a b c d e f, cs = [a, b, c, d, e, f] := by
  match cs, h with
  | [a, b, c, d, e, f], _ => exact ⟨a, b, c, d, e, f, rfl⟩
def Act.fits (a : Act) : Prop := (Lit.int .i64 a.n).wf = true ∧ (Lit.int .u64 a.k).wf = true
set_option maxRecDepth 100000 in
theorem trod_act0 {n : Nat} {cs : List Value} {y : DataW H × List MemPlace} (h : DataW.trod enc Tryz.prog w base spare held n 26 cs = some y) : ∃ av : ActV, cs = av.cells ∧ ∃ a : Act, IsAct w av a ∧ a.ok ∧ a.fits := by
  obtain ⟨m0, z0, h0⟩ := trod_part Tryz.underlying26 0 9 0 1 rfl (by kernel_rfl) h
  obtain ⟨m1, z1, h1⟩ := trod_part Tryz.underlying26 1 9 1 1 rfl (by kernel_rfl) h
  obtain ⟨m2, z2, h2⟩ := trod_part Tryz.underlying26 2 9 2 1 rfl (by kernel_rfl) h
  obtain ⟨m3, z3, h3⟩ := trod_part Tryz.underlying26 3 3 3 1 rfl (by kernel_rfl) h
  obtain ⟨m4, z4, h4⟩ := trod_part Tryz.underlying26 4 23 4 1 rfl (by kernel_rfl) h
  obtain ⟨m5, z5, h5⟩ := trod_part Tryz.underlying26 5 24 5 1 rfl (by kernel_rfl) h
  obtain ⟨a, b, c, d, e, f, rfl⟩ := six_of (trod_cells Tryz.underlying26 6 (by kernel_rfl) h)
  obtain ⟨s0, k0, _, o0⟩ := DataW.trod_string Tryz.underlying9 h0
  obtain ⟨s1, k1, _, o1⟩ := DataW.trod_string Tryz.underlying9 h1
  obtain ⟨s2, k2, _, o2⟩ := DataW.trod_string Tryz.underlying9 h2
  obtain ⟨i3, k3, _, o3⟩ := DataW.trod_int Tryz.underlying3 h3
  obtain ⟨i4, k4, _, o4⟩ := DataW.trod_int Tryz.underlying23 h4
  obtain ⟨v, l, k5, hr, o5⟩ := trod_changes h5
  simp only [List.drop_zero, List.drop_succ_cons, List.take_succ_cons, List.take_zero, List.cons.injEq, and_true] at k0 k1 k2 k3 k4 k5
  subst k0 k1 k2 k3 k4 k5
  exact ⟨⟨s0, s1, s2, i3, i4, _⟩, rfl, ⟨s0, s1, s2, i3, i4, l⟩, ⟨rfl, rfl, rfl, rfl, rfl, hr⟩, ⟨o0, o1, o2, o5⟩, ⟨o3, o4⟩⟩
theorem trod_acts {n : Nat} {cs : List Value} {y : DataW H × List MemPlace} (h : DataW.trod enc Tryz.prog w base spare held n 22 cs = some y) : ∃ v avs al, cs = [v] ∧ ActVs w v avs ∧ IsActs w avs al ∧ ∀ a ∈ al, a.ok ∧ a.fits := by
  obtain ⟨v, l, e, hr, hok⟩ := trod_rd (ok := fun av => ∃ a : Act, IsAct w av a ∧ a.ok ∧ a.fits) Tryz.underlying22 (by kernel_rfl) (by decide) ActV.cells_len (fun _ _ _ h => trod_act0 h) h
  obtain ⟨al, hl, hp⟩ := build_list (p := fun i (a : Act) => ∀ hi : i < l.length, IsAct w l[i] a ∧ a.ok ∧ a.fits) l.length (fun i hi => by
    obtain ⟨a, ha⟩ := hok l[i] (List.getElem_mem hi)
    exact ⟨a, fun _ => ha⟩)
  refine ⟨v, l, al, e, hr, ⟨hl.symm, fun i h h' => (hp i h' h).1⟩, fun a ha => ?_⟩
  obtain ⟨i, hi, rfl⟩ := List.getElem_of_mem ha
  exact (hp i hi (by omega)).2
theorem trod_act {n : Nat} {cs : List Value} {y : DataW H × List MemPlace} (h : DataW.trod enc Tryz.prog w base spare held n 26 cs = some y) : ∃ (av : ActV) (a : Act), cs = av.cells ∧ IsAct w av a ∧ (a.ok ∧ a.fits) := by
  obtain ⟨av, e, a, h1, h2⟩ := trod_act0 h
  exact ⟨av, a, e, h1, h2⟩
end
end Go.Proofs.YtggpodlecljcbadGreatDoor
namespace Go.Proofs.YtggpodlecljcbadGreatDoor
open Go.RowKit Go.Sort
end Go.Proofs.YtggpodlecljcbadGreatDoor
