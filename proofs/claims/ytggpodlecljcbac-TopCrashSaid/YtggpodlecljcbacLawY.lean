/- The walk of the closed fact of chapter 8. A log on a disk, as a law holds it. -/
import Derived.Test.YtggpodlecljcbacWalkY7
import Derived.Test.YtggpodlecljcbacWalkY8
import Derived.Test.YtggpodlecljcbacLawK
namespace Go.Proofs.Ytggpodlecljcbac
set_option linter.unusedSimpArgs false
set_option linter.unusedVariables false
open Go.RowKit Go.Sort
theorem light_lenY {l : List Change} {most : Int} (h : lightChanges l most = true) : (l.length : Int) ≤ most := by
  unfold lightChanges at h
  simp only [Bool.and_eq_true, decide_eq_true_eq] at h
  exact h.1
theorem one_changeY {w : World} {b : Nat} (f : Change) (h0 : w.cell? ⟨b, 0, none⟩ = some (.string f.key)) (h1 : w.cell? ⟨b, 1, none⟩ = some (.string f.val)) (h2 : w.cell? ⟨b, 2, none⟩ = some (.bool f.gone)) : Changes w (.slice (some ⟨b, 0, none⟩) 1 1) [f] := by
  refine ⟨rfl, some ⟨b, 0, none⟩, 1, rfl, Nat.le_refl _, by decide, (fun _ h => by cases h), fun j u hj => ⟨b, 0, rfl, ?_⟩⟩
  rw [Nat.zero_add]
  match j, hj with
  | 0, hj => simp [Change.cells] at hj; subst hj; exact h0
  | 1, hj => simp [Change.cells] at hj; subst hj; exact h1
  | 2, hj => simp [Change.cells] at hj; subst hj; exact h2
  | j + 3, hj => simp [Change.cells] at hj
/-- a log on a disk; all lies in memory from B on. -/
structure LogD (w : World) (B lb b : Nat) (L : Dk) (D : DiskS) (fr many first next : Nat) : Prop where
  d : DiskAt w L D
  eq : L.b = b
  l : LogAt w lb L fr many first next
  out : ¬ L.foot lb
  low : ∀ k, L.foot k → B ≤ k
  blow : B ≤ lb
def logF (L : Dk) (lb : Nat) : Nat → Prop := fun k => L.foot k ∨ k = lb
section
variable {w w' : World} {B lb b : Nat} {L : Dk} {D D' : DiskS} {fr many first next n' : Nat}
theorem LogD.below (h : LogD w B lb b L D fr many first next) (hb : Below w.heap.size w w') : LogD w' B lb b L D fr many first next := ⟨h.d.below hb, h.eq, h.l.below hb, h.out, h.low, h.blow⟩
theorem LogD.added (h : LogD w B lb b L D fr many first next) (hB : B ≤ w.heap.size) (ha : Added w L lb fr many first n' D' w') : ∃ L', LogD w' B lb b L' D' fr many first n' ∧ Below B w w' ∧ Off (logF L lb) w w' ∧ ∀ k, logF L' lb k → logF L lb k ∨ w.heap.size ≤ k := by
  obtain ⟨L', e, d, l, o, g⟩ := ha
  refine ⟨L', ⟨d, e.trans h.eq, l, fun hf => ?_, fun k hk => ?_, h.blow⟩, ?_, o, fun k hk => ?_⟩
  · rcases g lb hf with hf | hf
    · exact h.out hf
    · have := h.l.lt; omega
  · rcases g k hk with hf | hf
    · exact h.low k hf
    · omega
  · exact o.below B hB (fun x hx => by
      rcases hx with hx | hx
      · exact h.low x hx
      · rw [hx]; exact h.blow)
  · rcases hk with hk | hk
    · rcases g k hk with hf | hf
      · exact Or.inl (Or.inl hf)
      · exact Or.inr hf
    · exact Or.inl (Or.inr hk)
theorem Deeds.log {v : Value} {ds : List (List Change)} (h : Deeds (fun x => x < B ∨ x = lb) w' v ds) (hL : ∀ k, L.foot k → k < B) : Deeds (logF L lb) w' v ds := h.mono fun x hx => by
  rcases hx with hx | hx
  · exact Or.inl (hL x hx)
  · exact Or.inr hx
end
theorem open_logd (w : World) (B b : Nat) (L : Dk) (D : DiskS) (fr many first : Nat) (h : DiskAt w L D) (hb : L.b = b) (hd : D.down = false) (hok : D.ok) (h40 : ∀ s ∈ D.now, s.size = 40) (hm : 1 ≤ many) (hfm : fr + many ≤ D.now.length) (hf1 : 1 ≤ first) (hf : first ≤ 1000000) (hlow : ∀ k, L.foot k → B ≤ k) (hB : B ≤ w.heap.size)
    {ds : List (List Change)} {used : Nat} (hcl : closedY first (sectorsY D fr many) 0 [] [] 0 = (ds, used)) :
    Calls Try.prog 47 #[.pointer (some ⟨b, 0, none⟩), .int .i64 fr, .int .i64 many, .int .i64 first] w fun e w' => ∃ lb v, e = .returned (.tuple #[.pointer (some ⟨lb, 0, none⟩), v, .nilIface]) ∧ LogD w' B lb b L D fr many first used ∧ Deeds (logF L lb) w' v ds ∧ w.heap.size ≤ lb ∧ Below w.heap.size w w' := by
  have := log_Open L D fr many first w h hd hok h40 hm hfm hf1 (by omega)
  rw [hcl, hb] at this
  refine this.mono ?_
  rintro e w' ⟨lb, v, rfl, hl, hlb, hde, hbe⟩
  refine ⟨lb, v, rfl, ⟨h.below hbe, hb, hl, fun hf => ?_, hlow, Nat.le_trans hB hlb⟩, hde.log h.lt, hlb, hbe⟩
  have := h.lt lb hf
  omega
theorem Deeds.logs {w w' : World} {L : Dk} {D : DiskS} {lb B b fr many first next : Nat} {v : Value} {ds : List (List Change)} (h : Deeds (fun x => x < w.heap.size) w' v ds) (hl : LogD w B lb b L D fr many first next) : Deeds (logF L lb) w' v ds := h.mono fun x hx => by
  rcases hx with hx | hx
  · exact hl.d.lt x hx
  · rw [hx]; exact hl.l.lt
theorem LogD.lt {w : World} {L : Dk} {D : DiskS} {lb B b fr many first next : Nat} (hl : LogD w B lb b L D fr many first next) : ∀ k, logF L lb k → k < w.heap.size := fun x hx => by
  rcases hx with hx | hx
  · exact hl.d.lt x hx
  · rw [hx]; exact hl.l.lt
theorem LogD.as {w : World} {L : Dk} {D : DiskS} {lb B b fr many first n n' : Nat} (h : LogD w B lb b L D fr many first n) (e : n = n') : LogD w B lb b L D fr many first n' := e ▸ h
def kxChange : Change := ⟨⟨#[107]⟩, ⟨#[120]⟩, false⟩
theorem newD_calm (n : Nat) : Calm (newD n) := ⟨rfl, rfl⟩
theorem newD_40 (n : Nat) : ∀ s ∈ (newD n).now, s.size = 40 := fun s hs => by
  have : s = zeros 40 := List.eq_of_mem_replicate hs
  rw [this]; exact zeros_size 40
theorem newD_len (n : Nat) : (newD n).now.length = n := by simp [newD]
theorem newD_log (n fr many first : Nat) (h1 : 1 ≤ many) (h2 : fr + many ≤ n) (h3 : 1 ≤ first) (h4 : first ≤ 1000000) : closedY first (sectorsY (newD n) fr many) 0 [] [] 0 = ([], 0) := by
  have : sectorsY (newD n) fr many = zeros 40 :: List.replicate (many - 1) (zeros 40) := by
    unfold sectorsY newD
    simp only [List.drop_replicate, List.take_replicate]
    rw [Nat.min_eq_left (by omega), ← List.replicate_succ]
    congr 1
    omega
  rw [this]
  exact run_stop first 0 _ [] [] 0 (Or.inr ⟨_, rfl⟩) h3 (by omega)
end Go.Proofs.Ytggpodlecljcbac
