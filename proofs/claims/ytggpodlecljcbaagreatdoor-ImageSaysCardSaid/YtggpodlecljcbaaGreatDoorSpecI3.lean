/- Plain: chapter 5: what differs between two lists of rows that rise. -/
import Derived.Test.YtggpodlecljcbaaGreatDoorSpecI2
namespace Go.Proofs.YtggpodlecljcbaaGreatDoor
set_option linter.unusedSimpArgs false
set_option linter.unusedVariables false
open Go.RowKit Go.Sort
theorem key_eq (a b : ByteArray) : (a.toList == b.toList) = true ↔ a = b := by rw [beq_iff_eq, bytes_eq_iff]
theorem bLt_ne {a b : ByteArray} (h : bLt a b = true) : a ≠ b := by
  intro e
  subst e
  rw [bLt_irrefl] at h
  cases h
theorem bLt_asymI {a b : ByteArray} (h : bLt a b = true) : bLt b a = false := by
  cases e : bLt b a
  · rfl
  · have := bLt_trans h e
    rw [bLt_irrefl] at this
    cases this
theorem bLt_eqI {a b : ByteArray} (h1 : bLt a b = false) (h2 : bLt b a = false) : a = b := by
  by_cases h : a.toList = b.toList
  · exact (bytes_eq_iff a b).1 h
  · have := less_total _ _ h1 h
    unfold bLt at h2
    rw [this] at h2
    cases h2
theorem rises_ext : ∀ (a b : List Change), RisesX a → RisesX b → (∀ c, c ∈ a ↔ c ∈ b) → a = b
  | [], [], _, _, _ => rfl
  | [], y :: b, _, _, h => absurd ((h y).2 (List.mem_cons_self ..)) (by simp)
  | x :: a, [], _, _, h => absurd ((h x).1 (List.mem_cons_self ..)) (by simp)
  | x :: a, y :: b, ha, hb, h => by
    obtain ⟨a1, a2⟩ := List.pairwise_cons.1 ha
    obtain ⟨b1, b2⟩ := List.pairwise_cons.1 hb
    have hxy : x = y := by
      rcases List.mem_cons.1 ((h x).1 (List.mem_cons_self ..)) with h1 | h1
      · exact h1
      · rcases List.mem_cons.1 ((h y).2 (List.mem_cons_self ..)) with h2 | h2
        · exact h2.symm
        · have e1 := b1 x h1
          have e2 := a1 y h2
          rw [bLt_asymI e1] at e2
          cases e2
    subst hxy
    congr 1
    refine rises_ext a b a2 b2 (fun c => ⟨fun hc => ?_, fun hc => ?_⟩)
    · rcases List.mem_cons.1 ((h c).1 (List.mem_cons_of_mem _ hc)) with h1 | h1
      · subst h1; exact absurd (a1 c hc) (by rw [bLt_irrefl]; simp)
      · exact h1
    · rcases List.mem_cons.1 ((h c).2 (List.mem_cons_of_mem _ hc)) with h1 | h1
      · subst h1; exact absurd (b1 c hc) (by rw [bLt_irrefl]; simp)
      · exact h1
theorem rises_inj {a : List Change} (h : RisesX a) {x y : Change} (hx : x ∈ a) (hy : y ∈ a) (hk : x.key = y.key) : x = y := by
  obtain ⟨i, hi, rfl⟩ := List.getElem_of_mem hx
  obtain ⟨j, hj, rfl⟩ := List.getElem_of_mem hy
  rcases Nat.lt_trichotomy i j with h1 | h1 | h1
  · have := h.at i j h1 hj
    rw [hk, bLt_irrefl] at this; cases this
  · subst h1; rfl
  · have := h.at j i h1 hi
    rw [hk, bLt_irrefl] at this; cases this
def keyIn (b : List Change) (k : ByteArray) : Bool := isAtX b k (rankX b k)
theorem keyIn_iff {b : List Change} (h : RisesX b) (k : ByteArray) : keyIn b k = true ↔ ∃ c ∈ b, c.key = k := by
  unfold keyIn
  constructor
  · intro hi
    have hl := isAt_lenX hi
    rw [isAt_ltX b k _ hl, key_eq] at hi
    exact ⟨_, List.getElem_mem hl, hi⟩
  · rintro ⟨c, hc, rfl⟩
    cases hi : isAtX b c.key (rankX b c.key)
    · have := filter_none b c.key h hi
      rw [List.filter_eq_self] at this
      have h2 := this c hc
      simp at h2
    · rfl
theorem keyIn_at {b : List Change} (h : RisesX b) {c : Change} (hc : c ∈ b) : b[rankX b c.key]? = some c := by
  have hk := (keyIn_iff h c.key).2 ⟨c, hc, rfl⟩
  unfold keyIn at hk
  have hl := isAt_lenX hk
  rw [isAt_ltX b _ _ hl, key_eq] at hk
  rw [List.getElem?_eq_getElem hl]
  congr 1
  exact rises_inj h (List.getElem_mem hl) hc hk
def goneX (k : ByteArray) : Change := ⟨k, ⟨#[]⟩, true⟩
/-- what is new: not there, or another one. -/
def newIn (a : List Change) (c : Change) : Bool := !keyIn a c.key || match a[rankX a c.key]? with | some x => !decide (x = c) | none => true
theorem newIn_iff {a : List Change} (h : RisesX a) (c : Change) : newIn a c = true ↔ c ∉ a := by
  unfold newIn
  constructor
  · intro hn hc
    rw [(keyIn_iff h c.key).2 ⟨c, hc, rfl⟩, keyIn_at h hc] at hn
    simp at hn
  · intro hn
    cases hk : keyIn a c.key
    · rfl
    · obtain ⟨x, hx, hxk⟩ := (keyIn_iff h c.key).1 hk
      rw [← hxk, keyIn_at h hx]
      have : x ≠ c := fun e => hn (e ▸ hx)
      simp [this]
def outA (a b : List Change) : List Change := (a.filter (fun c => !keyIn b c.key)).map (fun c => goneX c.key)
def outB (a b : List Change) : List Change := b.filter (newIn a)
theorem mem_outA {a b : List Change} (hb : RisesX b) (c : Change) : c ∈ outA a b ↔ ∃ x ∈ a, (∀ y ∈ b, y.key ≠ x.key) ∧ c = goneX x.key := by
  unfold outA
  rw [List.mem_map]
  constructor
  · rintro ⟨x, hx, rfl⟩
    obtain ⟨h1, h2⟩ := List.mem_filter.1 hx
    refine ⟨x, h1, fun y hy e => ?_, rfl⟩
    rw [(keyIn_iff hb x.key).2 ⟨y, hy, e⟩] at h2
    cases h2
  · rintro ⟨x, hx, hn, rfl⟩
    refine ⟨x, List.mem_filter.2 ⟨hx, ?_⟩, rfl⟩
    cases hk : keyIn b x.key
    · rfl
    · obtain ⟨y, hy, e⟩ := (keyIn_iff hb x.key).1 hk
      exact absurd e (hn y hy)
theorem mem_outB {a b : List Change} (ha : RisesX a) (c : Change) : c ∈ outB a b ↔ c ∈ b ∧ c ∉ a := by
  unfold outB
  rw [List.mem_filter, newIn_iff ha]
def mergeC : List Change → List Change → List Change
  | [], b => b
  | x :: a, [] => goneX x.key :: mergeC a []
  | x :: a, y :: b => if bLt x.key y.key = true then goneX x.key :: mergeC a (y :: b) else if bLt y.key x.key = true then y :: mergeC (x :: a) b else if x = y then mergeC a b else y :: mergeC a b
termination_by a b => a.length + b.length
theorem mem_mergeC : ∀ (a b : List Change), RisesX a → RisesX b → ∀ c, c ∈ mergeC a b ↔ (∃ x ∈ a, (∀ y ∈ b, y.key ≠ x.key) ∧ c = goneX x.key) ∨ (c ∈ b ∧ c ∉ a)
  | [], b, _, _, c => by simp [mergeC]
  | x :: a, [], ha, hb, c => by
    rw [mergeC, List.mem_cons, mem_mergeC a [] (List.pairwise_cons.1 ha).2 hb c]
    simp
  | x :: a, y :: b, ha, hb, c => by
    obtain ⟨a1, a2⟩ := List.pairwise_cons.1 ha
    obtain ⟨b1, b2⟩ := List.pairwise_cons.1 hb
    rw [mergeC]
    by_cases h1 : bLt x.key y.key = true
    · have hbx : ∀ z ∈ y :: b, bLt x.key z.key = true := by
        intro z hz
        rcases List.mem_cons.1 hz with rfl | hz
        · exact h1
        · exact bLt_trans h1 (b1 z hz)
      rw [if_pos h1, List.mem_cons, mem_mergeC a (y :: b) a2 hb c]
      constructor
      · rintro (rfl | ⟨z, hz, hn, rfl⟩ | ⟨hc, hn⟩)
        · exact Or.inl ⟨x, List.mem_cons_self .., fun z hz e => bLt_ne (hbx z hz) e.symm, rfl⟩
        · exact Or.inl ⟨z, List.mem_cons_of_mem _ hz, hn, rfl⟩
        · refine Or.inr ⟨hc, fun h => ?_⟩
          rcases List.mem_cons.1 h with rfl | h
          · exact bLt_ne (hbx c hc) rfl
          · exact hn h
      · rintro (⟨z, hz, hn, rfl⟩ | ⟨hc, hn⟩)
        · rcases List.mem_cons.1 hz with rfl | hz
          · exact Or.inl rfl
          · exact Or.inr (Or.inl ⟨z, hz, hn, rfl⟩)
        · exact Or.inr (Or.inr ⟨hc, fun h => hn (List.mem_cons_of_mem _ h)⟩)
    · rw [if_neg h1]
      by_cases h2 : bLt y.key x.key = true
      · have hay : ∀ z ∈ x :: a, bLt y.key z.key = true := by
          intro z hz
          rcases List.mem_cons.1 hz with rfl | hz
          · exact h2
          · exact bLt_trans h2 (a1 z hz)
        rw [if_pos h2, List.mem_cons, mem_mergeC (x :: a) b ha b2 c]
        constructor
        · rintro (rfl | ⟨z, hz, hn, rfl⟩ | ⟨hc, hn⟩)
          · exact Or.inr ⟨List.mem_cons_self .., fun h => bLt_ne (hay c h) rfl⟩
          · refine Or.inl ⟨z, hz, fun u hu => ?_, rfl⟩
            rcases List.mem_cons.1 hu with rfl | hu
            · exact bLt_ne (hay z hz)
            · exact hn u hu
          · exact Or.inr ⟨List.mem_cons_of_mem _ hc, hn⟩
        · rintro (⟨z, hz, hn, rfl⟩ | ⟨hc, hn⟩)
          · exact Or.inr (Or.inl ⟨z, hz, fun u hu => hn u (List.mem_cons_of_mem _ hu), rfl⟩)
          · rcases List.mem_cons.1 hc with rfl | hc
            · exact Or.inl rfl
            · exact Or.inr (Or.inr ⟨hc, hn⟩)
      · rw [if_neg h2]
        have hk : x.key = y.key := bLt_eqI (by simpa using h1) (by simpa using h2)
        have hA : ∀ z ∈ a, z.key ≠ y.key := fun z hz e => bLt_ne (a1 z hz) (hk.trans e.symm)
        have hB : ∀ z ∈ b, z.key ≠ x.key := fun z hz e => bLt_ne (b1 z hz) (hk.symm.trans e.symm)
        have hm := mem_mergeC a b a2 b2 c
        by_cases h3 : x = y
        · subst h3
          rw [if_pos rfl, hm]
          constructor
          · rintro (⟨z, hz, hn, rfl⟩ | ⟨hc, hn⟩)
            · refine Or.inl ⟨z, List.mem_cons_of_mem _ hz, fun u hu => ?_, rfl⟩
              rcases List.mem_cons.1 hu with rfl | hu
              · exact fun e => hA z hz e.symm
              · exact hn u hu
            · refine Or.inr ⟨List.mem_cons_of_mem _ hc, fun h => ?_⟩
              rcases List.mem_cons.1 h with rfl | h
              · exact hB c hc rfl
              · exact hn h
          · rintro (⟨z, hz, hn, rfl⟩ | ⟨hc, hn⟩)
            · rcases List.mem_cons.1 hz with rfl | hz
              · exact absurd rfl (hn z (List.mem_cons_self ..))
              · exact Or.inl ⟨z, hz, fun u hu => hn u (List.mem_cons_of_mem _ hu), rfl⟩
            · rcases List.mem_cons.1 hc with rfl | hc
              · exact absurd (List.mem_cons_self ..) hn
              · exact Or.inr ⟨hc, fun h => hn (List.mem_cons_of_mem _ h)⟩
        · rw [if_neg h3, List.mem_cons, hm]
          constructor
          · rintro (rfl | ⟨z, hz, hn, rfl⟩ | ⟨hc, hn⟩)
            · refine Or.inr ⟨List.mem_cons_self .., fun h => ?_⟩
              rcases List.mem_cons.1 h with h | h
              · exact h3 h.symm
              · exact hA c h rfl
            · refine Or.inl ⟨z, List.mem_cons_of_mem _ hz, fun u hu => ?_, rfl⟩
              rcases List.mem_cons.1 hu with rfl | hu
              · exact fun e => hA z hz e.symm
              · exact hn u hu
            · refine Or.inr ⟨List.mem_cons_of_mem _ hc, fun h => ?_⟩
              rcases List.mem_cons.1 h with rfl | h
              · exact hB c hc rfl
              · exact hn h
          · rintro (⟨z, hz, hn, rfl⟩ | ⟨hc, hn⟩)
            · rcases List.mem_cons.1 hz with rfl | hz
              · exact absurd hk.symm (hn y (List.mem_cons_self ..))
              · exact Or.inr (Or.inl ⟨z, hz, fun u hu => hn u (List.mem_cons_of_mem _ hu), rfl⟩)
            · rcases List.mem_cons.1 hc with rfl | hc
              · exact Or.inl rfl
              · exact Or.inr (Or.inr ⟨hc, fun h => hn (List.mem_cons_of_mem _ h)⟩)
termination_by a b => a.length + b.length
theorem rises_mergeC : ∀ (a b : List Change), RisesX a → RisesX b → RisesX (mergeC a b)
  | [], b, _, hb => by rw [mergeC]; exact hb
  | x :: a, [], ha, hb => by
    obtain ⟨a1, a2⟩ := List.pairwise_cons.1 ha
    rw [mergeC]
    refine List.pairwise_cons.2 ⟨fun c hc => ?_, rises_mergeC a [] a2 hb⟩
    rcases (mem_mergeC a [] a2 hb c).1 hc with ⟨z, hz, _, rfl⟩ | ⟨h, _⟩
    · exact a1 z hz
    · cases h
  | x :: a, y :: b, ha, hb => by
    obtain ⟨a1, a2⟩ := List.pairwise_cons.1 ha
    obtain ⟨b1, b2⟩ := List.pairwise_cons.1 hb
    rw [mergeC]
    by_cases h1 : bLt x.key y.key = true
    · rw [if_pos h1]
      refine List.pairwise_cons.2 ⟨fun c hc => ?_, rises_mergeC a (y :: b) a2 hb⟩
      rcases (mem_mergeC a (y :: b) a2 hb c).1 hc with ⟨z, hz, _, rfl⟩ | ⟨h, _⟩
      · exact a1 z hz
      · rcases List.mem_cons.1 h with rfl | h
        · exact h1
        · exact bLt_trans h1 (b1 c h)
    · rw [if_neg h1]
      by_cases h2 : bLt y.key x.key = true
      · rw [if_pos h2]
        refine List.pairwise_cons.2 ⟨fun c hc => ?_, rises_mergeC (x :: a) b ha b2⟩
        rcases (mem_mergeC (x :: a) b ha b2 c).1 hc with ⟨z, hz, _, rfl⟩ | ⟨h, _⟩
        · rcases List.mem_cons.1 hz with rfl | hz
          · exact h2
          · exact bLt_trans h2 (a1 z hz)
        · exact b1 c h
      · rw [if_neg h2]
        have hk : x.key = y.key := bLt_eqI (by simpa using h1) (by simpa using h2)
        by_cases h3 : x = y
        · rw [if_pos h3]; exact rises_mergeC a b a2 b2
        · rw [if_neg h3]
          refine List.pairwise_cons.2 ⟨fun c hc => ?_, rises_mergeC a b a2 b2⟩
          rcases (mem_mergeC a b a2 b2 c).1 hc with ⟨z, hz, _, rfl⟩ | ⟨h, _⟩
          · show bLt y.key z.key = true
            rw [← hk]; exact a1 z hz
          · exact b1 c h
termination_by a b => a.length + b.length
theorem outs_keys {a b : List Change} (ha : RisesX a) (hb : RisesX b) : (outA a b ++ outB a b).Pairwise (fun x y => x.key ≠ y.key) := by
  refine List.pairwise_append.2 ⟨?_, ?_, ?_⟩
  · unfold outA
    refine List.pairwise_map.2 ?_
    exact (List.Pairwise.filter _ ha).imp (fun h => bLt_ne h)
  · exact (List.Pairwise.filter _ hb).imp (fun h => bLt_ne h)
  · intro x hx y hy e
    obtain ⟨z, hz, hn, rfl⟩ := (mem_outA hb x).1 hx
    exact hn y ((mem_outB ha y).1 hy).1 e.symm
/-- sorted, what is gathered is the merge. -/
theorem sorted_merge {a b l : List Change} (ha : RisesX a) (hb : RisesX b) (hp : l.Perm (outA a b ++ outB a b)) (hs : l.Pairwise (fun x y => bLt y.key x.key = false)) : l = mergeC a b := by
  have hd : l.Pairwise (fun x y => x.key ≠ y.key) := (hp.pairwise_iff (fun h => Ne.symm h)).2 (outs_keys ha hb)
  have hr : RisesX l := (hs.and hd).imp (fun {x y} h => by
    cases e : bLt x.key y.key
    · exact absurd (bLt_eqI e h.1) h.2
    · rfl)
  refine rises_ext _ _ hr (rises_mergeC a b ha hb) (fun c => ?_)
  rw [hp.mem_iff, List.mem_append, mem_outA hb, mem_outB ha, mem_mergeC a b ha hb]
end Go.Proofs.YtggpodlecljcbaaGreatDoor
