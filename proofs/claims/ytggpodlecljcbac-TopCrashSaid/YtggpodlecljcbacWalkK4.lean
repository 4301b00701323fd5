/- The walk of a disk's Write. The walk of the reference's Write. -/
import Derived.Test.YtggpodlecljcbacWalkK
import Derived.Test.YtggpodlecljcbacBase2
import Derived.Deep.RegionWith
import Derived.Deep.RegionLaw
import Derived.Deep.AppendLies
namespace Go.Proofs.Ytggpodlecljcbac
open Go.RowKit Go.Sort
set_option linter.unusedSimpArgs false
set_option linter.unusedVariables false
theorem two_new {w : World} {a b : Value} {t : TypeId} : ∀ (j : Nat) (x : Value), [a, b][j]? = some x → (w.alloc (.cells #[a, b] t)).cell? ((⟨w.heap.size, 0, none⟩ : Addr).add j) = some x := by
  intro j x h
  match j, h with
  | 0, h => simp at h; subst h; rw [Addr.add_lit]; simp
  | 1, h => simp at h; subst h; rw [Addr.add_lit]; simp
  | j + 2, h => simp at h
theorem turn_one (t : Turn) : ∀ u ∈ t.cells, u.oneCell' = true := by
  intro u hu
  simp [Turn.cells] at hu
  rcases hu with rfl | rfl <;> rfl
theorem Stepped.turned {ty tt : TypeId} {w w' : World} {L : Dk} {D' : DiskS} (h : Stepped ty tt w L D' w') : Turned ty tt w L D' w' := ⟨L, rfl, h.1, h.2.1.mono (fun _ hx => Or.inl hx), fun _ hk => Or.inl hk⟩
theorem writeD_out {D : DiskS} {p : Int} {s : ByteArray} (h : p < 0 ∨ (D.now.length : Int) ≤ p ∨ 40 < s.size) : writeD D p s = (D, 1) := by unfold writeD; rw [if_pos h]
theorem writeD_step {D : DiskS} {p : Int} {s : ByteArray} (h : ¬ (p < 0 ∨ (D.now.length : Int) ≤ p ∨ 40 < s.size)) (h2 : (stepD D).2 ≠ 0) : writeD D p s = stepD D := by unfold writeD; rw [if_neg h, if_pos h2]
theorem writeD_done {D : DiskS} {i : Nat} {s : ByteArray} (h : i < D.now.length) (hs : s.size ≤ 40) (h2 : (stepD D).2 = 0) : writeD D i s = ({ (stepD D).1 with now := D.now.set i (fullS s), wait := D.wait ++ [⟨i, fullS s⟩] }, 0) := by
  unfold writeD; rw [if_neg (by omega), if_neg (by simp [h2])]; simp
theorem I_turns : ElemInfo Try.prog 79 100 2 24 := elemInfo_of (z := .agg #[.int .i64 0, .string ⟨#[]⟩]) Try.underlying79 (by kernel_rfl) rfl (by decide) (by decide)
theorem off_grown_set {F : Nat → Prop} {w w' : World} (h : Off F w w') {b : Nat} (hb : F b) (o : Nat) (v : Value) : Off F w (w'.setCell ⟨b, o, none⟩ v) := h.trans (off_setCell (F := F) _ ⟨b, o, none⟩ hb v) (fun _ _ h => h)

/-- What waits has grown: the box takes the grown slice. -/
theorem DAt.grow_wait {ty tt : TypeId} {w w' : World} {L : Dk} {D : DiskS} (h : DAt ty tt w L D) (hg : w.grownBy w' L.wv.ownBlock) (g c : Nat) (l : List Turn) (hv : w'.ownsRow 0 tt 2 (.slice (some ⟨g, 0, none⟩) l.length c) l.length (l.flatMap Turn.cells)) (hor : L.wv.ownBlock = some g ∨ w.heap.size ≤ g) :
    DAt ty tt (w'.setCell ⟨L.b, 2, none⟩ (.slice (some ⟨g, 0, none⟩) l.length c)) { L with wv := .slice (some ⟨g, 0, none⟩) l.length c } { D with wait := l } := by
  have hlt := h.lt
  have hb : ∀ k, (k = L.b ∨ k = L.gk ∨ k = L.gn) → w'.heap[k]? = w.heap[k]? := fun k hk => by
    refine hg.block k (hlt k (by rcases hk with h | h | h <;> simp [Dk.foot, h])) ?_
    rcases hk with rfl | rfl | rfl
    · exact fun e => h.wb e.symm
    · exact fun e => h.wk e.symm
    · exact fun e => h.wn e.symm
  have hne : ∀ k, (k = L.b ∨ k = L.gk ∨ k = L.gn) → g ≠ k := fun k hk e => by
    subst e
    rcases hor with h1 | h1
    · rcases hk with rfl | rfl | rfl
      · exact h.wb h1
      · exact h.wk h1
      · exact h.wn h1
    · have := hlt g (by rcases hk with h | h | h <;> simp [Dk.foot, h])
      omega
  have e1 := hne _ (Or.inl rfl)
  have e2 := hne _ (Or.inr (Or.inl rfl))
  have e3 := hne _ (Or.inr (Or.inr rfl))
  refine ⟨?_, owns_set_far (owns_of_block h.kept fun x hx => by cases hx; exact hb _ (Or.inr (Or.inl rfl))) (own_ne h.kb) _, owns_set_far (owns_of_block h.now fun x hx => by cases hx; exact hb _ (Or.inr (Or.inr rfl))) (own_ne h.nb) _, owns_set_far hv (own_ne e1) _, h.kb, h.nb, h.kn, own_ne e1, own_ne e2, own_ne e3⟩
  have hbx := hb _ (Or.inl rfl)
  rw [h.box] at hbx
  rw [heap_set_self _ _ _ _ hbx]
  rfl

set_option maxHeartbeats 1000000 in
theorem disk_Write (L : Dk) (D : DiskS) (p : Int) (s : ByteArray) (w : World) (h : DiskAt w L D) (hok : D.ok) (hl : D.wait.length ≤ 1000000) :
    Calls Try.prog 44 #[.pointer (some ⟨L.b, 0, none⟩), .int .i64 p, .string s] w fun e w' => e = .returned (errV (writeD D p s).2) ∧ Turned 81 100 w L (writeD D p s).1 w' := by
  have c1 := h.c1
  have hc := (owns_cap h.now).1
  have hm := (owns_cap h.now).2
  unfold maxLen at hm
  by_cases hb : p < 0 ∨ (D.now.length : Int) ≤ p ∨ 40 < s.size
  · have E := Lib.hid (writeD_out hb)
    have H := Lib.hid (Turned.refl h)
    rw [E.out]
    clear h hok E
    rcases Decidable.em (p < 0) with hp | hp
    · go_enter Try.func44, Try.ntmps44
      go_wp2_with fail
      go_ret
      exact ⟨rfl, H.out⟩
    · rcases Decidable.em ((D.now.length : Int) ≤ p) with hp2 | hp2
      · go_enter Try.func44, Try.ntmps44
        go_wp2_with fail
        go_ret
        exact ⟨rfl, H.out⟩
      · have hp3 : 40 < s.size := by omega
        clear hb
        go_enter Try.func44, Try.ntmps44
        go_wp2_with fail
        go_ret
        exact ⟨rfl, H.out⟩
  · obtain ⟨i, rfl⟩ : ∃ i : Nat, p = i := ⟨p.toNat, by omega⟩
    have hi : i < D.now.length := by omega
    have hs : s.size ≤ 40 := by omega
    have CS := disk_step L D w h hok
    by_cases h2 : (stepD D).2 = 0
    · have E := Lib.hid (writeD_done hi hs h2)
      rw [E.out]
      rw [h2] at CS
      obtain ⟨D1, hD1⟩ : ∃ D1, D1 = (stepD D).1 := ⟨_, rfl⟩
      have q1 : Hid (D1.now = D.now) := Lib.hid (by rw [hD1]; exact (stepD_same D).2.1)
      have q2 : Hid (D1.wait = D.wait) := Lib.hid (by rw [hD1]; exact (stepD_same D).2.2)
      rw [← hD1] at CS ⊢
      replace CS := Lib.hid CS
      have FC := Lib.hid (disk_full s hs)
      clear h hok E h2 hD1 hb
      go_enter Try.func44, Try.ntmps44
      go_wp2_with fail
      refine CS.out.mono ?_
      rintro e w1 ⟨rfl, hS⟩
      have HS := Lib.hid hS
      clear hS
      have hev : errV 0 = .nilIface := rfl
      rw [hev]
      have ED := Lib.hid (Below.refl w1.heap.size w1).drew
      have HSK : Hid (∀ W, DiskAt W L D1 → W.cell? ⟨L.b, 1, none⟩ = some (.slice (some ⟨L.gn, 0, none⟩) D.now.length L.cn) ∧ W.cell? ⟨L.gn, i, none⟩ = some (.string (D.now[i]'hi)) ∧ W.frozen? ⟨L.gn, i, none⟩ = false) := Lib.hid fun W hd =>
        ⟨by rw [← q1.out]; exact hd.c1, by have h3 := hd.ncell i (by rw [q1.out]; exact hi); simpa [q1.out] using h3, hd.fn i⟩
      obtain ⟨old, hold⟩ : ∃ x, x = D.now[i] := ⟨_, rfl⟩
      rw [← hold] at HSK
      clear hold
      have H1 : Hid (∀ W, Below w1.heap.size w1 W → DiskAt W L D1) := Lib.hid fun W hb => HS.out.1.below hb
      have H2 : Hid (∀ W, Below w1.heap.size w1 W → DiskAt (W.setCell ⟨L.gn, i, none⟩ (.string (fullS s))) L { D1 with now := D1.now.set i (fullS s) }) := Lib.hid fun W hb => (HS.out.1.below hb).now_at i (by rw [q1.out]; exact hi) _
      have q3 : Hid (D1.now.length = D.now.length) := Lib.hid (by rw [q1.out])
      have q4 : Hid ((D1.now.set i (fullS s)).length = D.now.length) := Lib.hid (by rw [List.length_set, q1.out])
      go_wp2_with fail
      have kk := (HSK.out _ HS.out.1).1
      go_region_with (first | (go_at_call 69; refine (FC.out _).mono ?_; rintro e wA ⟨rfl, hbA⟩; have HE1 := Lib.hid (two ED.out hbA); have HA := Lib.hid (HSK.out _ (H1.out _ HE1.out)); have z1 := HA.out.1; have z2 := HA.out.2.1; have z3 := HA.out.2.2; clear hbA HA))
      all_goals
        obtain ⟨W2, hW2⟩ : ∃ W2, W2 = wA.setCell ⟨L.gn, i, none⟩ (.string (fullS s)) := ⟨_, rfl⟩
        have HD2 : Hid (DiskAt W2 L { D1 with now := D1.now.set i (fullS s) }) := Lib.hid (by rw [hW2]; exact H2.out _ HE1.out)
        have HO2 : Hid (Off L.foot w W2) := Lib.hid (by
          rw [hW2]
          refine off_grown_set ?_ (Or.inr (Or.inr (Or.inl rfl))) i _
          exact (HS.out.2.1.mono (fun _ hx => Or.inl hx)).trans (off_below HE1.out L.foot) (fun _ _ h => h))
        rw [← hW2]
        have HZ2 : Hid (w.heap.size ≤ W2.heap.size) := Lib.hid HO2.out.size
        clear HSK H1 H2 HE1 ED hW2 q3
        have hn : (D1.now.set i (fullS s)).length = D.now.length := q4.out
        have k1 : W2.cell? ⟨L.b, 1, none⟩ = some (.slice (some ⟨L.gn, 0, none⟩) D.now.length L.cn) := by rw [← hn]; exact HD2.out.c1
        have k2 := HD2.out.c2
        have k3 : W2.cell? ⟨L.gn, i, none⟩ = some (.string (fullS s)) := by
          have := HD2.out.ncell i (by show i < (D1.now.set i (fullS s)).length; rw [hn]; exact hi)
          simpa using this
        have k4 := HD2.out.f 2
        clear hn
        obtain ⟨W3, hW3⟩ : ∃ W3, W3 = W2.drew.alloc (.cells #[.int .i64 i, .string (fullS s)] 100) := ⟨_, rfl⟩
        have B3 : Hid (Below W2.heap.size W2 W3) := Lib.hid (by rw [hW3]; exact two (Below.refl _ _).drew (below_alloc _ _))
        have HD3 : Hid (DiskAt W3 L { D1 with now := D1.now.set i (fullS s) }) := Lib.hid (HD2.out.below B3.out)
        have HW3 : Hid (W3.ownsRow 0 100 2 L.wv D1.wait.length (D1.wait.flatMap Turn.cells)) := Lib.hid HD3.out.wait
        have hq1 : D1.wait.length + 1 ≤ maxLen := by rw [q2.out]; unfold maxLen; omega
        have hq2 : (D1.wait.length + 1) * 24 ≤ 140737488355328 := by rw [q2.out]; omega
        have HK3 : Hid (∀ w', W3.grownBy w' L.wv.ownBlock → w'.cell? ⟨L.b, 2, none⟩ = some L.wv ∧ w'.frozen? ⟨L.b, 2, none⟩ = false) := Lib.hid fun w' hg => by
          have e := hg.block L.b (HD3.out.lt _ (Or.inl rfl)) (fun e => HD3.out.wb e.symm)
          exact ⟨(World.cell?_of_block (a := ⟨L.b, 2, none⟩) e).trans HD3.out.c2, (World.frozen?_of_block (a := ⟨L.b, 2, none⟩) e).trans (HD3.out.f 2)⟩
        have HF3 : Hid (∀ g cap w', w'.ownsRow 0 100 2 (.slice (some ⟨g, 0, none⟩) (D1.wait.length + 1) cap) (D1.wait.length + 1) (D1.wait.flatMap Turn.cells ++ [.int .i64 i, .string (fullS s)]) → W3.grownBy w' L.wv.ownBlock → (L.wv.ownBlock = some g ∨ g = W2.heap.size + 1) →
            Turned 81 100 w L ({ D1 with now := D.now.set i (fullS s), wait := D.wait ++ [⟨i, fullS s⟩] }) (w'.setCell ⟨L.b, 2, none⟩ (.slice (some ⟨g, 0, none⟩) (D1.wait.length + 1) cap))) := Lib.hid fun g cap w' ho hg hor => by
          have hs3 : W3.heap.size = W2.heap.size + 1 := by rw [hW3]; simp
          have el : (D.wait ++ [(⟨i, fullS s⟩ : Turn)]).length = D1.wait.length + 1 := by rw [q2.out]; simp
          have ho' : w'.ownsRow 0 100 2 (.slice (some ⟨g, 0, none⟩) (D.wait ++ [(⟨i, fullS s⟩ : Turn)]).length cap) (D.wait ++ [(⟨i, fullS s⟩ : Turn)]).length ((D.wait ++ [(⟨i, fullS s⟩ : Turn)]).flatMap Turn.cells) := by
            rw [el, flat_append, ← q2.out]; exact ho
          have hor' : L.wv.ownBlock = some g ∨ W3.heap.size ≤ g := hor.imp id (fun e => by omega)
          have hd := HD3.out.grow_wait hg g cap _ ho' hor'
          refine ⟨{ L with wv := .slice (some ⟨g, 0, none⟩) (D1.wait.length + 1) cap }, rfl, by rw [← el, ← q1.out]; exact hd, ?_, fun k hk => ?_⟩
          · refine off_grown_set ?_ (Or.inl rfl) 2 _
            refine (HO2.out.trans (off_below B3.out L.foot) (fun _ _ h => h)).trans (off_grown (F := L.foot) hg (fun k hk => Or.inr (Or.inr (Or.inr hk)))) (fun _ _ h => h)
          · have hz := HZ2.out
            rcases hk with hk | hk | hk | hk
            · exact Or.inl (Or.inl hk)
            · exact Or.inl (Or.inr (Or.inl hk))
            · exact Or.inl (Or.inr (Or.inr (Or.inl hk)))
            · have : g = k := by simpa [Value.ownBlock] using hk
              subst this
              rcases hor with h | h
              · exact Or.inl (Or.inr (Or.inr (Or.inr h)))
              · exact Or.inr (by omega)
        have two_new' : ∀ (j : Nat) (x : Value), [Value.int .i64 i, .string (fullS s)][j]? = some x → W3.cell? ((⟨W2.heap.size, 0, none⟩ : Addr).add j) = some x := by rw [hW3]; exact two_new (w := W2.drew)
        have k5 : (W2.alloc (.cells #[.int .i64 i, .string (fullS s)] 100)).cell? ⟨L.b, 2, none⟩ = some L.wv := (HD2.out.below (below_alloc _ _)).c2
        subst hW3
        obtain ⟨i0, z0, e1, e2, e3, e4, e5, e6, e7, e8⟩ := I_turns
        go_wp2_with fail
        go_region_law (refine step_append_lies _ rfl (.tmp 41) (.tmp 51) 79 rfl 0 100 i0 z0 2 24 e1 e2 e3 e4 e5 e6 e7 L.wv D1.wait.length (D1.wait.flatMap Turn.cells) (by simp [Act.eval, Act.put]) HW3.out ⟨W2.heap.size, 0, none⟩ 1 1 [.int .i64 i, .string (fullS s)] (by simp [Act.eval, Act.put]) rfl two_new' (turn_one ⟨i, fullS s⟩) (by decide) hq1 hq2 (Nat.zero_le _) (W2.heap.size + 1) (by simp) ?_; intro g cap w' ho hg hor hlt; have y2 := (HK3.out _ hg).1; have y4 := (HK3.out _ hg).2; have HY := Lib.hid (HF3.out g cap w' ho hg hor); clear ho hg hor hlt)
        all_goals
          go_wp2_with fail
          go_ret
          exact ⟨rfl, HY.out⟩
    · have E := Lib.hid (writeD_step hb h2)
      rw [E.out]
      have hev := errV_pos h2
      rw [hev] at CS ⊢
      replace CS := Lib.hid CS
      clear h hok E h2 hev hb
      go_enter Try.func44, Try.ntmps44
      go_wp2_with fail
      refine CS.out.mono ?_
      rintro e w1 ⟨rfl, hS⟩
      have HS := Lib.hid hS
      clear hS
      go_wp2_with fail
      go_ret
      exact ⟨rfl, HS.out.turned⟩
end Go.Proofs.Ytggpodlecljcbac
namespace Go.Proofs.Ytggpodlecljcbac
open Go.RowKit Go.Sort
set_option linter.unusedSimpArgs false
set_option linter.unusedVariables false
theorem wpList_lies {P : Program} {T E k bytes : Nat} (I : ElemInfo P T E k bytes) {w : World} {ops : Array Oper} {rest : List Oper} {o : Oper} {a : Act} {Q : Exit → Act → World → Prop} (hgd : o.guard = none) (s x : Operand)
    (ho : o.op = .call { callee := .builtin .append, args := #[s, x], argTypes := #[T, T] })
    (base : Nat) (v : Value) (n : Nat) (xs : List Value) (hs : a.eval s = v) (hown : w.ownsRow base E k v n xs)
    (ad : Addr) (m c : Nat) (news : List Value) (hx : a.eval x = .slice (some ad) m c) (hl : news.length = m * k) (hnews : ∀ j u, news[j]? = some u → w.cell? (ad.add j) = some u) (h1 : ∀ u ∈ news, u.oneCell' = true)
    (hm : 0 < m) (h63 : n + m ≤ 1000000000) (hbase : base ≤ w.heap.size) (H : Nat) (hH : w.heap.size = H)
    (h : ∀ g cap w', w'.ownsRow base E k (.slice (some ⟨g, 0, none⟩) (n + m) cap) (n + m) (xs ++ news) → w.grownBy w' v.ownBlock → (v.ownBlock = some g ∨ g = H) → g < w'.heap.size → wpList P ops Q rest (a.put o.dst (.slice (some ⟨g, 0, none⟩) (n + m) cap)) w') : wpList P ops Q (o :: rest) a w := by
  obtain ⟨i, z, e1, e2, e3, e4, e5, e6, e7, e8⟩ := I
  refine wpList_append_lies w hgd s x T ho base E i z k bytes e1 e2 e3 e4 e5 e6 e7 v n xs hs hown ad m c news hx hl hnews h1 hm (by unfold maxLen; omega) ?_ hbase H hH h
  calc (n + m) * bytes ≤ 1000000000 * 100 := Nat.mul_le_mul h63 e8
    _ ≤ 140737488355328 := by decide
theorem write_turned {ty tt : TypeId} {w W3 : World} {L : Dk} {D D1 : DiskS} {i : Nat} {s : ByteArray} (HD3 : DAt ty tt W3 L { D1 with now := D1.now.set i s }) (HO : Off L.foot w W3) (q1 : D1.now = D.now) (q2 : D1.wait = D.wait)
    (g cap : Nat) (w' : World) (ho : w'.ownsRow 0 tt 2 (.slice (some ⟨g, 0, none⟩) (D1.wait.length + 1) cap) (D1.wait.length + 1) (D1.wait.flatMap Turn.cells ++ [.int .i64 i, .string s])) (hg : W3.grownBy w' L.wv.ownBlock) (hor : L.wv.ownBlock = some g ∨ g = W3.heap.size) :
    Turned ty tt w L ({ D1 with now := D.now.set i s, wait := D.wait ++ [⟨i, s⟩] }) (w'.setCell ⟨L.b, 2, none⟩ (.slice (some ⟨g, 0, none⟩) (D1.wait.length + 1) cap)) := by
  have el : (D.wait ++ [(⟨i, s⟩ : Turn)]).length = D1.wait.length + 1 := by rw [q2]; simp
  have ho' : w'.ownsRow 0 tt 2 (.slice (some ⟨g, 0, none⟩) (D.wait ++ [(⟨i, s⟩ : Turn)]).length cap) (D.wait ++ [(⟨i, s⟩ : Turn)]).length ((D.wait ++ [(⟨i, s⟩ : Turn)]).flatMap Turn.cells) := by
    rw [el, flat_append, ← q2]; exact ho
  have hor' : L.wv.ownBlock = some g ∨ W3.heap.size ≤ g := hor.imp id (fun e => by omega)
  have hd := HD3.grow_wait hg g cap _ ho' hor'
  refine ⟨{ L with wv := .slice (some ⟨g, 0, none⟩) (D1.wait.length + 1) cap }, rfl, by rw [← el, ← q1]; exact hd, ?_, fun k hk => ?_⟩
  · refine off_grown_set ?_ (Or.inl rfl) 2 _
    exact HO.trans (off_grown (F := L.foot) hg (fun k hk => Or.inr (Or.inr (Or.inr hk)))) (fun _ _ h => h)
  · have hz := HO.size
    rcases hk with hk | hk | hk | hk
    · exact Or.inl (Or.inl hk)
    · exact Or.inl (Or.inr (Or.inl hk))
    · exact Or.inl (Or.inr (Or.inr (Or.inl hk)))
    · have : g = k := by simpa [Value.ownBlock] using hk
      subst this
      rcases hor with h | h
      · exact Or.inl (Or.inr (Or.inr (Or.inr h)))
      · exact Or.inr (by omega)
theorem grow_keeps {ty tt : TypeId} {w w' : World} {L : Dk} {D : DiskS} (h : DAt ty tt w L D) (hg : w.grownBy w' L.wv.ownBlock) : w'.cell? ⟨L.b, 2, none⟩ = some L.wv ∧ w'.frozen? ⟨L.b, 2, none⟩ = false := by
  have e := hg.block L.b (h.lt _ (Or.inl rfl)) (fun e => h.wb e.symm)
  exact ⟨(World.cell?_of_block (a := ⟨L.b, 2, none⟩) e).trans h.c2, (World.frozen?_of_block (a := ⟨L.b, 2, none⟩) e).trans (h.f 2)⟩
end Go.Proofs.Ytggpodlecljcbac
