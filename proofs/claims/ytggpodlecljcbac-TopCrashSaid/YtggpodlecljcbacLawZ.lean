/- What a store on a disk is for a law; Stored, stores. A store and the document's store beside it. -/
import Derived.Test.YtggpodlecljcbacWalkZ8
import Derived.Test.YtggpodlecljcbacSpecZ
import Derived.Test.YtggpodlecljcbacLawY
namespace Go.Proofs.Ytggpodlecljcbac
set_option linter.unusedSimpArgs false
set_option linter.unusedVariables false
open Go.RowKit Go.Sort
/-- a store on a disk. -/
structure StD (w : World) (B sb b many : Nat) (L : Dk) (lb : Nat) (rv : Value) (D : DiskS) (S : StS) : Prop where
  d : DiskAt w L D
  eq : L.b = b
  s : StAt w sb lb L S many rv
  low : ∀ k, stF L lb sb k → B ≤ k
  inv : InvZ many D S
  ok : D.ok
section
variable {w w' : World} {B sb b many : Nat} {L : Dk} {lb : Nat} {rv : Value} {D D' : DiskS} {S S' : StS}
theorem StD.below (h : StD w B sb b many L lb rv D S) (hb : Below w.heap.size w w') : StD w' B sb b many L lb rv D S := ⟨h.d.below hb, h.eq, h.s.below hb, h.low, h.inv, h.ok⟩
theorem StD.lt (h : StD w B sb b many L lb rv D S) : ∀ k, stF L lb sb k → k < w.heap.size := fun k hk => by
  rcases hk with hk | hk | hk
  · exact h.d.lt _ hk
  · rw [hk]; exact (Array.getElem?_eq_some_iff.1 h.s.log.box).1
  · rw [hk]; exact h.s.lt
theorem StD.to (h : StD w B sb b many L lb rv D S) (hB : B ≤ w.heap.size) (ht : StoreTo w L lb sb rv many D' S' w') (hI : InvZ many D' S') (hok : D'.ok) :
    ∃ L' lb' rv', StD w' B sb b many L' lb' rv' D' S' ∧ Below B w w' ∧ Off (stF L lb sb) w w' ∧ (∀ k, stF L' lb' sb k → stF L lb sb k ∨ w.heap.size ≤ k) ∧ (rv' = rv ∨ far (fun k => k < w.heap.size) rv') := by
  obtain ⟨L', lb', rv', e, d, s, o, g, f⟩ := ht
  refine ⟨L', lb', rv', ⟨d, e.trans h.eq, s, fun k hk => ?_, hI, hok⟩, o.below B hB h.low, o, g, f⟩
  rcases g k hk with h1 | h1
  · exact h.low k h1
  · omega
theorem StD.off {G : Nat → Prop} (h : StD w B sb b many L lb rv D S) (hO : Off G w w') (hG : ∀ k, stF L lb sb k → ¬ G k) (hr : far G rv) : StD w' B sb b many L lb rv D S :=
  ⟨h.d.off hO (fun k hk => hG k (Or.inl hk)), h.eq, ⟨by rw [hO.block _ h.s.lt (hG _ (Or.inr (Or.inr rfl)))]; exact h.s.box, h.s.log.off hO (hG _ (Or.inr (Or.inl rfl))) rfl,
    ⟨(RdF.off (F := G) ⟨h.s.rows.rd, hr⟩ hO).rd, h.s.rows.far⟩, h.s.ls, h.s.sf, h.s.lf⟩, h.low, h.inv, h.ok⟩
theorem StD.as (h : StD w B sb b many L lb rv D S) (e1 : D = D') (e2 : S = S') : StD w B sb b many L lb rv D' S' := e1 ▸ e2 ▸ h
end
/-- who opens a disk of a store has it. -/
theorem open_std (w : World) (B b many : Nat) (L : Dk) (D : DiskS) (S : StS) (hd : DiskAt w L D) (he : L.b = b) (hI : InvZ many D S) (hok : D.ok) (hlow : ∀ k, L.foot k → B ≤ k) (hB : B ≤ w.heap.size) :
    Calls Try.prog 26 #[.pointer (some ⟨b, 0, none⟩)] w fun e w' => ∃ sb lb rv, e = .returned (.tuple #[.pointer (some ⟨sb, 0, none⟩), .nilIface]) ∧ StD w' B sb b many L lb rv D S ∧ Below w.heap.size w w' ∧ w.heap.size ≤ sb ∧ w.heap.size ≤ lb ∧ far (fun x => x < w.heap.size) rv := by
  have C := store_Open L D w hd hI.parts.2.2.1 hok hI.parts.2.2.2.1 (by rw [hI.len]; have := hI.m1; omega)
  rw [he] at C
  refine C.mono ?_
  rintro e w' ⟨h, hb⟩
  rcases h with ⟨h, _⟩ | ⟨S1, sb, lb, rv, h, rfl, hs, h1, h2, h3⟩
  · rw [hI.open] at h; cases h
  · rw [hI.open] at h
    simp only [Option.some.injEq] at h
    subst h
    rw [hI.len, Nat.add_sub_cancel_left] at hs
    refine ⟨sb, lb, rv, rfl, ⟨hd.below hb, he, hs, fun k hk => ?_, hI, hok⟩, hb, h1, h2, h3⟩
    rcases hk with hk | hk | hk
    · exact hlow k hk
    · omega
    · omega
theorem formatD_ok (D : DiskS) (h : D.ok) : (formatD D).1.ok := keep_format keptY_ok D h
set_option maxRecDepth 100000 in
set_option maxHeartbeats 4000000 in
theorem law_Stored (n : Nat) (w : World) (h1 : 42 ≤ n) (h2 : n ≤ 60) :
    Calls Try.prog 18 #[.int .i64 n] w fun e w' => ∃ L sb lb rv D, e = .returned (.tuple #[.pointer (some ⟨L.b, 0, none⟩), .pointer (some ⟨sb, 0, none⟩), .bool true]) ∧ StD w' w.heap.size sb L.b (n - 26) L lb rv D ⟨firstH, 0, []⟩ ∧ Calm D ∧ Below w.heap.size w w' ∧ w.heap.size ≤ sb := by
  have CN := Lib.hid (disk_New n w (by omega) h2)
  go_enter Try.func18, Try.ntmps18
  go_wp2_with fail
  refine CN.out.mono ?_
  rintro e w1 ⟨L0, rfl, hd, hb, hf⟩
  have hok0 := newD_ok (n := n) (by omega) h2
  have CF := store_Format L0 (newD n) w1 hd hok0 (by simp [newD])
  have hok1 := formatD_ok _ hok0
  obtain ⟨E, e1, e2, e3⟩ := format_inv (newD n) (newD_calm n) (newD_40 n) (by rw [newD_len]; exact h1) (by rw [newD_len]; exact h2)
  rw [newD_len] at e3
  rw [e1] at CF hok1
  obtain ⟨b, hbd⟩ : ∃ b, b = L0.b := ⟨_, rfl⟩
  rw [← hbd] at CF ⊢
  dsimp only at CF hok1
  rw [errV_zero] at CF
  have HCF := Lib.hid CF
  have HB1 := Lib.hid hb
  have HF1 := Lib.hid hf
  have HBD := Lib.hid hbd
  have HE2 := Lib.hid e2
  have HE3 := Lib.hid e3
  have HOK := Lib.hid hok1
  clear CF hb hf hbd e1 e2 e3 hok1 hok0 hd
  go_wp2_with fail
  refine HCF.out.mono ?_
  rintro e w2 ⟨rfl, ⟨L, eL, d, o, g⟩⟩
  have hz1 := HB1.out.size
  have hlow : ∀ k, L.foot k → w.heap.size ≤ k := fun k hk => by
    rcases g k hk with h | h
    · exact HF1.out k h
    · omega
  have hb2 : Below w.heap.size w1 w2 := o.below _ hz1 HF1.out
  have HB2 := Lib.hid (HB1.out.trans hb2)
  have heb : L.b = b := eL.trans HBD.out.symm
  have CO := Lib.hid (open_std w2 w.heap.size b (n - 26) L E ⟨firstH, 0, []⟩ d heb HE3.out HOK.out hlow HB2.out.size)
  have HEB := Lib.hid heb
  clear eL d o g hb2 heb hlow
  go_wp2_with fail
  refine CO.out.mono ?_
  rintro e w3 ⟨sb, lb, rv, rfl, hst, hb3, hsb, _, _⟩
  have HST := Lib.hid hst
  have HB3 := Lib.hid (two HB2.out hb3)
  have HSB : Hid (w.heap.size ≤ sb) := Lib.hid (by have := HB2.out.size; omega)
  clear hst hb3 hsb
  go_wp2_with fail
  refine bodyPost_ret (v := .tuple #[.pointer (some ⟨b, 0, none⟩), .pointer (some ⟨sb, 0, none⟩), .bool true]) (by simp [results, Try.results18, go_sem]) rfl ?_
  exact ⟨L, sb, lb, rv, E, by rw [HEB.out], by rw [HEB.out]; exact HST.out, HE2.out, HB3.out, HSB.out⟩
end Go.Proofs.Ytggpodlecljcbac
namespace Go.Proofs.Ytggpodlecljcbac
set_option linter.unusedSimpArgs false
set_option linter.unusedVariables false
open Go.RowKit Go.Sort
section
variable {w W W' : World} {b many mb sb lb used used' : Nat} {L : Dk} {D D' : DiskS} {S S' : StS} {rv rvm rvm' : Value} {rows rows' : List Change}
end
theorem calm_commit_ref {many : Nat} {D : DiskS} {S : StS} (c : List Change) (hI : InvZ many D S) (hC : Calm D) (hE : S.h.epoch ≤ 1000000) :
    ∃ E S', commitZ many S c D = (E, S', commitFault many S.rows c) ∧ InvZ many E S' ∧ Calm E ∧ refUsed many S.next S.rows c = S'.next ∧ refRows many S.rows c = S'.rows ∧ S'.h.epoch ≤ S.h.epoch + 1 := by
  rcases calm_commitZ c hI hC hE with ⟨h0, h1⟩ | ⟨h0, E, S', h1, h2, h3, h4, h5, h6⟩
  · obtain ⟨e1, e2⟩ := ref_bad (used := S.next) rfl h0
    exact ⟨D, S, h1, hI, hC, e1, e2, Nat.le_succ _⟩
  · refine ⟨E, S', by rw [h0]; exact h1, h2, h3, ?_, ?_, h5⟩
    · unfold refUsed
      rw [h0, if_neg (by simp), h6]
    · unfold refRows
      rw [h0, if_neg (by simp), h4]
theorem new_openZ (n : Nat) (h : 42 ≤ n) : openZ (newD n) = none := by
  unfold openZ
  have g0 : (newD n).now.getD 0 ⟨#[]⟩ = zeros 40 := by
    unfold newD
    rw [List.getD_eq_getElem?_getD, List.getElem?_replicate, if_pos (by omega)]; rfl
  have g1 : (newD n).now.getD 1 ⟨#[]⟩ = zeros 40 := by
    unfold newD
    rw [List.getD_eq_getElem?_getD, List.getElem?_replicate, if_pos (by omega)]; rfl
  have hp : (pickH (zeros 40) (zeros 40)).epoch = 0 := by
    unfold pickH
    rw [head_zeros]
    decide
  rw [g0, g1]
  simp only [hp]
  rfl
set_option maxRecDepth 100000 in
set_option maxHeartbeats 4000000 in
theorem open_small (L : Dk) (D : DiskS) (w : World) (h : DiskAt w L D) (hd : D.down = false) (hn : D.now.length < 42) :
    Calls Try.prog 26 #[.pointer (some ⟨L.b, 0, none⟩)] w fun e w' => e = .returned (.tuple #[.pointer none, errV 4]) ∧ Below w.heap.size w w' := by
  have CD := disk_Down L D w h
  rw [hd] at CD
  have CDN := Lib.hid CD
  have HD := Lib.hid h
  obtain ⟨nl, hnl⟩ : ∃ x, x = D.now.length := ⟨_, rfl⟩
  have CS : Hid (∀ W, Below w.heap.size w W → Calls Try.prog 48 #[.pointer (some ⟨L.b, 0, none⟩)] W fun e w' => e = .returned (.int .i64 nl) ∧ Below W.heap.size W w') := Lib.hid (fun V hV => by
    have := disk_Sectors L D V (h.below hV)
    rw [← hnl] at this
    exact this.mono fun e w' h => ⟨h.1, by rw [h.2]; exact Below.refl _ _⟩)
  have hx : (nl : Int) < 42 := by omega
  clear CD h hd hn hnl
  go_enter Try.func26, Try.ntmps26
  go_wp2_with fail
  refine CDN.out.mono ?_
  rintro e w1 ⟨rfl, hb1⟩
  have HB1 : Hid (Below w.heap.size w w1) := Lib.hid (by first | exact hb1 | (rw [hb1]; exact Below.refl _ _) | (rw [← hb1]; exact Below.refl _ _))
  clear hb1
  go_wp2_with fail
  refine (CS.out _ HB1.out).mono ?_
  rintro e w2 ⟨rfl, hb2⟩
  have HB2 := Lib.hid (two HB1.out hb2)
  clear hb2
  go_wp2_with fail
  refine bodyPost_ret (v := .tuple #[.pointer none, errV 4]) (by simp [results, Try.results26, go_sem, errV_pos]) rfl ?_
  exact ⟨rfl, HB2.out⟩
theorem open_new (L : Dk) (n : Nat) (w : World) (h : DiskAt w L (newD n)) (h1 : 1 ≤ n) (h2 : n ≤ 60) :
    Calls Try.prog 26 #[.pointer (some ⟨L.b, 0, none⟩)] w fun e w' => e = .returned (.tuple #[.pointer none, errV 4]) ∧ Below w.heap.size w w' := by
  by_cases h42 : n < 42
  · exact open_small L (newD n) w h rfl (by rw [newD_len]; exact h42)
  · refine (store_Open L (newD n) w h rfl (newD_ok h1 h2) (newD_40 n) (by rw [newD_len]; omega)).mono ?_
    rintro e w' ⟨hc, hb⟩
    rcases hc with ⟨_, h⟩ | ⟨S, _, _, _, h, _⟩
    · exact ⟨h, hb⟩
    · rw [new_openZ n (by omega)] at h; cases h
end Go.Proofs.Ytggpodlecljcbac
