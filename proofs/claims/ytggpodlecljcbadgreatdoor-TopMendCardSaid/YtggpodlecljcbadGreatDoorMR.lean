/- The walks of the acts: are they light; what is done. The walks of chapter 3: is a quilt fine; an act done. The walks of chapter 3: an act done. Plain: what putting and dropping does, by membership; quilts grown by acts. -/
import Derived.Test.YtggpodlecljcbadGreatDoorMBb
import Derived.Test.YtggpodlecljcbadGreatDoorMB
import Derived.Test.YtggpodlecljcbadGreatDoorMQ
import Derived.Test.YtggpodlecljcbadGreatDoorMSQ
namespace Go.Proofs.YtggpodlecljcbadGreatDoor
open Go.RowKit Go.Sort
set_option linter.unusedSimpArgs false
set_option linter.unusedVariables false
def Change.ok (c : Change) : Prop := c.key.size ≤ maxLen ∧ c.val.size ≤ maxLen
def Change.light (c : Change) : Bool := decide (c.key.size ≤ 20) && decide (c.val.size ≤ 40)
def lightChanges (l : List Change) (most : Int) : Bool := decide ((l.length : Int) ≤ most) && l.all Change.light
structure Act where
  kind : ByteArray
  s : ByteArray
  t : ByteArray
  n : Int
  k : Int
  changes : List Change
structure ActV where
  kind : ByteArray
  s : ByteArray
  t : ByteArray
  n : Int
  k : Int
  cv : Value
def ActV.cells (a : ActV) : List Value := [.string a.kind, .string a.s, .string a.t, .int .i64 a.n, .int .u64 a.k, a.cv]
theorem ActV.cells_len (a : ActV) : a.cells.length = 6 := rfl
def ActV.val (a : ActV) : Value := .agg #[.string a.kind, .string a.s, .string a.t, .int .i64 a.n, .int .u64 a.k, a.cv]
abbrev ActVs := Rd 6 ActV.cells
def IsAct (w : World) (av : ActV) (a : Act) : Prop := av.kind = a.kind ∧ av.s = a.s ∧ av.t = a.t ∧ av.n = a.n ∧ av.k = a.k ∧ Changes w av.cv a.changes
def Act.ok (a : Act) : Prop := a.kind.size ≤ maxLen ∧ a.s.size ≤ maxLen ∧ a.t.size ≤ maxLen ∧ (∀ c ∈ a.changes, c.ok)
theorem IsAct.below {w w' : World} {av : ActV} {a : Act} (h : IsAct w av a) (hb : Below w.heap.size w w') : IsAct w' av a := ⟨h.1, h.2.1, h.2.2.1, h.2.2.2.1, h.2.2.2.2.1, h.2.2.2.2.2.below hb⟩
def IsActs (w : World) (avs : List ActV) (al : List Act) : Prop := avs.length = al.length ∧ ∀ i (h : i < avs.length) (h' : i < al.length), IsAct w avs[i] al[i]
theorem IsActs.below {w w' : World} {av : List ActV} {a : List Act} (h : IsActs w av a) (hb : Below w.heap.size w w') : IsActs w' av a := ⟨h.1, fun i h1 h2 => (h.2 i h1 h2).below hb⟩
theorem ActVs.cell {w : World} {ao : Option Addr} {n cap : Nat} {l : List ActV} (h : ActVs w (.slice ao n cap) l) (i : Nat) (hi : i < l.length) :
    ∃ b off, ao = some ⟨b, off, none⟩ ∧ b < w.heap.size ∧ w.cell? ⟨b, off + i * 6, none⟩ = some (.string l[i].kind) ∧ w.cell? ⟨b, off + i * 6 + 1, none⟩ = some (.string l[i].s) ∧ w.cell? ⟨b, off + i * 6 + 2, none⟩ = some (.string l[i].t) ∧ w.cell? ⟨b, off + i * 6 + 3, none⟩ = some (.int .i64 l[i].n) ∧ w.cell? ⟨b, off + i * 6 + 4, none⟩ = some (.int .u64 l[i].k) ∧ w.cell? ⟨b, off + i * 6 + 5, none⟩ = some l[i].cv := by
  obtain ⟨b, off, e, hb, hc⟩ := Rd.at ActV.cells_len (by decide) h i hi
  exact ⟨b, off, e, hb, hc 0 _ rfl, hc 1 _ rfl, hc 2 _ rfl, hc 3 _ rfl, hc 4 _ rfl, hc 5 _ rfl⟩
def Act.light (a : Act) : Bool := decide (a.s.size ≤ 100) && decide (a.t.size ≤ 40) && lightChanges a.changes 20
def lightActs (l : List Act) (most : Int) : Bool := decide ((l.length : Int) ≤ most) && l.all Act.light

theorem law_LightChanges (va : Value) (a : List Change) (most : Int) (w : World) (ha : Changes w va a) (hok : ∀ f ∈ a, f.ok) :
    Calls Tryz.prog 22 #[va, .int .i64 most] w fun e w' => e = .returned (.bool (lightChanges a most)) ∧ w = w' := by
  obtain ⟨ao, ca, rfl, hca, hca'⟩ := ha.parts
  have HA := Lib.hid ha
  have HOK := Lib.hid hok
  clear ha hok
  by_cases hl : (a.length : Int) ≤ most
  · have HL := Lib.hid hl
    go_enter Tryz.func22, Tryz.ntmps22
    go_wp2_with fail
    go_loop [5] (fun i => ∃ k : Nat, k ≤ a.length ∧ i = .int .i64 k ∧ (a.take k).all Change.light = true) (fun i => a.length - (intOf i).toNat)
    case atStart => exact ⟨0, Nat.zero_le _, rfl, rfl⟩
    case round =>
      obtain ⟨k, hk, rfl, htk⟩ := hrel
      have HT := Lib.hid htk
      clear htk
      by_cases hlt : k < a.length
      · obtain ⟨ba, oa, rfl, _, x0, x1, x2⟩ := Changes.cell HA.out k hlt
        have ok := HOK.out a[k] (List.getElem_mem hlt)
        have o1 : a[k].key.size ≤ 9223372036854775807 := by have := ok.1; unfold maxLen at this; exact this
        have o2 : a[k].val.size ≤ 9223372036854775807 := by have := ok.2; unfold maxLen at this; exact this
        clear ok
        by_cases h1 : a[k].key.size ≤ 20
        · by_cases h2 : a[k].val.size ≤ 40
          · have HF : Hid (a[k].light = true) := by simp [Hid, Change.light, h1, h2]
            go_wp2_with fail
            go_round
            case rel => exact ⟨k + 1, by omega, by go_num, all_take _ _ hlt _ HT.out HF.out⟩
            case measure => simp [intOf]; omega
          · have HF : Hid (a[k].light = false) := by simp [Hid, Change.light, h2]
            go_wp2_with fail
            go_ret
            exact ⟨ret_bool (by simp [lightChanges, all_not a k hlt _ HF.out]), rfl⟩
        · have HF : Hid (a[k].light = false) := by simp [Hid, Change.light, h1]
          go_wp2_with fail
          go_ret
          exact ⟨ret_bool (by simp [lightChanges, all_not a k hlt _ HF.out]), rfl⟩
      · go_wp2_with fail
        go_ret
        exact ⟨ret_bool (by simp [lightChanges, all_end a k hlt _ HT.out, HL.out]), rfl⟩
  · have HL := Lib.hid hl
    have hl' : most < (a.length : Int) := by omega
    go_enter Tryz.func22, Tryz.ntmps22
    go_wp2_with fail
    go_ret
    exact ⟨ret_bool (by simp [lightChanges]; intro h; exact absurd h (by have := HL.out; omega)), rfl⟩

set_option maxHeartbeats 1000000 in
theorem law_LightActs (va : Value) (avs : List ActV) (al : List Act) (most : Int) (w : World) (ha : ActVs w va avs) (hi : IsActs w avs al) (hok : ∀ f ∈ al, f.ok) :
    Calls Tryz.prog 9 #[va, .int .i64 most] w fun e w' => e = .returned (.bool (lightActs al most)) ∧ w = w' := by
  obtain ⟨ao, ca, rfl, hca, hca'⟩ := ha.parts
  have hlen := hi.1
  have HA := Lib.hid ha
  have HI := Lib.hid hi
  have HOK := Lib.hid hok
  have HE := Lib.hid hlen
  clear ha hok hi
  by_cases hl : (al.length : Int) ≤ most
  · have hl2 : (avs.length : Int) ≤ most := by rw [hlen]; exact hl
    have HL := Lib.hid hl
    clear hlen hl
    go_enter Tryz.func9, Tryz.ntmps9
    go_wp2_with fail
    go_loop [5] (fun i => ∃ k : Nat, k ≤ avs.length ∧ i = .int .i64 k ∧ (al.take k).all Act.light = true) (fun i => avs.length - (intOf i).toNat)
    case atStart => exact ⟨0, Nat.zero_le _, rfl, rfl⟩
    case round =>
      obtain ⟨k, hk, rfl, htk⟩ := hrel
      have HT := Lib.hid htk
      clear htk
      by_cases hlt : k < avs.length
      · obtain ⟨ba, oa, rfl, _, x0, x1, x2, x3, x4, x5⟩ := ActVs.cell HA.out k hlt
        have hlt' : k < al.length := by rw [← HE.out]; exact hlt
        obtain ⟨e0, e1, e2, e3, e4, hc⟩ := HI.out.2 k hlt hlt'
        have ok := HOK.out al[k] (List.getElem_mem hlt')
        have C := law_LightChanges avs[k].cv al[k].changes 20 w hc ok.2.2.2
        rw [e1] at x1
        rw [e2] at x2
        have o1 : al[k].s.size ≤ 9223372036854775807 := by have := ok.2.1; unfold maxLen at this; exact this
        have o2 : al[k].t.size ≤ 9223372036854775807 := by have := ok.2.2.1; unfold maxLen at this; exact this
        obtain ⟨lc, hlc⟩ : ∃ lc, lc = lightChanges al[k].changes 20 := ⟨_, rfl⟩
        rw [← hlc] at C
        clear ok e0 e1 e2 e3 e4 hc x0 x3 x4
        replace C := Lib.hid C
        by_cases h1 : al[k].s.size ≤ 100
        · by_cases h2 : al[k].t.size ≤ 40
          · cases lc
            · have HF : Hid (al[k].light = false) := by simp [Hid, Act.light, ← hlc]
              clear hlc
              go_wp2_with fail
              refine (C.out).mono ?_
              rintro e w' ⟨rfl, rfl⟩
              go_wp2_with fail
              go_ret
              exact ⟨ret_bool (by simp [lightActs, all_not al k hlt' _ HF.out]), rfl⟩
            · have HF : Hid (al[k].light = true) := by simp [Hid, Act.light, h1, h2, ← hlc]
              clear hlc
              go_wp2_with fail
              refine (C.out).mono ?_
              rintro e w' ⟨rfl, rfl⟩
              go_wp2_with fail
              go_round
              case rel => exact ⟨k + 1, by omega, by go_num, all_take _ _ hlt' _ HT.out HF.out⟩
              case measure => simp [intOf]; omega
          · have HF : Hid (al[k].light = false) := by simp [Hid, Act.light, h2]
            clear hlc
            go_wp2_with fail
            go_ret
            exact ⟨ret_bool (by simp [lightActs, all_not al k hlt' _ HF.out]), rfl⟩
        · have HF : Hid (al[k].light = false) := by simp [Hid, Act.light, h1]
          clear hlc
          go_wp2_with fail
          go_ret
          exact ⟨ret_bool (by simp [lightActs, all_not al k hlt' _ HF.out]), rfl⟩
      · go_wp2_with fail
        go_ret
        exact ⟨ret_bool (by simp [lightActs, all_end al k (by rw [← HE.out]; exact hlt) _ HT.out, HL.out]), rfl⟩
  · have hl' : most < (avs.length : Int) := by rw [hlen]; omega
    have HL := Lib.hid hl
    clear hlen hl
    go_enter Tryz.func9, Tryz.ntmps9
    go_wp2_with fail
    go_ret
    exact ⟨ret_bool (by simp [lightActs]; intro h; exact absurd h (by have := HL.out; omega)), rfl⟩
end Go.Proofs.YtggpodlecljcbadGreatDoor
namespace Go.Proofs.YtggpodlecljcbadGreatDoor
open Go.RowKit Go.Sort
set_option linter.unusedSimpArgs false
set_option linter.unusedVariables false
theorem qf_files {q : Quilt} (h : filesFault q.files ≠ 0) : quiltFault q = filesFault q.files := by unfold quiltFault; rw [if_pos h]
theorem qf_turn {q : Quilt} (h : filesFault q.files = 0) (ht : q.turn < 1 ∨ 9999 < q.turn) : quiltFault q = 1 := by unfold quiltFault; rw [if_neg (by simp [h]), if_pos ht]
theorem qf_good {q : Quilt} (h : filesFault q.files = 0) (ht : ¬ (q.turn < 1 ∨ 9999 < q.turn)) : quiltFault q = 0 := by unfold quiltFault; rw [if_neg (by simp [h]), if_neg ht]
theorem qbox1 (w : World) (v : Value) (t : Int) : ∀ W, Below (w.alloc (.cells #[v, .int .i64 t] 36)).heap.size (w.alloc (.cells #[v, .int .i64 t] 36)) W → W.cell? ⟨w.heap.size, 0, none⟩ = some v ∧ W.cell? ⟨w.heap.size, 1, none⟩ = some (.int .i64 t) := by
  intro W hb
  obtain ⟨hc, _⟩ := bcell hb
  exact ⟨(hc _ _ (by simp)).trans (by simp), (hc _ _ (by simp)).trans (by simp)⟩

set_option maxHeartbeats 1000000 in
theorem quilt_Check (qv : Value) (q : Quilt) (w : World) (hq : Quilts w qv q) (hok : ∀ f ∈ q.files, f.ok) :
    Calls Tryz.prog 87 #[qv] w fun e w' => e = .returned (errV (quiltFault q)) ∧ Below w.heap.size w w' := by
  obtain ⟨v, rfl, hf⟩ := hq
  have C := fun W hb => shelf_Check v q.files W (hf.below hb) hok
  have BX := Lib.hid (qbox1 w v q.turn)
  have HB1 := Lib.hid (below_alloc w (.cells #[v, .int .i64 q.turn] 36))
  by_cases h0 : filesFault q.files = 0
  · rw [h0, errV_zero] at C
    replace C := Lib.hid C
    by_cases h1 : q.turn < 1
    · have HD := Lib.hid (qf_turn h0 (Or.inl h1))
      clear h0 hf
      go_enter Tryz.func87, Tryz.ntmps87
      go_wp2_with fail
      refine (C.out _ HB1.out).mono ?_
      rintro e w2 ⟨rfl, hb2⟩
      obtain ⟨z0, z1⟩ := BX.out _ hb2
      have HB2 := Lib.hid (two HB1.out hb2)
      clear hb2
      go_wp2_with fail
      go_ret
      exact ⟨by rw [HD.out]; rfl, HB2.out⟩
    · by_cases h2 : 9999 < q.turn
      · have HD := Lib.hid (qf_turn h0 (Or.inr h2))
        clear h0 hf
        go_enter Tryz.func87, Tryz.ntmps87
        go_wp2_with fail
        refine (C.out _ HB1.out).mono ?_
        rintro e w2 ⟨rfl, hb2⟩
        obtain ⟨z0, z1⟩ := BX.out _ hb2
        have HB2 := Lib.hid (two HB1.out hb2)
        clear hb2
        go_wp2_with fail
        go_ret
        exact ⟨by rw [HD.out]; rfl, HB2.out⟩
      · have HD := Lib.hid (qf_good h0 (by omega))
        clear h0 hf
        go_enter Tryz.func87, Tryz.ntmps87
        go_wp2_with fail
        refine (C.out _ HB1.out).mono ?_
        rintro e w2 ⟨rfl, hb2⟩
        obtain ⟨z0, z1⟩ := BX.out _ hb2
        have HB2 := Lib.hid (two HB1.out hb2)
        clear hb2
        go_wp2_with fail
        go_ret
        exact ⟨by rw [HD.out]; rfl, HB2.out⟩
  · have HD := Lib.hid (qf_files h0)
    have HN := Lib.hid h0
    rw [errV_pos h0] at C
    replace C := Lib.hid C
    clear h0 hf
    go_enter Tryz.func87, Tryz.ntmps87
    go_wp2_with fail
    refine (C.out _ HB1.out).mono ?_
    rintro e w2 ⟨rfl, hb2⟩
    have HB2 := Lib.hid (two HB1.out hb2)
    clear hb2
    go_wp2_with fail
    go_ret
    exact ⟨by rw [HD.out, errV_pos HN.out]; rfl, HB2.out⟩

def doAct (q : Quilt) (a : Act) : Quilt × Nat :=
  if (a.kind.toList == [119, 114, 105, 116, 101]) = true then writtenQ q a.s a.t else if (a.kind.toList == [100, 114, 111, 112]) = true then droppedQ q a.s else if (a.kind.toList == [110, 97, 109, 101]) = true then renamedQ q a.s a.t else if (a.kind.toList == [115, 119, 97, 112]) = true then swappedQ q a.s a.t else (q, 0)
theorem do_good {q : Quilt} (h : Good q) (a : Act) (h0 : (doAct q a).2 = 0) : Good (doAct q a).1 := by
  unfold doAct at h0 ⊢
  split
  · rename_i hh; rw [if_pos hh] at h0; exact (written_good h _ _ h0).1
  · rename_i hh
    rw [if_neg hh] at h0
    split
    · rename_i hh; rw [if_pos hh] at h0; exact (dropped_good h _ h0).1
    · rename_i hh
      rw [if_neg hh] at h0
      split
      · rename_i hh; rw [if_pos hh] at h0; exact (renamed_good h _ _ h0).1
      · rename_i hh
        rw [if_neg hh] at h0
        split
        · rename_i hh; rw [if_pos hh] at h0; exact (swapped_good h _ _ h0).1
        · exact h
/-- The boxes of an act done: the quilt, the act, the answer. -/
def dw (w : World) (v : Value) (t : Int) (av : ActV) : World := ((w.alloc (.cells #[v, .int .i64 t] 36)).alloc (.cells #[.string av.kind, .string av.s, .string av.t, .int .i64 av.n, .int .u64 av.k, av.cv] 26)).alloc (.cells #[.slice none 0 0, .int .i64 0] 36)
theorem dw_size (w : World) (v : Value) (t : Int) (av : ActV) : (dw w v t av).heap.size = w.heap.size + 3 := by unfold dw; simp
theorem dw_below (w : World) (v : Value) (t : Int) (av : ActV) : Below w.heap.size w (dw w v t av) := two (two (below_alloc w _) (below_alloc _ _)) (below_alloc _ _)
theorem dw_box (w : World) (v : Value) (t : Int) (av : ActV) : ∀ W, Below (dw w v t av).heap.size (dw w v t av) W → W.cell? ⟨w.heap.size + 2, 0, none⟩ = some (.slice none 0 0) ∧ W.cell? ⟨w.heap.size + 2, 1, none⟩ = some (.int .i64 0) ∧ W.frozen? ⟨w.heap.size + 2, 0, none⟩ = false ∧ W.frozen? ⟨w.heap.size + 2, 1, none⟩ = false ∧ NoStr W (w.heap.size + 2) := by
  intro W hb
  obtain ⟨hc, hf⟩ := bcell hb
  have hs := dw_size w v t av
  have k2 : (dw w v t av).cell? ⟨w.heap.size + 2, 0, none⟩ = some (.slice none 0 0) := by unfold dw; rw [World.cell?_alloc_at _ _ _ _ (by simp)]; rfl
  have k3 : (dw w v t av).cell? ⟨w.heap.size + 2, 1, none⟩ = some (.int .i64 0) := by unfold dw; rw [World.cell?_alloc_at _ _ _ _ (by simp)]; rfl
  have k4 : (dw w v t av).frozen? ⟨w.heap.size + 2, 0, none⟩ = false := by unfold dw; rw [World.frozen?_alloc_at _ _ _ _ (by simp)]
  have k5 : (dw w v t av).frozen? ⟨w.heap.size + 2, 1, none⟩ = false := by unfold dw; rw [World.frozen?_alloc_at _ _ _ _ (by simp)]
  refine ⟨(hc _ _ (by omega)).trans k2, (hc _ _ (by omega)).trans k3, (hf _ _ (by omega)).trans k4, (hf _ _ (by omega)).trans k5, ?_⟩
  intro o s h
  rw [hc _ _ (by omega)] at h
  match o with
  | 0 => rw [k2] at h; cases h
  | 1 => rw [k3] at h; cases h
  | o + 2 =>
    have h2 : (dw w v t av).heap[w.heap.size + 2]? = some (.cells #[.slice none 0 0, .int .i64 0] 36) := by
      unfold dw
      have := heap_new ((w.alloc (.cells #[v, .int .i64 t] 36)).alloc (.cells #[.string av.kind, .string av.s, .string av.t, .int .i64 av.n, .int .u64 av.k, av.cv] 26)) (.cells #[.slice none 0 0, .int .i64 0] 36)
      simpa using this
    simp only [World.cell?, h2] at h
    simp at h

end Go.Proofs.YtggpodlecljcbadGreatDoor
namespace Go.Proofs.YtggpodlecljcbadGreatDoor
open Go.RowKit Go.Sort
set_option linter.unusedSimpArgs false
set_option linter.unusedVariables false
set_option maxHeartbeats 1000000 in
theorem law_Do (qv : Value) (q : Quilt) (av : ActV) (a : Act) (w : World) (hq : Quilts w qv q) (hg : Good q) (ha : IsAct w av a) (hok : a.ok) :
    Calls Tryz.prog 11 #[qv, av.val] w (RetQE (doAct q a) w) := by
  obtain ⟨v, rfl, hf⟩ := hq
  obtain ⟨e1, e2, e3, e4, e5, hc⟩ := ha
  unfold ActV.val
  have BX := dw_box w v q.turn av
  have HB2 := Lib.hid (dw_below w v q.turn av)
  obtain ⟨W2, hW2⟩ : ∃ W2, W2 = dw w v q.turn av := ⟨_, rfl⟩
  rw [← hW2] at BX HB2
  have HBX := Lib.hid BX
  have HF := Lib.hid hf
  obtain ⟨ao, ca, rfl, hca, hca'⟩ := hf.parts
  unfold dw at hW2
  rw [e1, e2, e3, e4, e5] at hW2 ⊢
  have HW2 := Lib.hid hW2
  have HG := Lib.hid hg
  have HOK := Lib.hid hok
  have CW := fun W hb => quilt_Write (.agg #[.slice ao q.files.length ca, .int .i64 q.turn]) q a.s a.t W ⟨_, rfl, HF.out.below hb⟩ HG.out HOK.out.2.1 HOK.out.2.2.1
  have CD := fun W hb => quilt_Drop (.agg #[.slice ao q.files.length ca, .int .i64 q.turn]) q a.s W ⟨_, rfl, HF.out.below hb⟩ HG.out
  have CN := fun W hb => quilt_Rename (.agg #[.slice ao q.files.length ca, .int .i64 q.turn]) q a.s a.t W ⟨_, rfl, HF.out.below hb⟩ HG.out HOK.out.2.2.1
  have CS := fun W hb => quilt_Swap (.agg #[.slice ao q.files.length ca, .int .i64 q.turn]) q a.s a.t W ⟨_, rfl, HF.out.below hb⟩ HG.out
  unfold RetQE at CW CD CN CS
  clear BX hW2 hf hg hc hok e1 e2 e3 e4 e5
  cases hw : (a.kind.toList == [119, 114, 105, 116, 101])
  rotate_left
  · have hD : doAct q a = writtenQ q a.s a.t := by unfold doAct; simp [hw]
    obtain ⟨p, hp⟩ : ∃ p, p = writtenQ q a.s a.t := ⟨_, rfl⟩
    rw [← hp] at CW hD
    have HD := Lib.hid hD
    replace CW := Lib.hid CW
    clear hD hp
    go_enter Tryz.func11, Tryz.ntmps11
    go_wp2_with fail
    rw [← HW2.out]
    refine (CW.out _ HB2.out).mono ?_
    rintro e w3 ⟨qv', rfl, ⟨v', rfl, hf'⟩, hb3⟩
    obtain ⟨ao', ca', rfl, _, _⟩ := hf'.parts
    have HF' := Lib.hid hf'
    have HB3 := Lib.hid (two HB2.out hb3)
    obtain ⟨z2, z3, z4, z5, hns⟩ := HBX.out _ hb3
    have HNS := Lib.hid hns
    clear hns hf' hb3
    go_wp2_with fail
    have HBF := (HB3.out.setCell (p := ⟨w.heap.size + 2, 0, none⟩) (by simp) (.slice ao' p.1.files.length ca')).setCell (p := ⟨w.heap.size + 2, 1, none⟩) (by simp) (.int .i64 p.1.turn)
    refine bodyPost_ret (v := .tuple #[.agg #[.slice ao' p.1.files.length ca', .int .i64 p.1.turn], errV p.2]) (by simp [results, Tryz.results11, go_sem, z2, z3, z4, z5]) rfl ?_
    exact ⟨_, by rw [HD.out], by rw [HD.out]; exact quilt_laid HF'.out HNS.out (files_not_str HF'.out), HBF⟩
  cases hd : (a.kind.toList == [100, 114, 111, 112])
  rotate_left
  · have hD : doAct q a = droppedQ q a.s := by unfold doAct; simp [hw, hd]
    obtain ⟨p, hp⟩ : ∃ p, p = droppedQ q a.s := ⟨_, rfl⟩
    rw [← hp] at CD hD
    have HD := Lib.hid hD
    replace CD := Lib.hid CD
    clear hD hp
    go_enter Tryz.func11, Tryz.ntmps11
    go_wp2_with fail
    rw [← HW2.out]
    refine (CD.out _ HB2.out).mono ?_
    rintro e w3 ⟨qv', rfl, ⟨v', rfl, hf'⟩, hb3⟩
    obtain ⟨ao', ca', rfl, _, _⟩ := hf'.parts
    have HF' := Lib.hid hf'
    have HB3 := Lib.hid (two HB2.out hb3)
    obtain ⟨z2, z3, z4, z5, hns⟩ := HBX.out _ hb3
    have HNS := Lib.hid hns
    clear hns hf' hb3
    go_wp2_with fail
    have HBF := (HB3.out.setCell (p := ⟨w.heap.size + 2, 0, none⟩) (by simp) (.slice ao' p.1.files.length ca')).setCell (p := ⟨w.heap.size + 2, 1, none⟩) (by simp) (.int .i64 p.1.turn)
    refine bodyPost_ret (v := .tuple #[.agg #[.slice ao' p.1.files.length ca', .int .i64 p.1.turn], errV p.2]) (by simp [results, Tryz.results11, go_sem, z2, z3, z4, z5]) rfl ?_
    exact ⟨_, by rw [HD.out], by rw [HD.out]; exact quilt_laid HF'.out HNS.out (files_not_str HF'.out), HBF⟩
  cases hn : (a.kind.toList == [110, 97, 109, 101])
  rotate_left
  · have hD : doAct q a = renamedQ q a.s a.t := by unfold doAct; simp [hw, hd, hn]
    obtain ⟨p, hp⟩ : ∃ p, p = renamedQ q a.s a.t := ⟨_, rfl⟩
    rw [← hp] at CN hD
    have HD := Lib.hid hD
    replace CN := Lib.hid CN
    clear hD hp
    go_enter Tryz.func11, Tryz.ntmps11
    go_wp2_with fail
    rw [← HW2.out]
    refine (CN.out _ HB2.out).mono ?_
    rintro e w3 ⟨qv', rfl, ⟨v', rfl, hf'⟩, hb3⟩
    obtain ⟨ao', ca', rfl, _, _⟩ := hf'.parts
    have HF' := Lib.hid hf'
    have HB3 := Lib.hid (two HB2.out hb3)
    obtain ⟨z2, z3, z4, z5, hns⟩ := HBX.out _ hb3
    have HNS := Lib.hid hns
    clear hns hf' hb3
    go_wp2_with fail
    have HBF := (HB3.out.setCell (p := ⟨w.heap.size + 2, 0, none⟩) (by simp) (.slice ao' p.1.files.length ca')).setCell (p := ⟨w.heap.size + 2, 1, none⟩) (by simp) (.int .i64 p.1.turn)
    refine bodyPost_ret (v := .tuple #[.agg #[.slice ao' p.1.files.length ca', .int .i64 p.1.turn], errV p.2]) (by simp [results, Tryz.results11, go_sem, z2, z3, z4, z5]) rfl ?_
    exact ⟨_, by rw [HD.out], by rw [HD.out]; exact quilt_laid HF'.out HNS.out (files_not_str HF'.out), HBF⟩
  cases hs : (a.kind.toList == [115, 119, 97, 112])
  rotate_left
  · have hD : doAct q a = swappedQ q a.s a.t := by unfold doAct; simp [hw, hd, hn, hs]
    obtain ⟨p, hp⟩ : ∃ p, p = swappedQ q a.s a.t := ⟨_, rfl⟩
    rw [← hp] at CS hD
    have HD := Lib.hid hD
    replace CS := Lib.hid CS
    clear hD hp
    go_enter Tryz.func11, Tryz.ntmps11
    go_wp2_with fail
    rw [← HW2.out]
    refine (CS.out _ HB2.out).mono ?_
    rintro e w3 ⟨qv', rfl, ⟨v', rfl, hf'⟩, hb3⟩
    obtain ⟨ao', ca', rfl, _, _⟩ := hf'.parts
    have HF' := Lib.hid hf'
    have HB3 := Lib.hid (two HB2.out hb3)
    obtain ⟨z2, z3, z4, z5, hns⟩ := HBX.out _ hb3
    have HNS := Lib.hid hns
    clear hns hf' hb3
    go_wp2_with fail
    have HBF := (HB3.out.setCell (p := ⟨w.heap.size + 2, 0, none⟩) (by simp) (.slice ao' p.1.files.length ca')).setCell (p := ⟨w.heap.size + 2, 1, none⟩) (by simp) (.int .i64 p.1.turn)
    refine bodyPost_ret (v := .tuple #[.agg #[.slice ao' p.1.files.length ca', .int .i64 p.1.turn], errV p.2]) (by simp [results, Tryz.results11, go_sem, z2, z3, z4, z5]) rfl ?_
    exact ⟨_, by rw [HD.out], by rw [HD.out]; exact quilt_laid HF'.out HNS.out (files_not_str HF'.out), HBF⟩
  have hD : doAct q a = (q, 0) := by unfold doAct; simp [hw, hd, hn, hs]
  have HD := Lib.hid hD
  clear hD
  go_enter Tryz.func11, Tryz.ntmps11
  go_wp2_with fail
  have HBF := two (two (below_alloc w (.cells #[.slice ao q.files.length ca, .int .i64 q.turn] 36)) (below_alloc _ (.cells #[.string a.kind, .string a.s, .string a.t, .int .i64 a.n, .int .u64 a.k, av.cv] 26))) (below_alloc _ (.cells #[.slice ao q.files.length ca, .int .i64 q.turn] 36))
  refine bodyPost_ret (v := .tuple #[.agg #[.slice ao q.files.length ca, .int .i64 q.turn], errV 0]) (by simp [errV, results, Tryz.results11, go_sem]) rfl ?_
  exact ⟨_, by rw [HD.out]; try rfl, by rw [HD.out]; exact ⟨_, rfl, HF.out.below HBF⟩, HBF⟩

end Go.Proofs.YtggpodlecljcbadGreatDoor
namespace Go.Proofs.YtggpodlecljcbadGreatDoor
set_option linter.unusedSimpArgs false
set_option linter.unusedVariables false
theorem put_ok {l : List File} {f : File} (h0 : (putAt l f).2 = 0) : putAt l f = (putAll l f, 0) ∧ fileFault f = 0 ∧ ¬ ((getAt l f.name).isSome = false ∧ 8 ≤ l.length) := by
  unfold putAt at h0 ⊢
  by_cases hf : fileFault f = 0
  · rw [if_neg (by simp [hf])] at h0 ⊢
    split
    · rename_i hh; rw [if_pos hh] at h0; cases h0
    · rename_i hh; exact ⟨rfl, hf, hh⟩
  · rw [if_pos hf] at h0; exact absurd h0 hf
theorem next_ok {q : Quilt} {p : List File × Nat} (h0 : (nextQ q p).2 = 0) : nextQ q p = (⟨p.1, q.turn + 1⟩, 0) ∧ p.2 = 0 ∧ q.turn < 9999 := by
  unfold nextQ at h0 ⊢
  split
  · rename_i hh; rw [if_pos hh] at h0; exact absurd h0 hh
  · rename_i hh
    rw [if_neg hh] at h0
    split
    · rename_i h9; rw [if_pos h9] at h0; cases h0
    · rename_i h9; exact ⟨rfl, by simpa using hh, by omega⟩
/-- Acts, one behind the other; what can't be done is left out. -/
def stepQ (q : Quilt) (a : Act) : Quilt := if (doAct q a).2 = 0 then (doAct q a).1 else q
def grownTo (al : List Act) (k : Nat) : Quilt := (al.take k).foldl stepQ ⟨[], 1⟩
def grownQ (al : List Act) : Quilt := grownTo al al.length
theorem grown_next (al : List Act) (k : Nat) (h : k < al.length) : grownTo al (k + 1) = stepQ (grownTo al k) al[k] := by
  unfold grownTo; rw [List.take_succ_eq_append_getElem h, List.foldl_append]; rfl
end Go.Proofs.YtggpodlecljcbadGreatDoor
