/- Plain: chapter 5: a quilt as rows; rows as a quilt. -/
import Derived.Test.YtggpodlecljcbaaGreatDoorSpecI
namespace Go.Proofs.YtggpodlecljcbaaGreatDoor
set_option linter.unusedSimpArgs false
set_option linter.unusedVariables false
open Go.RowKit Go.Sort
def fB : ByteArray := ⟨#[102]⟩
def turnB : ByteArray := ⟨#[116, 117, 114, 110]⟩
def rowF (f : File) : Change := ⟨fB ++ f.name, fourI f.times ++ f.text, false⟩
def turnRow (n : Int) : Change := ⟨turnB, fourI n, false⟩
/-- E1. -/
def rowsQ (q : Quilt) : List Change := q.files.map rowF ++ [turnRow q.turn]
def startsF (s : ByteArray) : Bool := s.data.toList.head? == some 102
def leP (p : Option ByteArray) (k : ByteArray) : Bool := match p with | some p => bLe k p | none => false
/-- E2: one row more. -/
def stepQ (prev : Option ByteArray) (q : Quilt) (c : Change) : Option Quilt :=
  if leP prev c.key = true ∨ c.gone = true ∨ numI c.val < 0 then none
  else if (c.key.toList == turnB.toList) = true ∧ c.val.size = 4 then some ⟨q.files, numI c.val⟩
  else if startsF c.key = true then some ⟨q.files ++ [⟨c.key.extract 1 c.key.size, c.val.extract 4 c.val.size, numI c.val⟩], q.turn⟩ else none
def foldQ : Option ByteArray → Quilt → List Change → Option Quilt
  | _, q, [] => some q
  | p, q, c :: r => match stepQ p q c with
    | none => none
    | some q' => foldQ (some c.key) q' r
def parseQ (l : List Change) : Option Quilt := match foldQ none noQuilt l with
  | none => none
  | some q => if quiltFault q ≠ 0 then none else some q
theorem app_list (a b : ByteArray) : (a ++ b).toList = a.toList ++ b.toList := by
  rw [bytes_list, bytes_list, bytes_list, ByteArray.data_append, Array.toList_append]
theorem app_data (a b : ByteArray) : (a ++ b).data.toList = a.data.toList ++ b.data.toList := by rw [ByteArray.data_append, Array.toList_append]
theorem f_list (a : ByteArray) : (fB ++ a).toList = 102 :: a.toList := by rw [app_list, bytes_list fB]; rfl
theorem turn_list : turnB.toList = [116, 117, 114, 110] := by rw [bytes_list]; rfl
theorem less_f (x y : List UInt8) : Op.bytesLess (102 :: x) (102 :: y) = Op.bytesLess x y := by
  show (decide ((102 : UInt8) < 102) || ((102 : UInt8) == 102 && Op.bytesLess x y)) = _
  have h1 : decide ((102 : UInt8) < 102) = false := by decide
  rw [h1]
  simp
theorem bLt_f (a b : ByteArray) : bLt (fB ++ a) (fB ++ b) = bLt a b := by
  unfold bLt
  rw [f_list, f_list, less_f]
theorem bLe_f (a b : ByteArray) : bLe (fB ++ a) (fB ++ b) = bLe a b := by
  unfold bLe
  rw [f_list, f_list, less_f]
  simp
theorem bLt_turn (a : ByteArray) : bLt (fB ++ a) turnB = true := by
  unfold bLt
  rw [f_list, turn_list]
  rfl
theorem bLe_turn (a : ByteArray) : bLe turnB (fB ++ a) = false := by
  unfold bLe
  rw [f_list, turn_list]
  rfl
theorem four_take (n : Nat) (h : n ≤ 9999) (t : ByteArray) : (fourI (n : Int) ++ t).data.toList.take 4 = dig4 n := by
  rw [app_data, four_nat n h]
  rfl
theorem four_app (n : Nat) (h : n ≤ 9999) (t : ByteArray) : (fourI (n : Int) ++ t).extract 4 (fourI (n : Int) ++ t).size = t := by
  have h4 := four_size n h
  apply ByteArray.ext
  apply Array.toList_inj.1
  rw [ByteArray.data_extract, Array.toList_extract, List.extract_eq_take_drop, app_data]
  have h5 : (fourI (n : Int)).data.toList.length = 4 := by rw [four_nat n h]; rfl
  rw [List.drop_append_of_le_length (by omega), List.drop_of_length_le (by omega), List.nil_append]
  refine List.take_of_length_le ?_
  rw [ByteArray.size_append, h4]
  simp
theorem f_app (a : ByteArray) : (fB ++ a).extract 1 (fB ++ a).size = a := by
  apply ByteArray.ext
  apply Array.toList_inj.1
  rw [ByteArray.data_extract, Array.toList_extract, List.extract_eq_take_drop, app_data]
  show ((102 :: a.data.toList).drop 1).take _ = _
  rw [List.drop_one, List.tail_cons]
  refine List.take_of_length_le ?_
  rw [ByteArray.size_append]
  have : fB.size = 1 := rfl
  simp
  omega
theorem step_row (p : Option ByteArray) (q : Quilt) (f : File) (hp : leP p (fB ++ f.name) = false) (h1 : 1 ≤ f.times) (h2 : f.times ≤ 9999) : stepQ p q (rowF f) = some ⟨q.files ++ [f], q.turn⟩ := by
  obtain ⟨n, hn⟩ : ∃ n : Nat, f.times = (n : Int) := ⟨f.times.toNat, by omega⟩
  have hn9 : n ≤ 9999 := by omega
  have hnum : numI (rowF f).val = (n : Int) := by
    unfold rowF
    rw [hn]
    exact numI_four n hn9 _ (four_take n hn9 _)
  have hk : (rowF f).key = fB ++ f.name := rfl
  have hg : (rowF f).gone = false := rfl
  unfold stepQ
  rw [hnum, hk, hg, hp, if_neg (by simp), if_neg (by
    rintro ⟨h, _⟩
    rw [f_list, turn_list] at h
    simp at h), if_pos (by
    unfold startsF
    rw [app_data]
    rfl)]
  congr 2
  rw [f_app]
  have hv : (rowF f).val.extract 4 (rowF f).val.size = f.text := by
    unfold rowF
    rw [hn]
    exact four_app n hn9 f.text
  rw [hv, ← hn]
theorem step_turn (p : Option ByteArray) (q : Quilt) (n : Int) (hp : leP p turnB = false) (h1 : 0 ≤ n) (h2 : n ≤ 9999) : stepQ p q (turnRow n) = some ⟨q.files, n⟩ := by
  obtain ⟨m, rfl⟩ : ∃ m : Nat, n = (m : Int) := ⟨n.toNat, by omega⟩
  have hnum : numI (turnRow m).val = (m : Int) := numI_four m (by omega) _ (by
    have := four_nat m (by omega)
    show (fourI (m : Int)).data.toList.take 4 = _
    rw [this]; rfl)
  have hs : (turnRow m).val.size = 4 := four_size m (by omega)
  have hk : (turnRow m).key = turnB := rfl
  have hg : (turnRow m).gone = false := rfl
  unfold stepQ
  rw [hnum, hk, hg, hp, hs, if_neg (by simp), if_pos (by simp)]
theorem fold_rows : ∀ (fs : List File) (p : Option ByteArray) (acc : List File) (t n : Int), (∀ f ∈ fs, 1 ≤ f.times ∧ f.times ≤ 9999) → Rises fs → (p = none ∨ ∃ a, p = some (fB ++ a) ∧ ∀ f ∈ fs, bLt a f.name = true) → 0 ≤ n → n ≤ 9999 →
    foldQ p ⟨acc, t⟩ (fs.map rowF ++ [turnRow n]) = some ⟨acc ++ fs, n⟩
  | [], p, acc, t, n, _, _, hp, h1, h2 => by
    have hs : stepQ p ⟨acc, t⟩ (turnRow n) = some ⟨acc, n⟩ := step_turn p ⟨acc, t⟩ n (by
      rcases hp with rfl | ⟨a, rfl, _⟩
      · rfl
      · exact bLe_turn a) h1 h2
    show foldQ p ⟨acc, t⟩ [turnRow n] = _
    unfold foldQ
    rw [hs]
    simp [foldQ]
  | f :: r, p, acc, t, n, hf, hr, hp, h1, h2 => by
    have hs : stepQ p ⟨acc, t⟩ (rowF f) = some ⟨acc ++ [f], t⟩ := step_row p ⟨acc, t⟩ f (by
      rcases hp with rfl | ⟨a, rfl, ha⟩
      · rfl
      · show bLe (fB ++ f.name) (fB ++ a) = false
        rw [bLe_f]
        exact not_le_of_lt (ha f (List.mem_cons_self ..))) (hf f (List.mem_cons_self ..)).1 (hf f (List.mem_cons_self ..)).2
    obtain ⟨g1, g2⟩ := List.pairwise_cons.1 hr
    show foldQ p ⟨acc, t⟩ (rowF f :: (r.map rowF ++ [turnRow n])) = _
    unfold foldQ
    rw [hs]
    show foldQ (some (rowF f).key) ⟨acc ++ [f], t⟩ (r.map rowF ++ [turnRow n]) = _
    rw [fold_rows r (some (rowF f).key) (acc ++ [f]) t n (fun g hg => hf g (List.mem_cons_of_mem _ hg)) g2 (Or.inr ⟨f.name, rfl, g1⟩) h1 h2, List.append_assoc]
    rfl
theorem file_parts {f : File} (h : fileFault f = 0) : nameFault f.name.data.toList = 0 ∧ f.text.size ≤ 12 ∧ 1 ≤ f.times ∧ f.times ≤ 9999 := by
  unfold fileFault at h
  split at h
  · rename_i hn; exact absurd h hn
  · rename_i hn
    split at h
    · cases h
    · split at h
      · cases h
      · rename_i hm
        exact ⟨by simpa using hn, by omega, by omega, by omega⟩
theorem name_len {f : File} (h : fileFault f = 0) : f.name.size ≤ 6 := by
  have h1 := (file_parts h).1
  unfold nameFault at h1
  split at h1
  · cases h1
  · split at h1
    · cases h1
    · have : f.name.data.toList.length = f.name.size := by simp
      omega
theorem quilt_good {q : Quilt} (h : quiltFault q = 0) : q.files.length ≤ 8 ∧ Rises q.files ∧ (∀ f ∈ q.files, fileFault f = 0) ∧ 1 ≤ q.turn ∧ q.turn ≤ 9999 := by
  obtain ⟨⟨h1, h2, h3⟩, h4, h5⟩ := (good_iff q).1 h
  exact ⟨h1, h2, h3, h4, h5⟩
theorem parse_rows {q : Quilt} (h : quiltFault q = 0) : parseQ (rowsQ q) = some q := by
  obtain ⟨h1, h2, h3, h4, h5⟩ := quilt_good h
  have hf := fold_rows q.files none [] 0 q.turn (fun f hf => (file_parts (h3 f hf)).2.2) h2 (Or.inl rfl) (by omega) h5
  unfold parseQ rowsQ
  have e : (noQuilt : Quilt) = ⟨[], 0⟩ := rfl
  rw [e, hf]
  simp only [List.nil_append]
  rw [if_neg (by simp [h])]
theorem head_split (s : ByteArray) (h : startsF s = true) : fB ++ s.extract 1 s.size = s := by
  apply ByteArray.ext
  apply Array.toList_inj.1
  rw [app_data, ByteArray.data_extract, Array.toList_extract, List.extract_eq_take_drop]
  unfold startsF at h
  have hl : s.data.toList.length = s.size := by simp
  match hs : s.data.toList, h with
  | a :: r, h =>
    have ha : a = 102 := by simpa using h
    subst ha
    rw [hs] at hl
    simp only [List.length_cons] at hl
    rw [List.drop_one, List.tail_cons, List.take_of_length_le (by omega)]
    rfl
theorem val_split (s : ByteArray) (n : Nat) (hn : n ≤ 9999) (h4 : 4 ≤ s.size) (h : s.data.toList.take 4 = dig4 n) : fourI (n : Int) ++ s.extract 4 s.size = s := by
  apply ByteArray.ext
  apply Array.toList_inj.1
  have hl : s.data.toList.length = s.size := by simp
  rw [app_data, ByteArray.data_extract, Array.toList_extract, List.extract_eq_take_drop, four_nat n hn, ← h, List.take_of_length_le (l := s.data.toList.drop 4) (by rw [List.length_drop]; omega), List.take_append_drop]
theorem val_whole (s : ByteArray) (n : Nat) (hn : n ≤ 9999) (h4 : s.size = 4) (h : s.data.toList.take 4 = dig4 n) : fourI (n : Int) = s := by
  have h1 := val_split s n hn (by omega) h
  have h2 : s.extract 4 s.size = ByteArray.empty := by
    apply ByteArray.ext
    apply Array.toList_inj.1
    rw [ByteArray.data_extract, Array.toList_extract, List.extract_eq_take_drop, List.drop_of_length_le (by have hl : s.data.toList.length = s.size := by simp
                                                                                                            omega)]
    simp
  rw [h2] at h1
  simpa using h1
/-- a row that is taken: a file's, or the turn's. -/
theorem step_some {p : Option ByteArray} {q q' : Quilt} {c : Change} (h : stepQ p q c = some q') :
    leP p c.key = false ∧ ((∃ n : Nat, n ≤ 9999 ∧ c = turnRow n ∧ q' = ⟨q.files, n⟩) ∨ ∃ f : File, c = rowF f ∧ q' = ⟨q.files ++ [f], q.turn⟩) := by
  unfold stepQ at h
  split at h
  · cases h
  · rename_i h1
    have hp : leP p c.key = false := by
      cases hb : leP p c.key
      · rfl
      · exact absurd (Or.inl hb) h1
    have hg : c.gone = false := by
      cases hb : c.gone
      · rfl
      · exact absurd (Or.inr (Or.inl hb)) h1
    have hn : 0 ≤ numI c.val := by
      have := mt (fun hx => Or.inr (Or.inr hx)) h1
      omega
    obtain ⟨n, e1, e2, e3, e4⟩ := numI_some c.val hn
    refine ⟨hp, ?_⟩
    split at h
    · rename_i h2
      simp only [Option.some.injEq] at h
      left
      refine ⟨n, e2, ?_, by rw [← h, e1]⟩
      have hk : c.key = turnB := (bytes_eq_iff _ _).1 (by simpa using h2.1)
      have hv := val_whole c.val n e2 h2.2 e4
      cases c
      simp only [turnRow] at hk hv hg ⊢
      rw [hk, hg, hv]
    · split at h
      · rename_i h2 h3
        simp only [Option.some.injEq] at h
        right
        refine ⟨⟨c.key.extract 1 c.key.size, c.val.extract 4 c.val.size, numI c.val⟩, ?_, h.symm⟩
        have hk := head_split c.key h3
        have hv := val_split c.val n e2 e3 e4
        unfold rowF
        simp only []
        rw [e1, hk, hv]
        cases c
        simp only at hg ⊢
        rw [hg]
      · cases h
theorem fold_end : ∀ (l : List Change) (q q' : Quilt), foldQ (some turnB) q l = some q' → l = [] ∧ q' = q
  | [], q, q', h => by
    unfold foldQ at h
    simp only [Option.some.injEq] at h
    exact ⟨rfl, h.symm⟩
  | c :: r, q, q', h => by
    exfalso
    unfold foldQ at h
    cases hs : stepQ (some turnB) q c with
    | none => rw [hs] at h; cases h
    | some q2 =>
      obtain ⟨h1, h2⟩ := step_some hs
      have h1' : bLe c.key turnB = false := h1
      rcases h2 with ⟨n, _, rfl, _⟩ | ⟨f, rfl, _⟩
      · have h3 : (turnRow (n : Int)).key = turnB := rfl
        rw [h3] at h1'
        unfold bLe at h1'
        simp at h1'
      · have h3 : (rowF f).key = fB ++ f.name := rfl
        rw [h3] at h1'
        have h4 := bLt_turn f.name
        unfold bLe at h1'
        unfold bLt at h4
        rw [h4] at h1'
        cases h1'
theorem fold_some : ∀ (l : List Change) (p : Option ByteArray) (q q' : Quilt), foldQ p q l = some q' → ∃ fs : List File, (l = fs.map rowF ∧ q' = ⟨q.files ++ fs, q.turn⟩) ∨ (∃ n : Nat, n ≤ 9999 ∧ l = fs.map rowF ++ [turnRow n] ∧ q' = ⟨q.files ++ fs, n⟩)
  | [], p, q, q', h => by
    unfold foldQ at h
    simp only [Option.some.injEq] at h
    refine ⟨[], Or.inl ⟨rfl, ?_⟩⟩
    rw [← h]
    simp
  | c :: r, p, q, q', h => by
    unfold foldQ at h
    cases hs : stepQ p q c with
    | none => rw [hs] at h; cases h
    | some q2 =>
      rw [hs] at h
      simp only [] at h
      obtain ⟨_, h2⟩ := step_some hs
      rcases h2 with ⟨n, hn, rfl, rfl⟩ | ⟨f, rfl, rfl⟩
      · obtain ⟨rfl, rfl⟩ := fold_end r _ _ h
        exact ⟨[], Or.inr ⟨n, hn, rfl, by simp⟩⟩
      · obtain ⟨fs, h3⟩ := fold_some r _ _ _ h
        refine ⟨f :: fs, ?_⟩
        rcases h3 with ⟨h3, h4⟩ | ⟨n, hn, h3, h4⟩
        · exact Or.inl ⟨by rw [h3]; rfl, by rw [h4]; simp⟩
        · exact Or.inr ⟨n, hn, by rw [h3]; rfl, by rw [h4]; simp⟩
/-- E2: what is read is whole. -/
theorem rows_parse {l : List Change} {q : Quilt} (h : parseQ l = some q) : rowsQ q = l ∧ quiltFault q = 0 := by
  unfold parseQ at h
  cases hf : foldQ none noQuilt l with
  | none => rw [hf] at h; cases h
  | some q2 =>
    rw [hf] at h
    simp only [] at h
    split at h
    · cases h
    · rename_i hq
      simp only [Option.some.injEq] at h
      subst h
      have hq0 : quiltFault q2 = 0 := by simpa using hq
      refine ⟨?_, hq0⟩
      obtain ⟨fs, h3⟩ := fold_some l none noQuilt q2 hf
      rcases h3 with ⟨h3, h4⟩ | ⟨n, hn, h3, h4⟩
      · have := (quilt_good hq0).2.2.2.1
        rw [h4] at this
        have h5 : (1 : Int) ≤ 0 := this
        omega
      · rw [h3, h4]
        rfl
theorem row_fault {f : File} (h : fileFault f = 0) : changeFault (rowF f) = 0 := by
  have h1 := name_len h
  obtain ⟨_, h2, h3, h4⟩ := file_parts h
  obtain ⟨n, hn⟩ : ∃ n : Nat, f.times = (n : Int) := ⟨f.times.toNat, by omega⟩
  have h5 := four_size n (by omega)
  unfold changeFault rowF
  simp only [hn]
  rw [f_list, if_neg (by simp), if_neg]
  rw [ByteArray.size_append, ByteArray.size_append, h5]
  have : fB.size = 1 := rfl
  omega
theorem turn_fault {n : Int} (h1 : 0 ≤ n) (h2 : n ≤ 9999) : changeFault (turnRow n) = 0 := by
  obtain ⟨m, rfl⟩ : ∃ m : Nat, n = (m : Int) := ⟨n.toNat, by omega⟩
  have h5 := four_size m (by omega)
  unfold changeFault turnRow
  simp only []
  rw [turn_list, if_neg (by simp), if_neg]
  rw [h5]
  have : turnB.size = 4 := rfl
  omega
theorem rowsQ_good {q : Quilt} (h : quiltFault q = 0) : RisesX (rowsQ q) ∧ (∀ c ∈ rowsQ q, changeFault c = 0 ∧ c.gone = false) ∧ (rowsQ q).length ≤ 9 := by
  obtain ⟨h1, h2, h3, h4, h5⟩ := quilt_good h
  refine ⟨?_, fun c hc => ?_, ?_⟩
  · unfold RisesX rowsQ
    rw [List.pairwise_append]
    refine ⟨?_, List.pairwise_singleton .., fun a ha b hb => ?_⟩
    · rw [List.pairwise_map]
      exact h2.imp (fun {a b} hab => by show bLt (fB ++ a.name) (fB ++ b.name) = true; rw [bLt_f]; exact hab)
    · obtain ⟨f, _, rfl⟩ := List.mem_map.1 ha
      rw [List.mem_singleton.1 hb]
      exact bLt_turn f.name
  · unfold rowsQ at hc
    rcases List.mem_append.1 hc with hc | hc
    · obtain ⟨f, hf, rfl⟩ := List.mem_map.1 hc
      exact ⟨row_fault (h3 f hf), rfl⟩
    · rw [List.mem_singleton.1 hc]
      exact ⟨turn_fault (by omega) h5, rfl⟩
  · unfold rowsQ
    rw [List.length_append, List.length_map]
    simp only [List.length_cons, List.length_nil]
    omega
end Go.Proofs.YtggpodlecljcbaaGreatDoor
