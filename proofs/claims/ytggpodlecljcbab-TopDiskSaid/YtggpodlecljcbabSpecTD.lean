/- Plain: a disk that never falls, its writes and what is kept of them (TopDisk). -/
import Derived.Test.YtggpodlecljcbabSpecK
namespace Go.Proofs.Ytggpodlecljcbab
set_option linter.unusedSimpArgs false
set_option linter.unusedVariables false
open Go.RowKit Go.Sort
/-- A disk of four sectors, up, unarmed. -/
structure Calm (D : DiskS) (k : Nat) : Prop where
  ok : D.ok
  fuse : D.fuse = -1
  down : D.down = false
  four : D.now.length = 4
  few : D.wait.length ≤ k
theorem Calm.step {D : DiskS} {k : Nat} (h : Calm D k) : stepD D = (D, 0) := by
  have h1 := h.down
  have h2 := h.fuse
  unfold stepD
  rw [if_neg (by simp [h1]), if_neg (by rw [h2]; decide), if_neg (by rw [h2]; decide)]
theorem calm_new : Calm (newD 4) 0 := ⟨newD_ok (by decide) (by decide), rfl, rfl, rfl, by simp [newD]⟩
theorem Calm.write_bad {D : DiskS} {k : Nat} (h : Calm D k) {p : Int} {s : ByteArray} (hp : p < 0 ∨ 4 ≤ p ∨ 40 < s.size) : writeD D p s = (D, 1) := by
  unfold writeD; rw [if_pos (by rw [h.four]; exact hp)]
theorem Calm.write_good {D : DiskS} {k : Nat} (h : Calm D k) (i : Nat) {s : ByteArray} (hi : i < 4) (hs : s.size ≤ 40) : writeD D i s = ({ D with now := D.now.set i (fullS s), wait := D.wait ++ [⟨i, fullS s⟩] }, 0) := by
  unfold writeD
  rw [if_neg (by rw [h.four]; omega), if_neg (by rw [h.step]; simp), h.step]
  rfl
theorem Calm.written {D : DiskS} {k : Nat} (h : Calm D k) (i : Nat) {s : ByteArray} (hi : i < 4) (hs : s.size ≤ 40) : Calm { D with now := D.now.set i (fullS s), wait := D.wait ++ [⟨i, fullS s⟩] } (k + 1) := by
  have h1 := h.ok.write i s
  rw [h.write_good i hi hs] at h1
  exact ⟨h1, h.fuse, h.down, by rw [List.length_set]; exact h.four, by rw [List.length_append]; have := h.few; simp; omega⟩
theorem Calm.more {D : DiskS} {k : Nat} (h : Calm D k) : Calm D (k + 1) := ⟨h.ok, h.fuse, h.down, h.four, Nat.le_succ_of_le h.few⟩
theorem Calm.write {D : DiskS} {k : Nat} (h : Calm D k) (p : Int) (s : ByteArray) : Calm (writeD D p s).1 (k + 1) := by
  by_cases hp : p < 0 ∨ 4 ≤ p ∨ 40 < s.size
  · rw [h.write_bad hp]; exact h.more
  · obtain ⟨i, rfl⟩ : ∃ i : Nat, p = i := ⟨p.toNat, by omega⟩
    rw [h.write_good i (by omega) (by omega)]
    exact h.written i (by omega) (by omega)
theorem Calm.flush {D : DiskS} {k : Nat} (h : Calm D k) : flushD D = ({ D with kept := D.now, wait := [] }, 0) := by
  unfold flushD
  rw [if_neg (by rw [h.step]; simp), h.step]
theorem Calm.flushed {D : DiskS} {k : Nat} (h : Calm D k) : Calm { D with kept := D.now, wait := [] } 0 := by
  have h1 := h.ok.flush
  rw [h.flush] at h1
  exact ⟨h1, h.fuse, h.down, h.four, by simp⟩
theorem Calm.read {D : DiskS} {k : Nat} (h : Calm D k) (i : Nat) (hi : i < 4) : readD D i = (D.now[i]'(by rw [h.four]; exact hi), 0) := by
  unfold readD
  rw [if_neg (by simp [h.down]), if_neg (by rw [h.four]; omega)]
  simp [h.four, hi]
/-- What is kept of one write more. -/
theorem keepTo_more (keep : Int) (wait : List Turn) (t : Turn) (K : List ByteArray) :
    keepTo' keep (wait ++ [t]) (wait ++ [t]).length K = if keepBit keep wait.length then (keepTo' keep wait wait.length K).set t.pos t.data else keepTo' keep wait wait.length K := by
  have h1 : keepTo' keep (wait ++ [t]) wait.length K = keepTo' keep wait wait.length K := by
    unfold keepTo'
    rw [List.take_left, List.take_length]
  have h2 : (wait ++ [t]).length = wait.length + 1 := by simp
  rw [h2, keepTo_next keep (wait ++ [t]) wait.length K (by simp), h1]
  simp
theorem keepTo_len (keep : Int) (wait : List Turn) (K : List ByteArray) : (keepTo' keep wait wait.length K).length = K.length := keepTo_length keep wait K _ (Nat.le_refl _)
end Go.Proofs.Ytggpodlecljcbab
