/- Plain: swapped, and swapped again. -/
import Derived.Test.YtggpodlecljcbabSpecT2
namespace Go.Proofs.Ytggpodlecljcbab
set_option linter.unusedSimpArgs false
set_option linter.unusedVariables false
theorem get_swap (a b : ByteArray) (x y : File) (l : List File) (n : ByteArray) : getAt (l.map (swapF a b x y)) n = (getAt l n).map (swapF a b x y) := by
  unfold getAt
  rw [List.find?_map]
  congr 2
  funext f
  simp [swapF_name]
theorem swap_twice {q : Quilt} (h : Good q) (ht : q.turn ≤ 61) (hs : ∀ f ∈ q.files, f.times ≤ 61) {a b : ByteArray} (h0 : (swappedQ q a b).2 = 0) :
    ∃ f g h k, getAt q.files a = some f ∧ getAt q.files b = some g ∧ getAt (swappedQ q a b).1.files a = some h ∧ getAt (swappedQ q a b).1.files b = some k ∧ h.text = g.text ∧ k.text = f.text ∧ (swappedQ q a b).1.files.length = q.files.length ∧
      (swappedQ (swappedQ q a b).1 a b).2 = 0 ∧ (swappedQ (swappedQ q a b).1 a b).1.files.length = q.files.length ∧
      ∀ i (h1 : i < q.files.length) (h2 : i < (swappedQ (swappedQ q a b).1 a b).1.files.length), (swappedQ (swappedQ q a b).1 a b).1.files[i].name = q.files[i].name ∧ (swappedQ (swappedQ q a b).1 a b).1.files[i].text = q.files[i].text := by
  obtain ⟨x, y, hx, hy, h9, hc⟩ := swapped_ok h0
  have hxm := h.fine.mem hx
  have hym := h.fine.mem hy
  have hxt := hs x hxm.1
  have hyt := hs y hym.1
  rcases hc with ⟨hab, e⟩ | ⟨hab, e⟩
  · have hb : a = b := same_bytes (by simpa using hab)
    subst hb
    rw [hx] at hy
    obtain rfl : x = y := by simpa using hy
    rw [e]
    have e2 : swappedQ ⟨q.files, q.turn + 1⟩ a a = (⟨q.files, q.turn + 1 + 1⟩, 0) := by
      unfold swappedQ
      rw [show (⟨q.files, q.turn + 1⟩ : Quilt).files = q.files from rfl, hx]
      simp only
      rw [if_neg h9, if_pos hab, next_to (by show q.turn + 1 < 9999; omega)]
    rw [e2]
    exact ⟨x, x, x, x, hx, hx, hx, hx, rfl, rfl, rfl, rfl, rfl, fun i h1 h2 => ⟨rfl, rfl⟩⟩
  · have hne : a.toList ≠ b.toList := by intro e; rw [e] at hab; simp at hab
    have hxa : (x.name.toList == a.toList) = true := by rw [hxm.2]; simp
    have hya : (y.name.toList == a.toList) = false := by
      rw [hym.2]
      cases e : (b.toList == a.toList)
      · rfl
      · have e' : b.toList = a.toList := by simpa using e
        exact absurd e'.symm hne
    have hyb : (y.name.toList == b.toList) = true := by rw [hym.2]; simp
    have sx : swapF a b x y x = ⟨x.name, y.text, x.times + 1⟩ := by unfold swapF; rw [if_pos hxa]
    have sy : swapF a b x y y = ⟨y.name, x.text, y.times + 1⟩ := by unfold swapF; rw [if_neg (by simp [hya]), if_pos hyb]
    rw [e]
    have g1 : getAt (q.files.map (swapF a b x y)) a = some ⟨x.name, y.text, x.times + 1⟩ := by rw [get_swap, hx, ← sx]; rfl
    have g2 : getAt (q.files.map (swapF a b x y)) b = some ⟨y.name, x.text, y.times + 1⟩ := by rw [get_swap, hy, ← sy]; rfl
    have e2 : swappedQ ⟨q.files.map (swapF a b x y), q.turn + 1⟩ a b = (⟨(q.files.map (swapF a b x y)).map (swapF a b ⟨x.name, y.text, x.times + 1⟩ ⟨y.name, x.text, y.times + 1⟩), q.turn + 1 + 1⟩, 0) := by
      unfold swappedQ
      rw [show (⟨q.files.map (swapF a b x y), q.turn + 1⟩ : Quilt).files = q.files.map (swapF a b x y) from rfl, g1, g2]
      simp only
      rw [if_neg (by omega), if_neg (by simp [hab]), next_to (by show q.turn + 1 < 9999; omega)]
    rw [e2]
    refine ⟨x, y, _, _, hx, hy, g1, g2, rfl, rfl, by simp, rfl, by simp, fun i h1 h2 => ?_⟩
    simp only [List.getElem_map]
    refine ⟨by rw [swapF_name, swapF_name], ?_⟩
    obtain ⟨f, hf⟩ : ∃ f, f = q.files[i] := ⟨_, rfl⟩
    have hfm : f ∈ q.files := by rw [hf]; exact List.getElem_mem h1
    rw [← hf]
    have hnm := swapF_name a b x y f
    by_cases ha : (f.name.toList == a.toList) = true
    · have hfx : f = x := name_inj h.fine.rises hfm hxm.1 (by rw [hxm.2]; simpa using ha)
      subst hfx
      rw [sx]
      unfold swapF
      rw [if_pos (by exact ha)]
    · by_cases hb : (f.name.toList == b.toList) = true
      · have hfy : f = y := name_inj h.fine.rises hfm hym.1 (by rw [hym.2]; simpa using hb)
        subst hfy
        rw [sy]
        unfold swapF
        rw [if_neg (by exact ha), if_pos (by exact hb)]
      · have s0 : swapF a b x y f = f := by unfold swapF; rw [if_neg ha, if_neg hb]
        rw [s0]
        unfold swapF
        rw [if_neg ha, if_neg hb]
theorem swap_again {q : Quilt} (h : Good q) (ht : q.turn ≤ 61) (hs : ∀ f ∈ q.files, f.times ≤ 61) {a b : ByteArray} (h0 : (swappedQ q a b).2 = 0) :
    ∃ (f g h k : File) (x y : Quilt), (swappedQ q a b).1 = x ∧ getAt q.files a = some f ∧ getAt q.files b = some g ∧ getAt x.files a = some h ∧ getAt x.files b = some k ∧ h.text = g.text ∧ k.text = f.text ∧ x.files.length = q.files.length ∧
      swappedQ x a b = (y, 0) ∧ y.files.length = q.files.length ∧ ∀ i (h1 : i < q.files.length) (h2 : i < y.files.length), y.files[i].name = q.files[i].name ∧ y.files[i].text = q.files[i].text := by
  obtain ⟨f, g, h, k, h1, h2, h3, h4, h5, h6, h7, h8, h9, h10⟩ := swap_twice h ht hs h0
  exact ⟨f, g, h, k, _, _, rfl, h1, h2, h3, h4, h5, h6, h7, Prod.ext rfl h8, h9, h10⟩
end Go.Proofs.Ytggpodlecljcbab
