/- Plain: what differs, either way round; and when nothing does. -/
import Derived.Test.YtggpodlecljcbacSpecDf
import Derived.Test.YtggpodlecljcbacSpecDp
namespace Go.Proofs.Ytggpodlecljcbac
set_option linter.unusedSimpArgs false
set_option linter.unusedVariables false
theorem up_ext {l m : List ByteArray} (hl : UpL l) (hm : UpL m) (h : ∀ x, x ∈ l ↔ x ∈ m) : l = m := by
  have hp : l.Perm m := (List.perm_ext_iff_of_nodup (up_nodup hl) (up_nodup hm)).2 h
  refine List.Perm.eq_of_pairwise (le := fun a b => bLt a b = true) (fun x y _ _ h1 h2 => ?_) hl hm hp
  rw [bLt_asymm h1] at h2
  cases h2
theorem merge_comm {a b : List File} (ha : Rises a) (hb : Rises b) : mergeD a b = mergeD b a := by
  refine up_ext (up_mergeD a b ha hb) (up_mergeD b a hb ha) fun x => ?_
  rw [mem_mergeD a b ha hb, mem_mergeD b a hb ha]
  exact ⟨fun h e => h e.symm, fun h e => h e.symm⟩
theorem get_ext {a b : List File} (ha : Rises a) (hb : Rises b) (h : ∀ x, getAt a x = getAt b x) : a = b := by
  refine rises_ext ha hb fun g => ?_
  constructor
  · intro hg
    have h1 := get_self ha hg
    rw [h] at h1
    exact (get_at2 hb h1).1
  · intro hg
    have h1 := get_self hb hg
    rw [← h] at h1
    exact (get_at2 ha h1).1
theorem merge_none {a b : List File} (ha : Rises a) (hb : Rises b) : mergeD a b = [] ↔ a = b := by
  constructor
  · intro h
    refine get_ext ha hb fun x => ?_
    refine Classical.byContradiction fun hn => ?_
    have := (mem_mergeD a b ha hb x).2 hn
    rw [h] at this
    cases this
  · rintro rfl
    refine List.eq_nil_iff_forall_not_mem.2 fun x hx => ?_
    exact (mem_mergeD a a ha hb x).1 hx rfl
theorem up_at {l : List ByteArray} (h : UpL l) (m : Nat) (hm : m + 1 < l.length) : bLe l[m + 1] (l[m]'(by omega)) = false :=
  not_le_of_lt (List.pairwise_iff_getElem.mp h m (m + 1) (by omega) hm (by omega))
def tdA : File := ⟨⟨#[97]⟩, ⟨#[]⟩, 1⟩
theorem tdA_rises : Rises [tdA] := List.pairwise_singleton _ _
theorem td_none : mergeD [tdA] [tdA] = [] := (merge_none tdA_rises tdA_rises).2 rfl
theorem td_one : mergeD [tdA] [] = [⟨#[97]⟩] := by rw [mergeD]; rfl
def fineQ (q : Quilt) : Bool := lightFiles q.files && decide (quiltFault q = 0)
end Go.Proofs.Ytggpodlecljcbac
