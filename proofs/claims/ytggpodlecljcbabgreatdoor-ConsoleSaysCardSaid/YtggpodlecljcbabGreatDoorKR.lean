/- The walks of the acts: are they light; what is done. -/
import Derived.Test.YtggpodlecljcbabGreatDoorKBb
import Derived.Test.YtggpodlecljcbabGreatDoorKB
import Derived.Test.YtggpodlecljcbabGreatDoorKQ
import Derived.Test.YtggpodlecljcbabGreatDoorKSQ
namespace Go.Proofs.YtggpodlecljcbabGreatDoor
set_option linter.unusedSimpArgs false
set_option linter.unusedVariables false
set_option maxRecDepth 100000
set_option maxHeartbeats 64000000
open Lib (hid)
open Go.RowKit Go.Sort
def Change.ok (c:Change):Prop:=c.key.size≤maxLen∧c.val.size≤maxLen
structure Act where
 kind:ByteArray
 s:ByteArray
 t:ByteArray
 n:Int
 k:Int
 changes:List Change
open Go.RowKit Go.Sort
theorem uM5 {q:Quilt}(h:zF1 q.files≠0):zB2 q=zF1 q.files:=by unfold zB2;rw [if_pos h]
theorem uA3 {q:Quilt}(h:zF1 q.files=0)(ht:q.turn<1∨9999<q.turn):zB2 q=1:=by unfold zB2;rw [if_neg (by simp [h]),if_pos ht]
theorem qf_good {q:Quilt}(h:zF1 q.files=0)(ht:¬(q.turn<1∨9999<q.turn)):zB2 q=0:=by unfold zB2;rw [if_neg (by simp [h]),if_neg ht]
theorem qbox1 (w:World)(v:Value)(t:Int):∀W,Below (w.alloc (.cells #[v, .int .i64 t] 32)).heap.size (w.alloc (.cells #[v, .int .i64 t] 32)) W→W.cell? ⟨w.heap.size,0,none⟩=some v∧W.cell? ⟨w.heap.size,1,none⟩=some (.int .i64 t):=by
 intro W hb
 obtain ⟨hc,_⟩:=zN2 hb
 exact ⟨(hc _ _ (by simp)).trans (by simp),(hc _ _ (by simp)).trans (by simp)⟩

theorem vD4 (qv:Value)(q:Quilt)(w:World)(hq:Quilts w qv q)(hok:∀f∈q.files,f.ok):
 Calls Tryz.prog 103 #[qv] w fun e w' =>e= .returned (zE6 (zB2 q))∧Below w.heap.size w w' :=by
 obtain ⟨v,rfl,hf⟩:=hq
 have C:=fun W hb=>vC7 v q.files W (hf.below hb) hok
 have BX:=hid (qbox1 w v q.turn)
 have HB1:=hid (zA0 w (.cells #[v, .int .i64 q.turn] 32))
 by_cases h0:zF1 q.files=0
 · rw [h0,zD2] at C
   replace C:=hid C
   by_cases h1:q.turn<1
   · have HD:=hid (uA3 h0 (Or.inl h1))
     clear h0 hf
     go_enter Tryz.func103, Tryz.ntmps103
     go_wp2_with fail
     refine (C.out _ HB1.out).mono ?_
     rintro e w2 ⟨rfl,hb2⟩
     obtain ⟨z0,z1⟩:=BX.out _ hb2
     have HB2:=hid (two HB1.out hb2)
     clear hb2
     go_wp2_with fail
     go_ret
     exact ⟨by rw [HD.out];rfl,HB2.out⟩
   · by_cases h2:9999<q.turn
     · have HD:=hid (uA3 h0 (Or.inr h2))
       clear h0 hf
       go_enter Tryz.func103, Tryz.ntmps103
       go_wp2_with fail
       refine (C.out _ HB1.out).mono ?_
       rintro e w2 ⟨rfl,hb2⟩
       obtain ⟨z0,z1⟩:=BX.out _ hb2
       have HB2:=hid (two HB1.out hb2)
       clear hb2
       go_wp2_with fail
       go_ret
       exact ⟨by rw [HD.out];rfl,HB2.out⟩
     · have HD:=hid (qf_good h0 (by omega))
       clear h0 hf
       go_enter Tryz.func103, Tryz.ntmps103
       go_wp2_with fail
       refine (C.out _ HB1.out).mono ?_
       rintro e w2 ⟨rfl,hb2⟩
       obtain ⟨z0,z1⟩:=BX.out _ hb2
       have HB2:=hid (two HB1.out hb2)
       clear hb2
       go_wp2_with fail
       go_ret
       exact ⟨by rw [HD.out];rfl,HB2.out⟩
 · have HD:=hid (uM5 h0)
   have HN:=hid h0
   rw [zA5 h0] at C
   replace C:=hid C
   clear h0 hf
   go_enter Tryz.func103, Tryz.ntmps103
   go_wp2_with fail
   refine (C.out _ HB1.out).mono ?_
   rintro e w2 ⟨rfl,hb2⟩
   have HB2:=hid (two HB1.out hb2)
   clear hb2
   go_wp2_with fail
   go_ret
   exact ⟨by rw [HD.out,zA5 HN.out];rfl,HB2.out⟩

def yN0 (q:Quilt)(a:Act):Quilt × Nat:=
 if (a.kind.toList== [119,114,105,116,101])=true then zE5 q a.s a.t else if (a.kind.toList== [100,114,111,112])=true then zF5 q a.s else if (a.kind.toList== [110,97,109,101])=true then zC3 q a.s a.t else if (a.kind.toList== [115,119,97,112])=true then zC0 q a.s a.t else (q,0)
theorem uG8 {q:Quilt}(h:Good q)(a:Act)(h0:(yN0 q a).2=0):Good (yN0 q a).1:=by
 unfold yN0 at h0 ⊢
 split
 · rename_i hh;rw [if_pos hh] at h0;exact (yU9 h _ _ h0).1
 · rename_i hh
   rw [if_neg hh] at h0
   split
   · rename_i hh;rw [if_pos hh] at h0;exact (yW6 h _ h0).1
   · rename_i hh
     rw [if_neg hh] at h0
     split
     · rename_i hh;rw [if_pos hh] at h0;exact (yV4 h _ _ h0).1
     · rename_i hh
       rw [if_neg hh] at h0
       split
       · rename_i hh;rw [if_pos hh] at h0;exact (yV0 h _ _ h0).1
       · exact h
open Go.RowKit Go.Sort
theorem uF5 {l:List File}(h:Rises l)(n:ByteArray)(g:File):zC6 l n=some g↔g∈l∧g.name.toList=n.toList:=by
 constructor
 · intro hg
   unfold zC6 at hg
   exact ⟨List.mem_of_find?_eq_some hg,by simpa using List.find?_some hg⟩
 · rintro ⟨hm,he⟩
   cases hg:zC6 l n with
   | none=>
    unfold zC6 at hg
    rw [List.find?_eq_none] at hg
    exact absurd (by simpa using he) (hg g hm)
   | some g' =>
    unfold zC6 at hg
    have h1:=List.mem_of_find?_eq_some hg
    have h2:g'.name.toList=n.toList:=by simpa using List.find?_some hg
    rw [yQ1 h h1 hm (by rw [h2,he])]
theorem xW7 (l:List File)(n:ByteArray):zC6 l n=none↔∀g∈l,g.name.toList≠n.toList:=by
 unfold zC6
 rw [List.find?_eq_none]
 simp
theorem uH9 {a b:ByteArray}(h:bLt a b=true):bLt b a=false:=by
 cases e:bLt b a
 · rfl
 · have:=zG2 h e
   rw [zJ6] at this;cases this
theorem put_ok {l:List File}{f:File}(h0:(zM0 l f).2=0):zM0 l f=(zV8 l f,0)∧zA8 f=0∧¬((zC6 l f.name).isSome=false∧8≤l.length):=by
 unfold zM0 at h0 ⊢
 by_cases hf:zA8 f=0
 · rw [if_neg (by simp [hf])] at h0 ⊢
   split
   · rename_i hh;rw [if_pos hh] at h0;cases h0
   · rename_i hh;exact ⟨rfl,hf,hh⟩
 · rw [if_pos hf] at h0;exact absurd h0 hf
theorem xD3 {q:Quilt}{p:List File × Nat}(h0:(zD5 q p).2=0):zD5 q p=(⟨p.1,q.turn+1⟩,0)∧p.2=0∧q.turn<9999:=by
 unfold zD5 at h0 ⊢
 split
 · rename_i hh;rw [if_pos hh] at h0;exact absurd h0 hh
 · rename_i hh
   rw [if_neg hh] at h0
   split
   · rename_i h9;rw [if_pos h9] at h0;cases h0
   · rename_i h9;exact ⟨rfl,by simpa using hh,by omega⟩
end Go.Proofs.YtggpodlecljcbabGreatDoor
