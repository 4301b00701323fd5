/- The walks of chapter 3: is a quilt fine; the next one. The walks of chapter 3: writing, dropping. -/
import Derived.RegionTactic
import Derived.ChangeAlike
import Derived.Deep.RegionHeld3
import Derived.Test.YtggpodlecljcbabGreatDoorKSQ
import Derived.Test.YtggpodlecljcbabGreatDoorKG
namespace Go.Proofs.YtggpodlecljcbabGreatDoor
set_option linter.unusedSimpArgs false
set_option linter.unusedVariables false
set_option maxRecDepth 100000
set_option maxHeartbeats 64000000
open Lib (hid)
open Go.RowKit Go.Sort
def xJ5 (p:Quilt × Nat)(w:World)(e:Ending)(w' :World):Prop:=∃qv,e= .returned (.tuple #[qv, .int .i64 p.2])∧Quilts w' qv p.1∧Below w.heap.size w w'
def NoStr (w:World)(b:Nat):Prop:=∀o s,w.cell? ⟨b,o,none⟩≠some (.string s)
theorem xS9 (w:World)(p a:Addr)(v u:Value)(h:(w.setCell p v).cell? a=some u):(u=v∧p=a)∨w.cell? a=some u:=by
 by_cases e:p=a
 · subst e
   simp only [World.setCell,World.cell?,Array.getElem?_modify,if_true] at h
   cases hb:w.heap[p.block]? with
   | none=>rw [hb] at h;simp at h
   | some o=>
    rw [hb] at h
    cases o <;> simp at h
    obtain ⟨hs,h⟩:=h
    rw [if_neg (by simp [hs])] at h
    rw [Array.getElem?_setIfInBounds] at h
    simp only [if_true] at h
    split at h
    · left;exact ⟨by simpa using h.symm,rfl⟩
    · cases h
 · rw [World.cell?_setCell_other w p a v e] at h
   exact Or.inr h
theorem NoStr.set {w:World}{b:Nat}(h:NoStr w b)(o:Nat)(v:Value)(hv:∀s,v≠ .string s):NoStr (w.setCell ⟨b,o,none⟩ v) b:=by
 intro o' s h2
 rcases xS9 w _ _ v _ h2 with ⟨e,_⟩ | h2
 · exact hv s e.symm
 · exact h o' s h2
theorem yC0 {w:World}{v:Value}{l:List File}{b:Nat}(h:Files w v l)(hb:NoStr w b)(o:Nat)(x:Value):Files (w.setCell ⟨b,o,none⟩ x) v l:=by
 obtain ⟨h1,ao,cap,h2,h3,h4,h5,h6⟩:=h
 refine ⟨h1,ao,cap,h2,h3,h4,h5,fun j u hj=>?_⟩
 obtain ⟨b',off,e,hc⟩:=h6 j u hj
 refine ⟨b',off,e,?_⟩
 have hne:b≠b' :=by
  rintro rfl
  cases l with
  | nil=>simp at hj
  | cons f r=>
   obtain ⟨b2,off2,e2,hc2⟩:=h6 0 (.string f.name) rfl
   rw [e] at e2
   cases e2
   exact hb _ _ hc2
 rw [World.cell?_setCell_other _ _ _ _ (by intro h;cases h;exact hne rfl)]
 exact hc
def QBox (b:Nat)(v:Value)(t:Int)(w0:World):Prop:=∀W,Below w0.heap.size w0 W→W.cell? ⟨b,0,none⟩=some v∧W.cell? ⟨b,1,none⟩=some (.int .i64 t)∧W.cell? ⟨b+1,0,none⟩=some (.slice none 0 0)∧W.cell? ⟨b+1,1,none⟩=some (.int .i64 0)∧W.frozen? ⟨b+1,0,none⟩=false∧W.frozen? ⟨b+1,1,none⟩=false∧NoStr W (b+1)
def qw (w:World)(v:Value)(t:Int):World:=(w.alloc (.cells #[v, .int .i64 t] 32)).alloc (.cells #[.slice none 0 0, .int .i64 0] 32)
theorem qw_size (w:World)(v:Value)(t:Int):(qw w v t).heap.size=w.heap.size+2:=by unfold qw;simp
theorem zS2 (w:World)(v:Value)(t:Int):Below w.heap.size w (qw w v t):=two (zA0 w _) (zA0 _ _)
theorem yK8 (w:World)(v:Value)(t:Int):QBox w.heap.size v t (qw w v t):=by
 intro W hb
 obtain ⟨hc,hf⟩:=zN2 hb
 have hs:=qw_size w v t
 have k0:(qw w v t).cell? ⟨w.heap.size,0,none⟩=some v:=by unfold qw;simp
 have k1:(qw w v t).cell? ⟨w.heap.size,1,none⟩=some (.int .i64 t):=by unfold qw;simp
 have k2:(qw w v t).cell? ⟨w.heap.size+1,0,none⟩=some (.slice none 0 0):=by unfold qw;simp
 have k3:(qw w v t).cell? ⟨w.heap.size+1,1,none⟩=some (.int .i64 0):=by unfold qw;simp
 have k4:(qw w v t).frozen? ⟨w.heap.size+1,0,none⟩=false:=by unfold qw;simp
 have k5:(qw w v t).frozen? ⟨w.heap.size+1,1,none⟩=false:=by unfold qw;simp
 refine ⟨(hc _ _ (by omega)).trans k0,(hc _ _ (by omega)).trans k1,(hc _ _ (by omega)).trans k2,(hc _ _ (by omega)).trans k3,(hf _ _ (by omega)).trans k4,(hf _ _ (by omega)).trans k5,?_⟩
 intro o s h
 rw [hc _ _ (by omega)] at h
 match o with
 | 0=>rw [k2] at h;cases h
 | 1=>rw [k3] at h;cases h
 | o+2=>
  have h2:(qw w v t).heap[w.heap.size+1]?=some (.cells #[.slice none 0 0, .int .i64 0] 32):=by
   unfold qw
   have:=xP7 (w.alloc (.cells #[v, .int .i64 t] 32)) (.cells #[.slice none 0 0, .int .i64 0] 32)
   simpa using this
  simp only [World.cell?,h2] at h
  simp at h
theorem QBox.now {b:Nat}{v:Value}{t:Int}{w0:World}(h:QBox b v t w0):w0.cell? ⟨b,0,none⟩=some v∧w0.cell? ⟨b,1,none⟩=some (.int .i64 t)∧w0.cell? ⟨b+1,0,none⟩=some (.slice none 0 0)∧w0.cell? ⟨b+1,1,none⟩=some (.int .i64 0)∧w0.frozen? ⟨b+1,0,none⟩=false∧w0.frozen? ⟨b+1,1,none⟩=false∧NoStr w0 (b+1):=h w0 (Below.refl _ _)
theorem yB2 {W:World}{b:Nat}{v:Value}{q:Quilt}(hv:Files W v q.files)(hb:NoStr W b)(hns:∀s,v≠ .string s):Quilts ((W.setCell ⟨b,0,none⟩ v).setCell ⟨b,1,none⟩ (.int .i64 q.turn)) (.agg #[v, .int .i64 q.turn]) q:=
 ⟨v,rfl,yC0 (yC0 hv hb 0 v) (hb.set 0 v hns) 1 _⟩
theorem zD9 {W:World}{v:Value}{l:List File}(hv:Files W v l):∀s,v≠ .string s:=by
 obtain ⟨ao,ca,rfl,_,_⟩:=hv.parts
 intro s h;cases h

theorem uA2 (w:World):Calls Tryz.prog 51 #[] w fun e w' =>∃qv,e= .returned qv∧Quilts w' qv ⟨[],1⟩∧Below w.heap.size w w' :=by
 go_enter Tryz.func51, Tryz.ntmps51
 go_wp2_with fail
 refine bodyPost_ret (v:= .agg #[.slice none 0 0, .int .i64 1]) (by simp [results, Tryz.results51,go_sem]) rfl ?_
 exact ⟨_,rfl,⟨_,rfl,Rd.nil _⟩,zA0 w _⟩

theorem yO8 (qv:Value)(q:Quilt)(lv:Value)(l:List File)(n:Nat)(w:World)(hq:Quilts w qv q)(hl:Files w lv l)(h1:1≤q.turn)(h2:q.turn≤9999):
 Calls Tryz.prog 62 #[qv,lv, .int .i64 n] w (xJ5 (zD5 q (l,n)) w):=by
 obtain ⟨v,rfl,hf⟩:=hq
 obtain ⟨W2,hW2⟩:∃W2,W2=qw w v q.turn:=⟨_,rfl⟩
 have BX:=yK8 w v q.turn
 have HB2:=hid (zS2 w v q.turn)
 rw [←hW2] at BX HB2
 obtain ⟨z0,z1,z2,z3,z4,z5,hns⟩:=BX.now
 have HNS:=hid hns
 unfold qw at hW2
 have HW2:=hid hW2
 obtain ⟨lao,lca,rfl,_,_⟩:=hl.parts
 have HL:=hid hl
 clear hf BX hns hW2 hl
 by_cases hn:n=0
 · subst hn
   have hcast:((0:Nat):Int)=0:=rfl
   by_cases h9:9999≤q.turn
   · have HD:Hid (zD5 q (l,0)=(zD6,7)):=hid (by unfold zD5;rw [if_neg (by simp),if_pos h9])
     go_enter Tryz.func62, Tryz.ntmps62
     go_wp2_with fail
     rw [←HW2.out]
     refine bodyPost_ret (v:= .tuple #[.agg #[.slice none 0 0, .int .i64 0], .int .i64 7]) (by simp [results, Tryz.results62,go_sem,z0,z1,z2,z3,z4,z5]) rfl ?_
     exact ⟨_,by rw [HD.out];try rfl,by rw [HD.out];exact ⟨_,rfl,Rd.nil _⟩,HB2.out⟩
   · have HD:Hid (zD5 q (l,0)=(⟨l,q.turn+1⟩,0)):=hid (by unfold zD5;rw [if_neg (by simp),if_neg h9])
     have h9' :q.turn<9999:=by omega
     go_enter Tryz.func62, Tryz.ntmps62
     go_wp2_with fail
     have HBF:=two (zA0 w (.cells #[v, .int .i64 q.turn] 32)) (zA0 _ (.cells #[.slice lao l.length lca, .int .i64 (q.turn+1)] 32))
     refine bodyPost_ret (v:= .tuple #[.agg #[.slice lao l.length lca, .int .i64 (q.turn+1)], .int .i64 0]) (by simp [results, Tryz.results62,go_sem,z0,z1,z2,z3,z4,z5]) rfl ?_
     exact ⟨_,by rw [HD.out];try rfl,by rw [HD.out];exact ⟨_,rfl,HL.out.below HBF⟩,HBF⟩
 · have HD:Hid (zD5 q (l,n)=(zD6,n)):=hid (by unfold zD5;rw [if_pos (by simpa using hn)])
   have HN:=hid hn
   have hpos:(0:Int)<(n:Int):=by omega
   clear hn
   go_enter Tryz.func62, Tryz.ntmps62
   go_wp2_with fail
   rw [←HW2.out]
   refine bodyPost_ret (v:= .tuple #[.agg #[.slice none 0 0, .int .i64 0], .int .i64 n]) (by simp [results, Tryz.results62,go_sem,z0,z1,z2,z3,z4,z5]) rfl ?_
   exact ⟨_,by rw [HD.out];try rfl,by rw [HD.out];exact ⟨_,rfl,Rd.nil _⟩,HB2.out⟩
open Go.RowKit Go.Sort
theorem xB1 {q:Quilt}(h:Good q)(name:ByteArray):0≤zZ4 q name∧zZ4 q name≤9999:=by
 unfold zZ4
 cases hg:zC6 q.files name with
 | none=>exact ⟨by decide,by decide⟩
 | some f=>
  have:=zK0 (h.fine.each f (h.fine.mem hg).1)
  exact ⟨by simp only [Option.getD_some];omega,by simp only [Option.getD_some];omega⟩

theorem xC4 (qv:Value)(q:Quilt)(name text:ByteArray)(w:World)(hq:Quilts w qv q)(hg:Good q)(hn:name.size≤maxLen)(ht:text.size≤maxLen):
 Calls Tryz.prog 31 #[qv, .string name, .string text] w (xJ5 (zE5 q name text) w):=by
 obtain ⟨v,rfl,hf⟩:=hq
 obtain ⟨W2,hW2⟩:∃W2,W2=qw w v q.turn:=⟨_,rfl⟩
 have BX:=yK8 w v q.turn
 have HB2:=hid (zS2 w v q.turn)
 rw [←hW2] at BX HB2
 have HBX:=hid BX
 have HF:=hid hf
 obtain ⟨ao,ca,rfl,hca,hca'⟩:=hf.parts
 unfold qw at hW2
 have HW2:=hid hW2
 have HG:=hid hg
 have CG:=fun W hb=>zL5 _ q.files name W (hf.below hb)
 have CP:=fun W hb=>xC5 _ q.files ⟨name,text,zZ4 q name+1⟩ W (hf.below hb) ⟨hn,ht⟩ hg.fine.len
 obtain ⟨p,hp⟩:∃p,p=zM0 q.files ⟨name,text,zZ4 q name+1⟩:=⟨_,rfl⟩
 have HD:Hid (zE5 q name text=zD5 q p):=hid (by rw [hp];rfl)
 rw [←hp] at CP
 have CN:=hid fun W lv (hb:Below w.heap.size w W) h=>yO8 (.agg #[.slice ao q.files.length ca, .int .i64 q.turn]) q lv p.1 p.2 W ⟨_,rfl,HF.out.below hb⟩ h HG.out.lo HG.out.hi
 have ht1:=xB1 HG.out name
 obtain ⟨g,hgg⟩:∃g,g=zT2 (zC6 q.files name):=⟨_,rfl⟩
 have htt:zZ4 q name=g.times:=by rw [hgg];rfl
 unfold zO5 File.val at CG
 rw [←hgg] at CG
 obtain ⟨b,hbb⟩:∃b,b=(zC6 q.files name).isSome:=⟨_,rfl⟩
 rw [←hbb] at CG
 unfold yS2 File.val at CP
 rw [htt] at CP ht1
 unfold xJ5 at CN
 obtain ⟨hg0,hg1⟩:=ht1
 have hg1' :g.times+1≤10000:=by omega
 replace CG:=hid CG
 replace CP:=hid CP
 clear hp hbb htt hgg
 clear BX hW2 hf hg
 go_enter Tryz.func31, Tryz.ntmps31
 go_wp2_with fail
 rw [←HW2.out]
 refine (CG.out _ HB2.out).mono ?_
 rintro e w3 ⟨rfl,hb3⟩
 have BF:=hid (zF0 w3 g)
 have HB3:=hid (two hb3 (zA0 w3 (.cells #[.string g.name, .string g.text, .int .i64 g.times] 102)))
 obtain ⟨z0,z1,z2,z3,z4,z5,hns⟩:=HBX.out _ HB3.out
 clear hb3 hns
 go_wp2_with fail
 refine (CP.out _ (two HB2.out HB3.out)).mono ?_
 rintro e w4 ⟨lv,rfl,hl,hb4⟩
 have HL:=hid hl
 have HB4:=hid (two HB3.out hb4)
 clear hl hb4 z0 z1 z2 z3 z4 z5
 obtain ⟨z0,z1,z2,z3,z4,z5,hns⟩:=HBX.out _ HB4.out
 clear hns
 go_wp2_with fail
 refine (CN.out _ _ (two HB2.out HB4.out) HL.out).mono ?_
 rintro e w5 ⟨qv',rfl,⟨v',rfl,hf'⟩,hb5⟩
 obtain ⟨ao',ca',rfl,_,_⟩:=hf'.parts
 have HF' :=hid hf'
 have HB5:=hid (two HB4.out hb5)
 clear hf' hb5 z0 z1 z2 z3 z4 z5
 obtain ⟨z0,z1,z2,z3,z4,z5,hns⟩:=HBX.out _ HB5.out
 have HNS:=hid hns
 clear hns
 go_wp2_with fail
 have HBF:=((two HB2.out HB5.out).setCell (p:=⟨w.heap.size+1,0,none⟩) (by simp) (.slice ao' (zD5 q p).1.files.length ca')).setCell (p:=⟨w.heap.size+1,1,none⟩) (by simp) (.int .i64 (zD5 q p).1.turn)
 refine bodyPost_ret (v:= .tuple #[.agg #[.slice ao' (zD5 q p).1.files.length ca', .int .i64 (zD5 q p).1.turn], .int .i64 (zD5 q p).2]) (by simp [results, Tryz.results31,go_sem,z0,z1,z2,z3,z4,z5]) rfl ?_
 exact ⟨_,by rw [HD.out],by rw [HD.out];exact yB2 HF'.out HNS.out (zD9 HF'.out),HBF⟩

theorem vD2 (qv:Value)(q:Quilt)(name:ByteArray)(w:World)(hq:Quilts w qv q)(hg:Good q):
 Calls Tryz.prog 32 #[qv, .string name] w (xJ5 (zF5 q name) w):=by
 obtain ⟨v,rfl,hf⟩:=hq
 obtain ⟨W2,hW2⟩:∃W2,W2=qw w v q.turn:=⟨_,rfl⟩
 have BX:=yK8 w v q.turn
 have HB2:=hid (zS2 w v q.turn)
 rw [←hW2] at BX HB2
 have HBX:=hid BX
 have HF:=hid hf
 obtain ⟨ao,ca,rfl,hca,hca'⟩:=hf.parts
 unfold qw at hW2
 have HW2:=hid hW2
 have HG:=hid hg
 have CP:=fun W hb=>xU2 _ q.files name W (hf.below hb) hg.fine.len
 obtain ⟨p,hp⟩:∃p,p=zK4 q.files name:=⟨_,rfl⟩
 have HD:Hid (zF5 q name=zD5 q p):=hid (by rw [hp];rfl)
 rw [←hp] at CP
 have CN:=hid fun W lv (hb:Below w.heap.size w W) h=>yO8 (.agg #[.slice ao q.files.length ca, .int .i64 q.turn]) q lv p.1 p.2 W ⟨_,rfl,HF.out.below hb⟩ h HG.out.lo HG.out.hi
 unfold yS2 at CP
 unfold xJ5 at CN
 replace CP:=hid CP
 clear hp
 clear BX hW2 hf hg
 go_enter Tryz.func32, Tryz.ntmps32
 go_wp2_with fail
 rw [←HW2.out]
 refine (CP.out _ HB2.out).mono ?_
 rintro e w4 ⟨lv,rfl,hl,hb4⟩
 have HL:=hid hl
 have HB4:=hid hb4
 clear hl hb4
 obtain ⟨z0,z1,z2,z3,z4,z5,hns⟩:=HBX.out _ HB4.out
 clear hns
 go_wp2_with fail
 refine (CN.out _ _ (two HB2.out HB4.out) HL.out).mono ?_
 rintro e w5 ⟨qv',rfl,⟨v',rfl,hf'⟩,hb5⟩
 obtain ⟨ao',ca',rfl,_,_⟩:=hf'.parts
 have HF' :=hid hf'
 have HB5:=hid (two HB4.out hb5)
 clear hf' hb5 z0 z1 z2 z3 z4 z5
 obtain ⟨z0,z1,z2,z3,z4,z5,hns⟩:=HBX.out _ HB5.out
 have HNS:=hid hns
 clear hns
 go_wp2_with fail
 have HBF:=((two HB2.out HB5.out).setCell (p:=⟨w.heap.size+1,0,none⟩) (by simp) (.slice ao' (zD5 q p).1.files.length ca')).setCell (p:=⟨w.heap.size+1,1,none⟩) (by simp) (.int .i64 (zD5 q p).1.turn)
 refine bodyPost_ret (v:= .tuple #[.agg #[.slice ao' (zD5 q p).1.files.length ca', .int .i64 (zD5 q p).1.turn], .int .i64 (zD5 q p).2]) (by simp [results, Tryz.results32,go_sem,z0,z1,z2,z3,z4,z5]) rfl ?_
 exact ⟨_,by rw [HD.out],by rw [HD.out];exact yB2 HF'.out HNS.out (zD9 HF'.out),HBF⟩

open Go.RowKit Go.Sort
theorem zJ4 (w:World)(f:File):∀W,Below (w.alloc (.cells #[.string f.name, .string f.text, .int .i64 f.times] 102)).heap.size (w.alloc (.cells #[.string f.name, .string f.text, .int .i64 f.times] 102)) W→∀j,W.frozen? ⟨w.heap.size,j,none⟩=false:=by
 intro W hb j
 obtain ⟨_,hf⟩:=zN2 hb
 rw [hf _ _ (by simp)]
 simp
theorem zW5 {w:World}{v:Value}{l:List File}{B b:Nat}(h:Files w v l)(hf:Fresh B v)(hb:b<B)(o:Nat)(x:Value):Files (w.setCell ⟨b,o,none⟩ x) v l:=by
 obtain ⟨h1,ao,cap,rfl,h3,h4,h5,h6⟩:=h
 refine ⟨h1,ao,cap,rfl,h3,h4,h5,fun j u hj=>?_⟩
 obtain ⟨b',off,e,hc⟩:=h6 j u hj
 refine ⟨b',off,e,?_⟩
 have:=hf b' (by rw [e];rfl)
 rw [World.cell?_setCell_other _ _ _ _ (by intro h;cases h;omega)]
 exact hc

theorem vD1 (qv:Value)(q:Quilt)(name tn:ByteArray)(w:World)(hq:Quilts w qv q)(hg:Good q)(hto:tn.size≤maxLen):
 Calls Tryz.prog 33 #[qv, .string name, .string tn] w (xJ5 (zC3 q name tn) w):=by
 obtain ⟨v,rfl,hf⟩:=hq
 obtain ⟨W2,hW2⟩:∃W2,W2=qw w v q.turn:=⟨_,rfl⟩
 have BX:=yK8 w v q.turn
 have HB2:=hid (zS2 w v q.turn)
 rw [←hW2] at BX HB2
 have HBX:=hid BX
 have HF:=hid hf
 obtain ⟨ao,ca,rfl,hca,hca'⟩:=hf.parts
 unfold qw at hW2
 have HW2:=hid hW2
 have HG:=hid hg
 have HSZ:Hid (W2.heap.size=w.heap.size+2):=hid (by rw [HW2.out];simp)
 have CG:=fun W hb=>zL5 _ q.files name W (hf.below hb)
 have CH:=fun W hb=>zL5 _ q.files tn W (hf.below hb)
 have CF:=fun W=>yP0 tn W hto
 unfold zO5 zT2 File.val at CG CH
 cases hgn:zC6 q.files name with
 | none=>
  have HD:Hid (zC3 q name tn=(zD6,5)):=hid (by unfold zC3;rw [hgn])
  rw [hgn] at CG
  simp only [Option.getD_none,Option.isSome_none] at CG
  replace CG:=hid CG
  clear BX hW2 hf hg CH CF
  go_enter Tryz.func33, Tryz.ntmps33
  go_wp2_with fail
  rw [←HW2.out]
  refine (CG.out _ HB2.out).mono ?_
  rintro e w3 ⟨rfl,hb3⟩
  have HB3:=hid (two hb3 (zA0 w3 (.cells #[.string yB6.name, .string yB6.text, .int .i64 yB6.times] 102)))
  obtain ⟨z0,z1,z2,z3,z4,z5,hns⟩:=HBX.out _ HB3.out
  clear hb3 hns
  go_wp2_with fail
  refine bodyPost_ret (v:= .tuple #[.agg #[.slice none 0 0, .int .i64 0], .int .i64 5]) (by simp [zE6,results, Tryz.results33,go_sem,z0,z1,z2,z3,z4,z5]) rfl ?_
  exact ⟨_,by rw [HD.out];try rfl,by rw [HD.out];exact ⟨_,rfl,Rd.nil _⟩,((two HB2.out HB3.out).setCell (p:=⟨w.heap.size+1,0,none⟩) (by simp) (.slice none 0 0)).setCell (p:=⟨w.heap.size+1,1,none⟩) (by simp) (.int .i64 0)⟩
 | some f=>
  obtain ⟨mf,ef⟩:=hg.fine.mem hgn
  have hft:f.text.size≤maxLen:=by
   have:=(zK0 (hg.fine.each f mf)).2.1
   unfold maxLen;omega
  rw [hgn] at CG
  simp only [Option.getD_some,Option.isSome_some] at CG
  replace CG:=hid CG
  by_cases hnf:zB6 tn.data.toList=0
  · rw [hnf] at CF
    replace CF:=hid CF
    cases hgt:zC6 q.files tn with
    | some h=>
     have HD:Hid (zC3 q name tn=(zD6,6)):=hid (by unfold zC3;rw [hgn];dsimp only;rw [if_neg (by simp [hnf]),if_pos (by rw [hgt];rfl)])
     rw [hgt] at CH
     simp only [Option.getD_some,Option.isSome_some] at CH
     replace CH:=hid CH
     clear BX hW2 hf hg hnf hgn hgt ef
     go_enter Tryz.func33, Tryz.ntmps33
     go_wp2_with fail
     rw [←HW2.out]
     refine (CG.out _ HB2.out).mono ?_
     rintro e w3 ⟨rfl,hb3⟩
     have BF:=hid (zF0 w3 f)
     have FZ:=hid (zJ4 w3 f)
     have HS3:=hid hb3.size
     have HB3:=hid (two hb3 (zA0 w3 (.cells #[.string f.name, .string f.text, .int .i64 f.times] 102)))
     obtain ⟨z0,z1,z2,z3,z4,z5,hns⟩:=HBX.out _ HB3.out
     clear hb3 hns
     go_wp2_with fail
     clear z0 z1 z2 z3 z4 z5
     refine (CF.out _).mono ?_
     rintro e w4 ⟨rfl,rfl⟩
     have HB4:=HB3
     obtain ⟨z0,z1,z2,z3,z4,z5,hns⟩:=HBX.out _ HB4.out
     clear hns
     go_wp2_with fail
     refine (CH.out _ (two HB2.out HB4.out)).mono ?_
     rintro e w5 ⟨rfl,hb5⟩
     have HB5:=hid (two HB4.out hb5)
     clear z0 z1 z2 z3 z4 z5
     obtain ⟨z0,z1,z2,z3,z4,z5,hns⟩:=HBX.out _ HB5.out
     clear hb5 hns
     go_wp2_with fail
     refine bodyPost_ret (v:= .tuple #[.agg #[.slice none 0 0, .int .i64 0], .int .i64 6]) (by simp [zE6,results, Tryz.results33,go_sem,z0,z1,z2,z3,z4,z5]) rfl ?_
     exact ⟨_,by rw [HD.out];try rfl,by rw [HD.out];exact ⟨_,rfl,Rd.nil _⟩,((two HB2.out HB5.out).setCell (p:=⟨w.heap.size+1,0,none⟩) (by simp) (.slice none 0 0)).setCell (p:=⟨w.heap.size+1,1,none⟩) (by simp) (.int .i64 0)⟩
    | none=>
     rw [hgt] at CH
     simp only [Option.getD_none,Option.isSome_none] at CH
     replace CH:=hid CH
     obtain ⟨d,hdd⟩:∃d,d=(zK4 q.files name).1:=⟨_,rfl⟩
     have hd0:zK4 q.files name=(d,0):=by
      rw [hdd];unfold zK4;rw [hgn];rfl
     have hd:Fine d:=by rw [hdd];exact yH9 hg.fine name
     obtain ⟨p,hp⟩:∃p,p=zM0 d ⟨tn,f.text,f.times⟩:=⟨_,rfl⟩
     have HD:Hid (zC3 q name tn=zD5 q p):=hid (by unfold zC3;rw [hgn];dsimp only;rw [if_neg (by simp [hnf]),if_neg (by rw [hgt];simp),hp,hdd])
     have CD:=fun W hb=>yK7 _ q.files name W (hf.below hb) hg.fine.len
     have CP:=fun lv W h=>xC5 lv d ⟨tn,f.text,f.times⟩ W h ⟨hto,hft⟩ hd.len
     rw [←hp] at CP
     rw [hd0] at CD
     unfold vA2 at CD
     unfold yS2 File.val at CP
     have hone:True:=trivial
     have CN:=hid fun W lv (hb:Below w.heap.size w W) h=>yO8 (.agg #[.slice ao q.files.length ca, .int .i64 q.turn]) q lv p.1 p.2 W ⟨_,rfl,HF.out.below hb⟩ h HG.out.lo HG.out.hi
     unfold xJ5 at CN
     replace CD:=hid CD
     replace CP:=hid CP
     clear BX hW2 hf hg hnf hgn hgt ef hp hdd hd0 hd
     go_enter Tryz.func33, Tryz.ntmps33
     go_wp2_with fail
     rw [←HW2.out]
     refine (CG.out _ HB2.out).mono ?_
     rintro e w3 ⟨rfl,hb3⟩
     have BF:=hid (zF0 w3 f)
     have FZ:=hid (zJ4 w3 f)
     have HS3:=hid hb3.size
     have HB3:=hid (two hb3 (zA0 w3 (.cells #[.string f.name, .string f.text, .int .i64 f.times] 102)))
     obtain ⟨z0,z1,z2,z3,z4,z5,hns⟩:=HBX.out _ HB3.out
     clear hb3 hns
     go_wp2_with fail
     clear z0 z1 z2 z3 z4 z5
     refine (CF.out _).mono ?_
     rintro e w4 ⟨rfl,rfl⟩
     have HB4:=HB3
     have HC4:=hid (Below.refl (w3.alloc (.cells #[.string f.name, .string f.text, .int .i64 f.times] 102)).heap.size (w3.alloc (.cells #[.string f.name, .string f.text, .int .i64 f.times] 102)))
     obtain ⟨z0,z1,z2,z3,z4,z5,hns⟩:=HBX.out _ HB4.out
     clear hns
     go_wp2_with fail
     refine (CH.out _ (two HB2.out HB4.out)).mono ?_
     rintro e w5 ⟨rfl,hb5⟩
     have HB5:=hid (two HB4.out hb5)
     have HC5:=hid (two HC4.out hb5)
     clear z0 z1 z2 z3 z4 z5
     obtain ⟨z0,z1,z2,z3,z4,z5,hns⟩:=HBX.out _ HB5.out
     clear hb5 hns
     go_wp2_with fail
     refine (CD.out _ (two HB2.out HB5.out)).mono ?_
     rintro e w6 ⟨lv,rfl,hl,hb6,hfr⟩
     have HS5:Hid (w3.heap.size<w5.heap.size):=hid (by have:=HC5.out.size;simp at this;omega)
     have HL6:=hid (zW5 hl hfr HS5.out 0 (.string tn))
     have HB6:=hid (two HB5.out hb6)
     obtain ⟨x0,x1,x2⟩:=BF.out _ (two HC5.out hb6)
     have y0:=FZ.out _ (two HC5.out hb6) 0
     clear z0 z1 z2 z3 z4 z5
     obtain ⟨z0,z1,z2,z3,z4,z5,hns⟩:=HBX.out _ HB6.out
     have HB7:=hid (HB6.out.setCell (p:=⟨w3.heap.size,0,none⟩) HS3.out (.string tn))
     have HNE:Hid (w.heap.size≠w3.heap.size∧w.heap.size+1≠w3.heap.size):=hid (by have:=HS3.out;have:=HSZ.out;constructor <;> omega)
     clear hl hb6 hfr hns z0 z1 z2 z3 z4 z5
     go_wp2_with fail
     refine (CP.out _ _ HL6.out).mono ?_
     rintro e w8 ⟨lv2,rfl,hl,hb8⟩
     have HL:=hid hl
     have HB8:=hid (two HB7.out hb8)
     clear hl hb8 x0 x1 x2 y0
     obtain ⟨z0,z1,z2,z3,z4,z5,hns⟩:=HBX.out _ HB8.out
     clear hns
     go_wp2_with fail
     refine (CN.out _ _ (two HB2.out HB8.out) HL.out).mono ?_
     rintro e w9 ⟨qv',rfl,⟨v',rfl,hf'⟩,hb9⟩
     obtain ⟨ao',ca',rfl,_,_⟩:=hf'.parts
     have HF' :=hid hf'
     have HB9:=hid (two HB8.out hb9)
     clear hf' hb9 z0 z1 z2 z3 z4 z5
     obtain ⟨z0,z1,z2,z3,z4,z5,hns⟩:=HBX.out _ HB9.out
     have HNS:=hid hns
     clear hns
     go_wp2_with fail
     have HBF:=((two HB2.out HB9.out).setCell (p:=⟨w.heap.size+1,0,none⟩) (by simp) (.slice ao' (zD5 q p).1.files.length ca')).setCell (p:=⟨w.heap.size+1,1,none⟩) (by simp) (.int .i64 (zD5 q p).1.turn)
     refine bodyPost_ret (v:= .tuple #[.agg #[.slice ao' (zD5 q p).1.files.length ca', .int .i64 (zD5 q p).1.turn], .int .i64 (zD5 q p).2]) (by simp [results, Tryz.results33,go_sem,z0,z1,z2,z3,z4,z5]) rfl ?_
     exact ⟨_,by rw [HD.out],by rw [HD.out];exact yB2 HF'.out HNS.out (zD9 HF'.out),HBF⟩
  · have HD:Hid (zC3 q name tn=(zD6,zB6 tn.data.toList)):=hid (by unfold zC3;rw [hgn];dsimp only;rw [if_pos hnf])
    have HN:=hid hnf
    have hpos:0<(zB6 tn.data.toList:Int):=by omega
    replace CF:=hid CF
    clear BX hW2 hf hg hnf hgn ef CH
    go_enter Tryz.func33, Tryz.ntmps33
    go_wp2_with fail
    rw [←HW2.out]
    refine (CG.out _ HB2.out).mono ?_
    rintro e w3 ⟨rfl,hb3⟩
    have BF:=hid (zF0 w3 f)
    have FZ:=hid (zJ4 w3 f)
    have HS3:=hid hb3.size
    have HB3:=hid (two hb3 (zA0 w3 (.cells #[.string f.name, .string f.text, .int .i64 f.times] 102)))
    obtain ⟨z0,z1,z2,z3,z4,z5,hns⟩:=HBX.out _ HB3.out
    clear hb3 hns
    go_wp2_with fail
    clear z0 z1 z2 z3 z4 z5
    refine (CF.out _).mono ?_
    rintro e w4 ⟨rfl,rfl⟩
    have HB4:=HB3
    obtain ⟨z0,z1,z2,z3,z4,z5,hns⟩:=HBX.out _ HB4.out
    clear hns
    go_wp2_with fail
    refine bodyPost_ret (v:= .tuple #[.agg #[.slice none 0 0, .int .i64 0], .int .i64 (zB6 tn.data.toList)]) (by simp [zE6,results, Tryz.results33,go_sem,z0,z1,z2,z3,z4,z5]) rfl ?_
    exact ⟨_,by rw [HD.out];try rfl,by rw [HD.out];exact ⟨_,rfl,Rd.nil _⟩,((two HB2.out HB4.out).setCell (p:=⟨w.heap.size+1,0,none⟩) (by simp) (.slice none 0 0)).setCell (p:=⟨w.heap.size+1,1,none⟩) (by simp) (.int .i64 0)⟩

open Go.RowKit Go.Sort
theorem xD0 {w:World}{base e k g n cap:Nat}{xs:List Value}(ho:w.ownsRow base e k (.slice (some ⟨g,0,none⟩) n cap) n xs)(j:Nat)(hj:j<xs.length)(u:Value):(w.setCell ⟨g,j,none⟩ u).ownsRow base e k (.slice (some ⟨g,0,none⟩) n cap) n (xs.set j u):=by
 obtain ⟨hl,h⟩:=ho
 refine ⟨by simpa using hl,?_⟩
 rcases h with ⟨h,_⟩ | ⟨g',cap',cur,h,hb,hg,h1,h2,h3,h4⟩
 · cases h
 · simp only [Value.slice.injEq,Option.some.injEq,Addr.mk.injEq,and_true,true_and] at h
   obtain ⟨rfl,rfl⟩:=h
   refine Or.inr ⟨g,cap,cur.setIfInBounds j u,rfl,hb,?_,h1,h2,by simpa using h3,?_⟩
   · simp [World.setCell,Array.getElem?_modify,hg]
   · rw [←h4]
     have:j<n * k:=by omega
     rw [Array.toList_setIfInBounds,List.take_set]
theorem vM0 :∀(l:List File) (k:Nat) (hk:k<l.length) (t:ByteArray) (n:Int),((l.flatMap File.cells).set (k * 3+1) (.string t)).set (k * 3+2) (.int .i64 n)=(l.set k ⟨l[k].name,t,n⟩).flatMap File.cells
 | f::r,0,_,t,n=>by simp [File.cells]
 | f::r,k+1,hk,t,n=>by
  have ih:=vM0 r k (by simpa using hk) t n
  simp only [List.flatMap_cons,List.set_cons_succ,List.getElem_cons_succ]
  rw [←ih,List.set_append_right _ _ (by rw [File.cells_len];omega),List.set_append_right _ _ (by rw [File.cells_len];omega),File.cells_len,show (k+1) * 3+1 - 3=k * 3+1 by omega,show (k+1) * 3+2 - 3=k * 3+2 by omega]
theorem vK0 {w:World}{base g n cap:Nat}{l:List File}(ho:w.ownsRow base 102 3 (.slice (some ⟨g,0,none⟩) n cap) n (l.flatMap File.cells))(k:Nat)(hk:k<l.length)(t:ByteArray)(m:Int):
 ((w.setCell ⟨g,k * 3+1,none⟩ (.string t)).setCell ⟨g,k * 3+2,none⟩ (.int .i64 m)).ownsRow base 102 3 (.slice (some ⟨g,0,none⟩) n cap) n ((l.set k ⟨l[k].name,t,m⟩).flatMap File.cells):=by
 have hl:(l.flatMap File.cells).length=l.length * 3:=zC2 (k:=3) (enc:=File.cells) (fun _=>rfl) _
 rw [←vM0 l k hk t m]
 exact xD0 (xD0 ho _ (by rw [hl];omega) _) _ (by rw [List.length_set,hl];omega) _
theorem vD0 (qv:Value)(q:Quilt)(a b:ByteArray)(w:World)(hq:Quilts w qv q)(hg:Good q):
 Calls Tryz.prog 34 #[qv, .string a, .string b] w (xJ5 (zC0 q a b) w):=by
 obtain ⟨v,rfl,hf⟩:=hq
 obtain ⟨W2,hW2⟩:∃W2,W2=qw w v q.turn:=⟨_,rfl⟩
 have BX:=yK8 w v q.turn
 have HB2:=hid (zS2 w v q.turn)
 rw [←hW2] at BX HB2
 have HBX:=hid BX
 have HF:=hid hf
 obtain ⟨ao,ca,rfl,hca,hca'⟩:=hf.parts
 unfold qw at hW2
 have HW2:=hid hW2
 have HG:=hid hg
 have CG:=fun W hb=>zL5 _ q.files a W (hf.below hb)
 have CH:=fun W hb=>zL5 _ q.files b W (hf.below hb)
 unfold zO5 File.val at CG CH
 have HSZ:Hid (W2.heap.size=w.heap.size+2):=hid (by rw [HW2.out];simp)
 clear BX hW2 hf hg
 obtain ⟨x,hx⟩:∃x,x=zT2 (zC6 q.files a):=⟨_,rfl⟩
 obtain ⟨y,hy⟩:∃y,y=zT2 (zC6 q.files b):=⟨_,rfl⟩
 rw [←hx] at CG
 rw [←hy] at CH
 cases hga:zC6 q.files a with
 | none=>
  have HD:Hid (zC0 q a b=(zD6,5)):=hid (by unfold zC0;rw [hga])
  rw [hga,Option.isSome_none] at CG
  replace CG:=hid CG
  obtain ⟨bb,hbb⟩:∃bb,bb=(zC6 q.files b).isSome:=⟨_,rfl⟩
  rw [←hbb] at CH
  replace CH:=hid CH
  clear hga hx hy hbb
  go_enter Tryz.func34, Tryz.ntmps34
  go_wp2_with fail
  rw [←HW2.out]
  refine (CG.out _ HB2.out).mono ?_
  rintro e w3 ⟨rfl,hb3⟩
  have BF:=hid (zF0 w3 x)
  have FZ:=hid (zJ4 w3 x)
  have HS3:=hid hb3.size
  have HB3:=hid (two hb3 (zA0 w3 (.cells #[.string x.name, .string x.text, .int .i64 x.times] 102)))
  obtain ⟨z0,z1,z2,z3,z4,z5,hns⟩:=HBX.out _ HB3.out
  clear hb3 hns
  go_wp2_with fail
  refine (CH.out _ (two HB2.out HB3.out)).mono ?_
  rintro e w4 ⟨rfl,hb4⟩
  have BG:=hid (zF0 w4 y)
  have GZ:=hid (zJ4 w4 y)
  have HC4:=hid (two hb4 (zA0 w4 (.cells #[.string y.name, .string y.text, .int .i64 y.times] 102)))
  have HS4:Hid (w3.heap.size<w4.heap.size):=hid (by have:=hb4.size;simp at this;omega)
  have HB4:=hid (two HB3.out HC4.out)
  clear hb4 z0 z1 z2 z3 z4 z5
  obtain ⟨z0,z1,z2,z3,z4,z5,hns⟩:=HBX.out _ HB4.out
  obtain ⟨x0,x1,x2⟩:=BF.out _ HC4.out
  obtain ⟨y0,y1,y2⟩:=BG.out _ (Below.refl _ _)
  clear hns
  go_wp2_with fail
  refine bodyPost_ret (v:= .tuple #[.agg #[.slice none 0 0, .int .i64 0], .int .i64 5]) (by simp [zE6,results, Tryz.results34,go_sem,z0,z1,z2,z3,z4,z5]) rfl ?_
  exact ⟨_,by rw [HD.out];try rfl,by rw [HD.out];exact ⟨_,rfl,Rd.nil _⟩,((two HB2.out HB4.out).setCell (p:=⟨w.heap.size+1,0,none⟩) (by simp) (.slice none 0 0)).setCell (p:=⟨w.heap.size+1,1,none⟩) (by simp) (.int .i64 0)⟩
 | some x' =>
  rw [hga,Option.isSome_some] at CG
  replace CG:=hid CG
  cases hgb:zC6 q.files b with
  | none=>
   have HD:Hid (zC0 q a b=(zD6,5)):=hid (by unfold zC0;rw [hga,hgb])
   rw [hgb,Option.isSome_none] at CH
   replace CH:=hid CH
   clear hga hgb hx hy
   go_enter Tryz.func34, Tryz.ntmps34
   go_wp2_with fail
   rw [←HW2.out]
   refine (CG.out _ HB2.out).mono ?_
   rintro e w3 ⟨rfl,hb3⟩
   have BF:=hid (zF0 w3 x)
   have FZ:=hid (zJ4 w3 x)
   have HS3:=hid hb3.size
   have HB3:=hid (two hb3 (zA0 w3 (.cells #[.string x.name, .string x.text, .int .i64 x.times] 102)))
   obtain ⟨z0,z1,z2,z3,z4,z5,hns⟩:=HBX.out _ HB3.out
   clear hb3 hns
   go_wp2_with fail
   refine (CH.out _ (two HB2.out HB3.out)).mono ?_
   rintro e w4 ⟨rfl,hb4⟩
   have BG:=hid (zF0 w4 y)
   have GZ:=hid (zJ4 w4 y)
   have HC4:=hid (two hb4 (zA0 w4 (.cells #[.string y.name, .string y.text, .int .i64 y.times] 102)))
   have HS4:Hid (w3.heap.size<w4.heap.size):=hid (by have:=hb4.size;simp at this;omega)
   have HB4:=hid (two HB3.out HC4.out)
   clear hb4 z0 z1 z2 z3 z4 z5
   obtain ⟨z0,z1,z2,z3,z4,z5,hns⟩:=HBX.out _ HB4.out
   obtain ⟨x0,x1,x2⟩:=BF.out _ HC4.out
   obtain ⟨y0,y1,y2⟩:=BG.out _ (Below.refl _ _)
   clear hns
   go_wp2_with fail
   refine bodyPost_ret (v:= .tuple #[.agg #[.slice none 0 0, .int .i64 0], .int .i64 5]) (by simp [zE6,results, Tryz.results34,go_sem,z0,z1,z2,z3,z4,z5]) rfl ?_
   exact ⟨_,by rw [HD.out];try rfl,by rw [HD.out];exact ⟨_,rfl,Rd.nil _⟩,((two HB2.out HB4.out).setCell (p:=⟨w.heap.size+1,0,none⟩) (by simp) (.slice none 0 0)).setCell (p:=⟨w.heap.size+1,1,none⟩) (by simp) (.int .i64 0)⟩
  | some y' =>
   rw [hgb,Option.isSome_some] at CH
   replace CH:=hid CH
   obtain rfl:x=x' :=by rw [hx,hga];rfl
   obtain rfl:y=y' :=by rw [hy,hgb];rfl
   clear hx hy
   obtain ⟨mx,ex⟩:=HG.out.fine.mem hga
   obtain ⟨my,ey⟩:=HG.out.fine.mem hgb
   have fx:=zK0 (HG.out.fine.each x mx)
   have fy:=zK0 (HG.out.fine.each y my)
   have hxn:x.name.size≤maxLen:=by have:=yG6 fx.1;rw [show x.name.data.toList.length=x.name.size from rfl] at this;unfold maxLen;omega
   have hyn:y.name.size≤maxLen:=by have:=yG6 fy.1;rw [show y.name.data.toList.length=y.name.size from rfl] at this;unfold maxLen;omega
   have hxt:x.text.size≤maxLen:=by have:=fx.2.1;unfold maxLen;omega
   have hyt:y.text.size≤maxLen:=by have:=fy.2.1;unfold maxLen;omega
   have rx1:=fx.2.2.1
   have rx2:=fx.2.2.2
   have ry1:=fy.2.2.1
   have ry2:=fy.2.2.2
   clear ex my ey fx fy
   by_cases h9:x.times=9999∨y.times=9999
   · have HD:Hid (zC0 q a b=(zD6,7)):=hid (by unfold zC0;rw [hga,hgb];dsimp only;rw [if_pos h9])
     clear hga hgb
     by_cases h9x:x.times=9999
     · have hbx:(x.times==9999)=true:=by simpa using h9x
       clear h9 h9x
       go_enter Tryz.func34, Tryz.ntmps34
       go_wp2_with fail
       rw [←HW2.out]
       refine (CG.out _ HB2.out).mono ?_
       rintro e w3 ⟨rfl,hb3⟩
       have BF:=hid (zF0 w3 x)
       have FZ:=hid (zJ4 w3 x)
       have HS3:=hid hb3.size
       have HB3:=hid (two hb3 (zA0 w3 (.cells #[.string x.name, .string x.text, .int .i64 x.times] 102)))
       obtain ⟨z0,z1,z2,z3,z4,z5,hns⟩:=HBX.out _ HB3.out
       clear hb3 hns
       go_wp2_with fail
       refine (CH.out _ (two HB2.out HB3.out)).mono ?_
       rintro e w4 ⟨rfl,hb4⟩
       have BG:=hid (zF0 w4 y)
       have GZ:=hid (zJ4 w4 y)
       have HC4:=hid (two hb4 (zA0 w4 (.cells #[.string y.name, .string y.text, .int .i64 y.times] 102)))
       have HS4:Hid (w3.heap.size<w4.heap.size):=hid (by have:=hb4.size;simp at this;omega)
       have HB4:=hid (two HB3.out HC4.out)
       clear hb4 z0 z1 z2 z3 z4 z5
       obtain ⟨z0,z1,z2,z3,z4,z5,hns⟩:=HBX.out _ HB4.out
       obtain ⟨x0,x1,x2⟩:=BF.out _ HC4.out
       obtain ⟨y0,y1,y2⟩:=BG.out _ (Below.refl _ _)
       clear hns
       go_wp2_with fail
       refine bodyPost_ret (v:= .tuple #[.agg #[.slice none 0 0, .int .i64 0], .int .i64 7]) (by simp [zE6,results, Tryz.results34,go_sem,z0,z1,z2,z3,z4,z5]) rfl ?_
       exact ⟨_,by rw [HD.out];try rfl,by rw [HD.out];exact ⟨_,rfl,Rd.nil _⟩,((two HB2.out HB4.out).setCell (p:=⟨w.heap.size+1,0,none⟩) (by simp) (.slice none 0 0)).setCell (p:=⟨w.heap.size+1,1,none⟩) (by simp) (.int .i64 0)⟩
     · have hbx:(x.times==9999)=false:=by simpa using h9x
       have hby:(y.times==9999)=true:=by simp;omega
       clear h9 h9x
       go_enter Tryz.func34, Tryz.ntmps34
       go_wp2_with fail
       rw [←HW2.out]
       refine (CG.out _ HB2.out).mono ?_
       rintro e w3 ⟨rfl,hb3⟩
       have BF:=hid (zF0 w3 x)
       have FZ:=hid (zJ4 w3 x)
       have HS3:=hid hb3.size
       have HB3:=hid (two hb3 (zA0 w3 (.cells #[.string x.name, .string x.text, .int .i64 x.times] 102)))
       obtain ⟨z0,z1,z2,z3,z4,z5,hns⟩:=HBX.out _ HB3.out
       clear hb3 hns
       go_wp2_with fail
       refine (CH.out _ (two HB2.out HB3.out)).mono ?_
       rintro e w4 ⟨rfl,hb4⟩
       have BG:=hid (zF0 w4 y)
       have GZ:=hid (zJ4 w4 y)
       have HC4:=hid (two hb4 (zA0 w4 (.cells #[.string y.name, .string y.text, .int .i64 y.times] 102)))
       have HS4:Hid (w3.heap.size<w4.heap.size):=hid (by have:=hb4.size;simp at this;omega)
       have HB4:=hid (two HB3.out HC4.out)
       clear hb4 z0 z1 z2 z3 z4 z5
       obtain ⟨z0,z1,z2,z3,z4,z5,hns⟩:=HBX.out _ HB4.out
       obtain ⟨x0,x1,x2⟩:=BF.out _ HC4.out
       obtain ⟨y0,y1,y2⟩:=BG.out _ (Below.refl _ _)
       clear hns
       go_wp2_with fail
       refine bodyPost_ret (v:= .tuple #[.agg #[.slice none 0 0, .int .i64 0], .int .i64 7]) (by simp [zE6,results, Tryz.results34,go_sem,z0,z1,z2,z3,z4,z5]) rfl ?_
       exact ⟨_,by rw [HD.out];try rfl,by rw [HD.out];exact ⟨_,rfl,Rd.nil _⟩,((two HB2.out HB4.out).setCell (p:=⟨w.heap.size+1,0,none⟩) (by simp) (.slice none 0 0)).setCell (p:=⟨w.heap.size+1,1,none⟩) (by simp) (.int .i64 0)⟩
   · have hbx:(x.times==9999)=false:=by simp;omega
     have hby:(y.times==9999)=false:=by simp;omega
     cases hab:(a.toList==b.toList)
     · have HD:Hid (zC0 q a b=zD5 q (q.files.map (zN3 a b x y),0)):=hid (by unfold zC0;rw [hga,hgb];dsimp only;rw [if_neg h9,if_neg (by simp [hab])])
       have hxm:x.times+1≤10000:=by omega
       have hym:y.times+1≤10000:=by omega
       have hn0:0<q.files.length:=List.length_pos_of_mem mx
       obtain ⟨A,rfl⟩:∃A,ao=some A:=by
        obtain ⟨b0,off0,e0,_⟩:=Files.cell HF.out 0 hn0
        exact ⟨_,e0⟩
       have HNW:Hid (∀W,Below w.heap.size w W→∀j u,(q.files.flatMap File.cells)[j]?=some u→W.cell? (A.add j)=some u):=by
        refine hid fun W hb j u hj=>?_
        obtain ⟨_,ao1,cap1,e1,_,_,_,h6⟩:=HF.out
        obtain ⟨b1,off1,e2,hc⟩:=h6 j u hj
        simp only [Value.slice.injEq] at e1
        obtain ⟨rfl,_,_⟩:=e1
        cases e2
        rw [Addr.add_lit]
        exact zA1 hb hc
       have h63:0+q.files.length≤1000000000:=by have:=HG.out.fine.len;omega
       have CN:=hid fun W lv (hb:Below w.heap.size w W) h=>yO8 (.agg #[.slice (some A) q.files.length ca, .int .i64 q.turn]) q lv (q.files.map (zN3 a b x y)) 0 W ⟨_,rfl,HF.out.below hb⟩ h HG.out.lo HG.out.hi
       unfold xJ5 at CN
       clear hga hgb h9
       go_enter Tryz.func34, Tryz.ntmps34
       go_wp2_with fail
       rw [←HW2.out]
       refine (CG.out _ HB2.out).mono ?_
       rintro e w3 ⟨rfl,hb3⟩
       have BF:=hid (zF0 w3 x)
       have FZ:=hid (zJ4 w3 x)
       have HS3:=hid hb3.size
       have HB3:=hid (two hb3 (zA0 w3 (.cells #[.string x.name, .string x.text, .int .i64 x.times] 102)))
       obtain ⟨z0,z1,z2,z3,z4,z5,hns⟩:=HBX.out _ HB3.out
       clear hb3 hns
       go_wp2_with fail
       refine (CH.out _ (two HB2.out HB3.out)).mono ?_
       rintro e w4 ⟨rfl,hb4⟩
       have BG:=hid (zF0 w4 y)
       have GZ:=hid (zJ4 w4 y)
       have HC4:=hid (two hb4 (zA0 w4 (.cells #[.string y.name, .string y.text, .int .i64 y.times] 102)))
       have HS4:Hid (w3.heap.size<w4.heap.size):=hid (by have:=hb4.size;simp at this;omega)
       have HB4:=hid (two HB3.out HC4.out)
       clear hb4 z0 z1 z2 z3 z4 z5
       obtain ⟨z0,z1,z2,z3,z4,z5,hns⟩:=HBX.out _ HB4.out
       obtain ⟨x0,x1,x2⟩:=BF.out _ HC4.out
       obtain ⟨y0,y1,y2⟩:=BG.out _ (Below.refl _ _)
       clear hns
       go_wp2_with (at_builtin;refine zB8 zN5 rfl _ _ rfl (w4.heap.size+1) (.slice none 0 0) 0 [] rfl (World.ownsRow_nil _ _ _ _) A q.files.length ca (q.files.flatMap File.cells) rfl (zC2 (k:=3) (enc:=File.cells) (fun _=>rfl) _) (HNW.out _ (two HB2.out HB4.out)) yZ6 h63 (by simp) ?_)
       intro v5 w5 hown5 hg5
       have HB5:=hid (zB0 (k:=3) (Below.refl _ _) (World.ownsRow_nil (w4.alloc (.cells #[.string y.name, .string y.text, .int .i64 y.times] 102)) (w4.heap.size+1) 102 3) hg5 (by simp))
       try simp only [Nat.zero_add,List.nil_append] at hown5
       obtain ⟨g,cap,rfl⟩:∃g cap,v5= .slice (some ⟨g,0,none⟩) q.files.length cap:=by
        rcases hown5.2 with ⟨_,h⟩ | ⟨g,cap,_,h,_⟩
        · omega
        · exact ⟨g,cap,h⟩
       have HO5:=hid hown5
       clear hown5 hg5 x0 x1 x2 y0 y1 y2 z0 z1 z2 z3 z4 z5
       go_wp2_with fail
       go_loopw [13] (fun i wr=>∃k:Nat,k≤q.files.length∧i= .int .i64 k∧wr.ownsRow (w4.heap.size+1) 102 3 (.slice (some ⟨g,0,none⟩) q.files.length cap) q.files.length ((zX6 a b x y q.files k).flatMap File.cells)∧Below (w4.alloc (.cells #[.string y.name, .string y.text, .int .i64 y.times] 102)).heap.size (w4.alloc (.cells #[.string y.name, .string y.text, .int .i64 y.times] 102)) wr) (fun i _=>q.files.length - (intOf i).toNat)
       case atStart=>exact ⟨0,Nat.zero_le _,rfl,by rw [yL6];exact HO5.out,HB5.out⟩
       case round=>
        obtain ⟨k,hk,rfl,hown,hbw⟩:=hrel
        have HO:=hid hown
        have HW:=hid hbw
        clear hown hbw
        by_cases hlt:k<q.files.length
        · obtain ⟨hbg,hgw,hnc,hc63,hlen,hcell,hsome,hfro,hsh⟩:=zK9 HO.out
          have HR:Hid (Files wr (.slice (some ⟨g,0,none⟩) q.files.length cap) (zX6 a b x y q.files k)):=hid (by have h:=SL.of_own HO.out;unfold Files Rd;rw [yB1];exact h)
          obtain ⟨b9,off9,eb,_,c0,c1,c2⟩:=Files.cell HR.out k (by rw [yB1];exact hlt)
          simp only [Option.some.injEq,Addr.mk.injEq,and_true] at eb
          obtain ⟨rfl,rfl⟩:=eb
          rw [xS2 a b x y q.files k hlt] at c0 c1 c2
          simp only [Nat.zero_add] at c0 c1 c2
          have f1:=hfro (k * 3+1)
          have f2:=hfro (k * 3+2)
          have hck:k<cap:=by omega
          have rk:=zK0 (HG.out.fine.each _ (List.getElem_mem hlt))
          have rk1:=rk.2.2.1
          have rk2:=rk.2.2.2
          have HGW:=hid hbg
          have HLN:=hid hlen
          obtain ⟨x0,x1,x2⟩:=BF.out _ (two HC4.out HW.out)
          obtain ⟨y0,y1,y2⟩:=BG.out _ HW.out
          have HNX:=hid (vB9 a b x y q.files k hlt)
          have HAT:=hid (xS2 a b x y q.files k hlt)
          clear hbg hgw hlen hcell hsome hfro hsh rk
          cases e1:(q.files[k].name.toList==a.toList)
          · cases e2:(q.files[k].name.toList==b.toList)
            · have HSW:Hid (zN3 a b x y q.files[k]=q.files[k]):=hid (by unfold zN3;rw [e1,e2];simp)
              go_wp2_with fail
              go_roundw
              case rel=>
               refine ⟨k+1,by omega,by go_num,?_,HW.out⟩
               rw [HNX.out,HSW.out,←HAT.out,List.set_getElem_self]
               exact HO.out
              case measure=>simp [intOf];omega
            · have HSW:Hid (zN3 a b x y q.files[k]=⟨q.files[k].name,x.text,q.files[k].times+1⟩):=hid (by unfold zN3;rw [e1,e2];simp)
              go_wp2_with fail
              have HW6:=hid ((HW.out.setCell (p:=⟨g,k * 3+1,none⟩) (by simp;exact HGW.out) (.string x.text)).setCell (p:=⟨g,k * 3+2,none⟩) (by simp;exact HGW.out) (.int .i64 (q.files[k].times+1)))
              go_roundw
              case rel=>
               refine ⟨k+1,by omega,by go_num,?_,HW6.out⟩
               rw [HNX.out,HSW.out]
               have h:=vK0 HO.out k (by rw [yB1];exact hlt) x.text (q.files[k].times+1)
               rw [HAT.out] at h
               exact h
              case measure=>simp [intOf];omega
          · have e2:(q.files[k].name.toList==b.toList)=false:=by
             rw [beq_iff_eq.1 e1];exact hab
            have HSW:Hid (zN3 a b x y q.files[k]=⟨q.files[k].name,y.text,q.files[k].times+1⟩):=hid (by unfold zN3;rw [e1];simp)
            go_wp2_with fail
            have HW6:=hid ((HW.out.setCell (p:=⟨g,k * 3+1,none⟩) (by simp;exact HGW.out) (.string y.text)).setCell (p:=⟨g,k * 3+2,none⟩) (by simp;exact HGW.out) (.int .i64 (q.files[k].times+1)))
            go_roundw
            case rel=>
             refine ⟨k+1,by omega,by go_num,?_,HW6.out⟩
             rw [HNX.out,HSW.out]
             have h:=vK0 HO.out k (by rw [yB1];exact hlt) y.text (q.files[k].times+1)
             rw [HAT.out] at h
             exact h
            case measure=>simp [intOf];omega
        · obtain rfl:k=q.files.length:=by omega
          have HL:Hid (Files wr (.slice (some ⟨g,0,none⟩) q.files.length cap) (q.files.map (zN3 a b x y))):=hid (by have h:=SL.of_own HO.out;rw [vO1] at h;unfold Files Rd;rw [List.length_map];exact h)
          have HB7:=hid (HB4.out.trans (HW.out.mono HB4.out.size))
          obtain ⟨z0,z1,z2,z3,z4,z5,hns⟩:=HBX.out _ HB7.out
          clear hns
          go_wp2_with fail
          refine (CN.out _ _ (two HB2.out HB7.out) HL.out).mono ?_
          rintro e w8 ⟨qv',rfl,⟨v',rfl,hf'⟩,hb8⟩
          obtain ⟨ao',ca',rfl,_,_⟩:=hf'.parts
          have HF' :=hid hf'
          have HB8:=hid (two HB7.out hb8)
          clear hf' hb8 z0 z1 z2 z3 z4 z5
          obtain ⟨z0,z1,z2,z3,z4,z5,hns⟩:=HBX.out _ HB8.out
          have HNS:=hid hns
          clear hns
          go_wp2_with fail
          have HBF:=((two HB2.out HB8.out).setCell (p:=⟨w.heap.size+1,0,none⟩) (by simp) (.slice ao' (zD5 q (q.files.map (zN3 a b x y),0)).1.files.length ca')).setCell (p:=⟨w.heap.size+1,1,none⟩) (by simp) (.int .i64 (zD5 q (q.files.map (zN3 a b x y),0)).1.turn)
          refine bodyPost_ret (v:= .tuple #[.agg #[.slice ao' (zD5 q (q.files.map (zN3 a b x y),0)).1.files.length ca', .int .i64 (zD5 q (q.files.map (zN3 a b x y),0)).1.turn], .int .i64 (zD5 q (q.files.map (zN3 a b x y),0)).2]) (by simp [results, Tryz.results34,go_sem,z0,z1,z2,z3,z4,z5]) rfl ?_
          exact ⟨_,by rw [HD.out],by rw [HD.out];exact yB2 HF'.out HNS.out (zD9 HF'.out),HBF⟩
     · have HD:Hid (zC0 q a b=zD5 q (q.files,0)):=hid (by unfold zC0;rw [hga,hgb];dsimp only;rw [if_neg h9,if_pos hab])
       clear hga hgb h9
       obtain ⟨p,hp⟩:∃p:List File × Nat,p=(q.files,0):=⟨_,rfl⟩
       rw [←hp] at HD
       have hn0:0<q.files.length:=List.length_pos_of_mem mx
       obtain ⟨A,rfl⟩:∃A,ao=some A:=by
        obtain ⟨b0,off0,e0,_⟩:=Files.cell HF.out 0 hn0
        exact ⟨_,e0⟩
       have HNW:Hid (∀W,Below w.heap.size w W→∀j u,(q.files.flatMap File.cells)[j]?=some u→W.cell? (A.add j)=some u):=by
        refine hid fun W hb j u hj=>?_
        obtain ⟨_,ao1,cap1,e1,_,_,_,h6⟩:=HF.out
        obtain ⟨b1,off1,e2,hc⟩:=h6 j u hj
        simp only [Value.slice.injEq] at e1
        obtain ⟨rfl,_,_⟩:=e1
        cases e2
        rw [Addr.add_lit]
        exact zA1 hb hc
       have h63:0+q.files.length≤1000000000:=by have:=HG.out.fine.len;omega
       have hp1:p.1=q.files:=by rw [hp]
       have hp2:p.2=0:=by rw [hp]
       have CN:=hid fun W lv (hb:Below w.heap.size w W) h=>yO8 (.agg #[.slice (some A) q.files.length ca, .int .i64 q.turn]) q lv p.1 p.2 W ⟨_,rfl,HF.out.below hb⟩ h HG.out.lo HG.out.hi
       unfold xJ5 at CN
       rw [hp2] at CN
       rw [show ((0:Nat):Int)=0 from rfl] at CN
       rw [show (p.1,0)=p by rw [←hp2]] at CN
       clear hp hp2
       go_enter Tryz.func34, Tryz.ntmps34
       go_wp2_with fail
       rw [←HW2.out]
       refine (CG.out _ HB2.out).mono ?_
       rintro e w3 ⟨rfl,hb3⟩
       have BF:=hid (zF0 w3 x)
       have FZ:=hid (zJ4 w3 x)
       have HS3:=hid hb3.size
       have HB3:=hid (two hb3 (zA0 w3 (.cells #[.string x.name, .string x.text, .int .i64 x.times] 102)))
       obtain ⟨z0,z1,z2,z3,z4,z5,hns⟩:=HBX.out _ HB3.out
       clear hb3 hns
       go_wp2_with fail
       refine (CH.out _ (two HB2.out HB3.out)).mono ?_
       rintro e w4 ⟨rfl,hb4⟩
       have BG:=hid (zF0 w4 y)
       have GZ:=hid (zJ4 w4 y)
       have HC4:=hid (two hb4 (zA0 w4 (.cells #[.string y.name, .string y.text, .int .i64 y.times] 102)))
       have HS4:Hid (w3.heap.size<w4.heap.size):=hid (by have:=hb4.size;simp at this;omega)
       have HB4:=hid (two HB3.out HC4.out)
       clear hb4 z0 z1 z2 z3 z4 z5
       obtain ⟨z0,z1,z2,z3,z4,z5,hns⟩:=HBX.out _ HB4.out
       obtain ⟨x0,x1,x2⟩:=BF.out _ HC4.out
       obtain ⟨y0,y1,y2⟩:=BG.out _ (Below.refl _ _)
       clear hns
       go_wp2_with (at_builtin;refine zB8 zN5 rfl _ _ rfl (w4.heap.size+1) (.slice none 0 0) 0 [] rfl (World.ownsRow_nil _ _ _ _) A q.files.length ca (q.files.flatMap File.cells) rfl (zC2 (k:=3) (enc:=File.cells) (fun _=>rfl) _) (HNW.out _ (two HB2.out HB4.out)) yZ6 h63 (by simp) ?_)
       intro v5 w5 hown5 hg5
       have HB5:=hid (zB0 (k:=3) (Below.refl _ _) (World.ownsRow_nil (w4.alloc (.cells #[.string y.name, .string y.text, .int .i64 y.times] 102)) (w4.heap.size+1) 102 3) hg5 (by simp))
       try simp only [Nat.zero_add,List.nil_append] at hown5
       obtain ⟨g,cap,rfl⟩:∃g cap,v5= .slice (some ⟨g,0,none⟩) q.files.length cap:=by
        rcases hown5.2 with ⟨_,h⟩ | ⟨g,cap,_,h,_⟩
        · omega
        · exact ⟨g,cap,h⟩
       have HO5:=hid hown5
       clear hown5 hg5 x0 x1 x2 y0 y1 y2 z0 z1 z2 z3 z4 z5
       go_wp2_with fail
       go_loopw [13] (fun i wr=>∃k:Nat,k≤q.files.length∧i= .int .i64 k∧wr.ownsRow (w4.heap.size+1) 102 3 (.slice (some ⟨g,0,none⟩) q.files.length cap) q.files.length ((zX6 a b x y q.files k).flatMap File.cells)∧Below (w4.alloc (.cells #[.string y.name, .string y.text, .int .i64 y.times] 102)).heap.size (w4.alloc (.cells #[.string y.name, .string y.text, .int .i64 y.times] 102)) wr∧k=0) (fun i _=>q.files.length - (intOf i).toNat)
       case atStart=>exact ⟨0,Nat.zero_le _,rfl,by rw [yL6];exact HO5.out,HB5.out,rfl⟩
       case round=>
        obtain ⟨k,hk,rfl,hown,hbw,hk0⟩:=hrel
        have HO:=hid hown
        have HW:=hid hbw
        clear hown hbw
        obtain rfl:k=0:=hk0
        have HL:Hid (Files wr (.slice (some ⟨g,0,none⟩) q.files.length cap) p.1):=hid (by have h:=SL.of_own HO.out;rw [yL6] at h;rw [hp1];exact h)
        have HB7:=hid (HB4.out.trans (HW.out.mono HB4.out.size))
        obtain ⟨z0,z1,z2,z3,z4,z5,hns⟩:=HBX.out _ HB7.out
        have hn1:(0:Int)<(q.files.length:Int):=by omega
        clear hns hp1
        go_wp2_with fail
        refine (CN.out _ _ (two HB2.out HB7.out) HL.out).mono ?_
        rintro e w8 ⟨qv',rfl,⟨v',rfl,hf'⟩,hb8⟩
        obtain ⟨ao',ca',rfl,_,_⟩:=hf'.parts
        have HF' :=hid hf'
        have HB8:=hid (two HB7.out hb8)
        clear hf' hb8 z0 z1 z2 z3 z4 z5
        obtain ⟨z0,z1,z2,z3,z4,z5,hns⟩:=HBX.out _ HB8.out
        have HNS:=hid hns
        clear hns
        go_wp2_with fail
        have HBF:=((two HB2.out HB8.out).setCell (p:=⟨w.heap.size+1,0,none⟩) (by simp) (.slice ao' (zD5 q p).1.files.length ca')).setCell (p:=⟨w.heap.size+1,1,none⟩) (by simp) (.int .i64 (zD5 q p).1.turn)
        refine bodyPost_ret (v:= .tuple #[.agg #[.slice ao' (zD5 q p).1.files.length ca', .int .i64 (zD5 q p).1.turn], .int .i64 (zD5 q p).2]) (by simp [results, Tryz.results34,go_sem,z0,z1,z2,z3,z4,z5]) rfl ?_
        exact ⟨_,by rw [HD.out],by rw [HD.out];exact yB2 HF'.out HNS.out (zD9 HF'.out),HBF⟩

end Go.Proofs.YtggpodlecljcbabGreatDoor
