/- The document's session: what is done; three words. -/
import Derived.Test.YtggpodlecljcbabGreatDoorKC1
import Derived.Test.YtggpodlecljcbabGreatDoorKCE
import Derived.Test.YtggpodlecljcbabGreatDoorKC0
import Derived.Test.YtggpodlecljcbabGreatDoorKF
import Derived.Test.YtggpodlecljcbabGreatDoorKQ
namespace Go.Proofs.YtggpodlecljcbabGreatDoor
set_option linter.unusedSimpArgs false
set_option linter.unusedVariables false
set_option maxRecDepth 100000
set_option maxHeartbeats 64000000
open Lib (hid)
open Go.RowKit Go.Sort
def RBox (v:Value)(t:Int):Obj:= .cells #[v, .int .i64 t, .bool false, .bool false, .bool false] 62 (0,0)
structure RefS (w:World) (mx:Nat) (q:Quilt) (v:Value):Prop where
 box:w.heap[mx]?=some (RBox v q.turn)
 fs:Files w v q.files
theorem zK7 {v:Value}{t:Int}{w:World}{mx:Nat}(h:w.heap[mx]?=some (RBox v t)):w.cell? ⟨mx,0,none⟩=some v∧w.cell? ⟨mx,1,none⟩=some (.int .i64 t)∧∀o,w.frozen? ⟨mx,o,none⟩=false:=by
 unfold RBox at h
 exact ⟨by simp [World.cell?,h],by simp [World.cell?,h],fun o=>by simp [World.frozen?,h]⟩
theorem vQ3 {o:Option Addr}{n c:Nat}{t:Int}{w:World}{mx:Nat}(h:w.heap[mx]?=some (RBox (.slice o n c) t)):NoStr w mx:=by
 intro j s hc
 unfold RBox at h
 simp only [World.cell?,h] at hc
 match j,hc with
 | 0,hc=>simp at hc
 | 1,hc=>simp at hc
 | 2,hc=>simp at hc
 | 3,hc=>simp at hc
 | 4,hc=>simp at hc
 | j+5,hc=>simp at hc
theorem uM4 {v v' :Value}{t t' :Int}{w:World}{mx:Nat}(h:w.heap[mx]?=some (RBox v t)):((w.setCell ⟨mx,0,none⟩ v').setCell ⟨mx,1,none⟩ (.int .i64 t')).heap[mx]?=some (RBox v' t'):=by
 unfold RBox at h ⊢
 exact zA3 _ _ _ _ (zA3 _ _ _ _ h)
section
variable {w w' :World} {mx:Nat} {q:Quilt} {v:Value}
theorem RefS.lt (h:RefS w mx q v):mx<w.heap.size:=(Array.getElem?_eq_some_iff.1 h.box).1
theorem RefS.below (h:RefS w mx q v)(hb:Below w.heap.size w w'):RefS w' mx q v:=⟨by rw [hb.block _ h.lt];exact h.box,Rd.below h.fs hb⟩
theorem RefS.set (h:RefS w mx q v){q' :Quilt}{v' :Value}(hf:Files w v' q'.files):RefS ((w.setCell ⟨mx,0,none⟩ v').setCell ⟨mx,1,none⟩ (.int .i64 q'.turn)) mx q' v' :=by
 obtain ⟨o,c,rfl,_,_⟩:=Rd.parts h.fs
 obtain ⟨o',c',rfl,_,_⟩:=Rd.parts hf
 have hn:=vQ3 h.box
 exact ⟨uM4 h.box,yC0 (yC0 hf hn 0 _) (hn.set 0 _ (fun s=>by simp)) 1 _⟩
end
theorem off_mx (w:World)(mx:Nat)(v u:Value):Off (fun x=>x=mx) w ((w.setCell ⟨mx,0,none⟩ v).setCell ⟨mx,1,none⟩ u):=(zA7 (F:=fun x=>x=mx) w ⟨mx,0,none⟩ rfl _).trans (zA7 (F:=fun x=>x=mx) _ ⟨mx,1,none⟩ rfl _) (fun _ _ h=>h)
theorem xU1 (w:World)(mx:Nat)(q:Quilt)(v:Value)(h:RefS w mx q v)(p:Quilt × Nat)(pv:Value)(hq:Files w pv p.1.files)(h9:p.2≤9999):
 Calls Tryz.prog 47 #[.pointer (some ⟨mx,0,none⟩), .agg #[pv, .int .i64 p.1.turn], .int .i64 (p.2:Int)] w fun e w' =>e= .returned (.string (yK3 q p).2)∧(∃v',RefS w' mx (yK3 q p).1 v')∧Off (fun x=>x=mx) w w' :=by
 obtain ⟨po,pc,rfl,_,_⟩:=Rd.parts hq
 obtain ⟨W1,hW1⟩:∃W1,W1=w.alloc (.cells #[.slice po p.1.files.length pc, .int .i64 p.1.turn] 32):=⟨_,rfl⟩
 have hb1:Below w.heap.size w W1:=by rw [hW1];exact zA0 _ _
 have h1:=h.below hb1
 obtain ⟨x0,x1,xf⟩:=zK7 h1.box
 have q0:W1.cell? ⟨w.heap.size,0,none⟩=some (.slice po p.1.files.length pc):=by rw [hW1];simp
 have q1:W1.cell? ⟨w.heap.size,1,none⟩=some (.int .i64 p.1.turn):=by rw [hW1];simp
 have HW1:=hid hW1
 have HB1:=hid hb1
 by_cases h0:p.2=0
 · have e:yK3 q p=(p.1,okT):=by unfold yK3;rw [if_pos h0]
   rw [e,h0]
   have hset:=h1.set (Rd.below hq hb1)
   have hoff:=(zB7 hb1 (fun x=>x=mx)).trans (off_mx W1 mx (.slice po p.1.files.length pc) (.int .i64 p.1.turn)) (fun _ _ h=>h)
   have HS:=hid (And.intro hset hoff)
   rw [hW1] at x0 x1 xf q0 q1
   clear hset hoff h hq e h1 hW1 hb1
   go_enter Tryz.func47, Tryz.ntmps47
   go_wp2_with fail
   rw [←HW1.out]
   go_ret
   exact ⟨rfl,⟨_,HS.out.1⟩,HS.out.2⟩
 · have e:yK3 q p=(q,zP3 p.2):=by unfold yK3;rw [if_neg h0]
   rw [e]
   have CF:=hid (zK6 p.2 h9 W1)
   have HH:=hid h1
   have hpos:(0:Int)<(p.2:Int):=by omega
   clear h hq e x0 x1 xf q0 q1 h1 hW1 hb1
   go_enter Tryz.func47, Tryz.ntmps47
   go_wp2_with fail
   rw [←HW1.out]
   refine CF.out.mono ?_
   rintro e w1 ⟨rfl,hb⟩
   go_wp2_with fail
   go_ret
   exact ⟨rfl,⟨v,HH.out.below hb⟩,zB7 (two HB1.out hb) _⟩
open Go.RowKit Go.Sort
def SaidR (w:World)(mx:Nat)(X:Quilt × ByteArray)(e:Ending)(w' :World):Prop:=e= .returned (.string X.2)∧(∃v',RefS w' mx X.1 v')∧Off (fun x=>x=mx) w w'
theorem RefS.said {w w' :World}{mx:Nat}{q:Quilt}{v:Value}(h:RefS w mx q v)(hb:Below w.heap.size w w')(s:ByteArray):SaidR w mx (q,s) (.returned (.string s)) w' :=⟨rfl,⟨v,h.below hb⟩,zB7 hb _⟩
theorem zZ6 {w:World}{wb wo wc:Nat}{a x y:ByteArray}(htx:Texts w (.slice (some ⟨wb,wo,none⟩) 3 wc) [a,x,y]):w.cell? ⟨wb,wo,none⟩=some (.string a)∧w.cell? ⟨wb,wo+1,none⟩=some (.string x)∧w.cell? ⟨wb,wo+2,none⟩=some (.string y)∧3≤wc∧wc≤9223372036854775807:=by
 obtain ⟨wb0,wo0,e0,hwl,x0⟩:=Texts.cell htx 0 (by simp)
 cases e0
 obtain ⟨wb1,wo1,e1,_,x1⟩:=Texts.cell htx 1 (by simp)
 cases e1
 obtain ⟨wb2,wo2,e2,_,x2⟩:=Texts.cell htx 2 (by simp)
 cases e2
 obtain ⟨_,_,ewc,hwc,hwm⟩:=htx.parts
 cases ewc
 exact ⟨x0,x1,x2,hwc,hwm⟩
def vW3 (q:Quilt)(a b c:ByteArray):Quilt × ByteArray:=
 if a=xK2 then (if c=⟨#[]⟩ then (q,zP3 4) else yK3 q (zE5 q b (zU8 c)))
 else if a=xT4 then yK3 q (zC3 q b c)
 else if a=xO2 then yK3 q (zC0 q b c)
 else if a=zX8 then (if 0≤zO8 b∧0≤zO8 c then (if 2<zO8 b then (q,zP3 5) else (q,okT)) else (q,zP3 4))
 else (q,zP3 4)
section
variable (w:World) (mx:Nat) (q:Quilt) (v:Value) (a x y:ByteArray) (wb wo wc:Nat)
theorem xC2 (h:RefS w mx q v)(hgood:Good q)(htx:Texts w (.slice (some ⟨wb,wo,none⟩) 3 wc) [a,x,y])(hxs:x.size≤1000)(hys:y.size≤1000)(g0:(a.toList== [119,114,105,116,101])=true)(hy:y≠⟨#[]⟩)(hd:y≠yE1):
 Calls Tryz.prog 48 #[.pointer (some ⟨mx,0,none⟩), .slice (some ⟨wb,wo,none⟩) 3 wc] w (SaidR w mx (yK3 q (zE5 q x y))):=by
 obtain ⟨x0,x1,x2,hwc,hwm⟩:=zZ6 htx
 obtain ⟨r0,r1,rf⟩:=zK7 h.box
 obtain ⟨vo,vc,rfl,hvc,hvm⟩:=Rd.parts h.fs
 have CD:Hid (∀W,Below w.heap.size w W→_):=hid (fun W hb=>xC4 (.agg #[.slice vo q.files.length vc, .int .i64 q.turn]) q x y W ⟨_,rfl,Rd.below h.fs hb⟩ hgood (by unfold maxLen;omega) (by unfold maxLen;omega))
 have HK:Hid (∀W,Below w.heap.size w W→(W.cell? ⟨mx,0,none⟩=some (.slice vo q.files.length vc)∧W.cell? ⟨mx,1,none⟩=some (.int .i64 q.turn))∧W.cell? ⟨wb,wo+1,none⟩=some (.string x)∧W.cell? ⟨wb,wo+2,none⟩=some (.string y)):=hid (fun W hb=>⟨⟨zA1 hb r0,zA1 hb r1⟩,zA1 hb x1,zA1 hb x2⟩)
 have CO:Hid (∀W pv,Below w.heap.size w W→Files W pv (zE5 q x y).1.files→_):=hid (fun W pv hb hf=>xU1 W mx q _ (h.below hb) (zE5 q x y) pv hf (by have:=yS5 q x y;omega))
 have y1:(y.toList== [])=false:=zB4 hy
 have y2:(y.toList== [45])=false:=zB4 hd
 have y3:y.toList.isEmpty=false:=by have:=yQ4 hy;exact this
 clear htx h hgood hy hd
 go_enter Tryz.func48, Tryz.ntmps48
 go_wp2_with fail
 go_region_with
  (first
   | (go_at_call 31;refine (CD.out _ (Below.refl _ _).drew).mono ?_;rintro e w1 ⟨qv,rfl,⟨pv,rfl,hf⟩,hb⟩;obtain ⟨po,pc,rfl,_,_⟩:=Rd.parts hf;have HF:=hid hf;have HB:Hid (Below w.heap.size w w1):=hid (two (Below.refl _ _).drew hb);obtain ⟨⟨s0,s1⟩,s2,s3⟩:=HK.out _ (HB:Hid _).out;clear hf hb)
   | (go_at_call 47;refine (CO.out _ _ (HB:Hid _).out (HF:Hid _).out).mono ?_;rintro e w2 ⟨rfl,hr,ho⟩;have HR:=hid (And.intro hr ho);clear hr ho))
 all_goals
  go_wp2_with fail
  go_ret
  exact ⟨rfl,(HR:Hid _).out.1,(zB7 (HB:Hid _).out _).trans (HR:Hid _).out.2 (fun _ _ h=>h)⟩
theorem xI3 (h:RefS w mx q v)(hgood:Good q)(htx:Texts w (.slice (some ⟨wb,wo,none⟩) 3 wc) [a,x,y])(hxs:x.size≤1000)(hys:y.size≤1000)(g0:(a.toList== [119,114,105,116,101])=true)(hd:y=yE1):
 Calls Tryz.prog 48 #[.pointer (some ⟨mx,0,none⟩), .slice (some ⟨wb,wo,none⟩) 3 wc] w (SaidR w mx (yK3 q (zE5 q x ⟨#[]⟩))):=by
 obtain ⟨x0,x1,x2,hwc,hwm⟩:=zZ6 htx
 obtain ⟨r0,r1,rf⟩:=zK7 h.box
 obtain ⟨vo,vc,rfl,hvc,hvm⟩:=Rd.parts h.fs
 have CD:Hid (∀W,Below w.heap.size w W→_):=hid (fun W hb=>xC4 (.agg #[.slice vo q.files.length vc, .int .i64 q.turn]) q x ⟨#[]⟩ W ⟨_,rfl,Rd.below h.fs hb⟩ hgood (by unfold maxLen;omega) (by decide))
 have HK:Hid (∀W,Below w.heap.size w W→(W.cell? ⟨mx,0,none⟩=some (.slice vo q.files.length vc)∧W.cell? ⟨mx,1,none⟩=some (.int .i64 q.turn))∧W.cell? ⟨wb,wo+1,none⟩=some (.string x)∧W.cell? ⟨wb,wo+2,none⟩=some (.string y)):=hid (fun W hb=>⟨⟨zA1 hb r0,zA1 hb r1⟩,zA1 hb x1,zA1 hb x2⟩)
 have CO:Hid (∀W pv,Below w.heap.size w W→Files W pv (zE5 q x ⟨#[]⟩).1.files→_):=hid (fun W pv hb hf=>xU1 W mx q _ (h.below hb) (zE5 q x ⟨#[]⟩) pv hf (by have:=yS5 q x ⟨#[]⟩;omega))
 have y2:(y.toList== [45])=true:=zE4 hd
 have y1:(y.toList== [])=false:=zB4 (fun e=>by rw [hd] at e;revert e;decide)
 have y3:y.toList.isEmpty=false:=yQ4 (fun e=>by rw [hd] at e;revert e;decide)
 clear htx h hgood hd
 go_enter Tryz.func48, Tryz.ntmps48
 go_wp2_with fail
 go_region_with
  (first
   | (go_at_call 31;refine (CD.out _ (Below.refl _ _).drew).mono ?_;rintro e w1 ⟨qv,rfl,⟨pv,rfl,hf⟩,hb⟩;obtain ⟨po,pc,rfl,_,_⟩:=Rd.parts hf;have HF:=hid hf;have HB:Hid (Below w.heap.size w w1):=hid (two (Below.refl _ _).drew hb);obtain ⟨⟨s0,s1⟩,s2,s3⟩:=HK.out _ (HB:Hid _).out;clear hf hb)
   | (go_at_call 47;refine (CO.out _ _ (HB:Hid _).out (HF:Hid _).out).mono ?_;rintro e w2 ⟨rfl,hr,ho⟩;have HR:=hid (And.intro hr ho);clear hr ho))
 all_goals
  go_wp2_with fail
  go_ret
  exact ⟨rfl,(HR:Hid _).out.1,(zB7 (HB:Hid _).out _).trans (HR:Hid _).out.2 (fun _ _ h=>h)⟩
theorem xI2 (h:RefS w mx q v)(hgood:Good q)(htx:Texts w (.slice (some ⟨wb,wo,none⟩) 3 wc) [a,x,y])(hxs:x.size≤1000)(hys:y.size≤1000)(g0:(a.toList== [119,114,105,116,101])=false)(g1:(a.toList== [110,97,109,101])=true):
 Calls Tryz.prog 48 #[.pointer (some ⟨mx,0,none⟩), .slice (some ⟨wb,wo,none⟩) 3 wc] w (SaidR w mx (yK3 q (zC3 q x y))):=by
 obtain ⟨x0,x1,x2,hwc,hwm⟩:=zZ6 htx
 obtain ⟨r0,r1,rf⟩:=zK7 h.box
 obtain ⟨vo,vc,rfl,hvc,hvm⟩:=Rd.parts h.fs
 have CD:Hid (∀W,Below w.heap.size w W→_):=hid (fun W hb=>vD1 (.agg #[.slice vo q.files.length vc, .int .i64 q.turn]) q x y W ⟨_,rfl,Rd.below h.fs hb⟩ hgood (by unfold maxLen;omega))
 have HK:Hid (∀W,Below w.heap.size w W→(W.cell? ⟨mx,0,none⟩=some (.slice vo q.files.length vc)∧W.cell? ⟨mx,1,none⟩=some (.int .i64 q.turn))∧W.cell? ⟨wb,wo+1,none⟩=some (.string x)∧W.cell? ⟨wb,wo+2,none⟩=some (.string y)):=hid (fun W hb=>⟨⟨zA1 hb r0,zA1 hb r1⟩,zA1 hb x1,zA1 hb x2⟩)
 have CO:Hid (∀W pv,Below w.heap.size w W→Files W pv (zC3 q x y).1.files→_):=hid (fun W pv hb hf=>xU1 W mx q _ (h.below hb) (zC3 q x y) pv hf (by have:=xK6 q x y;omega))
 clear htx h hgood
 go_enter Tryz.func48, Tryz.ntmps48
 go_wp2_with fail
 go_region_with
  (first
   | (go_at_call 33;refine (CD.out _ (Below.refl _ _).drew).mono ?_;rintro e w1 ⟨qv,rfl,⟨pv,rfl,hf⟩,hb⟩;obtain ⟨po,pc,rfl,_,_⟩:=Rd.parts hf;have HF:=hid hf;have HB:Hid (Below w.heap.size w w1):=hid (two (Below.refl _ _).drew hb);obtain ⟨⟨s0,s1⟩,s2,s3⟩:=HK.out _ (HB:Hid _).out;clear hf hb)
   | (go_at_call 47;refine (CO.out _ _ (HB:Hid _).out (HF:Hid _).out).mono ?_;rintro e w2 ⟨rfl,hr,ho⟩;have HR:=hid (And.intro hr ho);clear hr ho))
 all_goals
  go_wp2_with fail
  go_ret
  exact ⟨rfl,(HR:Hid _).out.1,(zB7 (HB:Hid _).out _).trans (HR:Hid _).out.2 (fun _ _ h=>h)⟩
theorem xI0 (h:RefS w mx q v)(hgood:Good q)(htx:Texts w (.slice (some ⟨wb,wo,none⟩) 3 wc) [a,x,y])(hxs:x.size≤1000)(hys:y.size≤1000)(g0:(a.toList== [119,114,105,116,101])=false)(g1:(a.toList== [110,97,109,101])=false)(g2:(a.toList== [115,119,97,112])=true):
 Calls Tryz.prog 48 #[.pointer (some ⟨mx,0,none⟩), .slice (some ⟨wb,wo,none⟩) 3 wc] w (SaidR w mx (yK3 q (zC0 q x y))):=by
 obtain ⟨x0,x1,x2,hwc,hwm⟩:=zZ6 htx
 obtain ⟨r0,r1,rf⟩:=zK7 h.box
 obtain ⟨vo,vc,rfl,hvc,hvm⟩:=Rd.parts h.fs
 have CD:Hid (∀W,Below w.heap.size w W→_):=hid (fun W hb=>vD0 (.agg #[.slice vo q.files.length vc, .int .i64 q.turn]) q x y W ⟨_,rfl,Rd.below h.fs hb⟩ hgood)
 have HK:Hid (∀W,Below w.heap.size w W→(W.cell? ⟨mx,0,none⟩=some (.slice vo q.files.length vc)∧W.cell? ⟨mx,1,none⟩=some (.int .i64 q.turn))∧W.cell? ⟨wb,wo+1,none⟩=some (.string x)∧W.cell? ⟨wb,wo+2,none⟩=some (.string y)):=hid (fun W hb=>⟨⟨zA1 hb r0,zA1 hb r1⟩,zA1 hb x1,zA1 hb x2⟩)
 have CO:Hid (∀W pv,Below w.heap.size w W→Files W pv (zC0 q x y).1.files→_):=hid (fun W pv hb hf=>xU1 W mx q _ (h.below hb) (zC0 q x y) pv hf (by have:=xJ7 q x y;omega))
 clear htx h hgood
 go_enter Tryz.func48, Tryz.ntmps48
 go_wp2_with fail
 go_region_with
  (first
   | (go_at_call 34;refine (CD.out _ (Below.refl _ _).drew).mono ?_;rintro e w1 ⟨qv,rfl,⟨pv,rfl,hf⟩,hb⟩;obtain ⟨po,pc,rfl,_,_⟩:=Rd.parts hf;have HF:=hid hf;have HB:Hid (Below w.heap.size w w1):=hid (two (Below.refl _ _).drew hb);obtain ⟨⟨s0,s1⟩,s2,s3⟩:=HK.out _ (HB:Hid _).out;clear hf hb)
   | (go_at_call 47;refine (CO.out _ _ (HB:Hid _).out (HF:Hid _).out).mono ?_;rintro e w2 ⟨rfl,hr,ho⟩;have HR:=hid (And.intro hr ho);clear hr ho))
 all_goals
  go_wp2_with fail
  go_ret
  exact ⟨rfl,(HR:Hid _).out.1,(zB7 (HB:Hid _).out _).trans (HR:Hid _).out.2 (fun _ _ h=>h)⟩
theorem xC3 (h:RefS w mx q v)(htx:Texts w (.slice (some ⟨wb,wo,none⟩) 3 wc) [a,x,y])(hxs:x.size≤1000)(hys:y.size≤1000)(g0:(a.toList== [119,114,105,116,101])=true)(hy:y=⟨#[]⟩):
 Calls Tryz.prog 48 #[.pointer (some ⟨mx,0,none⟩), .slice (some ⟨wb,wo,none⟩) 3 wc] w (SaidR w mx (q,zP3 4)):=by
 obtain ⟨x0,x1,x2,hwc,hwm⟩:=zZ6 htx
 have HH:=hid h
 have CF:=hid (zK6 4 (by decide) w)
 have y3:y.toList.isEmpty=true:=by rw [hy];decide +kernel
 have y1:(y.toList== [])=true:=zE4 hy
 clear htx h
 go_enter Tryz.func48, Tryz.ntmps48
 go_wp2_with fail
 refine CF.out.mono ?_
 rintro e w2 ⟨rfl,hb⟩
 have HB:=hid hb
 clear hb
 go_wp2_with fail
 go_ret
 exact HH.out.said HB.out _
theorem xI1 (h:RefS w mx q v)(htx:Texts w (.slice (some ⟨wb,wo,none⟩) 3 wc) [a,x,y])(hxs:x.size≤1000)(hys:y.size≤1000)(g0:(a.toList== [119,114,105,116,101])=false)(g1:(a.toList== [110,97,109,101])=false)(g2:(a.toList== [115,119,97,112])=false)(g3:(a.toList== [114,101,115,116,97,114,116])=false):
 Calls Tryz.prog 48 #[.pointer (some ⟨mx,0,none⟩), .slice (some ⟨wb,wo,none⟩) 3 wc] w (SaidR w mx (q,zP3 4)):=by
 obtain ⟨x0,x1,x2,hwc,hwm⟩:=zZ6 htx
 have HH:=hid h
 have CF:=hid (zK6 4 (by decide) w)
 clear htx h
 go_enter Tryz.func48, Tryz.ntmps48
 go_wp2_with fail
 refine CF.out.mono ?_
 rintro e w2 ⟨rfl,hb⟩
 have HB:=hid hb
 clear hb
 go_wp2_with fail
 go_ret
 exact HH.out.said HB.out _
theorem yO7 (h:RefS w mx q v)(htx:Texts w (.slice (some ⟨wb,wo,none⟩) 3 wc) [a,x,y])(hxs:x.size≤1000)(hys:y.size≤1000)(g0:(a.toList== [119,114,105,116,101])=false)(g1:(a.toList== [110,97,109,101])=false)(g2:(a.toList== [115,119,97,112])=false)(g3:(a.toList== [114,101,115,116,97,114,116])=true)(hb:zO8 x<0):
 Calls Tryz.prog 48 #[.pointer (some ⟨mx,0,none⟩), .slice (some ⟨wb,wo,none⟩) 3 wc] w (SaidR w mx (q,zP3 4)):=by
 obtain ⟨x0,x1,x2,hwc,hwm⟩:=zZ6 htx
 have HH:=hid h
 have CF:=hid (zK6 4 (by decide) w)
 have CX:=hid (zJ1 x w hxs)
 have CY:=hid (zJ1 y w hys)
 obtain ⟨m,hm⟩:∃m,m=zO8 x:=⟨_,rfl⟩
 obtain ⟨n,hn⟩:∃n,n=zO8 y:=⟨_,rfl⟩
 rw [←hm] at *
 rw [←hn] at *
 clear htx h
 go_enter Tryz.func48, Tryz.ntmps48
 go_wp2_with fail
 refine CX.out.mono ?_
 rintro e w1 ⟨rfl,rfl⟩
 go_wp2_with fail
 refine CY.out.mono ?_
 rintro e w1 ⟨rfl,rfl⟩
 go_wp2_with fail
 refine CF.out.mono ?_
 rintro e w2 ⟨rfl,hb⟩
 have HB:=hid hb
 clear hb
 go_wp2_with fail
 go_ret
 exact HH.out.said HB.out _
theorem yO6 (h:RefS w mx q v)(htx:Texts w (.slice (some ⟨wb,wo,none⟩) 3 wc) [a,x,y])(hxs:x.size≤1000)(hys:y.size≤1000)(g0:(a.toList== [119,114,105,116,101])=false)(g1:(a.toList== [110,97,109,101])=false)(g2:(a.toList== [115,119,97,112])=false)(g3:(a.toList== [114,101,115,116,97,114,116])=true)(ha:0≤zO8 x)(hb:zO8 y<0):
 Calls Tryz.prog 48 #[.pointer (some ⟨mx,0,none⟩), .slice (some ⟨wb,wo,none⟩) 3 wc] w (SaidR w mx (q,zP3 4)):=by
 obtain ⟨x0,x1,x2,hwc,hwm⟩:=zZ6 htx
 have HH:=hid h
 have CF:=hid (zK6 4 (by decide) w)
 have CX:=hid (zJ1 x w hxs)
 have CY:=hid (zJ1 y w hys)
 obtain ⟨m,hm⟩:∃m,m=zO8 x:=⟨_,rfl⟩
 obtain ⟨n,hn⟩:∃n,n=zO8 y:=⟨_,rfl⟩
 rw [←hm] at *
 rw [←hn] at *
 clear htx h
 go_enter Tryz.func48, Tryz.ntmps48
 go_wp2_with fail
 refine CX.out.mono ?_
 rintro e w1 ⟨rfl,rfl⟩
 go_wp2_with fail
 refine CY.out.mono ?_
 rintro e w1 ⟨rfl,rfl⟩
 go_wp2_with fail
 refine CF.out.mono ?_
 rintro e w2 ⟨rfl,hb⟩
 have HB:=hid hb
 clear hb
 go_wp2_with fail
 go_ret
 exact HH.out.said HB.out _
theorem yO5 (h:RefS w mx q v)(htx:Texts w (.slice (some ⟨wb,wo,none⟩) 3 wc) [a,x,y])(hxs:x.size≤1000)(hys:y.size≤1000)(g0:(a.toList== [119,114,105,116,101])=false)(g1:(a.toList== [110,97,109,101])=false)(g2:(a.toList== [115,119,97,112])=false)(g3:(a.toList== [114,101,115,116,97,114,116])=true)(ha:0≤zO8 x)(hb:0≤zO8 y)(hc:2<zO8 x):
 Calls Tryz.prog 48 #[.pointer (some ⟨mx,0,none⟩), .slice (some ⟨wb,wo,none⟩) 3 wc] w (SaidR w mx (q,zP3 5)):=by
 obtain ⟨x0,x1,x2,hwc,hwm⟩:=zZ6 htx
 have HH:=hid h
 have CF:=hid (zK6 5 (by decide) w)
 have CX:=hid (zJ1 x w hxs)
 have CY:=hid (zJ1 y w hys)
 obtain ⟨m,hm⟩:∃m,m=zO8 x:=⟨_,rfl⟩
 obtain ⟨n,hn⟩:∃n,n=zO8 y:=⟨_,rfl⟩
 rw [←hm] at *
 rw [←hn] at *
 clear htx h
 go_enter Tryz.func48, Tryz.ntmps48
 go_wp2_with fail
 refine CX.out.mono ?_
 rintro e w1 ⟨rfl,rfl⟩
 go_wp2_with fail
 refine CY.out.mono ?_
 rintro e w1 ⟨rfl,rfl⟩
 go_wp2_with fail
 refine CF.out.mono ?_
 rintro e w2 ⟨rfl,hb⟩
 have HB:=hid hb
 clear hb
 go_wp2_with fail
 go_ret
 exact HH.out.said HB.out _
theorem yO4 (h:RefS w mx q v)(htx:Texts w (.slice (some ⟨wb,wo,none⟩) 3 wc) [a,x,y])(hxs:x.size≤1000)(hys:y.size≤1000)(g0:(a.toList== [119,114,105,116,101])=false)(g1:(a.toList== [110,97,109,101])=false)(g2:(a.toList== [115,119,97,112])=false)(g3:(a.toList== [114,101,115,116,97,114,116])=true)(ha:0≤zO8 x)(hb:0≤zO8 y)(hc:¬2<zO8 x):
 Calls Tryz.prog 48 #[.pointer (some ⟨mx,0,none⟩), .slice (some ⟨wb,wo,none⟩) 3 wc] w (SaidR w mx (q,okT)):=by
 obtain ⟨x0,x1,x2,hwc,hwm⟩:=zZ6 htx
 have HH:=hid h
 have CX:=hid (zJ1 x w hxs)
 have CY:=hid (zJ1 y w hys)
 obtain ⟨m,hm⟩:∃m,m=zO8 x:=⟨_,rfl⟩
 obtain ⟨n,hn⟩:∃n,n=zO8 y:=⟨_,rfl⟩
 rw [←hm] at *
 rw [←hn] at *
 clear htx h
 go_enter Tryz.func48, Tryz.ntmps48
 go_wp2_with fail
 refine CX.out.mono ?_
 rintro e w1 ⟨rfl,rfl⟩
 go_wp2_with fail
 refine CY.out.mono ?_
 rintro e w1 ⟨rfl,rfl⟩
 go_wp2_with fail
 go_ret
 exact HH.out.said (Below.refl _ _) _
end
end Go.Proofs.YtggpodlecljcbabGreatDoor
