/- Three disks in memory. Looking at a disk; copies. -/
import Derived.Test.YtggpodlecljcbabGreatDoorKST
import Derived.Test.YtggpodlecljcbabGreatDoorKZ8
import Derived.Test.YtggpodlecljcbabGreatDoorKI3
import Derived.Test.YtggpodlecljcbabGreatDoorKV
namespace Go.Proofs.YtggpodlecljcbabGreatDoor
set_option linter.unusedSimpArgs false
set_option linter.unusedVariables false
set_option maxRecDepth 100000
set_option maxHeartbeats 64000000
open Lib (hid)
open Go.RowKit Go.Sort
abbrev FilesF (F:Nat→Prop):=RdF F 3 File.cells
structure Steps (F:Nat→Prop) (w w' :World) (F' :Nat→Prop):Prop where
 off:Off F w w'
 grow:∀x,F' x→F x∨w.heap.size≤x
theorem Steps.refl (F:Nat→Prop)(w:World):Steps F w w F:=⟨Off.refl _ _,fun _ h=>Or.inl h⟩
theorem Steps.trans {F G H:Nat→Prop}{a b c:World}(h:Steps F a b G)(k:Steps G b c H):Steps F a c H:=
 ⟨h.off.trans k.off (fun x hx hG=>(h.grow x hG).elim id (fun h1=>by omega)),fun x hx=>(k.grow x hx).elim (fun h1=>h.grow x h1) (fun h1=>Or.inr (Nat.le_trans h.off.size h1))⟩
theorem Steps.below {F G:Nat→Prop}{a b c:World}(h:Steps F a b G)(hb:Below b.heap.size b c):Steps F a c G:=
 ⟨h.off.trans (zB7 hb F) (fun _ _ h=>h),h.grow⟩
theorem Steps.after {F G:Nat→Prop}{a b c:World}(hb:Below a.heap.size a b)(h:Steps F b c G):Steps F a c G:=
 ⟨(zB7 hb F).trans h.off (fun _ _ h=>h),fun x hx=>(h.grow x hx).imp id (fun h1=>Nat.le_trans hb.size h1)⟩
theorem Steps.mono {F F' G G' :Nat→Prop}{a b:World}(h:Steps F a b G)(hF:∀x,F x→F' x)(hG:∀x,G' x→G x):Steps F' a b G' :=⟨h.off.mono hF,fun x hx=>(h.grow x (hG x hx)).imp (hF x) id⟩
theorem Steps.keep {F G:Nat→Prop}{a b:World}(h:Steps F a b G){y:Nat}(hy:y<a.heap.size)(hF:¬F y):b.heap[y]?=a.heap[y]?∧¬G y∧y<b.heap.size:=⟨h.off.block y hy hF,fun hG=>(h.grow y hG).elim hF (fun h1=>by omega),Nat.lt_of_lt_of_le hy h.off.size⟩
def DF (L:Nat→Dk):Nat→Prop:=fun x=>∃k,k<3∧(L k).foot x
structure Disks3 (B:Nat) (b:Nat→Nat) (w:World) (L:Nat→Dk) (D:Nat→DiskS):Prop where
 d:∀k,k<3→DiskAt w (L k) (D k)
 eq:∀k,k<3→(L k).b=b k
 low:∀k,k<3→∀x,(L k).foot x→B≤x
 ap:∀i j,i<3→j<3→i≠j→∀x,(L i).foot x→¬(L j).foot x
def upd {α:Type}(f:Nat→α)(k:Nat)(x:α):Nat→α:=fun i=>if i=k then x else f i
theorem zA9 {α:Type}(f:Nat→α)(k:Nat)(x:α):upd f k x k=x:=by simp [upd]
theorem zD0 {α:Type}(f:Nat→α){k i:Nat}(x:α)(h:i≠k):upd f k x i=f i:=by simp [upd,h]
section
variable {B:Nat} {b:Nat→Nat} {w w' :World} {L:Nat→Dk} {D:Nat→DiskS}
theorem Disks3.below (h:Disks3 B b w L D)(hb:Below w.heap.size w w'):Disks3 B b w' L D:=⟨fun k hk=>(h.d k hk).below hb,h.eq,h.low,h.ap⟩
theorem Disks3.lt (h:Disks3 B b w L D){k:Nat}(hk:k<3){x:Nat}(hx:(L k).foot x):x<w.heap.size:=(h.d k hk).lt x hx
theorem Disks3.turned (h:Disks3 B b w L D){k:Nat}(hk:k<3)(hB:B≤w.heap.size){L' :Dk}{D' :DiskS}(e:L'.b=(L k).b)(hd:DiskAt w' L' D')(ho:Off (L k).foot w w')(hg:∀x,L'.foot x→(L k).foot x∨w.heap.size≤x):Disks3 B b w' (upd L k L') (upd D k D'):=by
 refine ⟨fun i hi=>?_,fun i hi=>?_,fun i hi x hx=>?_,fun i j hi hj hij x hx hx' =>?_⟩
 · by_cases e' :i=k
   · subst e';rw [zA9,zA9];exact hd
   · rw [zD0 _ _ e',zD0 _ _ e']
     exact (h.d i hi).off ho (fun x hx=>h.ap i k hi hk e' x hx)
 · by_cases e' :i=k
   · subst e';rw [zA9,e];exact h.eq i hi
   · rw [zD0 _ _ e'];exact h.eq i hi
 · by_cases e' :i=k
   · subst e'
     rw [zA9] at hx
     rcases hg x hx with h1 | h1
     · exact h.low i hi x h1
     · omega
   · rw [zD0 _ _ e'] at hx;exact h.low i hi x hx
 · by_cases ei:i=k
   · subst ei
     have hj' :j≠i:=fun e=>hij e.symm
     rw [zA9] at hx
     rw [zD0 _ _ hj'] at hx'
     rcases hg x hx with h1 | h1
     · exact h.ap i j hi hj hij x h1 hx'
     · have:=h.lt hj hx';omega
   · rw [zD0 _ _ ei] at hx
     by_cases ej:j=k
     · subst ej
       rw [zA9] at hx'
       rcases hg x hx' with h1 | h1
       · exact h.ap i j hi hj hij x hx h1
       · have:=h.lt hi hx;omega
     · rw [zD0 _ _ ej] at hx'
       exact h.ap i j hi hj hij x hx hx'
theorem Disks3.as (h:Disks3 B b w L D){D' :Nat→DiskS}(e:∀k,k<3→D k=D' k):Disks3 B b w L D' :=⟨fun k hk=>e k hk ▸ h.d k hk,h.eq,h.low,h.ap⟩
end
theorem zS1 {w:World}{lb:Nat}{x0 x1 x2:Value}{t:TypeId}(h:w.heap[lb]?=some (.cells #[x0,x1,x2] t (0,0))):
 w.cell? ⟨lb,0,none⟩=some x0∧w.cell? ⟨lb,1,none⟩=some x1∧w.cell? ⟨lb,2,none⟩=some x2∧∀o,w.frozen? ⟨lb,o,none⟩=false:=
 ⟨by simp [World.cell?,h],by simp [World.cell?,h],by simp [World.cell?,h],fun o=>by simp [World.frozen?,h]⟩
theorem vO5 {L:Nat→Dk}{k:Nat}(hk:k<3){L' :Dk}{w w' :World}(ho:Off (L k).foot w w')(hg:∀x,L'.foot x→(L k).foot x∨w.heap.size≤x):Steps (DF L) w w' (DF (upd L k L')):=by
 refine ⟨ho.mono (fun x hx=>⟨k,hk,hx⟩),fun x hx=>?_⟩
 obtain ⟨i,hi,hx⟩:=hx
 by_cases e:i=k
 · subst e
   rw [zA9] at hx
   exact (hg x hx).imp (fun h=>⟨i,hi,h⟩) id
 · rw [zD0 _ _ e] at hx
   exact Or.inl ⟨i,hi,hx⟩
def LookR (w:World)(L:Dk)(D:DiskS)(sp:Option Addr)(w' :World):Prop:=∀S q,yF2 D=some (S,q)→∃sb lb rv,sp=some ⟨sb,0,none⟩∧StAt w' sb lb L S 34 rv∧w.heap.size≤sb∧w.heap.size≤lb∧far (fun x=>x<w.heap.size) rv
theorem LookR.below {w w1 w2:World}{L:Dk}{D:DiskS}{sp:Option Addr}(h:LookR w L D sp w1)(hb:Below w1.heap.size w1 w2):LookR w L D sp w2:=fun S q e=>by
 obtain ⟨sb,lb,rv,h1,h2,h3⟩:=h S q e
 exact ⟨sb,lb,rv,h1,h2.below hb,h3⟩
theorem LookR.mono {w0 w w1:World}{L:Dk}{D:DiskS}{sp:Option Addr}(h:LookR w L D sp w1)(hs:w0.heap.size≤w.heap.size):LookR w0 L D sp w1:=fun S q e=>by
 obtain ⟨sb,lb,rv,h1,h2,h3,h4,h5⟩:=h S q e
 exact ⟨sb,lb,rv,h1,h2,by omega,by omega,fun a n c e hn hx=>h5 a n c e hn (by have h6:a.block<w0.heap.size:=hx;show a.block<w.heap.size;omega)⟩
theorem xG5 {D:DiskS}(h:yP6 D=none):yF2 D=none:=by unfold yF2;rw [h]
theorem uQ3 {D:DiskS}{S:StS}(h:yP6 D=some S)(h2:zY0 S.rows=none):yF2 D=none:=by
 unfold yF2
 rw [h]
 dsimp only
 rw [h2];rfl
theorem xM8 {D:DiskS}(h:yF2 D=none):copyC D=⟨false,zD6⟩:=by unfold copyC;rw [h]
theorem vT8 {D:DiskS}{S:StS}{q:Quilt}(h:yF2 D=some (S,q)):copyC D=⟨true,q⟩:=by unfold copyC;rw [h]
theorem uC1 (w:World){D:DiskS}(h:yF2 D=none):IsCopy w ⟨false, .slice none 0 0,0⟩ (copyC D):=by
 rw [xM8 h]
 exact ⟨rfl,rfl,uC2 w⟩
theorem StAt.off {w w' :World}{sb lb many:Nat}{L:Dk}{S:StS}{rv:Value}{G:Nat→Prop}(h:StAt w sb lb L S many rv)(hO:Off G w w')(hG:∀k,stF L lb sb k→¬G k)(hr:far G rv):StAt w' sb lb L S many rv:=
 ⟨by rw [hO.block _ h.lt (hG _ (Or.inr (Or.inr rfl)))];exact h.box,h.log.off hO (hG _ (Or.inr (Or.inl rfl))) rfl,⟨(RdF.off (F:=G) ⟨h.rows.rd,hr⟩ hO).rd,h.rows.far⟩,h.ls,h.sf,h.lf⟩
theorem zL8 {w:World}{cv:CopyV}{c:Copy}{B lb:Nat}(h:IsCopy w cv c∧Fresh B cv.v)(hb:lb<B)(o:Nat)(x:Value):IsCopy (w.setCell ⟨lb,o,none⟩ x) cv c∧Fresh B cv.v:=⟨⟨h.1.1,h.1.2.1,zW5 h.1.2.2 h.2 hb o x⟩,h.2⟩
theorem LookR.set {w0 w w1:World}{L:Dk}{D:DiskS}{sp:Option Addr}(h:LookR w L D sp w1){rb:Nat}(h1:w0.heap.size≤rb)(h2:rb<w.heap.size)(hf:∀x,L.foot x→x<w0.heap.size)(o:Nat)(x:Value):LookR w L D sp (w1.setCell ⟨rb,o,none⟩ x):=fun S q e=>by
 obtain ⟨sb,lb,rv,s1,s2,s3,s4,s5⟩:=h S q e
 refine ⟨sb,lb,rv,s1,s2.off (G:=fun x=>x=rb) (zA7 (F:=fun x=>x=rb) w1 ⟨rb,o,none⟩ rfl x) (fun k hk e=>?_) (fun a n c e hn hx=>s5 a n c e hn (by have h6:a.block=rb:=hx;show a.block<w.heap.size;omega)),s3,s4,s5⟩
 rcases hk with hk | hk | hk
 · have:=hf k hk;omega
 · omega
 · omega
theorem vW1 (L:Dk)(D:DiskS)(w:World)(h:DiskAt w L D)(hs:Sound D)(hg:GlobI w):
 Calls Tryz.prog 30 #[.pointer (some ⟨L.b,0,none⟩)] w fun e w' =>∃sp cv,e= .returned (.tuple #[.pointer sp,cv.val])∧IsCopy w' cv (copyC D)∧Fresh w.heap.size cv.v∧LookR w L D sp w' ∧Below w.heap.size w w' :=by
 obtain ⟨W1,hW1⟩:∃W1,W1=w.alloc (.cells #[.bool false, .slice none 0 0, .int .i64 0] 52):=⟨_,rfl⟩
 have hb0:Below w.heap.size w W1:=by rw [hW1];exact zA0 _ _
 have HW1:=hid hW1
 have HB0:=hid hb0
 have HZ1:Hid (W1.heap.size=w.heap.size+1):=hid (by rw [hW1];simp)
 have HRB:Hid (∀W,Below W1.heap.size W1 W→W.heap[w.heap.size]?=some (.cells #[.bool false, .slice none 0 0, .int .i64 0] 52 (0,0))):=hid (fun W hW=>by
  rw [hW.block _ (by rw [hW1];simp),hW1]
  show (w.heap.push _)[w.heap.size]?=_
  simp)
 have HFT:Hid (∀x,L.foot x→x<w.heap.size):=hid h.lt
 have CO:=xK0 L D W1 (h.below hb0) hs.calm.1 hs.ok hs.s40 (by rw [hs.len];decide)
 rw [hs.len] at CO
 obtain ⟨b,hb⟩:∃b,b=L.b:=⟨_,rfl⟩
 rw [←hb] at CO ⊢
 have HCO:=hid CO
 have HG:=hid (hg.below hb0)
 have HFINE:Hid (∀S,yP6 D=some S→(∀c∈S.rows,zA2 c=0)∧S.rows.length≤200):=hid (fun S e=>uB6 e (by rw [hs.len];decide) (by rw [hs.len];decide))
 clear CO h hs hg hb hW1 hb0
 go_enter Tryz.func30, Tryz.ntmps30
 go_wp2_with fail
 rw [←HW1.out]
 refine HCO.out.mono ?_
 rintro e w1 ⟨hc,hb1⟩
 rcases hc with ⟨ho,rfl⟩ | ⟨S,sb,lb,rv,ho,rfl,hst,hsb,hlb,hrv⟩
 · have HO:=hid ho
   have HB1:=hid hb1
   clear ho hb1
   obtain ⟨z0,z1,z2,zf⟩:=zS1 (HRB.out _ HB1.out)
   rw [zA5 (by decide)]
   go_wp2_with fail
   refine bodyPost_ret (v:= .tuple #[.pointer none, .agg #[.bool false, .slice none 0 0, .int .i64 0]]) (by simp [results, Tryz.results30,go_sem,z0,z1,z2,zf]) rfl ?_
   exact ⟨none,⟨false, .slice none 0 0,0⟩,rfl,uC1 _ (xG5 HO.out),zH5 _,fun S q e=>by (rw [xG5 HO.out] at e;cases e),((two HB0.out HB1.out).setCell (p:=⟨w.heap.size,0,none⟩) (Nat.le_refl _) _ |>.setCell (p:=⟨w.heap.size,1,none⟩) (Nat.le_refl _) _).setCell (p:=⟨w.heap.size,2,none⟩) (Nat.le_refl _) _⟩
 · have HO:=hid ho
   have HB1:=hid hb1
   have HST:=hid hst
   have HSB:=hid (And.intro hsb (And.intro hlb hrv))
   obtain ⟨hf1,hf2⟩:=HFINE.out S ho
   have HF1:=hid hf1
   have HF2:=hid hf2
   have CR:=hid (vO4 sb lb L S 34 rv w1 hst (by omega))
   clear ho hb1 hst hsb hlb hrv hf1 hf2
   go_wp2_with fail
   refine CR.out.mono ?_
   rintro e w2 ⟨v2,rfl,ho2,hb2⟩
   have HB2:=hid (two HB1.out hb2)
   have HST2:=hid (HST.out.below hb2)
   have CP:=hid (vF1 v2 S.rows w2 (SL.of_own ho2) (HG.out.below HB2.out) (by have:=HF2.out;omega) (fun c hc=>vE2 (HF1.out c hc)))
   obtain ⟨ao2,ac2,rfl,_,_⟩:=zD4 ho2
   clear ho2 hb2
   go_wp2_with fail
   refine CP.out.mono ?_
   rintro e w3 ⟨qv,rfl,hq,hb3⟩
   have HB3:=hid (two HB2.out hb3)
   have HST3:=hid (HST2.out.below hb3)
   cases hp:zY0 S.rows with
   | none=>
    have e4:yE8 S.rows=4:=by unfold yE8;rw [hp];rfl
    have HC:=hid (uQ3 HO.out hp)
    rw [e4,zA5 (by decide)]
    obtain ⟨v3,rfl,hv3⟩:=hq
    obtain ⟨ao3,ac3,rfl,_,_⟩:=zD4 hv3
    generalize (yE7 S.rows).files.length=n3,(yE7 S.rows).turn=t3 at *
    clear hb3 hp e4 hv3
    have HB4:=hid (two HB3.out (zA0 w3 (.cells #[.slice ao3 n3 ac3, .int .i64 t3] 32)))
    obtain ⟨z0,z1,z2,zf⟩:=zS1 (HRB.out _ HB4.out)
    go_wp2_with fail
    refine bodyPost_ret (v:= .tuple #[.pointer none, .agg #[.bool false, .slice none 0 0, .int .i64 0]]) (by simp [results, Tryz.results30,go_sem,z0,z1,z2,zf]) rfl ?_
    exact ⟨none,⟨false, .slice none 0 0,0⟩,rfl,uC1 _ HC.out,zH5 _,fun S q e=>by (rw [HC.out] at e;cases e),((two HB0.out HB4.out).setCell (p:=⟨w.heap.size,0,none⟩) (Nat.le_refl _) _ |>.setCell (p:=⟨w.heap.size,1,none⟩) (Nat.le_refl _) _).setCell (p:=⟨w.heap.size,2,none⟩) (Nat.le_refl _) _⟩
   | some q=>
    have e4:yE8 S.rows=0:=by unfold yE8;rw [hp];rfl
    have eq4:yE7 S.rows=q:=by unfold yE7;rw [hp];rfl
    have HC:=hid (xM7 HO.out hp)
    rw [e4,zD2]
    rw [eq4] at hq
    obtain ⟨v3,rfl,ho3⟩:=hq
    have HO3:=hid ho3
    have hz2:=HB2.out.size
    obtain ⟨ao3,ac3,rfl,_,_⟩:=zD4 ho3
    clear hb3 hp e4 eq4 ho3
    have HB4:=hid (two HB3.out (zA0 w3 (.cells #[.slice ao3 q.files.length ac3, .int .i64 q.turn] 32)))
    obtain ⟨z0,z1,z2,zf⟩:=zS1 (HRB.out _ HB4.out)
    go_wp2_with fail
    go_region
    go_wp2_with fail
    refine bodyPost_ret (v:= .tuple #[.pointer (some ⟨sb,0,none⟩), .agg #[.bool true, .slice ao3 q.files.length ac3, .int .i64 q.turn]]) (by simp [results, Tryz.results30,go_sem,z0,z1,z2,zf]) rfl ?_
    have hzz:=HZ1.out
    obtain ⟨W5,hW5⟩:∃W5,W5=(w3.alloc (.cells #[.slice ao3 q.files.length ac3, .int .i64 q.turn] 32)):=⟨_,rfl⟩
    have hb5:Below w3.heap.size w3 W5:=by rw [hW5];exact zA0 _ _
    rw [←hW5]
    have hic:IsCopy W5 ⟨true, .slice ao3 q.files.length ac3,q.turn⟩ (copyC D)∧Fresh W1.heap.size (.slice ao3 q.files.length ac3):=by
     rw [vT8 HC.out]
     exact ⟨⟨rfl,rfl,Rd.below (SL.of_own HO3.out) hb5⟩,(yH5 HO3.out).mono hz2⟩
    have hlk:LookR W1 L D (some ⟨sb,0,none⟩) W5:=fun S' q' e=>by
     rw [HC.out] at e
     simp only [Option.some.injEq,Prod.mk.injEq] at e
     obtain ⟨rfl,rfl⟩:=e
     exact ⟨sb,lb,rv,rfl,HST3.out.below hb5,HSB.out.1,HSB.out.2.1,HSB.out.2.2⟩
    have hic3:=zL8 (zL8 (zL8 hic (lb:=w.heap.size) (by omega) 0 (.bool true)) (lb:=w.heap.size) (by omega) 1 (.slice ao3 q.files.length ac3)) (lb:=w.heap.size) (by omega) 2 (.int .i64 q.turn)
    have hlk3:=((hlk.set (rb:=w.heap.size) (Nat.le_refl _) (by omega) HFT.out 0 (.bool true)).set (rb:=w.heap.size) (Nat.le_refl _) (by omega) HFT.out 1 (.slice ao3 q.files.length ac3)).set (rb:=w.heap.size) (Nat.le_refl _) (by omega) HFT.out 2 (.int .i64 q.turn)
    exact ⟨some ⟨sb,0,none⟩,⟨true, .slice ao3 q.files.length ac3,q.turn⟩,rfl,hic3.1.below (Below.refl _ _).drew,hic3.2.mono (by omega),(hlk3.mono (w0:=w) (by omega)).below (Below.refl _ _).drew,(((two HB0.out (two HB3.out hb5)).setCell (p:=⟨w.heap.size,0,none⟩) (Nat.le_refl _) _ |>.setCell (p:=⟨w.heap.size,1,none⟩) (Nat.le_refl _) _).setCell (p:=⟨w.heap.size,2,none⟩) (Nat.le_refl _) _).drew⟩
open Go.RowKit Go.Sort
theorem yM4 (qv:Value)(q:Quilt)(w:World)(hq:Quilts w qv q)(hg:GlobI w)(h:zB2 q=0):
 Calls Tryz.prog 56 #[qv] w fun e w' =>∃v,e= .returned v∧w'.ownsRow w.heap.size 109 3 v (zE7 q).length ((zE7 q).flatMap Change.cells)∧Below w.heap.size w w' :=by
 obtain ⟨h1,h2,h3,h4,h5⟩:=yI7 h
 exact vS6 qv q w hq hg (by omega) (fun f hf=>⟨(zV1 (h3 f hf)).2.2.1,(zV1 (h3 f hf)).2.2.2,by have:=vK3 (h3 f hf);omega,by have:=(zV1 (h3 f hf)).2.1;omega⟩) ⟨by omega,h5⟩
theorem uM0 {q:Quilt}(h:zB2 q=0):(zE7 q).length≤1000∧∀c∈zE7 q,c.ok:=by
 obtain ⟨_,f1,l1⟩:=zG5 h
 exact ⟨by omega,fun c hc=>vE2 (f1 c hc).1⟩
theorem uM1 {w w2:World}{L:Dk}{lb sb base many b B:Nat}{rv v:Value}{D:DiskS}{S:StS}{l:List Change}(hs:StD w B sb b many L lb rv D S)(ho:w2.ownsRow base 109 3 v l.length (l.flatMap Change.cells))(hb:w.heap.size≤base):ChangesF (stF L lb sb) w2 v l:=
 ⟨SL.of_own ho,fun a n c e hn hf=>yM8 ho a n c e hn (by have:=hs.lt _ hf;show a.block<base;omega)⟩
structure LaidR (w:World) (L:Dk) (q:Quilt) (w' :World) (L' :Dk) (lb sb:Nat) (rv:Value) (D' :DiskS) (S' :StS):Prop where
 eq:L'.b=L.b
 d:DiskAt w' L' D'
 s:StAt w' sb lb L' S' 34 rv
 off:Off L.foot w w'
 grow:∀x,stF L' lb sb x→L.foot x∨w.heap.size≤x
 sb:w.heap.size≤sb
 rv:far (fun x=>x<w.heap.size) rv
 has:HasQ D' S' q
 ep:S'.h.epoch≤2
theorem xN7 (w0:World)(L:Dk)(D:DiskS)(v:Value)(q:Quilt)(w:World)(h:DiskAt w L D)(hs:Sound D)(hlow:∀x,L.foot x→w0.heap.size≤x)(hg:GlobI w0)(hbw:Below w0.heap.size w0 w)(hq:FilesF L.foot w v q.files)(hgood:zB2 q=0):
 Calls Tryz.prog 28 #[.pointer (some ⟨L.b,0,none⟩), .agg #[v, .int .i64 q.turn]] w fun e w' =>∃L' lb sb rv D' S',e= .returned (.tuple #[.pointer (some ⟨sb,0,none⟩), .nilIface])∧LaidR w L q w' L' lb sb rv D' S' :=by
 obtain ⟨E,e1,e2,e3,e4,E',S',c1,c2,c3⟩:=uO4 hs hgood
 obtain ⟨ao,ac,rfl,_,_⟩:=hq.rd.parts
 obtain ⟨W0,hW0⟩:∃W0,W0=w.alloc (.cells #[.slice ao q.files.length ac, .int .i64 q.turn] 32):=⟨_,rfl⟩
 have HW0:=hid hW0
 have hbw0:Below w.heap.size w W0:=by rw [hW0];exact zA0 _ _
 have HZ0:Hid (W0.heap.size=w.heap.size+1):=hid (by rw [hW0];simp)
 have HBX:Hid (W0.heap[w.heap.size]?=some (.cells #[.slice ao q.files.length ac, .int .i64 q.turn] 32 (0,0))):=hid (by rw [hW0];show (w.heap.push _)[w.heap.size]?=_;simp)
 have HFT:Hid (∀x,L.foot x→x<w.heap.size):=hid h.lt
 have HB00:=hid hbw0
 have CF:=xS6 L D W0 (h.below hbw0) hs.ok hs.wait
 rw [e1] at CF
 dsimp only at CF
 rw [zD2] at CF
 obtain ⟨b,hb⟩:∃b,b=L.b:=⟨_,rfl⟩
 rw [←hb] at CF ⊢
 have HCF:=hid CF
 have HB:=hid hb
 have HG:=hid hg
 have HBW:=hid (two hbw hbw0)
 have HQ:=hid (hq.below hbw0)
 have HLOW:=hid hlow
 have HE:=hid (And.intro e3 (And.intro e4 (And.intro c1 (And.intro c2 c3))))
 have HGD:=hid hgood
 clear CF hb hg hbw hq hlow e1 e2 e3 e4 c1 c2 c3 h hs hgood hW0 hbw0
 go_enter Tryz.func28, Tryz.ntmps28
 go_wp2_with fail
 rw [←HW0.out]
 refine HCF.out.mono ?_
 rintro e w1 ⟨rfl,L1,eL,d1,o1,g1⟩
 have hz:=o1.size
 have hB0:=HBW.out.size
 have hlow1:∀x,L1.foot x→w0.heap.size≤x:=fun x hx=>by
  rcases g1 x hx with h | h
  · exact HLOW.out x h
  · omega
 have heb:L1.b=b:=eL.trans HB.out.symm
 have CO:=hid (uM8 w1 w0.heap.size b 34 L1 E ⟨zY6,0, []⟩ d1 heb HE.out.2.1 HE.out.1 hlow1 (by omega))
 have HQ1:=hid (HQ.out.off o1)
 have HB1:Hid (Below w0.heap.size w0 w1):=hid (HBW.out.trans (o1.below _ hB0 HLOW.out))
 have HO1:=hid o1
 have HG1:=hid g1
 have HZ1:=hid hz
 have HEL:=hid eL
 have HX1:Hid (w1.heap[w.heap.size]?=some (.cells #[.slice ao q.files.length ac, .int .i64 q.turn] 32 (0,0))):=hid (by
  rw [o1.block _ (by have:=HZ0.out;omega) (fun hx=>by have:=HFT.out _ hx;omega)]
  exact HBX.out)
 clear eL d1 o1 g1 hlow1 heb hz
 go_wp2_with fail
 refine CO.out.mono ?_
 rintro e w2 ⟨sb,lb,rv,rfl,hst,hb2,hsb,hlb,hrv⟩
 have HST:=hid hst
 have HB2:=hid hb2
 have HSB:=hid (And.intro hsb (And.intro hlb hrv))
 have CR:=hid (yM4 (.agg #[.slice ao q.files.length ac, .int .i64 q.turn]) q w2 ⟨_,rfl,HQ1.out.rd.below hb2⟩ (HG.out.below (two HB1.out hb2)) HGD.out)
 have hx2:w2.heap[w.heap.size]?=some (.cells #[.slice ao q.files.length ac, .int .i64 q.turn] 32 (0,0)):=by
  rw [hb2.block _ (Array.getElem?_eq_some_iff.1 HX1.out).1]
  exact HX1.out
 have y0:w2.cell? ⟨w.heap.size,0,none⟩=some (.slice ao q.files.length ac):=by simp [World.cell?,hx2]
 have y1:w2.cell? ⟨w.heap.size,1,none⟩=some (.int .i64 q.turn):=by simp [World.cell?,hx2]
 clear hst hb2 hsb hlb hrv hx2
 go_wp2_with fail
 refine CR.out.mono ?_
 rintro e w3 ⟨v3,rfl,ho3,hb3⟩
 have hs3:=HST.out.below hb3
 have hrf:=uM0 HGD.out
 have CC:=zX7 sb lb L1 E ⟨zY6,0, []⟩ 34 rv v3 (zE7 q) w3 hs3.s hs3.d hs3.ok hs3.inv (by decide) (uM1 HST.out ho3 (Nat.le_refl _)) hrf.2 hrf.1
 rw [HE.out.2.2.1] at CC
 dsimp only at CC
 rw [zD2] at CC
 have HCC:=hid CC
 have HB3:=hid hb3
 obtain ⟨ao3,ac3,rfl,_,_⟩:=zD4 ho3
 clear hs3 ho3 hb3 CC hrf y0 y1
 go_wp2_with fail
 refine HCC.out.mono ?_
 rintro e w4 ⟨rfl,L4,lb4,rv4,e4,d4,s4,o4,g4,f4⟩
 have HD4:=hid (And.intro e4 (And.intro d4 s4))
 have HO4:=hid (And.intro o4 (And.intro g4 f4))
 clear e4 d4 s4 o4 g4 f4
 go_wp2_with fail
 refine bodyPost_ret (v:= .tuple #[.pointer (some ⟨sb,0,none⟩), .nilIface]) (by simp [results, Tryz.results28,go_sem]) rfl ?_
 obtain ⟨e4,d4,s4⟩:=HD4.out
 obtain ⟨o4,g4,f4⟩:=HO4.out
 obtain ⟨hsb,hlb,hrv⟩:=HSB.out
 have z0:=HZ0.out
 have z1:=HZ1.out
 have z2:=HB2.out.size
 have z3:=HB3.out.size
 refine ⟨L4,lb4,sb,rv4,E',S',rfl,e4.trans HEL.out,d4,s4,?_,fun x hx=>?_,by omega,?_,HE.out.2.2.2.1,HE.out.2.2.2.2⟩
 · refine ((zB7 HB00.out L.foot).trans HO1.out (fun _ _ h=>h)).trans (zB7 (two HB2.out HB3.out) L.foot) (fun _ _ h=>h) |>.trans o4 (fun x hx hG=>?_)
   rcases hG with hG | hG | hG
   · rcases HG1.out x hG with h | h
     · exact h
     · omega
   · omega
   · omega
 · rcases g4 x hx with hG | h
   · rcases hG with hG | hG | hG
     · rcases HG1.out x hG with h | h
       · exact Or.inl h
       · right;omega
     · right;omega
     · right;omega
   · right;omega
 · rcases f4 with rfl | h
   · exact fun a n c e hn hx=>hrv a n c e hn (by have h6:a.block<w.heap.size:=hx;show a.block<w1.heap.size;omega)
   · exact fun a n c e hn hx=>h a n c e hn (by have h6:a.block<w.heap.size:=hx;show a.block<w3.heap.size;omega)
open Go.RowKit Go.Sort
theorem xU5 {α:Type}{k:Nat}{enc:α→List Value}{w:World}{v:Value}{l:List α}(h:Rd k enc w v l)(hk:0<k):far (fun x=>w.heap.size≤x) v:=(h.outside hk (F:=fun x=>w.heap.size≤x) (fun _ h=>h)).far
theorem yJ7 {F:Nat→Prop}{v:Value}{n:Nat}(h1:far F v)(h2:far (fun x=>n≤x) v){G:Nat→Prop}(hG:∀x,G x→F x∨n≤x):far G v:=fun a m c e hn hx=>by
 rcases hG _ hx with h | h
 · exact h1 a m c e hn h
 · exact h2 a m c e hn h
structure PreT (P:Nat→Prop) (B:Nat) (b:Nat→Nat) (w:World) (tb:Nat) (L:Nat→Dk) (D:Nat→DiskS) (lb sb:Nat→Nat) (rv:Nat→Value) (sp:Nat→Option Addr) (v:Value) (q:Quilt):Prop where
 box:w.heap[tb]?=some (.cells #[.pointer (some ⟨b 0,0,none⟩), .pointer (some ⟨b 1,0,none⟩), .pointer (some ⟨b 2,0,none⟩), .pointer (sp 0), .pointer (sp 1), .pointer (sp 2),v, .int .i64 q.turn] 81 (0,0))
 ds:Disks3 B b w L D
 st:∀k,k<3→P k→∀S q',yF2 (D k)=some (S,q')→sp k=some ⟨sb k,0,none⟩∧StAt w (sb k) (lb k) (L k) S 34 (rv k)
 lt:∀k,k<3→∀x,stF (L k) (lb k) (sb k) x→x<w.heap.size∧B≤x
 ap:∀i j,i<3→j<3→i≠j→∀x,stF (L i) (lb i) (sb i) x→¬stF (L j) (lb j) (sb j) x
 fr:∀i j,i<3→j<3→i≠j→far (stF (L i) (lb i) (sb i)) (rv j)
 rl:∀k,k<3→far (fun x=>w.heap.size≤x) (rv k)
 nt:∀k,k<3→¬stF (L k) (lb k) (sb k) tb
 rt:∀k,k<3→far (fun x=>x=tb) (rv k)
 tB:B≤tb
 qv:Files w v q.files
 qf:∀k,k<3→far (stF (L k) (lb k) (sb k)) v
 qt:far (fun x=>x=tb) v
 rB:∀k,k<3→far (fun x=>x<B) (rv k)
 vB:far (fun x=>x<B) v
section
variable {P:Nat→Prop} {B:Nat} {b:Nat→Nat} {w w' :World} {tb:Nat} {L:Nat→Dk} {D:Nat→DiskS} {lb sb:Nat→Nat} {rv:Nat→Value} {sp:Nat→Option Addr} {v:Value} {q:Quilt}
theorem PreT.tlt (h:PreT P B b w tb L D lb sb rv sp v q):tb<w.heap.size:=(Array.getElem?_eq_some_iff.1 h.box).1
theorem PreT.mono (h:PreT P B b w tb L D lb sb rv sp v q){P' :Nat→Prop}(hP:∀k,k<3→P' k→P k):PreT P' B b w tb L D lb sb rv sp v q:= { h with st:=fun k hk hp=>h.st k hk (hP k hk hp) }
theorem PreT.below (h:PreT P B b w tb L D lb sb rv sp v q)(hb:Below w.heap.size w w'):PreT P B b w' tb L D lb sb rv sp v q where
 box:=by rw [hb.block _ h.tlt];exact h.box
 ds:=h.ds.below hb
 st:=fun k hk hp S q' e=>⟨(h.st k hk hp S q' e).1,(h.st k hk hp S q' e).2.below hb⟩
 lt:=fun k hk x hx=>⟨Nat.lt_of_lt_of_le (h.lt k hk x hx).1 hb.size,(h.lt k hk x hx).2⟩
 ap:=h.ap
 fr:=h.fr
 rl:=fun k hk a n c e hn hx=>h.rl k hk a n c e hn (Nat.le_trans hb.size hx)
 nt:=h.nt
 rt:=h.rt
 tB:=h.tB
 qv:=h.qv.below hb
 qf:=h.qf
 qt:=h.qt
 rB:=h.rB
 vB:=h.vB
theorem PreT.put (h:PreT P B b w tb L D lb sb rv sp v q){k:Nat}(hk:k<3)(hB:B≤w.heap.size){L' :Dk}{D' :DiskS}{lb' sb' :Nat}{rv' :Value}(e:L'.b=(L k).b)(hd:DiskAt w' L' D')(ho:Off (stF (L k) (lb k) (sb k)) w w')
 (hg:∀x,stF L' lb' sb' x→stF (L k) (lb k) (sb k) x∨w.heap.size≤x) (hl:∀x,stF L' lb' sb' x→x<w'.heap.size) (hr:rv' =rv k∨far (fun x=>x<w.heap.size) rv') (hrl:far (fun x=>w'.heap.size≤x) rv'):
 PreT (fun i=>P i∧i≠k) B b w' tb (upd L k L') (upd D k D') (upd lb k lb') (upd sb k sb') (upd rv k rv') sp v q where
 box:=by rw [ho.block _ h.tlt (h.nt k hk)];exact h.box
 ds:=by
  refine ⟨fun i hi=>?_,fun i hi=>?_,fun i hi x hx=>?_,fun i j hi hj hij x hx hx' =>?_⟩
  · by_cases e' :i=k
    · subst e';rw [zA9,zA9];exact hd
    · rw [zD0 _ _ e',zD0 _ _ e']
      exact (h.ds.d i hi).off ho (fun x hx=>h.ap i k hi hk e' x (Or.inl hx))
  · by_cases e' :i=k
    · subst e';rw [zA9,e];exact h.ds.eq i hi
    · rw [zD0 _ _ e'];exact h.ds.eq i hi
  · by_cases e' :i=k
    · subst e'
      rw [zA9] at hx
      rcases hg x (Or.inl hx) with h1 | h1
      · exact (h.lt i hi x h1).2
      · omega
    · rw [zD0 _ _ e'] at hx;exact h.ds.low i hi x hx
  · by_cases ei:i=k
    · subst ei
      have hj' :j≠i:=fun e=>hij e.symm
      rw [zA9] at hx
      rw [zD0 _ _ hj'] at hx'
      rcases hg x (Or.inl hx) with h1 | h1
      · exact h.ap i j hi hj hij x h1 (Or.inl hx')
      · have:=h.ds.lt hj hx';omega
    · rw [zD0 _ _ ei] at hx
      by_cases ej:j=k
      · subst ej
        rw [zA9] at hx'
        rcases hg x (Or.inl hx') with h1 | h1
        · exact h.ap i j hi hj hij x (Or.inl hx) h1
        · have:=h.ds.lt hi hx;omega
      · rw [zD0 _ _ ej] at hx'
        exact h.ds.ap i j hi hj hij x hx hx'
 st:=fun i hi hp S q' e' =>by
  rw [zD0 _ _ hp.2] at e' ⊢
  rw [zD0 _ _ hp.2,zD0 _ _ hp.2,zD0 _ _ hp.2]
  obtain ⟨s1,s2⟩:=h.st i hi hp.1 S q' e'
  exact ⟨s1,s2.off ho (fun x hx=>h.ap i k hi hk hp.2 x hx) (h.fr k i hk hi (fun e=>hp.2 e.symm))⟩
 lt:=fun i hi x hx=>by
  by_cases e' :i=k
  · subst e'
    simp only [zA9] at hx
    refine ⟨hl x hx,?_⟩
    rcases hg x hx with h1 | h1
    · exact (h.lt i hi x h1).2
    · omega
  · simp only [zD0 _ _ e'] at hx
    exact ⟨Nat.lt_of_lt_of_le (h.lt i hi x hx).1 ho.size,(h.lt i hi x hx).2⟩
 ap:=fun i j hi hj hij x hx hx' =>by
  by_cases ei:i=k
  · subst ei
    have hj' :j≠i:=fun e=>hij e.symm
    simp only [zA9] at hx
    simp only [zD0 _ _ hj'] at hx'
    rcases hg x hx with h1 | h1
    · exact h.ap i j hi hj hij x h1 hx'
    · have:=(h.lt j hj x hx').1;omega
  · simp only [zD0 _ _ ei] at hx
    by_cases ej:j=k
    · subst ej
      simp only [zA9] at hx'
      rcases hg x hx' with h1 | h1
      · exact h.ap i j hi hj hij x hx h1
      · have:=(h.lt i hi x hx).1;omega
    · simp only [zD0 _ _ ej] at hx'
      exact h.ap i j hi hj hij x hx hx'
 fr:=fun i j hi hj hij=>by
  by_cases ei:i=k
  · subst ei
    have hj' :j≠i:=fun e=>hij e.symm
    simp only [zA9,zD0 _ _ hj']
    exact yJ7 (h.fr i j hi hj hij) (h.rl j hj) hg
  · simp only [zD0 _ _ ei]
    by_cases ej:j=k
    · subst ej
      simp only [zA9]
      rcases hr with rfl | hr
      · exact h.fr i j hi hj hij
      · exact fun a n c e hn hx=>hr a n c e hn (h.lt i hi _ hx).1
    · simp only [zD0 _ _ ej]
      exact h.fr i j hi hj hij
 rl:=fun i hi=>by
  by_cases ei:i=k
  · subst ei;rw [zA9];exact hrl
  · rw [zD0 _ _ ei];exact fun a n c e hn hx=>h.rl i hi a n c e hn (Nat.le_trans ho.size hx)
 nt:=fun i hi hx=>by
  by_cases ei:i=k
  · subst ei
    simp only [zA9] at hx
    rcases hg _ hx with h1 | h1
    · exact h.nt i hi h1
    · have:=h.tlt;omega
  · simp only [zD0 _ _ ei] at hx;exact h.nt i hi hx
 rt:=fun i hi=>by
  by_cases ei:i=k
  · subst ei
    rw [zA9]
    rcases hr with rfl | hr
    · exact h.rt i hi
    · exact fun a n c e hn hx=>hr a n c e hn (by have h1:a.block=tb:=hx;have:=h.tlt;show a.block<w.heap.size;omega)
  · rw [zD0 _ _ ei];exact h.rt i hi
 tB:=h.tB
 qv:=(RdF.off (F:=stF (L k) (lb k) (sb k)) ⟨h.qv,h.qf k hk⟩ ho).rd
 qf:=fun i hi=>by
  by_cases ei:i=k
  · subst ei
    simp only [zA9]
    exact yJ7 (h.qf i hi) (xU5 h.qv (by decide)) hg
  · simp only [zD0 _ _ ei];exact h.qf i hi
 qt:=h.qt
 rB:=fun i hi=>by
  by_cases ei:i=k
  · subst ei
    rw [zA9]
    rcases hr with rfl | hr
    · exact h.rB i hi
    · exact fun a n c e hn hx=>hr a n c e hn (by have h1:a.block<B:=hx;show a.block<w.heap.size;omega)
  · rw [zD0 _ _ ei];exact h.rB i hi
 vB:=h.vB
theorem PreT.has {k:Nat}(h:PreT (fun i=>P i∧i≠k) B b w tb L D lb sb rv sp v q)(hs:∀S q',yF2 (D k)=some (S,q')→sp k=some ⟨sb k,0,none⟩∧StAt w (sb k) (lb k) (L k) S 34 (rv k)):PreT (fun i=>P i∨i=k) B b w tb L D lb sb rv sp v q:=
 { h with st:=(fun i hi hp=>by
     by_cases e:i=k
     · subst e;exact hs
     · rcases hp with hp | hp
       · exact h.st i hi ⟨hp,e⟩
       · exact absurd hp e) }
theorem PreT.cells (h:PreT P B b w tb L D lb sb rv sp v q)(hO:Off (fun x=>x=tb) w w'){sp' :Nat→Option Addr}{v' :Value}{q' :Quilt}(hb:w'.heap[tb]?=some (.cells #[.pointer (some ⟨b 0,0,none⟩), .pointer (some ⟨b 1,0,none⟩), .pointer (some ⟨b 2,0,none⟩), .pointer (sp' 0), .pointer (sp' 1), .pointer (sp' 2),v', .int .i64 q'.turn] 81 (0,0)))
 (hsp:∀k,k<3→P k→sp' k=sp k) (hv:Files w v' q'.files) (hf:∀k,k<3→far (stF (L k) (lb k) (sb k)) v') (ht:far (fun x=>x=tb) v') (hvB:far (fun x=>x<B) v'):PreT P B b w' tb L D lb sb rv sp' v' q' where
 box:=hb
 ds:=⟨fun k hk=>(h.ds.d k hk).off hO (fun x hx e=>h.nt k hk (by rw [←e];exact Or.inl hx)),h.ds.eq,h.ds.low,h.ds.ap⟩
 st:=fun k hk hp S q' e=>by
  obtain ⟨s1,s2⟩:=h.st k hk hp S q' e
  exact ⟨(hsp k hk hp).trans s1,s2.off hO (fun x hx e=>h.nt k hk (by rw [←e];exact hx)) (h.rt k hk)⟩
 lt:=fun k hk x hx=>⟨Nat.lt_of_lt_of_le (h.lt k hk x hx).1 hO.size,(h.lt k hk x hx).2⟩
 ap:=h.ap
 fr:=h.fr
 rl:=fun k hk a n c e hn hx=>h.rl k hk a n c e hn (Nat.le_trans hO.size hx)
 nt:=h.nt
 rt:=h.rt
 tB:=h.tB
 qv:=(RdF.off (F:=fun x=>x=tb) ⟨hv,ht⟩ hO).rd
 qf:=hf
 qt:=ht
 rB:=h.rB
 vB:=hvB
theorem PreT.lowoff (h:PreT P B b w tb L D lb sb rv sp v q)(hO:Off (fun x=>x<B) w w'):PreT P B b w' tb L D lb sb rv sp v q where
 box:=by rw [hO.block _ h.tlt (fun hx=>by have h1:tb<B:=hx;have:=h.tB;omega)];exact h.box
 ds:=⟨fun k hk=>(h.ds.d k hk).off hO (fun x hx e=>by have h1:x<B:=e;have:=h.ds.low k hk x hx;omega),h.ds.eq,h.ds.low,h.ds.ap⟩
 st:=fun k hk hp S q' e=>by
  obtain ⟨s1,s2⟩:=h.st k hk hp S q' e
  exact ⟨s1,s2.off hO (fun x hx e=>by have h1:x<B:=e;have:=(h.lt k hk x hx).2;omega) (h.rB k hk)⟩
 lt:=fun k hk x hx=>⟨Nat.lt_of_lt_of_le (h.lt k hk x hx).1 hO.size,(h.lt k hk x hx).2⟩
 ap:=h.ap
 fr:=h.fr
 rl:=fun k hk a n c e hn hx=>h.rl k hk a n c e hn (Nat.le_trans hO.size hx)
 nt:=h.nt
 rt:=h.rt
 tB:=h.tB
 qv:=(RdF.off (F:=fun x=>x<B) ⟨h.qv,h.vB⟩ hO).rd
 qf:=h.qf
 qt:=h.qt
 rB:=h.rB
 vB:=h.vB
theorem PreT.cell (h:PreT P B b w tb L D lb sb rv sp v q):w.cell? ⟨tb,0,none⟩=some (.pointer (some ⟨b 0,0,none⟩))∧w.cell? ⟨tb,1,none⟩=some (.pointer (some ⟨b 1,0,none⟩))∧w.cell? ⟨tb,2,none⟩=some (.pointer (some ⟨b 2,0,none⟩))∧w.cell? ⟨tb,3,none⟩=some (.pointer (sp 0))∧w.cell? ⟨tb,4,none⟩=some (.pointer (sp 1))∧w.cell? ⟨tb,5,none⟩=some (.pointer (sp 2))∧w.cell? ⟨tb,6,none⟩=some v∧w.cell? ⟨tb,7,none⟩=some (.int .i64 q.turn)∧∀o,w.frozen? ⟨tb,o,none⟩=false:=
 ⟨by simp [World.cell?,h.box],by simp [World.cell?,h.box],by simp [World.cell?,h.box],by simp [World.cell?,h.box],by simp [World.cell?,h.box],by simp [World.cell?,h.box],by simp [World.cell?,h.box],by simp [World.cell?,h.box],fun o=>by simp [World.frozen?,h.box]⟩
theorem PreT.word {k:Nat}(h:PreT (fun i=>P i∧i≠k) B b w tb L D lb sb rv sp v q)(hk:k<3){s:Option Addr}(hs:∀S q',yF2 (D k)=some (S,q')→s=some ⟨sb k,0,none⟩∧StAt w (sb k) (lb k) (L k) S 34 (rv k)):
 PreT (fun i=>P i∨i=k) B b (w.setCell ⟨tb,3+k,none⟩ (.pointer s)) tb L D lb sb rv (upd sp k s) v q:=by
 have hO:Off (fun x=>x=tb) w (w.setCell ⟨tb,3+k,none⟩ (.pointer s)):=zA7 (F:=fun x=>x=tb) w ⟨tb,3+k,none⟩ rfl _
 have hb:(w.setCell ⟨tb,3+k,none⟩ (.pointer s)).heap[tb]?=some (.cells #[.pointer (some ⟨b 0,0,none⟩), .pointer (some ⟨b 1,0,none⟩), .pointer (some ⟨b 2,0,none⟩), .pointer (upd sp k s 0), .pointer (upd sp k s 1), .pointer (upd sp k s 2),v, .int .i64 q.turn] 81 (0,0)):=by
  rw [zA3 _ _ _ _ h.box]
  match k,hk with
  | 0,_=>rfl
  | 1,_=>rfl
  | 2,_=>rfl
 have h1:=h.cells hO hb (fun i hi hp=>zD0 _ _ hp.2) h.qv h.qf h.qt h.vB
 refine h1.has (fun S q' e=>?_)
 obtain ⟨s1,s2⟩:=hs S q' e
 exact ⟨by rw [zA9,s1],s2.off hO (fun x hx e=>h.nt k hk (by rw [←e];exact hx)) (h.rt k hk)⟩
end
theorem xA2 {w0 w:World}{B:Nat}(hb:Below w0.heap.size w0 w)(h1:w0.heap.size≤B)(h2:B≤w.heap.size)(hg:GlobI w0):∃X,X.heap.size=B∧GlobI X∧Below X.heap.size X w∧Below w0.heap.size w0 X:=by
 have hs:(w.heap.extract 0 B).size=B:=by rw [Array.size_extract];omega
 have hx:∀k,k<B→(w.heap.extract 0 B)[k]?=w.heap[k]?:=fun k hk=>by
  rw [Array.getElem?_extract]
  rw [if_pos (by omega),Nat.zero_add]
 have hbx:Below w0.heap.size w0 { w with heap:=w.heap.extract 0 B }:=⟨hb.os,hb.tape,hb.output,by show w0.heap.size≤(w.heap.extract 0 B).size;omega,fun k hk=>by
  show (w.heap.extract 0 B)[k]?=_
  rw [hx k (by omega)]
  exact hb.block k hk⟩
 refine ⟨{ w with heap:=w.heap.extract 0 B },hs,hg.below hbx,⟨rfl,rfl,rfl,?_,fun k hk=>?_⟩,hbx⟩
 · show (w.heap.extract 0 B).size≤_
   omega
 · have hk' :k<(w.heap.extract 0 B).size:=hk
   show _=(w.heap.extract 0 B)[k]?
   rw [hx k (by omega)]
theorem vX5 {w:World}{L L' :Dk}{lb sb lb' sb' :Nat}(hl:∀x,stF L' lb' sb' x→L.foot x∨w.heap.size≤x):∀x,stF L' lb' sb' x→stF L lb sb x∨w.heap.size≤x:=fun x hx=>(hl x hx).imp Or.inl id
theorem StAt.flt {w:World}{sb lb many:Nat}{L:Dk}{S:StS}{D:DiskS}{rv:Value}(h:StAt w sb lb L S many rv)(hd:DiskAt w L D):∀x,stF L lb sb x→x<w.heap.size:=fun x hx=>by
 rcases hx with hx | hx | hx
 · exact hd.lt _ hx
 · rw [hx];exact (Array.getElem?_eq_some_iff.1 h.log.box).1
 · rw [hx];exact h.lt
theorem StAt.rl {w:World}{sb lb many:Nat}{L:Dk}{S:StS}{rv:Value}(h:StAt w sb lb L S many rv):far (fun x=>w.heap.size≤x) rv:=xU5 h.rows.rd (by decide)
def TF (tb:Nat)(L:Nat→Dk)(lb sb:Nat→Nat):Nat→Prop:=fun x=>x=tb∨∃k,k<3∧stF (L k) (lb k) (sb k) x
theorem zM5 {tb:Nat}{L:Nat→Dk}{lb sb:Nat→Nat}{k:Nat}(hk:k<3){L' :Dk}{lb' sb' :Nat}{w w' :World}(ho:Off (stF (L k) (lb k) (sb k)) w w')(hg:∀x,stF L' lb' sb' x→stF (L k) (lb k) (sb k) x∨w.heap.size≤x):Steps (TF tb L lb sb) w w' (TF tb (upd L k L') (upd lb k lb') (upd sb k sb')):=by
 refine ⟨ho.mono (fun x hx=>Or.inr ⟨k,hk,hx⟩),fun x hx=>?_⟩
 rcases hx with hx | ⟨i,hi,hx⟩
 · exact Or.inl (Or.inl hx)
 · by_cases e:i=k
   · subst e
     simp only [zA9] at hx
     exact (hg x hx).imp (fun h=>Or.inr ⟨i,hi,h⟩) id
   · simp only [zD0 _ _ e] at hx
     exact Or.inl (Or.inr ⟨i,hi,hx⟩)
theorem uH2 {tb:Nat}{L:Nat→Dk}{lb sb:Nat→Nat}{x:Nat}(h:DF L x):TF tb L lb sb x:=by
 obtain ⟨k,hk,hx⟩:=h
 exact Or.inr ⟨k,hk,Or.inl hx⟩
structure TrioQ (n:Nat) (B:Nat) (b:Nat→Nat) (w:World) (tb:Nat) (q:Quilt) (L:Nat→Dk) (D:Nat→DiskS) (S:Nat→StS) (lb sb:Nat→Nat) (rv:Nat→Value) (v:Value):Prop where
 pre:PreT (fun _=>True) B b w tb L D lb sb rv (fun k=>some ⟨sb k,0,none⟩) v q
 has:∀k,k<3→HasQ (D k) (S k) q
 ep:∀k,k<3→(S k).h.epoch≤n
 good:Good q
open Go.RowKit Go.Sort
theorem vL7 (x0 x1 x2:Value)(w:World):(Instr.index 26 (.agg #[x0,x1,x2]) (.int .i64 0)).run Tryz.prog w= .ok x0 w:=by kernel_rfl
theorem vL6 (x0 x1 x2:Value)(w:World):(Instr.index 26 (.agg #[x0,x1,x2]) (.int .i64 1)).run Tryz.prog w= .ok x1 w:=by kernel_rfl
theorem vL5 (x0 x1 x2:Value)(w:World):(Instr.index 26 (.agg #[x0,x1,x2]) (.int .i64 2)).run Tryz.prog w= .ok x2 w:=by kernel_rfl
theorem index_d (b:Nat→Nat)(k:Nat)(hk:k<3)(W:World):(Instr.index 26 (.agg #[.pointer (some ⟨b 0,0,none⟩), .pointer (some ⟨b 1,0,none⟩), .pointer (some ⟨b 2,0,none⟩)]) (.int .i64 k)).run Tryz.prog W= .ok (.pointer (some ⟨b k,0,none⟩)) W:=by
 match k,hk with
 | 0,_=>exact vL7 ..
 | 1,_=>exact vL6 ..
 | 2,_=>exact vL5 ..
theorem xL4 :zB2 ⟨[],1⟩=0:=by decide
theorem uN3 :Good ⟨[],1⟩:=(xQ0 _).1 xL4
theorem vT4 {w:World}{v:Value}(h:Files w v [])(F:Nat→Prop):FilesF F w v []:=by
 refine ⟨h,fun a n c e hn _=>?_⟩
 obtain ⟨_,_,rfl,_,_⟩:=h.parts
 simp only [Value.slice.injEq] at e
 obtain ⟨_,rfl,_⟩:=e
 cases hn
theorem vB5 (w0:World)(b:Nat→Nat)(L:Nat→Dk)(D:Nat→DiskS)(w:World)(h:Disks3 w0.heap.size b w L D)(hs:∀k,k<3→Sound (D k))(hg:GlobI w0)(hbw:Below w0.heap.size w0 w):
 Calls Tryz.prog 24 #[.agg #[.pointer (some ⟨b 0,0,none⟩), .pointer (some ⟨b 1,0,none⟩), .pointer (some ⟨b 2,0,none⟩)]] w fun e w' =>e= .returned .nilIface∧∃L' D',Disks3 w0.heap.size b w' L' D' ∧(∀k,k<3→∃S,HasQ (D' k) S ⟨[],1⟩∧S.h.epoch≤2)∧Below w0.heap.size w0 w' ∧Steps (DF L) w w' (DF L'):=by
 obtain ⟨W1,hW1⟩:∃W1,W1=w.alloc (.cells #[.pointer (some ⟨b 0,0,none⟩), .pointer (some ⟨b 1,0,none⟩), .pointer (some ⟨b 2,0,none⟩)] 26):=⟨_,rfl⟩
 have HW1:=hid hW1
 have hb1:Below w.heap.size w W1:=by rw [hW1];exact zA0 _ _
 have HD:=hid (h.below hb1)
 have HB:=hid (two hbw hb1)
 have HB1:=hid hb1
 have HS:=hid hs
 have HG:=hid hg
 clear hW1 hb1 h hs hg hbw
 go_enter Tryz.func24, Tryz.ntmps24
 go_wp2_with fail
 rw [←HW1.out]
 obtain ⟨L0,hL0⟩:∃L0,L0=L:=⟨_,rfl⟩
 have HL0:=hid hL0
 clear hL0
 go_loopw [8] (fun iv wr=>∃(k:Nat) (L:Nat→Dk) (D:Nat→DiskS),k≤3∧iv= .int .i64 k∧Disks3 w0.heap.size b wr L D∧(∀i,i<3→Sound (D i))∧(∀i,i<k→∃S,HasQ (D i) S ⟨[],1⟩∧S.h.epoch≤2)∧Below w0.heap.size w0 wr∧Steps (DF L0) w wr (DF L)) (fun iv _=>3 - (intOf iv).toNat)
 case atStart=>exact ⟨0,L,D,by omega,rfl,HD.out,HS.out,fun i hi=>by omega,HB.out,by rw [HL0.out];exact ⟨zB7 HB1.out _,fun _ h=>Or.inl h⟩⟩
 case round=>
  obtain ⟨k,L,D,hk,rfl,hd,hs,hh,hbw,hst⟩:=hrel
  have HST:=hid hst
  have HDK:=hid hd
  have HSK:=hid hs
  have HHK:=hid hh
  have HBK:=hid hbw
  clear hd hs hh hbw hst
  by_cases hlt:k<3
  · have hi:=index_d b k hlt
    have CN:=hid (uA2 wr)
    go_wp2_with fail
    refine CN.out.mono ?_
    rintro e w1 ⟨qv,rfl,⟨v,rfl,hv⟩,hb1⟩
    obtain ⟨ao,ac,rfl,_,_⟩:=hv.parts
    have CL:=xN7 w0 (L k) (D k) (.slice ao 0 ac) ⟨[],1⟩ w1 ((HDK.out.d k hlt).below hb1) (HSK.out k hlt) (HDK.out.low k hlt) HG.out (two HBK.out hb1) (vT4 hv _) xL4
    rw [HDK.out.eq k hlt] at CL
    dsimp only at CL
    have HCL:=hid CL
    have HB1:=hid hb1
    clear CL hb1 hv hi
    go_wp2_with fail
    refine HCL.out.mono ?_
    rintro e w2 ⟨L',lb,sb,rv,D',S',rfl,hr⟩
    have HR:=hid hr
    clear hr
    go_wp2_with fail
    go_roundw
    case rel=>
     have hd2:=(HDK.out.below HB1.out).turned hlt (two HBK.out HB1.out).size HR.out.eq HR.out.d HR.out.off (fun x hx=>HR.out.grow x (Or.inl hx))
     refine ⟨k+1,_,_,by omega,by go_num,hd2,fun i hi=>?_,fun i hi=>?_,(two HBK.out HB1.out).trans (HR.out.off.below _ (two HBK.out HB1.out).size (HDK.out.low k hlt)),(HST.out.below HB1.out).trans (vO5 hlt HR.out.off (fun x hx=>HR.out.grow x (Or.inl hx)))⟩
     · by_cases e:i=k
       · subst e;rw [zA9];exact HR.out.has.sound
       · rw [zD0 _ _ e];exact HSK.out i hi
     · by_cases e:i=k
       · subst e;rw [zA9];exact ⟨S',HR.out.has,HR.out.ep⟩
       · rw [zD0 _ _ e];exact HHK.out i (by omega)
    case measure=>simp [intOf];omega
  · obtain rfl:k=3:=by omega
    go_wp2_with fail
    go_ret
    exact ⟨rfl,L,D,HDK.out,HHK.out,HBK.out,by rw [←HL0.out];exact HST.out⟩
open Go.RowKit Go.Sort
attribute [go_sem] vL7 vL6 vL5
def Looks (b:Nat→Nat)(L:Nat→Dk)(D:Nat→DiskS)(w:World):Prop:=∀k,k<3→∀W,Below w.heap.size w W→Calls Tryz.prog 30 #[.pointer (some ⟨b k,0,none⟩)] W fun e w' =>∃sp cv,e= .returned (.tuple #[.pointer sp,cv.val])∧IsCopy w' cv (copyC (D k))∧Fresh W.heap.size cv.v∧LookR W (L k) (D k) sp w' ∧Below W.heap.size W w'
theorem zY2 {B:Nat}{b:Nat→Nat}{L:Nat→Dk}{D:Nat→DiskS}{w:World}(h:Disks3 B b w L D)(hs:∀k,k<3→Sound (D k))(hg:GlobI w):Looks b L D w:=fun k hk W hb=>by
 have:=vW1 (L k) (D k) W ((h.d k hk).below hb) (hs k hk) (hg.below hb)
 rw [h.eq k hk] at this
 exact this
structure CopyTo (D:Nat→DiskS) (B:Nat) (w:World) (tv:TrioV) (k:Nat):Prop where
 sa:∃x y z,tv.a.v= .slice x y z
 sb:∃x y z,tv.b.v= .slice x y z
 sc:∃x y z,tv.c.v= .slice x y z
 fa:0<k→IsCopy w tv.a (copyC (D 0))∧Fresh B tv.a.v
 fb:1<k→IsCopy w tv.b (copyC (D 1))∧Fresh B tv.b.v
 fc:2<k→IsCopy w tv.c (copyC (D 2))∧Fresh B tv.c.v
theorem CopyTo.set {D:Nat→DiskS}{B lb:Nat}{w:World}{tv:TrioV}{k:Nat}(h:CopyTo D B w tv k)(hb:lb<B)(o:Nat)(x:Value):CopyTo D B (w.setCell ⟨lb,o,none⟩ x) tv k:=
 ⟨h.sa,h.sb,h.sc,fun hk=>zL8 (h.fa hk) hb o x,fun hk=>zL8 (h.fb hk) hb o x,fun hk=>zL8 (h.fc hk) hb o x⟩
theorem CopyTo.below {D:Nat→DiskS}{B:Nat}{w w' :World}{tv:TrioV}{k:Nat}(h:CopyTo D B w tv k)(hb:Below w.heap.size w w'):CopyTo D B w' tv k:=
 ⟨h.sa,h.sb,h.sc,fun hk=>⟨(h.fa hk).1.below hb,(h.fa hk).2⟩,fun hk=>⟨(h.fb hk).1.below hb,(h.fb hk).2⟩,fun hk=>⟨(h.fc hk).1.below hb,(h.fc hk).2⟩⟩
theorem zW7 {w:World}{lb:Nat}{x0 x1 x2 x3 x4 x5 x6 x7 x8:Value}{t:TypeId}(h:w.heap[lb]?=some (.cells #[x0,x1,x2,x3,x4,x5,x6,x7,x8] t (0,0))):
 w.cell? ⟨lb,0,none⟩=some x0∧w.cell? ⟨lb,1,none⟩=some x1∧w.cell? ⟨lb,2,none⟩=some x2∧w.cell? ⟨lb,3,none⟩=some x3∧w.cell? ⟨lb,4,none⟩=some x4∧w.cell? ⟨lb,5,none⟩=some x5∧w.cell? ⟨lb,6,none⟩=some x6∧w.cell? ⟨lb,7,none⟩=some x7∧w.cell? ⟨lb,8,none⟩=some x8∧∀o,w.frozen? ⟨lb,o,none⟩=false:=
 ⟨by simp [World.cell?,h],by simp [World.cell?,h],by simp [World.cell?,h],by simp [World.cell?,h],by simp [World.cell?,h],by simp [World.cell?,h],by simp [World.cell?,h],by simp [World.cell?,h],by simp [World.cell?,h],fun o=>by simp [World.frozen?,h]⟩
theorem zO0 (b:Nat→Nat)(L:Nat→Dk)(D:Nat→DiskS)(w:World)(h:Looks b L D w):
 Calls Tryz.prog 17 #[.agg #[.pointer (some ⟨b 0,0,none⟩), .pointer (some ⟨b 1,0,none⟩), .pointer (some ⟨b 2,0,none⟩)]] w fun e w' =>∃tv,e= .returned tv.val∧IsTrio w' tv (zQ4 D)∧(Fresh w.heap.size tv.a.v∧Fresh w.heap.size tv.b.v∧Fresh w.heap.size tv.c.v)∧Below w.heap.size w w' :=by
 obtain ⟨W3,hW3⟩:∃W3,W3=((w.alloc (.cells #[.pointer (some ⟨b 0,0,none⟩), .pointer (some ⟨b 1,0,none⟩), .pointer (some ⟨b 2,0,none⟩)] 26)).alloc (.cells #[.bool false, .slice none 0 0, .int .i64 0, .bool false, .slice none 0 0, .int .i64 0, .bool false, .slice none 0 0, .int .i64 0] 53)).alloc (.cells #[.bool false, .slice none 0 0, .int .i64 0, .bool false, .slice none 0 0, .int .i64 0, .bool false, .slice none 0 0, .int .i64 0] 53):=⟨_,rfl⟩
 have HW3:=hid hW3
 have hb3:Below w.heap.size w W3:=by rw [hW3];exact two (zA0 _ _) (two (zA0 _ _) (zA0 _ _))
 have HB3:=hid hb3
 have HZ3:Hid (W3.heap.size=w.heap.size+3):=hid (by rw [hW3];simp)
 have HBX:Hid (W3.heap[w.heap.size+2]?=some (.cells #[.bool false, .slice none 0 0, .int .i64 0, .bool false, .slice none 0 0, .int .i64 0, .bool false, .slice none 0 0, .int .i64 0] 53 (0,0))):=hid (by rw [hW3];show (((w.heap.push _).push _).push _)[w.heap.size+2]?=_;simp [Array.getElem?_push,Array.getElem_push])
 have HRX:Hid (W3.heap[w.heap.size+1]?=some (.cells #[.bool false, .slice none 0 0, .int .i64 0, .bool false, .slice none 0 0, .int .i64 0, .bool false, .slice none 0 0, .int .i64 0] 53 (0,0))):=hid (by rw [hW3];show (((w.heap.push _).push _).push _)[w.heap.size+1]?=_;simp [Array.getElem?_push,Array.getElem_push])
 have HL:=hid h
 clear hW3 hb3 h
 go_enter Tryz.func17, Tryz.ntmps17
 go_wp2_with fail
 rw [←HW3.out]
 go_loopw [7] (fun iv wr=>∃(k:Nat) (tv:TrioV),k≤3∧iv= .int .i64 k∧wr.heap[w.heap.size+2]?=some (.cells tv.arr 53 (0,0))∧CopyTo D W3.heap.size wr tv k∧Below (w.heap.size+2) W3 wr) (fun iv _=>3 - (intOf iv).toNat)
 case atStart=>exact ⟨0,⟨⟨false, .slice none 0 0,0⟩,⟨false, .slice none 0 0,0⟩,⟨false, .slice none 0 0,0⟩⟩,by omega,rfl,HBX.out,⟨⟨_,_,_,rfl⟩,⟨_,_,_,rfl⟩,⟨_,_,_,rfl⟩,fun h=>by omega,fun h=>by omega,fun h=>by omega⟩,(Below.refl W3.heap.size W3).mono (by have:=HZ3.out;omega)⟩
 case round=>
  obtain ⟨k,⟨⟨a0,av,a2⟩,⟨b0,bv,b2⟩,⟨d0,dv,d2⟩⟩,hk,rfl,hbx,hct,hbw⟩:=hrel
  obtain ⟨a3,a4,a5,e⟩:=hct.sa
  dsimp only at e
  subst e
  obtain ⟨b3,b4,b5,e⟩:=hct.sb
  dsimp only at e
  subst e
  obtain ⟨d3,d4,d5,e⟩:=hct.sc
  dsimp only at e
  subst e
  have HCT:=hid hct
  have HBW:=hid hbw
  have HBK:Hid (wr.heap[w.heap.size+2]?=some (.cells #[.bool a0, .slice a3 a4 a5, .int .i64 a2, .bool b0, .slice b3 b4 b5, .int .i64 b2, .bool d0, .slice d3 d4 d5, .int .i64 d2] 53 (0,0))):=hid hbx
  have HSZ:Hid (W3.heap.size≤wr.heap.size∧w.heap.size+2<wr.heap.size):=hid ⟨hbw.size,(Array.getElem?_eq_some_iff.1 hbx).1⟩
  have HBWW:Hid (Below w.heap.size w wr):=hid (HB3.out.trans (hbw.mono (by omega)))
  clear hbx hct hbw
  obtain rfl | rfl | rfl | rfl:k=0∨k=1∨k=2∨k=3:=by omega
  · have CK:=hid (HL.out 0 (by decide) wr HBWW.out)
    rw [show ((0:Nat):Int)=0 from rfl]
    go_wp2_with fail
    refine CK.out.mono ?_
    rintro e w1 ⟨sp,⟨is,cv,tn⟩,rfl,hic,hfr,_,hb1⟩
    have HIC:=hid hic
    have HFR:=hid hfr
    have HB1:=hid hb1
    obtain ⟨o,c,hv,_,_⟩:=hic.2.2.parts
    dsimp only at hv
    subst hv
    generalize (copyC (D 0)).quilt.files.length=len at *
    simp only [CopyV.val]
    have HBX1:Hid (w1.heap[w.heap.size+2]?=some (.cells #[.bool a0, .slice a3 a4 a5, .int .i64 a2, .bool b0, .slice b3 b4 b5, .int .i64 b2, .bool d0, .slice d3 d4 d5, .int .i64 d2] 53 (0,0))):=hid (by rw [hb1.block _ HSZ.out.2];exact HBK.out)
    obtain ⟨x0,x1,x2,x3,x4,x5,x6,x7,x8,xf⟩:=zW7 HBX1.out
    have hsz1:=hb1.size
    have hsz2:=HSZ.out
    have hsz3:=HZ3.out
    have HCT1:=hid (((HCT.out.below hb1).set (lb:=w.heap.size+2) (by omega) 0 (.bool is)).set (lb:=w.heap.size+2) (by omega) 1 (.slice o len c) |>.set (lb:=w.heap.size+2) (by omega) 2 (.int .i64 tn))
    have HIC1:=hid (zL8 (B:=W3.heap.size) (lb:=w.heap.size+2) (zL8 (B:=W3.heap.size) (lb:=w.heap.size+2) (zL8 (B:=W3.heap.size) (lb:=w.heap.size+2) ⟨hic,hfr.mono (B' :=W3.heap.size) (by omega)⟩ (by omega) 0 (.bool is)) (by omega) 1 (.slice o len c)) (by omega) 2 (.int .i64 tn))
    clear hic hfr hb1 hsz1 hsz2 hsz3
    go_wp2_with fail
    go_roundw
    case rel=>
     refine ⟨1,⟨⟨is, .slice o len c,tn⟩,⟨b0, .slice b3 b4 b5,b2⟩,⟨d0, .slice d3 d4 d5,d2⟩⟩,by omega,rfl,zA3 _ _ _ _ (zA3 _ _ _ _ (zA3 _ _ _ _ HBX1.out)),?_,?_⟩
     · exact ⟨⟨_,_,_,rfl⟩,⟨_,_,_,rfl⟩,⟨_,_,_,rfl⟩,fun _=>HIC1.out,fun h=>by omega,fun h=>by omega⟩
     · exact (((HBW.out.trans (HB1.out.mono (by have:=HSZ.out;omega))).setCell (p:=⟨w.heap.size+2,0,none⟩) (Nat.le_refl _) _).setCell (p:=⟨w.heap.size+2,1,none⟩) (Nat.le_refl _) _).setCell (p:=⟨w.heap.size+2,2,none⟩) (Nat.le_refl _) _
    case measure=>simp [intOf]
  · have CK:=hid (HL.out 1 (by decide) wr HBWW.out)
    rw [show ((1:Nat):Int)=1 from rfl]
    go_wp2_with fail
    refine CK.out.mono ?_
    rintro e w1 ⟨sp,⟨is,cv,tn⟩,rfl,hic,hfr,_,hb1⟩
    have HIC:=hid hic
    have HFR:=hid hfr
    have HB1:=hid hb1
    obtain ⟨o,c,hv,_,_⟩:=hic.2.2.parts
    dsimp only at hv
    subst hv
    generalize (copyC (D 1)).quilt.files.length=len at *
    simp only [CopyV.val]
    have HBX1:Hid (w1.heap[w.heap.size+2]?=some (.cells #[.bool a0, .slice a3 a4 a5, .int .i64 a2, .bool b0, .slice b3 b4 b5, .int .i64 b2, .bool d0, .slice d3 d4 d5, .int .i64 d2] 53 (0,0))):=hid (by rw [hb1.block _ HSZ.out.2];exact HBK.out)
    obtain ⟨x0,x1,x2,x3,x4,x5,x6,x7,x8,xf⟩:=zW7 HBX1.out
    have hsz1:=hb1.size
    have hsz2:=HSZ.out
    have hsz3:=HZ3.out
    have HCT1:=hid (((HCT.out.below hb1).set (lb:=w.heap.size+2) (by omega) 3 (.bool is)).set (lb:=w.heap.size+2) (by omega) 4 (.slice o len c) |>.set (lb:=w.heap.size+2) (by omega) 5 (.int .i64 tn))
    have HIC1:=hid (zL8 (B:=W3.heap.size) (lb:=w.heap.size+2) (zL8 (B:=W3.heap.size) (lb:=w.heap.size+2) (zL8 (B:=W3.heap.size) (lb:=w.heap.size+2) ⟨hic,hfr.mono (B' :=W3.heap.size) (by omega)⟩ (by omega) 3 (.bool is)) (by omega) 4 (.slice o len c)) (by omega) 5 (.int .i64 tn))
    clear hic hfr hb1 hsz1 hsz2 hsz3
    go_wp2_with fail
    go_roundw
    case rel=>
     refine ⟨2,⟨⟨a0, .slice a3 a4 a5,a2⟩,⟨is, .slice o len c,tn⟩,⟨d0, .slice d3 d4 d5,d2⟩⟩,by omega,rfl,zA3 _ _ _ _ (zA3 _ _ _ _ (zA3 _ _ _ _ HBX1.out)),?_,?_⟩
     · exact ⟨⟨_,_,_,rfl⟩,⟨_,_,_,rfl⟩,⟨_,_,_,rfl⟩,fun _=>HCT1.out.fa (by decide),fun _=>HIC1.out,fun h=>by omega⟩
     · exact (((HBW.out.trans (HB1.out.mono (by have:=HSZ.out;omega))).setCell (p:=⟨w.heap.size+2,3,none⟩) (Nat.le_refl _) _).setCell (p:=⟨w.heap.size+2,4,none⟩) (Nat.le_refl _) _).setCell (p:=⟨w.heap.size+2,5,none⟩) (Nat.le_refl _) _
    case measure=>simp [intOf]
  · have CK:=hid (HL.out 2 (by decide) wr HBWW.out)
    rw [show ((2:Nat):Int)=2 from rfl]
    go_wp2_with fail
    refine CK.out.mono ?_
    rintro e w1 ⟨sp,⟨is,cv,tn⟩,rfl,hic,hfr,_,hb1⟩
    have HIC:=hid hic
    have HFR:=hid hfr
    have HB1:=hid hb1
    obtain ⟨o,c,hv,_,_⟩:=hic.2.2.parts
    dsimp only at hv
    subst hv
    generalize (copyC (D 2)).quilt.files.length=len at *
    simp only [CopyV.val]
    have HBX1:Hid (w1.heap[w.heap.size+2]?=some (.cells #[.bool a0, .slice a3 a4 a5, .int .i64 a2, .bool b0, .slice b3 b4 b5, .int .i64 b2, .bool d0, .slice d3 d4 d5, .int .i64 d2] 53 (0,0))):=hid (by rw [hb1.block _ HSZ.out.2];exact HBK.out)
    obtain ⟨x0,x1,x2,x3,x4,x5,x6,x7,x8,xf⟩:=zW7 HBX1.out
    have hsz1:=hb1.size
    have hsz2:=HSZ.out
    have hsz3:=HZ3.out
    have HCT1:=hid (((HCT.out.below hb1).set (lb:=w.heap.size+2) (by omega) 6 (.bool is)).set (lb:=w.heap.size+2) (by omega) 7 (.slice o len c) |>.set (lb:=w.heap.size+2) (by omega) 8 (.int .i64 tn))
    have HIC1:=hid (zL8 (B:=W3.heap.size) (lb:=w.heap.size+2) (zL8 (B:=W3.heap.size) (lb:=w.heap.size+2) (zL8 (B:=W3.heap.size) (lb:=w.heap.size+2) ⟨hic,hfr.mono (B' :=W3.heap.size) (by omega)⟩ (by omega) 6 (.bool is)) (by omega) 7 (.slice o len c)) (by omega) 8 (.int .i64 tn))
    clear hic hfr hb1 hsz1 hsz2 hsz3
    go_wp2_with fail
    go_roundw
    case rel=>
     refine ⟨3,⟨⟨a0, .slice a3 a4 a5,a2⟩,⟨b0, .slice b3 b4 b5,b2⟩,⟨is, .slice o len c,tn⟩⟩,by omega,rfl,zA3 _ _ _ _ (zA3 _ _ _ _ (zA3 _ _ _ _ HBX1.out)),?_,?_⟩
     · exact ⟨⟨_,_,_,rfl⟩,⟨_,_,_,rfl⟩,⟨_,_,_,rfl⟩,fun _=>HCT1.out.fa (by decide),fun _=>HCT1.out.fb (by decide),fun _=>HIC1.out⟩
     · exact (((HBW.out.trans (HB1.out.mono (by have:=HSZ.out;omega))).setCell (p:=⟨w.heap.size+2,6,none⟩) (Nat.le_refl _) _).setCell (p:=⟨w.heap.size+2,7,none⟩) (Nat.le_refl _) _).setCell (p:=⟨w.heap.size+2,8,none⟩) (Nat.le_refl _) _
    case measure=>simp [intOf]
  · rw [show ((3:Nat):Int)=3 from rfl]
    obtain ⟨x0,x1,x2,x3,x4,x5,x6,x7,x8,xf⟩:=zW7 HBK.out
    have HRB:Hid (wr.heap[w.heap.size+1]?=some (.cells #[.bool false, .slice none 0 0, .int .i64 0, .bool false, .slice none 0 0, .int .i64 0, .bool false, .slice none 0 0, .int .i64 0] 53 (0,0))):=hid (by rw [HBW.out.block _ (by omega)];exact HRX.out)
    obtain ⟨y0,y1,y2,y3,y4,y5,y6,y7,y8,yf⟩:=zW7 HRB.out
    go_wp2_with fail
    refine bodyPost_ret (v:= .agg #[.bool a0, .slice a3 a4 a5, .int .i64 a2, .bool b0, .slice b3 b4 b5, .int .i64 b2, .bool d0, .slice d3 d4 d5, .int .i64 d2]) (by simp [results, Tryz.results17,go_sem,y0,y1,y2,y3,y4,y5,y6,y7,y8,yf]) rfl ?_
    have hlt:w.heap.size+1<W3.heap.size:=by have:=HZ3.out;omega
    have hle:w.heap.size≤W3.heap.size:=HB3.out.size
    have hc9:=(((((((((HCT.out.set (lb:=w.heap.size+1) hlt 0 (.bool a0)).set (lb:=w.heap.size+1) hlt 1 (.slice a3 a4 a5)).set (lb:=w.heap.size+1) hlt 2 (.int .i64 a2)).set (lb:=w.heap.size+1) hlt 3 (.bool b0)).set (lb:=w.heap.size+1) hlt 4 (.slice b3 b4 b5)).set (lb:=w.heap.size+1) hlt 5 (.int .i64 b2)).set (lb:=w.heap.size+1) hlt 6 (.bool d0)).set (lb:=w.heap.size+1) hlt 7 (.slice d3 d4 d5)).set (lb:=w.heap.size+1) hlt 8 (.int .i64 d2))
    exact ⟨⟨⟨a0, .slice a3 a4 a5,a2⟩,⟨b0, .slice b3 b4 b5,b2⟩,⟨d0, .slice d3 d4 d5,d2⟩⟩,rfl,⟨(hc9.fa (by decide)).1,(hc9.fb (by decide)).1,(hc9.fc (by decide)).1⟩,⟨(hc9.fa (by decide)).2.mono hle,(hc9.fb (by decide)).2.mono hle,(hc9.fc (by decide)).2.mono hle⟩,(((((((((HBWW.out.setCell (p:=⟨w.heap.size+1,0,none⟩) (Nat.le_succ _) (.bool a0)).setCell (p:=⟨w.heap.size+1,1,none⟩) (Nat.le_succ _) (.slice a3 a4 a5)).setCell (p:=⟨w.heap.size+1,2,none⟩) (Nat.le_succ _) (.int .i64 a2)).setCell (p:=⟨w.heap.size+1,3,none⟩) (Nat.le_succ _) (.bool b0)).setCell (p:=⟨w.heap.size+1,4,none⟩) (Nat.le_succ _) (.slice b3 b4 b5)).setCell (p:=⟨w.heap.size+1,5,none⟩) (Nat.le_succ _) (.int .i64 b2)).setCell (p:=⟨w.heap.size+1,6,none⟩) (Nat.le_succ _) (.bool d0)).setCell (p:=⟨w.heap.size+1,7,none⟩) (Nat.le_succ _) (.slice d3 d4 d5)).setCell (p:=⟨w.heap.size+1,8,none⟩) (Nat.le_succ _) (.int .i64 d2))⟩
open Go.RowKit Go.Sort
theorem yH6 {B:Nat}{v:Value}{F:Nat→Prop}(h:Fresh B v)(hF:∀x,F x→x<B):far F v:=fun a n c e _ hx=>by
 have h1:=h a.block (by rw [e];rfl)
 have h2:=hF _ hx
 omega
theorem zF9 {α:Type}(f:Nat→α)(k:Nat):upd f k (f k)=f:=by
 funext i
 by_cases h:i=k
 · subst h;rw [zA9]
 · rw [zD0 _ _ h]
section
variable {P:Nat→Prop} {B:Nat} {b:Nat→Nat} {w w' w1:World} {tb:Nat} {L:Nat→Dk} {D:Nat→DiskS} {lb sb:Nat→Nat} {rv:Nat→Value} {sp:Nat→Option Addr} {v:Value} {q:Quilt}
theorem PreT.resp (h:PreT P B b w tb L D lb sb rv sp v q){sp' :Nat→Option Addr}(e:∀k,k<3→sp k=sp' k):PreT P B b w tb L D lb sb rv sp' v q:=
 { h with box:=by rw [←e 0 (by decide),←e 1 (by decide),←e 2 (by decide)];exact h.box,st:=fun k hk hp S q' e' =>⟨(e k hk).symm.trans (h.st k hk hp S q' e').1,(h.st k hk hp S q' e').2⟩ }
theorem PreT.looked (h:PreT P B b w tb L D lb sb rv sp v q){k:Nat}(hk:k<3)(hB:B≤w.heap.size){s:Option Addr}(hb:Below w.heap.size w w1)(hl:LookR w (L k) (D k) s w1):
 ∃lb' sb' rv',PreT (fun i=>P i∨i=k) B b (w1.setCell ⟨tb,3+k,none⟩ (.pointer s)) tb L D lb' sb' rv' (upd sp k s) v q∧(∀i,i<3→∀x,stF (L i) (lb' i) (sb' i) x→stF (L i) (lb i) (sb i) x∨w.heap.size≤x):=by
 have hd:=(h.ds.d k hk).below hb
 have hgrow:∀ {lz sz:Nat},(∀x,stF (L k) lz sz x→stF (L k) (lb k) (sb k) x∨w.heap.size≤x)→∀i,i<3→∀x,stF (L i) (upd lb k lz i) (upd sb k sz i) x→stF (L i) (lb i) (sb i) x∨w.heap.size≤x:=fun hg i hi x hx=>by
  by_cases e:i=k
  · subst e
    simp only [zA9] at hx
    exact hg x hx
  · simp only [zD0 _ _ e] at hx
    exact Or.inl hx
 have e1:upd L k (L k)=L:=zF9 L k
 have e2:upd D k (D k)=D:=zF9 D k
 cases hc:yF2 (D k) with
 | none=>
  have hg:∀x,stF (L k) (L k).b (L k).b x→stF (L k) (lb k) (sb k) x∨w.heap.size≤x:=fun x hx=>by
   rcases hx with hx | hx | hx
   · exact Or.inl (Or.inl hx)
   · exact Or.inl (Or.inl (by rw [hx];exact Or.inl rfl))
   · exact Or.inl (Or.inl (by rw [hx];exact Or.inl rfl))
  have h1:=h.put hk hB (L' :=L k) (D' :=D k) (lb' :=(L k).b) (sb' :=(L k).b) (rv' := .slice none 0 0) rfl hd (zB7 hb _) hg (fun x hx=>by
   have h2:(L k).foot x:=by
    rcases hx with hx | hx | hx
    · exact hx
    · rw [hx];exact Or.inl rfl
    · rw [hx];exact Or.inl rfl
   exact hd.lt _ h2) (Or.inr (fun a n c e=>by cases e)) (fun a n c e=>by cases e)
  rw [e1,e2] at h1
  exact ⟨_,_,_,h1.word hk (fun S q' e=>by rw [hc] at e;cases e),hgrow hg⟩
 | some p=>
  obtain ⟨S,q'⟩:=p
  obtain ⟨sz,lz,rz,s1,s2,s3,s4,s5⟩:=hl S q' hc
  have hg:∀x,stF (L k) lz sz x→stF (L k) (lb k) (sb k) x∨w.heap.size≤x:=fun x hx=>by
   rcases hx with hx | hx | hx
   · exact Or.inl (Or.inl hx)
   · exact Or.inr (by omega)
   · exact Or.inr (by omega)
  have h1:=h.put hk hB (L' :=L k) (D' :=D k) (lb' :=lz) (sb' :=sz) (rv' :=rz) rfl hd (zB7 hb _) hg (s2.flt hd) (Or.inr s5) s2.rl
  rw [e1,e2] at h1
  refine ⟨_,_,_,h1.word hk (fun S' q'' e=>?_),hgrow hg⟩
  rw [hc] at e
  simp only [Option.some.injEq,Prod.mk.injEq] at e
  obtain ⟨rfl,rfl⟩:=e
  simp only [zA9]
  exact ⟨s1,s2⟩
theorem PreT.laid (h:PreT P B b w tb L D lb sb rv sp v q){k:Nat}(hk:k<3)(hB:B≤w.heap.size){L' :Dk}{lz sz:Nat}{rz:Value}{D' :DiskS}{S' :StS}(hr:LaidR w (L k) q w1 L' lz sz rz D' S'):
 ∃L'' lb' sb' rv',PreT (fun i=>P i∨i=k) B b (w1.setCell ⟨tb,3+k,none⟩ (.pointer (some ⟨sz,0,none⟩))) tb L'' (upd D k D') lb' sb' rv' (upd sp k (some ⟨sz,0,none⟩)) v q∧(∀i,i<3→∀x,stF (L'' i) (lb' i) (sb' i) x→stF (L i) (lb i) (sb i) x∨w.heap.size≤x):=by
 have h1:=h.put hk hB (L' :=L') (D' :=D') (lb' :=lz) (sb' :=sz) (rv' :=rz) hr.eq hr.d (hr.off.mono (fun x hx=>Or.inl hx)) (vX5 hr.grow) (hr.s.flt hr.d) (Or.inr hr.rv) hr.s.rl
 refine ⟨_,_,_,_,h1.word hk (fun S q' e=>?_),fun i hi x hx=>?_⟩
 · simp only [zA9] at e ⊢
   rw [hr.has.copy] at e
   simp only [Option.some.injEq,Prod.mk.injEq] at e
   obtain ⟨rfl,rfl⟩:=e
   exact ⟨trivial,hr.s⟩
 · by_cases e:i=k
   · subst e
     simp only [zA9] at hx
     exact vX5 hr.grow x hx
   · simp only [zD0 _ _ e] at hx
     exact Or.inl hx
end
def Clear (L:Nat→Dk)(lb sb:Nat→Nat)(x:Nat):Prop:=∀k,k<3→¬stF (L k) (lb k) (sb k) x
theorem Clear.grow {L L' :Nat→Dk}{lb sb lb' sb' :Nat→Nat}{x n:Nat}(h:Clear L lb sb x)(hx:x<n)(hg:∀i,i<3→∀x,stF (L' i) (lb' i) (sb' i) x→stF (L i) (lb i) (sb i) x∨n≤x):Clear L' lb' sb' x:=fun k hk hs=>by
 rcases hg k hk x hs with h1 | h1
 · exact h k hk h1
 · omega
theorem uJ0 {t:Trio}{q:Quilt}{n:Int}(h:n∈zS5 t q):∃k:Nat,k<3∧n=(k:Int):=by
 unfold zS5 zL4 at h
 obtain ⟨k,hk,rfl⟩:=List.mem_map.1 h
 exact ⟨k,List.mem_range.1 (List.mem_filter.1 hk).1,rfl⟩
structure OpenR (w0:World) (b:Nat→Nat) (D:Nat→DiskS) (q:Quilt) (w' :World) (tb:Nat) (L' :Nat→Dk) (D' :Nat→DiskS) (lb sb:Nat→Nat) (rv:Nat→Value) (sp:Nat→Option Addr) (v:Value):Prop where
 pre:PreT (fun _=>True) w0.heap.size b w' tb L' D' lb sb rv sp v q
 right:∀k,k<3→copyC (D k)=⟨true,q⟩→D' k=D k
 laid:∀k,k<3→copyC (D k)≠⟨true,q⟩→∃S,HasQ (D' k) S q∧S.h.epoch≤2
 low:Below w0.heap.size w0 w'
theorem zI6 {w:World}{ao:Option Addr}{n cap:Nat}{l:List Int}(h:Nums w (.slice ao n cap) l)(i:Nat)(hi:i<l.length):∃b off,ao=some ⟨b,off,none⟩∧b<w.heap.size∧w.cell? ⟨b,off+i,none⟩=some (.int .i64 l[i]):=by
 obtain ⟨b,off,e,hb,hc⟩:=Rd.at (enc:=zI0) (fun _=>rfl) (by decide) h i hi
 exact ⟨b,off,e,hb,by have:=hc 0 (.int .i64 l[i]) rfl;simpa using this⟩
end Go.Proofs.YtggpodlecljcbabGreatDoor
