/- The console's words that start a disk anew, or spoil one. Printed by wip/mk_con.py. -/
import Derived.Test.YtggpodlecljcbabGreatDoorKC6
import Derived.Test.YtggpodlecljcbabGreatDoorKC0
import Derived.Test.YtggpodlecljcbabGreatDoorKT0
namespace Go.Proofs.YtggpodlecljcbabGreatDoor
set_option linter.unusedSimpArgs false
set_option linter.unusedVariables false
set_option maxRecDepth 100000
set_option maxHeartbeats 64000000
open Lib (hid)
open Go.RowKit Go.Sort
section
variable (m B:Nat) (W0:World) (b:Nat→Nat) (w:World) (sx tb:Nat) (q:Quilt) (L:Nat→Dk) (D:Nat→DiskS) (S:Nat→StS) (lb sb:Nat→Nat) (rv:Nat→Value) (v:Value)
theorem xI9 (x y:ByteArray)(wb wo wc kx ky:Nat)(h:SessT m B W0 b w sx tb q L D S lb sb rv v)(hg:GlobC W0)(htx:Texts w (.slice (some ⟨wb,wo,none⟩) 3 wc) [zX8,x,y])(hxs:x.size≤1000)(hys:y.size≤1000)(hx:zT9 x=kx)(hy:zT9 y=ky)(hkx:kx<3)(hky:ky≤999):
 Calls Tryz.prog 84 #[.pointer (some ⟨sx,0,none⟩), .slice (some ⟨wb,wo,none⟩) 3 wc] w fun e w' =>e= .returned (.tuple #[.string okT, .bool true])∧∃L',SessT m B W0 b w' sx tb q (upd L kx L') (upd D kx (zC1 (D kx) (ky:Int))) S lb sb rv v∧Steps (SF sx tb L lb sb) w w' (SF sx tb (upd L kx L') lb sb):=by
 have hglob:=hg.below h.bel
 have CN:Hid (∀s:ByteArray,s.size≤1000→∀W,Below w.heap.size w W→Calls Tryz.prog 76 #[.string s] W fun e w' =>e= .returned (.int .i64 (zT9 s))∧Below W.heap.size W w'):=hid (fun s hs W hb=>zP0 s W (hglob.below hb) hs)
 have CX:Hid (∀W,Below w.heap.size w W→Calls Tryz.prog 76 #[.string x] W fun e w' =>e= .returned (.int .i64 (kx:Int))∧Below W.heap.size W w'):=hid (fun W hb=>by have:=CN.out x hxs W hb;rw [hx] at this;exact this)
 have CY:Hid (∀W,Below w.heap.size w W→Calls Tryz.prog 76 #[.string y] W fun e w' =>e= .returned (.int .i64 (ky:Int))∧Below W.heap.size W w'):=hid (fun W hb=>by have:=CN.out y hys W hb;rw [hy] at this;exact this)
 obtain ⟨wb0,wo0,e0,hwl,x0⟩:=Texts.cell htx 0 (by simp)
 cases e0
 obtain ⟨wb1,wo1,e1,_,x1⟩:=Texts.cell htx 1 (by simp)
 cases e1
 obtain ⟨wb2,wo2,e2,_,x2⟩:=Texts.cell htx 2 (by simp)
 cases e2
 have HXC:Hid (∀W,Below w.heap.size w W→W.cell? ⟨wb,wo+0,none⟩=some (.string zX8)∧W.cell? ⟨wb,wo+1,none⟩=some (.string x)∧W.cell? ⟨wb,wo+2,none⟩=some (.string y)):=hid (fun W hb=>⟨zA1 hb x0,zA1 hb x1,zA1 hb x2⟩)
 obtain ⟨_,_,ewc,hwc,hwm⟩:=htx.parts
 cases ewc
 have hwc3:3≤wc:=hwc
 have HH:=hid h
 clear CN x0 x1 x2 hwl htx hx hy hglob hg h hwc
 go_enter Tryz.func84, Tryz.ntmps84
 go_wp2_with fail
 go_loopw [6,14] (fun nv iv wr=>∃k:Nat,k≤2∧iv= .int .i64 k∧wr.ownsRow w.heap.size 3 1 nv k ((([(kx:Int),(ky:Int)]:List Int).take k).flatMap zI0)∧Below w.heap.size w wr∧(0<k→0≤(kx:Int))∧(1<k→0≤(ky:Int))) (fun _ iv _=>2 - (intOf iv).toNat)
 case atStart=>exact ⟨0,by omega,rfl,World.ownsRow_nil _ _ _ _,Below.refl _ _,fun h=>by omega,fun h=>by omega⟩
 case round=>
  obtain ⟨k,hk2,rfl,ho,hbw,hp1,hp2⟩:=hrel
  have HO:=hid ho
  have HBW:=hid hbw
  obtain ⟨lo,lc,rfl,hlc,hlc'⟩:=zD4 ho
  obtain ⟨y0,y1,y2⟩:=HXC.out wr hbw
  have hzz:=hbw.size
  clear ho hbw
  obtain rfl | rfl | rfl:k=0∨k=1∨k=2:=by omega
  · have CJ:=hid (CX.out wr HBW.out)
    rw [show ((0:Nat):Int)=0 from rfl]
    go_wp2_with fail
    refine CJ.out.mono ?_
    rintro e w1 ⟨rfl,hb1⟩
    have HB1:=hid (two HBW.out hb1)
    have HO1:=hid (zE2 HO.out hb1)
    have hz1:=(two HBW.out hb1).size
    clear hb1 y0 y1 y2
    go_wp2_with (at_builtin;refine zB8 yF0 rfl _ _ rfl w.heap.size _ _ _ rfl (HO1.out.alloc _) ⟨w1.heap.size,0,none⟩ 1 1 [.int .i64 (kx:Int)] rfl rfl ?c1 ?c2 ?c3 ?c4 ?_)
    case c1=>exact zL0
    case c2=>intro u hu;simp at hu;subst hu;rfl
    case c3=>omega
    case c4=>simp;omega
    intro v2 w3 ho3 hg3
    have HB3:=hid (zB0 (HB1.out.trans ((zA0 w1 (.cells #[.int .i64 (kx:Int)] 3)).mono hz1)) (HO1.out.alloc _) hg3 (Nat.le_refl _))
    have HO3:Hid (w3.ownsRow w.heap.size 3 1 v2 1 ((([(kx:Int),(ky:Int)]:List Int).take 1).flatMap zI0)):=hid ho3
    obtain ⟨lo2,lc2,rfl,hlc2,hlc2'⟩:=zD4 ho3
    have hnm:Nums w3 (.slice lo2 1 lc2) (([(kx:Int),(ky:Int)]:List Int).take 1):=SL.of_own ho3
    obtain ⟨nb,nf,rfl,hnb,z0⟩:=zI6 hnm 0 (by simp)
    rw [Nat.add_zero] at z0
    simp only [List.take_succ_cons,List.take_zero,List.getElem_cons_zero,List.getElem_cons_succ] at z0
    clear ho3 hg3 hnm hnb
    go_wp2_with fail
    go_roundw
    case rel=>exact ⟨1,by omega,rfl,HO3.out,HB3.out,fun h=>by omega,fun h=>by omega⟩
    case measure=>simp [intOf]
  · have CJ:=hid (CY.out wr HBW.out)
    rw [show ((1:Nat):Int)=1 from rfl]
    go_wp2_with fail
    refine CJ.out.mono ?_
    rintro e w1 ⟨rfl,hb1⟩
    have HB1:=hid (two HBW.out hb1)
    have HO1:=hid (zE2 HO.out hb1)
    have hz1:=(two HBW.out hb1).size
    clear hb1 y0 y1 y2
    go_wp2_with (at_builtin;refine zB8 yF0 rfl _ _ rfl w.heap.size _ _ _ rfl (HO1.out.alloc _) ⟨w1.heap.size,0,none⟩ 1 1 [.int .i64 (ky:Int)] rfl rfl ?c1 ?c2 ?c3 ?c4 ?_)
    case c1=>exact zL0
    case c2=>intro u hu;simp at hu;subst hu;rfl
    case c3=>omega
    case c4=>simp;omega
    intro v2 w3 ho3 hg3
    have HB3:=hid (zB0 (HB1.out.trans ((zA0 w1 (.cells #[.int .i64 (ky:Int)] 3)).mono hz1)) (HO1.out.alloc _) hg3 (Nat.le_refl _))
    have HO3:Hid (w3.ownsRow w.heap.size 3 1 v2 2 ((([(kx:Int),(ky:Int)]:List Int).take 2).flatMap zI0)):=hid ho3
    obtain ⟨lo2,lc2,rfl,hlc2,hlc2'⟩:=zD4 ho3
    have hnm:Nums w3 (.slice lo2 2 lc2) (([(kx:Int),(ky:Int)]:List Int).take 2):=SL.of_own ho3
    obtain ⟨nb,nf,rfl,hnb,z0⟩:=zI6 hnm 1 (by simp)
    skip
    simp only [List.take_succ_cons,List.take_zero,List.getElem_cons_zero,List.getElem_cons_succ] at z0
    clear ho3 hg3 hnm hnb
    go_wp2_with fail
    go_roundw
    case rel=>exact ⟨2,by omega,rfl,HO3.out,HB3.out,fun h=>by omega,fun h=>by omega⟩
    case measure=>simp [intOf]
  · have hnm:Nums wr (.slice lo 2 lc) (([(kx:Int),(ky:Int)]:List Int).take 2):=SL.of_own HO.out
    obtain ⟨nb,nf,rfl,hnb,z0⟩:=zI6 hnm 0 (by simp)
    obtain ⟨nb',nf',e1,_,z1⟩:=zI6 hnm 1 (by simp)
    cases e1
    rw [Nat.add_zero] at z0 y0
    simp only [List.take_succ_cons,List.take_zero,List.getElem_cons_zero,List.getElem_cons_succ] at z0 z1
    have hse:=HH.out.below HBW.out
    obtain ⟨s0,s1,s2,s3,sf⟩:=zG4 hse.box
    rw [show ((2:Nat):Int)=2 from rfl]
    have sk:wr.cell? ⟨sx,kx,none⟩=some (.pointer (some ⟨b kx,0,none⟩)):=by
     obtain rfl | rfl | rfl:kx=0∨kx=1∨kx=2:=by omega
     · exact s0
     · exact s1
     · exact s2
    have hk3:¬(3:Int)≤(kx:Int):=by omega
    clear hnm hnb hse s0 s1 s2
    have CR:Hid (∀W,Below wr.heap.size wr W→Calls Tryz.prog 124 #[.pointer (some ⟨b kx,0,none⟩), .int .u64 (ky:Int)] W fun e w' =>e= .returned (.tuple #[])∧Turned 72 75 W (L kx) (zC1 (D kx) (ky:Int)) w'):=hid (fun W hb=>by
     have hs:=HH.out.below (two HBW.out hb)
     have:=xY3 (L kx) (D kx) (ky:Int) W (hs.t.pre.ds.d kx hkx) (hs.t.has kx hkx).ok (by omega) (by omega) (by have:=(hs.t.has kx hkx).sound.wait;omega)
     rw [hs.t.pre.ds.eq kx hkx] at this
     exact this)
    have hs1:(zX8.toList== [97,114,109])=false:=by decide +kernel
    have hs2:(zX8.toList== [114,101,115,116,97,114,116])=true:=by decide +kernel
    have hwk:IntKind.u64.wrap (ky:Int)=(ky:Int):=by
     unfold IntKind.wrap
     simp [IntKind.signed,IntKind.bits]
     omega
    go_wp2_with fail
    have y0' :wr.drew.cell? ⟨wb,wo,none⟩=_:=y0
    have z1' :wr.drew.cell? ⟨nb,nf+1,none⟩=_:=z1
    go_region
    go_wp2_with fail
    refine (CR.out _ (Below.refl _ _).drew).mono ?_
    rintro e w4 ⟨rfl,ht⟩
    have HT:=hid ht
    clear ht y0 y1 y2 y0' z0 z1 z1' sk
    go_wp2_with fail
    refine bodyPost_ret (v:= .tuple #[.string okT, .bool true]) (by simp [results, Tryz.results84,go_sem,okT]) rfl ?_
    have hbd:Below w.heap.size w wr.drew:=(HBW.out).drew
    obtain ⟨L',h1,h2⟩:=(HH.out.below hbd).restart hkx HT.out
    exact ⟨rfl,L',h1,Steps.after hbd h2⟩
end
section
variable (m B:Nat) (W0:World) (b:Nat→Nat) (w:World) (sx tb:Nat) (q:Quilt) (L:Nat→Dk) (D:Nat→DiskS) (S:Nat→StS) (lb sb:Nat→Nat) (rv:Nat→Value) (v:Value)
theorem vG9 (a0 x y:ByteArray)(wb wo wc:Nat)(kx ky:Int)(h:SessT m B W0 b w sx tb q L D S lb sb rv v)(hg:GlobC W0)(htx:Texts w (.slice (some ⟨wb,wo,none⟩) 3 wc) [a0,x,y])(hxs:x.size≤1000)(hys:y.size≤1000)(hx:zT9 x=kx)(hy:zT9 y=ky)(hkx:kx<0):
 Calls Tryz.prog 84 #[.pointer (some ⟨sx,0,none⟩), .slice (some ⟨wb,wo,none⟩) 3 wc] w fun e w' =>e= .returned (.tuple #[.string ⟨#[]⟩, .bool false])∧Below w.heap.size w w' :=by
 have hglob:=hg.below h.bel
 have CN:Hid (∀s:ByteArray,s.size≤1000→∀W,Below w.heap.size w W→Calls Tryz.prog 76 #[.string s] W fun e w' =>e= .returned (.int .i64 (zT9 s))∧Below W.heap.size W w'):=hid (fun s hs W hb=>zP0 s W (hglob.below hb) hs)
 have CX:Hid (∀W,Below w.heap.size w W→Calls Tryz.prog 76 #[.string x] W fun e w' =>e= .returned (.int .i64 (kx:Int))∧Below W.heap.size W w'):=hid (fun W hb=>by have:=CN.out x hxs W hb;rw [hx] at this;exact this)
 have CY:Hid (∀W,Below w.heap.size w W→Calls Tryz.prog 76 #[.string y] W fun e w' =>e= .returned (.int .i64 (ky:Int))∧Below W.heap.size W w'):=hid (fun W hb=>by have:=CN.out y hys W hb;rw [hy] at this;exact this)
 obtain ⟨wb0,wo0,e0,hwl,x0⟩:=Texts.cell htx 0 (by simp)
 cases e0
 obtain ⟨wb1,wo1,e1,_,x1⟩:=Texts.cell htx 1 (by simp)
 cases e1
 obtain ⟨wb2,wo2,e2,_,x2⟩:=Texts.cell htx 2 (by simp)
 cases e2
 have HXC:Hid (∀W,Below w.heap.size w W→W.cell? ⟨wb,wo+0,none⟩=some (.string a0)∧W.cell? ⟨wb,wo+1,none⟩=some (.string x)∧W.cell? ⟨wb,wo+2,none⟩=some (.string y)):=hid (fun W hb=>⟨zA1 hb x0,zA1 hb x1,zA1 hb x2⟩)
 obtain ⟨_,_,ewc,hwc,hwm⟩:=htx.parts
 cases ewc
 have hwc3:3≤wc:=hwc
 have HH:=hid h
 clear CN x0 x1 x2 hwl htx hx hy hglob hg h hwc
 go_enter Tryz.func84, Tryz.ntmps84
 go_wp2_with fail
 go_loopw [6,14] (fun nv iv wr=>∃k:Nat,k≤2∧iv= .int .i64 k∧wr.ownsRow w.heap.size 3 1 nv k ((([(kx:Int),(ky:Int)]:List Int).take k).flatMap zI0)∧Below w.heap.size w wr∧(0<k→0≤(kx:Int))∧(1<k→0≤(ky:Int))) (fun _ iv _=>2 - (intOf iv).toNat)
 case atStart=>exact ⟨0,by omega,rfl,World.ownsRow_nil _ _ _ _,Below.refl _ _,fun h=>by omega,fun h=>by omega⟩
 case round=>
  obtain ⟨k,hk2,rfl,ho,hbw,hp1,hp2⟩:=hrel
  have HO:=hid ho
  have HBW:=hid hbw
  obtain ⟨lo,lc,rfl,hlc,hlc'⟩:=zD4 ho
  obtain ⟨y0,y1,y2⟩:=HXC.out wr hbw
  have hzz:=hbw.size
  clear ho hbw
  obtain rfl | rfl | rfl:k=0∨k=1∨k=2:=by omega
  · have CJ:=hid (CX.out wr HBW.out)
    rw [show ((0:Nat):Int)=0 from rfl]
    go_wp2_with fail
    refine CJ.out.mono ?_
    rintro e w1 ⟨rfl,hb1⟩
    have HB1:=hid (two HBW.out hb1)
    have HO1:=hid (zE2 HO.out hb1)
    have hz1:=(two HBW.out hb1).size
    clear hb1 y0 y1 y2
    go_wp2_with (at_builtin;refine zB8 yF0 rfl _ _ rfl w.heap.size _ _ _ rfl (HO1.out.alloc _) ⟨w1.heap.size,0,none⟩ 1 1 [.int .i64 (kx:Int)] rfl rfl ?c1 ?c2 ?c3 ?c4 ?_)
    case c1=>exact zL0
    case c2=>intro u hu;simp at hu;subst hu;rfl
    case c3=>omega
    case c4=>simp;omega
    intro v2 w3 ho3 hg3
    have HB3:=hid (zB0 (HB1.out.trans ((zA0 w1 (.cells #[.int .i64 (kx:Int)] 3)).mono hz1)) (HO1.out.alloc _) hg3 (Nat.le_refl _))
    have HO3:Hid (w3.ownsRow w.heap.size 3 1 v2 1 ((([(kx:Int),(ky:Int)]:List Int).take 1).flatMap zI0)):=hid ho3
    obtain ⟨lo2,lc2,rfl,hlc2,hlc2'⟩:=zD4 ho3
    have hnm:Nums w3 (.slice lo2 1 lc2) (([(kx:Int),(ky:Int)]:List Int).take 1):=SL.of_own ho3
    obtain ⟨nb,nf,rfl,hnb,z0⟩:=zI6 hnm 0 (by simp)
    rw [Nat.add_zero] at z0
    simp only [List.take_succ_cons,List.take_zero,List.getElem_cons_zero,List.getElem_cons_succ] at z0
    clear ho3 hg3 hnm hnb
    go_wp2_with fail
    refine bodyPost_ret (v:= .tuple #[.string ⟨#[]⟩, .bool false]) (by simp [results, Tryz.results84,go_sem]) rfl ?_
    exact ⟨rfl,HB3.out⟩
  · omega
  · omega
theorem vG8 (a0 x y:ByteArray)(wb wo wc:Nat)(kx ky:Int)(h:SessT m B W0 b w sx tb q L D S lb sb rv v)(hg:GlobC W0)(htx:Texts w (.slice (some ⟨wb,wo,none⟩) 3 wc) [a0,x,y])(hxs:x.size≤1000)(hys:y.size≤1000)(hx:zT9 x=kx)(hy:zT9 y=ky)(hkx:0≤kx)(hky:ky<0):
 Calls Tryz.prog 84 #[.pointer (some ⟨sx,0,none⟩), .slice (some ⟨wb,wo,none⟩) 3 wc] w fun e w' =>e= .returned (.tuple #[.string ⟨#[]⟩, .bool false])∧Below w.heap.size w w' :=by
 have hglob:=hg.below h.bel
 have CN:Hid (∀s:ByteArray,s.size≤1000→∀W,Below w.heap.size w W→Calls Tryz.prog 76 #[.string s] W fun e w' =>e= .returned (.int .i64 (zT9 s))∧Below W.heap.size W w'):=hid (fun s hs W hb=>zP0 s W (hglob.below hb) hs)
 have CX:Hid (∀W,Below w.heap.size w W→Calls Tryz.prog 76 #[.string x] W fun e w' =>e= .returned (.int .i64 (kx:Int))∧Below W.heap.size W w'):=hid (fun W hb=>by have:=CN.out x hxs W hb;rw [hx] at this;exact this)
 have CY:Hid (∀W,Below w.heap.size w W→Calls Tryz.prog 76 #[.string y] W fun e w' =>e= .returned (.int .i64 (ky:Int))∧Below W.heap.size W w'):=hid (fun W hb=>by have:=CN.out y hys W hb;rw [hy] at this;exact this)
 obtain ⟨wb0,wo0,e0,hwl,x0⟩:=Texts.cell htx 0 (by simp)
 cases e0
 obtain ⟨wb1,wo1,e1,_,x1⟩:=Texts.cell htx 1 (by simp)
 cases e1
 obtain ⟨wb2,wo2,e2,_,x2⟩:=Texts.cell htx 2 (by simp)
 cases e2
 have HXC:Hid (∀W,Below w.heap.size w W→W.cell? ⟨wb,wo+0,none⟩=some (.string a0)∧W.cell? ⟨wb,wo+1,none⟩=some (.string x)∧W.cell? ⟨wb,wo+2,none⟩=some (.string y)):=hid (fun W hb=>⟨zA1 hb x0,zA1 hb x1,zA1 hb x2⟩)
 obtain ⟨_,_,ewc,hwc,hwm⟩:=htx.parts
 cases ewc
 have hwc3:3≤wc:=hwc
 have HH:=hid h
 clear CN x0 x1 x2 hwl htx hx hy hglob hg h hwc
 go_enter Tryz.func84, Tryz.ntmps84
 go_wp2_with fail
 go_loopw [6,14] (fun nv iv wr=>∃k:Nat,k≤2∧iv= .int .i64 k∧wr.ownsRow w.heap.size 3 1 nv k ((([(kx:Int),(ky:Int)]:List Int).take k).flatMap zI0)∧Below w.heap.size w wr∧(0<k→0≤(kx:Int))∧(1<k→0≤(ky:Int))) (fun _ iv _=>2 - (intOf iv).toNat)
 case atStart=>exact ⟨0,by omega,rfl,World.ownsRow_nil _ _ _ _,Below.refl _ _,fun h=>by omega,fun h=>by omega⟩
 case round=>
  obtain ⟨k,hk2,rfl,ho,hbw,hp1,hp2⟩:=hrel
  have HO:=hid ho
  have HBW:=hid hbw
  obtain ⟨lo,lc,rfl,hlc,hlc'⟩:=zD4 ho
  obtain ⟨y0,y1,y2⟩:=HXC.out wr hbw
  have hzz:=hbw.size
  clear ho hbw
  obtain rfl | rfl | rfl:k=0∨k=1∨k=2:=by omega
  · have CJ:=hid (CX.out wr HBW.out)
    rw [show ((0:Nat):Int)=0 from rfl]
    go_wp2_with fail
    refine CJ.out.mono ?_
    rintro e w1 ⟨rfl,hb1⟩
    have HB1:=hid (two HBW.out hb1)
    have HO1:=hid (zE2 HO.out hb1)
    have hz1:=(two HBW.out hb1).size
    clear hb1 y0 y1 y2
    go_wp2_with (at_builtin;refine zB8 yF0 rfl _ _ rfl w.heap.size _ _ _ rfl (HO1.out.alloc _) ⟨w1.heap.size,0,none⟩ 1 1 [.int .i64 (kx:Int)] rfl rfl ?c1 ?c2 ?c3 ?c4 ?_)
    case c1=>exact zL0
    case c2=>intro u hu;simp at hu;subst hu;rfl
    case c3=>omega
    case c4=>simp;omega
    intro v2 w3 ho3 hg3
    have HB3:=hid (zB0 (HB1.out.trans ((zA0 w1 (.cells #[.int .i64 (kx:Int)] 3)).mono hz1)) (HO1.out.alloc _) hg3 (Nat.le_refl _))
    have HO3:Hid (w3.ownsRow w.heap.size 3 1 v2 1 ((([(kx:Int),(ky:Int)]:List Int).take 1).flatMap zI0)):=hid ho3
    obtain ⟨lo2,lc2,rfl,hlc2,hlc2'⟩:=zD4 ho3
    have hnm:Nums w3 (.slice lo2 1 lc2) (([(kx:Int),(ky:Int)]:List Int).take 1):=SL.of_own ho3
    obtain ⟨nb,nf,rfl,hnb,z0⟩:=zI6 hnm 0 (by simp)
    rw [Nat.add_zero] at z0
    simp only [List.take_succ_cons,List.take_zero,List.getElem_cons_zero,List.getElem_cons_succ] at z0
    clear ho3 hg3 hnm hnb
    go_wp2_with fail
    go_roundw
    case rel=>exact ⟨1,by omega,rfl,HO3.out,HB3.out,fun h=>by omega,fun h=>by omega⟩
    case measure=>simp [intOf]
  · have CJ:=hid (CY.out wr HBW.out)
    rw [show ((1:Nat):Int)=1 from rfl]
    go_wp2_with fail
    refine CJ.out.mono ?_
    rintro e w1 ⟨rfl,hb1⟩
    have HB1:=hid (two HBW.out hb1)
    have HO1:=hid (zE2 HO.out hb1)
    have hz1:=(two HBW.out hb1).size
    clear hb1 y0 y1 y2
    go_wp2_with (at_builtin;refine zB8 yF0 rfl _ _ rfl w.heap.size _ _ _ rfl (HO1.out.alloc _) ⟨w1.heap.size,0,none⟩ 1 1 [.int .i64 (ky:Int)] rfl rfl ?c1 ?c2 ?c3 ?c4 ?_)
    case c1=>exact zL0
    case c2=>intro u hu;simp at hu;subst hu;rfl
    case c3=>omega
    case c4=>simp;omega
    intro v2 w3 ho3 hg3
    have HB3:=hid (zB0 (HB1.out.trans ((zA0 w1 (.cells #[.int .i64 (ky:Int)] 3)).mono hz1)) (HO1.out.alloc _) hg3 (Nat.le_refl _))
    have HO3:Hid (w3.ownsRow w.heap.size 3 1 v2 2 ((([(kx:Int),(ky:Int)]:List Int).take 2).flatMap zI0)):=hid ho3
    obtain ⟨lo2,lc2,rfl,hlc2,hlc2'⟩:=zD4 ho3
    have hnm:Nums w3 (.slice lo2 2 lc2) (([(kx:Int),(ky:Int)]:List Int).take 2):=SL.of_own ho3
    obtain ⟨nb,nf,rfl,hnb,z0⟩:=zI6 hnm 1 (by simp)
    skip
    simp only [List.take_succ_cons,List.take_zero,List.getElem_cons_zero,List.getElem_cons_succ] at z0
    clear ho3 hg3 hnm hnb
    go_wp2_with fail
    refine bodyPost_ret (v:= .tuple #[.string ⟨#[]⟩, .bool false]) (by simp [results, Tryz.results84,go_sem]) rfl ?_
    exact ⟨rfl,HB3.out⟩
  · omega
theorem vG7 (a0 x y:ByteArray)(wb wo wc kx ky:Nat)(h:SessT m B W0 b w sx tb q L D S lb sb rv v)(hg:GlobC W0)(htx:Texts w (.slice (some ⟨wb,wo,none⟩) 3 wc) [a0,x,y])(hxs:x.size≤1000)(hys:y.size≤1000)(hx:zT9 x=kx)(hy:zT9 y=ky)(hkx:3≤kx):
 Calls Tryz.prog 84 #[.pointer (some ⟨sx,0,none⟩), .slice (some ⟨wb,wo,none⟩) 3 wc] w fun e w' =>e= .returned (.tuple #[.string (zP3 5), .bool true])∧Below w.heap.size w w' :=by
 have CF:=zH7 5 (by decide) (by decide)
 rw [zA5 (by decide)] at CF
 have HCF:=hid CF
 clear CF
 have hglob:=hg.below h.bel
 have CN:Hid (∀s:ByteArray,s.size≤1000→∀W,Below w.heap.size w W→Calls Tryz.prog 76 #[.string s] W fun e w' =>e= .returned (.int .i64 (zT9 s))∧Below W.heap.size W w'):=hid (fun s hs W hb=>zP0 s W (hglob.below hb) hs)
 have CX:Hid (∀W,Below w.heap.size w W→Calls Tryz.prog 76 #[.string x] W fun e w' =>e= .returned (.int .i64 (kx:Int))∧Below W.heap.size W w'):=hid (fun W hb=>by have:=CN.out x hxs W hb;rw [hx] at this;exact this)
 have CY:Hid (∀W,Below w.heap.size w W→Calls Tryz.prog 76 #[.string y] W fun e w' =>e= .returned (.int .i64 (ky:Int))∧Below W.heap.size W w'):=hid (fun W hb=>by have:=CN.out y hys W hb;rw [hy] at this;exact this)
 obtain ⟨wb0,wo0,e0,hwl,x0⟩:=Texts.cell htx 0 (by simp)
 cases e0
 obtain ⟨wb1,wo1,e1,_,x1⟩:=Texts.cell htx 1 (by simp)
 cases e1
 obtain ⟨wb2,wo2,e2,_,x2⟩:=Texts.cell htx 2 (by simp)
 cases e2
 have HXC:Hid (∀W,Below w.heap.size w W→W.cell? ⟨wb,wo+0,none⟩=some (.string a0)∧W.cell? ⟨wb,wo+1,none⟩=some (.string x)∧W.cell? ⟨wb,wo+2,none⟩=some (.string y)):=hid (fun W hb=>⟨zA1 hb x0,zA1 hb x1,zA1 hb x2⟩)
 obtain ⟨_,_,ewc,hwc,hwm⟩:=htx.parts
 cases ewc
 have hwc3:3≤wc:=hwc
 have HH:=hid h
 clear CN x0 x1 x2 hwl htx hx hy hglob hg h hwc
 go_enter Tryz.func84, Tryz.ntmps84
 go_wp2_with fail
 go_loopw [6,14] (fun nv iv wr=>∃k:Nat,k≤2∧iv= .int .i64 k∧wr.ownsRow w.heap.size 3 1 nv k ((([(kx:Int),(ky:Int)]:List Int).take k).flatMap zI0)∧Below w.heap.size w wr∧(0<k→0≤(kx:Int))∧(1<k→0≤(ky:Int))) (fun _ iv _=>2 - (intOf iv).toNat)
 case atStart=>exact ⟨0,by omega,rfl,World.ownsRow_nil _ _ _ _,Below.refl _ _,fun h=>by omega,fun h=>by omega⟩
 case round=>
  obtain ⟨k,hk2,rfl,ho,hbw,hp1,hp2⟩:=hrel
  have HO:=hid ho
  have HBW:=hid hbw
  obtain ⟨lo,lc,rfl,hlc,hlc'⟩:=zD4 ho
  obtain ⟨y0,y1,y2⟩:=HXC.out wr hbw
  have hzz:=hbw.size
  clear ho hbw
  obtain rfl | rfl | rfl:k=0∨k=1∨k=2:=by omega
  · have CJ:=hid (CX.out wr HBW.out)
    rw [show ((0:Nat):Int)=0 from rfl]
    go_wp2_with fail
    refine CJ.out.mono ?_
    rintro e w1 ⟨rfl,hb1⟩
    have HB1:=hid (two HBW.out hb1)
    have HO1:=hid (zE2 HO.out hb1)
    have hz1:=(two HBW.out hb1).size
    clear hb1 y0 y1 y2
    go_wp2_with (at_builtin;refine zB8 yF0 rfl _ _ rfl w.heap.size _ _ _ rfl (HO1.out.alloc _) ⟨w1.heap.size,0,none⟩ 1 1 [.int .i64 (kx:Int)] rfl rfl ?c1 ?c2 ?c3 ?c4 ?_)
    case c1=>exact zL0
    case c2=>intro u hu;simp at hu;subst hu;rfl
    case c3=>omega
    case c4=>simp;omega
    intro v2 w3 ho3 hg3
    have HB3:=hid (zB0 (HB1.out.trans ((zA0 w1 (.cells #[.int .i64 (kx:Int)] 3)).mono hz1)) (HO1.out.alloc _) hg3 (Nat.le_refl _))
    have HO3:Hid (w3.ownsRow w.heap.size 3 1 v2 1 ((([(kx:Int),(ky:Int)]:List Int).take 1).flatMap zI0)):=hid ho3
    obtain ⟨lo2,lc2,rfl,hlc2,hlc2'⟩:=zD4 ho3
    have hnm:Nums w3 (.slice lo2 1 lc2) (([(kx:Int),(ky:Int)]:List Int).take 1):=SL.of_own ho3
    obtain ⟨nb,nf,rfl,hnb,z0⟩:=zI6 hnm 0 (by simp)
    rw [Nat.add_zero] at z0
    simp only [List.take_succ_cons,List.take_zero,List.getElem_cons_zero,List.getElem_cons_succ] at z0
    clear ho3 hg3 hnm hnb
    go_wp2_with fail
    go_roundw
    case rel=>exact ⟨1,by omega,rfl,HO3.out,HB3.out,fun h=>by omega,fun h=>by omega⟩
    case measure=>simp [intOf]
  · have CJ:=hid (CY.out wr HBW.out)
    rw [show ((1:Nat):Int)=1 from rfl]
    go_wp2_with fail
    refine CJ.out.mono ?_
    rintro e w1 ⟨rfl,hb1⟩
    have HB1:=hid (two HBW.out hb1)
    have HO1:=hid (zE2 HO.out hb1)
    have hz1:=(two HBW.out hb1).size
    clear hb1 y0 y1 y2
    go_wp2_with (at_builtin;refine zB8 yF0 rfl _ _ rfl w.heap.size _ _ _ rfl (HO1.out.alloc _) ⟨w1.heap.size,0,none⟩ 1 1 [.int .i64 (ky:Int)] rfl rfl ?c1 ?c2 ?c3 ?c4 ?_)
    case c1=>exact zL0
    case c2=>intro u hu;simp at hu;subst hu;rfl
    case c3=>omega
    case c4=>simp;omega
    intro v2 w3 ho3 hg3
    have HB3:=hid (zB0 (HB1.out.trans ((zA0 w1 (.cells #[.int .i64 (ky:Int)] 3)).mono hz1)) (HO1.out.alloc _) hg3 (Nat.le_refl _))
    have HO3:Hid (w3.ownsRow w.heap.size 3 1 v2 2 ((([(kx:Int),(ky:Int)]:List Int).take 2).flatMap zI0)):=hid ho3
    obtain ⟨lo2,lc2,rfl,hlc2,hlc2'⟩:=zD4 ho3
    have hnm:Nums w3 (.slice lo2 2 lc2) (([(kx:Int),(ky:Int)]:List Int).take 2):=SL.of_own ho3
    obtain ⟨nb,nf,rfl,hnb,z0⟩:=zI6 hnm 1 (by simp)
    skip
    simp only [List.take_succ_cons,List.take_zero,List.getElem_cons_zero,List.getElem_cons_succ] at z0
    clear ho3 hg3 hnm hnb
    go_wp2_with fail
    go_roundw
    case rel=>exact ⟨2,by omega,rfl,HO3.out,HB3.out,fun h=>by omega,fun h=>by omega⟩
    case measure=>simp [intOf]
  · have hnm:Nums wr (.slice lo 2 lc) (([(kx:Int),(ky:Int)]:List Int).take 2):=SL.of_own HO.out
    obtain ⟨nb,nf,rfl,hnb,z0⟩:=zI6 hnm 0 (by simp)
    rw [Nat.add_zero] at z0
    simp only [List.take_succ_cons,List.take_zero,List.getElem_cons_zero,List.getElem_cons_succ] at z0
    rw [show ((2:Nat):Int)=2 from rfl]
    have hk3:(3:Int)≤(kx:Int):=by omega
    clear hnm hnb
    go_wp2_with fail
    refine (HCF.out _).mono ?_
    rintro e w4 ⟨rfl,rfl⟩
    go_wp2_with fail
    refine bodyPost_ret (v:= .tuple #[.string (zP3 5), .bool true]) (by simp [results, Tryz.results84,go_sem]) rfl ?_
    exact ⟨rfl,HBW.out⟩
end
open Go.RowKit Go.Sort
def zJ5 :ByteArray:=⟨#[115,112,111,105,108,116]⟩
def zT7 (i:Nat)(D:DiskS):DiskS:=(zC5 (zB9 D (i:Int) zJ5).1).1
theorem vA9 {D:DiskS}(h:Calm D){i:Nat}{s:ByteArray}(hi:i<D.now.length)(hs:s.size≤40):zB9 D (i:Int) s=({ D with now:=D.now.set i (zD1 s),wait:=D.wait++ [⟨i,zD1 s⟩] },0):=by
 have h2:(zI5 D).2=0:=by rw [h.step]
 rw [xA7 hi hs h2,h.step]
structure SpoiltR (i:Nat) (D:DiskS):Prop where
 w:(zB9 D (i:Int) zJ5).2=0
 ok:(zB9 D (i:Int) zJ5).1.ok
 f:zC5 (zB9 D (i:Int) zJ5).1=(zT7 i D,0)
 s:Sound (zT7 i D)
 now:(zT7 i D).now=D.now.set i (zD1 zJ5)
theorem vC3 {D:DiskS}(h:Sound D){i:Nat}(hi:i< 60):SpoiltR i D:=by
 have hw:=vA9 h.calm (i:=i) (s:=zJ5) (by rw [h.len];exact hi) (by decide)
 have hc:Calm (zB9 D (i:Int) zJ5).1:=(xM9 _ h.calm _ _).1
 have hok:(zB9 D (i:Int) zJ5).1.ok:=zU4.write _ _ _ h.ok
 have hf:=hc.flush
 have e:zT7 i D= { (zB9 D (i:Int) zJ5).1 with kept:=(zB9 D (i:Int) zJ5).1.now,wait:= [] }:=by unfold zT7;rw [hf]
 have hn:(zB9 D (i:Int) zJ5).1.now=D.now.set i (zD1 zJ5):=by rw [hw]
 have hok2:(zT7 i D).ok:=zU4.flush _ hok
 refine ⟨by rw [hw],hok,by rw [e];exact hf,⟨hok2,(xN0 _ hc).1,?_,?_,by rw [e];exact Nat.zero_le _⟩,by rw [e];exact hn⟩
 · rw [e]
   show ∀s∈(zB9 D (i:Int) zJ5).1.now,s.size=40
   rw [hn]
   intro s hs
   rcases List.mem_or_eq_of_mem_set hs with h1 | h1
   · exact h.s40 s h1
   · rw [h1];exact zN0 _ (by decide)
 · rw [e]
   show (zB9 D (i:Int) zJ5).1.now.length= 60
   rw [hn,List.length_set,h.len]
theorem vF6 :(xC9 (zD1 zJ5) (zD1 zJ5)).epoch=0:=by decide +kernel
theorem vC2 {D:DiskS}(h:Sound D):copyC (zT7 1 (zT7 0 D))=⟨false,zD6⟩:=by
 have s0:=vC3 h (i:=0) (by decide)
 have s1:=vC3 s0.s (i:=1) (by decide)
 have hl:2≤D.now.length:=by rw [h.len];decide
 have e:=s1.now
 rw [s0.now] at e
 refine xM8 (xG5 ?_)
 have g0:(zT7 1 (zT7 0 D)).now.getD 0 ⟨#[]⟩=zD1 zJ5:=by
  rw [e,List.getD_eq_getElem?_getD,List.getElem?_set_ne (by decide),List.getElem?_set_self (by omega)];rfl
 have g1:(zT7 1 (zT7 0 D)).now.getD 1 ⟨#[]⟩=zD1 zJ5:=by
  rw [e,List.getD_eq_getElem?_getD,List.getElem?_set_self (by rw [List.length_set];omega)];rfl
 unfold yP6
 rw [g0,g1]
 simp only [vF6]
 rfl
open Go.RowKit Go.Sort
theorem xZ1 (kx m B:Nat)(W0:World)(b:Nat→Nat)(w:World)(sx tb:Nat)(q:Quilt)(L:Nat→Dk)(D:Nat→DiskS)(S:Nat→StS)(lb sb:Nat→Nat)(rv:Nat→Value)(sp:Nat→Option Addr)(v:Value)(x y:ByteArray)(wb wo wc ky:Nat)(h:SessB kx m B W0 b w sx tb q L D S lb sb rv sp v)(hg:GlobC W0)(htx:Texts w (.slice (some ⟨wb,wo,none⟩) 3 wc) [zQ5,x,y])(hxs:x.size≤1000)(hys:y.size≤1000)(hx:zT9 x=kx)(hy:zT9 y=ky)(hkx:kx<3)(hky:ky< 60):
 Calls Tryz.prog 84 #[.pointer (some ⟨sx,0,none⟩), .slice (some ⟨wb,wo,none⟩) 3 wc] w fun e w' =>e= .returned (.tuple #[.string okT, .bool true])∧∃L',SessB kx m B W0 b w' sx tb q (upd L kx L') (upd D kx (zT7 ky (D kx))) S lb sb rv sp v∧Steps (SF sx tb L lb sb) w w' (SF sx tb (upd L kx L') lb sb):=by
 have HSP:=hid (vC3 h.snd (i:=ky) hky)
 have CDN:=hid (vM6 0 (by decide))
 have hglob:=hg.below h.bel
 have CN:Hid (∀s:ByteArray,s.size≤1000→∀W,Below w.heap.size w W→Calls Tryz.prog 76 #[.string s] W fun e w' =>e= .returned (.int .i64 (zT9 s))∧Below W.heap.size W w'):=hid (fun s hs W hb=>zP0 s W (hglob.below hb) hs)
 have CX:Hid (∀W,Below w.heap.size w W→Calls Tryz.prog 76 #[.string x] W fun e w' =>e= .returned (.int .i64 (kx:Int))∧Below W.heap.size W w'):=hid (fun W hb=>by have:=CN.out x hxs W hb;rw [hx] at this;exact this)
 have CY:Hid (∀W,Below w.heap.size w W→Calls Tryz.prog 76 #[.string y] W fun e w' =>e= .returned (.int .i64 (ky:Int))∧Below W.heap.size W w'):=hid (fun W hb=>by have:=CN.out y hys W hb;rw [hy] at this;exact this)
 obtain ⟨wb0,wo0,e0,hwl,x0⟩:=Texts.cell htx 0 (by simp)
 cases e0
 obtain ⟨wb1,wo1,e1,_,x1⟩:=Texts.cell htx 1 (by simp)
 cases e1
 obtain ⟨wb2,wo2,e2,_,x2⟩:=Texts.cell htx 2 (by simp)
 cases e2
 have HXC:Hid (∀W,Below w.heap.size w W→W.cell? ⟨wb,wo+0,none⟩=some (.string zQ5)∧W.cell? ⟨wb,wo+1,none⟩=some (.string x)∧W.cell? ⟨wb,wo+2,none⟩=some (.string y)):=hid (fun W hb=>⟨zA1 hb x0,zA1 hb x1,zA1 hb x2⟩)
 obtain ⟨_,_,ewc,hwc,hwm⟩:=htx.parts
 cases ewc
 have hwc3:3≤wc:=hwc
 have HH:=hid h
 clear CN x0 x1 x2 hwl htx hx hy hglob hg h hwc
 go_enter Tryz.func84, Tryz.ntmps84
 go_wp2_with fail
 go_loopw [6,14] (fun nv iv wr=>∃k:Nat,k≤2∧iv= .int .i64 k∧wr.ownsRow w.heap.size 3 1 nv k ((([(kx:Int),(ky:Int)]:List Int).take k).flatMap zI0)∧Below w.heap.size w wr∧(0<k→0≤(kx:Int))∧(1<k→0≤(ky:Int))) (fun _ iv _=>2 - (intOf iv).toNat)
 case atStart=>exact ⟨0,by omega,rfl,World.ownsRow_nil _ _ _ _,Below.refl _ _,fun h=>by omega,fun h=>by omega⟩
 case round=>
  obtain ⟨k,hk2,rfl,ho,hbw,hp1,hp2⟩:=hrel
  have HO:=hid ho
  have HBW:=hid hbw
  obtain ⟨lo,lc,rfl,hlc,hlc'⟩:=zD4 ho
  obtain ⟨y0,y1,y2⟩:=HXC.out wr hbw
  have hzz:=hbw.size
  clear ho hbw
  obtain rfl | rfl | rfl:k=0∨k=1∨k=2:=by omega
  · have CJ:=hid (CX.out wr HBW.out)
    rw [show ((0:Nat):Int)=0 from rfl]
    go_wp2_with fail
    refine CJ.out.mono ?_
    rintro e w1 ⟨rfl,hb1⟩
    have HB1:=hid (two HBW.out hb1)
    have HO1:=hid (zE2 HO.out hb1)
    have hz1:=(two HBW.out hb1).size
    clear hb1 y0 y1 y2
    go_wp2_with (at_builtin;refine zB8 yF0 rfl _ _ rfl w.heap.size _ _ _ rfl (HO1.out.alloc _) ⟨w1.heap.size,0,none⟩ 1 1 [.int .i64 (kx:Int)] rfl rfl ?c1 ?c2 ?c3 ?c4 ?_)
    case c1=>exact zL0
    case c2=>intro u hu;simp at hu;subst hu;rfl
    case c3=>omega
    case c4=>simp;omega
    intro v2 w3 ho3 hg3
    have HB3:=hid (zB0 (HB1.out.trans ((zA0 w1 (.cells #[.int .i64 (kx:Int)] 3)).mono hz1)) (HO1.out.alloc _) hg3 (Nat.le_refl _))
    have HO3:Hid (w3.ownsRow w.heap.size 3 1 v2 1 ((([(kx:Int),(ky:Int)]:List Int).take 1).flatMap zI0)):=hid ho3
    obtain ⟨lo2,lc2,rfl,hlc2,hlc2'⟩:=zD4 ho3
    have hnm:Nums w3 (.slice lo2 1 lc2) (([(kx:Int),(ky:Int)]:List Int).take 1):=SL.of_own ho3
    obtain ⟨nb,nf,rfl,hnb,z0⟩:=zI6 hnm 0 (by simp)
    rw [Nat.add_zero] at z0
    simp only [List.take_succ_cons,List.take_zero,List.getElem_cons_zero,List.getElem_cons_succ] at z0
    clear ho3 hg3 hnm hnb
    go_wp2_with fail
    go_roundw
    case rel=>exact ⟨1,by omega,rfl,HO3.out,HB3.out,fun h=>by omega,fun h=>by omega⟩
    case measure=>simp [intOf]
  · have CJ:=hid (CY.out wr HBW.out)
    rw [show ((1:Nat):Int)=1 from rfl]
    go_wp2_with fail
    refine CJ.out.mono ?_
    rintro e w1 ⟨rfl,hb1⟩
    have HB1:=hid (two HBW.out hb1)
    have HO1:=hid (zE2 HO.out hb1)
    have hz1:=(two HBW.out hb1).size
    clear hb1 y0 y1 y2
    go_wp2_with (at_builtin;refine zB8 yF0 rfl _ _ rfl w.heap.size _ _ _ rfl (HO1.out.alloc _) ⟨w1.heap.size,0,none⟩ 1 1 [.int .i64 (ky:Int)] rfl rfl ?c1 ?c2 ?c3 ?c4 ?_)
    case c1=>exact zL0
    case c2=>intro u hu;simp at hu;subst hu;rfl
    case c3=>omega
    case c4=>simp;omega
    intro v2 w3 ho3 hg3
    have HB3:=hid (zB0 (HB1.out.trans ((zA0 w1 (.cells #[.int .i64 (ky:Int)] 3)).mono hz1)) (HO1.out.alloc _) hg3 (Nat.le_refl _))
    have HO3:Hid (w3.ownsRow w.heap.size 3 1 v2 2 ((([(kx:Int),(ky:Int)]:List Int).take 2).flatMap zI0)):=hid ho3
    obtain ⟨lo2,lc2,rfl,hlc2,hlc2'⟩:=zD4 ho3
    have hnm:Nums w3 (.slice lo2 2 lc2) (([(kx:Int),(ky:Int)]:List Int).take 2):=SL.of_own ho3
    obtain ⟨nb,nf,rfl,hnb,z0⟩:=zI6 hnm 1 (by simp)
    skip
    simp only [List.take_succ_cons,List.take_zero,List.getElem_cons_zero,List.getElem_cons_succ] at z0
    clear ho3 hg3 hnm hnb
    go_wp2_with fail
    go_roundw
    case rel=>exact ⟨2,by omega,rfl,HO3.out,HB3.out,fun h=>by omega,fun h=>by omega⟩
    case measure=>simp [intOf]
  · have hnm:Nums wr (.slice lo 2 lc) (([(kx:Int),(ky:Int)]:List Int).take 2):=SL.of_own HO.out
    obtain ⟨nb,nf,rfl,hnb,z0⟩:=zI6 hnm 0 (by simp)
    obtain ⟨nb',nf',e1,_,z1⟩:=zI6 hnm 1 (by simp)
    cases e1
    rw [Nat.add_zero] at z0 y0
    simp only [List.take_succ_cons,List.take_zero,List.getElem_cons_zero,List.getElem_cons_succ] at z0 z1
    have hse:=HH.out.below HBW.out
    obtain ⟨s0,s1,s2,s3,sf⟩:=zG4 hse.box
    rw [show ((2:Nat):Int)=2 from rfl]
    have sk:wr.cell? ⟨sx,kx,none⟩=some (.pointer (some ⟨b kx,0,none⟩)):=by
     obtain rfl | rfl | rfl:kx=0∨kx=1∨kx=2:=by omega
     · exact s0
     · exact s1
     · exact s2
    have hk3:¬(3:Int)≤(kx:Int):=by omega
    clear hnm hnb hse s0 s1 s2
    have CWr:Hid (∀W,Below wr.heap.size wr W→Calls Tryz.prog 8 #[.pointer (some ⟨b kx,0,none⟩), .int .i64 (ky:Int), .string zJ5] W fun e w' =>e= .returned .nilIface∧Turned 72 75 W (L kx) (zB9 (D kx) (ky:Int) zJ5).1 w'):=hid (fun W hb=>by
     have hs:=HH.out.below (two HBW.out hb)
     have:=zN1 (L kx) (D kx) (ky:Int) zJ5 W (hs.pre.ds.d kx hkx) hs.snd.ok (by have:=hs.snd.wait;omega)
     rw [hs.pre.ds.eq kx hkx,HSP.out.w,zD2] at this
     exact this)
    have hs1:(zQ5.toList== [97,114,109])=false:=by decide +kernel
    have hs2:(zQ5.toList== [114,101,115,116,97,114,116])=false:=by decide +kernel
    have hs3:(zQ5.toList== [115,112,111,105,108])=true:=by decide +kernel
    have CDN0:=CDN.out
    simp only [zD2,if_true] at CDN0
    have HCD:=hid CDN0
    clear CDN0
    go_wp2_with fail
    have y0' :wr.drew.cell? ⟨wb,wo,none⟩=_:=y0
    have z1' :wr.drew.cell? ⟨nb,nf+1,none⟩=_:=z1
    go_region
    go_wp2_with fail
    refine (CWr.out _ (Below.refl _ _).drew).mono ?_
    rintro e w4 ⟨rfl,ht⟩
    have hbd:Below w.heap.size w wr.drew:=(HBW.out).drew
    have CFl:Hid (Calls Tryz.prog 9 #[.pointer (some ⟨b kx,0,none⟩)] w4 fun e w' =>e= .returned .nilIface∧Turned 72 75 wr.drew (L kx) (zT7 ky (D kx)) w'):=hid (by
     obtain ⟨L1,e1,d1,o1,g1⟩:=ht
     have hc:=zR7 L1 (zB9 (D kx) (ky:Int) zJ5).1 w4 d1 HSP.out.ok
     rw [HSP.out.f,e1,(HH.out.below hbd).pre.ds.eq kx hkx] at hc
     dsimp only at hc
     rw [zD2] at hc
     refine hc.mono ?_
     rintro e w5 ⟨rfl,ht5⟩
     obtain ⟨L2,e2,d2,o2,g2⟩:=ht5
     exact ⟨rfl,L2,e2.trans e1,d2,o1.trans o2 (fun x hx hG=>by
      rcases g1 x hG with h1 | h1
      · exact h1
      · omega),fun x hx=>by
      rcases g2 x hx with h1 | h1
      · exact g1 x h1
      · exact Or.inr (Nat.le_trans o1.size h1)⟩)
    clear ht y0 y1 y2 y0' z0 z1 z1' sk hbd
    go_wp2_with fail
    refine CFl.out.mono ?_
    rintro e w5 ⟨rfl,ht⟩
    have HT:=hid ht
    clear ht
    go_wp2_with fail
    refine (HCD.out _).mono ?_
    rintro e w6 ⟨rfl,rfl⟩
    go_wp2_with fail
    refine bodyPost_ret (v:= .tuple #[.string okT, .bool true]) (by simp [results, Tryz.results84,go_sem,okT]) rfl ?_
    have hbd:Below w.heap.size w wr.drew:=(HBW.out).drew
    obtain ⟨L',h1,h2⟩:=(HH.out.below hbd).turn hkx HT.out HSP.out.s
    exact ⟨rfl,L',h1,Steps.after hbd h2⟩
end Go.Proofs.YtggpodlecljcbabGreatDoor
