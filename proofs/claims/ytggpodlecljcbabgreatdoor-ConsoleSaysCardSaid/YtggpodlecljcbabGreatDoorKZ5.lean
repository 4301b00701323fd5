/- How a store lies in memory. The walk of store.Open. -/
import Derived.RangeFuncCalls
import Derived.OrdersIn
import Derived.OrdersHeld
import Derived.Deep.RegionHeld
import Derived.ControlIn
import Derived.RangeFuncNested
import Derived.RangeFuncBound
import Derived.RangeFuncLeaves
import Derived.Shelf.Abstract
import Derived.Shelf.RegionOpen
import Derived.WalkKit
import Derived.OwnWalkIn
import Derived.TacticsInMore
import Derived.LoopNIn
import Derived.LoopIn
import Derived.RangeFuncWrites
import Derived.Test.YtggpodlecljcbabGreatDoorKZ
import Derived.Test.YtggpodlecljcbabGreatDoorKSY
import Derived.Test.YtggpodlecljcbabGreatDoorKY7
import Derived.Test.YtggpodlecljcbabGreatDoorKBase
namespace Go.Proofs.YtggpodlecljcbabGreatDoor
set_option linter.unusedSimpArgs false
set_option linter.unusedVariables false
set_option maxRecDepth 100000
set_option maxHeartbeats 64000000
open Lib (hid)
open Go.RowKit Go.Sort
def stF (L:Dk)(lb sb:Nat):Nat→Prop:=fun k=>L.foot k∨k=lb∨k=sb
def yK5 (L:Dk)(h:Hd)(lv rv:Value):Array Value:= #[.pointer (some ⟨L.b,0,none⟩), .int .i64 h.epoch, .int .i64 h.side, .int .i64 h.size, .int .i64 h.first,lv,rv]
structure StAt (w:World) (sb lb:Nat) (L:Dk) (S:StS) (many:Nat) (rv:Value):Prop where
 box:w.heap[sb]?=some (.cells (yK5 L S.h (.pointer (some ⟨lb,0,none⟩)) rv) 143 (0,0))
 log:LogAt w lb L 26 many S.h.first S.next
 rows:ChangesF (stF L lb sb) w rv S.rows
 ls:lb≠sb
 sf:¬L.foot sb
 lf:¬L.foot lb
section
variable {w w' :World} {sb lb:Nat} {L:Dk} {S:StS} {many:Nat} {rv:Value}
theorem StAt.lt (h:StAt w sb lb L S many rv):sb<w.heap.size:=(Array.getElem?_eq_some_iff.1 h.box).1
theorem StAt.below (h:StAt w sb lb L S many rv)(hb:Below w.heap.size w w'):StAt w' sb lb L S many rv:=⟨by rw [hb.block _ h.lt];exact h.box,h.log.below hb,h.rows.below hb,h.ls,h.sf,h.lf⟩
end
theorem zF6 {w:World}{sb:Nat}{L:Dk}{h:Hd}{lv rv:Value}{t:TypeId}(hb:w.heap[sb]?=some (.cells (yK5 L h lv rv) t (0,0))):
 w.cell? ⟨sb,0,none⟩=some (.pointer (some ⟨L.b,0,none⟩))∧w.cell? ⟨sb,1,none⟩=some (.int .i64 h.epoch)∧w.cell? ⟨sb,2,none⟩=some (.int .i64 h.side)∧w.cell? ⟨sb,3,none⟩=some (.int .i64 h.size)∧w.cell? ⟨sb,4,none⟩=some (.int .i64 h.first)∧w.cell? ⟨sb,5,none⟩=some lv∧w.cell? ⟨sb,6,none⟩=some rv∧∀o,w.frozen? ⟨sb,o,none⟩=false:=
 ⟨by simp [World.cell?,hb,yK5],by simp [World.cell?,hb,yK5],by simp [World.cell?,hb,yK5],by simp [World.cell?,hb,yK5],by simp [World.cell?,hb,yK5],by simp [World.cell?,hb,yK5],by simp [World.cell?,hb,yK5],fun o=>by simp [World.frozen?,hb]⟩
theorem xK0 (L:Dk)(D:DiskS)(w:World)(h:DiskAt w L D)(hd:D.down=false)(hok:D.ok)(h40:∀s∈D.now,s.size=40)(hn:42≤D.now.length):
 Calls Tryz.prog 54 #[.pointer (some ⟨L.b,0,none⟩)] w fun e w' =>((yP6 D=none∧e= .returned (.tuple #[.pointer none,zE6 4]))∨∃S sb lb rv,yP6 D=some S∧e= .returned (.tuple #[.pointer (some ⟨sb,0,none⟩), .nilIface])∧StAt w' sb lb L S (D.now.length - 26) rv∧w.heap.size≤sb∧w.heap.size≤lb∧far (fun x=>x<w.heap.size) rv)∧Below w.heap.size w w' :=by
 have hn60:=hok.few
 have CD:=xY4 L D w h
 rw [hd] at CD
 have CDN:=hid CD
 have CS:=hid (zM8 L D w h)
 have HD:=hid h
 have HOK:=hid hok
 have H40:=hid h40
 have HDD:=hid hd
 obtain ⟨b,hb⟩:∃b,b=L.b:=⟨_,rfl⟩
 rw [←hb] at CDN CS ⊢
 have HB:=hid hb
 have h42' :¬(D.now.length:Int)<42:=by omega
 clear h hok h40 hd hb CD
 obtain ⟨W1,hW1⟩:∃W1,W1=w.alloc (.cells (yK5 L zV3 (.pointer none) (.slice none 0 0)) 143):=⟨_,rfl⟩
 have HBX:Hid (W1.heap[w.heap.size]?=some (.cells (yK5 L zV3 (.pointer none) (.slice none 0 0)) 143 (0,0))):=hid (by rw [hW1];show (w.heap.push _)[w.heap.size]?=_;simp)
 have HB1:Hid (Below w.heap.size w W1):=hid (by rw [hW1];exact zA0 _ _)
 have HW1:Hid (W1=w.alloc (.cells #[.pointer (some ⟨b,0,none⟩), .int .i64 0, .int .i64 0, .int .i64 0, .int .i64 0, .pointer none, .slice none 0 0] 143)):=hid (by rw [hW1,HB.out];rfl)
 clear hW1
 have hget:∀k (h:k<D.now.length),D.now.getD k ⟨#[]⟩=D.now[k]:=fun k h=>by rw [List.getD_eq_getElem?_getD,List.getElem?_eq_getElem h];rfl
 have HGET:=hid hget
 clear hget
 go_enter Tryz.func54, Tryz.ntmps54
 go_wp2_with fail
 refine CDN.out.mono ?_
 rintro e w1 ⟨rfl,rfl⟩
 go_wp2_with fail
 refine CS.out.mono ?_
 rintro e w1 ⟨rfl,rfl⟩
 go_wp2_with fail
 rw [←HW1.out]
 go_loopw [30] (fun iv wr=>∃k:Nat,k≤2∧iv= .int .i64 k∧wr.heap[w1.heap.size]?=some (.cells (yK5 L (zQ6 D k) (.pointer none) (.slice none 0 0)) 143 (0,0))∧Below w1.heap.size w1 wr) (fun iv _=>2 - (intOf iv).toNat)
 case atStart=>exact ⟨0,by omega,rfl,HBX.out,HB1.out⟩
 case round=>
  obtain ⟨k,hk,rfl,hbx,hbw⟩:=hrel
  have HBK:=hid hbx
  have HBW:=hid hbw
  clear hbx hbw
  by_cases hlt:k<2
  · have hkl:k<D.now.length:=by omega
    have CR:=xG0 L D (k:Int) wr (HD.out.below HBW.out)
    rw [yY9 HDD.out k hkl] at CR
    have hsz:=H40.out _ (List.getElem_mem hkl)
    have CH:=hid (fun W=>xS5 D.now[k] hsz W)
    obtain ⟨hh,hhd⟩:∃x,x=headOf D.now[k].data.toList:=⟨_,rfl⟩
    obtain ⟨sk,hsk⟩:∃x,x=D.now[k]:=⟨_,rfl⟩
    rw [←hhd] at CH
    rw [←hsk] at CH CR
    obtain ⟨e0,s0,z0,f0⟩:=hh
    simp only [Hd.val] at CH
    obtain ⟨pk,hpk⟩:∃x,x=zQ6 D k:=⟨_,rfl⟩
    have HPK:=hid hpk
    have HBK2:=HBK.out
    rw [←hpk] at HBK2
    obtain ⟨e1,s1,z1,f1⟩:=pk
    have HBK3:=hid HBK2
    clear hpk HBK2
    rw [←HB.out] at CR
    have HCR:Hid (Calls Tryz.prog 90 #[.pointer (some ⟨b,0,none⟩), .int .i64 (k:Int)] wr fun e w' =>e= .returned (.tuple #[.string sk, .nilIface])∧w' =wr):=hid CR
    have HSK:=hid hsk
    have HHD:=hid hhd
    clear CR hsk hhd hsz
    go_wp2_with fail
    refine HCR.out.mono ?_
    rintro e w2 ⟨rfl,rfl⟩
    go_wp2_with fail
    refine (CH.out _).mono ?_
    rintro e w3 ⟨rfl,hb3⟩
    have HB3:=hid hb3
    have hbx3:∀o,(w3.alloc o).heap[w1.heap.size]?=some (.cells (yK5 L ⟨e1,s1,z1,f1⟩ (.pointer none) (.slice none 0 0)) 143 (0,0)):=fun o=>by
     rw [(two hb3 (zA0 _ o)).block _ (Array.getElem?_eq_some_iff.1 HBK3.out).1]
     exact HBK3.out
    have y1:∀o,(w3.alloc o).cell? ⟨w1.heap.size,1,none⟩=some (.int .i64 e1):=fun o=>(zF6 (hbx3 o)).2.1
    have y2:∀o,(w3.alloc o).cell? ⟨w1.heap.size,2,none⟩=some (.int .i64 s1):=fun o=>(zF6 (hbx3 o)).2.2.1
    have y3:∀o,(w3.alloc o).cell? ⟨w1.heap.size,3,none⟩=some (.int .i64 z1):=fun o=>(zF6 (hbx3 o)).2.2.2.1
    have y4:∀o,(w3.alloc o).cell? ⟨w1.heap.size,4,none⟩=some (.int .i64 f1):=fun o=>(zF6 (hbx3 o)).2.2.2.2.1
    have yf:∀o j,(w3.alloc o).frozen? ⟨w1.heap.size,j,none⟩=false:=fun o j=>(zF6 (hbx3 o)).2.2.2.2.2.2.2 j
    have HBX3:=hid hbx3
    clear hb3 hbx3
    by_cases hgt:e1<e0
    · have hgt' :(e1:Int)<(e0:Int):=by omega
      go_wp2_with fail
      go_region
      go_wp2_with fail
      have hpn:zQ6 D (k+1)=⟨e0,s0,z0,f0⟩:=by
       show (if (zQ6 D k).epoch<(headOf (D.now.getD k ⟨#[]⟩).data.toList).epoch then _ else _)=_
       rw [←HPK.out,HGET.out k hkl,←HHD.out,if_pos hgt]
      go_roundw
      case rel=>
       refine ⟨k+1,by omega,by go_num,?_,?_⟩
       · rw [hpn]
         exact zA3 _ _ _ _ (zA3 _ _ _ _ (zA3 _ _ _ _ (zA3 _ _ _ _ (HBX3.out _))))
       · exact ((((((HBW.out.trans (HB3.out.mono HBW.out.size)).alloc (by have:=HBW.out.size;have:=HB3.out.size;omega) _).setCell (p:=⟨w1.heap.size,1,none⟩) (Nat.le_refl _) _).setCell (p:=⟨w1.heap.size,2,none⟩) (Nat.le_refl _) _).setCell (p:=⟨w1.heap.size,3,none⟩) (Nat.le_refl _) _).setCell (p:=⟨w1.heap.size,4,none⟩) (Nat.le_refl _) _).drew
      case measure=>simp [intOf];omega
    · have hgt' :¬(e1:Int)<(e0:Int):=by omega
      go_wp2_with fail
      go_region
      go_wp2_with fail
      have hpn:zQ6 D (k+1)=⟨e1,s1,z1,f1⟩:=by
       show (if (zQ6 D k).epoch<(headOf (D.now.getD k ⟨#[]⟩).data.toList).epoch then _ else _)=_
       rw [←HPK.out,HGET.out k hkl,←HHD.out,if_neg hgt]
      go_roundw
      case rel=>
       refine ⟨k+1,by omega,by go_num,?_,?_⟩
       · rw [hpn];exact HBX3.out _
       · exact ((HBW.out.trans (HB3.out.mono HBW.out.size)).alloc (by have:=HBW.out.size;have:=HB3.out.size;omega) _).drew
      case measure=>simp [intOf];omega
  · obtain rfl:k=2:=by omega
    obtain ⟨H,hH⟩:∃x,x=zQ6 D 2:=⟨_,rfl⟩
    obtain ⟨l1,l2,l3,l4,l5⟩:=yT5 D 2
    have HBK2:=HBK.out
    rw [←hH] at l1 l2 l3 l4 l5 HBK2
    have hpk:xC9 (D.now.getD 0 ⟨#[]⟩) (D.now.getD 1 ⟨#[]⟩)=H:=by rw [hH];rfl
    obtain ⟨e1,s1,z1,f1⟩:=H
    dsimp only at l1 l2 l3 l4 l5
    obtain ⟨OZ,hOZ⟩:∃x,x=yP6 D:=⟨_,rfl⟩
    have hoz:=hOZ
    unfold yP6 at hoz
    simp only [hpk] at hoz
    have HOZ:=hid hoz
    have HOE:=hid hOZ
    have HBX:=hid HBK2
    obtain ⟨c0,c1,c2,c3,c4,c5,c6,cf⟩:=zF6 HBK2
    have HL5:=hid l5
    clear hH hpk hoz hOZ HBK2 HBK l5
    by_cases he1:e1=0
    · have hz:OZ=none:=by rw [HOZ.out,if_pos he1]
      have HZ:=hid hz
      subst he1
      clear hz
      go_wp2_with fail
      refine bodyPost_ret (v:= .tuple #[.pointer none,zE6 4]) (by simp [results, Tryz.results54,go_sem,zA5]) rfl ?_
      exact ⟨Or.inl ⟨HOE.out.symm.trans HZ.out,rfl⟩,HBW.out⟩
    have he1' :((e1:Int)==0)=false:=by simp;omega
    go_wp2_with fail
    obtain ⟨wx,hwx⟩:∃wx:World,wx=wr:=⟨_,rfl⟩
    subst hwx
    go_loopw [9,64] (fun tv iv wr=>∃(j:Nat) (T:ByteArray),j≤12∧iv= .int .i64 j∧tv= .string T∧T.data.toList=xE9 D s1 j∧wr.heap[w1.heap.size]?=some (.cells (yK5 L ⟨e1,s1,z1,f1⟩ (.pointer none) (.slice none 0 0)) 143 (0,0))∧Below w1.heap.size w1 wr) (fun _ iv _=>12 - (intOf iv).toNat)
    case atStart=>exact ⟨0,⟨#[]⟩,by omega,rfl,rfl,by simp [xE9],HBX.out,HBW.out⟩
    case round=>
     obtain ⟨j,T,hj,rfl,rfl,hT,hbt,hbw2⟩:=hrel
     have hTl:=xM0 D s1 H40.out j (by omega)
     rw [←hT,zI7] at hTl
     have HT:=hid hT
     have HBT:=hid hbt
     have HBW2:=hid hbw2
     clear c0 c1 c2 c3 c4 c5 c6 cf HBX HBW
     obtain ⟨c0,c1,c2,c3,c4,c5,c6,cf⟩:=zF6 hbt
     clear hT hbt hbw2
     by_cases hjl:j<12
     · have hkl:2+s1 * 12+j<D.now.length:=by omega
       have CR:=xG0 L D ((2+s1 * 12+j:Nat):Int) wr (HD.out.below HBW2.out)
       rw [yY9 HDD.out _ hkl] at CR
       have hsz:=H40.out _ (List.getElem_mem hkl)
       have hnx:=xE8 D s1 j hkl
       obtain ⟨X,hX⟩:∃x,x=D.now[2+s1 * 12+j]:=⟨_,rfl⟩
       rw [←hX] at CR hsz hnx
       rw [←HB.out] at CR
       have hcast:((2+s1 * 12+j:Nat):Int)=2+(s1:Int) * 12+(j:Int):=by omega
       rw [hcast] at CR
       have HCR:Hid (Calls Tryz.prog 90 #[.pointer (some ⟨b,0,none⟩), .int .i64 (2+(s1:Int) * 12+(j:Int))] wr fun e w' =>e= .returned (.tuple #[.string X, .nilIface])∧w' =wr):=hid CR
       have HNX:=hid hnx
       have hTX:(T++X).size=40 * j+40:=by rw [ByteArray.size_append,hTl,hsz]
       clear CR hcast hX hnx
       go_wp2_with fail
       refine HCR.out.mono ?_
       rintro e w2 ⟨rfl,rfl⟩
       go_wp2_with fail
       go_roundw
       case rel=>exact ⟨j+1,T++X,by omega,by go_num,rfl,by rw [HNX.out,←HT.out];simp [ByteArray.append_eq,ByteArray.data_append],HBT.out,HBW2.out⟩
       case measure=>simp [intOf];omega
     obtain rfl:j=12:=by omega
     have hz1:(T.extract 0 z1).size=z1:=by rw [ByteArray.size_extract];omega
     have CPS:=hid (vC0 (T.extract 0 z1) wr (by omega))
     have hdat:(T.extract 0 z1).data.toList=(yA1 D s1).take z1:=by rw [zH6,HT.out];rfl
     have HDAT:=hid hdat
     have hz1' :z1≤T.size:=by omega
     clear hdat hz1
     go_wp2_with fail
     refine CPS.out.mono ?_
     rintro e wp ⟨⟨hpn,rfl⟩ | ⟨l,v,hps,rfl,hcv,hrl,hll⟩,hbp⟩
     · have hz:OZ=none:=by
        rw [HOZ.out,if_neg he1]
        rw [HDAT.out] at hpn
        simp only [hpn]
       have HZ:=hid hz
       have HBP:=hid (two HBW2.out hbp)
       clear hz hpn hbp
       go_wp2_with fail
       refine bodyPost_ret (v:= .tuple #[.pointer none,zE6 4]) (by simp [results, Tryz.results54,go_sem,zA5]) rfl ?_
       exact ⟨Or.inl ⟨HOE.out.symm.trans HZ.out,rfl⟩,HBP.out⟩
     have hfr1:1≤f1:=HL5.out he1
     have HBP:=hid (two HBW2.out hbp)
     have HBXP:Hid (wp.heap[w1.heap.size]?=some (.cells (yK5 L ⟨e1,s1,z1,f1⟩ (.pointer none) (.slice none 0 0)) 143 (0,0))):=hid (by rw [hbp.block _ (Array.getElem?_eq_some_iff.1 HBT.out).1];exact HBT.out)
     have HCV:Hid (ChangesF (fun x=>x<wr.heap.size) wp v l):=hid hcv
     have HRL:Hid (RisesX l∧l.length≤160):=hid ⟨hrl,hll⟩
     have HSB:Hid (w1.heap.size<wr.heap.size∧wr.heap.size≤wp.heap.size):=hid ⟨(Array.getElem?_eq_some_iff.1 HBT.out).1,hbp.size⟩
     obtain ⟨vo,vc,rfl,hvc,hvc'⟩:=hcv.rd.parts
     have HPS:Hid (zJ2 481 ((yA1 D s1).take z1) []=some l):=hid (by rw [←HDAT.out];exact hps)
     clear hcv hrl hll hps hbp c0 c1 c2 c3 c4 c5 c6 cf
     obtain ⟨c0,c1,c2,c3,c4,c5,c6,cf⟩:=zF6 HBXP.out
     have d4:wp.drew.cell? ⟨w1.heap.size,4,none⟩=some (.int .i64 f1):=c4
     have HCS2:Hid (∀W,Below wp.heap.size wp W→Calls Tryz.prog 87 #[.pointer (some ⟨b,0,none⟩)] W fun e w' =>e= .returned (.int .i64 D.now.length)∧w' =W):=hid (fun W hW=>by
      have:=zM8 L D W (HD.out.below (two HBP.out hW))
      rw [←HB.out] at this
      exact this)
     obtain ⟨⟨ds,used⟩,hcl⟩:∃p,p=zC4 f1 (zB1 D 26 (D.now.length - 26)) 0 [] [] 0:=⟨_,rfl⟩
     have HCL:Hid (∀W,Below wp.heap.size wp W→Calls Tryz.prog 93 #[.pointer (some ⟨b,0,none⟩), .int .i64 26, .int .i64 ((D.now.length:Int) - 26), .int .i64 f1] W fun e w' =>∃lb v,e= .returned (.tuple #[.pointer (some ⟨lb,0,none⟩),v, .nilIface])∧LogAt w' lb L 26 (D.now.length - 26) f1 used∧W.heap.size≤lb∧Deeds (fun x=>x<W.heap.size∨x=lb) w' v ds∧Below W.heap.size W w'):=hid (fun W hW=>by
      have:=vL1 L D 26 (D.now.length - 26) f1 W (HD.out.below (two HBP.out hW)) HDD.out HOK.out H40.out (by omega) (by omega) hfr1 (by omega)
      rw [←hcl,←HB.out,show ((D.now.length - 26:Nat):Int)=(D.now.length:Int) - 26 by omega] at this
      exact this)
     have HCLD:=hid hcl
     clear hcl
     go_wp2_with fail
     have hwr:IntKind.i64.wrap ((D.now.length:Int) - 26)=(D.now.length:Int) - 26:=by rw [IntKind.wrap_i64];omega
     have HSQ:Hid (∀W,Below wp.heap.size wp W→W.cell? ⟨w1.heap.size,4,none⟩=some (.int .i64 f1)):=hid (fun W hW=>zA1 hW c4)
     go_region_held3 (fun W=>W.cell? ⟨w1.heap.size,4,none⟩=some (.int .i64 f1))
      (first
       | exact HSQ.out _ (Below.refl _ _).drew
       | exact HSQ.out _ (HB6:Hid _).out)
      (first
       | (go_at_call 87;refine (HCS2.out _ (Below.refl _ _).drew).mono ?_;rintro e wA ⟨rfl,rfl⟩)
       | (go_at_call 93;refine (HCL.out _ (Below.refl _ _).drew).mono ?_;rintro e w6 ⟨lb,dv,rfl,hlog,hlb,hde,hbl⟩;have HB6:Hid (Below wp.heap.size wp w6):=hid (two (Below.refl _ _).drew hbl);have HLOG:=hid hlog;have HLB:Hid (wp.heap.size≤lb):=hid hlb;have HDE:Hid (Deeds (fun x=>x<wp.heap.size∨x=lb) w6 dv ds):=hid hde;clear hlog hlb hde hbl))
     all_goals
      obtain ⟨dvo,dvc,rfl,hdvc,hdvc'⟩:=HDE.out.parts
      have hsbw:w1.heap.size<wp.heap.size:=(Array.getElem?_eq_some_iff.1 HBXP.out).1
      have hbx6:w6.heap[w1.heap.size]?=some (.cells (yK5 L ⟨e1,s1,z1,f1⟩ (.pointer none) (.slice none 0 0)) 143 (0,0)):=by rw [HB6.out.block _ hsbw];exact HBXP.out
      clear c0 c1 c2 c3 c4 c5 c6 cf d4
      obtain ⟨c0,c1,c2,c3,c4,c5,c6,cf⟩:=zF6 hbx6
      have HBX6:=hid hbx6
      have HSBW:=hid hsbw
      clear hbx6 hsbw
      obtain ⟨W7,hW7⟩:∃W7,W7=(w6.setCell ⟨w1.heap.size,5,none⟩ (.pointer (some ⟨lb,0,none⟩))).setCell ⟨w1.heap.size,6,none⟩ (.slice vo l.length vc):=⟨_,rfl⟩
      have hof7:Off (fun x=>x=w1.heap.size) w6 W7:=by rw [hW7];exact (zA7 (F:=fun x=>x=w1.heap.size) w6 ⟨w1.heap.size,5,none⟩ rfl _).trans (zA7 (F:=fun x=>x=w1.heap.size) _ ⟨w1.heap.size,6,none⟩ rfl _) (fun _ _ h=>h)
      have HBX7:Hid (W7.heap[w1.heap.size]?=some (.cells (yK5 L ⟨e1,s1,z1,f1⟩ (.pointer (some ⟨lb,0,none⟩)) (.slice vo l.length vc)) 143 (0,0))):=hid (by rw [hW7];exact zA3 _ _ _ _ (zA3 _ _ _ _ HBX6.out))
      have hlbne:lb≠w1.heap.size:=fun e=>by have:=HLB.out;have:=HSBW.out;omega
      have HLN:=hid hlbne
      have HLOG7:Hid (LogAt W7 lb L 26 (D.now.length - 26) f1 used):=hid (HLOG.out.off hof7 hlbne rfl)
      have HDE7:Hid (Deeds (fun x=>x<wp.heap.size∨x=lb) W7 (.slice dvo ds.length dvc) ds):=hid (HDE.out.turned (hof7.mono (fun x hx=>Or.inl (by rw [hx];exact HSBW.out))) (fun x hx=>Or.inl hx))
      have HB7:Hid (Below w1.heap.size w1 W7):=hid ((two HBP.out HB6.out).trans (hof7.below _ (by have:=HBP.out.size;have:=HB6.out.size;omega) (fun x hx=>by rw [hx];exact Nat.le_refl _)))
      have HCV7:Hid (ChangesF (fun x=>x<w1.heap.size∨x=lb∨x=w1.heap.size) W7 (.slice vo l.length vc) l):=hid (by
       have q1:ChangesF (fun x=>x<w1.heap.size∨x=lb∨x=w1.heap.size) wp (.slice vo l.length vc) l:=HCV.out.moved (by decide) (fun x hx=>by
        rcases hx with hx | hx | hx
        · exact Or.inl (by have:=HSB.out.1;omega)
        · exact Or.inr (by rw [hx];exact HLB.out)
        · exact Or.inl (by have:=HSB.out.1;omega))
       exact (q1.below HB6.out).off (hof7.mono (fun x hx=>Or.inr (Or.inr hx))))
      have HW7:=hid hW7
      have HMS:Hid (zX3 ds≤34):=hid (by
       have h5:=yN1 f1 (zB1 D 26 (D.now.length - 26)) 0 [] [] 0 (by simp [zX3])
       rw [←HCLD.out,zJ7 (by omega)] at h5
       have h6:zX3 ds≤0+(D.now.length - 26):=h5
       omega)
      clear hW7 hof7 hlbne
      go_wp2_with fail
      rw [show (w6.setCell ⟨w1.heap.size,5,none⟩ (.pointer (some ⟨lb,0,none⟩))).setCell ⟨w1.heap.size,6,none⟩ (.slice vo l.length vc)=W7 from HW7.out.symm]
      obtain ⟨wy,hwy⟩:∃wy:World,wy=wr:=⟨_,rfl⟩
      subst hwy
      clear c0 c1 c2 c3 c4 c5 c6 cf
      go_loopw [129] (fun iv wr=>∃(i:Nat) (R:List Change) (rv:Value),i≤ds.length∧iv= .int .i64 i∧R=zR0 (ds.take i) l∧ChangesF (fun x=>x<w1.heap.size∨x=lb∨x=w1.heap.size) wr rv R∧RisesX R∧R.length≤160+zX3 (ds.take i)∧wr.heap[w1.heap.size]?=some (.cells (yK5 L ⟨e1,s1,z1,f1⟩ (.pointer (some ⟨lb,0,none⟩)) rv) 143 (0,0))∧LogAt wr lb L 26 (D.now.length - 26) f1 used∧Deeds (fun x=>x<wp.heap.size∨x=lb) wr (.slice dvo ds.length dvc) ds∧Below w1.heap.size w1 wr) (fun iv _=>ds.length - (intOf iv).toNat)
      case atStart=>exact ⟨0,l,_,Nat.zero_le _,rfl,rfl,HCV7.out,HRL.out.1,by have:=HRL.out.2;omega,HBX7.out,HLOG7.out,HDE7.out,HB7.out⟩
      case round=>
       obtain ⟨i,R,rv,hi,rfl,hR,hrv,hrr,hrl,hbx,hlg,hdd,hbw⟩:=hrel
       obtain ⟨ro,rc,rfl,hrc,hrc'⟩:=hrv.rd.parts
       have HR:=hid hR
       have HRV:=hid hrv
       have HRR:=hid hrr
       have HBX:=hid hbx
       have HLG:=hid hlg
       have HDD2:=hid hdd
       have HBW:=hid hbw
       obtain ⟨c0,c1,c2,c3,c4,c5,c6,cf⟩:=zF6 hbx
       clear hR hrv hrr hbx hlg hdd hbw
       by_cases hlt:i<ds.length
       · obtain ⟨ba,oa,cv,hvo,x0,hcv⟩:=HDD2.out.cell i hlt
         subst hvo
         have hmx:=uD0 ds i hlt
         have hml:=xV6 ds (i+1)
         have hm34:=HMS.out
         obtain ⟨c,hc⟩:∃c,c=ds[i]:=⟨_,rfl⟩
         rw [←hc] at hcv hmx
         obtain ⟨co,cc,rfl,hcc,hcc'⟩:=hcv.rd.parts
         have CA:=hid (yT1 _ _ R c wr HRV.out.rd hcv.rd HRR.out (by omega) (by omega))
         have hal:=zY9 c HRR.out c.length (Nat.le_refl _)
         have HAL:=hid hal
         have hrn:zF3 R c c.length=zR0 (ds.take (i+1)) l:=by rw [HR.out,hc,List.take_succ_eq_append_getElem hlt,xK4]
         have HRN:=hid hrn
         have HMX:=hid hmx
         clear hal hrn hc hmx hml hm34 hcv
         go_wp2_with fail
         refine CA.out.mono ?_
         rintro e w8 ⟨v8,rfl,ho8,hb8⟩
         have HO8:=hid ho8
         have HB8:=hid hb8
         have hbx8:w8.heap[w1.heap.size]?=some (.cells (yK5 L ⟨e1,s1,z1,f1⟩ (.pointer (some ⟨lb,0,none⟩)) (.slice ro R.length rc)) 143 (0,0)):=by rw [hb8.block _ (Array.getElem?_eq_some_iff.1 HBX.out).1];exact HBX.out
         have HBX8:=hid hbx8
         clear c0 c1 c2 c3 c4 c5 c6 cf x0
         obtain ⟨c0,c1,c2,c3,c4,c5,c6,cf⟩:=zF6 hbx8
         obtain ⟨ao8,ac8,rfl,hac8,hac8'⟩:=zD4 ho8
         clear ho8 hb8 hbx8
         go_wp2_with fail
         go_roundw
         case rel=>
          have hof:Off (fun x=>x=w1.heap.size) w8 (w8.setCell ⟨w1.heap.size,6,none⟩ (.slice ao8 (zF3 R c c.length).length ac8)):=zA7 (F:=fun x=>x=w1.heap.size) w8 ⟨w1.heap.size,6,none⟩ rfl _
          have hsz8:=HB8.out.size
          have hszr:=HBW.out.size
          have hlt1:=(Array.getElem?_eq_some_iff.1 HBX.out).1
          have hltl:=(Array.getElem?_eq_some_iff.1 HLG.out.box).1
          have hcf:ChangesF (fun x=>x<w1.heap.size∨x=lb∨x=w1.heap.size) w8 (.slice ao8 (zF3 R c c.length).length ac8) (zF3 R c c.length):=⟨SL.of_own HO8.out,fun a n cp e hn hf=>yM8 HO8.out a n cp e hn (by
           show a.block<wr.heap.size
           rcases hf with hf | hf | hf
           · omega
           · rw [hf];exact hltl
           · rw [hf];exact hlt1)⟩
          refine ⟨i+1,zF3 R c c.length,_,by omega,by go_num,HRN.out,hcf.off (hof.mono (fun x hx=>Or.inr (Or.inr hx))),HAL.out.1,by have h1:=HAL.out.2;have h2:=HMX.out;omega,zA3 _ _ _ _ HBX8.out,(HLG.out.below HB8.out).off hof HLN.out rfl,(HDD2.out.below HB8.out).turned (hof.mono (fun x hx=>Or.inl (by rw [hx];exact HSBW.out))) (fun x hx=>Or.inl hx),?_⟩
          exact (HBW.out.trans (HB8.out.mono hszr)).trans (hof.below _ (by omega) (fun x hx=>by rw [hx];exact Nat.le_refl _))
         case measure=>simp [intOf];omega
       · obtain rfl:i=ds.length:=by omega
         have hz:OZ=some ⟨⟨e1,s1,z1,f1⟩,used,R⟩:=by
          rw [HOZ.out,if_neg he1]
          simp only [HPS.out]
          rw [←HCLD.out,HR.out,List.take_length]
          rfl
         have HZ:=hid hz
         clear hz
         go_wp2_with fail
         refine bodyPost_ret (v:= .tuple #[.pointer (some ⟨w1.heap.size,0,none⟩), .nilIface]) (by simp [results, Tryz.results54,go_sem]) rfl ?_
         refine ⟨Or.inr ⟨_,HOE.out.symm.trans HZ.out,w1.heap.size,rfl,lb,_,⟨HBX.out,HLG.out,?_,HLN.out,fun hf=>?_,fun hf=>?_⟩,Nat.le_refl _,?_,fun a n cp e hn hf=>HRV.out.far a n cp e hn (Or.inl hf)⟩,HBW.out⟩
         · refine ⟨HRV.out.rd,fun a n cp e hn hf=>HRV.out.far a n cp e hn ?_⟩
           rcases hf with hf | hf | hf
           · exact Or.inl (HD.out.lt _ hf)
           · exact Or.inr (Or.inl hf)
           · exact Or.inr (Or.inr hf)
         · have:=HD.out.lt _ hf;omega
         · have h1:=HD.out.lt _ hf;have h2:=HLB.out;have h3:=HSBW.out;omega
         · have h2:=HLB.out;have h3:=HSBW.out;omega
open Go.RowKit
theorem xN5 {l n:Nat}{P:Program}{o:Oper}{a:Go.Act}{K K' :Go.Act→World→Prop}{Q:Exit→Go.Act→World→Prop}(hK:∀a w,K a w→K' a w):∀(r:Result Next),o.upon P a K Q r→o.uponIn (Fence.wide.inRound l) n P a K' Q r
 | .ok (.value v) w',h=>hK _ _ h
 | .ok .skip w',h=>hK _ _ h
 | .ok (.defer d) w',h=>hK _ _ h
 | .ok (.enter f args) w',h=>by
  refine ⟨fun hd=>(by simp [Fence.wide] at hd),CallsIn.inRound l (callsIn_wide.2 (Calls.mono h ?_))⟩
  intro e w'' he
  cases e with
  | returned v=>exact hK _ _ he
  | panicked c=>exact he
  | outgrown=>exact he
 | .ok (.row row args) w',h=>by
  refine ⟨fun hd=>(by simp [Fence.wide] at hd),fun c cs _=>?_⟩
  obtain ⟨v,w'',r,s⟩:=h c cs
  exact ⟨v,w'',hK _ _ r,stepsIn_wide.2 s⟩
 | .halt (.panic v) w',h=>h
theorem vE0 {l n:Nat}{P:Program}{o:Oper}{a:Go.Act}{w:World}{K K' :Go.Act→World→Prop}{Q:Exit→Go.Act→World→Prop}(hnd:∀c,o.op≠ .defer c)(hK:∀a w,K a w→K' a w)(h:o.wp P a w K Q):o.wpIn (Fence.wide.inRound l) n P a w K' Q:=
 ⟨fun _ _=>trivial,by rw [Oper.semAt_eq _ _ _ hnd];exact xN5 hK _ h⟩
def vE5 (ops:Array Oper):Bool:=ops.all fun o=>match o.op with | .defer _=>false | _=>true
theorem vR5 {ops:Array Oper}(h:vE5 ops=true){i:Nat}{o:Oper}(hi:ops[i]?=some o):∀c,o.op≠ .defer c:=fun c e=>by
 obtain ⟨hlt,rfl⟩:=Array.getElem?_eq_some_iff.1 hi
 have:=Array.all_eq_true.1 h i hlt
 rw [e] at this
 cases this
theorem zZ0 {l n:Nat}{P:Program}{md:Region.Mode}{ops:Array Oper}{Q:Exit→Go.Act→World→Prop}(hnd:vE5 ops=true)(hno:¬LetsOut Q):∀(fuel:Nat) (listed:Array Bool) (a:Go.Act) (w:World),wpAny P md ops Q fuel listed a w→wpAnyIn (Fence.wide.inRound l) n P md ops Q fuel listed a w
 | 0,_,_,_,h=>h
 | fuel+1,listed,a,w,h=>⟨h.1,fun i hi=>by
     have hh:=h.2 i hi
     unfold wpOp at hh
     unfold wpOpIn
     cases ho:ops[i]? with
     | none=>
      rw [ho] at hh
      exact zZ0 hnd hno fuel _ _ _ hh
     | some o=>
      rw [ho] at hh
      simp only at hh ⊢
      split
      · rename_i hw
        rw [if_pos hw] at hh
        rcases hh with hh | ⟨_,hh⟩
        · exact vE0 (vR5 hnd ho) (fun a w h=>zZ0 hnd hno fuel _ a w h) hh
        · exact absurd hh hno
      · rename_i hw
        rw [if_neg hw] at hh
        exact ⟨fun _ _=>trivial,zZ0 hnd hno fuel _ _ _ hh⟩⟩
theorem xC1 {l n:Nat}{P:Program}{ops:Array Oper}{Q:Exit→Go.Act→World→Prop}{S:World→Prop}{id:Nat}{a:Go.Act}{w:World}(hm:P.follows .mixedOrders=true)(hnd:vE5 ops=true)(hno:¬LetsOut Q)(hS:S w.drew)
 (h:S w.drew→wpAnyH P .any ops Q S ops.size (Array.replicate ops.size false) a w.drew):(Code.region id ops true).wpIn (Fence.wide.inRound l) n P Q a w:=
 wpIn_region_any hm (zZ0 hnd hno _ _ _ _ (wpAny_of_held _ _ _ _ (h hS)))
open Go.RowKit Go.Sort Go.Shelf
attribute [local go_sem] Oper.semAt_some
theorem uA1 {k n:Nat}(h:k<n):List.range (k+1) <+: List.range n:=
 ⟨(List.range (n - (k+1))).map (fun x=>(k+1)+x),by rw [←List.range_add];congr 1;omega⟩
def yV6 (bb len:Nat)(k:Nat):Value:= .slice (some ⟨bb,40 * k,none⟩) (min 40 (len - 40 * k)) (min 40 (len - 40 * k))
def xE0 (Bs Bn:Nat)(W W' :World):Prop:=W.heap.size≤W'.heap.size∧W'.heap[Bs]?=W.heap[Bs]?∧W'.heap[Bn]?=W.heap[Bn]?
theorem uQ9 (F:Fence)(n:Nat)(hf:F.fn 167)(hro:F.round=none)(hn:1≤n)(l Bs Bn bb len cap:Nat)(hlen:len≤480)(hcap:len≤cap)(hcap2:cap≤9223372036854775807)(J Jx:List Nat→World→Prop)
 (hY:∀pre x W,J pre W→pre.length<yU4 len→YieldAt F (n - 1) Tryz.prog l #[yV6 bb len x] W fun e W' =>
  (e= .returned (.bool true)∧J (pre++ [x]) W' ∧xE0 Bs Bn W W')∨(e= .returned (.bool false)∧Jx (pre++ [x]) W'))
 (W:World) (hBs:W.cell? ⟨Bs,0,none⟩=some (.slice (some ⟨bb,0,none⟩) len cap)) (hBn:W.cell? ⟨Bn,0,none⟩=some (.int .i64 40)) (h0:J [] W) (hJd:∀p W,J p W→J p W.drew):
 CallsIn F n Tryz.prog 167 #[.func (.yield l) #[] #[], .pointer (some ⟨Bs,0,none⟩), .pointer (some ⟨Bn,0,none⟩)] W fun e W' =>(∃v,e= .returned v)∧
  ((∃ys,ys=List.range (yU4 len)∧J ys W')∨(∃pre,pre <+: List.range (yU4 len)∧Jx pre W')):=by
 refine callsIn_of_wp Tryz.func167 rfl hf ?_ hro
 simp only [Tryz.ntmps167,List.size_toArray,List.length_cons,List.length_nil,Nat.reduceAdd,Nat.reduceSub,Array.replicate_succ,Array.replicate_zero,List.push_toArray,List.append_toArray,List.nil_append,List.cons_append]
 gi_wp2
 gi_loopw [4] (fun i wr=>∃k:Nat,k≤yU4 len∧i= .int .i64 (40 * k)∧J (List.range k) wr∧xE0 Bs Bn W wr)
  (fun i _=>2000 - (intOf i).toNat)
 case atStart=>exact ⟨0,Nat.zero_le _,rfl,h0,Nat.le_refl _,rfl,rfl⟩
 case round=>
  obtain ⟨k,hk,rfl,hJs,hkt⟩:=hrel
  have c1:wr.cell? ⟨Bs,0,none⟩=some (.slice (some ⟨bb,0,none⟩) len cap):=by rw [←hBs];simp only [World.cell?,hkt.2.1]
  have c2:wr.cell? ⟨Bn,0,none⟩=some (.int .i64 40):=by rw [←hBn];simp only [World.cell?,hkt.2.2]
  have hcn:yU4 len=(len+39) / 40:=rfl
  by_cases hlt:k<yU4 len
  · have hl:40 * k<len:=by omega
    obtain ⟨fn,tmps,assign,body,hy,hR⟩:=hY _ k wr.drew (hJd _ _ hJs) (by rw [List.length_range];exact hlt)
    have hl' :(40 * (k:Int))<(len:Int):=by omega
    have hm:yV6 bb len k= .slice (some ⟨bb,40 * k,none⟩) ((40 * (k:Int)+min 40 ((len - 40 * k:Nat):Int)).toNat - 40 * k) ((40 * (k:Int)+min 40 ((len - 40 * k:Nat):Int)).toNat - 40 * k):=by
     have e:min 40 (len - 40 * k)=(40 * (k:Int)+min 40 ((len - 40 * k:Nat):Int)).toNat - 40 * k:=by omega
     unfold yV6
     rw [←e]
    rw [hm] at hy
    clear hcn hm
    gi_wp2
    gi_region
    gi_wp2
    all_goals
     refine hR.mono ?_
     rintro e W3 (⟨rfl,hJ3,hk3⟩ | ⟨rfl,hJx3⟩)
     · have d2:W3.cell? ⟨Bn,0,none⟩=some (.int .i64 40):=by rw [←c2];simp only [World.cell?,hk3.2.2];rfl
       have hkt3:xE0 Bs Bn W W3:=⟨Nat.le_trans hkt.1 hk3.1,hk3.2.1.trans hkt.2.1,hk3.2.2.trans hkt.2.2⟩
       clear c1 c2
       gi_wp2
       go_roundw
       case rel=>exact ⟨k+1,by omega,by go_num,by rw [List.range_succ];exact hJ3,hkt3⟩
       case measure=>simp [intOf];omega
     · gi_wp2
       refine bodyPost_ret (results_none rfl _ _ _) rfl ?_
       exact ⟨⟨_,rfl⟩, .inr ⟨_,by rw [←List.range_succ];exact uA1 hlt,hJx3⟩⟩
  · obtain rfl:k=yU4 len:=by omega
    have hl' :¬(40 * ((yU4 len:Nat):Int))<(len:Int):=by omega
    clear hcn
    gi_wp2
    go_end0
    exact ⟨⟨_,rfl⟩, .inl hJs⟩
theorem vH6 (F:Fence)(n:Nat)(hf:F.fn 167)(hro:F.round=none)(hn:1≤n)(Bs Bn bb len cap:Nat)(hlen:len≤480)(hcap:len≤cap)(hcap2:cap≤9223372036854775807)(w:World)(hBs:w.cell? ⟨Bs,0,none⟩=some (.slice (some ⟨bb,0,none⟩) len cap))(hBn:w.cell? ⟨Bn,0,none⟩=some (.int .i64 40)):
 SeqStopsK F n Tryz.prog 167 #[.pointer (some ⟨Bs,0,none⟩), .pointer (some ⟨Bn,0,none⟩)] (fun k:Nat=> #[yV6 bb len k]) (xE0 Bs Bn) (fun ys=>ys=List.range (yU4 len)) (fun pre=>pre <+: List.range (yU4 len)) (yU4 len) w:=fun l J Jx W hW hJ hJx hY h0=>by
 have l1:Bs<w.heap.size:=World.block_lt_of_cell? w _ hBs
 have l2:Bn<w.heap.size:=World.block_lt_of_cell? w _ hBn
 exact uQ9 F n hf hro hn l Bs Bn bb len cap hlen hcap hcap2 J Jx hY W ((zN2 hW).1 _ _ l1 ▸ hBs) ((zN2 hW).1 _ _ l2 ▸ hBn) h0 (fun p W hp=>hJ p W W.drew none hp ⟨rfl,rfl,rfl,Nat.le_refl _,fun _ _ _=>rfl⟩ (fun r e=>by cases e))
theorem vU6 (a:Option Addr)(len cap:Nat)(w:World):
 Calls Tryz.prog 138 #[.slice a len cap, .int .i64 40] w fun e w' =>e= .returned (.func (.func 167) #[] #[.pointer (some ⟨w.heap.size,0,none⟩), .pointer (some ⟨w.heap.size+1,0,none⟩)])∧w' =(w.alloc (.cells #[.slice a len cap] 112)).alloc (.cells #[.int .i64 40] 3):=by
 go_enter Tryz.func138, Tryz.ntmps138
 go_wp2_with fail
 go_ret
 exact ⟨rfl,rfl⟩
end Go.Proofs.YtggpodlecljcbabGreatDoor
