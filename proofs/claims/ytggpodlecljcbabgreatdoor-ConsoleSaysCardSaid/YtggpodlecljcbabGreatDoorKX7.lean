/- The walk of row.Apply. -/
import Derived.Lib.SmallJoins
import Derived.Test.YtggpodlecljcbabGreatDoorKX4
import Derived.Test.YtggpodlecljcbabGreatDoorKG
import Derived.Test.YtggpodlecljcbabGreatDoorKR
namespace Go.Proofs.YtggpodlecljcbabGreatDoor
set_option linter.unusedSimpArgs false
set_option linter.unusedVariables false
set_option maxRecDepth 100000
set_option maxHeartbeats 64000000
open Lib (hid)
open Go.RowKit Go.Sort
theorem uM7 {w:World}{base g n cap:Nat}{l:List Change}(f:Change)(k:Nat)(hk:k<l.length)(hn:n=l.length)(ho:w.ownsRow base 109 3 (.slice (some ⟨g,0,none⟩) n cap) n (l.flatMap Change.cells)):
 (((w.setCell ⟨g,k * 3,none⟩ (.string f.key)).setCell ⟨g,k * 3+1,none⟩ (.string f.val)).setCell ⟨g,k * 3+2,none⟩ (.bool f.gone)).ownsRow base 109 3 (.slice (some ⟨g,0,none⟩) n cap) (l.take k++f::l.drop (k+1)).length ((l.take k++f::l.drop (k+1)).flatMap Change.cells):=by
 subst hn
 obtain ⟨hb,hgw,hnc,hc63,hlen,hcell,hsome,hfro,hsh⟩:=zK9 ho
 show (w.setCells g (k * 3) f.cells).ownsRow _ _ _ _ _ _
 refine yI9 ((Blk.of_own ho).sets _ _) hb (by simp;omega) (by simp;omega) hc63 (zC2 (k:=3) (fun _=>rfl) _) ?_
 have hq:=zG0 l k (by omega)
 have hp:((l.drop (k+1)).flatMap Change.cells).length=(l.length - (k+1)) * 3:=yM9 l (k+1)
 have R:=yB0 (W:=w.setCells g (k * 3) f.cells) (g:=g) ((l.take k).flatMap Change.cells) f.cells ((l.drop (k+1)).flatMap Change.cells) ?_ ?_ ?_
 · rw [List.flatMap_append,List.flatMap_cons,←List.append_assoc]
   exact R
 · intro j u hj
   have hj' :=(List.getElem?_eq_some_iff.1 hj).1
   rw [zK1 _ _ _ (Or.inl (by omega))]
   refine hcell j u ?_
   rw [zO3 l k,List.getElem?_append_left hj']
   exact hj
 · intro j u hj
   rw [hq]
   exact zY8 _ _ (fun t ht=>hsome _ (by rw [Change.cells_len] at ht;omega)) j u hj
 · intro j u hj
   have hj' :=(List.getElem?_eq_some_iff.1 hj).1
   rw [hq,Change.cells_len,zK1 _ _ _ (Or.inr (by rw [Change.cells_len];omega))]
   refine hcell _ u ?_
   rw [zO3 l (k+1),List.getElem?_append_right (by rw [zG0 l (k+1) (by omega)];omega),zG0 l (k+1) (by omega),show k * 3+3+j - (k+1) * 3=j by omega]
   exact hj
theorem yT1 (va vc:Value)(l cs:List Change)(w:World)(ha:Changes w va l)(hc:Changes w vc cs)(hr:RisesX l)(hl:l.length≤500)(hcl:cs.length≤100):
 Calls Tryz.prog 94 #[va,vc] w fun e w' =>∃v,e= .returned v∧w'.ownsRow w.heap.size 109 3 v (zF3 l cs cs.length).length ((zF3 l cs cs.length).flatMap Change.cells)∧Below w.heap.size w w' :=by
 have CC:=hid (yR6 va l w ha (by omega))
 obtain ⟨co,cc,rfl,hcc,hcc'⟩:=hc.parts
 have HC:=hid hc
 have HR:=hid hr
 have HL:=hid hl
 have HCL:=hid hcl
 clear ha hc hr hl hcl
 go_enter Tryz.func94, Tryz.ntmps94
 go_wp2_with fail
 refine CC.out.mono ?_
 rintro e w1 ⟨v1,rfl,ho1,hb1⟩
 have HO1:=hid ho1
 have HB1:=hid hb1
 clear ho1 hb1
 go_wp2_with fail
 go_loopw [0,13] (fun v i wr=>∃(k:Nat) (R:List Change),k≤cs.length∧i= .int .i64 k∧R=zF3 l cs k∧wr.ownsRow w.heap.size 109 3 v R.length (R.flatMap Change.cells)∧Below w.heap.size w wr) (fun _ i _=>cs.length - (intOf i).toNat)
 case atStart=>exact ⟨0,l,Nat.zero_le _,rfl,rfl,HO1.out,HB1.out⟩
 case round=>
  obtain ⟨k,R,hk,rfl,hR,hown,hbw⟩:=hrel
  have HRK:=hid hR
  have HRR:Hid (RisesX R∧R.length≤600):=hid (by
   obtain ⟨h1,h2⟩:=zY9 cs HR.out k hk
   rw [hR]
   exact ⟨h1,by have:=HL.out;have:=HCL.out;omega⟩)
  have HO:=hid hown
  have HBW:=hid hbw
  clear hown hbw hR
  by_cases hlt:k<cs.length
  · obtain ⟨cb,cof,rfl,hlb,x0,x1,x2⟩:=Changes.cell HC.out k hlt
    obtain ⟨kc,_⟩:=zN2 HBW.out
    replace x0:=(kc _ _ hlb).trans x0
    replace x1:=(kc _ _ hlb).trans x1
    replace x2:=(kc _ _ hlb).trans x2
    clear kc hlb
    have HNX:Hid (zF3 l cs (k+1)=yE5 R cs[k]):=hid (by rw [xH3 l cs k hlt,←HRK.out])
    obtain ⟨c,hcd⟩:∃c,c=cs[k]:=⟨_,rfl⟩
    rw [←hcd] at x0 x1 x2 HNX
    clear hcd
    obtain ⟨W4,hW4⟩:∃W4,W4=wr.alloc (.cells #[.string c.key, .string c.val, .bool c.gone] 109):=⟨_,rfl⟩
    have HQ4:Hid (QXAt W4 wr.heap.size c):=hid (by rw [hW4];exact QXAt.new wr c)
    have HO4:Hid (W4.ownsRow w.heap.size 109 3 _ R.length (R.flatMap Change.cells)):=hid (by rw [hW4];exact HO.out.alloc _)
    have HB4:Hid (Below w.heap.size w W4):=hid (by rw [hW4];exact two HBW.out (zA0 _ _))
    have CS:=xJ2 _ R c.key W4 (SL.of_own HO4.out) (by have:=HRR.out.2;omega) HRR.out.1
    unfold yS1 at CS
    obtain ⟨r,hr⟩:∃r,r=zH3 R c.key:=⟨_,rfl⟩
    obtain ⟨b,hb⟩:∃b,b=zT1 R c.key r:=⟨_,rfl⟩
    have HAP:Hid (yE5 R c=if b then (if c.gone then R.take r++R.drop (r+1) else R.take r++c::R.drop (r+1)) else (if c.gone then R else R.take r++c::R.drop r)):=hid (by rw [hb,hr];rfl)
    have HRL:Hid (r≤R.length):=hid (by rw [hr];exact vJ6 _ _)
    have HRB:Hid (b=true→r<R.length):=hid fun h=>yB9 (hb ▸ h)
    rw [←hr,←hb] at CS
    replace CS:=hid CS
    have HW4:=hid hW4
    have q0:=HQ4.out.c0
    rw [HW4.out] at q0
    clear hr hb hW4
    go_wp2_with fail
    rw [←HW4.out]
    refine CS.out.mono ?_
    rintro e w5 ⟨rfl,hb5⟩
    have HQ5:=hid (HQ4.out.below hb5)
    have HO5:=hid (yP5 HO4.out hb5)
    have HB5:=hid (two HB4.out hb5)
    clear hb5 q0 x0 x1 x2
    have q0:=HQ5.out.c0
    have q1:=HQ5.out.c1
    have q2:=HQ5.out.c2
    obtain ⟨ck,cv,g⟩:=c
    dsimp only at q0 q1 q2 HAP HNX
    cases b
    · cases g
      · have HE:Hid (zF3 l cs (k+1)=R.take r++⟨ck,cv,false⟩::R.drop r):=hid (by rw [HNX.out,HAP.out];rfl)
        obtain ⟨W6,hW6⟩:∃W6,W6=w5.alloc (.cells #[.string ck, .string cv, .bool false] 109):=⟨_,rfl⟩
        have CI:=xJ3 w.heap.size _ R ⟨ck,cv,false⟩ r w5.heap.size 109 W6 (by rw [hW6];exact HO5.out.alloc _) (by have:=HRR.out.2;omega) HRL.out (by rw [hW6];have:=HB5.out.size;simp;omega) (by intro h;have:=(HO5.out.lt _ h).2;omega) (by rw [hW6];exact xP7 _ _)
        have HB6:Hid (Below w.heap.size w W6):=hid (by rw [hW6];exact two HB5.out (zA0 _ _))
        replace CI:=hid CI
        have HW6:=hid hW6
        clear hW6
        go_wp2_with fail
        rw [←HW6.out]
        refine CI.out.mono ?_
        rintro e w7 ⟨v7,rfl,ho7,hb7⟩
        have HO7:=hid ho7
        have HB7:=hid (HB6.out.trans hb7)
        clear ho7 hb7
        go_wp2_with fail
        go_roundw
        case rel=>exact ⟨k+1,_,by omega,by go_num,HE.out.symm,HO7.out,HB7.out⟩
        case measure=>simp [intOf];omega
      · have HE:Hid (zF3 l cs (k+1)=R):=hid (by rw [HNX.out,HAP.out];rfl)
        go_wp2_with fail
        go_roundw
        case rel=>exact ⟨k+1,_,by omega,by go_num,HE.out.symm,HO5.out,HB5.out⟩
        case measure=>simp [intOf];omega
    · have hrl:=HRB.out rfl
      cases g
      · have HE:Hid (zF3 l cs (k+1)=R.take r++⟨ck,cv,false⟩::R.drop (r+1)):=hid (by rw [HNX.out,HAP.out];rfl)
        obtain ⟨gg,cap,hv⟩:=Go.Joins.ownsRow_form HO5.out (by omega)
        subst hv
        obtain ⟨z1,z2,z3,z4,z5,z6,z7,z8,z9⟩:=zK9 HO5.out
        have s0:(w5.cell? ⟨gg,r * 3,none⟩).isSome=true:=z7 _ (by omega)
        have s1:(w5.cell? ⟨gg,r * 3+1,none⟩).isSome=true:=z7 _ (by omega)
        have s2:(w5.cell? ⟨gg,r * 3+2,none⟩).isSome=true:=z7 _ (by omega)
        obtain ⟨y0,hy0⟩:=Option.isSome_iff_exists.1 s0
        obtain ⟨y1,hy1⟩:=Option.isSome_iff_exists.1 s1
        obtain ⟨y2,hy2⟩:=Option.isSome_iff_exists.1 s2
        have f0:=z8 (r * 3)
        have f1:=z8 (r * 3+1)
        have f2:=z8 (r * 3+2)
        have HO6:=hid (uM7 ⟨ck,cv,false⟩ r hrl rfl HO5.out)
        have HB6:=hid (((HB5.out.setCell (p:=⟨gg,r * 3,none⟩) z1 (.string ck)).setCell (p:=⟨gg,r * 3+1,none⟩) z1 (.string cv)).setCell (p:=⟨gg,r * 3+2,none⟩) z1 (.bool false))
        have hlen:(R.take r++⟨ck,cv,false⟩::R.drop (r+1)).length=R.length:=by simp;omega
        clear z1 z2 z4 z5 z6 z7 z8 z9 s0 s1 s2
        go_wp2_with fail
        go_roundw
        case rel=>exact ⟨k+1,_,by omega,by go_num,HE.out.symm,HO6.out,HB6.out⟩
        case measure=>simp [intOf];omega
      · have HE:Hid (zF3 l cs (k+1)=R.take r++R.drop (r+1)):=hid (by rw [HNX.out,HAP.out];rfl)
        have CD:=hid (xJ4 w.heap.size _ R r w5 HO5.out hrl (by have:=HRR.out.2;omega))
        have hw1:IntKind.i64.wrap ((r:Int)+1)=(r:Int)+1:=by rw [IntKind.wrap_i64];have:=HRR.out.2;omega
        have hr200:=HRR.out.2
        go_wp2_with fail
        refine CD.out.mono ?_
        rintro e w7 ⟨v7,rfl,ho7,hb7⟩
        have HO7:=hid ho7
        have HB7:=hid (HB5.out.trans hb7)
        clear ho7 hb7
        go_wp2_with fail
        go_roundw
        case rel=>exact ⟨k+1,_,by omega,by go_num,HE.out.symm,HO7.out,HB7.out⟩
        case measure=>simp [intOf];omega
  · have hke:k=cs.length:=by omega
    go_wp2_with fail
    go_ret
    exact ⟨_,rfl,by rw [←hke,←HRK.out];exact HO.out,HBW.out⟩
open Go.RowKit Go.Sort
open Go.RowKit Go.Sort
end Go.Proofs.YtggpodlecljcbabGreatDoor
