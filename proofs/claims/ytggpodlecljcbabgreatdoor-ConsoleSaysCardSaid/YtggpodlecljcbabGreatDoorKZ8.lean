/- The walks of (*store.Store).Commit, Room, Rows. The walk of the document's (*Store).Commit. -/
import Derived.Test.YtggpodlecljcbabGreatDoorKZ7
import Derived.Test.YtggpodlecljcbabGreatDoorKSY
import Derived.Test.YtggpodlecljcbabGreatDoorKX7
import Derived.Test.YtggpodlecljcbabGreatDoorKY8
import Derived.Test.YtggpodlecljcbabGreatDoorKK4
import Derived.Test.YtggpodlecljcbabGreatDoorKB
import Derived.Test.YtggpodlecljcbabGreatDoorKY7
namespace Go.Proofs.YtggpodlecljcbabGreatDoor
set_option linter.unusedSimpArgs false
set_option linter.unusedVariables false
set_option maxRecDepth 100000
set_option maxHeartbeats 64000000
open Lib (hid)
open Go.RowKit Go.Sort Go.Shelf
attribute [local go_sem] Oper.semAt_some
theorem vH7 (many:Nat)(S:StS)(D:DiskS):(zQ7 many S D).2.1.h.first≤S.h.first+many:=by
 unfold zQ7
 simp only []
 split
 · exact Nat.le_add_right _ _
 · exact Nat.le_refl _
theorem StoreTo.after {w w1 w' :World}{sb lb many:Nat}{L:Dk}{S' :StS}{D' :DiskS}{rv:Value}(hb:Below w.heap.size w w1)(h:StoreTo w1 L lb sb rv many D' S' w'):StoreTo w L lb sb rv many D' S' w' :=by
 obtain ⟨L',lb',rv',e,d,s,o,g,f⟩:=h
 have hz:=hb.size
 refine ⟨L',lb',rv',e,d,s,(zB7 hb _).trans o (fun _ _ h=>h),fun k hk=>?_,?_⟩
 · rcases g k hk with h | h
   · exact Or.inl h
   · exact Or.inr (by omega)
 · rcases f with f | f
   · exact Or.inl f
   · exact Or.inr (fun a n c e p q=>f a n c e p (by have:a.block<w.heap.size:=q;show a.block<w1.heap.size;omega))
theorem StoreTo.added {w w5 w6:World}{sb lb many:Nat}{L:Dk}{S5:StS}{D6:DiskS}{rv:Value}{L5:Dk}{lb5:Nat}{rv5:Value}(e5:L5.b=L.b)(s5:StAt w5 sb lb5 L5 S5 many rv5)(o5:Off (stF L lb sb) w w5)(g5:∀k,stF L5 lb5 sb k→stF L lb sb k∨w.heap.size≤k)(f5:rv5=rv∨far (fun k=>k<w.heap.size) rv5){nx:Nat}(ha:vA3 w5 L5 lb5 26 many S5.h.first nx D6 w6):
 StoreTo w L lb sb rv many D6 ⟨S5.h,nx,S5.rows⟩ w6:=by
 obtain ⟨L6,e6,d6,l6,o6,g6⟩:=ha
 have hsl:=s5.lt
 have hll:=(Array.getElem?_eq_some_iff.1 s5.log.box).1
 have hz:=o5.size
 have hsub:∀x,x<w.heap.size→(L5.foot x∨x=lb5)→stF L lb sb x:=fun x hx h=>by
  rcases g5 x (by rcases h with h | h;exact Or.inl h;exact Or.inr (Or.inl h)) with h | h
  · exact h
  · omega
 have hg6:∀k,stF L6 lb5 sb k→stF L5 lb5 sb k∨w5.heap.size≤k:=fun k hk=>by
  rcases hk with hk | hk
  · rcases g6 k hk with h | h
    · exact Or.inl (Or.inl h)
    · exact Or.inr h
  · exact Or.inl (Or.inr hk)
 refine ⟨L6,lb5,rv5,e6.trans e5,d6,⟨?_,l6,s5.rows.turned (by decide) (o6.mono (fun k hk=>?_)) hg6,s5.ls,fun hf=>?_,fun hf=>?_⟩,o5.trans o6 hsub,fun k hk=>?_,f5⟩
 · rw [o6.block sb hsl (fun h=>by
    rcases h with h | h
    · exact s5.sf h
    · exact s5.ls h.symm),s5.box]
   unfold yK5
   rw [e6]
 · rcases hk with hk | hk
   · exact Or.inl hk
   · exact Or.inr (Or.inl hk)
 · rcases g6 _ hf with h | h
   · exact s5.sf h
   · omega
 · rcases g6 _ hf with h | h
   · exact s5.lf h
   · omega
 · rcases hg6 k hk with h | h
   · exact g5 k h
   · exact Or.inr (by omega)
theorem StoreTo.set {w0 w w6:World}{sb lb many:Nat}{L:Dk}{S:StS}{D6:DiskS}{rv v:Value}{rows:List Change}(hb:Below w0.heap.size w0 w)(h:StoreTo w L lb sb rv many D6 S w6)(hr:ChangesF (stF L lb sb) w v rows)(hf:far (fun k=>k<w0.heap.size) v):
 StoreTo w0 L lb sb rv many D6 ⟨S.h,S.next,rows⟩ (w6.setCell ⟨sb,6,none⟩ v):=by
 obtain ⟨L',lb',rv',e,d,s,o,g,f⟩:=h
 have hz:=hb.size
 have hO:Off (fun k=>k=sb) w6 (w6.setCell ⟨sb,6,none⟩ v):=zA7 (F:=fun k=>k=sb) w6 ⟨sb,6,none⟩ rfl v
 refine ⟨L',lb',v,e,d.off hO (fun k hk h=>s.sf (h ▸ hk)),⟨?_,s.log.off hO s.ls rfl,?_,s.ls,s.sf,s.lf⟩,((zB7 hb _).trans o (fun _ _ h=>h)).trans hO (fun x _ h=>Or.inr (Or.inr h)),fun k hk=>?_,Or.inr hf⟩
 · exact zA3 _ _ _ _ s.box
 · exact (hr.turned (by decide) o g).off (hO.mono (fun x h=>Or.inr (Or.inr h)))
 · rcases g k hk with h | h
   · exact Or.inl h
   · exact Or.inr (by omega)
theorem vH2 {many:Nat}{S:StS}{c:List Change}{D:DiskS}(h:14<c.length):zH2 many S c D=(D,S,2):=by
 have h1:zC9 many S.rows c=2:=by unfold zC9;rw [if_pos h]
 unfold zH2
 rw [h1,if_pos (by decide)]
theorem xZ5 {many:Nat}{S:StS}{c:List Change}{D:DiskS}{n:Nat}(h:¬14<c.length)(hn:n≠0)(hf:zH1 c=n):zH2 many S c D=(D,S,n):=by
 have h1:zC9 many S.rows c=n:=by unfold zC9;rw [if_neg h,if_pos (by rw [hf];exact hn),hf]
 unfold zH2
 rw [h1,if_pos hn]
theorem xG6 {many:Nat}{S:StS}{c:List Change}{D:DiskS}(h:¬14<c.length)(hf:zH1 c=0)(hx:12<(zF3 S.rows c c.length).length∨many<c.length+1):zH2 many S c D=(D,S,7):=by
 have h1:zC9 many S.rows c=7:=by unfold zC9;rw [if_neg h,if_neg (by simp [hf]),if_pos hx]
 unfold zH2
 rw [h1,if_pos (by decide)]
theorem vH0 {many:Nat}{S:StS}{c:List Change}{D:DiskS}(h:¬14<c.length)(hf:zH1 c=0)(hx:¬12<(zF3 S.rows c c.length).length)(hy:¬many<c.length+1):
 zH2 many S c D=if (zX2 many S c.length D).2.2≠0 then zX2 many S c.length D else vQ8 many c (zF3 S.rows c c.length) (zX2 many S c.length D):=by
 have h1:zC9 many S.rows c=0:=by unfold zC9;rw [if_neg h,if_neg (by simp [hf]),if_neg (by omega)]
 unfold zH2
 rw [h1,if_neg (by decide)]
theorem zX7 (sb lb:Nat)(L:Dk)(D:DiskS)(S:StS)(many:Nat)(rv vc:Value)(c:List Change)(w:World)(hs:StAt w sb lb L S many rv)(h:DiskAt w L D)(hok:D.ok)(hI:InvZ many D S)(hE:S.h.epoch≤20000)(hc:ChangesF (stF L lb sb) w vc c)(hco:∀x∈c,x.ok)(hcl:c.length≤1000):
 Calls Tryz.prog 55 #[.pointer (some ⟨sb,0,none⟩),vc] w fun e w' =>e= .returned (zE6 (zH2 many S c D).2.2)∧StoreTo w L lb sb rv many (zH2 many S c D).1 (zH2 many S c D).2.1 w' :=by
 obtain ⟨ro,rc,rfl,hrc,hrc'⟩:=hs.rows.rd.parts
 obtain ⟨co,cc,rfl,hcc,hcc'⟩:=hc.rd.parts
 obtain ⟨FZ,hFZ⟩:∃x,x=zH2 many S c D:=⟨_,rfl⟩
 rw [←hFZ]
 have HFZ:=hid hFZ
 have HS:=hid hs
 have HD:=hid h
 have HOK:=hid hok
 have HI:=hid hI
 have HE:=hid hE
 have HF:Hid (S.h.first≤800000):=hid (by have:=hI.f1;omega)
 have HC:=hid hc
 have HCO:=hid hco
 have HM:=hid (And.intro hI.m1 hI.m2)
 have HLEN:=hid hI.len
 have HFEW:=hid hI.few
 obtain ⟨q1,q2,q3,q4,hnx⟩:=hI.parts
 have HWT:=hid q2
 have HNX:=hid hnx
 have H40:=hid q4
 have HBX:Hid (∀W,Below w.heap.size w W→W.heap[sb]?=some (.cells (yK5 L S.h (.pointer (some ⟨lb,0,none⟩)) (.slice ro S.rows.length rc)) 143 (0,0))):=hid (fun W hW=>(hs.below hW).box)
 clear hFZ hs h hok hI hE hc hco q1 q2 q3 q4 hnx
 have SAME:Hid (∀W,Below w.heap.size w W→StoreTo w L lb sb (.slice ro S.rows.length rc) many D S W):=hid (fun W hW=>StoreTo.same HS.out (zB7 hW _) rfl (HD.out.below hW) (fun k hk=>Or.inl hk))
 by_cases h14:14<c.length
 · have h14' :(14:Int)<(c.length:Int):=by omega
   have HZ:Hid (FZ=(D,S,2)):=hid (HFZ.out.trans (vH2 h14))
   clear h14
   go_enter Tryz.func55, Tryz.ntmps55
   go_wp2_with fail
   go_ret
   rw [HZ.out]
   exact ⟨by rw [zA5 (by simp)];rfl,SAME.out _ (Below.refl _ _)⟩
 have h14' :¬(14:Int)<(c.length:Int):=by omega
 have H14:=hid h14
 clear h14
 go_enter Tryz.func55, Tryz.ntmps55
 go_wp2_with fail
 go_loopw [17] (fun iv wr=>∃k:Nat,k≤c.length∧iv= .int .i64 k∧zH1 (c.drop k)=zH1 c∧Below w.heap.size w wr) (fun iv _=>c.length - (intOf iv).toNat)
 case atStart=>exact ⟨0,Nat.zero_le _,rfl,rfl,Below.refl _ _⟩
 case round=>
  obtain ⟨k,hk,rfl,hfk,hbw⟩:=hrel
  have HFK:=hid hfk
  have HBW:=hid hbw
  clear hfk hbw
  by_cases hlt:k<c.length
  · obtain ⟨cb,cof,rfl,hlb,x0,x1,x2⟩:=Changes.cell (HC.out.below HBW.out).rd k hlt
    obtain ⟨x,hx⟩:∃x,x=c[k]:=⟨_,rfl⟩
    have hxo:x.ok:=by rw [hx];exact HCO.out _ (List.getElem_mem hlt)
    have CK:=fun W=>yG2 x.key x.val x.gone W hxo.1 hxo.2
    obtain ⟨n,hn⟩:∃n,n=zA2 x:=⟨_,rfl⟩
    rw [show (⟨x.key,x.val,x.gone⟩:Change)=x from rfl,←hn] at CK
    replace CK:=hid CK
    rw [←hx] at x0 x1 x2
    have HNX1:Hid (zA2 c[k]=n):=hid (by rw [hn,hx])
    obtain ⟨W3,hW3⟩:∃W3,W3=wr.alloc (.cells #[.string x.key, .string x.val, .bool x.gone] 109):=⟨_,rfl⟩
    have HB3:Hid (Below w.heap.size w W3):=hid (by rw [hW3];exact two HBW.out (zA0 _ _))
    have HW3:=hid hW3
    clear hx hxo hn hW3
    go_wp2_with fail
    rw [←HW3.out]
    refine (CK.out _).mono ?_
    rintro e w4 ⟨rfl,hb4⟩
    have HB4:=hid (two HB3.out hb4)
    clear hb4 x0 x1 x2
    by_cases hn0:n=0
    · have HNN:=hid (xF6 hlt HFK.out (by rw [HNX1.out];simp [hn0]))
      rw [show zE6 n= .nilIface by rw [hn0];rfl]
      clear hn0
      go_wp2_with fail
      go_roundw
      case rel=>exact ⟨k+1,by omega,by go_num,HNN.out,HB4.out⟩
      case measure=>simp [intOf];omega
    · have HNN:=hid (xM3 hlt HFK.out (by rw [HNX1.out];exact hn0))
      have HZ:Hid (FZ=(D,S,n)):=hid (HFZ.out.trans (xZ5 H14.out hn0 (by rw [HNN.out,HNX1.out])))
      have HN0:=hid hn0
      rw [zA5 hn0]
      clear hn0
      go_wp2_with fail
      go_ret
      rw [HZ.out]
      exact ⟨by rw [zA5 HN0.out];rfl,SAME.out _ HB4.out⟩
  · obtain rfl:k=c.length:=by omega
    obtain ⟨wx,hwx⟩:∃wx:World,wx=wr:=⟨_,rfl⟩
    subst hwx
    have HF0:Hid (zH1 c=0):=hid (by rw [←HFK.out,List.drop_length];rfl)
    obtain ⟨c0,c1,c2,c3,c4,c5,c6,cf⟩:=zF6 (HBX.out wx HBW.out)
    clear c1 c2 c3 c4
    have CA:=yT1 (.slice ro S.rows.length rc) (.slice co c.length cc) S.rows c wx (HS.out.rows.rd.below HBW.out) (HC.out.rd.below HBW.out) HI.out.rises (by have:=HFEW.out;omega) (by have:=H14.out;omega)
    obtain ⟨rn,hrn⟩:∃x,x=zF3 S.rows c c.length:=⟨_,rfl⟩
    rw [←hrn] at CA
    have HRN:=hid hrn
    have HCA:=hid CA
    clear CA hrn
    go_wp2_with fail
    refine HCA.out.mono ?_
    rintro e w3 ⟨v3,rfl,ho3,hb3⟩
    obtain ⟨ao3,ac3,rfl,hac3,hac3'⟩:=zD4 ho3
    have HO3:=hid ho3
    have HB3:=hid (two HBW.out hb3)
    clear ho3 hb3 c0 c5 c6 cf
    by_cases h12:12<rn.length
    · have h12' :(12:Int)<(rn.length:Int):=by omega
      have HZ:Hid (FZ=(D,S,7)):=hid (HFZ.out.trans (xG6 H14.out HF0.out (Or.inl (by rw [←HRN.out];exact h12))))
      clear h12
      go_wp2_with fail
      go_ret
      rw [HZ.out]
      exact ⟨by rw [zA5 (by simp)];rfl,SAME.out _ HB3.out⟩
    have h12' :¬(12:Int)<(rn.length:Int):=by omega
    have H12:=hid h12
    clear h12
    obtain ⟨nl,hnl⟩:∃x,x=D.now.length:=⟨_,rfl⟩
    have HNL:Hid (nl=26+many):=hid (hnl.trans HLEN.out)
    have hnl1:26≤nl:=by rw [HNL.out];omega
    have hnl2:nl≤60:=by rw [HNL.out];have:=HM.out.2;omega
    have CS:Hid (∀W,Below w.heap.size w W→Calls Tryz.prog 87 #[.pointer (some ⟨L.b,0,none⟩)] W fun e w' =>e= .returned (.int .i64 nl)∧Below W.heap.size W w'):=hid (fun V hV=>by
     have:=zM8 L D V (HD.out.below hV)
     rw [←hnl] at this
     exact this.mono fun e w' h=>⟨h.1,by rw [h.2];exact Below.refl _ _⟩)
    have CR:Hid (∀W,Below w.heap.size w W→Calls Tryz.prog 96 #[.pointer (some ⟨lb,0,none⟩)] W fun e w' =>e= .returned (.int .i64 ((many:Int) - S.next))∧Below W.heap.size W w'):=hid fun W hW=>vL0 lb L 26 many S.h.first S.next W (HS.out.below hW).log HNX.out (by have:=HM.out.2;omega)
    have hw26:IntKind.i64.wrap ((nl:Int) - 26)=(nl:Int) - 26:=by rw [IntKind.wrap_i64];omega
    clear hnl
    obtain ⟨c0,c1,c2,c3,c4,c5,c6,cf⟩:=zF6 (HBX.out w3 HB3.out)
    clear c1 c2 c3 c4 c5 c6 cf
    go_wp2_with fail
    refine (CS.out _ HB3.out).mono ?_
    rintro e w4 ⟨rfl,hb4⟩
    have HO34:=hid hb4
    have HB4:=hid (two HB3.out hb4)
    clear hb4 c0
    by_cases hmc:many<c.length+1
    · have hmc' :((nl:Int) - 26)<(c.length:Int)+1:=by rw [HNL.out];omega
      have HZ:Hid (FZ=(D,S,7)):=hid (HFZ.out.trans (xG6 H14.out HF0.out (Or.inr hmc)))
      clear hmc
      go_wp2_with fail
      go_ret
      rw [HZ.out]
      exact ⟨by rw [zA5 (by simp)];rfl,SAME.out _ HB4.out⟩
    have hmc' :¬((nl:Int) - 26)<(c.length:Int)+1:=by rw [HNL.out];omega
    have HZR:Hid (FZ=if (zX2 many S c.length D).2.2≠0 then zX2 many S c.length D else vQ8 many c rn (zX2 many S c.length D)):=hid (by rw [HFZ.out,HRN.out];exact vH0 H14.out HF0.out (by rw [←HRN.out];exact H12.out) hmc)
    clear hmc
    obtain ⟨c0,c1,c2,c3,c4,c5,c6,cf⟩:=zF6 (HBX.out w4 HB4.out)
    clear c0 c1 c2 c3 c4 c6 cf
    go_wp2_with fail
    refine (CR.out _ HB4.out).mono ?_
    rintro e wq ⟨rfl,hbq⟩
    have HO3Q:=hid (two HO34.out hbq)
    have HBQ:=hid (two HB4.out hbq)
    clear hbq c5
    have HCQ:Hid (ChangesF (stF L lb sb) wq (.slice co c.length cc) c):=hid (HC.out.below HBQ.out)
    have HVQ:Hid (ChangesF (stF L lb sb) wq (.slice ao3 rn.length ac3) rn∧far (fun k=>k<w.heap.size) (.slice ao3 rn.length ac3)):=hid (by
     have hsz:=HBW.out.size
     have hfr:=yM8 HO3.out
     have hsl:=HS.out.lt
     have hll:=(Array.getElem?_eq_some_iff.1 HS.out.log.box).1
     have hfw:far (fun k=>k<w.heap.size) (.slice ao3 rn.length ac3):=fun a n cp e hn hf=>hfr a n cp e hn (by have:a.block<w.heap.size:=hf;show a.block<wx.heap.size;omega)
     refine ⟨⟨Rd.below (SL.of_own HO3.out) HO3Q.out,fun a n cp e hn hf=>hfw a n cp e hn ?_⟩,hfw⟩
     show a.block<w.heap.size
     rcases hf with hf | hf | hf
     · exact HD.out.lt _ hf
     · rw [hf];exact hll
     · rw [hf];exact hsl)
    by_cases hro:many<S.next+c.length+1
    · have hro' :((many:Int) - S.next)<(c.length:Int)+1:=by omega
      have CC:=yX7 sb lb L D S many (.slice ro S.rows.length rc) wq (HS.out.below HBQ.out) (HD.out.below HBQ.out) HOK.out H40.out HLEN.out (by have:=HM.out.1;omega) (fun x hx=>(HI.out.good x hx).1) HFEW.out (by have:=HE.out;omega) HI.out.hok.2.1 HI.out.hok.2.2.2.1 (by have:=HF.out;omega) (by rw [HWT.out];exact Nat.zero_le _)
      have hcf:=vH7 many S D
      have hok5:=xE2 zU4 many S D HOK.out
      have hcs:=yX1 HI.out (by have:=HE.out;omega)
      have hrz:zX2 many S c.length D=zQ7 many S D:=by unfold zX2;rw [if_pos hro]
      obtain ⟨⟨D5,S5,n5⟩,hp5⟩:∃p,p=zQ7 many S D:=⟨_,rfl⟩
      rw [←hp5] at CC hcf hok5 hcs hrz
      dsimp only at CC hcf hok5
      have HZ1:Hid (FZ=if n5≠0 then (D5,S5,n5) else vQ8 many c rn (D5,S5,n5)):=hid (by rw [HZR.out,hrz])
      have HCC:=hid CC
      have HCF:=hid hcf
      have HOK5:=hid hok5
      have HCS:=hid hcs
      clear hro CC hcf hok5 hcs hrz hp5
      go_wp2_with fail
      refine HCC.out.mono ?_
      rintro e w5 ⟨rfl,hst⟩
      have HST5:=hid hst
      clear hst
      by_cases hn5:n5=0
      · have HPUT:Hid (FZ=vQ8 many c rn (D5,S5,0)):=hid (by rw [HZ1.out,hn5,if_neg (by simp)])
        have HI5:Hid (InvZ many D5 S5):=hid (by
         rcases HCS.out with ⟨E,S',h1,h2,_⟩ | ⟨E,h1,_⟩
         · simp only [Prod.mk.injEq] at h1
           rw [h1.1,h1.2.1];exact h2
         · simp only [Prod.mk.injEq] at h1
           rw [hn5] at h1
           exact absurd h1.2.2 (by decide))
        have HFI5:Hid (S5.h.first≤900000):=hid (by have h1:=HCF.out;have h2:=HF.out;have h3:=HM.out.2;omega)
        rw [show zE6 n5= .nilIface by rw [hn5];rfl]
        clear hn5
        obtain ⟨L5,lb5,rv5,e5,d5,s5,o5,g5,f5⟩:=HST5.out
        have hcq:=HCQ.out.turned (G:=stF L5 lb5 sb) (by decide) o5 g5
        have CAD:=uD3 lb5 L5 D5 26 many S5.h.first S5.next (.slice co c.length cc) c w5 s5.log d5 HOK5.out s5.lf (hcq.moved (by decide) (fun x hx=>Or.inl (Or.inl hx))) HCO.out (by rw [HI5.out.parts.2.1];exact Nat.zero_le _) hcl (by have:=HM.out.2;omega) HI5.out.parts.2.2.2.2 (by have:=HFI5.out;omega)
        have hpu:=HPUT.out
        unfold vQ8 at hpu
        dsimp only at hpu
        obtain ⟨⟨D6,n6⟩,hq6⟩:∃q,q=yS4 26 many S5.h.first S5.next c D5:=⟨_,rfl⟩
        rw [←hq6] at CAD hpu
        dsimp only at CAD hpu
        have HCAD:=hid CAD
        have HPU:=hid hpu
        have HAD:Hid (∀nx w6,vA3 w5 L5 lb5 26 many S5.h.first nx D6 w6→StoreTo wq L lb sb (.slice ro S.rows.length rc) many D6 ⟨S5.h,nx,S5.rows⟩ w6):=hid (fun nx w6 ha=>StoreTo.added e5 s5 o5 g5 f5 ha)
        obtain ⟨c0,c1,c2,c3,c4,c5,c6,cf⟩:=zF6 s5.box
        clear c0 c1 c2 c3 c4 c6 cf e5 d5 s5 o5 g5 f5 hcq CAD hpu hq6
        go_wp2_with fail
        refine HCAD.out.mono ?_
        rintro e w6 ⟨rfl,ha⟩
        clear c5
        by_cases hn6:n6=0
        · have hto:=HAD.out _ _ ha
          rw [hn6,xV3,if_pos rfl] at hto
          have HTO:=hid hto
          have HZ:Hid (FZ=(D6,⟨S5.h,S5.next+c.length+1,rn⟩,0)):=hid (by rw [HPU.out,if_pos hn6])
          obtain ⟨L6,lb6,rv6,e6,d6,s6,o6,g6,f6⟩:=hto
          obtain ⟨c0,c1,c2,c3,c4,c5,c6,cf⟩:=zF6 s6.box
          rw [show zE6 n6= .nilIface by rw [hn6];rfl]
          clear hn6 ha c0 c1 c2 c3 c4 c5 e6 d6 s6 o6 g6 f6
          go_wp2_with fail
          go_ret
          rw [HZ.out]
          exact ⟨rfl,StoreTo.set HBQ.out HTO.out HVQ.out.1 HVQ.out.2⟩
        · have hto:=HAD.out _ _ ha
          rw [xV3,if_neg hn6] at hto
          have HTO:=hid (hto.after HBQ.out)
          have HZ:Hid (FZ=(D6,S5,n6)):=hid (by rw [HPU.out,if_neg hn6])
          have HN6:=hid hn6
          rw [zA5 hn6]
          clear hn6 ha hto
          go_wp2_with fail
          go_ret
          rw [HZ.out]
          exact ⟨by rw [zA5 HN6.out];rfl,HTO.out⟩
      · have HZ:Hid (FZ=(D5,S5,n5)):=hid (by rw [HZ1.out,if_pos hn5])
        have HN5:=hid hn5
        rw [zA5 hn5]
        clear hn5
        go_wp2_with fail
        go_ret
        rw [HZ.out]
        exact ⟨by rw [zA5 HN5.out];rfl,HST5.out.after HBQ.out⟩
    · have hro' :¬((many:Int) - S.next)<(c.length:Int)+1:=by omega
      have HPUT:Hid (FZ=vQ8 many c rn (D,S,0)):=hid (by rw [HZR.out,show zX2 many S c.length D=(D,S,0) by unfold zX2;rw [if_neg hro]];rfl)
      have HST5:Hid (StoreTo wq L lb sb (.slice ro S.rows.length rc) many D S wq):=hid (StoreTo.same (HS.out.below HBQ.out) (Off.refl _ _) rfl (HD.out.below HBQ.out) (fun k hk=>Or.inl hk))
      have HI5:=HI
      have HOK5:=HOK
      have HFI5:Hid (S.h.first≤900000):=hid (by have:=HF.out;omega)
      clear hro
      obtain ⟨L5,lb5,rv5,e5,d5,s5,o5,g5,f5⟩:=HST5.out
      have hcq:=HCQ.out.turned (G:=stF L5 lb5 sb) (by decide) o5 g5
      have CAD:=uD3 lb5 L5 D 26 many S.h.first S.next (.slice co c.length cc) c wq s5.log d5 HOK5.out s5.lf (hcq.moved (by decide) (fun x hx=>Or.inl (Or.inl hx))) HCO.out (by rw [HI5.out.parts.2.1];exact Nat.zero_le _) hcl (by have:=HM.out.2;omega) HI5.out.parts.2.2.2.2 (by have:=HFI5.out;omega)
      have hpu:=HPUT.out
      unfold vQ8 at hpu
      dsimp only at hpu
      obtain ⟨⟨D6,n6⟩,hq6⟩:∃q,q=yS4 26 many S.h.first S.next c D:=⟨_,rfl⟩
      rw [←hq6] at CAD hpu
      dsimp only at CAD hpu
      have HCAD:=hid CAD
      have HPU:=hid hpu
      have HAD:Hid (∀nx w6,vA3 wq L5 lb5 26 many S.h.first nx D6 w6→StoreTo wq L lb sb (.slice ro S.rows.length rc) many D6 ⟨S.h,nx,S.rows⟩ w6):=hid (fun nx w6 ha=>StoreTo.added e5 s5 o5 g5 f5 ha)
      obtain ⟨c0,c1,c2,c3,c4,c5,c6,cf⟩:=zF6 s5.box
      clear c0 c1 c2 c3 c4 c6 cf e5 d5 s5 o5 g5 f5 hcq CAD hpu hq6
      go_wp2_with fail
      refine HCAD.out.mono ?_
      rintro e w6 ⟨rfl,ha⟩
      clear c5
      by_cases hn6:n6=0
      · have hto:=HAD.out _ _ ha
        rw [hn6,xV3,if_pos rfl] at hto
        have HTO:=hid hto
        have HZ:Hid (FZ=(D6,⟨S.h,S.next+c.length+1,rn⟩,0)):=hid (by rw [HPU.out,if_pos hn6])
        obtain ⟨L6,lb6,rv6,e6,d6,s6,o6,g6,f6⟩:=hto
        obtain ⟨c0,c1,c2,c3,c4,c5,c6,cf⟩:=zF6 s6.box
        rw [show zE6 n6= .nilIface by rw [hn6];rfl]
        clear hn6 ha c0 c1 c2 c3 c4 c5 e6 d6 s6 o6 g6 f6
        go_wp2_with fail
        go_ret
        rw [HZ.out]
        exact ⟨rfl,StoreTo.set HBQ.out HTO.out HVQ.out.1 HVQ.out.2⟩
      · have hto:=HAD.out _ _ ha
        rw [xV3,if_neg hn6] at hto
        have HTO:=hid (hto.after HBQ.out)
        have HZ:Hid (FZ=(D6,S,n6)):=hid (by rw [HPU.out,if_neg hn6])
        have HN6:=hid hn6
        rw [zA5 hn6]
        clear hn6 ha hto
        go_wp2_with fail
        go_ret
        rw [HZ.out]
        exact ⟨by rw [zA5 HN6.out];rfl,HTO.out⟩
theorem vO4 (sb lb:Nat)(L:Dk)(S:StS)(many:Nat)(rv:Value)(w:World)(hs:StAt w sb lb L S many rv)(hn:S.rows.length≤1000):
 Calls Tryz.prog 60 #[.pointer (some ⟨sb,0,none⟩)] w fun e w' =>∃v,e= .returned v∧w'.ownsRow w.heap.size 109 3 v S.rows.length (S.rows.flatMap Change.cells)∧Below w.heap.size w w' :=by
 have CR:=hid (yR6 rv S.rows w hs.rows.rd hn)
 obtain ⟨c0,c1,c2,c3,c4,c5,c6,cf⟩:=zF6 hs.box
 clear c0 c1 c2 c3 c4 c5 hs
 go_enter Tryz.func60, Tryz.ntmps60
 go_wp2_with fail
 refine CR.out.mono ?_
 rintro e w1 ⟨v,rfl,ho,hb⟩
 go_wp2_with fail
 go_ret
 exact ⟨_,rfl,ho,hb⟩
open Go.RowKit Go.Sort Go.Shelf
attribute [local go_sem] Oper.semAt_some
open Go.RowKit Go.Sort
section
variable {w w' :World} {B b m:Nat} {L M:Dk} {D E D' :DiskS}
end
open Go.RowKit Go.Sort
section
variable {w w' :World} {B lb b:Nat} {L:Dk} {D D' :DiskS} {fr many first next n' :Nat}
end
theorem uC7 (n:Nat):Calm (xI7 n):=⟨rfl,rfl⟩
theorem newD_40 (n:Nat):∀s∈(xI7 n).now,s.size=40:=fun s hs=>by
 have:s=zI3 40:=List.eq_of_mem_replicate hs
 rw [this];exact yA5 40
theorem uN4 (n:Nat):(xI7 n).now.length=n:=by simp [xI7]
open Go.RowKit Go.Sort
structure StD (w:World) (B sb b many:Nat) (L:Dk) (lb:Nat) (rv:Value) (D:DiskS) (S:StS):Prop where
 d:DiskAt w L D
 eq:L.b=b
 s:StAt w sb lb L S many rv
 low:∀k,stF L lb sb k→B≤k
 inv:InvZ many D S
 ok:D.ok
section
variable {w w' :World} {B sb b many:Nat} {L:Dk} {lb:Nat} {rv:Value} {D D' :DiskS} {S S' :StS}
theorem StD.below (h:StD w B sb b many L lb rv D S)(hb:Below w.heap.size w w'):StD w' B sb b many L lb rv D S:=⟨h.d.below hb,h.eq,h.s.below hb,h.low,h.inv,h.ok⟩
theorem StD.lt (h:StD w B sb b many L lb rv D S):∀k,stF L lb sb k→k<w.heap.size:=fun k hk=>by
 rcases hk with hk | hk | hk
 · exact h.d.lt _ hk
 · rw [hk];exact (Array.getElem?_eq_some_iff.1 h.s.log.box).1
 · rw [hk];exact h.s.lt
end
theorem uM8 (w:World)(B b many:Nat)(L:Dk)(D:DiskS)(S:StS)(hd:DiskAt w L D)(he:L.b=b)(hI:InvZ many D S)(hok:D.ok)(hlow:∀k,L.foot k→B≤k)(hB:B≤w.heap.size):
 Calls Tryz.prog 54 #[.pointer (some ⟨b,0,none⟩)] w fun e w' =>∃sb lb rv,e= .returned (.tuple #[.pointer (some ⟨sb,0,none⟩), .nilIface])∧StD w' B sb b many L lb rv D S∧Below w.heap.size w w' ∧w.heap.size≤sb∧w.heap.size≤lb∧far (fun x=>x<w.heap.size) rv:=by
 have C:=xK0 L D w hd hI.parts.2.2.1 hok hI.parts.2.2.2.1 (by rw [hI.len];have:=hI.m1;omega)
 rw [he] at C
 refine C.mono ?_
 rintro e w' ⟨h,hb⟩
 rcases h with ⟨h,_⟩ | ⟨S1,sb,lb,rv,h,rfl,hs,h1,h2,h3⟩
 · rw [hI.open] at h;cases h
 · rw [hI.open] at h
   simp only [Option.some.injEq] at h
   subst h
   rw [hI.len,Nat.add_sub_cancel_left] at hs
   refine ⟨sb,lb,rv,rfl,⟨hd.below hb,he,hs,fun k hk=>?_,hI,hok⟩,hb,h1,h2,h3⟩
   rcases hk with hk | hk | hk
   · exact hlow k hk
   · omega
   · omega
open Go.RowKit Go.Sort
section
variable {w W W' :World} {b many mb sb lb used used' :Nat} {L:Dk} {D D' :DiskS} {S S' :StS} {rv rvm rvm' :Value} {rows rows' :List Change}
end
end Go.Proofs.YtggpodlecljcbabGreatDoor
