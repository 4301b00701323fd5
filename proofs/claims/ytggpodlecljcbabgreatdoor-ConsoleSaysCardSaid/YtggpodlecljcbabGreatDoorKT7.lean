/- The walk of trio.Open. Printed by wip/mk_tr.py. -/
import Derived.Test.YtggpodlecljcbabGreatDoorKT1
namespace Go.Proofs.YtggpodlecljcbabGreatDoor
set_option linter.unusedSimpArgs false
set_option linter.unusedVariables false
set_option maxRecDepth 100000
set_option maxHeartbeats 64000000
open Lib (hid)
open Go.RowKit Go.Sort
theorem vW2 (w0:World)(b:Nat→Nat)(L:Nat→Dk)(D:Nat→DiskS)(q:Quilt)(w:World)(h:Disks3 w0.heap.size b w L D)(hs:∀k,k<3→Sound (D k))(hg:GlobI w0)(hbw:Below w0.heap.size w0 w)(hvq:yA7 (zQ4 D)=q)(hve:yA8 (zQ4 D)=0)(hgood:zB2 q=0):
 Calls Tryz.prog 11 #[.agg #[.pointer (some ⟨b 0,0,none⟩), .pointer (some ⟨b 1,0,none⟩), .pointer (some ⟨b 2,0,none⟩)]] w fun e w' =>∃tb L' D' lb sb rv sp v,e= .returned (.tuple #[.pointer (some ⟨tb,0,none⟩), .int .i64 (zS5 (zQ4 D) q).length, .nilIface])∧OpenR w0 b D q w' tb L' D' lb sb rv sp v∧w.heap.size≤tb∧Steps (DF L) w w' (TF tb L' lb sb):=by
 have hgw:=hg.below hbw
 obtain ⟨W1,hW1⟩:∃W1,W1=w.alloc (.cells #[.pointer (some ⟨b 0,0,none⟩), .pointer (some ⟨b 1,0,none⟩), .pointer (some ⟨b 2,0,none⟩)] 26):=⟨_,rfl⟩
 have HW1:=hid hW1
 have hb1:Below w.heap.size w W1:=by rw [hW1];exact zA0 _ _
 have HPX:Hid (W1.heap[w.heap.size]?=some (.cells #[.pointer (some ⟨b 0,0,none⟩), .pointer (some ⟨b 1,0,none⟩), .pointer (some ⟨b 2,0,none⟩)] 26 (0,0))):=hid (by rw [hW1];show (w.heap.push _)[w.heap.size]?=_;simp)
 have HD1:=hid (h.below hb1)
 have HB1:=hid hb1
 have HBW1:=hid (two hbw hb1)
 have HZ1:Hid (W1.heap.size=w.heap.size+1):=hid (by rw [hW1];simp)
 have HLT:Hid (∀k,k<3→∀x,(L k).foot x→x<w.heap.size):=hid (fun k hk x hx=>h.lt hk hx)
 have CC:=hid (zO0 b L D W1 (zY2 (h.below hb1) hs (hgw.below hb1)))
 have HS:=hid hs
 have HG:=hid hg
 have HQ:=hid hvq
 have HE:=hid hve
 have HGD:=hid hgood
 clear hW1 hb1 h hs hg hbw hvq hve hgood hgw
 go_enter Tryz.func11, Tryz.ntmps11
 go_wp2_with fail
 rw [←HW1.out]
 refine CC.out.mono ?_
 rintro e w2 ⟨tv,rfl,ht,hfr,hb2⟩
 have hpc:=zS1 (show w2.heap[w.heap.size]?=_ by rw [hb2.block _ (by rw [HZ1.out];omega)];exact HPX.out)
 obtain ⟨W3,hW3⟩:∃W3,W3=w2.alloc (.cells tv.arr 53):=⟨_,rfl⟩
 have hb3:Below w2.heap.size w2 W3:=by rw [hW3];exact zA0 _ _
 have hlx:W3.heap[w2.heap.size]?=some (.cells tv.arr 53 (0,0)):=by rw [hW3];show (w2.heap.push _)[w2.heap.size]?=_;simp
 have CV:=vV8 W1.heap.size W3 tv (zQ4 D) W3 (ht.below hb3) (Below.refl _ _) hfr
 unfold RetQV at CV
 rw [HQ.out,HE.out,zD2] at CV
 have HT3:=hid (ht.below hb3)
 obtain ⟨⟨a0,av,a2⟩,⟨b0,bv,b2⟩,⟨d0,dv,d2⟩⟩:=tv
 obtain ⟨a3,a5,e,_,_⟩:=ht.1.2.2.parts
 dsimp only at e
 subst e
 obtain ⟨b3,b5,e,_,_⟩:=ht.2.1.2.2.parts
 dsimp only at e
 subst e
 obtain ⟨d3,d5,e,_,_⟩:=ht.2.2.2.2.parts
 dsimp only at e
 subst e
 generalize (zQ4 D).a.quilt.files.length=a4,(zQ4 D).b.quilt.files.length=b4,(zQ4 D).c.quilt.files.length=d4 at *
 simp only [TrioV.val,TrioV.arr] at CV hW3 hlx ⊢
 obtain ⟨x0,x1,x2,x3,x4,x5,x6,x7,x8,xf⟩:=zW7 hlx
 have HCV:=hid CV
 have HW3:=hid hW3
 have HB3:=hid (two hb2 hb3)
 have HLX:=hid hlx
 have HZ3:Hid (W3.heap.size=w2.heap.size+1):=hid (by rw [hW3];simp)
 have HZ2:Hid (W1.heap.size≤w2.heap.size):=hid hb2.size
 obtain ⟨p0,p1,p2,pf⟩:=hpc
 clear CV hW3 hlx hb2 hb3 ht hfr
 go_wp2_with fail
 rw [←HW3.out]
 refine HCV.out.mono ?_
 rintro e w4 ⟨qv,rfl,⟨v,rfl,hv,hvf⟩,hb4⟩
 obtain ⟨vo,vc,rfl,hvc1,hvc2⟩:=hv.parts
 obtain ⟨W6,hW6⟩:∃W6,W6=(w4.alloc (.cells #[.slice vo q.files.length vc, .int .i64 q.turn] 32)).alloc (.cells #[.pointer (some ⟨b 0,0,none⟩), .pointer (some ⟨b 1,0,none⟩), .pointer (some ⟨b 2,0,none⟩), .pointer none, .pointer none, .pointer none, .slice vo q.files.length vc, .int .i64 q.turn] 81):=⟨_,rfl⟩
 have hb6:Below w4.heap.size w4 W6:=by rw [hW6];exact two (zA0 _ _) (zA0 _ _)
 have CW:=hid (yF7 ⟨⟨a0, .slice a3 a4 a5,a2⟩,⟨b0, .slice b3 b4 b5,b2⟩,⟨d0, .slice d3 d4 d5,d2⟩⟩ (zQ4 D) (.agg #[.slice vo q.files.length vc, .int .i64 q.turn]) q W6 (HT3.out.below (two hb4 hb6)) ⟨_,rfl,hv.below (two hb4 hb6)⟩)
 have HW6:=hid hW6
 have HZ6:Hid (W6.heap.size=w4.heap.size+2):=hid (by rw [hW6];simp)
 have HB6:=hid (two HB3.out (two hb4 hb6))
 have HB46:=hid (two hb4 hb6)
 have HQX:Hid (W6.heap[w4.heap.size]?=some (.cells #[.slice vo q.files.length vc, .int .i64 q.turn] 32 (0,0))):=hid (by rw [hW6];show ((w4.heap.push _).push _)[w4.heap.size]?=_;simp [Array.getElem?_push,Array.getElem_push])
 have HTX:Hid (W6.heap[w4.heap.size+1]?=some (.cells #[.pointer (some ⟨b 0,0,none⟩), .pointer (some ⟨b 1,0,none⟩), .pointer (some ⟨b 2,0,none⟩), .pointer none, .pointer none, .pointer none, .slice vo q.files.length vc, .int .i64 q.turn] 81 (0,0))):=hid (by rw [hW6];show ((w4.heap.push _).push _)[w4.heap.size+1]?=_;simp [Array.getElem?_push,Array.getElem_push])
 have HV:=hid (And.intro hv hvf)
 have HZ4:Hid (W3.heap.size≤w4.heap.size):=hid hb4.size
 obtain ⟨W5,hW5⟩:∃W5,W5=w4.alloc (.cells #[.slice vo q.files.length vc, .int .i64 q.turn] 32):=⟨_,rfl⟩
 have hb5:Below w4.heap.size w4 W5:=by rw [hW5];exact zA0 _ _
 have hb56:Below W5.heap.size W5 W6:=by rw [hW6,hW5];exact zA0 _ _
 obtain ⟨r0,r1,r2,rf⟩:=zS1 (show W5.heap[w.heap.size]?=_ by rw [(two HB3.out (two hb4 hb5)).block _ (by rw [HZ1.out];omega)];exact HPX.out)
 obtain ⟨z0,z1,z2,z3,z4,z5,z6,z7,z8,zf⟩:=zW7 (show W6.heap[w2.heap.size]?=_ by rw [(two hb4 hb6).block _ (by rw [HZ3.out];omega)];exact HLX.out)
 have s0:W5.cell? ⟨w4.heap.size,0,none⟩=some (.slice vo q.files.length vc):=by rw [hW5];simp
 have s1:W5.cell? ⟨w4.heap.size,1,none⟩=some (.int .i64 q.turn):=by rw [hW5];simp
 have s2:=zA1 hb56 s0
 have s3:=zA1 hb56 s1
 have HW5:=hid hW5
 have HW65:Hid (W6=W5.alloc (.cells #[.pointer (some ⟨b 0,0,none⟩), .pointer (some ⟨b 1,0,none⟩), .pointer (some ⟨b 2,0,none⟩), .pointer none, .pointer none, .pointer none, .slice vo q.files.length vc, .int .i64 q.turn] 81)):=hid (by rw [hW6,hW5])
 rw [hW5] at r0 r1 r2 s0 s1
 rw [hW6] at z0 z1 z2 z3 z4 z5 z6 z7 z8 s2 s3
 clear hW5 hb5 hb56
 clear hb4 hb6 hv hvf hW6 x0 x1 x2 x3 x4 x5 x6 x7 x8 xf p0 p1 p2 pf
 go_wp2_with fail
 rw [←HW6.out]
 refine CW.out.mono ?_
 rintro e w7 ⟨nv,rfl,hn,hb7,hnf⟩
 obtain ⟨no,nc,rfl,hnc1,hnc2⟩:=hn.parts
 have HN:=hid (And.intro hn hnf)
 obtain ⟨ws,hws⟩:∃ws,ws=zS5 (zQ4 D) q:=⟨_,rfl⟩
 rw [←hws] at HN ⊢
 have HWS:=hid hws
 rw [←hws] at hnc1
 clear hws
 have HB7:=hid hb7
 have HB17:=hid (two HB6.out hb7)
 have hpre:PreT (fun _=>False) w0.heap.size b w7 (w4.heap.size+1) L D (fun k=>(L k).b) (fun k=>(L k).b) (fun _=> .slice none 0 0) (fun _=>none) (.slice vo q.files.length vc) q:=by
  have e1:=HZ1.out
  have e2:=HZ2.out
  have e3:=HZ3.out
  have e4:=HZ4.out
  have e6:=HZ6.out
  have ef:∀k,k<3→∀x,stF (L k) (L k).b (L k).b x→(L k).foot x:=fun k hk x hx=>by
   rcases hx with hx | hx | hx
   · exact hx
   · rw [hx];exact Or.inl rfl
   · rw [hx];exact Or.inl rfl
  have hw0:=HBW1.out.size
  refine ⟨?_,(HD1.out.below HB6.out).below hb7,fun k hk hp=>hp.elim,fun k hk x hx=>?_,fun i j hi hj hij x hx hx' =>HD1.out.ap i j hi hj hij x (ef i hi x hx) (ef j hj x hx'),fun i j hi hj hij a n c e=>(by cases e),fun k hk a n c e=>(by cases e),fun k hk hx=>?_,fun k hk a n c e=>(by cases e),by omega,(HV.out.1.below HB46.out).below hb7,fun k hk=>?_,?_,fun k hk a n c e=>(by cases e),yH6 HV.out.2 (fun x hx=>by have h1:x<w0.heap.size:=hx;omega)⟩
  · rw [hb7.block _ (by omega)];exact HTX.out
  · have h1:=HLT.out k hk x (ef k hk x hx)
    have h2:=hb7.size
    exact ⟨by omega,HD1.out.low k hk x (ef k hk x hx)⟩
  · have h1:=HLT.out k hk _ (ef k hk _ hx)
    omega
  · exact yH6 HV.out.2 (fun x hx=>by have h1:=HLT.out k hk x (ef k hk x hx);omega)
  · exact fun a n c e hn hx=>xU5 HV.out.1 (by decide) a n c e hn (by have h1:a.block=w4.heap.size+1:=hx;show W3.heap.size≤a.block;omega)
 have HPRE:=hid hpre
 have HPA:Hid (∀W,Below (w4.heap.size+1) w7 W→W.heap[w.heap.size]?=some (.cells #[.pointer (some ⟨b 0,0,none⟩), .pointer (some ⟨b 1,0,none⟩), .pointer (some ⟨b 2,0,none⟩)] 26 (0,0))∧W.heap[w4.heap.size]?=some (.cells #[.slice vo q.files.length vc, .int .i64 q.turn] 32 (0,0))):=hid (fun W hW=>by
  have e1:=HZ1.out
  have e2:=HZ2.out
  have e3:=HZ3.out
  have e4:=HZ4.out
  have e6:=HZ6.out
  exact ⟨by rw [hW.block _ (by omega),HB17.out.block _ (by omega)];exact HPX.out,by rw [hW.block _ (by omega),HB7.out.block _ (by omega)];exact HQX.out⟩)
 obtain ⟨r0,r1,r2,rf⟩:=zS1 (HPA.out w7 (Below.refl _ _)).1
 have HLK:Hid (Looks b L D W1):=hid (zY2 HD1.out HS.out (HG.out.below HBW1.out))
 clear hn hb7 hnf hpre z0 z1 z2 z3 z4 z5 z6 z7 z8 zf
 go_wp2_with fail
 go_loopw [32] (fun iv wr=>∃(k:Nat) (lb sb:Nat→Nat) (rv:Nat→Value) (sp:Nat→Option Addr),k≤3∧iv= .int .i64 k∧PreT (fun i=>i<k) w0.heap.size b wr (w4.heap.size+1) L D lb sb rv sp (.slice vo q.files.length vc) q∧(∀i,i<3→∀x,stF (L i) (lb i) (sb i) x→(L i).foot x∨w7.heap.size≤x)∧Off (fun x=>x=w4.heap.size+1) w7 wr) (fun iv _=>3 - (intOf iv).toNat)
 case atStart=>
  refine ⟨0,_,_,_,_,by omega,rfl,HPRE.out.mono (fun k _ h=>by omega),fun i hi x hx=>?_,Off.refl _ _⟩
  rcases hx with hx | hx | hx
  · exact Or.inl hx
  · exact Or.inl (by rw [hx];exact Or.inl rfl)
  · exact Or.inl (by rw [hx];exact Or.inl rfl)
 case round=>
  obtain ⟨k,lb,sb,rv,sp,hk,rfl,hpre,hclr,hof⟩:=hrel
  have hbw:Below (w4.heap.size+1) w7 wr:=hof.below _ (by have:=HB7.out.size;have:=HZ6.out;omega) (fun x hx=>by rw [hx];exact Nat.le_refl _)
  have HOF:=hid hof
  have HPK:=hid hpre
  have HCL:=hid hclr
  have HBW:=hid hbw
  have HBK:Hid (Below W1.heap.size W1 wr):=hid (HB17.out.trans (hbw.mono (by have:=HZ2.out;have:=HZ3.out;have:=HZ4.out;omega)))
  clear hpre hclr hbw hof
  obtain rfl | rfl | rfl | rfl:k=0∨k=1∨k=2∨k=3:=by omega
  · have CK:=hid (HLK.out 0 (by decide) wr.drew HBK.out.drew)
    rw [show ((0:Nat):Int)=0 from rfl]
    go_wp2_with fail
    go_region_with (first | (go_at_call 30;refine CK.out.mono ?_;rintro e w8 ⟨sq,cv,rfl,_,_,hl,hb8⟩;have HL8:=hid hl;have HB8:=hid hb8;obtain ⟨t0,t1,t2,t3,t4,t5,t6,t7,tf⟩:=((HPK.out.below (Below.refl _ _).drew).below hb8).cell;clear hl hb8))
    all_goals
     obtain ⟨lb',sb',rv',hp',hg'⟩:=(HPK.out.below (Below.refl _ _).drew).looked (k:=0) (by decide) (by have h1:=HBW1.out.size;have h2:=HBK.out.size;show w0.heap.size≤wr.heap.size;omega) HB8.out HL8.out
     have HP' :=hid hp'
     have HG' :=hid hg'
     clear hp' hg' t0 t1 t2 t3 t4 t5 t6 t7 tf
     go_wp2_with fail
     go_roundw
     case rel=>
      refine ⟨1,lb',sb',rv',_,by omega,rfl,HP'.out.mono (fun i _ h=>by omega),fun i hi x hx=>?_,(HOF.out.trans (zB7 (two (Below.refl _ _).drew HB8.out) _) (fun _ _ h=>h)).trans (zA7 (F:=fun x=>x=w4.heap.size+1) w8 ⟨w4.heap.size+1,3,none⟩ rfl _) (fun _ _ h=>h)⟩
      rcases HG'.out i hi x hx with h1 | h1
      · exact HCL.out i hi x h1
      · exact Or.inr (by have:=HBW.out.size;have h2:wr.heap.size≤x:=h1;omega)
     case measure=>simp [intOf]
  · have CK:=hid (HLK.out 1 (by decide) wr.drew HBK.out.drew)
    rw [show ((1:Nat):Int)=1 from rfl]
    go_wp2_with fail
    go_region_with (first | (go_at_call 30;refine CK.out.mono ?_;rintro e w8 ⟨sq,cv,rfl,_,_,hl,hb8⟩;have HL8:=hid hl;have HB8:=hid hb8;obtain ⟨t0,t1,t2,t3,t4,t5,t6,t7,tf⟩:=((HPK.out.below (Below.refl _ _).drew).below hb8).cell;clear hl hb8))
    all_goals
     obtain ⟨lb',sb',rv',hp',hg'⟩:=(HPK.out.below (Below.refl _ _).drew).looked (k:=1) (by decide) (by have h1:=HBW1.out.size;have h2:=HBK.out.size;show w0.heap.size≤wr.heap.size;omega) HB8.out HL8.out
     have HP' :=hid hp'
     have HG' :=hid hg'
     clear hp' hg' t0 t1 t2 t3 t4 t5 t6 t7 tf
     go_wp2_with fail
     go_roundw
     case rel=>
      refine ⟨2,lb',sb',rv',_,by omega,rfl,HP'.out.mono (fun i _ h=>by omega),fun i hi x hx=>?_,(HOF.out.trans (zB7 (two (Below.refl _ _).drew HB8.out) _) (fun _ _ h=>h)).trans (zA7 (F:=fun x=>x=w4.heap.size+1) w8 ⟨w4.heap.size+1,4,none⟩ rfl _) (fun _ _ h=>h)⟩
      rcases HG'.out i hi x hx with h1 | h1
      · exact HCL.out i hi x h1
      · exact Or.inr (by have:=HBW.out.size;have h2:wr.heap.size≤x:=h1;omega)
     case measure=>simp [intOf]
  · have CK:=hid (HLK.out 2 (by decide) wr.drew HBK.out.drew)
    rw [show ((2:Nat):Int)=2 from rfl]
    go_wp2_with fail
    go_region_with (first | (go_at_call 30;refine CK.out.mono ?_;rintro e w8 ⟨sq,cv,rfl,_,_,hl,hb8⟩;have HL8:=hid hl;have HB8:=hid hb8;obtain ⟨t0,t1,t2,t3,t4,t5,t6,t7,tf⟩:=((HPK.out.below (Below.refl _ _).drew).below hb8).cell;clear hl hb8))
    all_goals
     obtain ⟨lb',sb',rv',hp',hg'⟩:=(HPK.out.below (Below.refl _ _).drew).looked (k:=2) (by decide) (by have h1:=HBW1.out.size;have h2:=HBK.out.size;show w0.heap.size≤wr.heap.size;omega) HB8.out HL8.out
     have HP' :=hid hp'
     have HG' :=hid hg'
     clear hp' hg' t0 t1 t2 t3 t4 t5 t6 t7 tf
     go_wp2_with fail
     go_roundw
     case rel=>
      refine ⟨3,lb',sb',rv',_,by omega,rfl,HP'.out.mono (fun i _ h=>by omega),fun i hi x hx=>?_,(HOF.out.trans (zB7 (two (Below.refl _ _).drew HB8.out) _) (fun _ _ h=>h)).trans (zA7 (F:=fun x=>x=w4.heap.size+1) w8 ⟨w4.heap.size+1,5,none⟩ rfl _) (fun _ _ h=>h)⟩
      rcases HG'.out i hi x hx with h1 | h1
      · exact HCL.out i hi x h1
      · exact Or.inr (by have:=HBW.out.size;have h2:wr.heap.size≤x:=h1;omega)
     case measure=>simp [intOf]
  · rw [show ((3:Nat):Int)=3 from rfl]
    have HP3:Hid (PreT (fun _=>True) w0.heap.size b wr (w4.heap.size+1) L D lb sb rv sp (.slice vo q.files.length vc) q):=hid (HPK.out.mono (fun k hk _=>hk))
    have HNF:Hid (∀i,i<3→RdF (stF (L i) (lb i) (sb i)) 1 zI0 wr (.slice no ws.length nc) ws):=hid (fun i hi=>by
     have hnr:Rd 1 zI0 wr (.slice no ws.length nc) ws:=(RdF.off (F:=fun x=>x=w4.heap.size+1) (w' :=wr) ⟨HN.out.1,fun a n c e hn hx=>by
      have h1:=HN.out.2 a.block (by rw [e];rfl)
      have h2:a.block=w4.heap.size+1:=hx
      have:=HZ6.out
      omega⟩ HOF.out).rd
     refine ⟨hnr,fun a n c e hn hx=>?_⟩
     rcases HCL.out i hi _ hx with h1 | h1
     · have h2:=HLT.out i hi _ h1
       have h3:=HN.out.2 a.block (by rw [e];rfl)
       have:=HZ6.out
       have:=HZ1.out
       have:=HZ2.out
       have:=HZ3.out
       have:=HZ4.out
       omega
     · exact xU5 HN.out.1 (by decide) a n c e hn h1)
    have HC1:Hid (Clear L lb sb w.heap.size∧Clear L lb sb w4.heap.size):=hid (by
     have:=HZ6.out
     have:=HZ1.out
     have:=HZ2.out
     have:=HZ3.out
     have:=HZ4.out
     have:=HB7.out.size
     refine ⟨fun k hk hx=>?_,fun k hk hx=>?_⟩
     · rcases HCL.out k hk _ hx with h1 | h1
       · have h2:=HLT.out k hk _ h1;omega
       · omega
     · rcases HCL.out k hk _ hx with h1 | h1
       · have h2:=HLT.out k hk _ h1;omega
       · omega)
    have HPB:=hid (HPA.out wr HBW.out)
    have HNT:Hid (far (fun x=>x=w4.heap.size+1) (.slice no ws.length nc)):=hid (fun a n c e hn hx=>by
     have h1:=HN.out.2 a.block (by rw [e];rfl)
     have h2:a.block=w4.heap.size+1:=hx
     have:=HZ6.out
     omega)
    have HW41:Hid (w.heap.size+1≤w4.heap.size):=hid (by
     have:=HZ1.out
     have:=HZ2.out
     have:=HZ3.out
     have:=HZ4.out
     omega)
    have HB0:Hid (Below w0.heap.size w0 wr):=hid (two HBW1.out HBK.out)
    have HOW:Hid (Off (DF L) w wr):=hid (zB7 (two HB1.out HBK.out) _)
    have HZW:Hid (w.heap.size≤w7.heap.size):=hid (by
     have:=HZ1.out
     have:=HB17.out.size
     omega)
    obtain ⟨wy,hwy⟩:∃wy:World,wy=wr:=⟨_,rfl⟩
    subst hwy
    go_wp2_with fail
    go_loopw [49] (fun iv wx=>∃(j:Nat) (L' :Nat→Dk) (D' :Nat→DiskS) (lb sb:Nat→Nat) (rv:Nat→Value) (sp:Nat→Option Addr),j≤ws.length∧iv= .int .i64 j∧PreT (fun _=>True) w0.heap.size b wx (w4.heap.size+1) L' D' lb sb rv sp (.slice vo q.files.length vc) q∧(Clear L' lb sb w.heap.size∧Clear L' lb sb w4.heap.size)∧(∀i,i<3→RdF (stF (L' i) (lb i) (sb i)) 1 zI0 wx (.slice no ws.length nc) ws)∧(wx.heap[w.heap.size]?=some (.cells #[.pointer (some ⟨b 0,0,none⟩), .pointer (some ⟨b 1,0,none⟩), .pointer (some ⟨b 2,0,none⟩)] 26 (0,0))∧wx.heap[w4.heap.size]?=some (.cells #[.slice vo q.files.length vc, .int .i64 q.turn] 32 (0,0)))∧(∀k:Nat,k<3→(k:Int)∈ws.take j→∃S,HasQ (D' k) S q∧S.h.epoch≤2)∧(∀k:Nat,k<3→(k:Int) ∉ ws.take j→D' k=D k)∧Below w0.heap.size w0 wx∧(Off (DF L) w wx∧(∀i,i<3→∀x,stF (L' i) (lb i) (sb i) x→DF L x∨w.heap.size≤x))) (fun iv _=>ws.length - (intOf iv).toNat)
    case atStart=>exact ⟨0,L,D,lb,sb,rv,sp,Nat.zero_le _,rfl,HP3.out,HC1.out,HNF.out,HPB.out,fun k _ h=>by simp at h,fun k _ _=>rfl,HB0.out,HOW.out,fun i hi x hx=>(HCL.out i hi x hx).imp (fun h=>⟨i,hi,h⟩) (fun h=>by have:=HZW.out;omega)⟩
    case round=>
     obtain ⟨j,L',D',lb,sb,rv,sp,hj,rfl,hpre,hclr,hnf,hpb,hlaid,hrest,hb0,hst⟩:=hrel
     have HSJ:=hid hst
     have HPJ:=hid hpre
     have HCJ:=hid hclr
     have HNJ:=hid hnf
     have HBJ:=hid hpb
     have HLJ:=hid hlaid
     have HRJ:=hid hrest
     have HB0J:=hid hb0
     clear hpre hclr hnf hpb hlaid hrest hb0 hst
     by_cases hlt:j<ws.length
     · obtain ⟨nb,nf,rfl,hnb,x0⟩:=zI6 (HNJ.out 0 (by decide)).rd j hlt
       obtain ⟨k,hk3,hkw⟩:=uJ0 (t:=zQ4 D) (q:=q) (by rw [←HWS.out];exact List.getElem_mem hlt)
       rw [hkw] at x0
       have HKW:=hid hkw
       obtain ⟨r0,r1,r2,rf⟩:=zS1 HBJ.out.1
       have s0:wr.cell? ⟨w4.heap.size,0,none⟩=some (.slice vo q.files.length vc):=by simp [World.cell?,HBJ.out.2]
       have s1:wr.cell? ⟨w4.heap.size,1,none⟩=some (.int .i64 q.turn):=by simp [World.cell?,HBJ.out.2]
       have r0' :wr.drew.cell? ⟨w.heap.size,0,none⟩=some (.pointer (some ⟨b 0,0,none⟩)):=r0
       have r1' :wr.drew.cell? ⟨w.heap.size,1,none⟩=some (.pointer (some ⟨b 1,0,none⟩)):=r1
       have r2' :wr.drew.cell? ⟨w.heap.size,2,none⟩=some (.pointer (some ⟨b 2,0,none⟩)):=r2
       have s0' :wr.drew.cell? ⟨w4.heap.size,0,none⟩=some (.slice vo q.files.length vc):=s0
       have s1' :wr.drew.cell? ⟨w4.heap.size,1,none⟩=some (.int .i64 q.turn):=s1
       have hsnd:Sound (D' k):=by
        by_cases hm:(k:Int)∈ws.take j
        · obtain ⟨S,hS,_⟩:=HLJ.out k hk3 hm
          exact hS.sound
        · rw [HRJ.out k hk3 hm];exact HS.out k hk3
       have hdr:Below wr.heap.size wr wr.drew:=(Below.refl _ _).drew
       have CL:=xN7 w0 (L' k) (D' k) (.slice vo q.files.length vc) q wr.drew ((HPJ.out.ds.d k hk3).below hdr) hsnd (HPJ.out.ds.low k hk3) HG.out (two HB0J.out hdr) ⟨HPJ.out.qv.below hdr,fun a n c e hn hx=>HPJ.out.qf k hk3 a n c e hn (Or.inl hx)⟩ HGD.out
       rw [HPJ.out.ds.eq k hk3] at CL
       have HCL2:=hid CL
       clear CL hsnd hkw hnb hdr
       obtain rfl | rfl | rfl:k=0∨k=1∨k=2:=by omega
       · rw [show ((0:Nat):Int)=0 from rfl] at x0
         go_wp2_with fail
         go_region_with (first | (go_at_call 28;refine HCL2.out.mono ?_;rintro e w8 ⟨L8,lz,sz,rz,D8,S8,rfl,hr⟩;have HR:=hid hr;have hbt:=(hr.off.block (w4.heap.size+1) (by have:=HPJ.out.tlt;show w4.heap.size+1<wr.heap.size;omega) (fun hx=>HPJ.out.nt 0 (by decide) (Or.inl hx))).trans HPJ.out.box;have t3:w8.cell? ⟨w4.heap.size+1,3,none⟩=some (.pointer (sp 0)):=(by simp [World.cell?,hbt]);have tf:∀o,w8.frozen? ⟨w4.heap.size+1,o,none⟩=false:=(fun o=>by simp [World.frozen?,hbt]);clear hr hbt))
         all_goals
          obtain ⟨L9,lb9,sb9,rv9,hp9,hg9⟩:=(HPJ.out.below (Below.refl _ _).drew).laid (k:=0) (by decide) (by have h1:=HB0J.out.size;show w0.heap.size≤wr.heap.size;omega) HR.out
          have HP9:=hid hp9
          have HG9:=hid hg9
          have HO9:Hid (Off (stF (L' 0) (lb 0) (sb 0)) wr.drew w8):=hid (HR.out.off.mono (fun x hx=>Or.inl hx))
          clear hp9 hg9 x0 r0 r1 r2 rf s0 s1 r0' r1' r2' s0' s1' t3 tf
          go_wp2_with fail
          go_roundw
          case rel=>
           have htk:ws.take (j+1)=ws.take j++ [(0:Int)]:=by rw [List.take_succ_eq_append_getElem hlt,HKW.out];rfl
           have hof2:Off (fun x=>x=w4.heap.size+1) w8 (w8.setCell ⟨w4.heap.size+1,3,none⟩ (.pointer (some ⟨sz,0,none⟩))):=zA7 (F:=fun x=>x=w4.heap.size+1) w8 ⟨w4.heap.size+1,3,none⟩ rfl _
           have hl1:w.heap.size<wr.heap.size:=(Array.getElem?_eq_some_iff.1 HBJ.out.1).1
           have hl2:w4.heap.size<wr.heap.size:=(Array.getElem?_eq_some_iff.1 HBJ.out.2).1
           have hs8:=HO9.out.size
           have hs8' :wr.heap.size≤w8.heap.size:=hs8
           have hz:=HW41.out
           refine ⟨j+1,L9,upd D' 0 D8,lb9,sb9,rv9,upd sp 0 (some ⟨sz,0,none⟩),by omega,by go_num,HP9.out.mono (fun _ _ _=>Or.inl trivial),⟨HCJ.out.1.grow hl1 HG9.out,HCJ.out.2.grow hl2 HG9.out⟩,fun i hi=>?_,⟨?_,?_⟩,fun k hk hm=>?_,fun k hk hm=>?_,?_,?_,?_⟩
           · exact ⟨(RdF.off (F:=fun x=>x=w4.heap.size+1) ⟨(((HNJ.out 0 (by decide)).below (Below.refl _ _).drew).off HO9.out).rd,HNT.out⟩ hof2).rd,yJ7 (HNJ.out i hi).far (xU5 (HNJ.out i hi).rd (by decide)) (HG9.out i hi)⟩
           · rw [hof2.block _ (by omega) (fun e=>by have h1:w.heap.size=w4.heap.size+1:=e;omega),HO9.out.block _ hl1 (HCJ.out.1 0 (by decide))]
             exact HBJ.out.1
           · rw [hof2.block _ (by omega) (fun e=>by have h1:w4.heap.size=w4.heap.size+1:=e;omega),HO9.out.block _ hl2 (HCJ.out.2 0 (by decide))]
             exact HBJ.out.2
           · by_cases e:k=0
             · rw [e,zA9];exact ⟨S8,HR.out.has,HR.out.ep⟩
             · rw [zD0 _ _ e]
               refine HLJ.out k hk ?_
               rw [htk] at hm
               rcases List.mem_append.1 hm with h | h
               · exact h
               · have:=List.mem_singleton.1 h;omega
           · rw [htk] at hm
             have hne:k≠0:=fun e=>hm (List.mem_append_right _ (by rw [e];exact List.mem_singleton.2 rfl))
             rw [zD0 _ _ hne]
             exact HRJ.out k hk (fun h=>hm (List.mem_append_left _ h))
           · have hb1:Below w0.heap.size w0 wr.drew:=HB0J.out.drew
             exact (hb1.trans (HO9.out.below _ hb1.size (fun x hx=>(HPJ.out.lt 0 (by decide) x hx).2))).setCell (p:=⟨w4.heap.size+1,3,none⟩) HPJ.out.tB _
           · have hzw:=HSJ.out.1.size
             refine ((HSJ.out.1.trans (yJ0 (DF L) wr) (fun _ _ h=>h)).trans HO9.out (fun x hx hG=>?_)).trans hof2 (fun x hx hG=>?_)
             · rcases HSJ.out.2 0 (by decide) x hG with h | h
               · exact h
               · omega
             · have h1:x=w4.heap.size+1:=hG
               omega
           · intro i hi x hx
             rcases HG9.out i hi x hx with h | h
             · exact HSJ.out.2 i hi x h
             · have h1:wr.heap.size≤x:=h
               have hzw:=HSJ.out.1.size
               exact Or.inr (by omega)
          case measure=>simp [intOf];omega
       · rw [show ((1:Nat):Int)=1 from rfl] at x0
         go_wp2_with fail
         go_region_with (first | (go_at_call 28;refine HCL2.out.mono ?_;rintro e w8 ⟨L8,lz,sz,rz,D8,S8,rfl,hr⟩;have HR:=hid hr;have hbt:=(hr.off.block (w4.heap.size+1) (by have:=HPJ.out.tlt;show w4.heap.size+1<wr.heap.size;omega) (fun hx=>HPJ.out.nt 1 (by decide) (Or.inl hx))).trans HPJ.out.box;have t3:w8.cell? ⟨w4.heap.size+1,4,none⟩=some (.pointer (sp 1)):=(by simp [World.cell?,hbt]);have tf:∀o,w8.frozen? ⟨w4.heap.size+1,o,none⟩=false:=(fun o=>by simp [World.frozen?,hbt]);clear hr hbt))
         all_goals
          obtain ⟨L9,lb9,sb9,rv9,hp9,hg9⟩:=(HPJ.out.below (Below.refl _ _).drew).laid (k:=1) (by decide) (by have h1:=HB0J.out.size;show w0.heap.size≤wr.heap.size;omega) HR.out
          have HP9:=hid hp9
          have HG9:=hid hg9
          have HO9:Hid (Off (stF (L' 1) (lb 1) (sb 1)) wr.drew w8):=hid (HR.out.off.mono (fun x hx=>Or.inl hx))
          clear hp9 hg9 x0 r0 r1 r2 rf s0 s1 r0' r1' r2' s0' s1' t3 tf
          go_wp2_with fail
          go_roundw
          case rel=>
           have htk:ws.take (j+1)=ws.take j++ [(1:Int)]:=by rw [List.take_succ_eq_append_getElem hlt,HKW.out];rfl
           have hof2:Off (fun x=>x=w4.heap.size+1) w8 (w8.setCell ⟨w4.heap.size+1,4,none⟩ (.pointer (some ⟨sz,0,none⟩))):=zA7 (F:=fun x=>x=w4.heap.size+1) w8 ⟨w4.heap.size+1,4,none⟩ rfl _
           have hl1:w.heap.size<wr.heap.size:=(Array.getElem?_eq_some_iff.1 HBJ.out.1).1
           have hl2:w4.heap.size<wr.heap.size:=(Array.getElem?_eq_some_iff.1 HBJ.out.2).1
           have hs8:=HO9.out.size
           have hs8' :wr.heap.size≤w8.heap.size:=hs8
           have hz:=HW41.out
           refine ⟨j+1,L9,upd D' 1 D8,lb9,sb9,rv9,upd sp 1 (some ⟨sz,0,none⟩),by omega,by go_num,HP9.out.mono (fun _ _ _=>Or.inl trivial),⟨HCJ.out.1.grow hl1 HG9.out,HCJ.out.2.grow hl2 HG9.out⟩,fun i hi=>?_,⟨?_,?_⟩,fun k hk hm=>?_,fun k hk hm=>?_,?_,?_,?_⟩
           · exact ⟨(RdF.off (F:=fun x=>x=w4.heap.size+1) ⟨(((HNJ.out 1 (by decide)).below (Below.refl _ _).drew).off HO9.out).rd,HNT.out⟩ hof2).rd,yJ7 (HNJ.out i hi).far (xU5 (HNJ.out i hi).rd (by decide)) (HG9.out i hi)⟩
           · rw [hof2.block _ (by omega) (fun e=>by have h1:w.heap.size=w4.heap.size+1:=e;omega),HO9.out.block _ hl1 (HCJ.out.1 1 (by decide))]
             exact HBJ.out.1
           · rw [hof2.block _ (by omega) (fun e=>by have h1:w4.heap.size=w4.heap.size+1:=e;omega),HO9.out.block _ hl2 (HCJ.out.2 1 (by decide))]
             exact HBJ.out.2
           · by_cases e:k=1
             · rw [e,zA9];exact ⟨S8,HR.out.has,HR.out.ep⟩
             · rw [zD0 _ _ e]
               refine HLJ.out k hk ?_
               rw [htk] at hm
               rcases List.mem_append.1 hm with h | h
               · exact h
               · have:=List.mem_singleton.1 h;omega
           · rw [htk] at hm
             have hne:k≠1:=fun e=>hm (List.mem_append_right _ (by rw [e];exact List.mem_singleton.2 rfl))
             rw [zD0 _ _ hne]
             exact HRJ.out k hk (fun h=>hm (List.mem_append_left _ h))
           · have hb1:Below w0.heap.size w0 wr.drew:=HB0J.out.drew
             exact (hb1.trans (HO9.out.below _ hb1.size (fun x hx=>(HPJ.out.lt 1 (by decide) x hx).2))).setCell (p:=⟨w4.heap.size+1,4,none⟩) HPJ.out.tB _
           · have hzw:=HSJ.out.1.size
             refine ((HSJ.out.1.trans (yJ0 (DF L) wr) (fun _ _ h=>h)).trans HO9.out (fun x hx hG=>?_)).trans hof2 (fun x hx hG=>?_)
             · rcases HSJ.out.2 1 (by decide) x hG with h | h
               · exact h
               · omega
             · have h1:x=w4.heap.size+1:=hG
               omega
           · intro i hi x hx
             rcases HG9.out i hi x hx with h | h
             · exact HSJ.out.2 i hi x h
             · have h1:wr.heap.size≤x:=h
               have hzw:=HSJ.out.1.size
               exact Or.inr (by omega)
          case measure=>simp [intOf];omega
       · rw [show ((2:Nat):Int)=2 from rfl] at x0
         go_wp2_with fail
         go_region_with (first | (go_at_call 28;refine HCL2.out.mono ?_;rintro e w8 ⟨L8,lz,sz,rz,D8,S8,rfl,hr⟩;have HR:=hid hr;have hbt:=(hr.off.block (w4.heap.size+1) (by have:=HPJ.out.tlt;show w4.heap.size+1<wr.heap.size;omega) (fun hx=>HPJ.out.nt 2 (by decide) (Or.inl hx))).trans HPJ.out.box;have t3:w8.cell? ⟨w4.heap.size+1,5,none⟩=some (.pointer (sp 2)):=(by simp [World.cell?,hbt]);have tf:∀o,w8.frozen? ⟨w4.heap.size+1,o,none⟩=false:=(fun o=>by simp [World.frozen?,hbt]);clear hr hbt))
         all_goals
          obtain ⟨L9,lb9,sb9,rv9,hp9,hg9⟩:=(HPJ.out.below (Below.refl _ _).drew).laid (k:=2) (by decide) (by have h1:=HB0J.out.size;show w0.heap.size≤wr.heap.size;omega) HR.out
          have HP9:=hid hp9
          have HG9:=hid hg9
          have HO9:Hid (Off (stF (L' 2) (lb 2) (sb 2)) wr.drew w8):=hid (HR.out.off.mono (fun x hx=>Or.inl hx))
          clear hp9 hg9 x0 r0 r1 r2 rf s0 s1 r0' r1' r2' s0' s1' t3 tf
          go_wp2_with fail
          go_roundw
          case rel=>
           have htk:ws.take (j+1)=ws.take j++ [(2:Int)]:=by rw [List.take_succ_eq_append_getElem hlt,HKW.out];rfl
           have hof2:Off (fun x=>x=w4.heap.size+1) w8 (w8.setCell ⟨w4.heap.size+1,5,none⟩ (.pointer (some ⟨sz,0,none⟩))):=zA7 (F:=fun x=>x=w4.heap.size+1) w8 ⟨w4.heap.size+1,5,none⟩ rfl _
           have hl1:w.heap.size<wr.heap.size:=(Array.getElem?_eq_some_iff.1 HBJ.out.1).1
           have hl2:w4.heap.size<wr.heap.size:=(Array.getElem?_eq_some_iff.1 HBJ.out.2).1
           have hs8:=HO9.out.size
           have hs8' :wr.heap.size≤w8.heap.size:=hs8
           have hz:=HW41.out
           refine ⟨j+1,L9,upd D' 2 D8,lb9,sb9,rv9,upd sp 2 (some ⟨sz,0,none⟩),by omega,by go_num,HP9.out.mono (fun _ _ _=>Or.inl trivial),⟨HCJ.out.1.grow hl1 HG9.out,HCJ.out.2.grow hl2 HG9.out⟩,fun i hi=>?_,⟨?_,?_⟩,fun k hk hm=>?_,fun k hk hm=>?_,?_,?_,?_⟩
           · exact ⟨(RdF.off (F:=fun x=>x=w4.heap.size+1) ⟨(((HNJ.out 2 (by decide)).below (Below.refl _ _).drew).off HO9.out).rd,HNT.out⟩ hof2).rd,yJ7 (HNJ.out i hi).far (xU5 (HNJ.out i hi).rd (by decide)) (HG9.out i hi)⟩
           · rw [hof2.block _ (by omega) (fun e=>by have h1:w.heap.size=w4.heap.size+1:=e;omega),HO9.out.block _ hl1 (HCJ.out.1 2 (by decide))]
             exact HBJ.out.1
           · rw [hof2.block _ (by omega) (fun e=>by have h1:w4.heap.size=w4.heap.size+1:=e;omega),HO9.out.block _ hl2 (HCJ.out.2 2 (by decide))]
             exact HBJ.out.2
           · by_cases e:k=2
             · rw [e,zA9];exact ⟨S8,HR.out.has,HR.out.ep⟩
             · rw [zD0 _ _ e]
               refine HLJ.out k hk ?_
               rw [htk] at hm
               rcases List.mem_append.1 hm with h | h
               · exact h
               · have:=List.mem_singleton.1 h;omega
           · rw [htk] at hm
             have hne:k≠2:=fun e=>hm (List.mem_append_right _ (by rw [e];exact List.mem_singleton.2 rfl))
             rw [zD0 _ _ hne]
             exact HRJ.out k hk (fun h=>hm (List.mem_append_left _ h))
           · have hb1:Below w0.heap.size w0 wr.drew:=HB0J.out.drew
             exact (hb1.trans (HO9.out.below _ hb1.size (fun x hx=>(HPJ.out.lt 2 (by decide) x hx).2))).setCell (p:=⟨w4.heap.size+1,5,none⟩) HPJ.out.tB _
           · have hzw:=HSJ.out.1.size
             refine ((HSJ.out.1.trans (yJ0 (DF L) wr) (fun _ _ h=>h)).trans HO9.out (fun x hx hG=>?_)).trans hof2 (fun x hx hG=>?_)
             · rcases HSJ.out.2 2 (by decide) x hG with h | h
               · exact h
               · omega
             · have h1:x=w4.heap.size+1:=hG
               omega
           · intro i hi x hx
             rcases HG9.out i hi x hx with h | h
             · exact HSJ.out.2 i hi x h
             · have h1:wr.heap.size≤x:=h
               have hzw:=HSJ.out.1.size
               exact Or.inr (by omega)
          case measure=>simp [intOf];omega
     · obtain rfl:j=ws.length:=by omega
       go_wp2_with fail
       refine bodyPost_ret (v:= .tuple #[.pointer (some ⟨w4.heap.size+1,0,none⟩), .int .i64 ws.length, .nilIface]) (by simp [results, Tryz.results11,go_sem]) rfl ?_
       refine ⟨w4.heap.size+1,L',D',lb,sb,rv,sp, .slice vo q.files.length vc,by rw [HWS.out],⟨HPJ.out,fun k hk hc=>HRJ.out k hk (fun h=>?_),fun k hk hc=>HLJ.out k hk ?_,HB0J.out⟩,by have:=HW41.out;omega,HSJ.out.1,fun x hx=>?_⟩
       · rw [List.take_length,HWS.out,xR4 hk,yI4 D k hk] at h
         exact h hc
       · rw [List.take_length,HWS.out,xR4 hk,yI4 D k hk]
         exact hc
       · rcases hx with hx | ⟨i,hi,hx⟩
         · exact Or.inr (by have:=HW41.out;omega)
         · exact HSJ.out.2 i hi x hx
end Go.Proofs.YtggpodlecljcbabGreatDoor
