/- The walk of (*Trio).Do at the console's functions. Printed by wip/mk_con.py out of WalkTr9. -/
import Derived.Test.YtggpodlecljcbabGreatDoorKT8
namespace Go.Proofs.YtggpodlecljcbabGreatDoor
set_option linter.unusedSimpArgs false
set_option linter.unusedVariables false
set_option maxRecDepth 100000
set_option maxHeartbeats 64000000
open Lib (hid)
open Go.RowKit Go.Sort
theorem yY5 (fn:Nat)(hfn:fn= 79∨fn= 80∨fn= 82∨fn= 83)(w0 w:World)(b:Nat→Nat)(tb:Nat)(L:Nat→Dk)(D:Nat→DiskS)(lb sb:Nat→Nat)(rv:Nat→Value)(v:Value)(q:Quilt)(S:Nat→StS)(p:Quilt × Nat)(ab:Nat)
 (h:PreT (fun _=>True) w0.heap.size b w tb L D lb sb rv (fun k=>some ⟨sb k,0,none⟩) v q) (hi:∀k,k<3→HasI (D k) (S k) q) (he:∀k,k<3→(S k).h.epoch≤20000) (hg:GlobI w0) (hbw:Below w0.heap.size w0 w) (hgood:zB2 q=0)
 (hcl:∀W qv,Below w.heap.size w W→zT6 w.heap.size W qv q→Calls Tryz.prog fn #[qv, .pointer (some ⟨ab,0,none⟩)] W (yE6 w.heap.size p W))
 (hp:p.2=0→zB2 p.1=0∧(zF7 q p.1).length≤14):
 Calls Tryz.prog 35 #[.pointer (some ⟨tb,0,none⟩), .func (.func fn) #[] #[.pointer (some ⟨ab,0,none⟩)]] w fun e w' =>
  (p.2≠0∧e= .returned (zE6 p.2)∧Below w.heap.size w w')∨(p.2=0∧DoR w0 w b tb L lb D S sb q p.1 e w'):=by
 rcases hfn with rfl | rfl | rfl | rfl
 all_goals
  have hq8:=(yI7 hgood).1
  have CQ:=hid (zQ8 h (by omega))
  have HH:=hid h
  have HI:=hid hi
  have HE:=hid he
  have HG:=hid hg
  have HBW:=hid hbw
  have HGD:=hid hgood
  have HCL:=hid hcl
  have HP:=hid hp
  obtain ⟨L0,hL0⟩:∃L0,L0=L:=⟨_,rfl⟩
  have HL0:=hid hL0
  obtain ⟨lb0,hlb0⟩:∃lb0,lb0=lb:=⟨_,rfl⟩
  have HLB0:=hid hlb0
  clear hL0 hlb0
  obtain ⟨vo,vc,rfl,hvc,hvc'⟩:=h.qv.parts
  clear h hi he hg hbw hgood hcl hp hq8
  go_enter Tryz.func35, Tryz.ntmps35
  go_wp2_with fail
  refine CQ.out.mono ?_
  rintro e w1 ⟨qv,rfl,hq1,hb1⟩
  have CF:=hid (HCL.out w1 qv hb1 hq1)
  have HB1:=hid hb1
  obtain ⟨v1,rfl,hf1,_⟩:=hq1
  obtain ⟨ao1,ac1,rfl,_,_⟩:=hf1.parts
  clear hb1 hf1
  go_wp2_with fail
  refine CF.out.mono ?_
  rintro e w2 ⟨qv2,rfl,⟨v2,rfl,hf2,hfr2⟩,hb2⟩
  obtain ⟨ao2,ac2,rfl,hac2,hac2'⟩:=hf2.parts
  obtain ⟨p1,p2⟩:=p
  dsimp only at hf2 hfr2 hac2 ⊢
  have HF2:=hid (And.intro hf2 hfr2)
  have HB2:=hid (two HB1.out hb2)
  obtain ⟨W3,hW3⟩:∃W3,W3=w2.alloc (.cells #[.slice ao2 p1.files.length ac2, .int .i64 p1.turn] 32):=⟨_,rfl⟩
  have HW3:=hid hW3
  have hb3:Below w2.heap.size w2 W3:=by rw [hW3];exact zA0 _ _
  have HB3:=hid (two HB2.out hb3)
  have HB23:=hid hb3
  have HZ3:Hid (W3.heap.size=w2.heap.size+1):=hid (by rw [hW3];simp)
  have HQX:Hid (W3.heap[w2.heap.size]?=some (.cells #[.slice ao2 p1.files.length ac2, .int .i64 p1.turn] 32 (0,0))):=hid (by rw [hW3];show (w2.heap.push _)[w2.heap.size]?=_;simp)
  clear hf2 hfr2 hb2 hb3 hW3
  by_cases hp2:p2=0
  rotate_left
  · have hpe:zE6 p2= .iface 73 (.int .i64 p2):=zA5 hp2
    rw [hpe]
    have HPE:=hid hpe
    have HP2:=hid hp2
    clear hp2 hpe
    go_wp2_with fail
    go_ret
    rw [←HW3.out]
    exact Or.inl ⟨HP2.out,by show _=Ending.returned (zE6 p2);rw [HPE.out];rfl,HB3.out⟩
  subst hp2
  rw [zD2]
  obtain ⟨hg1,hl1⟩:=HP.out rfl
  dsimp only at hg1 hl1
  have HG1:=hid hg1
  have HL1:=hid hl1
  have hpre:=HH.out.below HB3.out
  have HPRE:=hid hpre
  have HBW3:=hid (two HBW.out HB3.out)
  have HK:Hid (∀W,Below W3.heap.size W3 W→(W.cell? ⟨tb,6,none⟩=some (.slice vo q.files.length vc)∧W.cell? ⟨tb,7,none⟩=some (.int .i64 q.turn))∧W.cell? ⟨w2.heap.size,0,none⟩=some (.slice ao2 p1.files.length ac2)∧W.cell? ⟨w2.heap.size,1,none⟩=some (.int .i64 p1.turn)):=hid (fun W hW=>by
   have hc:=(HPRE.out.below hW).cell
   have hx:W.heap[w2.heap.size]?=some (.cells #[.slice ao2 p1.files.length ac2, .int .i64 p1.turn] 32 (0,0)):=by rw [hW.block _ (by rw [HZ3.out];omega)];exact HQX.out
   exact ⟨⟨hc.2.2.2.2.2.2.1,hc.2.2.2.2.2.2.2.1⟩,by simp [World.cell?,hx],by simp [World.cell?,hx]⟩)
  have CRA:Hid (∀W,Below W3.heap.size W3 W→Calls Tryz.prog 56 #[.agg #[.slice vo q.files.length vc, .int .i64 q.turn]] W fun e w' =>∃v,e= .returned v∧w'.ownsRow W.heap.size 109 3 v (zE7 q).length ((zE7 q).flatMap Change.cells)∧Below W.heap.size W w'):=hid (fun W hW=>yM4 _ q W ⟨_,rfl,(HPRE.out.below hW).qv⟩ (HG.out.below (two HBW3.out hW)) HGD.out)
  have CRB:Hid (∀W,Below W3.heap.size W3 W→Calls Tryz.prog 56 #[.agg #[.slice ao2 p1.files.length ac2, .int .i64 p1.turn]] W fun e w' =>∃v,e= .returned v∧w'.ownsRow W.heap.size 109 3 v (zE7 p1).length ((zE7 p1).flatMap Change.cells)∧Below W.heap.size W w'):=hid (fun W hW=>yM4 _ p1 W ⟨_,rfl,(HF2.out.1.below HB23.out).below hW⟩ (HG.out.below (two HBW3.out hW)) HG1.out)
  have CCH:Hid (∀W va vb,Changes W va (zE7 q)→Changes W vb (zE7 p1)→Calls Tryz.prog 65 #[va,vb] W fun e w' =>∃v,e= .returned v∧w'.ownsRow W.heap.size 109 3 v (zF7 q p1).length ((zF7 q p1).flatMap Change.cells)∧Below W.heap.size W w'):=hid (fun W va vb ha hb=>by
   obtain ⟨r1,_,l1⟩:=zG5 HGD.out
   obtain ⟨r2,_,l2⟩:=zG5 HG1.out
   exact xP4 va vb _ _ W ha hb (by omega) (by omega) r1 r2)
  obtain ⟨⟨k0,k1⟩,k2,k3⟩:=HK.out W3 (Below.refl _ _)
  clear hpre hg1 hl1
  go_wp2_with fail
  rw [←HW3.out]
  go_cut [7] from 20 to 27 (fun s7 wx=>wx.ownsRow W3.heap.size 109 3 s7 (zF7 q p1).length ((zF7 q p1).flatMap Change.cells)∧Below W3.heap.size W3 wx)
  case first=>
   go_region_held3 (fun W=>(W.cell? ⟨tb,6,none⟩=some (.slice vo q.files.length vc)∧W.cell? ⟨tb,7,none⟩=some (.int .i64 q.turn))∧W.cell? ⟨w2.heap.size,0,none⟩=some (.slice ao2 p1.files.length ac2)∧W.cell? ⟨w2.heap.size,1,none⟩=some (.int .i64 p1.turn))
    (first
     | exact HK.out _ (Below.refl _ _).drew
     | exact HK.out _ (HBC:Hid _).out
     | exact HK.out _ (HBA2:Hid _).out
     | exact HK.out _ (HBB2:Hid _).out
     | exact HK.out _ (HBA:Hid _).out
     | exact HK.out _ (HBB:Hid _).out)
    (first
     | (go_at_call 56;with_reducible refine (CRA.out _ (Below.refl _ _).drew).mono ?_;rintro e wA ⟨va,rfl,hoa,hba⟩;obtain ⟨aoa,aca,rfl,_,_⟩:=zD4 hoa;have HBA:Hid (Below W3.heap.size W3 wA):=hid (two (Below.refl _ _).drew hba);have HOA:=hid hoa;clear hoa hba)
     | (go_at_call 56;with_reducible refine (CRB.out _ (HBA:Hid _).out).mono ?_;rintro e wC ⟨vb,rfl,hob,hbb⟩;obtain ⟨aob,acb,rfl,_,_⟩:=zD4 hob;have HBB2:Hid (Below W3.heap.size W3 wC):=hid (two (HBA:Hid _).out hbb);have HOA2:=hid (zE2 (HOA:Hid _).out hbb);have HOB2:=hid hob;clear hob hbb)
     | (go_at_call 56;with_reducible refine (CRB.out _ (Below.refl _ _).drew).mono ?_;rintro e wB ⟨vb,rfl,hob,hbb⟩;obtain ⟨aob,acb,rfl,_,_⟩:=zD4 hob;have HBB:Hid (Below W3.heap.size W3 wB):=hid (two (Below.refl _ _).drew hbb);have HOB:=hid hob;clear hob hbb)
     | (go_at_call 56;with_reducible refine (CRA.out _ (HBB:Hid _).out).mono ?_;rintro e wC ⟨va,rfl,hoa,hba⟩;obtain ⟨aoa,aca,rfl,_,_⟩:=zD4 hoa;have HBB2:Hid (Below W3.heap.size W3 wC):=hid (two (HBB:Hid _).out hba);have HOB2:=hid (zE2 (HOB:Hid _).out hba);have HOA2:=hid hoa;clear hoa hba)
     | (go_at_call 65;refine (CCH.out _ _ _ (SL.of_own (HOA2:Hid _).out) (SL.of_own (HOB2:Hid _).out)).mono ?_;rintro e wD ⟨vd,rfl,hod,hbd⟩;obtain ⟨aod,acd,rfl,_,_⟩:=zD4 hod;have HBC:Hid (Below W3.heap.size W3 wD):=hid (two (HBB2:Hid _).out hbd);have HOD:=hid (xD1 hod (HBB2:Hid _).out.size);clear hod hbd))
   all_goals
    go_wp2_with fail
    go_meet
    exact ⟨(HOD:Hid _).out,(HBC:Hid _).out⟩
  case rest=>
  obtain ⟨hod,hbx⟩:=hcut
  obtain ⟨aod,acd,rfl,had,had'⟩:=zD4 hod
  have HBC:=hid hbx
  have hprc:=HPRE.out.below hbx
  have HPC:=hid hprc
  obtain ⟨c0,c1,c2,c3,c4,c5,c6,c7,cf⟩:=hprc.cell
  have HQC:Hid (wc.heap[w2.heap.size]?=some (.cells #[.slice ao2 p1.files.length ac2, .int .i64 p1.turn] 32 (0,0))):=hid (by rw [hbx.block _ (by rw [HZ3.out];omega)];exact HQX.out)
  have HLC:Hid (∀i,i<3→∀x,stF (L i) (lb i) (sb i) x→x<w.heap.size):=hid (fun i hi x hx=>(HH.out.lt i hi x hx).1)
  have HSZ:Hid (w.heap.size≤w2.heap.size∧W3.heap.size≤wc.heap.size):=hid ⟨HB2.out.size,hbx.size⟩
  have HCHF:Hid (∀i,i<3→ChangesF (stF (L i) (lb i) (sb i)) wc (.slice aod (zF7 q p1).length acd) (zF7 q p1)):=hid (fun i hi=>⟨SL.of_own hod,fun a n c e hn hx=>by
   have h1:=HLC.out i hi _ hx
   have h2:¬a.block<W3.heap.size:=yM8 hod a n c e hn
   have h3:=HZ3.out
   have h4:=HSZ.out.1
   omega⟩)
  have HFLF:Hid (∀i,i<3→FilesF (stF (L i) (lb i) (sb i)) wc (.slice ao2 p1.files.length ac2) p1.files):=hid (fun i hi=>⟨(HF2.out.1.below HB23.out).below hbx,yH6 HF2.out.2 (HLC.out i hi)⟩)
  have HFT:Hid (far (fun x=>x=tb) (.slice ao2 p1.files.length ac2)):=hid (yH6 HF2.out.2 (fun x hx=>by have h1:x=tb:=hx;have:=HH.out.tlt;omega))
  have HFB:Hid (far (fun x=>x<w0.heap.size) (.slice ao2 p1.files.length ac2)):=hid (yH6 HF2.out.2 (fun x hx=>by have h1:x<w0.heap.size:=hx;have:=HBW.out.size;omega))
  have HCLR:Hid (Clear L lb sb w2.heap.size):=hid (fun i hi hx=>by have h1:=HLC.out i hi _ hx;have:=HSZ.out.1;omega)
  have HB0C:Hid (Below w0.heap.size w0 wc):=hid (two HBW3.out hbx)
  have HDK:=hid (deed_ok HGD.out HG1.out)
  clear hod hbx hprc k0 k1 k2 k3
  go_wp2_with fail
  go_loopw [32] (fun iv wr=>∃(k:Nat) (L:Nat→Dk) (lb:Nat→Nat) (rv:Nat→Value),k≤3∧iv= .int .i64 k∧PreT (fun _=>True) w0.heap.size b wr tb L (fun i=>if i<k then (zL1 S (zF7 q p1) D i).1 else D i) lb sb rv (fun k=>some ⟨sb k,0,none⟩) (.slice vo q.files.length vc) q∧(∀i,i<k→(zL1 S (zF7 q p1) D i).2.2=0)∧(∀i,i<3→ChangesF (stF (L i) (lb i) (sb i)) wr (.slice aod (zF7 q p1).length acd) (zF7 q p1))∧(∀i,i<3→FilesF (stF (L i) (lb i) (sb i)) wr (.slice ao2 p1.files.length ac2) p1.files)∧(wr.heap[w2.heap.size]?=some (.cells #[.slice ao2 p1.files.length ac2, .int .i64 p1.turn] 32 (0,0))∧Clear L lb sb w2.heap.size)∧Below w0.heap.size w0 wr∧Steps (TF tb L0 lb0 sb) w wr (TF tb L lb sb)) (fun iv _=>3 - (intOf iv).toNat)
  case atStart=>exact ⟨0,L,lb,rv,by omega,rfl,HPC.out.asD (fun k _=>by rw [if_neg (by omega)]),fun i hi=>by omega,HCHF.out,HFLF.out,⟨HQC.out,HCLR.out⟩,HB0C.out,by rw [HL0.out,HLB0.out];exact ⟨zB7 (two HB3.out HBC.out) _,fun _ h=>Or.inl h⟩⟩
  case round=>
   obtain ⟨k,L,lb,rv,hk,rfl,hpre,hdn,hch,hfl,hqc,hb0,hst0⟩:=hrel
   have HST:=hid hst0
   have HPK:=hid hpre
   have HDN:=hid hdn
   have HCH:=hid hch
   have HFL:=hid hfl
   have HQK:=hid hqc
   have HB0:=hid hb0
   clear hpre hdn hch hfl hqc hb0 hst0
   obtain rfl | rfl | rfl | rfl:k=0∨k=1∨k=2∨k=3:=by omega
   · have hst:=(HPK.out.st 0 (by decide) trivial (S 0) q (by rw [if_neg (by omega)];exact (HI.out 0 (by decide)).copy)).2
     have hdk:=HPK.out.ds.d 0 (by decide)
     rw [if_neg (by omega)] at hdk
     have CC:=zX7 (sb 0) (lb 0) (L 0) (D 0) (S 0) 34 (rv 0) (.slice aod (zF7 q p1).length acd) (zF7 q p1) wr hst hdk (HI.out 0 (by decide)).ok (HI.out 0 (by decide)).inv (HE.out 0 (by decide)) (HCH.out 0 (by decide)) HDK.out (by have:=HL1.out;omega)
     have hci:=xQ5 (HI.out 0 (by decide)) HG1.out HL1.out (by have:=HE.out 0 (by decide);omega)
     have HCI:=hid hci
     obtain ⟨n,hn⟩:∃n,n=(zL1 S (zF7 q p1) D 0).2.2:=⟨_,rfl⟩
     have HN:=hid hn
     change Calls Tryz.prog 55 _ _ (fun e w' =>e= .returned (zE6 (zL1 S (zF7 q p1) D 0).2.2)∧StoreTo wr (L 0) (lb 0) (sb 0) (rv 0) 34 (zL1 S (zF7 q p1) D 0).1 (zL1 S (zF7 q p1) D 0).2.1 w') at CC
     rw [←hn] at CC
     have HCC:=hid CC
     rw [show ((0:Nat):Int)=0 from rfl]
     clear hst hdk CC hci hn
     go_wp2_with fail
     refine HCC.out.mono ?_
     rintro e w9 ⟨rfl,L9,lb9,rv9,e9,d9,s9,o9,g9,f9⟩
     have HO9:=hid (And.intro o9 g9)
     have hput:=HPK.out.put (k:=0) (by decide) HB0.out.size e9 d9 o9 g9 (s9.flt d9) f9 s9.rl
     have eu1:upd sb 0 (sb 0)=sb:=zF9 sb 0
     have eu2:upd (fun i=>if i<0 then (zL1 S (zF7 q p1) D i).1 else D i) 0 (zL1 S (zF7 q p1) D 0).1=fun i=>if i<1 then (zL1 S (zF7 q p1) D i).1 else D i:=xN6 (fun i=>(zL1 S (zF7 q p1) D i).1) D 0
     rw [eu1,eu2] at hput
     have HPUT:=hid hput
     have HS9:=hid s9
     have HB9:Hid (Below w0.heap.size w0 w9):=hid (HB0.out.trans (o9.below _ HB0.out.size (fun x hx=>(HPK.out.lt 0 (by decide) x hx).2)))
     clear e9 d9 s9 o9 g9 f9 hput eu1 eu2
     by_cases hn0:n=0
     · subst hn0
       rw [zD2]
       go_wp2_with fail
       go_roundw
       case rel=>
        refine ⟨1,_,_,_,by omega,rfl,(HPUT.out.has (fun S1 q1 hc=>?_)).mono (fun i _ _=>by by_cases e:i=0;exact Or.inr e;exact Or.inl trivial),fun i hi=>?_,?_,?_,⟨?_,?_⟩,HB9.out,?_⟩
        · rw [if_pos (by omega)] at hc
          refine ⟨rfl,?_⟩
          rw [zA9,zA9,zA9]
          rcases HCI.out with ⟨E,S',h1,h2,_⟩ | ⟨E,S',h1,_⟩
          · have e1:zL1 S (zF7 q p1) D 0=(E,S',0):=h1
            rw [e1] at hc
            have h3:=HS9.out
            rw [e1] at h3
            dsimp only at hc h3
            rw [h2.copy] at hc
            simp only [Option.some.injEq,Prod.mk.injEq] at hc
            rw [←hc.1]
            exact h3
          · have e1:zL1 S (zF7 q p1) D 0=(E,S',8):=h1
            have h3:=HN.out
            rw [e1] at h3
            cases h3
        · by_cases e:i=0
          · rw [e];exact HN.out.symm
          · exact HDN.out i (by omega)
        · have h1:=yK0 (by decide) HCH.out (k:=0) (by decide) HO9.out.1 HO9.out.2
          rw [show upd sb 0 (sb 0)=sb from zF9 sb 0] at h1
          exact h1
        · have h1:=yK0 (by decide) HFL.out (k:=0) (by decide) HO9.out.1 HO9.out.2
          rw [show upd sb 0 (sb 0)=sb from zF9 sb 0] at h1
          exact h1
        · rw [HO9.out.1.block _ (Array.getElem?_eq_some_iff.1 HQK.out.1).1 (HQK.out.2 0 (by decide))]
          exact HQK.out.1
        · intro i hi hx
          by_cases e:i=0
          · subst e
            rw [zA9,zA9] at hx
            rcases HO9.out.2 _ hx with h1 | h1
            · exact HQK.out.2 0 (by decide) h1
            · have:=(Array.getElem?_eq_some_iff.1 HQK.out.1).1;omega
          · rw [zD0 _ _ e,zD0 _ _ e] at hx
            exact HQK.out.2 i hi hx
        · have h1:=zM5 (tb:=tb) (k:=0) (by decide) HO9.out.1 HO9.out.2
          rw [show upd sb 0 (sb 0)=sb from zF9 sb 0] at h1
          exact HST.out.trans h1
       case measure=>simp [intOf]
     · have HN0:=hid hn0
       rw [zA5 hn0]
       clear hn0
       go_wp2_with fail
       refine bodyPost_ret (v:= .iface 73 (.int .i64 n)) (by simp [results, Tryz.results35,go_sem]) rfl ?_
       refine DoR.mk (fun h=>absurd (HN.out.trans (h 0 (by decide))) HN0.out) (fun m hm h1 h2=>?_) HB9.out
       obtain rfl:m=0:=by
        rcases Nat.lt_trichotomy m 0 with h | h | h
        · exact absurd (HDN.out m h) h2
        · exact h
        · exact absurd (HN.out.trans (h1 0 h)) HN0.out
       refine ⟨by rw [←HN.out,zA5 HN0.out],_,HPUT.out.ds,?_⟩
       have h1:=zM5 (tb:=tb) (k:=0) (by decide) HO9.out.1 HO9.out.2
       have h3:=(HST.out.trans h1).mono (F' :=TF tb L0 lb0 sb) (fun _ h=>h) (fun x hx=>uH2 hx)
       rw [HL0.out,HLB0.out] at h3
       exact h3
   · have hst:=(HPK.out.st 1 (by decide) trivial (S 1) q (by rw [if_neg (by omega)];exact (HI.out 1 (by decide)).copy)).2
     have hdk:=HPK.out.ds.d 1 (by decide)
     rw [if_neg (by omega)] at hdk
     have CC:=zX7 (sb 1) (lb 1) (L 1) (D 1) (S 1) 34 (rv 1) (.slice aod (zF7 q p1).length acd) (zF7 q p1) wr hst hdk (HI.out 1 (by decide)).ok (HI.out 1 (by decide)).inv (HE.out 1 (by decide)) (HCH.out 1 (by decide)) HDK.out (by have:=HL1.out;omega)
     have hci:=xQ5 (HI.out 1 (by decide)) HG1.out HL1.out (by have:=HE.out 1 (by decide);omega)
     have HCI:=hid hci
     obtain ⟨n,hn⟩:∃n,n=(zL1 S (zF7 q p1) D 1).2.2:=⟨_,rfl⟩
     have HN:=hid hn
     change Calls Tryz.prog 55 _ _ (fun e w' =>e= .returned (zE6 (zL1 S (zF7 q p1) D 1).2.2)∧StoreTo wr (L 1) (lb 1) (sb 1) (rv 1) 34 (zL1 S (zF7 q p1) D 1).1 (zL1 S (zF7 q p1) D 1).2.1 w') at CC
     rw [←hn] at CC
     have HCC:=hid CC
     rw [show ((1:Nat):Int)=1 from rfl]
     clear hst hdk CC hci hn
     go_wp2_with fail
     refine HCC.out.mono ?_
     rintro e w9 ⟨rfl,L9,lb9,rv9,e9,d9,s9,o9,g9,f9⟩
     have HO9:=hid (And.intro o9 g9)
     have hput:=HPK.out.put (k:=1) (by decide) HB0.out.size e9 d9 o9 g9 (s9.flt d9) f9 s9.rl
     have eu1:upd sb 1 (sb 1)=sb:=zF9 sb 1
     have eu2:upd (fun i=>if i<1 then (zL1 S (zF7 q p1) D i).1 else D i) 1 (zL1 S (zF7 q p1) D 1).1=fun i=>if i<2 then (zL1 S (zF7 q p1) D i).1 else D i:=xN6 (fun i=>(zL1 S (zF7 q p1) D i).1) D 1
     rw [eu1,eu2] at hput
     have HPUT:=hid hput
     have HS9:=hid s9
     have HB9:Hid (Below w0.heap.size w0 w9):=hid (HB0.out.trans (o9.below _ HB0.out.size (fun x hx=>(HPK.out.lt 1 (by decide) x hx).2)))
     clear e9 d9 s9 o9 g9 f9 hput eu1 eu2
     by_cases hn0:n=0
     · subst hn0
       rw [zD2]
       go_wp2_with fail
       go_roundw
       case rel=>
        refine ⟨2,_,_,_,by omega,rfl,(HPUT.out.has (fun S1 q1 hc=>?_)).mono (fun i _ _=>by by_cases e:i=1;exact Or.inr e;exact Or.inl trivial),fun i hi=>?_,?_,?_,⟨?_,?_⟩,HB9.out,?_⟩
        · rw [if_pos (by omega)] at hc
          refine ⟨rfl,?_⟩
          rw [zA9,zA9,zA9]
          rcases HCI.out with ⟨E,S',h1,h2,_⟩ | ⟨E,S',h1,_⟩
          · have e1:zL1 S (zF7 q p1) D 1=(E,S',0):=h1
            rw [e1] at hc
            have h3:=HS9.out
            rw [e1] at h3
            dsimp only at hc h3
            rw [h2.copy] at hc
            simp only [Option.some.injEq,Prod.mk.injEq] at hc
            rw [←hc.1]
            exact h3
          · have e1:zL1 S (zF7 q p1) D 1=(E,S',8):=h1
            have h3:=HN.out
            rw [e1] at h3
            cases h3
        · by_cases e:i=1
          · rw [e];exact HN.out.symm
          · exact HDN.out i (by omega)
        · have h1:=yK0 (by decide) HCH.out (k:=1) (by decide) HO9.out.1 HO9.out.2
          rw [show upd sb 1 (sb 1)=sb from zF9 sb 1] at h1
          exact h1
        · have h1:=yK0 (by decide) HFL.out (k:=1) (by decide) HO9.out.1 HO9.out.2
          rw [show upd sb 1 (sb 1)=sb from zF9 sb 1] at h1
          exact h1
        · rw [HO9.out.1.block _ (Array.getElem?_eq_some_iff.1 HQK.out.1).1 (HQK.out.2 1 (by decide))]
          exact HQK.out.1
        · intro i hi hx
          by_cases e:i=1
          · subst e
            rw [zA9,zA9] at hx
            rcases HO9.out.2 _ hx with h1 | h1
            · exact HQK.out.2 1 (by decide) h1
            · have:=(Array.getElem?_eq_some_iff.1 HQK.out.1).1;omega
          · rw [zD0 _ _ e,zD0 _ _ e] at hx
            exact HQK.out.2 i hi hx
        · have h1:=zM5 (tb:=tb) (k:=1) (by decide) HO9.out.1 HO9.out.2
          rw [show upd sb 1 (sb 1)=sb from zF9 sb 1] at h1
          exact HST.out.trans h1
       case measure=>simp [intOf]
     · have HN0:=hid hn0
       rw [zA5 hn0]
       clear hn0
       go_wp2_with fail
       refine bodyPost_ret (v:= .iface 73 (.int .i64 n)) (by simp [results, Tryz.results35,go_sem]) rfl ?_
       refine DoR.mk (fun h=>absurd (HN.out.trans (h 1 (by decide))) HN0.out) (fun m hm h1 h2=>?_) HB9.out
       obtain rfl:m=1:=by
        rcases Nat.lt_trichotomy m 1 with h | h | h
        · exact absurd (HDN.out m h) h2
        · exact h
        · exact absurd (HN.out.trans (h1 1 h)) HN0.out
       refine ⟨by rw [←HN.out,zA5 HN0.out],_,HPUT.out.ds,?_⟩
       have h1:=zM5 (tb:=tb) (k:=1) (by decide) HO9.out.1 HO9.out.2
       have h3:=(HST.out.trans h1).mono (F' :=TF tb L0 lb0 sb) (fun _ h=>h) (fun x hx=>uH2 hx)
       rw [HL0.out,HLB0.out] at h3
       exact h3
   · have hst:=(HPK.out.st 2 (by decide) trivial (S 2) q (by rw [if_neg (by omega)];exact (HI.out 2 (by decide)).copy)).2
     have hdk:=HPK.out.ds.d 2 (by decide)
     rw [if_neg (by omega)] at hdk
     have CC:=zX7 (sb 2) (lb 2) (L 2) (D 2) (S 2) 34 (rv 2) (.slice aod (zF7 q p1).length acd) (zF7 q p1) wr hst hdk (HI.out 2 (by decide)).ok (HI.out 2 (by decide)).inv (HE.out 2 (by decide)) (HCH.out 2 (by decide)) HDK.out (by have:=HL1.out;omega)
     have hci:=xQ5 (HI.out 2 (by decide)) HG1.out HL1.out (by have:=HE.out 2 (by decide);omega)
     have HCI:=hid hci
     obtain ⟨n,hn⟩:∃n,n=(zL1 S (zF7 q p1) D 2).2.2:=⟨_,rfl⟩
     have HN:=hid hn
     change Calls Tryz.prog 55 _ _ (fun e w' =>e= .returned (zE6 (zL1 S (zF7 q p1) D 2).2.2)∧StoreTo wr (L 2) (lb 2) (sb 2) (rv 2) 34 (zL1 S (zF7 q p1) D 2).1 (zL1 S (zF7 q p1) D 2).2.1 w') at CC
     rw [←hn] at CC
     have HCC:=hid CC
     rw [show ((2:Nat):Int)=2 from rfl]
     clear hst hdk CC hci hn
     go_wp2_with fail
     refine HCC.out.mono ?_
     rintro e w9 ⟨rfl,L9,lb9,rv9,e9,d9,s9,o9,g9,f9⟩
     have HO9:=hid (And.intro o9 g9)
     have hput:=HPK.out.put (k:=2) (by decide) HB0.out.size e9 d9 o9 g9 (s9.flt d9) f9 s9.rl
     have eu1:upd sb 2 (sb 2)=sb:=zF9 sb 2
     have eu2:upd (fun i=>if i<2 then (zL1 S (zF7 q p1) D i).1 else D i) 2 (zL1 S (zF7 q p1) D 2).1=fun i=>if i<3 then (zL1 S (zF7 q p1) D i).1 else D i:=xN6 (fun i=>(zL1 S (zF7 q p1) D i).1) D 2
     rw [eu1,eu2] at hput
     have HPUT:=hid hput
     have HS9:=hid s9
     have HB9:Hid (Below w0.heap.size w0 w9):=hid (HB0.out.trans (o9.below _ HB0.out.size (fun x hx=>(HPK.out.lt 2 (by decide) x hx).2)))
     clear e9 d9 s9 o9 g9 f9 hput eu1 eu2
     by_cases hn0:n=0
     · subst hn0
       rw [zD2]
       go_wp2_with fail
       go_roundw
       case rel=>
        refine ⟨3,_,_,_,by omega,rfl,(HPUT.out.has (fun S1 q1 hc=>?_)).mono (fun i _ _=>by by_cases e:i=2;exact Or.inr e;exact Or.inl trivial),fun i hi=>?_,?_,?_,⟨?_,?_⟩,HB9.out,?_⟩
        · rw [if_pos (by omega)] at hc
          refine ⟨rfl,?_⟩
          rw [zA9,zA9,zA9]
          rcases HCI.out with ⟨E,S',h1,h2,_⟩ | ⟨E,S',h1,_⟩
          · have e1:zL1 S (zF7 q p1) D 2=(E,S',0):=h1
            rw [e1] at hc
            have h3:=HS9.out
            rw [e1] at h3
            dsimp only at hc h3
            rw [h2.copy] at hc
            simp only [Option.some.injEq,Prod.mk.injEq] at hc
            rw [←hc.1]
            exact h3
          · have e1:zL1 S (zF7 q p1) D 2=(E,S',8):=h1
            have h3:=HN.out
            rw [e1] at h3
            cases h3
        · by_cases e:i=2
          · rw [e];exact HN.out.symm
          · exact HDN.out i (by omega)
        · have h1:=yK0 (by decide) HCH.out (k:=2) (by decide) HO9.out.1 HO9.out.2
          rw [show upd sb 2 (sb 2)=sb from zF9 sb 2] at h1
          exact h1
        · have h1:=yK0 (by decide) HFL.out (k:=2) (by decide) HO9.out.1 HO9.out.2
          rw [show upd sb 2 (sb 2)=sb from zF9 sb 2] at h1
          exact h1
        · rw [HO9.out.1.block _ (Array.getElem?_eq_some_iff.1 HQK.out.1).1 (HQK.out.2 2 (by decide))]
          exact HQK.out.1
        · intro i hi hx
          by_cases e:i=2
          · subst e
            rw [zA9,zA9] at hx
            rcases HO9.out.2 _ hx with h1 | h1
            · exact HQK.out.2 2 (by decide) h1
            · have:=(Array.getElem?_eq_some_iff.1 HQK.out.1).1;omega
          · rw [zD0 _ _ e,zD0 _ _ e] at hx
            exact HQK.out.2 i hi hx
        · have h1:=zM5 (tb:=tb) (k:=2) (by decide) HO9.out.1 HO9.out.2
          rw [show upd sb 2 (sb 2)=sb from zF9 sb 2] at h1
          exact HST.out.trans h1
       case measure=>simp [intOf]
     · have HN0:=hid hn0
       rw [zA5 hn0]
       clear hn0
       go_wp2_with fail
       refine bodyPost_ret (v:= .iface 73 (.int .i64 n)) (by simp [results, Tryz.results35,go_sem]) rfl ?_
       refine DoR.mk (fun h=>absurd (HN.out.trans (h 2 (by decide))) HN0.out) (fun m hm h1 h2=>?_) HB9.out
       obtain rfl:m=2:=by
        rcases Nat.lt_trichotomy m 2 with h | h | h
        · exact absurd (HDN.out m h) h2
        · exact h
        · exact absurd (HN.out.trans (h1 2 h)) HN0.out
       refine ⟨by rw [←HN.out,zA5 HN0.out],_,HPUT.out.ds,?_⟩
       have h1:=zM5 (tb:=tb) (k:=2) (by decide) HO9.out.1 HO9.out.2
       have h3:=(HST.out.trans h1).mono (F' :=TF tb L0 lb0 sb) (fun _ h=>h) (fun x hx=>uH2 hx)
       rw [HL0.out,HLB0.out] at h3
       exact h3
   · rw [show ((3:Nat):Int)=3 from rfl]
     obtain ⟨c0,c1,c2,c3,c4,c5,c6,c7,cf⟩:=HPK.out.cell
     have s0:wr.cell? ⟨w2.heap.size,0,none⟩=some (.slice ao2 p1.files.length ac2):=by simp [World.cell?,HQK.out.1]
     have s1:wr.cell? ⟨w2.heap.size,1,none⟩=some (.int .i64 p1.turn):=by simp [World.cell?,HQK.out.1]
     go_wp2_with fail
     refine bodyPost_ret (v:= .nilIface) (by simp [results, Tryz.results35,go_sem]) rfl ?_
     have hO:Off (fun x=>x=tb) wr ((wr.setCell ⟨tb,6,none⟩ (.slice ao2 p1.files.length ac2)).setCell ⟨tb,7,none⟩ (.int .i64 p1.turn)):=(zA7 (F:=fun x=>x=tb) wr ⟨tb,6,none⟩ rfl _).trans (zA7 (F:=fun x=>x=tb) _ ⟨tb,7,none⟩ rfl _) (fun _ _ h=>h)
     have hfin:=HPK.out.cells hO (sp' :=fun k=>some ⟨sb k,0,none⟩) (v' := .slice ao2 p1.files.length ac2) (q' :=p1) (zA3 _ _ _ _ (zA3 _ _ _ _ HPK.out.box)) (fun _ _ _=>rfl) (HFL.out 0 (by decide)).rd (fun k hk=>(HFL.out k hk).far) HFT.out HFB.out
     refine DoR.mk (fun _=>⟨rfl,L,lb,rv, .slice ao2 p1.files.length ac2,hfin.asD (fun k hk=>by rw [if_pos hk]),by
      rw [←HL0.out,←HLB0.out]
      exact HST.out.trans ⟨hO.mono (fun x hx=>Or.inl hx),fun x hx=>Or.inl hx⟩⟩) (fun m hm _ h2=>absurd (HDN.out m hm) h2) ((HB0.out.setCell (p:=⟨tb,6,none⟩) HPK.out.tB _).setCell (p:=⟨tb,7,none⟩) HPK.out.tB _)
end Go.Proofs.YtggpodlecljcbabGreatDoor
