/- The walk of (*Trio).Scrub: nothing is wrong, or the second disk. Printed by wip/mk_con.py. -/
import Derived.Test.YtggpodlecljcbabGreatDoorKC6
import Derived.Test.YtggpodlecljcbabGreatDoorKDf
namespace Go.Proofs.YtggpodlecljcbabGreatDoor
set_option linter.unusedSimpArgs false
set_option linter.unusedVariables false
set_option maxRecDepth 100000
set_option maxHeartbeats 64000000
open Lib (hid)
open Go.RowKit Go.Sort
theorem vB4 (B:Nat)(b:Nat→Nat)(w:World)(tb:Nat)(q:Quilt)(L:Nat→Dk)(D:Nat→DiskS)(lb sb:Nat→Nat)(rv:Nat→Value)(sp:Nat→Option Addr)(v:Value)(P:Nat→Prop)(h:PreT P B b w tb L D lb sb rv sp v q)(hs:∀i,i<3→Sound (D i))(hg:GlobI w)(hwr:zS5 (zQ4 D) q= []):
 Calls Tryz.prog 10 #[.pointer (some ⟨tb,0,none⟩)] w fun e w' =>e= .returned (.tuple #[.int .i64 0, .nilIface])∧Below w.heap.size w w' :=by
 have CC:Hid (∀W,Below w.heap.size w W→Calls Tryz.prog 17 #[.agg #[.pointer (some ⟨b 0,0,none⟩), .pointer (some ⟨b 1,0,none⟩), .pointer (some ⟨b 2,0,none⟩)]] W fun e w' =>∃tv,e= .returned tv.val∧IsTrio w' tv (zQ4 D)∧Below W.heap.size W w'):=hid (fun W hb=>(zO0 b L D W (zY2 (h.below hb).ds hs (hg.below hb))).mono (by rintro e w' ⟨tv,rfl,h1,_,h3⟩;exact ⟨tv,rfl,h1,h3⟩))
 have HK:Hid (∀W,Below w.heap.size w W→(W.cell? ⟨tb,0,none⟩=some (.pointer (some ⟨b 0,0,none⟩))∧W.cell? ⟨tb,1,none⟩=some (.pointer (some ⟨b 1,0,none⟩))∧W.cell? ⟨tb,2,none⟩=some (.pointer (some ⟨b 2,0,none⟩)))∧W.cell? ⟨tb,6,none⟩=some v∧W.cell? ⟨tb,7,none⟩=some (.int .i64 q.turn)):=hid (fun W hb=>by
  have hc:=(h.below hb).cell
  exact ⟨⟨hc.1,hc.2.1,hc.2.2.1⟩,hc.2.2.2.2.2.2.1,hc.2.2.2.2.2.2.2.1⟩)
 obtain ⟨vo,vc,rfl,hvc,hvc'⟩:=h.qv.parts
 have CW:Hid (∀W tv,Below w.heap.size w W→IsTrio W tv (zQ4 D)→Calls Tryz.prog 27 #[tv.val, .agg #[.slice vo q.files.length vc, .int .i64 q.turn]] W (xR0 (zS5 (zQ4 D) q) W)):=hid (fun W tv hb ht=>yF7 tv (zQ4 D) _ q W ht ⟨_,rfl,(h.below hb).qv⟩)
 rw [hwr] at CW
 clear h hs hg hwr
 obtain ⟨⟨k0,k1,k2⟩,k6,k7⟩:=HK.out w (Below.refl _ _)
 go_enter Tryz.func10, Tryz.ntmps10
 go_wp2_with fail
 go_region_held3 (fun W=>(W.cell? ⟨tb,0,none⟩=some (.pointer (some ⟨b 0,0,none⟩))∧W.cell? ⟨tb,1,none⟩=some (.pointer (some ⟨b 1,0,none⟩))∧W.cell? ⟨tb,2,none⟩=some (.pointer (some ⟨b 2,0,none⟩)))∧W.cell? ⟨tb,6,none⟩=some (.slice vo q.files.length vc)∧W.cell? ⟨tb,7,none⟩=some (.int .i64 q.turn))
  (first
   | exact HK.out _ (Below.refl _ _).drew
   | exact HK.out _ (HBY2:Hid _).out
   | exact HK.out _ (HBY1:Hid _).out)
  (first
   | (go_at_call 17;refine (CC.out _ (Below.refl _ _).drew).mono ?_;rintro e y1 ⟨tv,rfl,ht1,hb1⟩;have HBY1:Hid (Below w.heap.size w y1):=hid (two (Below.refl _ _).drew hb1);have HT1:=hid ht1;clear ht1 hb1)
   | (go_at_call 27;refine (CW.out _ _ (HBY1:Hid _).out (HT1:Hid _).out).mono ?_;rintro e y2 ⟨nv,rfl,hn2,hb2,hf2⟩;have HBY2:Hid (Below w.heap.size w y2):=hid (two (HBY1:Hid _).out hb2);obtain ⟨no,nc,rfl,hnc,hnc'⟩:=hn2.parts;have HN2:=hid hn2;have HNF2:=hid hf2;clear hn2 hb2 hf2))
 all_goals
  simp only [List.length_nil] at *
  go_wp2_with fail
  go_loopw [21] (fun iv wr=>iv= .int .i64 0∧wr=y2) (fun iv _=>1)
  case atStart=>exact ⟨rfl,rfl⟩
  case round=>
   obtain ⟨rfl,rfl⟩:=hrel
   go_wp2_with fail
   refine bodyPost_ret (v:= .tuple #[.int .i64 0, .nilIface]) (by simp [results, Tryz.results10,go_sem]) rfl ?_
   exact ⟨rfl,(HBY2:Hid _).out⟩
theorem vB3 (X:World)(b:Nat→Nat)(w:World)(tb:Nat)(q:Quilt)(L:Nat→Dk)(D:Nat→DiskS)(lb sb:Nat→Nat)(rv:Nat→Value)(sp:Nat→Option Addr)(v:Value)(h:PreT (fun i=>i≠1) X.heap.size b w tb L D lb sb rv sp v q)(hs:∀i,i<3→Sound (D i))(hgX:GlobI X)(hX:Below X.heap.size X w)(hgood:zB2 q=0)(hwr:zS5 (zQ4 D) q= [(1:Int)]):
 Calls Tryz.prog 10 #[.pointer (some ⟨tb,0,none⟩)] w fun e w' =>e= .returned (.tuple #[.int .i64 1, .nilIface])∧∃L' D1 lb' sb' rv' sp',PreT (fun _=>True) X.heap.size b w' tb L' (upd D 1 D1) lb' sb' rv' sp' v q∧(∃S1,HasQ D1 S1 q∧S1.h.epoch≤2)∧Steps (TF tb L lb sb) w w' (TF tb L' lb' sb')∧Below X.heap.size X w' :=by
 have hg:=hgX.below hX
 have CC:Hid (∀W,Below w.heap.size w W→Calls Tryz.prog 17 #[.agg #[.pointer (some ⟨b 0,0,none⟩), .pointer (some ⟨b 1,0,none⟩), .pointer (some ⟨b 2,0,none⟩)]] W fun e w' =>∃tv,e= .returned tv.val∧IsTrio w' tv (zQ4 D)∧Below W.heap.size W w'):=hid (fun W hb=>(zO0 b L D W (zY2 (h.below hb).ds hs (hg.below hb))).mono (by rintro e w' ⟨tv,rfl,h1,_,h3⟩;exact ⟨tv,rfl,h1,h3⟩))
 have HK:Hid (∀W,Below w.heap.size w W→(W.cell? ⟨tb,0,none⟩=some (.pointer (some ⟨b 0,0,none⟩))∧W.cell? ⟨tb,1,none⟩=some (.pointer (some ⟨b 1,0,none⟩))∧W.cell? ⟨tb,2,none⟩=some (.pointer (some ⟨b 2,0,none⟩)))∧W.cell? ⟨tb,6,none⟩=some v∧W.cell? ⟨tb,7,none⟩=some (.int .i64 q.turn)):=hid (fun W hb=>by
  have hc:=(h.below hb).cell
  exact ⟨⟨hc.1,hc.2.1,hc.2.2.1⟩,hc.2.2.2.2.2.2.1,hc.2.2.2.2.2.2.2.1⟩)
 obtain ⟨vo,vc,rfl,hvc,hvc'⟩:=h.qv.parts
 have CW:Hid (∀W tv,Below w.heap.size w W→IsTrio W tv (zQ4 D)→Calls Tryz.prog 27 #[tv.val, .agg #[.slice vo q.files.length vc, .int .i64 q.turn]] W (xR0 (zS5 (zQ4 D) q) W)):=hid (fun W tv hb ht=>yF7 tv (zQ4 D) _ q W ht ⟨_,rfl,(h.below hb).qv⟩)
 rw [hwr] at CW
 have HH:=hid h
 have HS:=hid (hs 1 (by decide))
 have HGX:=hid hgX
 have HX:=hid hX
 have HGD:=hid hgood
 clear h hs hg hwr hgX hX hgood
 obtain ⟨⟨k0,k1,k2⟩,k6,k7⟩:=HK.out w (Below.refl _ _)
 go_enter Tryz.func10, Tryz.ntmps10
 go_wp2_with fail
 go_region_held3 (fun W=>(W.cell? ⟨tb,0,none⟩=some (.pointer (some ⟨b 0,0,none⟩))∧W.cell? ⟨tb,1,none⟩=some (.pointer (some ⟨b 1,0,none⟩))∧W.cell? ⟨tb,2,none⟩=some (.pointer (some ⟨b 2,0,none⟩)))∧W.cell? ⟨tb,6,none⟩=some (.slice vo q.files.length vc)∧W.cell? ⟨tb,7,none⟩=some (.int .i64 q.turn))
  (first
   | exact HK.out _ (Below.refl _ _).drew
   | exact HK.out _ (HBY2:Hid _).out
   | exact HK.out _ (HBY1:Hid _).out)
  (first
   | (go_at_call 17;refine (CC.out _ (Below.refl _ _).drew).mono ?_;rintro e y1 ⟨tv,rfl,ht1,hb1⟩;have HBY1:Hid (Below w.heap.size w y1):=hid (two (Below.refl _ _).drew hb1);have HT1:=hid ht1;clear ht1 hb1)
   | (go_at_call 27;refine (CW.out _ _ (HBY1:Hid _).out (HT1:Hid _).out).mono ?_;rintro e y2 ⟨nv,rfl,hn2,hb2,hf2⟩;have HBY2:Hid (Below w.heap.size w y2):=hid (two (HBY1:Hid _).out hb2);obtain ⟨no,nc,rfl,hnc,hnc'⟩:=hn2.parts;have HN2:=hid hn2;have HNF2:=hid hf2;clear hn2 hb2 hf2))
 all_goals
  have hnl:Nums y2 (.slice no 1 nc) [(1:Int)]:=(HN2:Hid _).out
  simp only [List.length_singleton] at *
  obtain ⟨nb,nf,rfl,hnb,z0⟩:=zI6 hnl 0 (by simp)
  rw [Nat.add_zero] at z0
  simp only [List.getElem_cons_zero] at z0
  have hpj:=HH.out.below (HBY2:Hid _).out
  have HPJ:=hid hpj
  have HZ0:=hid z0
  have HB1:Hid (X.heap.size≤y2.heap.size):=hid (two HX.out (HBY2:Hid _).out).size
  clear hnl hnb z0 hpj
  go_wp2_with fail
  go_loopw [21] (fun iv wr=>(iv= .int .i64 0∧wr=y2)∨(iv= .int .i64 1∧∃L' D1 lb' sb' rv' sp',PreT (fun _=>True) X.heap.size b wr tb L' (upd D 1 D1) lb' sb' rv' sp' (.slice vo q.files.length vc) q∧(∃S1,HasQ D1 S1 q∧S1.h.epoch≤2)∧Steps (TF tb L lb sb) w wr (TF tb L' lb' sb')∧Below X.heap.size X wr)) (fun iv _=>1 - (intOf iv).toNat)
  case atStart=>exact Or.inl ⟨rfl,rfl⟩
  case round=>
   rcases hrel with ⟨rfl,hww⟩ | ⟨rfl,hrs⟩
   · subst hww
     obtain ⟨t0,t1,t2,t3,t4,t5,t6,t7,tf⟩:=HPJ.out.cell
     have t1' :wr.drew.cell? ⟨tb,1,none⟩=_:=t1
     have t6' :wr.drew.cell? ⟨tb,6,none⟩=_:=t6
     have t7' :wr.drew.cell? ⟨tb,7,none⟩=_:=t7
     have z0:=HZ0.out
     have hdr:Below wr.heap.size wr wr.drew:=(Below.refl _ _).drew
     have hbx:=two HX.out (two (HBY2:Hid _).out hdr)
     have CL:=xN7 X (L 1) (D 1) (.slice vo q.files.length vc) q wr.drew ((HPJ.out.ds.d 1 (by decide)).below hdr) HS.out (HPJ.out.ds.low 1 (by decide)) HGX.out hbx ⟨HPJ.out.qv.below hdr,fun a n c e hn hx=>HPJ.out.qf 1 (by decide) a n c e hn (Or.inl hx)⟩ HGD.out
     rw [HPJ.out.ds.eq 1 (by decide)] at CL
     have HCL:=hid CL
     clear CL hbx hdr
     go_wp2_with fail
     go_region_with (first | (go_at_call 28;refine HCL.out.mono ?_;rintro e w8 ⟨L8,lz,sz,rz,D8,S8,rfl,hr⟩;have HR:=hid hr;have hbt:=(hr.off.block tb (by have:=HPJ.out.tlt;show tb<wr.heap.size;omega) (fun hx=>HPJ.out.nt 1 (by decide) (Or.inl hx))).trans HPJ.out.box;have t4x:w8.cell? ⟨tb,4,none⟩=some (.pointer (sp 1)):=(by simp [World.cell?,hbt]);have tfx:∀o,w8.frozen? ⟨tb,o,none⟩=false:=(fun o=>by simp [World.frozen?,hbt]);clear hr hbt))
     all_goals
      have hbd:X.heap.size≤wr.drew.heap.size:=(HB1:Hid _).out
      obtain ⟨L9,lb9,sb9,rv9,hp9,hg9⟩:=(HPJ.out.below (Below.refl _ _).drew).laid (k:=1) (by decide) hbd HR.out
      have HP9:=hid hp9
      have HO9:Hid (Off (stF (L 1) (lb 1) (sb 1)) wr.drew w8):=hid (HR.out.off.mono (fun x hx=>Or.inl hx))
      have HG9:=hid hg9
      clear hp9 hg9 t0 t1 t2 t3 t4 t5 t6 t7 tf t1' t6' t7' z0 hbd
      go_wp2_with fail
      go_roundw
      case rel=>
       right
       refine ⟨by go_num,L9,D8,lb9,sb9,rv9,_,HP9.out.mono (fun i _ _=>(Classical.em (i=1)).elim Or.inr Or.inl),⟨S8,HR.out.has,HR.out.ep⟩,⟨?_,fun x hx=>?_⟩,?_⟩
       · have hof2:Off (fun x=>x=tb) w8 (w8.setCell ⟨tb,4,none⟩ (.pointer (some ⟨sz,0,none⟩))):=zA7 (F:=fun x=>x=tb) w8 ⟨tb,4,none⟩ rfl _
         refine ((zB7 (two (HBY2:Hid _).out (Below.refl _ _).drew) (TF tb L lb sb)).trans (HO9.out.mono (fun x hx=>Or.inr ⟨1,by decide,hx⟩)) (fun _ _ h=>h)).trans hof2 (fun x hx hG=>?_)
         have h1:x=tb:=hG
         exact Or.inl h1
       · rcases hx with hx | ⟨i,hi,hx⟩
         · exact Or.inl (Or.inl hx)
         · rcases HG9.out i hi x hx with h1 | h1
           · exact Or.inl (Or.inr ⟨i,hi,h1⟩)
           · exact Or.inr (Nat.le_trans (HBY2:Hid _).out.size h1)
       · have hb1:Below X.heap.size X wr.drew:=two HX.out (two (HBY2:Hid _).out (Below.refl _ _).drew)
         exact (hb1.trans (HO9.out.below _ hb1.size (fun x hx=>(HPJ.out.lt 1 (by decide) x hx).2))).setCell (p:=⟨tb,4,none⟩) HPJ.out.tB _
      case measure=>simp [intOf]
   · have HRS:=hid hrs
     clear hrs
     go_wp2_with fail
     refine bodyPost_ret (v:= .tuple #[.int .i64 1, .nilIface]) (by simp [results, Tryz.results10,go_sem]) rfl ?_
     exact ⟨rfl,HRS.out⟩
open Go.RowKit Go.Sort
def oneT :ByteArray:=⟨#[49]⟩
theorem uN0 (W:World):Calls Tryz.prog 71 #[.int .i64 1] W fun e w' =>e= .returned (.string oneT)∧w' =W:=by
 have h:=yA3 1 W (by decide)
 rw [show zP7 ((1:Nat):Int)=oneT by decide +kernel] at h
 exact h
theorem vU4 (m B:Nat)(W0:World)(b:Nat→Nat)(w:World)(sx tb:Nat)(q:Quilt)(L:Nat→Dk)(D:Nat→DiskS)(S:Nat→StS)(lb sb:Nat→Nat)(rv:Nat→Value)(v:Value)(h:SessT m B W0 b w sx tb q L D S lb sb rv v)(hg:GlobI W0):
 Calls Tryz.prog 73 #[.pointer (some ⟨sx,0,none⟩)] w fun e w' =>e= .returned (.string yK1)∧Below w.heap.size w w' :=by
 obtain ⟨_,_,hwr⟩:=vA1 (D:=D) (q:=q) (fun k hk=>(h.t.has k hk).copyC)
 have CS:=hid (vB4 B b w tb q L D lb sb rv _ v _ h.t.pre (fun i hi=>(h.t.has i hi).sound) (hg.below h.bel) hwr)
 have CI:=hid xA4
 obtain ⟨y0,y1,y2,y3,yf⟩:=zG4 h.box
 clear h hg hwr
 go_enter Tryz.func73, Tryz.ntmps73
 go_wp2_with fail
 refine CS.out.mono ?_
 rintro e w1 ⟨rfl,hb⟩
 have HB:=hid hb
 clear hb y0 y1 y2 y3 yf
 go_wp2_with fail
 refine (CI.out _).mono ?_
 rintro e w2 ⟨rfl,rfl⟩
 go_wp2_with fail
 go_ret
 exact ⟨rfl,HB.out⟩
theorem vU3 (m B:Nat)(W0:World)(b:Nat→Nat)(w:World)(sx tb:Nat)(q:Quilt)(L:Nat→Dk)(D:Nat→DiskS)(S:Nat→StS)(lb sb:Nat→Nat)(rv:Nat→Value)(sp:Nat→Option Addr)(v:Value)(h:SessB 1 m B W0 b w sx tb q L D S lb sb rv sp v)(hm:2≤m)(hg:GlobI W0)(hc:copyC (D 1)=⟨false,zD6⟩):
 Calls Tryz.prog 73 #[.pointer (some ⟨sx,0,none⟩)] w (uS4 m B W0 b sx q (SF sx tb L lb sb) w oneT):=by
 obtain ⟨X,hXs,hXg,hXw,hX0⟩:=h.base hg
 have hn:copyC (D 1)≠⟨true,q⟩:=by rw [hc];intro e;cases e
 have hwr:zS5 (zQ4 D) q= [(1:Int)]:=by
  obtain ⟨_,_,h3⟩:=xR7 (t:=zQ4 D) (q:=q) (k:=1) (by decide) (fun i hi hne=>by rw [yI4 D i hi];exact (h.has i hi hne).1.copyC)
  rw [yI4 D 1 (by decide)] at h3
  rw [h3,xO1 hn];rfl
 have CS:=vB3 X b w tb q L D lb sb rv sp v (by rw [hXs];exact h.pre) h.sound hXg hXw (zJ0 h.good) hwr
 have HCS:=hid CS
 have CI:=hid uN0
 have HH:=hid h
 have HX:=hid (And.intro hXs hX0)
 obtain ⟨y0,y1,y2,y3,yf⟩:=zG4 h.box
 clear h hg hwr hn hc CS hXs hXg hXw hX0
 go_enter Tryz.func73, Tryz.ntmps73
 go_wp2_with fail
 refine HCS.out.mono ?_
 rintro e w1 ⟨rfl,L',D1,lb',sb',rv',sp',hpre,⟨S1,hs1,he1⟩,hst,hb⟩
 have HR:=hid (And.intro hpre (And.intro hs1 (And.intro he1 (And.intro hst hb))))
 clear hpre hs1 he1 hst hb y0 y1 y2 y3 yf
 go_wp2_with fail
 refine (CI.out _).mono ?_
 rintro e w2 ⟨rfl,rfl⟩
 go_wp2_with fail
 go_ret
 obtain ⟨hpre,hs1,he1,hst,hb⟩:=HR.out
 have hkp:=hst.keep HH.out.lt HH.out.nt
 have hhas:∀k,k<3→HasQ (upd D 1 D1 k) (upd S 1 S1 k) q∧(upd S 1 S1 k).h.epoch≤m:=fun k hk=>by
  by_cases e:k=1
  · subst e
    rw [zA9,zA9]
    exact ⟨hs1,by omega⟩
  · rw [zD0 _ _ e,zD0 _ _ e]
    exact HH.out.has k hk e
 rw [HX.out.1] at hpre
 have hpr:=hpre.resp (sp' :=fun k=>some ⟨sb' k,0,none⟩) (fun k hk=>(hpre.st k hk trivial _ _ (hhas k hk).1.copy).1)
 exact ⟨rfl,SF sx tb L' lb' sb',⟨tb,L',upd D 1 D1,upd S 1 S1,lb',sb',rv',v,⟨⟨hpr,fun k hk=>(hhas k hk).1,fun k hk=>(hhas k hk).2,HH.out.good⟩,hkp.1.trans HH.out.box,HH.out.lo,HH.out.hi,two HX.out.2 hb⟩,rfl⟩,yY6 hst⟩
open Go.RowKit Go.Sort
theorem vU9 (a:ByteArray):bLt a a=false:=by
 cases h:bLt a a with
 | false=>rfl
 | true=>have:=uH9 h;rw [h] at this;cases this
theorem yD4 :∀(l:List File),zP6 l l= []
 | []=>by simp [zP6]
 | f::l=>by
  rw [zP6,vU9]
  simp only [Bool.false_eq_true,if_false,if_true,List.nil_append]
  exact yD4 l
@[go_sem] theorem index_c0 (x0 x1 x2 x3 x4 x5 x6 x7 x8 : Value) (w : World) : (Instr.index 53 (.agg #[x0, x1, x2, x3, x4, x5, x6, x7, x8]) (.int .i64 0)).run Tryz.prog w = .ok (.agg #[x0, x1, x2]) w := by kernel_rfl
@[go_sem] theorem index_c1 (x0 x1 x2 x3 x4 x5 x6 x7 x8 : Value) (w : World) : (Instr.index 53 (.agg #[x0, x1, x2, x3, x4, x5, x6, x7, x8]) (.int .i64 1)).run Tryz.prog w = .ok (.agg #[x3, x4, x5]) w := by kernel_rfl
@[go_sem] theorem index_c2 (x0 x1 x2 x3 x4 x5 x6 x7 x8 : Value) (w : World) : (Instr.index 53 (.agg #[x0, x1, x2, x3, x4, x5, x6, x7, x8]) (.int .i64 2)).run Tryz.prog w = .ok (.agg #[x6, x7, x8]) w := by kernel_rfl
section
variable (k m B:Nat) (W0:World) (b:Nat→Nat) (w:World) (sx tb:Nat) (q:Quilt) (L:Nat→Dk) (D:Nat→DiskS) (S:Nat→StS) (lb sb:Nat→Nat) (rv:Nat→Value) (sp:Nat→Option Addr) (v:Value)
theorem xJ0 (n:Nat)(hn:3≤n):Calls Tryz.prog 77 #[.pointer (some ⟨sx,0,none⟩), .int .i64 (n:Int)] w fun e w' =>e= .returned (.string (zP3 5))∧Below w.heap.size w w' :=by
 have CF:=zH7 5 (by decide) (by decide)
 rw [zA5 (by decide)] at CF
 have HCF:=hid CF
 have hn' :(3:Int)≤(n:Int):=by omega
 clear CF hn
 go_enter Tryz.func77, Tryz.ntmps77
 go_wp2_with fail
 refine (HCF.out _).mono ?_
 rintro e w4 ⟨rfl,rfl⟩
 go_wp2_with fail
 go_ret
 exact ⟨rfl,Below.refl _ _⟩
theorem yY3 (h:SessB k m B W0 b w sx tb q L D S lb sb rv sp v)(hg:GlobI W0)(hc:copyC (D 0)=⟨true,q⟩):
 Calls Tryz.prog 77 #[.pointer (some ⟨sx,0,none⟩), .int .i64 0] w fun e w' =>e= .returned (.string yE1)∧Below w.heap.size w w' :=by
 have CC:=hid (zO0 b L D w (zY2 h.pre.ds h.sound (hg.below h.bel)))
 have HC:=hid hc
 have hgf:=h.good.fine
 have CF:=zH7 4 (by decide) (by decide)
 rw [zA5 (by decide)] at CF
 have HCF:=hid CF
 have HH:=hid h
 have HGF:=hid hgf
 obtain ⟨y0,y1,y2,y3,yf⟩:=zG4 h.box
 clear CF h hg hc hgf
 go_enter Tryz.func77, Tryz.ntmps77
 go_wp2_with fail
 refine CC.out.mono ?_
 rintro e w2 ⟨tv,rfl,ht,_,hb2⟩
 obtain ⟨⟨a0,av,a2⟩,⟨b0,bv,b2⟩,⟨d0,dv,d2⟩⟩:=tv
 have hK:IsCopy w2 ⟨a0,av,a2⟩ (copyC (D 0)):=ht.1
 rw [HC.out] at hK
 obtain ⟨e1,e2,hfl⟩:=hK
 dsimp only at e1 e2 hfl
 subst e1 e2
 obtain ⟨ao,ac,rfl,hac,hac'⟩:=hfl.parts
 simp only [TrioV.val,TrioV.arr]
 have HFL:=hid hfl
 have HB2:=hid hb2
 clear ht hfl hb2 y0 y1 y2 y3 yf
 obtain ⟨W3,hW3⟩:∃W3,W3=w2.alloc (.cells #[.bool true, .slice ao q.files.length ac, .int .i64 q.turn] 52):=⟨_,rfl⟩
 have HB3:Hid (Below w.heap.size w W3):=hid (by rw [hW3];exact two HB2.out (zA0 _ _))
 have HSE:=hid (HH.out.below HB3.out)
 have HK3:Hid (∀W,Below W3.heap.size W3 W→W.cell? ⟨sx,3,none⟩=some (.pointer (some ⟨tb,0,none⟩))∧W.cell? ⟨w2.heap.size,1,none⟩=some (.slice ao q.files.length ac)∧W.cell? ⟨w2.heap.size,2,none⟩=some (.int .i64 q.turn)):=hid fun W hb=>⟨(zG4 (HSE.out.below hb).box).2.2.2.1,zA1 hb (by rw [hW3];simp),zA1 hb (by rw [hW3];simp)⟩
 have CQ:Hid (∀W,Below W3.heap.size W3 W→Calls Tryz.prog 16 #[.pointer (some ⟨tb,0,none⟩)] W fun e w' =>∃qv,e= .returned qv∧zT6 W.heap.size w' qv q∧Below W.heap.size W w'):=hid (fun W hb=>zQ8 (HSE.out.below hb).pre (by have:=HGF.out.len;omega))
 have CD:Hid (∀W va,Below W3.heap.size W3 W→Files W va q.files→Calls Tryz.prog 122 #[.agg #[va, .int .i64 q.turn], .agg #[.slice ao q.files.length ac, .int .i64 q.turn]] W fun e w' =>∃v,e= .returned v∧Texts w' v []∧Below W.heap.size W w'):=hid (fun W va hb hfa=>by
  have:=vG4 va (.slice ao q.files.length ac) q.files q.files q.turn q.turn W hfa (HFL.out.below (two (by rw [hW3];exact zA0 _ _) hb)) HGF.out.rises HGF.out.rises HGF.out.len HGF.out.len
  rw [yD4] at this
  exact this)
 have CJ:=hid (fun ao ac W=>zQ0 ao ac W)
 have HW3:=hid hW3
 obtain ⟨k0,k1,k2⟩:=HK3.out W3 (Below.refl _ _)
 rw [hW3] at k0 k1 k2
 clear hW3
 go_wp2_with fail
 rw [←HW3.out]
 go_region_held3 (fun W=>W.cell? ⟨sx,3,none⟩=some (.pointer (some ⟨tb,0,none⟩))∧W.cell? ⟨w2.heap.size,1,none⟩=some (.slice ao q.files.length ac)∧W.cell? ⟨w2.heap.size,2,none⟩=some (.int .i64 q.turn))
  (first
   | exact HK3.out _ (Below.refl _ _).drew
   | exact HK3.out _ (HBY2:Hid _).out
   | exact HK3.out _ (HBY1:Hid _).out)
  (first
   | (go_at_call 16;refine (CQ.out _ (Below.refl _ _).drew).mono ?_;rintro e y1 ⟨q8,rfl,⟨v8,rfl,hf8,_⟩,hb8⟩;obtain ⟨ao8,ac8,rfl,_,_⟩:=hf8.parts;have HBY1:Hid (Below W3.heap.size W3 y1):=hid (two (Below.refl _ _).drew hb8);have HF8:=hid hf8;clear hf8 hb8)
   | (go_at_call 122;refine (CD.out _ _ (HBY1:Hid _).out (HF8:Hid _).out).mono ?_;rintro e y2 ⟨v9,rfl,ht9,hb9⟩;obtain ⟨ao9,ac9,rfl,_,_⟩:=ht9.parts;have HBY2:Hid (Below W3.heap.size W3 y2):=hid (two (HBY1:Hid _).out hb9);clear ht9 hb9)
   | (go_at_call 120;refine (CJ.out _ _ _).mono ?_;rintro e y3 ⟨rfl,rfl⟩))
 all_goals
  go_wp2_with fail
  go_ret
  exact ⟨rfl,two HB3.out (HBY2:Hid _).out⟩
theorem yY4 (h:SessB k m B W0 b w sx tb q L D S lb sb rv sp v)(hg:GlobI W0)(hc:copyC (D 1)=⟨false,zD6⟩):
 Calls Tryz.prog 77 #[.pointer (some ⟨sx,0,none⟩), .int .i64 1] w fun e w' =>e= .returned (.string (zP3 4))∧Below w.heap.size w w' :=by
 have CC:=hid (zO0 b L D w (zY2 h.pre.ds h.sound (hg.below h.bel)))
 have HC:=hid hc
 have hgf:=h.good.fine
 have CF:=zH7 4 (by decide) (by decide)
 rw [zA5 (by decide)] at CF
 have HCF:=hid CF
 have HH:=hid h
 have HGF:=hid hgf
 obtain ⟨y0,y1,y2,y3,yf⟩:=zG4 h.box
 clear CF h hg hc hgf
 go_enter Tryz.func77, Tryz.ntmps77
 go_wp2_with fail
 refine CC.out.mono ?_
 rintro e w2 ⟨tv,rfl,ht,_,hb2⟩
 obtain ⟨⟨a0,av,a2⟩,⟨b0,bv,b2⟩,⟨d0,dv,d2⟩⟩:=tv
 have hK:IsCopy w2 ⟨b0,bv,b2⟩ (copyC (D 1)):=ht.2.1
 rw [HC.out] at hK
 obtain ⟨e1,e2,hfl⟩:=hK
 dsimp only at e1 e2 hfl
 subst e1 e2
 obtain ⟨ao,ac,rfl,hac,hac'⟩:=hfl.parts
 simp only [TrioV.val,TrioV.arr]
 have HFL:=hid hfl
 have HB2:=hid hb2
 clear ht hfl hb2 y0 y1 y2 y3 yf
 go_wp2_with fail
 refine (HCF.out _).mono ?_
 rintro e w4 ⟨rfl,rfl⟩
 go_wp2_with fail
 go_ret
 exact ⟨rfl,two HB2.out (zA0 _ _)⟩
theorem yY2 (h:SessB k m B W0 b w sx tb q L D S lb sb rv sp v)(hg:GlobI W0)(hc:copyC (D 1)=⟨true,q⟩):
 Calls Tryz.prog 77 #[.pointer (some ⟨sx,0,none⟩), .int .i64 1] w fun e w' =>e= .returned (.string yE1)∧Below w.heap.size w w' :=by
 have CC:=hid (zO0 b L D w (zY2 h.pre.ds h.sound (hg.below h.bel)))
 have HC:=hid hc
 have hgf:=h.good.fine
 have CF:=zH7 4 (by decide) (by decide)
 rw [zA5 (by decide)] at CF
 have HCF:=hid CF
 have HH:=hid h
 have HGF:=hid hgf
 obtain ⟨y0,y1,y2,y3,yf⟩:=zG4 h.box
 clear CF h hg hc hgf
 go_enter Tryz.func77, Tryz.ntmps77
 go_wp2_with fail
 refine CC.out.mono ?_
 rintro e w2 ⟨tv,rfl,ht,_,hb2⟩
 obtain ⟨⟨a0,av,a2⟩,⟨b0,bv,b2⟩,⟨d0,dv,d2⟩⟩:=tv
 have hK:IsCopy w2 ⟨b0,bv,b2⟩ (copyC (D 1)):=ht.2.1
 rw [HC.out] at hK
 obtain ⟨e1,e2,hfl⟩:=hK
 dsimp only at e1 e2 hfl
 subst e1 e2
 obtain ⟨ao,ac,rfl,hac,hac'⟩:=hfl.parts
 simp only [TrioV.val,TrioV.arr]
 have HFL:=hid hfl
 have HB2:=hid hb2
 clear ht hfl hb2 y0 y1 y2 y3 yf
 obtain ⟨W3,hW3⟩:∃W3,W3=w2.alloc (.cells #[.bool true, .slice ao q.files.length ac, .int .i64 q.turn] 52):=⟨_,rfl⟩
 have HB3:Hid (Below w.heap.size w W3):=hid (by rw [hW3];exact two HB2.out (zA0 _ _))
 have HSE:=hid (HH.out.below HB3.out)
 have HK3:Hid (∀W,Below W3.heap.size W3 W→W.cell? ⟨sx,3,none⟩=some (.pointer (some ⟨tb,0,none⟩))∧W.cell? ⟨w2.heap.size,1,none⟩=some (.slice ao q.files.length ac)∧W.cell? ⟨w2.heap.size,2,none⟩=some (.int .i64 q.turn)):=hid fun W hb=>⟨(zG4 (HSE.out.below hb).box).2.2.2.1,zA1 hb (by rw [hW3];simp),zA1 hb (by rw [hW3];simp)⟩
 have CQ:Hid (∀W,Below W3.heap.size W3 W→Calls Tryz.prog 16 #[.pointer (some ⟨tb,0,none⟩)] W fun e w' =>∃qv,e= .returned qv∧zT6 W.heap.size w' qv q∧Below W.heap.size W w'):=hid (fun W hb=>zQ8 (HSE.out.below hb).pre (by have:=HGF.out.len;omega))
 have CD:Hid (∀W va,Below W3.heap.size W3 W→Files W va q.files→Calls Tryz.prog 122 #[.agg #[va, .int .i64 q.turn], .agg #[.slice ao q.files.length ac, .int .i64 q.turn]] W fun e w' =>∃v,e= .returned v∧Texts w' v []∧Below W.heap.size W w'):=hid (fun W va hb hfa=>by
  have:=vG4 va (.slice ao q.files.length ac) q.files q.files q.turn q.turn W hfa (HFL.out.below (two (by rw [hW3];exact zA0 _ _) hb)) HGF.out.rises HGF.out.rises HGF.out.len HGF.out.len
  rw [yD4] at this
  exact this)
 have CJ:=hid (fun ao ac W=>zQ0 ao ac W)
 have HW3:=hid hW3
 obtain ⟨k0,k1,k2⟩:=HK3.out W3 (Below.refl _ _)
 rw [hW3] at k0 k1 k2
 clear hW3
 go_wp2_with fail
 rw [←HW3.out]
 go_region_held3 (fun W=>W.cell? ⟨sx,3,none⟩=some (.pointer (some ⟨tb,0,none⟩))∧W.cell? ⟨w2.heap.size,1,none⟩=some (.slice ao q.files.length ac)∧W.cell? ⟨w2.heap.size,2,none⟩=some (.int .i64 q.turn))
  (first
   | exact HK3.out _ (Below.refl _ _).drew
   | exact HK3.out _ (HBY2:Hid _).out
   | exact HK3.out _ (HBY1:Hid _).out)
  (first
   | (go_at_call 16;refine (CQ.out _ (Below.refl _ _).drew).mono ?_;rintro e y1 ⟨q8,rfl,⟨v8,rfl,hf8,_⟩,hb8⟩;obtain ⟨ao8,ac8,rfl,_,_⟩:=hf8.parts;have HBY1:Hid (Below W3.heap.size W3 y1):=hid (two (Below.refl _ _).drew hb8);have HF8:=hid hf8;clear hf8 hb8)
   | (go_at_call 122;refine (CD.out _ _ (HBY1:Hid _).out (HF8:Hid _).out).mono ?_;rintro e y2 ⟨v9,rfl,ht9,hb9⟩;obtain ⟨ao9,ac9,rfl,_,_⟩:=ht9.parts;have HBY2:Hid (Below W3.heap.size W3 y2):=hid (two (HBY1:Hid _).out hb9);clear ht9 hb9)
   | (go_at_call 120;refine (CJ.out _ _ _).mono ?_;rintro e y3 ⟨rfl,rfl⟩))
 all_goals
  go_wp2_with fail
  go_ret
  exact ⟨rfl,two HB3.out (HBY2:Hid _).out⟩
theorem yE9 (h:SessB k m B W0 b w sx tb q L D S lb sb rv sp v)(hg:GlobI W0)(hc:copyC (D 2)=⟨true,q⟩):
 Calls Tryz.prog 77 #[.pointer (some ⟨sx,0,none⟩), .int .i64 2] w fun e w' =>e= .returned (.string yE1)∧Below w.heap.size w w' :=by
 have CC:=hid (zO0 b L D w (zY2 h.pre.ds h.sound (hg.below h.bel)))
 have HC:=hid hc
 have hgf:=h.good.fine
 have CF:=zH7 4 (by decide) (by decide)
 rw [zA5 (by decide)] at CF
 have HCF:=hid CF
 have HH:=hid h
 have HGF:=hid hgf
 obtain ⟨y0,y1,y2,y3,yf⟩:=zG4 h.box
 clear CF h hg hc hgf
 go_enter Tryz.func77, Tryz.ntmps77
 go_wp2_with fail
 refine CC.out.mono ?_
 rintro e w2 ⟨tv,rfl,ht,_,hb2⟩
 obtain ⟨⟨a0,av,a2⟩,⟨b0,bv,b2⟩,⟨d0,dv,d2⟩⟩:=tv
 have hK:IsCopy w2 ⟨d0,dv,d2⟩ (copyC (D 2)):=ht.2.2
 rw [HC.out] at hK
 obtain ⟨e1,e2,hfl⟩:=hK
 dsimp only at e1 e2 hfl
 subst e1 e2
 obtain ⟨ao,ac,rfl,hac,hac'⟩:=hfl.parts
 simp only [TrioV.val,TrioV.arr]
 have HFL:=hid hfl
 have HB2:=hid hb2
 clear ht hfl hb2 y0 y1 y2 y3 yf
 obtain ⟨W3,hW3⟩:∃W3,W3=w2.alloc (.cells #[.bool true, .slice ao q.files.length ac, .int .i64 q.turn] 52):=⟨_,rfl⟩
 have HB3:Hid (Below w.heap.size w W3):=hid (by rw [hW3];exact two HB2.out (zA0 _ _))
 have HSE:=hid (HH.out.below HB3.out)
 have HK3:Hid (∀W,Below W3.heap.size W3 W→W.cell? ⟨sx,3,none⟩=some (.pointer (some ⟨tb,0,none⟩))∧W.cell? ⟨w2.heap.size,1,none⟩=some (.slice ao q.files.length ac)∧W.cell? ⟨w2.heap.size,2,none⟩=some (.int .i64 q.turn)):=hid fun W hb=>⟨(zG4 (HSE.out.below hb).box).2.2.2.1,zA1 hb (by rw [hW3];simp),zA1 hb (by rw [hW3];simp)⟩
 have CQ:Hid (∀W,Below W3.heap.size W3 W→Calls Tryz.prog 16 #[.pointer (some ⟨tb,0,none⟩)] W fun e w' =>∃qv,e= .returned qv∧zT6 W.heap.size w' qv q∧Below W.heap.size W w'):=hid (fun W hb=>zQ8 (HSE.out.below hb).pre (by have:=HGF.out.len;omega))
 have CD:Hid (∀W va,Below W3.heap.size W3 W→Files W va q.files→Calls Tryz.prog 122 #[.agg #[va, .int .i64 q.turn], .agg #[.slice ao q.files.length ac, .int .i64 q.turn]] W fun e w' =>∃v,e= .returned v∧Texts w' v []∧Below W.heap.size W w'):=hid (fun W va hb hfa=>by
  have:=vG4 va (.slice ao q.files.length ac) q.files q.files q.turn q.turn W hfa (HFL.out.below (two (by rw [hW3];exact zA0 _ _) hb)) HGF.out.rises HGF.out.rises HGF.out.len HGF.out.len
  rw [yD4] at this
  exact this)
 have CJ:=hid (fun ao ac W=>zQ0 ao ac W)
 have HW3:=hid hW3
 obtain ⟨k0,k1,k2⟩:=HK3.out W3 (Below.refl _ _)
 rw [hW3] at k0 k1 k2
 clear hW3
 go_wp2_with fail
 rw [←HW3.out]
 go_region_held3 (fun W=>W.cell? ⟨sx,3,none⟩=some (.pointer (some ⟨tb,0,none⟩))∧W.cell? ⟨w2.heap.size,1,none⟩=some (.slice ao q.files.length ac)∧W.cell? ⟨w2.heap.size,2,none⟩=some (.int .i64 q.turn))
  (first
   | exact HK3.out _ (Below.refl _ _).drew
   | exact HK3.out _ (HBY2:Hid _).out
   | exact HK3.out _ (HBY1:Hid _).out)
  (first
   | (go_at_call 16;refine (CQ.out _ (Below.refl _ _).drew).mono ?_;rintro e y1 ⟨q8,rfl,⟨v8,rfl,hf8,_⟩,hb8⟩;obtain ⟨ao8,ac8,rfl,_,_⟩:=hf8.parts;have HBY1:Hid (Below W3.heap.size W3 y1):=hid (two (Below.refl _ _).drew hb8);have HF8:=hid hf8;clear hf8 hb8)
   | (go_at_call 122;refine (CD.out _ _ (HBY1:Hid _).out (HF8:Hid _).out).mono ?_;rintro e y2 ⟨v9,rfl,ht9,hb9⟩;obtain ⟨ao9,ac9,rfl,_,_⟩:=ht9.parts;have HBY2:Hid (Below W3.heap.size W3 y2):=hid (two (HBY1:Hid _).out hb9);clear ht9 hb9)
   | (go_at_call 120;refine (CJ.out _ _ _).mono ?_;rintro e y3 ⟨rfl,rfl⟩))
 all_goals
  go_wp2_with fail
  go_ret
  exact ⟨rfl,two HB3.out (HBY2:Hid _).out⟩
end
end Go.Proofs.YtggpodlecljcbabGreatDoor
