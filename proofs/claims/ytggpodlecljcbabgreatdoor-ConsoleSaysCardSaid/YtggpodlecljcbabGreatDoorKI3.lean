/- The walk of image.Parse. -/
import Derived.Deep.RegionLaw
import Derived.Deep.CutRange
import Derived.Test.YtggpodlecljcbabGreatDoorKI
import Derived.Test.YtggpodlecljcbabGreatDoorKR
namespace Go.Proofs.YtggpodlecljcbabGreatDoor
set_option linter.unusedSimpArgs false
set_option linter.unusedVariables false
set_option maxRecDepth 100000
set_option maxHeartbeats 64000000
open Lib (hid)
open Go.RowKit Go.Sort
theorem xH4 (w:World)(o:Obj):(w.alloc o).heap[w.heap.size]?=some o:=by
 show (w.heap.push _)[w.heap.size]?=_
 simp
theorem belowI {w0 W w' :World}{base e k n:Nat}{v:Value}{xs:List Value}(hg:W.grownBy w' v.ownBlock)(hb:Below w0.heap.size w0 W)(ho:W.ownsRow base e k v n xs)(h:w0.heap.size≤base):Below w0.heap.size w0 w' :=zB0 hb ho hg h
def yB5 (l:List Change)(k:Nat):Option ByteArray:=if k=0 then none else (l[k - 1]?).map Change.key
theorem xL0 (l:List Change)(k:Nat)(h:k<l.length):yB5 l (k+1)=some l[k].key:=by simp [yB5,h]
theorem uG0 {l:List Change}{k:Nat}(h:k<l.length){q q' :Quilt}(hs:zM3 (yB5 l k) q l[k]=some q'):zX5 (yB5 l k) q (l.drop k)=zX5 (yB5 l (k+1)) q' (l.drop (k+1)):=by
 rw [List.drop_eq_getElem_cons h,zX5,hs,xL0 l k h]
theorem uP6 {l:List Change}{k:Nat}(h:k<l.length){q:Quilt}(hs:zM3 (yB5 l k) q l[k]=none):zX5 (yB5 l k) q (l.drop k)=none:=by
 rw [List.drop_eq_getElem_cons h,zX5,hs]
def yE8 (l:List Change):Nat:=if (zY0 l).isSome=true then 0 else 4
def yE7 (l:List Change):Quilt:=(zY0 l).getD zD6
theorem vR1 {l:List Change}(h:zX5 none zD6 l=none):yE8 l=4∧yE7 l=zD6:=by
 have:zY0 l=none:=by unfold zY0;rw [h]
 unfold yE8 yE7
 rw [this]
 exact ⟨rfl,rfl⟩
theorem uA9 {l:List Change}{q:Quilt}(h:zX5 none zD6 l=some q)(hq:zB2 q≠0):yE8 l=4∧yE7 l=zD6:=by
 have:zY0 l=none:=by unfold zY0;rw [h];simp [hq]
 unfold yE8 yE7
 rw [this]
 exact ⟨rfl,rfl⟩
theorem vR2 {l:List Change}{q:Quilt}(h:zX5 none zD6 l=some q)(hq:zB2 q=0):yE8 l=0∧yE7 l=q:=by
 have:zY0 l=some q:=by unfold zY0;rw [h];simp [hq]
 unfold yE8 yE7
 rw [this]
 exact ⟨rfl,rfl⟩
def OwnQ (B:Nat)(w:World)(qv:Value)(q:Quilt):Prop:=∃v,qv= .agg #[v, .int .i64 q.turn]∧w.ownsRow B 102 3 v q.files.length (q.files.flatMap File.cells)
theorem OwnQ.none (B:Nat)(w:World):OwnQ B w (.agg #[.slice none 0 0, .int .i64 0]) zD6:=⟨_,rfl,World.ownsRow_nil _ _ _ _⟩
theorem vF1 (va:Value)(l:List Change)(w:World)(ha:Changes w va l)(hg:GlobI w)(hl:l.length≤1000)(hok:∀c∈l,c.ok):
 Calls Tryz.prog 59 #[va] w fun e w' =>∃qv,e= .returned (.tuple #[qv,zE6 (yE8 l)])∧OwnQ w.heap.size w' qv (yE7 l)∧Below w.heap.size w w' :=by
 obtain ⟨ao,ac,rfl,hac,hac'⟩:=ha.parts
 have HA:=hid ha
 have HG:=hid hg
 have HOK:=hid hok
 obtain ⟨W1,hW1⟩:∃W1,W1=(w.alloc (.cells #[.slice none 0 0, .int .i64 0] 32)).alloc (.cells #[.slice none 0 0, .int .i64 0] 32):=⟨_,rfl⟩
 have HB1:Hid (Below w.heap.size w W1):=hid (by rw [hW1];exact two (zA0 _ _) (zA0 _ _))
 have HR1:Hid (∀W,Below W1.heap.size W1 W→W.heap[w.heap.size]?=some (.cells #[.slice none 0 0, .int .i64 0] 32 (0,0))):=hid (fun W hb=>by
  rw [hb.block _ (by rw [hW1];simp;omega),hW1]
  rw [(zA0 _ _).block _ (by simp)]
  exact xH4 _ _)
 have HQ0:Hid (W1.heap[w.heap.size+1]?=some (.cells #[.slice none 0 0, .int .i64 0] 32 (0,0))):=hid (by
  rw [hW1]
  have:=xH4 (w.alloc (.cells #[.slice none 0 0, .int .i64 0] 32)) (.cells #[.slice none 0 0, .int .i64 0] 32)
  rw [show (w.alloc (.cells #[.slice none 0 0, .int .i64 0] 32)).heap.size=w.heap.size+1 by simp] at this
  exact this)
 have HZ1:Hid (W1.heap.size=w.heap.size+2):=hid (by rw [hW1];simp)
 have HW1:=hid hW1
 clear ha hg hok hW1
 go_enter Tryz.func59, Tryz.ntmps59
 go_wp2_with fail
 rw [show (w.alloc (.cells #[.slice none 0 0, .int .i64 0] 32)).alloc (.cells #[.slice none 0 0, .int .i64 0] 32)=W1 from HW1.out.symm]
 go_loopw [10] (fun iv wr=>∃(k:Nat) (q:Quilt) (fv:Value),k≤l.length∧iv= .int .i64 k∧zX5 (yB5 l k) q (l.drop k)=zX5 none zD6 l∧wr.heap[w.heap.size+1]?=some (.cells #[fv, .int .i64 q.turn] 32 (0,0))∧wr.ownsRow W1.heap.size 102 3 fv q.files.length (q.files.flatMap File.cells)∧q.files.length≤k∧(∀f∈q.files,f.ok)∧wr.heap[w.heap.size]?=some (.cells #[.slice none 0 0, .int .i64 0] 32 (0,0))∧W1.heap.size≤wr.heap.size∧Below w.heap.size w wr) (fun iv _=>l.length - (intOf iv).toNat)
 case atStart=>exact ⟨0,zD6, .slice none 0 0,Nat.zero_le _,rfl,rfl,HQ0.out,World.ownsRow_nil _ _ _ _,Nat.le_refl _,(fun f hf=>by cases hf),HR1.out _ (Below.refl _ _),Nat.le_refl _,HB1.out⟩
 case round=>
  obtain ⟨k,q,fv,hk,rfl,hfd,hqb,ho,hql,hqo,hrb,hsz,hbw⟩:=hrel
  have HQO:=hid hqo
  clear hqo
  obtain ⟨fo,fc,rfl,hfc,hfc'⟩:=zI9 ho
  have HFD:=hid hfd
  have HQB:=hid hqb
  have HO:=hid ho
  have HRB:=hid hrb
  have HBW:=hid hbw
  have HSZ:=hid hsz
  have HQL:=hid hql
  clear hfd hqb ho hrb hbw hsz hql
  by_cases hlt:k<l.length
  · obtain ⟨cb,cof,rfl,hlb,x0,x1,x2⟩:=Changes.cell (Rd.below HA.out HBW.out) k hlt
    have hco:=HOK.out l[k] (List.getElem_mem hlt)
    have HST:Hid (∀q',zM3 (yB5 l k) q l[k]=some q' →zX5 (yB5 l (k+1)) q' (l.drop (k+1))=zX5 none zD6 l):=hid (fun q' h=>(uG0 hlt h).symm.trans HFD.out)
    have HSN:Hid (zM3 (yB5 l k) q l[k]=none→yE8 l=4∧yE7 l=zD6):=hid (fun h=>vR1 ((HFD.out.symm).trans (uP6 hlt h)))
    obtain ⟨c,hce⟩:∃c,c=l[k]:=⟨_,rfl⟩
    rw [←hce] at x0 x1 x2 hco HST HSN
    have hv63:c.val.size≤9223372036854775807:=hco.2
    have hk63:c.key.size≤9223372036854775807:=hco.1
    obtain ⟨W3,hW3⟩:∃W3,W3=wr.alloc (.cells #[.string c.key, .string c.val, .bool c.gone] 109):=⟨_,rfl⟩
    have HB3:Hid (Below wr.heap.size wr W3):=hid (by rw [hW3];exact zA0 _ _)
    have HC3:Hid (∀W,Below W3.heap.size W3 W→W.cell? ⟨wr.heap.size,0,none⟩=some (.string c.key)∧W.cell? ⟨wr.heap.size,1,none⟩=some (.string c.val)∧W.cell? ⟨wr.heap.size,2,none⟩=some (.bool c.gone)):=hid fun W hb=>⟨zA1 hb (by rw [hW3];simp),zA1 hb (by rw [hW3];simp),zA1 hb (by rw [hW3];simp)⟩
    have CN:=hid (xW2 c.val W3 (HG.out.below (two HBW.out HB3.out)) hv63)
    have HW3:=hid hW3
    have y1:∀o,(wr.alloc o).heap.size=wr.heap.size+1:=fun o=>by simp
    clear hce hW3 hco
    go_wp2_with fail
    rw [←HW3.out]
    clear y1
    refine CN.out.mono ?_
    rintro e wA ⟨rfl,hba⟩
    have HBA:=hid hba
    have HBA' :=hid (two HBW.out (two HB3.out hba))
    obtain ⟨n,hn⟩:∃n,n=xI6 c.val:=⟨_,rfl⟩
    rw [←hn]
    have HN:=hid hn
    obtain ⟨X,hX⟩:∃X:Bool,X=(leP (yB5 l k) c.key || c.gone || decide (n<0)):=⟨_,rfl⟩
    have HX:=hid hX
    clear hba hn hX x0 x1 x2
    go_upto_region 7 with fail
    go_cut [20] from 21 to 41 (fun s20 wx=>s20= .bool X∧Below wA.heap.size wA wx)
    case first=>
     obtain ⟨z0,z1,z2⟩:=HC3.out wA HBA.out
     obtain ⟨g,hgg⟩:∃g:Bool,g=c.gone:=⟨_,rfl⟩
     rw [←hgg] at z2
     have HXG:Hid (X=(leP (yB5 l k) c.key || g || decide (n<0))):=hid (by rw [HX.out,hgg])
     replace z0:=zA4 z0
     replace z2:=zA4 z2
     clear z1 hgg
     by_cases hk0:k=0
     · have hk0' :¬(0:Int)<(k:Int):=by omega
       have hk1' :¬0<k:=by omega
       have hd0:decide (0<k)=false:=decide_eq_false hk1'
       have hXe:X=(g || decide (n<0)):=by rw [HXG.out,hk0];rfl
       have HXE:=hid hXe
       clear hk0 hXe
       cases g
       · refine zA6 (by kernel_rfl) (by kernel_rfl) ?_
         repeat (go_big_quiet_step (fail))
         refine wpQuiet_nil ?_
         intro wx hbx
         have HBX:=hid hbx
         clear hbx
         go_wp2_with fail
         go_meet
         exact ⟨by rw [HXE.out];simp,HBX.out⟩
       · refine zA6 (by kernel_rfl) (by kernel_rfl) ?_
         repeat (go_big_quiet_step (fail))
         refine wpQuiet_nil ?_
         intro wx hbx
         have HBX:=hid hbx
         clear hbx
         go_wp2_with fail
         go_meet
         exact ⟨by rw [HXE.out];simp,HBX.out⟩
     · have hk0' :(0:Int)<(k:Int):=by omega
       have hk1' :0<k:=by omega
       have hd0:decide (0<k)=true:=decide_eq_true hk1'
       obtain ⟨j,hj⟩:∃j,k=j+1:=⟨k - 1,by omega⟩
       have hjl:j<l.length:=by omega
       obtain ⟨cb2,cof2,hpe,hlb2,p0,p1,p2⟩:=Changes.cell (Rd.below HA.out HBA'.out) j hjl
       simp only [Option.some.injEq,Addr.mk.injEq] at hpe
       obtain ⟨rfl,rfl,_⟩:=hpe
       obtain ⟨p,hp⟩:∃p,p=l[j].key:=⟨_,rfl⟩
       rw [←hp] at p0
       have hXe:X=(bLe c.key p || g || decide (n<0)):=by
        have e1:leP (yB5 l k) c.key=bLe c.key p:=by
         subst hj
         rw [xL0 l j hjl,←hp];rfl
        rw [HXG.out,e1]
       have HXE:=hid hXe
       have hj1:(k:Int) - 1=((j:Nat):Int):=by omega
       have hj2:IntKind.i64.wrap ((k:Int) - 1)=((j:Nat):Int):=by rw [IntKind.wrap_i64];omega
       have hj3:(0:Int)≤((j:Nat):Int):=by omega
       have hj4:((j:Nat):Int)<((l.length:Nat):Int):=by omega
       replace p0:=zA4 p0
       clear hk0 hXe p1 p2 hp hlb2 hj
       cases hle:(Op.bytesLess c.key.toList p.toList || c.key.toList==p.toList)
       · have hle2:bLe c.key p=false:=hle
         have HLE:=hid hle2
         clear hle2
         cases g
         · refine zA6 (by kernel_rfl) (by kernel_rfl) ?_
           repeat (go_big_quiet_step (fail))
           refine wpQuiet_nil ?_
           intro wx hbx
           have HBX:=hid hbx
           clear hbx
           go_wp2_with fail
           go_meet
           exact ⟨by rw [HXE.out,HLE.out];simp,HBX.out⟩
         · refine zA6 (by kernel_rfl) (by kernel_rfl) ?_
           repeat (go_big_quiet_step (fail))
           refine wpQuiet_nil ?_
           intro wx hbx
           have HBX:=hid hbx
           clear hbx
           go_wp2_with fail
           go_meet
           exact ⟨by rw [HXE.out,HLE.out];simp,HBX.out⟩
       · have hle2:bLe c.key p=true:=hle
         have HLE:=hid hle2
         clear hle2
         refine zA6 (by kernel_rfl) (by kernel_rfl) ?_
         repeat (go_big_quiet_step (fail))
         refine wpQuiet_nil ?_
         intro wx hbx
         have HBX:=hid hbx
         clear hbx
         go_wp2_with fail
         go_meet
         exact ⟨by rw [HXE.out,HLE.out];simp,HBX.out⟩
    case rest=>
    obtain ⟨rfl,hbx⟩:=hcut
    have HBC3:=hid (two HB3.out (two HBA.out hbx))
    have HB3C:=hid (two HBA.out hbx)
    have HBC:=hid (two HBA'.out hbx)
    clear hbx
    cases X
    · have hx:=HX.out
      have hx1:leP (yB5 l k) c.key=false:=by
       cases h:leP (yB5 l k) c.key
       · rfl
       · rw [h] at hx;simp at hx
      have hx2:c.gone=false:=by
       cases h:c.gone
       · rfl
       · rw [h] at hx;simp at hx
      have hx3:¬n<0:=by
       intro h
       rw [decide_eq_true h] at hx
       simp at hx
      have HOKX:=hid (And.intro hx1 (And.intro hx2 hx3))
      clear hx hx1 hx2 hx3
      obtain ⟨z0,z1,z2⟩:=HC3.out wc HB3C.out
      clear z2
      have hqc:wc.heap[w.heap.size+1]?=some (.cells #[.slice fo q.files.length fc, .int .i64 q.turn] 32 (0,0)):=by
       rw [HBC3.out.block _ (Array.getElem?_eq_some_iff.1 HQB.out).1];exact HQB.out
      have HQC:=hid hqc
      have HOC:=hid (zE2 HO.out HBC3.out)
      have HRC:Hid (wc.heap[w.heap.size]?=some (.cells #[.slice none 0 0, .int .i64 0] 32 (0,0))):=hid (by
       rw [HBC3.out.block _ (Array.getElem?_eq_some_iff.1 HRB.out).1];exact HRB.out)
      have HSZC:Hid (W1.heap.size≤wc.heap.size):=hid (Nat.le_trans HSZ.out HBC3.out.size)
      have q0:wc.cell? ⟨w.heap.size+1,0,none⟩=some (.slice fo q.files.length fc):=by simp [World.cell?,hqc]
      have q1:wc.cell? ⟨w.heap.size+1,1,none⟩=some (.int .i64 q.turn):=by simp [World.cell?,hqc]
      have qf:∀o,wc.frozen? ⟨w.heap.size+1,o,none⟩=false:=fun o=>by simp [World.frozen?,hqc]
      clear hqc
      by_cases htn:(c.key.toList==yX6.toList)=true∧c.val.size=4
      · have hq:(c.key.toList== [116,117,114,110])=true:=by rw [←yA9];exact htn.1
        have h4:c.val.size=4:=htn.2
        have h4a:decide (c.val.size=4)=true:=decide_eq_true h4
        have HSQ:Hid (zM3 (yB5 l k) q c=some ⟨q.files,n⟩):=hid (by
         obtain ⟨g1,g2,g3⟩:=HOKX.out
         unfold zM3
         rw [←HN.out,if_neg (by rw [g1,g2];simpa using g3),if_pos htn])
        have hO:Off (fun b=>b=w.heap.size+1) wc (wc.setCell ⟨w.heap.size+1,1,none⟩ (.int .i64 n)):=zA7 (F:=fun b=>b=w.heap.size+1) wc ⟨w.heap.size+1,1,none⟩ rfl _
        have HOF:=hid hO
        clear htn hO
        go_wp2_with fail
        go_roundw
        case rel=>
         refine ⟨k+1,⟨q.files,n⟩, .slice fo q.files.length fc,by omega,by go_num,HST.out _ HSQ.out,zA3 _ _ _ _ HQC.out,HOF.out.owns HOC.out (fun g hg hx=>?_),by have:=HQL.out;show q.files.length≤_;omega,HQO.out,?_,?_,HBC.out.setCell (p:=⟨w.heap.size+1,1,none⟩) (Nat.le_succ _) _⟩
         · have h1:=(HOC.out.lt g hg).1
           have h2:=HZ1.out
           have h3:g=w.heap.size+1:=hx
           omega
         · rw [HOF.out.block _ (Array.getElem?_eq_some_iff.1 HRC.out).1 (by show ¬w.heap.size=w.heap.size+1;omega)]
           exact HRC.out
         · exact Nat.le_trans HSZC.out HOF.out.size
        case measure=>simp [intOf];omega
      · have CP:=hid (Tryz.strings_HasPrefix c.key ⟨#[102]⟩ wc)
        have hsf:Lib.hasPrefix c.key.data.toList (⟨#[102]⟩:ByteArray).data.toList=zZ7 c.key:=by
         unfold zZ7 Lib.hasPrefix
         show [(102:UInt8)].isPrefixOf c.key.data.toList=_
         cases c.key.data.toList with
         | nil=>rfl
         | cons a r=>
          show ((102:UInt8)==a && [].isPrefixOf r)=(some a==some 102)
          rw [List.isPrefixOf_nil_left,Bool.and_true]
          rw [Bool.eq_iff_iff]
          constructor
          · intro h
            have h2:(102:UInt8)=a:=by simpa using h
            rw [←h2];rfl
          · intro h
            have h2:a=102:=by simpa using h
            rw [h2];rfl
        rw [hsf] at CP
        have HNO:Hid (zZ7 c.key=false→zM3 (yB5 l k) q c=none):=hid (fun h=>by
         obtain ⟨g1,g2,g3⟩:=HOKX.out
         unfold zM3
         rw [←HN.out,if_neg (by rw [g1,g2];simpa using g3),if_neg htn,if_neg (by rw [h];decide)])
        have HYES:Hid (zZ7 c.key=true→zM3 (yB5 l k) q c=some ⟨q.files++ [⟨c.key.extract 1 c.key.size,c.val.extract 4 c.val.size,n⟩],q.turn⟩):=hid (fun h=>by
         obtain ⟨g1,g2,g3⟩:=HOKX.out
         unfold zM3
         rw [←HN.out,if_neg (by rw [g1,g2];simpa using g3),if_neg htn,if_pos h])
        have hks:zZ7 c.key=true→1≤c.key.size:=fun h=>by
         unfold zZ7 at h
         have hl:c.key.data.toList.length=c.key.size:=by simp
         cases hd:c.key.data.toList with
         | nil=>rw [hd] at h;cases h
         | cons a r=>rw [hd] at hl;simp only [List.length_cons] at hl;omega
        have hvs:4≤c.val.size:=by
         obtain ⟨_,_,g3⟩:=HOKX.out
         rw [HN.out] at g3
         obtain ⟨_,_,_,h4,_⟩:=uC0 c.val (by omega)
         exact h4
        have HKS:=hid hks
        have HCP:=hid CP
        clear CP hsf hks
        cases hq:(c.key.toList== [116,117,114,110])
        · go_wp2_with fail
          refine HCP.out.mono ?_
          rintro e wP ⟨rfl,hwp⟩
          rw [hwp]
          clear hwp wP
          cases hsF:zZ7 c.key
          · have HSF:=hid hsF
            obtain ⟨hfa,hqa⟩:=HSN.out (HNO.out HSF.out)
            have HFA:=hid (And.intro hfa hqa)
            have hrc:wc.heap[w.heap.size]?=some (.cells #[.slice none 0 0, .int .i64 0] 32 (0,0)):=by
             rw [HBC3.out.block _ (Array.getElem?_eq_some_iff.1 HRB.out).1];exact HRB.out
            have r0:wc.cell? ⟨w.heap.size,0,none⟩=some (.slice none 0 0):=by simp [World.cell?,hrc]
            have r1:wc.cell? ⟨w.heap.size,1,none⟩=some (.int .i64 0):=by simp [World.cell?,hrc]
            have rf:∀o,wc.frozen? ⟨w.heap.size,o,none⟩=false:=fun o=>by simp [World.frozen?,hrc]
            have hend:((wc.setCell ⟨w.heap.size,0,none⟩ (.slice none 0 0)).setCell ⟨w.heap.size,1,none⟩ (.int .i64 0)).heap[w.heap.size]?=some (.cells #[.slice none 0 0, .int .i64 0] 32 (0,0)):=zA3 _ _ _ _ (zA3 _ _ _ _ hrc)
            have e0:((wc.setCell ⟨w.heap.size,0,none⟩ (.slice none 0 0)).setCell ⟨w.heap.size,1,none⟩ (.int .i64 0)).cell? ⟨w.heap.size,0,none⟩=some (.slice none 0 0):=by simp [World.cell?,hend]
            have e1:((wc.setCell ⟨w.heap.size,0,none⟩ (.slice none 0 0)).setCell ⟨w.heap.size,1,none⟩ (.int .i64 0)).cell? ⟨w.heap.size,1,none⟩=some (.int .i64 0):=by simp [World.cell?,hend]
            have HBE:Hid (Below w.heap.size w ((wc.setCell ⟨w.heap.size,0,none⟩ (.slice none 0 0)).setCell ⟨w.heap.size,1,none⟩ (.int .i64 0))):=hid ((HBC.out.setCell (p:=⟨w.heap.size,0,none⟩) (Nat.le_refl _) _).setCell (p:=⟨w.heap.size,1,none⟩) (Nat.le_refl _) _)
            clear hfa hqa hend hrc
            go_wp2_with fail
            refine bodyPost_ret (v:= .tuple #[.agg #[.slice none 0 0, .int .i64 0],zE6 4]) (by simp [results, Tryz.results59,go_sem,zA5,e0,e1]) rfl ?_
            exact ⟨_,by rw [HFA.out.1],by rw [HFA.out.2];exact OwnQ.none _ _,HBE.out⟩
          · have HSQ:=hid (HYES.out hsF)
            have hks1:1≤c.key.size:=HKS.out hsF
            have hks2:(1:Int)≤(c.key.size:Int):=by omega
            have hvs2:(4:Int)≤(c.val.size:Int):=by omega
            clear hsF
            obtain ⟨fl,hfl⟩:∃fl:File,fl=⟨c.key.extract 1 c.key.size,c.val.extract 4 c.val.size,n⟩:=⟨_,rfl⟩
            have HFL:=hid hfl
            have hql2:q.files.length≤1000:=by have:=HQL.out;omega
            have HQ9:Hid (∀W w2:World,(∃o,W.heap=(wc.alloc o).heap)→W.grownBy w2 (Value.slice fo q.files.length fc).ownBlock→w2.heap[w.heap.size+1]?=some (.cells #[.slice fo q.files.length fc, .int .i64 q.turn] 32 (0,0))∧w2.heap[w.heap.size]?=some (.cells #[.slice none 0 0, .int .i64 0] 32 (0,0))):=hid (fun W w2 ⟨o,hw⟩ hg=>by
             have hl1:=(Array.getElem?_eq_some_iff.1 HQC.out).1
             have hl2:=(Array.getElem?_eq_some_iff.1 HRC.out).1
             have hz:=HZ1.out
             refine ⟨?_,?_⟩
             · rw [hg.block _ (by rw [hw];simp;omega) (fun e=>by have:=(HOC.out.lt _ e.symm).1;omega),hw,(zA0 wc o).block _ hl1]
               exact HQC.out
             · rw [hg.block _ (by rw [hw];simp;omega) (fun e=>by have:=(HOC.out.lt _ e.symm).1;omega),hw,(zA0 wc o).block _ hl2]
               exact HRC.out)
            have hq1:∀o,(wc.alloc o).cell? ⟨w.heap.size+1,0,none⟩=some (.slice fo q.files.length fc):=fun o=>zA1 (zA0 wc o) q0
            clear hfl
            go_wp2_with fail
            go_region_law (first
             | (refine yG0 _ rfl (.tmp 61) (.tmp 70) 30 rfl W1.heap.size 102 3 40 zN5 (.slice fo q.files.length fc) q.files.length _ (by simp [Act.eval,Act.put]) (HOC.out.alloc _) ⟨wc.heap.size,0,none⟩ 1 1 [.string (c.key.extract 1 c.key.size), .string (c.val.extract 4 c.val.size), .int .i64 n] (by simp [Act.eval,Act.put]) rfl zK5 (by simp [Value.oneCell']) (by omega) (by have:=HSZC.out;simp;omega) ?_;intro v2 w2 ho2 hg2;obtain ⟨ao2,ac2,hv2,_,_⟩:=zI9 ho2;subst hv2;have HO2:=hid ho2;have HG2:=hid hg2;have H9:=hid (HQ9.out _ _ (by exact ⟨_,rfl⟩) hg2);have q9:w2.cell? ⟨w.heap.size+1,0,none⟩=some (.slice fo q.files.length fc):=(by simp [World.cell?,H9.out.1]);have qf9:∀o,w2.frozen? ⟨w.heap.size+1,o,none⟩=false:=(fun o=>by simp [World.frozen?,H9.out.1]);have HB9:Hid (Below w.heap.size w w2):=hid (belowI hg2 (by first | exact two HBC.out (zA0 _ _) | exact (two HBC.out (zA0 _ _)).drew | exact two HBC.out.drew (zA0 _ _)) (by exact HOC.out.alloc _) HB1.out.size);have HS9:Hid (W1.heap.size≤w2.heap.size):=hid (Nat.le_trans (Nat.le_trans HSZC.out (by first | exact Nat.le_refl _ | (simp;done) | (simp;omega))) hg2.size);clear ho2 hg2))
            all_goals
             go_wp2_with fail
             go_roundw
             case rel=>
              have hO:Off (fun b=>b=w.heap.size+1) w2 (w2.setCell ⟨w.heap.size+1,0,none⟩ (.slice ao2 (q.files.length+1) ac2)):=zA7 (F:=fun b=>b=w.heap.size+1) w2 ⟨w.heap.size+1,0,none⟩ rfl _
              have e1:(q.files++ [fl]).length=q.files.length+1:=by simp
              have e2:(q.files++ [fl]).flatMap File.cells=q.files.flatMap File.cells++ [.string (c.key.extract 1 c.key.size), .string (c.val.extract 4 c.val.size), .int .i64 n]:=by
               rw [List.flatMap_append,HFL.out];rfl
              refine ⟨k+1,⟨q.files++ [fl],q.turn⟩, .slice ao2 (q.files.length+1) ac2,by omega,by go_num,HST.out _ (by rw [HSQ.out,HFL.out]),zA3 _ _ _ _ H9.out.1,?_,by have:=HQL.out;show (q.files++ [fl]).length≤_;omega,?_,?_,Nat.le_trans HS9.out hO.size,HB9.out.setCell (p:=⟨w.heap.size+1,0,none⟩) (Nat.le_succ _) _⟩
              · show World.ownsRow _ _ _ _ _ (q.files++ [fl]).length ((q.files++ [fl]).flatMap File.cells)
                rw [e1,e2]
                exact hO.owns HO2.out (fun g hg hx=>by
                 have h1:=(HO2.out.lt g hg).1
                 have h2:=HZ1.out
                 have h3:g=w.heap.size+1:=hx
                 omega)
              · intro f hf
                rcases List.mem_append.1 hf with hf | hf
                · exact HQO.out f hf
                · rw [List.mem_singleton.1 hf,HFL.out]
                  have hml:maxLen=9223372036854775807:=rfl
                  exact ⟨by show (c.key.extract 1 c.key.size).size≤maxLen;rw [ByteArray.size_extract];omega,by show (c.val.extract 4 c.val.size).size≤maxLen;rw [ByteArray.size_extract];omega⟩
              · rw [hO.block _ (Array.getElem?_eq_some_iff.1 H9.out.2).1 (by show ¬w.heap.size=w.heap.size+1;omega)]
                exact H9.out.2
             case measure=>simp [intOf];omega
        · have h4:¬c.val.size=4:=fun h=>htn ⟨by rw [yA9];exact hq,h⟩
          have h4a:decide (c.val.size=4)=false:=decide_eq_false h4
          go_wp2_with fail
          refine HCP.out.mono ?_
          rintro e wP ⟨rfl,hwp⟩
          rw [hwp]
          clear hwp wP
          cases hsF:zZ7 c.key
          · have HSF:=hid hsF
            obtain ⟨hfa,hqa⟩:=HSN.out (HNO.out HSF.out)
            have HFA:=hid (And.intro hfa hqa)
            have hrc:wc.heap[w.heap.size]?=some (.cells #[.slice none 0 0, .int .i64 0] 32 (0,0)):=by
             rw [HBC3.out.block _ (Array.getElem?_eq_some_iff.1 HRB.out).1];exact HRB.out
            have r0:wc.cell? ⟨w.heap.size,0,none⟩=some (.slice none 0 0):=by simp [World.cell?,hrc]
            have r1:wc.cell? ⟨w.heap.size,1,none⟩=some (.int .i64 0):=by simp [World.cell?,hrc]
            have rf:∀o,wc.frozen? ⟨w.heap.size,o,none⟩=false:=fun o=>by simp [World.frozen?,hrc]
            have hend:((wc.setCell ⟨w.heap.size,0,none⟩ (.slice none 0 0)).setCell ⟨w.heap.size,1,none⟩ (.int .i64 0)).heap[w.heap.size]?=some (.cells #[.slice none 0 0, .int .i64 0] 32 (0,0)):=zA3 _ _ _ _ (zA3 _ _ _ _ hrc)
            have e0:((wc.setCell ⟨w.heap.size,0,none⟩ (.slice none 0 0)).setCell ⟨w.heap.size,1,none⟩ (.int .i64 0)).cell? ⟨w.heap.size,0,none⟩=some (.slice none 0 0):=by simp [World.cell?,hend]
            have e1:((wc.setCell ⟨w.heap.size,0,none⟩ (.slice none 0 0)).setCell ⟨w.heap.size,1,none⟩ (.int .i64 0)).cell? ⟨w.heap.size,1,none⟩=some (.int .i64 0):=by simp [World.cell?,hend]
            have HBE:Hid (Below w.heap.size w ((wc.setCell ⟨w.heap.size,0,none⟩ (.slice none 0 0)).setCell ⟨w.heap.size,1,none⟩ (.int .i64 0))):=hid ((HBC.out.setCell (p:=⟨w.heap.size,0,none⟩) (Nat.le_refl _) _).setCell (p:=⟨w.heap.size,1,none⟩) (Nat.le_refl _) _)
            clear hfa hqa hend hrc
            go_wp2_with fail
            refine bodyPost_ret (v:= .tuple #[.agg #[.slice none 0 0, .int .i64 0],zE6 4]) (by simp [results, Tryz.results59,go_sem,zA5,e0,e1]) rfl ?_
            exact ⟨_,by rw [HFA.out.1],by rw [HFA.out.2];exact OwnQ.none _ _,HBE.out⟩
          · have HSQ:=hid (HYES.out hsF)
            have hks1:1≤c.key.size:=HKS.out hsF
            have hks2:(1:Int)≤(c.key.size:Int):=by omega
            have hvs2:(4:Int)≤(c.val.size:Int):=by omega
            clear hsF
            obtain ⟨fl,hfl⟩:∃fl:File,fl=⟨c.key.extract 1 c.key.size,c.val.extract 4 c.val.size,n⟩:=⟨_,rfl⟩
            have HFL:=hid hfl
            have hql2:q.files.length≤1000:=by have:=HQL.out;omega
            have HQ9:Hid (∀W w2:World,(∃o,W.heap=(wc.alloc o).heap)→W.grownBy w2 (Value.slice fo q.files.length fc).ownBlock→w2.heap[w.heap.size+1]?=some (.cells #[.slice fo q.files.length fc, .int .i64 q.turn] 32 (0,0))∧w2.heap[w.heap.size]?=some (.cells #[.slice none 0 0, .int .i64 0] 32 (0,0))):=hid (fun W w2 ⟨o,hw⟩ hg=>by
             have hl1:=(Array.getElem?_eq_some_iff.1 HQC.out).1
             have hl2:=(Array.getElem?_eq_some_iff.1 HRC.out).1
             have hz:=HZ1.out
             refine ⟨?_,?_⟩
             · rw [hg.block _ (by rw [hw];simp;omega) (fun e=>by have:=(HOC.out.lt _ e.symm).1;omega),hw,(zA0 wc o).block _ hl1]
               exact HQC.out
             · rw [hg.block _ (by rw [hw];simp;omega) (fun e=>by have:=(HOC.out.lt _ e.symm).1;omega),hw,(zA0 wc o).block _ hl2]
               exact HRC.out)
            have hq1:∀o,(wc.alloc o).cell? ⟨w.heap.size+1,0,none⟩=some (.slice fo q.files.length fc):=fun o=>zA1 (zA0 wc o) q0
            clear hfl
            go_wp2_with fail
            go_region_law (first
             | (refine yG0 _ rfl (.tmp 61) (.tmp 70) 30 rfl W1.heap.size 102 3 40 zN5 (.slice fo q.files.length fc) q.files.length _ (by simp [Act.eval,Act.put]) (HOC.out.alloc _) ⟨wc.heap.size,0,none⟩ 1 1 [.string (c.key.extract 1 c.key.size), .string (c.val.extract 4 c.val.size), .int .i64 n] (by simp [Act.eval,Act.put]) rfl zK5 (by simp [Value.oneCell']) (by omega) (by have:=HSZC.out;simp;omega) ?_;intro v2 w2 ho2 hg2;obtain ⟨ao2,ac2,hv2,_,_⟩:=zI9 ho2;subst hv2;have HO2:=hid ho2;have HG2:=hid hg2;have H9:=hid (HQ9.out _ _ (by exact ⟨_,rfl⟩) hg2);have q9:w2.cell? ⟨w.heap.size+1,0,none⟩=some (.slice fo q.files.length fc):=(by simp [World.cell?,H9.out.1]);have qf9:∀o,w2.frozen? ⟨w.heap.size+1,o,none⟩=false:=(fun o=>by simp [World.frozen?,H9.out.1]);have HB9:Hid (Below w.heap.size w w2):=hid (belowI hg2 (by first | exact two HBC.out (zA0 _ _) | exact (two HBC.out (zA0 _ _)).drew | exact two HBC.out.drew (zA0 _ _)) (by exact HOC.out.alloc _) HB1.out.size);have HS9:Hid (W1.heap.size≤w2.heap.size):=hid (Nat.le_trans (Nat.le_trans HSZC.out (by first | exact Nat.le_refl _ | (simp;done) | (simp;omega))) hg2.size);clear ho2 hg2))
            all_goals
             go_wp2_with fail
             go_roundw
             case rel=>
              have hO:Off (fun b=>b=w.heap.size+1) w2 (w2.setCell ⟨w.heap.size+1,0,none⟩ (.slice ao2 (q.files.length+1) ac2)):=zA7 (F:=fun b=>b=w.heap.size+1) w2 ⟨w.heap.size+1,0,none⟩ rfl _
              have e1:(q.files++ [fl]).length=q.files.length+1:=by simp
              have e2:(q.files++ [fl]).flatMap File.cells=q.files.flatMap File.cells++ [.string (c.key.extract 1 c.key.size), .string (c.val.extract 4 c.val.size), .int .i64 n]:=by
               rw [List.flatMap_append,HFL.out];rfl
              refine ⟨k+1,⟨q.files++ [fl],q.turn⟩, .slice ao2 (q.files.length+1) ac2,by omega,by go_num,HST.out _ (by rw [HSQ.out,HFL.out]),zA3 _ _ _ _ H9.out.1,?_,by have:=HQL.out;show (q.files++ [fl]).length≤_;omega,?_,?_,Nat.le_trans HS9.out hO.size,HB9.out.setCell (p:=⟨w.heap.size+1,0,none⟩) (Nat.le_succ _) _⟩
              · show World.ownsRow _ _ _ _ _ (q.files++ [fl]).length ((q.files++ [fl]).flatMap File.cells)
                rw [e1,e2]
                exact hO.owns HO2.out (fun g hg hx=>by
                 have h1:=(HO2.out.lt g hg).1
                 have h2:=HZ1.out
                 have h3:g=w.heap.size+1:=hx
                 omega)
              · intro f hf
                rcases List.mem_append.1 hf with hf | hf
                · exact HQO.out f hf
                · rw [List.mem_singleton.1 hf,HFL.out]
                  have hml:maxLen=9223372036854775807:=rfl
                  exact ⟨by show (c.key.extract 1 c.key.size).size≤maxLen;rw [ByteArray.size_extract];omega,by show (c.val.extract 4 c.val.size).size≤maxLen;rw [ByteArray.size_extract];omega⟩
              · rw [hO.block _ (Array.getElem?_eq_some_iff.1 H9.out.2).1 (by show ¬w.heap.size=w.heap.size+1;omega)]
                exact H9.out.2
             case measure=>simp [intOf];omega
    · have hx:=HX.out
      obtain ⟨hfa,hqa⟩:=HSN.out (by unfold zM3;rw [if_pos];rw [←HN.out];revert hx;cases leP (yB5 l k) c.key <;> cases c.gone <;> simp)
      have HFA:=hid (And.intro hfa hqa)
      have hrc:wc.heap[w.heap.size]?=some (.cells #[.slice none 0 0, .int .i64 0] 32 (0,0)):=by
       rw [HBC3.out.block _ (Array.getElem?_eq_some_iff.1 HRB.out).1];exact HRB.out
      have r0:wc.cell? ⟨w.heap.size,0,none⟩=some (.slice none 0 0):=by simp [World.cell?,hrc]
      have r1:wc.cell? ⟨w.heap.size,1,none⟩=some (.int .i64 0):=by simp [World.cell?,hrc]
      have rf:∀o,wc.frozen? ⟨w.heap.size,o,none⟩=false:=fun o=>by simp [World.frozen?,hrc]
      have hend:((wc.setCell ⟨w.heap.size,0,none⟩ (.slice none 0 0)).setCell ⟨w.heap.size,1,none⟩ (.int .i64 0)).heap[w.heap.size]?=some (.cells #[.slice none 0 0, .int .i64 0] 32 (0,0)):=zA3 _ _ _ _ (zA3 _ _ _ _ hrc)
      have e0:((wc.setCell ⟨w.heap.size,0,none⟩ (.slice none 0 0)).setCell ⟨w.heap.size,1,none⟩ (.int .i64 0)).cell? ⟨w.heap.size,0,none⟩=some (.slice none 0 0):=by simp [World.cell?,hend]
      have e1:((wc.setCell ⟨w.heap.size,0,none⟩ (.slice none 0 0)).setCell ⟨w.heap.size,1,none⟩ (.int .i64 0)).cell? ⟨w.heap.size,1,none⟩=some (.int .i64 0):=by simp [World.cell?,hend]
      have HBE:Hid (Below w.heap.size w ((wc.setCell ⟨w.heap.size,0,none⟩ (.slice none 0 0)).setCell ⟨w.heap.size,1,none⟩ (.int .i64 0))):=hid ((HBC.out.setCell (p:=⟨w.heap.size,0,none⟩) (Nat.le_refl _) _).setCell (p:=⟨w.heap.size,1,none⟩) (Nat.le_refl _) _)
      clear hfa hqa hend hrc hx
      go_wp2_with fail
      refine bodyPost_ret (v:= .tuple #[.agg #[.slice none 0 0, .int .i64 0],zE6 4]) (by simp [results, Tryz.results59,go_sem,zA5,e0,e1]) rfl ?_
      exact ⟨_,by rw [HFA.out.1],by rw [HFA.out.2];exact OwnQ.none _ _,HBE.out⟩
  · obtain rfl:k=l.length:=by omega
    have hfq:zX5 none zD6 l=some q:=by
     have:=HFD.out
     rw [List.drop_length] at this
     exact this.symm
    have HFQ:=hid hfq
    have q0:wr.cell? ⟨w.heap.size+1,0,none⟩=some (.slice fo q.files.length fc):=by simp [World.cell?,HQB.out]
    have q1:wr.cell? ⟨w.heap.size+1,1,none⟩=some (.int .i64 q.turn):=by simp [World.cell?,HQB.out]
    have CK:=hid (vD4 (.agg #[.slice fo q.files.length fc, .int .i64 q.turn]) q wr ⟨_,rfl,SL.of_own HO.out⟩ HQO.out)
    clear hfq
    go_wp2_with fail
    refine CK.out.mono ?_
    rintro e wK ⟨rfl,hbk⟩
    have HBK:=hid (two HBW.out hbk)
    have HQK:Hid (wK.heap[w.heap.size+1]?=some (.cells #[.slice fo q.files.length fc, .int .i64 q.turn] 32 (0,0))):=hid (by
     rw [hbk.block _ (Array.getElem?_eq_some_iff.1 HQB.out).1];exact HQB.out)
    have HRK:Hid (wK.heap[w.heap.size]?=some (.cells #[.slice none 0 0, .int .i64 0] 32 (0,0))):=hid (by
     rw [hbk.block _ (Array.getElem?_eq_some_iff.1 HRB.out).1];exact HRB.out)
    have HOK2:=hid (zE2 HO.out hbk)
    clear hbk q0 q1
    by_cases hqf:zB2 q=0
    · obtain ⟨hfa,hqa⟩:=vR2 HFQ.out hqf
      have HFA:=hid (And.intro hfa hqa)
      have q0:wK.cell? ⟨w.heap.size+1,0,none⟩=some (.slice fo q.files.length fc):=by simp [World.cell?,HQK.out]
      have q1:wK.cell? ⟨w.heap.size+1,1,none⟩=some (.int .i64 q.turn):=by simp [World.cell?,HQK.out]
      have r0:wK.cell? ⟨w.heap.size,0,none⟩=some (.slice none 0 0):=by simp [World.cell?,HRK.out]
      have r1:wK.cell? ⟨w.heap.size,1,none⟩=some (.int .i64 0):=by simp [World.cell?,HRK.out]
      have rf:∀o,wK.frozen? ⟨w.heap.size,o,none⟩=false:=fun o=>by simp [World.frozen?,HRK.out]
      have hend:((wK.setCell ⟨w.heap.size,0,none⟩ (.slice fo q.files.length fc)).setCell ⟨w.heap.size,1,none⟩ (.int .i64 q.turn)).heap[w.heap.size]?=some (.cells #[.slice fo q.files.length fc, .int .i64 q.turn] 32 (0,0)):=zA3 _ _ _ _ (zA3 _ _ _ _ HRK.out)
      have e0:((wK.setCell ⟨w.heap.size,0,none⟩ (.slice fo q.files.length fc)).setCell ⟨w.heap.size,1,none⟩ (.int .i64 q.turn)).cell? ⟨w.heap.size,0,none⟩=some (.slice fo q.files.length fc):=by simp [World.cell?,hend]
      have e1:((wK.setCell ⟨w.heap.size,0,none⟩ (.slice fo q.files.length fc)).setCell ⟨w.heap.size,1,none⟩ (.int .i64 q.turn)).cell? ⟨w.heap.size,1,none⟩=some (.int .i64 q.turn):=by simp [World.cell?,hend]
      have HBE:Hid (Below w.heap.size w ((wK.setCell ⟨w.heap.size,0,none⟩ (.slice fo q.files.length fc)).setCell ⟨w.heap.size,1,none⟩ (.int .i64 q.turn))):=hid ((HBK.out.setCell (p:=⟨w.heap.size,0,none⟩) (Nat.le_refl _) _).setCell (p:=⟨w.heap.size,1,none⟩) (Nat.le_refl _) _)
      have HOE:Hid (((wK.setCell ⟨w.heap.size,0,none⟩ (.slice fo q.files.length fc)).setCell ⟨w.heap.size,1,none⟩ (.int .i64 q.turn)).ownsRow w.heap.size 102 3 (.slice fo q.files.length fc) q.files.length (q.files.flatMap File.cells)):=hid (xD1 (((zA7 (F:=fun b=>b=w.heap.size) wK ⟨w.heap.size,0,none⟩ rfl _).trans (zA7 (F:=fun b=>b=w.heap.size) _ ⟨w.heap.size,1,none⟩ rfl _) (fun _ _ h=>h)).owns HOK2.out (fun g hg hx=>by
       have h1:=(HOK2.out.lt g hg).1
       have h2:=HZ1.out
       have h3:g=w.heap.size:=hx
       omega)) HB1.out.size)
      rw [show zE6 (zB2 q)= .nilIface by rw [hqf];rfl]
      clear hfa hqa hend hqf
      go_wp2_with fail
      refine bodyPost_ret (v:= .tuple #[.agg #[.slice fo q.files.length fc, .int .i64 q.turn], .nilIface]) (by simp [results, Tryz.results59,go_sem,e0,e1]) rfl ?_
      exact ⟨_,by rw [HFA.out.1];rfl,by rw [HFA.out.2];exact ⟨_,rfl,HOE.out⟩,HBE.out⟩
    · have HQF:=hid hqf
      rw [zA5 hqf]
      clear hqf
      obtain ⟨hfa,hqa⟩:=uA9 HFQ.out HQF.out
      have HFA:=hid (And.intro hfa hqa)
      have hrc:=HRK.out
      have r0:wK.cell? ⟨w.heap.size,0,none⟩=some (.slice none 0 0):=by simp [World.cell?,hrc]
      have r1:wK.cell? ⟨w.heap.size,1,none⟩=some (.int .i64 0):=by simp [World.cell?,hrc]
      have rf:∀o,wK.frozen? ⟨w.heap.size,o,none⟩=false:=fun o=>by simp [World.frozen?,hrc]
      have hend:((wK.setCell ⟨w.heap.size,0,none⟩ (.slice none 0 0)).setCell ⟨w.heap.size,1,none⟩ (.int .i64 0)).heap[w.heap.size]?=some (.cells #[.slice none 0 0, .int .i64 0] 32 (0,0)):=zA3 _ _ _ _ (zA3 _ _ _ _ hrc)
      have e0:((wK.setCell ⟨w.heap.size,0,none⟩ (.slice none 0 0)).setCell ⟨w.heap.size,1,none⟩ (.int .i64 0)).cell? ⟨w.heap.size,0,none⟩=some (.slice none 0 0):=by simp [World.cell?,hend]
      have e1:((wK.setCell ⟨w.heap.size,0,none⟩ (.slice none 0 0)).setCell ⟨w.heap.size,1,none⟩ (.int .i64 0)).cell? ⟨w.heap.size,1,none⟩=some (.int .i64 0):=by simp [World.cell?,hend]
      have HBE:Hid (Below w.heap.size w ((wK.setCell ⟨w.heap.size,0,none⟩ (.slice none 0 0)).setCell ⟨w.heap.size,1,none⟩ (.int .i64 0))):=hid ((HBK.out.setCell (p:=⟨w.heap.size,0,none⟩) (Nat.le_refl _) _).setCell (p:=⟨w.heap.size,1,none⟩) (Nat.le_refl _) _)
      clear hfa hqa hend hrc
      go_wp2_with fail
      refine bodyPost_ret (v:= .tuple #[.agg #[.slice none 0 0, .int .i64 0],zE6 4]) (by simp [results, Tryz.results59,go_sem,zA5,e0,e1]) rfl ?_
      exact ⟨_,by rw [HFA.out.1],by rw [HFA.out.2];exact OwnQ.none _ _,HBE.out⟩
end Go.Proofs.YtggpodlecljcbabGreatDoor
