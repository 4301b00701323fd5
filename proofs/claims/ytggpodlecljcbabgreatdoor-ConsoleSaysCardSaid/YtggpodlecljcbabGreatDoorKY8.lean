/- The walk of (*log.Log).Add, Room, Next. -/
import Derived.Test.YtggpodlecljcbabGreatDoorKY7
namespace Go.Proofs.YtggpodlecljcbabGreatDoor
set_option linter.unusedSimpArgs false
set_option linter.unusedVariables false
set_option maxRecDepth 100000
set_option maxHeartbeats 64000000
open Lib (hid)
open Go.RowKit Go.Sort
theorem vL0 (lb:Nat)(L:Dk)(fr many first next:Nat)(w:World)(hl:LogAt w lb L fr many first next)(hn:next≤many)(hm:many≤1000):
 Calls Tryz.prog 96 #[.pointer (some ⟨lb,0,none⟩)] w fun e w' =>e= .returned (.int .i64 ((many:Int) - next))∧Below w.heap.size w w' :=by
 have l2:=zA4 hl.c2
 have l4:=zA4 hl.c4
 have h1:(0:Int)≤(many:Int) - next:=by omega
 have h2:(many:Int) - next≤1000:=by omega
 go_enter Tryz.func96, Tryz.ntmps96
 go_wp2_with fail
 refine zA6 (by kernel_rfl) (by kernel_rfl) ?_
 repeat (go_big_quiet_step (fail))
 refine wpQuiet_nil ?_
 intro w1 hb1
 have HB1:=hid hb1
 clear hb1 l2 l4 hl
 go_wp2_with fail
 go_ret
 exact ⟨rfl,HB1.out⟩
theorem uO1 (lb:Nat)(L:Dk)(fr many first next:Nat)(w:World)(hl:LogAt w lb L fr many first next)(hn:first≤2000000000)(hm:many≤1000):
 Calls Tryz.prog 137 #[.pointer (some ⟨lb,0,none⟩)] w fun e w' =>e= .returned (.int .i64 ((first:Int)+many))∧Below w.heap.size w w' :=by
 have l2:=zA4 hl.c2
 have l3:=zA4 hl.c3
 have h2:first+many≤2000001000:=by omega
 go_enter Tryz.func137, Tryz.ntmps137
 go_wp2_with fail
 refine zA6 (by kernel_rfl) (by kernel_rfl) ?_
 repeat (go_big_quiet_step (fail))
 refine wpQuiet_nil ?_
 intro w1 hb1
 have HB1:=hid hb1
 clear hb1 l2 l3 hl
 go_wp2_with fail
 go_ret
 exact ⟨rfl,HB1.out⟩
theorem xB2 (p:DiskS × Nat)(f g:DiskS→DiskS × Nat):zE8 (zE8 p f) g=zE8 p (fun D=>zE8 (f D) g):=by
 by_cases h:p.2=0
 · rw [zD7 h,zD7 h]
 · rw [zE0 h,zE0 h,zE0 h]
def vO8 (fr many first next:Nat)(c:List Change)(k:Nat)(D:DiskS):DiskS × Nat:=
 if k=0 then xI8 fr many first next c D else if k=2 then xD7 fr first next c.length D else zC5 D
def uM3 (fr many first next:Nat)(c:List Change)(k:Nat)(D:DiskS):DiskS × Nat:=
 if k=0 then xB8 fr many first next c D else if k=1 then zE8 (zC5 D) (fun D=>zE8 (xD7 fr first next c.length D) zC5) else if k=2 then zE8 (xD7 fr first next c.length D) zC5 else if k=3 then zC5 D else (D,0)
theorem vN8 (p:DiskS × Nat):zE8 p (fun D=>(D,0))=p:=by
 unfold zE8
 split
 · rfl
 · rename_i h;obtain ⟨a,b⟩:=p;simp at h;subst h;rfl
theorem vQ1 (fr many first next:Nat)(c:List Change)(k:Nat)(hk:k<4)(D:DiskS):uM3 fr many first next c k D=zE8 (vO8 fr many first next c k D) (uM3 fr many first next c (k+1)):=by
 match k,hk with
 | 0,_=>show xB8 fr many first next c D=zE8 (xI8 fr many first next c D) _;unfold xB8;rw [xB2,xB2];rfl
 | 1,_=>rfl
 | 2,_=>rfl
 | 3,_=>show zC5 D=zE8 (zC5 D) (fun D=>(D,0));rw [vN8]
theorem uK2 (fr many first next:Nat)(c:List Change)(k:Nat){D:DiskS}(h:D.ok):(vO8 fr many first next c k D).1.ok:=by
 unfold vO8
 split
 · exact xP2 zU4 _ _ _ _ _ _ h
 · split
   · exact h.write _ _
   · exact h.flush
theorem vO7 (fr many first next:Nat)(c:List Change)(k:Nat)(D:DiskS):(vO8 fr many first next c k D).1.wait.length≤D.wait.length+(c.length+1):=by
 unfold vO8
 split
 · have:=uJ3 fr many first next c D;omega
 · split
   · have:=zO6 D ((fr+(next+c.length):Nat):Int) (zL2 99 (first+(next+c.length)) (zH0 c.length));unfold xD7;omega
   · have:=yU0 D;omega
theorem uO3 (pl pc lb:Nat)(vc:Value)(w:World)(Q:Ending→World→Prop)(h0:w.cell? ⟨pl,0,none⟩=some (.pointer (some ⟨lb,0,none⟩)))(h1:w.cell? ⟨pc,0,none⟩=some vc)
 (C:Calls Tryz.prog 140 #[.pointer (some ⟨lb,0,none⟩),vc] w fun e w' =>(∃v,e= .returned v)∧Q e w'):
 Calls Tryz.prog 139 #[.pointer (some ⟨pl,0,none⟩), .pointer (some ⟨pc,0,none⟩)] w Q:=by
 replace C:=hid C
 go_enter Tryz.func139, Tryz.ntmps139
 go_wp2_with fail
 refine C.out.mono ?_
 rintro e w1 ⟨⟨v,rfl⟩,hq⟩
 have HQ:=hid hq
 clear hq
 go_wp2_with fail
 exact HQ.out
theorem uO2 (pl pe pc lb:Nat)(L:Dk)(D:DiskS)(fr many first next:Nat)(co:Option Addr)(cc n:Nat)(w:World)(hl:LogAt w lb L fr many first next)(h:DiskAt w L D)(hok:D.ok)(hlf:¬L.foot lb)(hpl:¬L.foot pl)(hpe:¬L.foot pe)(hpc:¬L.foot pc)(hwl:D.wait.length≤1000000)(hnl:n≤14)(hfm:fr+many≤60)(hn:next≤many)(hf:first≤1000000)
 (h0:w.cell? ⟨pl,0,none⟩=some (.pointer (some ⟨lb,0,none⟩))) (h1:w.cell? ⟨pe,0,none⟩=some (.int .i64 ((next:Int)+n))) (h2:w.cell? ⟨pc,0,none⟩=some (.slice co n cc)):
 Calls Tryz.prog 141 #[.pointer (some ⟨pl,0,none⟩), .pointer (some ⟨pe,0,none⟩), .pointer (some ⟨pc,0,none⟩)] w fun e w' =>e= .returned (zE6 (xD7 fr first next n D).2)∧Turned 72 75 w L (xD7 fr first next n D).1 w' :=by
 have CF:Hid (∀W,Calls Tryz.prog 131 #[.int .i64 n] W fun e w' =>e= .returned (.string (zH0 n))∧Below W.heap.size W w'):=hid fun W=>yZ2 n W (by omega)
 have CT:Hid (∀W,Calls Tryz.prog 142 #[.int .u8 99, .int .i64 ((first:Int)+(next+n)), .string (zH0 n)] W fun e w' =>e= .returned (.string (zL2 99 (first+(next+n)) (zH0 n)))∧Below W.heap.size W w'):=hid fun W=>by
  have:=vK9 99 (first+(next+n)) (zH0 n) W (by omega) (by rw [zO9];omega)
  simpa using this
 obtain ⟨⟨D2,n2⟩,hp⟩:∃p,p=xD7 fr first next n D:=⟨_,rfl⟩
 have CW:Hid (∀W,Below w.heap.size w W→Calls Tryz.prog 8 #[.pointer (some ⟨L.b,0,none⟩), .int .i64 ((fr:Int)+(next+n)), .string (zL2 99 (first+(next+n)) (zH0 n))] W fun e w' =>e= .returned (zE6 n2)∧Turned 72 75 W L D2 w'):=hid fun W hW=>by
  have:=zN1 L D ((fr+(next+n):Nat):Int) (zL2 99 (first+(next+n)) (zH0 n)) W (h.below hW) hok hwl
  rw [show zB9 D ((fr+(next+n):Nat):Int) (zL2 99 (first+(next+n)) (zH0 n))=(D2,n2) from hp.symm] at this
  simpa using this
 obtain ⟨t,ht⟩:∃t,t=zL2 99 (first+(next+n)) (zH0 n):=⟨_,rfl⟩
 rw [←ht] at CT CW
 obtain ⟨f,hf4⟩:∃t,t=zH0 n:=⟨_,rfl⟩
 rw [←hf4] at CT CF
 rw [←hp]
 have HLW:Hid (∀W,Below w.heap.size w W→LogAt W lb L fr many first next):=hid fun W hW=>hl.below hW
 have HC3:Hid (∀W,Below w.heap.size w W→W.cell? ⟨pl,0,none⟩=some (.pointer (some ⟨lb,0,none⟩))∧W.cell? ⟨pe,0,none⟩=some (.int .i64 ((next:Int)+n))∧W.cell? ⟨pc,0,none⟩=some (.slice co n cc)):=hid fun W hW=>⟨zA1 hW h0,zA1 hW h1,zA1 hW h2⟩
 have HLF:=hid hlf
 have HPL:=hid hpl
 have HPE:=hid hpe
 have HPC:=hid hpc
 have hk60:fr+(next+n)≤200:=by omega
 have hk61:first+(next+n)≤2000000:=by omega
 have hwr1:=zU9 ((first:Int)+((next:Int)+n)) (by omega) (by omega)
 have hwr3:=zU9 ((fr:Int)+((next:Int)+n)) (by omega) (by omega)
 have HBD:Hid (Below w.heap.size w w.drew):=hid (Below.refl _ _).drew
 obtain ⟨S,hS⟩:∃S:World→Prop,S=fun W=>W.cell? ⟨pl,0,none⟩=some (.pointer (some ⟨lb,0,none⟩))∧W.cell? ⟨pe,0,none⟩=some (.int .i64 ((next:Int)+n))∧W.cell? ⟨pc,0,none⟩=some (.slice co n cc)∧W.cell? ⟨lb,0,none⟩=some (.pointer (some ⟨L.b,0,none⟩))∧W.cell? ⟨lb,1,none⟩=some (.int .i64 fr)∧W.cell? ⟨lb,3,none⟩=some (.int .i64 first):=⟨_,rfl⟩
 have HSB:Hid (∀W,Below w.heap.size w W→W.cell? ⟨pl,0,none⟩=some (.pointer (some ⟨lb,0,none⟩))∧W.cell? ⟨pe,0,none⟩=some (.int .i64 ((next:Int)+n))∧W.cell? ⟨pc,0,none⟩=some (.slice co n cc)∧W.cell? ⟨lb,0,none⟩=some (.pointer (some ⟨L.b,0,none⟩))∧W.cell? ⟨lb,1,none⟩=some (.int .i64 fr)∧W.cell? ⟨lb,3,none⟩=some (.int .i64 first)):=hid fun W hW=>by
  obtain ⟨a,b,c⟩:=HC3.out W hW
  have hq:=HLW.out W hW
  exact ⟨a,b,c,hq.c0,hq.c1,hq.c3⟩
 have HSO:Hid (∀W W',Below w.heap.size w W→Off L.foot W W' →W'.cell? ⟨pl,0,none⟩=some (.pointer (some ⟨lb,0,none⟩))∧W'.cell? ⟨pe,0,none⟩=some (.int .i64 ((next:Int)+n))∧W'.cell? ⟨pc,0,none⟩=some (.slice co n cc)∧W'.cell? ⟨lb,0,none⟩=some (.pointer (some ⟨L.b,0,none⟩))∧W'.cell? ⟨lb,1,none⟩=some (.int .i64 fr)∧W'.cell? ⟨lb,3,none⟩=some (.int .i64 first)):=hid fun W W' hW hO=>by
  obtain ⟨a,b,c,d,e,f⟩:=HSB.out W hW
  exact ⟨hO.cell a HPL.out,hO.cell b HPE.out,hO.cell c HPC.out,hO.cell d HLF.out,hO.cell e HLF.out,hO.cell f HLF.out⟩
 have HD:=hid h
 clear hS S ht hf4 hp hl h hok hlf hpl hpe hpc hwl hfm hn hf h0 h1 h2
 go_enter Tryz.func141, Tryz.ntmps141
 go_wp2_with fail
 go_region_held3 (fun W=>W.cell? ⟨pl,0,none⟩=some (.pointer (some ⟨lb,0,none⟩))∧W.cell? ⟨pe,0,none⟩=some (.int .i64 ((next:Int)+n))∧W.cell? ⟨pc,0,none⟩=some (.slice co n cc)∧W.cell? ⟨lb,0,none⟩=some (.pointer (some ⟨L.b,0,none⟩))∧W.cell? ⟨lb,1,none⟩=some (.int .i64 fr)∧W.cell? ⟨lb,3,none⟩=some (.int .i64 first))
  (first
   | exact HSB.out _ HBD.out
   | exact HSB.out _ (HBA:Hid _).out
   | exact HSB.out _ (HBB:Hid _).out
   | exact HSO.out _ _ (HBB:Hid _).out (HOC:Hid _).out)
  (first
   | (go_at_call 131;refine (CF.out _).mono ?_;rintro e wA ⟨rfl,hbA⟩;have HBA:=hid (two HBD.out hbA);clear hbA)
   | (go_at_call 142;refine (CT.out _).mono ?_;rintro e wB ⟨rfl,hbB⟩;have HBB:=hid (two (HBA:Hid _).out hbB);clear hbB)
   | (go_at_call 8;refine (CW.out _ (HBB:Hid _).out).mono ?_;rintro e wC ⟨rfl,tC⟩;have HTC:=hid tC;have HOC:=hid tC.offY;clear tC))
 all_goals
  go_wp2_with fail
  go_ret
  exact ⟨rfl,Turned.trans (L1:=L) rfl (zB7 HBB.out L.foot) (fun _ h=>Or.inl h) HTC.out⟩
theorem xM3 {c:List Change}{k:Nat}(hk:k<c.length)(h:zH1 (c.drop k)=zH1 c)(hf:zA2 c[k]≠0):zH1 c=zA2 c[k]:=by
 rw [←h,List.drop_eq_getElem_cons hk,zH1,if_pos hf]
theorem xF6 {c:List Change}{k:Nat}(hk:k<c.length)(h:zH1 (c.drop k)=zH1 c)(hf:¬zA2 c[k]≠0):zH1 (c.drop (k+1))=zH1 c:=by
 rw [←h,List.drop_eq_getElem_cons hk,zH1,if_neg hf]
def xV3 (n next len:Nat):Nat:=if n=0 then next+len+1 else next
def vA3 (w:World)(L:Dk)(lb fr many first next' :Nat)(D' :DiskS)(w' :World):Prop:=∃L',L'.b=L.b∧DiskAt w' L' D' ∧LogAt w' lb L' fr many first next' ∧Off (fun k=>L.foot k∨k=lb) w w' ∧∀k,L'.foot k→L.foot k∨w.heap.size≤k
theorem yU7 {w w' :World}{L:Dk}{lb fr many first next:Nat}{D:DiskS}(h:DiskAt w L D)(hl:LogAt w lb L fr many first next)(hb:Below w.heap.size w w'):vA3 w L lb fr many first next D w' :=
 ⟨L,rfl,h.below hb,hl.below hb,zB7 hb _,fun _ h=>Or.inl h⟩
theorem zW9 {w w' :World}{L:Dk}{lb fr many first next m n:Nat}{D:DiskS}(hn:n≠0)(h:vA3 w L lb fr many first next D w'):vA3 w L lb fr many first (xV3 ((D,n):DiskS × Nat).2 next m) ((D,n):DiskS × Nat).1 w' :=by
 rw [xV3,if_neg hn];exact h
theorem zZ2 {w w' :World}{L:Dk}{lb fr many first next:Nat}{D' :DiskS}(ht:Turned 72 75 w L D' w')(hlf:¬L.foot lb)(hl:LogAt w lb L fr many first next):vA3 w L lb fr many first next D' w' :=by
 obtain ⟨L',e,d,o,g⟩:=ht
 exact ⟨L',e,d,hl.off o hlf e,o.mono (fun _ h=>Or.inl h),g⟩
theorem uD3 (lb:Nat)(L:Dk)(D:DiskS)(fr many first next:Nat)(vc:Value)(c:List Change)(w:World)(hl:LogAt w lb L fr many first next)(h:DiskAt w L D)(hok:D.ok)(hlf:¬L.foot lb)(hc:ChangesF L.foot w vc c)(hco:∀x∈c,x.ok)(hwl:D.wait.length≤800000)(hcl:c.length≤1000)(hfm:fr+many≤60)(hn:next≤many)(hf:first≤1000000):
 Calls Tryz.prog 98 #[.pointer (some ⟨lb,0,none⟩),vc] w fun e w' =>e= .returned (zE6 (yS4 fr many first next c D).2)∧vA3 w L lb fr many first (xV3 (yS4 fr many first next c D).2 next c.length) (yS4 fr many first next c D).1 w' :=by
 obtain ⟨co,cc,rfl,hcc,hcc'⟩:=hc.rd.parts
 obtain ⟨W1,hW1⟩:∃W1,W1=(w.alloc (.cells #[.pointer (some ⟨lb,0,none⟩)] 141)).alloc (.cells #[.slice co c.length cc] 34):=⟨_,rfl⟩
 have HB1:Hid (Below w.heap.size w W1):=hid (by rw [hW1];exact two (zA0 _ _) (zA0 _ _))
 have HX1:Hid (∀W,Below W1.heap.size W1 W→W.cell? ⟨w.heap.size,0,none⟩=some (.pointer (some ⟨lb,0,none⟩))∧W.cell? ⟨w.heap.size+1,0,none⟩=some (.slice co c.length cc)):=hid fun W hb=>⟨zA1 hb (by rw [hW1];simp),zA1 hb (by rw [hW1];simp)⟩
 have HZ1:Hid (W1.heap.size=w.heap.size+2):=hid (by rw [hW1];simp)
 have HW1:=hid hW1
 have HL:=hid hl
 have HD:=hid h
 have HC:=hid hc
 have HCO:=hid hco
 have HOK:=hid hok
 have HLF:=hid hlf
 have HWL:=hid hwl
 have HFM:=hid hfm
 have HN:=hid hn
 have HF:=hid hf
 clear hl h hc hco hok hlf hwl hfm hn hf hW1
 have y:Hid (∀W,Below W1.heap.size W1 W→Below w.heap.size w W):=hid fun W h=>two HB1.out h
 obtain ⟨x0,x1⟩:=HX1.out W1 (Below.refl _ _)
 by_cases h14:14<c.length
 · have h14' :(14:Int)<(c.length:Int):=by omega
   have HA:Hid (yS4 fr many first next c D=(D,2)):=hid (by unfold yS4;rw [if_pos (by simp [zI2,h14])];simp [zI2,h14])
   clear h14
   go_enter Tryz.func98, Tryz.ntmps98
   go_wp2_with fail
   rw [←HW1.out]
   go_wp2_with fail
   go_ret
   rw [HA.out]
   exact ⟨by rw [zA5 (by simp)];rfl,zW9 (by decide) (yU7 HD.out HL.out HB1.out)⟩
 have h14' :¬(14:Int)<(c.length:Int):=by omega
 have CR:Hid (∀W,Below w.heap.size w W→Calls Tryz.prog 96 #[.pointer (some ⟨lb,0,none⟩)] W fun e w' =>e= .returned (.int .i64 ((many:Int) - next))∧Below W.heap.size W w'):=hid fun W hW=>vL0 lb L fr many first next W (HL.out.below hW) HN.out (by have:=HFM.out;omega)
 have hx0:=zA4 x0
 have hx1:=zA4 x1
 go_enter Tryz.func98, Tryz.ntmps98
 go_wp2_with fail
 rw [←HW1.out]
 go_wp2_with fail
 refine zA6 (by kernel_rfl) (by kernel_rfl) ?_
 repeat (go_big_quiet_step (first
  | (go_at_call 96;exact Calls.regrown_of (CR.out _ (y.out _ (below_regrown _ _ _))))))
 refine wpQuiet_nil ?_
 intro w2 hb2
 have HB2:=hid hb2
 clear hb2 x0 x1 hx0 hx1
 by_cases hful:many<next+c.length+1
 · have hful' :((many:Int) - next)<(c.length:Int)+1:=by omega
   have HA:Hid (yS4 fr many first next c D=(D,7)):=hid (by unfold yS4;rw [if_pos (by simp [zI2,h14,hful])];simp [zI2,h14,hful])
   clear hful
   go_wp2_with fail
   go_ret
   rw [HA.out]
   exact ⟨by rw [zA5 (by simp)];rfl,zW9 (by decide) (yU7 HD.out HL.out (y.out _ HB2.out))⟩
 have hful' :¬((many:Int) - next)<(c.length:Int)+1:=by omega
 have HAF:Hid (zI2 many next c=zH1 c):=hid (by unfold zI2;rw [if_neg h14,if_neg hful])
 have HFUL:=hid hful
 have H14:=hid h14
 clear hful h14
 obtain ⟨x0,x1⟩:=HX1.out w2 HB2.out
 go_wp2_with fail
 go_loopw [25] (fun iv wr=>∃k:Nat,k≤c.length∧iv= .int .i64 k∧zH1 (c.drop k)=zH1 c∧Below W1.heap.size W1 wr) (fun iv _=>c.length - (intOf iv).toNat)
 case atStart=>exact ⟨0,Nat.zero_le _,rfl,rfl,HB2.out⟩
 case round=>
  obtain ⟨k,hk,rfl,hfk,hbw⟩:=hrel
  have HFK:=hid hfk
  have HBW:=hid hbw
  clear hfk hbw x0 x1
  by_cases hlt:k<c.length
  · obtain ⟨cb,cof,rfl,hlb,x0,x1,x2⟩:=Changes.cell (HC.out.below (y.out _ HBW.out)).rd k hlt
    obtain ⟨x,hx⟩:∃x,x=c[k]:=⟨_,rfl⟩
    have hxo:x.ok:=by rw [hx];exact HCO.out _ (List.getElem_mem hlt)
    have CK:=fun W=>yG2 x.key x.val x.gone W hxo.1 hxo.2
    obtain ⟨n,hn⟩:∃n,n=zA2 x:=⟨_,rfl⟩
    rw [show (⟨x.key,x.val,x.gone⟩:Change)=x from rfl,←hn] at CK
    replace CK:=hid CK
    rw [←hx] at x0 x1 x2
    have HNX:Hid (zA2 c[k]=n):=hid (by rw [hn,hx])
    obtain ⟨W3,hW3⟩:∃W3,W3=wr.alloc (.cells #[.string x.key, .string x.val, .bool x.gone] 109):=⟨_,rfl⟩
    have HB3:Hid (Below W1.heap.size W1 W3):=hid (by rw [hW3];exact two HBW.out (zA0 _ _))
    have HW3:=hid hW3
    clear hx hxo hn hW3
    go_wp2_with fail
    rw [←HW3.out]
    refine (CK.out _).mono ?_
    rintro e w4 ⟨rfl,hb4⟩
    have HB4:=hid (two HB3.out hb4)
    clear hb4 x0 x1 x2
    by_cases hn0:n=0
    · have HNN:=hid (xF6 hlt HFK.out (by rw [HNX.out];simp [hn0]))
      rw [show zE6 n= .nilIface by rw [hn0];rfl]
      clear hn0
      go_wp2_with fail
      go_roundw
      case rel=>exact ⟨k+1,by omega,by go_num,HNN.out,HB4.out⟩
      case measure=>simp [intOf];omega
    · have HNN:=hid (xM3 hlt HFK.out (by rw [HNX.out];exact hn0))
      have HA:Hid (yS4 fr many first next c D=(D,n)):=hid (by unfold yS4;rw [if_pos (by rw [HAF.out,HNN.out,HNX.out];exact hn0),HAF.out,HNN.out,HNX.out])
      have HN0:=hid hn0
      rw [zA5 hn0]
      clear hn0
      go_wp2_with fail
      go_ret
      rw [HA.out]
      exact ⟨by rw [zA5 HN0.out];rfl,zW9 HN0.out (yU7 HD.out HL.out (y.out _ HB4.out))⟩
  · obtain rfl:k=c.length:=by omega
    obtain ⟨wx,hwx⟩:∃wx:World,wx=wr:=⟨_,rfl⟩
    subst hwx
    have HA0:Hid (zI2 many next c=0):=hid (by rw [HAF.out,←HFK.out,List.drop_length];rfl)
    have HA:Hid (yS4 fr many first next c D=xB8 fr many first next c D):=hid (by unfold yS4;rw [if_neg (by simp [HA0.out])])
    have HCF:=hid (zQ2 HA0.out).2.2
    have hcl14:c.length≤14:=(zQ2 HA0.out).1
    have hnl60:next+c.length≤200:=by have:=HN.out;have:=HFM.out;omega
    obtain ⟨x0,x1⟩:=HX1.out wx HBW.out
    have l4:=(HL.out.below (y.out _ HBW.out)).c4
    have hq0:∀o,(wx.alloc o).cell? ⟨w.heap.size,0,none⟩=some (.pointer (some ⟨lb,0,none⟩)):=fun o=>(HX1.out _ (two HBW.out (zA0 wx o))).1
    have hq1:∀o,(wx.alloc o).cell? ⟨w.heap.size+1,0,none⟩=some (.slice co c.length cc):=fun o=>(HX1.out _ (two HBW.out (zA0 wx o))).2
    have hq4:∀o,(wx.alloc o).cell? ⟨lb,4,none⟩=some (.int .i64 next):=fun o=>(HL.out.below (y.out _ (two HBW.out (zA0 wx o)))).c4
    have hmf:∀(fn:Fn) (first cap:Array Value) (w:World),(Instr.makeFunc fn first cap).run Tryz.prog w= .ok (.func fn first cap) w:=fun _ _ _ _=>rfl
    go_wp2_with fail
    go_region
    obtain ⟨W5,hW5⟩:∃W5,W5=(wx.alloc (.cells #[.int .i64 ((next:Int)+c.length)] 3)).drew:=⟨_,rfl⟩
    have HB5:Hid (Below W1.heap.size W1 W5):=hid (by rw [hW5];exact (two HBW.out (zA0 _ _)).drew)
    have HE5:Hid (∀W,Below W5.heap.size W5 W→W.cell? ⟨wx.heap.size,0,none⟩=some (.int .i64 ((next:Int)+c.length))):=hid fun W hb=>zA1 hb (by rw [hW5];simp)
    have HZ5:Hid (W5.heap.size=wx.heap.size+1):=hid (by rw [hW5];simp)
    rw [←hW5]
    clear hW5 x0 x1 l4 hq0 hq1 hq4
    obtain ⟨x0,x1⟩:=HX1.out W5 HB5.out
    have l0:=(HL.out.below (y.out _ HB5.out)).c0
    have hq0:∀o,(W5.alloc o).cell? ⟨w.heap.size,0,none⟩=some (.pointer (some ⟨lb,0,none⟩)):=fun o=>(HX1.out _ (two HB5.out (zA0 W5 o))).1
    have hq1:∀o,(W5.alloc o).cell? ⟨lb,0,none⟩=some (.pointer (some ⟨L.b,0,none⟩)):=fun o=>(HL.out.below (y.out _ (two HB5.out (zA0 W5 o)))).c0
    go_wp2_with fail
    refine wp_region_held_drew (S:=fun W=>W.cell? ⟨w.heap.size,0,none⟩=some (.pointer (some ⟨lb,0,none⟩))∧W.cell? ⟨lb,0,none⟩=some (.pointer (some ⟨L.b,0,none⟩))) (by kernel_rfl) ?_ (fun hHeld=>?_)
    · exact ⟨(HX1.out _ HB5.out.drew).1,(HL.out.below (y.out _ HB5.out.drew)).c0⟩
    refine wpAnyH_take (i:=0) (v:=?v0) rfl (by kernel_rfl) (by kernel_rfl) (by kernel_rfl) (fun _ _ _ h=>h) (Or.inl ⟨by rfl,?y0⟩) (by assumption) ?r0
    case y0=>(intro w hSw;(try dsimp only at hSw);go_simp;(try with_reducible rfl))
    (try simp only [Act.put,List.setIfInBounds_toArray,List.set_cons_zero,List.set_cons_succ,List.getElem_toArray,List.getElem_cons_zero,List.getElem_cons_succ])
    refine wpAnyH_take (i:=1) (v:=?v1) rfl (by kernel_rfl) (by kernel_rfl) (by kernel_rfl) (fun _ _ _ h=>h) (Or.inl ⟨by rfl,?y1⟩) (by assumption) ?r1
    case y1=>(intro w hSw;(try dsimp only at hSw);go_simp;(try with_reducible rfl))
    (try simp only [Act.put,List.setIfInBounds_toArray,List.set_cons_zero,List.set_cons_succ,List.getElem_toArray,List.getElem_cons_zero,List.getElem_cons_succ])
    refine wpAnyH_take (i:=2) (v:=?v2) rfl (by kernel_rfl) (by kernel_rfl) (by kernel_rfl) (fun _ _ _ h=>h) (Or.inl ⟨by rfl,?y2⟩) (by assumption) ?r2
    case y2=>(intro w hSw;(try dsimp only at hSw);go_simp;(try with_reducible rfl))
    (try simp only [Act.put,List.setIfInBounds_toArray,List.set_cons_zero,List.set_cons_succ,List.getElem_toArray,List.getElem_cons_zero,List.getElem_cons_succ])
    refine wpAnyH_take (i:=3) (v:=?v3) rfl (by kernel_rfl) (by kernel_rfl) (by kernel_rfl) (fun _ _ _ h=>h) (Or.inl ⟨by rfl,?y3⟩) (by assumption) ?r3
    case y3=>(intro w hSw;(try dsimp only at hSw);go_simp;(try with_reducible rfl))
    (try simp only [Act.put,List.setIfInBounds_toArray,List.set_cons_zero,List.set_cons_succ,List.getElem_toArray,List.getElem_cons_zero,List.getElem_cons_succ])
    refine wpAnyH_take (i:=4) (v:=?v4) rfl (by kernel_rfl) (by kernel_rfl) (by kernel_rfl) (fun _ _ _ h=>h) (Or.inl ⟨by rfl,?y4⟩) (by assumption) ?r4
    case y4=>(intro w hSw;(try dsimp only at hSw);go_simp;(try with_reducible rfl))
    (try simp only [Act.put,List.setIfInBounds_toArray,List.set_cons_zero,List.set_cons_succ,List.getElem_toArray,List.getElem_cons_zero,List.getElem_cons_succ])
    refine wpAnyH_take (i:=5) (v:=?v5) rfl (by kernel_rfl) (by kernel_rfl) (by kernel_rfl) (fun _ _ _ h=>h) (Or.inl ⟨by rfl,?y5⟩) (by assumption) ?r5
    case y5=>(intro w hSw;(try dsimp only at hSw);go_simp;(try with_reducible rfl))
    (try simp only [Act.put,List.setIfInBounds_toArray,List.set_cons_zero,List.set_cons_succ,List.getElem_toArray,List.getElem_cons_zero,List.getElem_cons_succ])
    refine wpAnyH_take (i:=6) (v:=?v6) rfl (by kernel_rfl) (by kernel_rfl) (by kernel_rfl) (fun _ _ _ h=>h) (Or.inl ⟨by rfl,?y6⟩) (by assumption) ?r6
    case y6=>(intro w hSw;(try dsimp only at hSw);go_simp;(try with_reducible rfl))
    (try simp only [Act.put,List.setIfInBounds_toArray,List.set_cons_zero,List.set_cons_succ,List.getElem_toArray,List.getElem_cons_zero,List.getElem_cons_succ])
    refine wpAnyH_take (i:=7) (v:=?v7) rfl (by kernel_rfl) (by kernel_rfl) (by kernel_rfl) (fun _ _ _ h=>h) (Or.inl ⟨by rfl,?y7⟩) (by assumption) ?r7
    case y7=>(intro w hSw;(try dsimp only at hSw);go_simp;(try with_reducible rfl))
    (try simp only [Act.put,List.setIfInBounds_toArray,List.set_cons_zero,List.set_cons_succ,List.getElem_toArray,List.getElem_cons_zero,List.getElem_cons_succ])
    refine wpAnyH_take (i:=8) (v:=?v8) rfl (by kernel_rfl) (by kernel_rfl) (by kernel_rfl) (fun _ _ _ h=>h) (Or.inl ⟨by rfl,?y8⟩) (by assumption) ?r8
    case y8=>(intro w hSw;(try dsimp only at hSw);go_simp;(try with_reducible rfl))
    (try simp only [Act.put,List.setIfInBounds_toArray,List.set_cons_zero,List.set_cons_succ,List.getElem_toArray,List.getElem_cons_zero,List.getElem_cons_succ])
    refine wpAnyH_take (i:=9) (v:=?v9) rfl (by kernel_rfl) (by kernel_rfl) (by kernel_rfl) (fun _ _ _ h=>h) (Or.inl ⟨by rfl,?y9⟩) (by assumption) ?r9
    case y9=>(intro w hSw;(try dsimp only at hSw);go_simp;(try with_reducible rfl))
    (try simp only [Act.put,List.setIfInBounds_toArray,List.set_cons_zero,List.set_cons_succ,List.getElem_toArray,List.getElem_cons_zero,List.getElem_cons_succ])
    refine wpAnyH_take (i:=10) (v:=?v10) rfl (by kernel_rfl) (by kernel_rfl) (by kernel_rfl) (fun _ _ _ h=>h) (Or.inl ⟨by rfl,?y10⟩) (by assumption) ?r10
    case y10=>(intro w hSw;(try dsimp only at hSw);go_simp;(try with_reducible rfl))
    (try simp only [Act.put,List.setIfInBounds_toArray,List.set_cons_zero,List.set_cons_succ,List.getElem_toArray,List.getElem_cons_zero,List.getElem_cons_succ])
    refine wpAnyH_take (i:=11) (v:=?v11) rfl (by kernel_rfl) (by kernel_rfl) (by kernel_rfl) (fun _ _ _ h=>h) (Or.inl ⟨by rfl,?y11⟩) (by assumption) ?r11
    case y11=>(intro w hSw;(try dsimp only at hSw);go_simp;(try with_reducible rfl))
    (try simp only [Act.put,List.setIfInBounds_toArray,List.set_cons_zero,List.set_cons_succ,List.getElem_toArray,List.getElem_cons_zero,List.getElem_cons_succ])
    refine wpAnyH_take (i:=14) (v:=?v14) rfl (by kernel_rfl) (by kernel_rfl) (by kernel_rfl) (fun _ _ _ h=>h) (Or.inl ⟨by rfl,?y14⟩) (by assumption) ?r14
    case y14=>(intro w hSw;(try dsimp only at hSw);go_simp;(try with_reducible rfl))
    (try simp only [Act.put,List.setIfInBounds_toArray,List.set_cons_zero,List.set_cons_succ,List.getElem_toArray,List.getElem_cons_zero,List.getElem_cons_succ])
    refine wpAnyH_ready (rs:= [12]) (by kernel_rfl) (by simp) ?_
    refine AllReadyH.cons rfl (fun K hK=>?_) AllReadyH.nil
    go_simp
    refine hK.out _ _ ?_ (fun hHeld2=>?_)
    · exact ⟨(HX1.out _ (two HB5.out (zA0 _ _)).drew).1,(HL.out.below (y.out _ (two HB5.out (zA0 _ _)).drew)).c0⟩
    clear hK K
    (try simp only [Act.put,List.setIfInBounds_toArray,List.set_cons_zero,List.set_cons_succ,List.getElem_toArray,List.getElem_cons_zero,List.getElem_cons_succ])
    refine wpAnyH_take (i:=13) (v:=?v13) rfl (by kernel_rfl) (by kernel_rfl) (by kernel_rfl) (fun _ _ _ h=>h) (Or.inl ⟨by rfl,?y13⟩) (by assumption) ?r13
    case y13=>(intro w hSw;(try dsimp only at hSw);go_simp;(try with_reducible rfl))
    (try simp only [Act.put,List.setIfInBounds_toArray,List.set_cons_zero,List.set_cons_succ,List.getElem_toArray,List.getElem_cons_zero,List.getElem_cons_succ])
    refine wpAnyH_done (by kernel_rfl) ?_ _
    obtain ⟨W6,hW6⟩:∃W6,W6=(W5.alloc (.cells #[.func (.func 139) #[] #[.pointer (some ⟨w.heap.size,0,none⟩), .pointer (some ⟨w.heap.size+1,0,none⟩)], .func (.func 9) #[.pointer (some ⟨L.b,0,none⟩)] #[], .func (.func 141) #[] #[.pointer (some ⟨w.heap.size,0,none⟩), .pointer (some ⟨wx.heap.size,0,none⟩), .pointer (some ⟨w.heap.size+1,0,none⟩)], .func (.func 9) #[.pointer (some ⟨L.b,0,none⟩)] #[]] 40)).drew:=⟨_,rfl⟩
    have HB6:Hid (Below W5.heap.size W5 W6):=hid (by rw [hW6];exact (zA0 _ _).drew)
    have HS6:Hid (W6.cell? ⟨W5.heap.size,0,none⟩=some (.func (.func 139) #[] #[.pointer (some ⟨w.heap.size,0,none⟩), .pointer (some ⟨w.heap.size+1,0,none⟩)])∧W6.cell? ⟨W5.heap.size,1,none⟩=some (.func (.func 9) #[.pointer (some ⟨L.b,0,none⟩)] #[])∧W6.cell? ⟨W5.heap.size,2,none⟩=some (.func (.func 141) #[] #[.pointer (some ⟨w.heap.size,0,none⟩), .pointer (some ⟨wx.heap.size,0,none⟩), .pointer (some ⟨w.heap.size+1,0,none⟩)])∧W6.cell? ⟨W5.heap.size,3,none⟩=some (.func (.func 9) #[.pointer (some ⟨L.b,0,none⟩)] #[])):=hid (by rw [hW6];simp)
    have HZ6:Hid (W6.heap.size=W5.heap.size+1):=hid (by rw [hW6];simp)
    rw [←hW6]
    clear hW6 x0 x1 l0 hq0 hq1
    have HB16:Hid (Below W1.heap.size W1 W6):=hid (two HB5.out HB6.out)
    have HB06:Hid (Below w.heap.size w W6):=hid (y.out _ HB16.out)
    have HNF:Hid (∀b,w.heap.size≤b→¬L.foot b):=hid fun b hb hf=>by have:=HD.out.lt b hf;omega
    have HLT:Hid (w.heap.size+1<W6.heap.size∧wx.heap.size<W6.heap.size∧W5.heap.size<W6.heap.size∧lb<W6.heap.size∧w.heap.size≤wx.heap.size∧w.heap.size≤W5.heap.size):=hid (by
     have h1:=HB16.out.size
     have h2:=HZ1.out
     have h3:=HZ5.out
     have h4:=HZ6.out
     have h5:=HL.out.lt
     have h6:=HBW.out.size
     refine ⟨by omega,by omega,by omega,by omega,by omega,by omega⟩)
    go_wp2_with fail
    go_loopw [56] (fun iv wr=>∃(k:Nat) (L1:Dk) (D1:DiskS),k≤4∧iv= .int .i64 k∧uM3 fr many first next c k D1=xB8 fr many first next c D∧L1.b=L.b∧DiskAt wr L1 D1∧Off L.foot W6 wr∧(∀x,L1.foot x→L.foot x∨W6.heap.size≤x)∧D1.ok∧D1.wait.length≤D.wait.length+k * 100) (fun iv _=>4 - (intOf iv).toNat)
    case atStart=>exact ⟨0,L,D,by omega,rfl,rfl,rfl,HD.out.below HB06.out,Off.refl _ _,fun _ h=>Or.inl h,HOK.out,by omega⟩
    case round=>
     obtain ⟨k,L1,D1,hk,rfl,hrest,hb,hd,ho,hg,hok,hwl⟩:=hrel
     have HRE:=hid hrest
     have HBE:=hid hb
     have HD1:=hid hd
     have HO:=hid ho
     have HG:=hid hg
     have HOK1:=hid hok
     have HWK:=hid hwl
     have HWL1:Hid (D1.wait.length≤900000):=hid (by have:=HWL.out;omega)
     have HN1:Hid (∀b,b<W6.heap.size→¬L.foot b→¬L1.foot b):=hid fun b hb hn hf=>by
      rcases hg b hf with h | h
      · exact hn h
      · omega
     have HL1:Hid (LogAt wr lb L1 fr many first next):=hid ((HL.out.below HB06.out).off ho HLF.out hb)
     obtain ⟨z0,z1⟩:=HX1.out W6 HB16.out
     have hp0:=ho.cell z0 (HNF.out _ (Nat.le_refl _))
     have hp1:=ho.cell z1 (HNF.out _ (Nat.le_succ _))
     have hp2:=ho.cell (HE5.out W6 HB6.out) (HNF.out _ HLT.out.2.2.2.2.1)
     have HC1:Hid (ChangesF L1.foot wr (.slice co c.length cc) c):=hid ((HC.out.below HB06.out).turned (by decide) ho hg)
     have HTW:Hid (∀D2 wB,Turned 72 75 wr L1 D2 wB→Turned 72 75 W6 L D2 wB):=hid fun D2 wB ht=>Turned.trans hb ho hg ht
     have HTX:Hid (∀D2 wB,Turned 72 75 W6 L D2 wB→Turned 72 75 w L D2 wB):=hid fun D2 wB ht=>Turned.trans (L1:=L) rfl (zB7 HB06.out _) (fun _ h=>Or.inl h) ht
     obtain ⟨s0,s1,s2,s3⟩:=HS6.out
     have hs0:=ho.cell s0 (HNF.out _ HLT.out.2.2.2.2.2)
     have hs1:=ho.cell s1 (HNF.out _ HLT.out.2.2.2.2.2)
     have hs2:=ho.cell s2 (HNF.out _ HLT.out.2.2.2.2.2)
     have hs3:=ho.cell s3 (HNF.out _ HLT.out.2.2.2.2.2)
     have HP:=hid (And.intro hp0 (And.intro hp1 hp2))
     obtain ⟨⟨D2,n2⟩,hst⟩:∃p,p=vO8 fr many first next c k D1:=⟨_,rfl⟩
     have HST:=hid hst
     have HOK2:Hid D2.ok:=hid (by have:=uK2 fr many first next c k hok;rw [←hst] at this;exact this)
     have HWL2:Hid (D2.wait.length≤D.wait.length+(k+1) * 100):=hid (by have:=vO7 fr many first next c k D1;rw [←hst] at this;dsimp only at this;have h2:=HWK.out;omega)
     have hrs:k<4→zE8 (D2,n2) (uM3 fr many first next c (k+1))=xB8 fr many first next c D:=fun h=>by rw [hst,←vQ1 _ _ _ _ _ _ h];exact HRE.out
     have HRS:=hid hrs
     clear hrest hb hd ho hg hok hwl z0 z1 s0 s1 s2 s3 hp0 hp1 hp2 hst hrs
     obtain rfl | rfl | rfl | rfl | rfl:k=0∨k=1∨k=2∨k=3∨k=4:=by omega
     · have hk4:((0:Nat):Int)=0:=rfl
       have CK:Hid (Calls Tryz.prog 139 #[.pointer (some ⟨w.heap.size,0,none⟩), .pointer (some ⟨w.heap.size+1,0,none⟩)] wr fun e w' =>e= .returned (zE6 n2)∧Turned 72 75 wr L1 D2 w'):=hid (by
        have hs:xI8 fr many first next c D1=(D2,n2):=HST.out.symm
        have:=log_lay lb L1 D1 fr many first next (.slice co c.length cc) c wr HL1.out HD1.out HOK1.out (HN1.out _ HLT.out.2.2.2.1 HLF.out) HC1.out HCF.out HWL1.out hcl14 HFM.out HN.out HF.out
        rw [hs] at this
        exact uO3 _ _ lb _ wr _ HP.out.1 HP.out.2.1 (this.mono fun e w' h=>⟨⟨_,h.1⟩,h⟩))
       clear hs1 hs2 hs3
       go_wp2_with fail
       refine CK.out.mono ?_
       rintro e wB ⟨rfl,tB⟩
       have HTB:=hid (HTW.out _ _ tB)
       clear tB hs0
       by_cases hn2:n2=0
       · have HR2:=hid (by have:=HRS.out (by omega);rw [hn2,zD7 rfl] at this;exact this)
         rw [show zE6 n2= .nilIface by rw [hn2];rfl]
         clear hn2
         go_wp2_with fail
         go_roundw
         case rel=>
          obtain ⟨L2,e2,d2,o2,g2⟩:=HTB.out
          exact ⟨1,L2,D2,by omega,by go_num,HR2.out,e2,d2,o2,g2,HOK2.out,HWL2.out⟩
         case measure=>simp [intOf]
       · have HR2:=hid (by have:=HRS.out (by omega);rw [zE0 hn2] at this;exact this)
         have HN2:=hid hn2
         rw [zA5 hn2]
         clear hn2
         go_wp2_with fail
         go_ret
         rw [HA.out,←HR2.out]
         exact ⟨by rw [zA5 HN2.out];rfl,zW9 HN2.out (zZ2 (HTX.out _ _ HTB.out) HLF.out HL.out)⟩
     · have hk4:((1:Nat):Int)=1:=rfl
       have CK:Hid (Calls Tryz.prog 9 #[.pointer (some ⟨L.b,0,none⟩)] wr fun e w' =>e= .returned (zE6 n2)∧Turned 72 75 wr L1 D2 w'):=hid (by
        have hs:zC5 D1=(D2,n2):=HST.out.symm
        have:=zR7 L1 D1 wr HD1.out HOK1.out
        rw [hs,HBE.out] at this
        exact this)
       clear hs0 hs2 hs3
       go_wp2_with fail
       refine CK.out.mono ?_
       rintro e wB ⟨rfl,tB⟩
       have HTB:=hid (HTW.out _ _ tB)
       clear tB hs1
       by_cases hn2:n2=0
       · have HR2:=hid (by have:=HRS.out (by omega);rw [hn2,zD7 rfl] at this;exact this)
         rw [show zE6 n2= .nilIface by rw [hn2];rfl]
         clear hn2
         go_wp2_with fail
         go_roundw
         case rel=>
          obtain ⟨L2,e2,d2,o2,g2⟩:=HTB.out
          exact ⟨2,L2,D2,by omega,by go_num,HR2.out,e2,d2,o2,g2,HOK2.out,HWL2.out⟩
         case measure=>simp [intOf]
       · have HR2:=hid (by have:=HRS.out (by omega);rw [zE0 hn2] at this;exact this)
         have HN2:=hid hn2
         rw [zA5 hn2]
         clear hn2
         go_wp2_with fail
         go_ret
         rw [HA.out,←HR2.out]
         exact ⟨by rw [zA5 HN2.out];rfl,zW9 HN2.out (zZ2 (HTX.out _ _ HTB.out) HLF.out HL.out)⟩
     · have hk4:((2:Nat):Int)=2:=rfl
       have CK:Hid (Calls Tryz.prog 141 #[.pointer (some ⟨w.heap.size,0,none⟩), .pointer (some ⟨wx.heap.size,0,none⟩), .pointer (some ⟨w.heap.size+1,0,none⟩)] wr fun e w' =>e= .returned (zE6 n2)∧Turned 72 75 wr L1 D2 w'):=hid (by
        have hs:xD7 fr first next c.length D1=(D2,n2):=HST.out.symm
        have:=uO2 w.heap.size wx.heap.size (w.heap.size+1) lb L1 D1 fr many first next co cc c.length wr HL1.out HD1.out HOK1.out (HN1.out _ HLT.out.2.2.2.1 HLF.out) (HN1.out _ (by have:=HLT.out.1;omega) (HNF.out _ (Nat.le_refl _))) (HN1.out _ HLT.out.2.1 (HNF.out _ HLT.out.2.2.2.2.1)) (HN1.out _ HLT.out.1 (HNF.out _ (Nat.le_succ _))) (by have:=HWL1.out;omega) hcl14 HFM.out HN.out HF.out HP.out.1 HP.out.2.2 HP.out.2.1
        rw [hs] at this
        exact this)
       clear hs0 hs1 hs3
       go_wp2_with fail
       refine CK.out.mono ?_
       rintro e wB ⟨rfl,tB⟩
       have HTB:=hid (HTW.out _ _ tB)
       clear tB hs2
       by_cases hn2:n2=0
       · have HR2:=hid (by have:=HRS.out (by omega);rw [hn2,zD7 rfl] at this;exact this)
         rw [show zE6 n2= .nilIface by rw [hn2];rfl]
         clear hn2
         go_wp2_with fail
         go_roundw
         case rel=>
          obtain ⟨L2,e2,d2,o2,g2⟩:=HTB.out
          exact ⟨3,L2,D2,by omega,by go_num,HR2.out,e2,d2,o2,g2,HOK2.out,HWL2.out⟩
         case measure=>simp [intOf]
       · have HR2:=hid (by have:=HRS.out (by omega);rw [zE0 hn2] at this;exact this)
         have HN2:=hid hn2
         rw [zA5 hn2]
         clear hn2
         go_wp2_with fail
         go_ret
         rw [HA.out,←HR2.out]
         exact ⟨by rw [zA5 HN2.out];rfl,zW9 HN2.out (zZ2 (HTX.out _ _ HTB.out) HLF.out HL.out)⟩
     · have hk4:((3:Nat):Int)=3:=rfl
       have CK:Hid (Calls Tryz.prog 9 #[.pointer (some ⟨L.b,0,none⟩)] wr fun e w' =>e= .returned (zE6 n2)∧Turned 72 75 wr L1 D2 w'):=hid (by
        have hs:zC5 D1=(D2,n2):=HST.out.symm
        have:=zR7 L1 D1 wr HD1.out HOK1.out
        rw [hs,HBE.out] at this
        exact this)
       clear hs0 hs1 hs2
       go_wp2_with fail
       refine CK.out.mono ?_
       rintro e wB ⟨rfl,tB⟩
       have HTB:=hid (HTW.out _ _ tB)
       clear tB hs3
       by_cases hn2:n2=0
       · have HR2:=hid (by have:=HRS.out (by omega);rw [hn2,zD7 rfl] at this;exact this)
         rw [show zE6 n2= .nilIface by rw [hn2];rfl]
         clear hn2
         go_wp2_with fail
         go_roundw
         case rel=>
          obtain ⟨L2,e2,d2,o2,g2⟩:=HTB.out
          exact ⟨4,L2,D2,by omega,by go_num,HR2.out,e2,d2,o2,g2,HOK2.out,HWL2.out⟩
         case measure=>simp [intOf]
       · have HR2:=hid (by have:=HRS.out (by omega);rw [zE0 hn2] at this;exact this)
         have HN2:=hid hn2
         rw [zA5 hn2]
         clear hn2
         go_wp2_with fail
         go_ret
         rw [HA.out,←HR2.out]
         exact ⟨by rw [zA5 HN2.out];rfl,zW9 HN2.out (zZ2 (HTX.out _ _ HTB.out) HLF.out HL.out)⟩
     · have hse:xB8 fr many first next c D=(D1,0):=HRE.out.symm
       have HSE:=hid hse
       obtain ⟨p0,p1,p2⟩:=HP.out
       have l4:=HL1.out.c4
       have f4:=HL1.out.f4
       clear hse hs0 hs1 hs2 hs3
       go_wp2_with fail
       go_ret
       rw [HA.out,HSE.out]
       refine ⟨rfl,L1,HBE.out,HD1.out.off (zA7 (F:=fun x=>x=lb) _ ⟨lb,4,none⟩ rfl _) (fun x hx e=>HN1.out _ HLT.out.2.2.2.1 HLF.out (e ▸ hx)),?_,?_,fun x hx=>?_⟩
       · have:=HL1.out.store (next+c.length+1)
         rw [xV3,if_pos rfl]
         exact ⟨by have h2:=this.box;rw [HBE.out] at h2;simpa using this.box⟩
       · exact ((zB7 HB06.out (fun k=>L.foot k∨k=lb)).trans (HO.out.mono (fun _ h=>Or.inl h)) (fun _ _ h=>h)).trans (zA7 (F:=fun k=>L.foot k∨k=lb) _ ⟨lb,4,none⟩ (Or.inr rfl) _) (fun _ _ h=>h)
       · rcases HG.out x hx with h | h
         · exact Or.inl h
         · exact Or.inr (Nat.le_trans HB06.out.size h)
end Go.Proofs.YtggpodlecljcbabGreatDoor
