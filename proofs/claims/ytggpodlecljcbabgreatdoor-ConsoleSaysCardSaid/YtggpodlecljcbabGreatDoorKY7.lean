/- The walk of log.text. -/
import Derived.Deep.RegionLaw
import Derived.Deep.RegionHeld3
import Derived.Test.YtggpodlecljcbabGreatDoorKSY
import Derived.Test.YtggpodlecljcbabGreatDoorKK4
import Derived.Test.YtggpodlecljcbabGreatDoorKY
namespace Go.Proofs.YtggpodlecljcbabGreatDoor
set_option linter.unusedSimpArgs false
set_option linter.unusedVariables false
set_option maxRecDepth 100000
set_option maxHeartbeats 64000000
open Lib (hid)
open Go.RowKit Go.Sort
theorem uQ5 (k:UInt8)(g:Nat)(W:World)(h:W.cell? ⟨g,0,none⟩=some (.int .u8 k.toNat)):(convert 112 9 (.slice (some ⟨g,0,none⟩) 1 1)).run Tryz.prog W= .ok (.string ⟨#[k]⟩) W:=by
 refine run_convert_bytes_back (P:= Tryz.prog) _ 112 9 5 ⟨g,0,none⟩ 1 [k] Tryz.underlying112 Tryz.underlying5 Tryz.underlying9 (fun j hj=>?_)
 rw [Addr.add_lit]
 match j,hj with
 | 0,_=>simpa using h
theorem uQ4 (x y:UInt8)(g:Nat)(W:World)(h:W.cell? ⟨g,0,none⟩=some (.int .u8 x.toNat))(h' :W.cell? ⟨g,1,none⟩=some (.int .u8 y.toNat)):(convert 112 9 (.slice (some ⟨g,0,none⟩) 2 2)).run Tryz.prog W= .ok (.string ⟨#[x,y]⟩) W:=by
 refine run_convert_bytes_back (P:= Tryz.prog) _ 112 9 5 ⟨g,0,none⟩ 2 [x,y] Tryz.underlying112 Tryz.underlying5 Tryz.underlying9 (fun j hj=>?_)
 rw [Addr.add_lit]
 match j,hj with
 | 0,_=>simpa using h
 | 1,_=>simpa using h'
theorem vH9 {w0 wA:World}{a:Value}{t:TypeId}(h:Below (w0.alloc (.cells #[a] t)).heap.size (w0.alloc (.cells #[a] t)) wA):wA.cell? ⟨w0.heap.size,0,none⟩=some a∧∀o,(wA.alloc o).cell? ⟨w0.heap.size,0,none⟩=some a:=by
 have hlt:w0.heap.size<(w0.alloc (.cells #[a] t)).heap.size:=by simp
 exact ⟨by rw [(zN2 h).1 _ _ hlt];simp,fun o=>by rw [(zN2 (two h (zA0 _ o))).1 _ _ hlt];simp⟩
theorem xG8 {w0 wA:World}{a b:Value}{t:TypeId}(h:Below (w0.alloc (.cells #[a,b] t)).heap.size (w0.alloc (.cells #[a,b] t)) wA):(wA.cell? ⟨w0.heap.size,0,none⟩=some a∧wA.cell? ⟨w0.heap.size,1,none⟩=some b)∧∀o,(wA.alloc o).cell? ⟨w0.heap.size,0,none⟩=some a∧(wA.alloc o).cell? ⟨w0.heap.size,1,none⟩=some b:=by
 have hlt:w0.heap.size<(w0.alloc (.cells #[a,b] t)).heap.size:=by simp
 exact ⟨⟨by rw [(zN2 h).1 _ _ hlt];simp,by rw [(zN2 h).1 _ _ hlt];simp⟩,fun o=>⟨by rw [(zN2 (two h (zA0 _ o))).1 _ _ hlt];simp,by rw [(zN2 (two h (zA0 _ o))).1 _ _ hlt];simp⟩⟩
theorem uR1 {w0 wA:World}{a b c:Value}{t t' :TypeId}(h:Below ((w0.alloc (.cells #[a] t)).alloc (.cells #[b,c] t')).heap.size ((w0.alloc (.cells #[a] t)).alloc (.cells #[b,c] t')) wA):wA.cell? ⟨w0.heap.size,0,none⟩=some a∧wA.cell? ⟨(w0.alloc (.cells #[a] t)).heap.size,0,none⟩=some b∧wA.cell? ⟨(w0.alloc (.cells #[a] t)).heap.size,1,none⟩=some c:=
 ⟨(vH9 (two (zA0 _ _) h)).1,(xG8 h).1.1,(xG8 h).1.2⟩
theorem uR0 {w0 wA:World}{a b c:Value}{t t' :TypeId}(h:Below ((w0.alloc (.cells #[b,c] t')).alloc (.cells #[a] t)).heap.size ((w0.alloc (.cells #[b,c] t')).alloc (.cells #[a] t)) wA):wA.cell? ⟨(w0.alloc (.cells #[b,c] t')).heap.size,0,none⟩=some a∧wA.cell? ⟨w0.heap.size,0,none⟩=some b∧wA.cell? ⟨w0.heap.size,1,none⟩=some c:=
 ⟨(vH9 h).1,(xG8 (two (zA0 _ _) h)).1.1,(xG8 (two (zA0 _ _) h)).1.2⟩
theorem vK9 (k:UInt8)(n:Nat)(s:ByteArray)(w:World)(hn:n≤2000000000)(hs:s.size≤33):
 Calls Tryz.prog 142 #[.int .u8 k.toNat, .int .i64 n, .string s] w fun e w' =>e= .returned (.string (zL2 k n s))∧Below w.heap.size w w' :=by
 have CF:=hid fun W=>yZ2 n W (by omega)
 have hkb:k.toNat≤255:=by have:=k.toNat_lt;omega
 have hc1:=uQ5 k
 have hw1:IntKind.u8.wrap (s.size:Int)=s.size:=by simp [IntKind.wrap,IntKind.signed,IntKind.bits];omega
 have hw2:IntKind.u8.wrap ((s.size:Int) / 256)=(s.size:Int) / 256:=by simp [IntKind.wrap,IntKind.signed,IntKind.bits];omega
 have hc2:∀g W,W.cell? ⟨g,0,none⟩=some (.int .u8 s.size)→W.cell? ⟨g,1,none⟩=some (.int .u8 ((s.size:Int) / 256))→(convert 112 9 (.slice (some ⟨g,0,none⟩) 2 2)).run Tryz.prog W= .ok (.string ⟨#[s.size.toUInt8,(s.size / 256).toUInt8]⟩) W:=fun g W h0 h1=>by
  have a1:s.size.toUInt8.toNat=s.size:=by simp;omega
  have a2:(s.size / 256).toUInt8.toNat=s.size / 256:=by simp;omega
  exact uQ4 _ _ g W (by rw [a1];exact h0) (by rw [a2];exact h1)
 obtain ⟨f,hf⟩:∃f,f=zH0 n:=⟨_,rfl⟩
 obtain ⟨kb,hkb1⟩:∃f,f=(⟨#[k]⟩:ByteArray):=⟨_,rfl⟩
 obtain ⟨lb,hlb⟩:∃f,f=(⟨#[s.size.toUInt8,(s.size / 256).toUInt8]⟩:ByteArray):=⟨_,rfl⟩
 have hR:zL2 k n s=kb++f++lb++s:=by rw [hf,hkb1,hlb];rfl
 have z1:f.size=4:=by rw [hf];rfl
 have z2:kb.size=1:=by rw [hkb1];rfl
 have z3:lb.size=2:=by rw [hlb];rfl
 have z12:(kb++f).size=5:=by rw [ByteArray.size_append,z1,z2]
 have z123:(kb++f++lb).size=7:=by rw [ByteArray.size_append,z12,z3]
 have z4:¬9223372036854775807<7+s.size:=by omega
 rw [←hf] at CF
 rw [←hkb1] at hc1
 rw [←hlb] at hc2
 have HR:=hid hR
 rw [hR]
 clear hf hkb1 hlb hR
 go_enter Tryz.func142, Tryz.ntmps142
 go_wp2_with fail
 go_region_law (first
  | (go_simp;go_at_call 131;refine (CF.out _).mono ?_;rintro e wA ⟨rfl,hbA⟩;have HBA:Hid (Below w.heap.size w wA):=hid (by first | exact two (Below.refl _ _).drew hbA | exact two (zA0 _ _).drew hbA | exact two (two (zA0 _ _) (zA0 _ _)).drew hbA);have hbA2:=two (Below.refl _ _).drew hbA;first | (have G:=uR1 hbA2;(try simp at G)) | (have G:=uR0 hbA2;(try simp at G)) | (have G:=vH9 hbA2;(try simp at G)) | (have G:=xG8 hbA2;(try simp at G)) | skip))
 all_goals
  go_wp2_with fail
  go_ret
  exact ⟨rfl,by first | exact HBA.out | exact two HBA.out (zA0 _ _) | exact two (two HBA.out (zA0 _ _)) (zA0 _ _)⟩
open Go.RowKit Go.Sort
theorem zU9 (a:Int)(h0:0≤a)(h1:a≤2000000000):IntKind.i64.wrap a=a:=by
 simp [IntKind.wrap,IntKind.signed,IntKind.bits]
 omega
theorem Turned.trans {ty tt:TypeId}{w w1 w2:World}{L L1:Dk}{D2:DiskS}(hb:L1.b=L.b)(hO:Off L.foot w w1)(hG:∀k,L1.foot k→L.foot k∨w.heap.size≤k)(h:Turned ty tt w1 L1 D2 w2):Turned ty tt w L D2 w2:=by
 obtain ⟨L2,e2,d2,o2,g2⟩:=h
 refine ⟨L2,e2.trans hb,d2,hO.trans o2 (fun x hx hf=>?_),fun k hk=>?_⟩
 · rcases hG x hf with h | h
   · exact h
   · omega
 · rcases g2 k hk with h | h
   · exact hG k h
   · exact Or.inr (Nat.le_trans hO.size h)
theorem Turned.offY {ty tt:TypeId}{w w' :World}{L:Dk}{D' :DiskS}(h:Turned ty tt w L D' w'):Off L.foot w w' :=by obtain ⟨_,_,_,ho,_⟩:=h;exact ho
theorem LogAt.off {w w' :World}{lb:Nat}{L L' :Dk}{fr many first next:Nat}{F:Nat→Prop}(h:LogAt w lb L fr many first next)(hO:Off F w w')(hf:¬F lb)(hb:L'.b=L.b):LogAt w' lb L' fr many first next:=
 ⟨by rw [hO.block lb (Array.getElem?_eq_some_iff.1 h.box).1 hf,hb];exact h.box⟩
theorem LogAt.lt {w:World}{lb:Nat}{L:Dk}{fr many first next:Nat}(h:LogAt w lb L fr many first next):lb<w.heap.size:=(Array.getElem?_eq_some_iff.1 h.box).1
theorem vE6 {fr first next k:Nat}{c:List Change}(h:k<c.length){D D2:DiskS}{n:Nat}(hw:zB9 D ((fr+next+k:Nat):Int) (zL2 111 (first+next+k) (zB3 c[k]).1)=(D2,n))(hn:n≠0):zK2 fr first next k (c.drop k) D=(D2,n):=by
 rw [List.drop_eq_getElem_cons h]
 unfold zK2
 rw [hw,zE0 hn]
theorem xV8 {fr first next k:Nat}{c:List Change}(h:k<c.length){D D2:DiskS}(hw:zB9 D ((fr+next+k:Nat):Int) (zL2 111 (first+next+k) (zB3 c[k]).1)=(D2,0)):zK2 fr first next k (c.drop k) D=zK2 fr first next (k+1) (c.drop (k+1)) D2:=by
 rw [List.drop_eq_getElem_cons h]
 conv=>lhs;unfold zK2
 rw [hw,zD7 rfl]
theorem log_lay (lb:Nat)(L:Dk)(D:DiskS)(fr many first next:Nat)(vc:Value)(c:List Change)(w:World)(hl:LogAt w lb L fr many first next)(h:DiskAt w L D)(hok:D.ok)(hlf:¬L.foot lb)(hc:ChangesF L.foot w vc c)(hcf:∀x∈c,zA2 x=0)(hwl:D.wait.length≤900000)(hcl:c.length≤14)(hfm:fr+many≤60)(hn:next≤many)(hf:first≤1000000):
 Calls Tryz.prog 140 #[.pointer (some ⟨lb,0,none⟩),vc] w fun e w' =>e= .returned (zE6 (xI8 fr many first next c D).2)∧Turned 72 75 w L (xI8 fr many first next c D).1 w' :=by
 obtain ⟨co,cc,rfl,hcc,hcc'⟩:=hc.rd.parts
 have l1:=zA4 hl.c1
 have l4:=zA4 hl.c4
 have HL:=hid hl
 have HD:=hid h
 have HC:=hid hc
 have HCF:=hid hcf
 have HOK:=hid hok
 have HLF:=hid hlf
 have HWL:=hid hwl
 clear hl h hc hcf hok hlf hwl
 have hb1:fr+next≤60:=by omega
 go_enter Tryz.func140, Tryz.ntmps140
 go_wp2_with fail
 refine zA6 (by kernel_rfl) (by kernel_rfl) ?_
 repeat (go_big_quiet_step (fail))
 refine wpQuiet_nil ?_
 intro w1 hb1
 have HB1:=hid hb1
 clear hb1 l1 l4
 go_wp2_with fail
 go_loopw [22] (fun iv wr=>∃(k:Nat) (L1:Dk) (D1:DiskS),k≤c.length∧iv= .int .i64 k∧zK2 fr first next k (c.drop k) D1=zK2 fr first next 0 c D∧L1.b=L.b∧DiskAt wr L1 D1∧Off L.foot w wr∧(∀x,L1.foot x→L.foot x∨w.heap.size≤x)∧D1.ok∧D1.wait.length≤D.wait.length+k) (fun iv _=>c.length - (intOf iv).toNat)
 case atStart=>exact ⟨0,L,D,Nat.zero_le _,rfl,rfl,rfl,HD.out.below HB1.out,zB7 HB1.out _,fun _ h=>Or.inl h,HOK.out,Nat.le_refl _⟩
 case round=>
  obtain ⟨k,L1,D1,hk,rfl,hrows,hb,hd,ho,hg,hok,hwl⟩:=hrel
  have HRO:=hid hrows
  have HBE:=hid hb
  have HD1:=hid hd
  have HO:=hid ho
  have HG:=hid hg
  have HOK1:=hid hok
  have HWL1:Hid (D1.wait.length≤1000000):=hid (by have:=HWL.out;omega)
  have HWK:=hid hwl
  have HLF1:Hid (¬L1.foot lb):=hid (fun h=>by
   rcases hg lb h with h | h
   · exact HLF.out h
   · have:=HL.out.lt;omega)
  have HLW:Hid (∀W,Below wr.heap.size wr W→LogAt W lb L fr many first next):=hid fun W hW=>(HL.out.off (L' :=L) ho HLF.out rfl).below hW
  have HDW:Hid (∀W,Below wr.heap.size wr W→DiskAt W L1 D1):=hid fun W hW=>hd.below hW
  have HOW:Hid (∀W,Below wr.heap.size wr W→Off L.foot w W):=hid fun W hW=>ho.trans (zB7 hW L.foot) (fun _ _ h=>h)
  clear hrows hb hd ho hg hok hwl
  by_cases hlt:k<c.length
  · obtain ⟨cb,cof,rfl,hlb,x0,x1,x2⟩:=Changes.cell (HC.out.off HO.out).rd k hlt
    obtain ⟨x,hx⟩:∃x,x=c[k]:=⟨_,rfl⟩
    have hxf:zA2 x=0:=by rw [hx];exact HCF.out _ (List.getElem_mem hlt)
    obtain ⟨hb0,hb33, -⟩:=zP1 x hxf
    have CB:=fun W=>vZ3 x W (by have:=(zY7 hxf).1;unfold maxLen;omega) (by have:=(zY7 hxf).2;unfold maxLen;omega)
    rw [hb0] at CB
    obtain ⟨s,hs⟩:∃s,s=(zB3 x).1:=⟨_,rfl⟩
    rw [←hs] at CB hb33
    have CT:Hid (∀W,Calls Tryz.prog 142 #[.int .u8 111, .int .i64 ((first:Int)+next+k), .string s] W fun e w' =>e= .returned (.string (zL2 111 (first+next+k) s))∧Below W.heap.size W w'):=hid fun W=>by
     have:=vK9 111 (first+next+k) s W (by omega) hb33
     simpa using this
    obtain ⟨t,ht⟩:∃t,t=zL2 111 (first+next+k) s:=⟨_,rfl⟩
    rw [←ht] at CT
    obtain ⟨⟨D2,n2⟩,hp⟩:∃p,p=zB9 D1 ((fr+next+k:Nat):Int) t:=⟨_,rfl⟩
    have CW:Hid (∀W,Below wr.heap.size wr W→Calls Tryz.prog 8 #[.pointer (some ⟨L.b,0,none⟩), .int .i64 ((fr:Int)+next+k), .string t] W fun e w' =>e= .returned (zE6 n2)∧Turned 72 75 W L1 D2 w'):=hid fun W hW=>by
     have:=zN1 L1 D1 ((fr+next+k:Nat):Int) t W (HDW.out W hW) HOK1.out HWL1.out
     rw [←hp,HBE.out] at this
     simpa using this
    have hpw:zB9 D1 ((fr+next+k:Nat):Int) (zL2 111 (first+next+k) (zB3 c[k]).1)=(D2,n2):=by rw [hp,ht,hs,hx]
    have HOK2:Hid (D2.ok):=hid (by have:=HOK1.out.write ((fr+next+k:Nat):Int) t;rw [←hp] at this;exact this)
    have HWL2:Hid (D2.wait.length≤D.wait.length+(k+1)):=hid (by have h1:=zO6 D1 ((fr+next+k:Nat):Int) t;rw [←hp] at h1;have h2:=HWK.out;dsimp only at h1;omega)
    have HPW:=hid hpw
    replace CB:=hid CB
    rw [←hx] at x0 x1 x2
    obtain ⟨W2,hW2⟩:∃W2,W2=wr.alloc (.cells #[.string x.key, .string x.val, .bool x.gone] 109):=⟨_,rfl⟩
    have HB2:Hid (Below wr.heap.size wr W2):=hid (by rw [hW2];exact zA0 _ _)
    have HW2:=hid hW2
    have hk60:fr+next+k≤200:=by omega
    have hk61:first+next+k≤2000000:=by omega
    have hwr1:=zU9 ((first:Int)+next) (by omega) (by omega)
    have hwr2:=zU9 ((first:Int)+next+k) (by omega) (by omega)
    have hwr3:=zU9 ((fr:Int)+next+k) (by omega) (by omega)
    clear hs ht hp hpw hx hxf hb0 hb33 hW2
    go_wp2_with fail
    rw [←HW2.out]
    refine (CB.out _).mono ?_
    rintro e w3 ⟨rfl,hb3⟩
    have HB3:=hid (two HB2.out hb3)
    rw [zD2]
    clear hb3 x0 x1 x2
    go_wp2_with fail
    have HB3D:=hid HB3.out.drew
    have HSB:Hid (∀W,LogAt W lb L fr many first next→W.cell? ⟨lb,0,none⟩=some (.pointer (some ⟨L.b,0,none⟩))∧W.cell? ⟨lb,3,none⟩=some (.int .i64 first)∧W.cell? ⟨lb,4,none⟩=some (.int .i64 next)):=hid fun W h=>⟨h.c0,h.c3,h.c4⟩
    go_region_held3 (fun W=>W.cell? ⟨lb,0,none⟩=some (.pointer (some ⟨L.b,0,none⟩))∧W.cell? ⟨lb,3,none⟩=some (.int .i64 first)∧W.cell? ⟨lb,4,none⟩=some (.int .i64 next))
     (first
      | exact HSB.out _ (HLW.out _ HB3D.out)
      | exact HSB.out _ (HLW.out _ (HB4:Hid _).out)
      | exact HSB.out _ (HL5:Hid _).out)
     (first
      | (go_at_call 142;refine (CT.out _).mono ?_;rintro e wA ⟨rfl,hbA⟩;have HB4:=hid (two HB3D.out hbA);clear hbA)
      | (go_at_call 8;refine (CW.out _ HB4.out).mono ?_;rintro e wB ⟨rfl,tB⟩;have HT5:=hid tB;have HL5:=hid ((HLW.out _ HB4.out).off (L' :=L) tB.offY HLF1.out rfl);clear tB))
    all_goals
     have HT6:=hid (Turned.trans HBE.out (HOW.out _ HB4.out) HG.out HT5.out)
     by_cases hn2:n2=0
     · have HR2:=hid (xV8 hlt (by rw [HPW.out,hn2]))
       rw [show zE6 n2= .nilIface by rw [hn2];rfl]
       clear hn2
       go_wp2_with fail
       go_roundw
       case rel=>
        obtain ⟨L2,e2,d2,o2,g2⟩:=HT6.out
        exact ⟨k+1,L2,D2,by omega,by go_num,by rw [←HR2.out];exact HRO.out,e2,d2,o2,g2,HOK2.out,HWL2.out⟩
       case measure=>simp [intOf];omega
     · have HR2:=hid (vE6 hlt HPW.out hn2)
       have HN2:=hid hn2
       rw [zA5 hn2]
       clear hn2
       go_wp2_with fail
       go_ret
       have hlay:xI8 fr many first next c D=(D2,n2):=by
        unfold xI8
        rw [←HRO.out,HR2.out,zE0 HN2.out]
       rw [hlay]
       exact ⟨by rw [zA5 HN2.out];rfl,HT6.out⟩
  · obtain rfl:k=c.length:=by omega
    have hrow:zK2 fr first next 0 c D=(D1,0):=by rw [←HRO.out,List.drop_length];rfl
    have hlay:xI8 fr many first next c D=yR7 fr many next c.length D1:=by unfold xI8;rw [hrow,zD7 rfl]
    have HLAY:=hid hlay
    have l2:=(HLW.out wr (Below.refl _ _)).c2
    have l4:=(HLW.out wr (Below.refl _ _)).c4
    have l0:=zA4 (HLW.out wr (Below.refl _ _)).c0
    have l1:=zA4 (HLW.out wr (Below.refl _ _)).c1
    have hk60:next+c.length+1≤200:=by omega
    have hwr3:=zU9 ((fr:Int)+((next:Int)+c.length+1)) (by omega) (by omega)
    clear hrow hlay
    by_cases hend:next+c.length+1<many
    · have hend2:(next:Int)+c.length+1<many:=by omega
      obtain ⟨⟨D2,n2⟩,hp⟩:∃p,p=zB9 D1 ((fr+(next+c.length+1):Nat):Int) ⟨#[]⟩:=⟨_,rfl⟩
      have CW:Hid (∀W,Below wr.heap.size wr W→Calls Tryz.prog 8 #[.pointer (some ⟨L.b,0,none⟩), .int .i64 ((fr:Int)+((next:Int)+c.length+1)), .string ⟨#[]⟩] W fun e w' =>e= .returned (zE6 n2)∧Turned 72 75 W L1 D2 w'):=hid fun W hW=>by
       have:=zN1 L1 D1 ((fr+(next+c.length+1):Nat):Int) ⟨#[]⟩ W (HDW.out W hW) HOK1.out HWL1.out
       rw [←hp,HBE.out] at this
       simpa using this
      have HLA2:Hid (xI8 fr many first next c D=(D2,n2)):=hid (by rw [HLAY.out,yR7,if_pos hend,hp])
      clear hp hend
      go_wp2_with fail
      have HBD:Hid (Below wr.heap.size wr wr.drew):=hid (Below.refl _ _).drew
      have HSB:Hid (∀W,LogAt W lb L fr many first next→W.cell? ⟨lb,0,none⟩=some (.pointer (some ⟨L.b,0,none⟩))∧W.cell? ⟨lb,1,none⟩=some (.int .i64 fr)):=hid fun W h=>⟨h.c0,h.c1⟩
      go_region_held3 (fun W=>W.cell? ⟨lb,0,none⟩=some (.pointer (some ⟨L.b,0,none⟩))∧W.cell? ⟨lb,1,none⟩=some (.int .i64 fr))
       (first
        | exact HSB.out _ (HLW.out _ HBD.out)
        | exact HSB.out _ (HL5:Hid _).out)
       (first
        | (go_at_call 8;refine (CW.out _ HBD.out).mono ?_;rintro e wB ⟨rfl,tB⟩;have HT5:=hid tB;have HL5:=hid ((HLW.out _ HBD.out).off (L' :=L) tB.offY HLF1.out rfl);clear tB))
      all_goals
       have HT6:=hid (Turned.trans HBE.out (HOW.out _ HBD.out) HG.out HT5.out)
       clear l0 l1 l2 l4
       go_wp2_with fail
       go_ret
       rw [HLA2.out]
       exact ⟨rfl,HT6.out⟩
    · have hend2:¬(next:Int)+c.length+1<many:=by omega
      have HLA2:Hid (xI8 fr many first next c D=(D1,0)):=hid (by rw [HLAY.out,yR7,if_neg hend])
      clear hend
      go_wp2_with fail
      go_ret
      rw [HLA2.out]
      exact ⟨rfl,L1,HBE.out,HD1.out,HO.out,HG.out⟩
open Go.RowKit Go.Sort
theorem Deeds.parts {F:Nat→Prop}{w:World}{v:Value}{ds:List (List Change)}(h:Deeds F w v ds):∃ao cap,v= .slice ao ds.length cap∧ds.length≤cap∧cap≤9223372036854775807:=by
 obtain ⟨vs,h1,h2,_⟩:=h
 obtain ⟨ao,cap,e,a,b⟩:=h1.rd.parts
 rw [h2] at e a
 exact ⟨ao,cap,e,a,b⟩
theorem Deeds.cell {F:Nat→Prop}{w:World}{ao:Option Addr}{n cap:Nat}{ds:List (List Change)}(h:Deeds F w (.slice ao n cap) ds)(k:Nat)(hk:k<ds.length):
 ∃b off v,ao=some ⟨b,off,none⟩∧w.cell? ⟨b,off+k,none⟩=some v∧ChangesF F w v ds[k]:=by
 obtain ⟨vs,h1,h2,h3⟩:=h
 have hk2:k<vs.length:=by omega
 obtain ⟨b,off,e,_,hc⟩:=Rd.at (k:=1) (enc:=fun x:Value=> [x]) (fun _=>rfl) (by decide) h1.rd k hk2
 have:=hc 0 vs[k] rfl
 exact ⟨b,off,vs[k],e,by simpa using this,h3 k hk2 hk⟩
end Go.Proofs.YtggpodlecljcbabGreatDoor
