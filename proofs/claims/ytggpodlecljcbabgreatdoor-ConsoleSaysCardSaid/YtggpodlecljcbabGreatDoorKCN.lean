/- The document's session: a line said, case by case. Printed by wip/mk_rsay.py. -/
import Derived.BigQuiet
import Derived.Test.YtggpodlecljcbabGreatDoorKCL
namespace Go.Proofs.YtggpodlecljcbabGreatDoor
set_option linter.unusedSimpArgs false
set_option linter.unusedVariables false
set_option maxRecDepth 100000
set_option maxHeartbeats 64000000
open Lib (hid)
open Go.RowKit Go.Sort
theorem SaidR.after {w w1 w' :World}{mx:Nat}{X:Quilt × ByteArray}{e:Ending}(h:SaidR w1 mx X e w')(hb:Below w.heap.size w w1):SaidR w mx X e w' :=⟨h.1,h.2.1,(zB7 hb _).trans h.2.2 (fun _ _ h=>h)⟩
theorem vZ5 (w:World)(mx:Nat)(q:Quilt)(v:Value)(a x y:ByteArray)(wb wo wc:Nat)(h:RefS w mx q v)(hgood:Good q)(htx:Texts w (.slice (some ⟨wb,wo,none⟩) 3 wc) [a,x,y])(hxs:x.size≤1000)(hys:y.size≤1000):
 Calls Tryz.prog 48 #[.pointer (some ⟨mx,0,none⟩), .slice (some ⟨wb,wo,none⟩) 3 wc] w (SaidR w mx (vW3 q a x y)):=by
 unfold vW3
 by_cases h0:a=xK2
 · rw [if_pos h0]
   by_cases hy:y=⟨#[]⟩
   · rw [if_pos hy]
     exact xC3 w mx q v a x y wb wo wc h htx hxs hys (zE4 h0) hy
   rw [if_neg hy]
   by_cases hd:y=yE1
   · have e:zU8 y=⟨#[]⟩:=by unfold zU8;rw [if_pos hd]
     rw [e]
     exact xI3 w mx q v a x y wb wo wc h hgood htx hxs hys (zE4 h0) hd
   · have e:zU8 y=y:=by unfold zU8;rw [if_neg hd]
     rw [e]
     exact xC2 w mx q v a x y wb wo wc h hgood htx hxs hys (zE4 h0) hy hd
 rw [if_neg h0]
 by_cases h1:a=xT4
 · rw [if_pos h1]
   exact xI2 w mx q v a x y wb wo wc h hgood htx hxs hys (zB4 h0) (zE4 h1)
 rw [if_neg h1]
 by_cases h2:a=xO2
 · rw [if_pos h2]
   exact xI0 w mx q v a x y wb wo wc h hgood htx hxs hys (zB4 h0) (zB4 h1) (zE4 h2)
 rw [if_neg h2]
 by_cases h3:a=zX8
 · rw [if_pos h3]
   by_cases hx:0≤zO8 x
   · by_cases hy:0≤zO8 y
     · rw [if_pos ⟨hx,hy⟩]
       by_cases hc:2<zO8 x
       · rw [if_pos hc]
         exact yO5 w mx q v a x y wb wo wc h htx hxs hys (zB4 h0) (zB4 h1) (zB4 h2) (zE4 h3) hx hy hc
       · rw [if_neg hc]
         exact yO4 w mx q v a x y wb wo wc h htx hxs hys (zB4 h0) (zB4 h1) (zB4 h2) (zE4 h3) hx hy hc
     · rw [if_neg (fun e=>hy e.2)]
       exact yO6 w mx q v a x y wb wo wc h htx hxs hys (zB4 h0) (zB4 h1) (zB4 h2) (zE4 h3) hx (by omega)
   · rw [if_neg (fun e=>hx e.1)]
     exact yO7 w mx q v a x y wb wo wc h htx hxs hys (zB4 h0) (zB4 h1) (zB4 h2) (zE4 h3) (by omega)
 rw [if_neg h3]
 exact xI1 w mx q v a x y wb wo wc h htx hxs hys (zB4 h0) (zB4 h1) (zB4 h2) (zB4 h3)
theorem zJ9 (s:ByteArray)(l:List ByteArray)(n:Nat)(w:World)(hs:s.size≤1000)(hw:zB5 s=l)(hn:l.length=n):Calls Tryz.prog 42 #[.string s] w fun e w' =>∃o c,e= .returned (.slice o n c)∧Texts w' (.slice o n c) l∧Below w.heap.size w w' :=by
 subst hw
 subst hn
 refine (vZ6 s w hs).mono ?_
 rintro e w' ⟨v,rfl,ho,hb⟩
 have ht:Texts w' v (zB5 s):=SL.of_own ho
 obtain ⟨o,c,rfl,_,_⟩:=Rd.parts ht
 exact ⟨o,c,rfl,ht,hb⟩
theorem yC4 {w:World}{o:Option Addr}{c:Nat}{a b:ByteArray}(htx:Texts w (.slice o 2 c) [a,b]):∃wb wo,o=some ⟨wb,wo,none⟩∧w.cell? ⟨wb,wo,none⟩=some (.string a)∧w.cell? ⟨wb,wo+1,none⟩=some (.string b)∧2≤c∧c≤9223372036854775807:=by
 obtain ⟨wb,wo,rfl,hwl,x0⟩:=Texts.cell htx 0 (by simp)
 obtain ⟨wb1,wo1,e1,_,x1⟩:=Texts.cell htx 1 (by simp)
 cases e1
 obtain ⟨_,_,ewc,hwc,hwm⟩:=htx.parts
 cases ewc
 exact ⟨wb,wo,rfl,x0,x1,hwc,hwm⟩
structure FAt (w:World) (b:Nat) (f:File):Prop where
 c0:w.cell? ⟨b,0,none⟩=some (.string f.name)
 c1:w.cell? ⟨b,1,none⟩=some (.string f.text)
 c2:w.cell? ⟨b,2,none⟩=some (.int .i64 f.times)
 f0:w.frozen? ⟨b,0,none⟩=false
 f1:w.frozen? ⟨b,1,none⟩=false
 f2:w.frozen? ⟨b,2,none⟩=false
 lt:b<w.heap.size
theorem FAt.new (w:World)(f:File):FAt (w.alloc (.cells #[.string f.name, .string f.text, .int .i64 f.times] 102)) w.heap.size f:=⟨by simp,by simp,by simp,by simp,by simp,by simp,by simp⟩
theorem FAt.below {w w' :World}{b:Nat}{f:File}(h:FAt w b f)(hb:Below w.heap.size w w'):FAt w' b f:=by
 obtain ⟨k,fr⟩:=zN2 hb
 exact ⟨(k _ _ h.lt).trans h.c0,(k _ _ h.lt).trans h.c1,(k _ _ h.lt).trans h.c2,(fr _ _ h.lt).trans h.f0,(fr _ _ h.lt).trans h.f1,(fr _ _ h.lt).trans h.f2,Nat.lt_of_lt_of_le h.lt hb.size⟩
theorem FAt.set {w:World}{b:Nat}{f:File}(h:FAt w b f)(g:File):FAt (((w.setCell ⟨b,0,none⟩ (.string g.name)).setCell ⟨b,1,none⟩ (.string g.text)).setCell ⟨b,2,none⟩ (.int .i64 g.times)) b g:=by
 have o1:∀(W:World) (v:Value) (i j:Nat),i≠j→(W.setCell ⟨b,i,none⟩ v).cell? ⟨b,j,none⟩=W.cell? ⟨b,j,none⟩:=fun W v i j hij=>World.cell?_setCell_other _ _ _ _ (by intro h;cases h;exact hij rfl)
 refine ⟨?_,?_,?_,?_,?_,?_,by simpa using h.lt⟩
 · rw [o1 _ _ 2 0 (by decide),o1 _ _ 1 0 (by decide)];exact World.cell?_setCell_same _ _ _ h.c0
 · rw [o1 _ _ 2 1 (by decide)];exact World.cell?_setCell_same _ _ _ ((o1 _ _ 0 1 (by decide)).trans h.c1)
 · exact World.cell?_setCell_same _ _ _ ((o1 _ _ 1 2 (by decide)).trans ((o1 _ _ 0 2 (by decide)).trans h.c2))
 · rw [World.frozen?_setCell,World.frozen?_setCell,World.frozen?_setCell];exact h.f0
 · rw [World.frozen?_setCell,World.frozen?_setCell,World.frozen?_setCell];exact h.f1
 · rw [World.frozen?_setCell,World.frozen?_setCell,World.frozen?_setCell];exact h.f2
theorem yJ9 {B:Nat}{w0 w:World}(h:Below B w0 w)(b:Nat)(hb:B≤b)(x y z:Value):Below B w0 (((w.setCell ⟨b,0,none⟩ x).setCell ⟨b,1,none⟩ y).setCell ⟨b,2,none⟩ z):=((h.setCell (p:=⟨b,0,none⟩) hb x).setCell (p:=⟨b,1,none⟩) hb y).setCell (p:=⟨b,2,none⟩) hb z
def zeroF :File:=⟨⟨#[]⟩,⟨#[]⟩,0⟩
theorem nil_app (x:ByteArray):(⟨#[]⟩:ByteArray)++x=x:=by
 apply ByteArray.ext
 rw [ByteArray.data_append]
 simp
theorem vS4 (l:List ByteArray)(x:ByteArray)(h:l≠ []):yB8 (l++ [x])=yB8 l++⟨#[32]⟩++x:=by
 apply ByteArray.ext
 apply Array.toList_inj.1
 rw [ByteArray.data_append,ByteArray.data_append,Array.toList_append,Array.toList_append]
 unfold yB8
 dsimp only
 rw [List.map_append,List.map_cons,List.map_nil]
 generalize hm:l.map (·.data.toList)=m
 have hm0:m≠ []:=by rw [←hm];simpa using h
 clear hm h
 induction m with
 | nil=>exact absurd rfl hm0
 | cons y r ih=>
  cases r with
  | nil=>simp [Lib.join,List.intercalate_cons_cons,List.intercalate_singleton]
  | cons z r=>
   have:=ih (by simp)
   simp only [Lib.join,List.cons_append] at this ⊢
   rw [List.intercalate_cons_cons,List.intercalate_cons_cons]
   simp only [List.append_assoc] at this ⊢
   rw [this]
theorem uE2 (x:ByteArray):yB8 [x]=x:=by
 unfold yB8
 simp [Lib.join,List.intercalate_singleton]
theorem xW1 (fs:List File)(k:Nat)(h:k<fs.length):yB8 ((fs.take (k+1)).map zR4)=if k=0 then zR4 fs[k] else yB8 ((fs.take k).map zR4)++⟨#[32]⟩++zR4 fs[k]:=by
 rw [List.take_succ_eq_append_getElem h,List.map_append,List.map_cons,List.map_nil]
 split
 · rename_i h0
   subst h0
   rw [List.take_zero,List.map_nil,List.nil_append,uE2]
 · rename_i h0
   exact vS4 _ _ (fun e=>by
    have h1:=congrArg List.length e
    rw [List.length_map,List.length_take,List.length_nil] at h1
    omega)
theorem uJ2 (q:Quilt):yC3 (yB8 (q.files.map zR4))=vV5 q:=by
 unfold vV5
 split
 · rename_i h0
   rw [List.length_eq_zero_iff.1 h0]
   decide +kernel
 · rename_i h0
   unfold yC3
   rw [if_neg]
   intro e
   have hl:=List.length_pos_iff.1 (Nat.pos_of_ne_zero h0)
   have key:1≤(yB8 (q.files.map zR4)).size:=by
    have hn:=xW1 q.files (q.files.length - 1) (by omega)
    rw [show q.files.length - 1+1=q.files.length by omega,List.take_length] at hn
    have hlf:∀f:File,1≤(zR4 f).size:=fun f=>by
     unfold zR4
     rw [ByteArray.size_append,ByteArray.size_append]
     have:(⟨#[61]⟩:ByteArray).size=1:=rfl
     omega
    rw [hn]
    split
    · exact hlf _
    · rw [ByteArray.size_append]
      have:=hlf (q.files[q.files.length - 1]'(by omega))
      omega
   rw [e] at key
   exact absurd key (by decide)
section
variable (w:World) (mx:Nat) (q:Quilt) (v:Value) (line:ByteArray)
theorem vY7 (h:RefS w mx q v)(hsz:50<line.size):
 Calls Tryz.prog 20 #[.pointer (some ⟨mx,0,none⟩), .string line] w (SaidR w mx (q,zP3 4)):=by
 have hz:(50:Int)<(line.size:Int):=by omega
 have HH:=hid h
 have CF:=hid (zK6 4 (by decide) w)
 clear h hsz
 go_enter Tryz.func20, Tryz.ntmps20
 go_wp2_with fail
 refine CF.out.mono ?_
 rintro e w2 ⟨rfl,hb⟩
 have HB:=hid hb
 clear hb
 go_wp2_with fail
 go_ret
 exact HH.out.said HB.out _
theorem vY5 (a:ByteArray)(h:RefS w mx q v)(hsz:line.size≤50)(hw:zB5 line= [a])(g0:(line.toList== [111,112,101,110])=true):
 Calls Tryz.prog 20 #[.pointer (some ⟨mx,0,none⟩), .string line] w (SaidR w mx (q,yK1)):=by
 have hz:¬(50:Int)<(line.size:Int):=by omega
 have HH:=hid h
 have CSP:=hid (zJ9 line [a] 1 w (by omega) hw rfl)
 clear h hsz hw
 go_enter Tryz.func20, Tryz.ntmps20
 go_wp2_with fail
 refine CSP.out.mono ?_
 rintro e w1 ⟨o,c,rfl,htx,hb⟩
 have HTX:=hid htx
 have HB1:=hid hb
 clear htx hb
 go_wp2_with fail
 go_ret
 exact HH.out.said HB1.out yK1
theorem vP5 (a:ByteArray)(h:RefS w mx q v)(hsz:line.size≤50)(hw:zB5 line= [a])(g0:(line.toList== [111,112,101,110])=false)(g1:(line.toList== [115,99,114,117,98])=true):
 Calls Tryz.prog 20 #[.pointer (some ⟨mx,0,none⟩), .string line] w (SaidR w mx (q,yK1)):=by
 have hz:¬(50:Int)<(line.size:Int):=by omega
 have HH:=hid h
 have CSP:=hid (zJ9 line [a] 1 w (by omega) hw rfl)
 clear h hsz hw
 go_enter Tryz.func20, Tryz.ntmps20
 go_wp2_with fail
 refine CSP.out.mono ?_
 rintro e w1 ⟨o,c,rfl,htx,hb⟩
 have HTX:=hid htx
 have HB1:=hid hb
 clear htx hb
 go_wp2_with fail
 go_ret
 exact HH.out.said HB1.out yK1
theorem vY3 (a:ByteArray)(h:RefS w mx q v)(hgood:Good q)(hsz:line.size≤50)(hw:zB5 line= [a])(g0:(line.toList== [111,112,101,110])=false)(g1:(line.toList== [115,99,114,117,98])=false)(g2:(line.toList== [116,117,114,110])=true):
 Calls Tryz.prog 20 #[.pointer (some ⟨mx,0,none⟩), .string line] w (SaidR w mx (q,zP7 q.turn)):=by
 obtain ⟨t,ht⟩:∃t:Nat,q.turn=t:=⟨q.turn.toNat,by have:=hgood.lo;omega⟩
 have CD:Hid (∀W,_):=hid (fun W=>yM1 t (by have:=hgood.hi;omega) W)
 have HR:Hid (xY6 t=zP7 q.turn):=hid (by rw [ht,yH0])
 have hz:¬(50:Int)<(line.size:Int):=by omega
 have HH:=hid h
 have CSP:=hid (zJ9 line [a] 1 w (by omega) hw rfl)
 clear h hsz hw hgood
 go_enter Tryz.func20, Tryz.ntmps20
 go_wp2_with fail
 refine CSP.out.mono ?_
 rintro e w1 ⟨o,c,rfl,htx,hb⟩
 have HTX:=hid htx
 have HB1:=hid hb
 clear htx hb
 have r1:=(zK7 (HH.out.below HB1.out).box).2.1
 rw [ht] at r1
 clear ht
 go_wp2_with fail
 refine (CD.out _).mono ?_
 rintro e w2 ⟨rfl,hb⟩
 have HB:=hid (two HB1.out hb)
 clear hb
 go_wp2_with fail
 go_ret
 rw [HR.out]
 exact HH.out.said HB.out _
theorem vP8 (a:ByteArray)(h:RefS w mx q v)(hsz:line.size≤50)(hw:zB5 line= [a])(g0:(line.toList== [111,112,101,110])=false)(g1:(line.toList== [115,99,114,117,98])=false)(g2:(line.toList== [116,117,114,110])=false)(g3:(line.toList== [97,108,108])=false):
 Calls Tryz.prog 20 #[.pointer (some ⟨mx,0,none⟩), .string line] w (SaidR w mx (q,zP3 4)):=by
 have CF:Hid (∀W,_):=hid (fun W=>zK6 4 (by decide) W)
 have hz:¬(50:Int)<(line.size:Int):=by omega
 have HH:=hid h
 have CSP:=hid (zJ9 line [a] 1 w (by omega) hw rfl)
 clear h hsz hw
 go_enter Tryz.func20, Tryz.ntmps20
 go_wp2_with fail
 refine CSP.out.mono ?_
 rintro e w1 ⟨o,c,rfl,htx,hb⟩
 have HTX:=hid htx
 have HB1:=hid hb
 clear htx hb
 go_wp2_with fail
 refine (CF.out _).mono ?_
 rintro e w2 ⟨rfl,hb⟩
 have HB:=hid (two HB1.out hb)
 clear hb
 go_wp2_with fail
 go_ret
 exact HH.out.said HB.out _
theorem uL9 (a:ByteArray)(h:RefS w mx q v)(hgood:Good q)(hsz:line.size≤50)(hw:zB5 line= [a])(g0:(line.toList== [111,112,101,110])=false)(g1:(line.toList== [115,99,114,117,98])=false)(g2:(line.toList== [116,117,114,110])=false)(g3:(line.toList== [97,108,108])=true):
 Calls Tryz.prog 20 #[.pointer (some ⟨mx,0,none⟩), .string line] w (SaidR w mx (q,vV5 q)):=by
 obtain ⟨hszs,hl8⟩:=yJ4 hgood
 have HSZ:=hid hszs
 have HALL:=hid (uJ2 q)
 obtain ⟨vo,vc,rfl,hvc,hvm⟩:=Rd.parts h.fs
 have hz:¬(50:Int)<(line.size:Int):=by omega
 have HH:=hid h
 have CSP:=hid (zJ9 line [a] 1 w (by omega) hw rfl)
 clear h hsz hw hgood hszs
 go_enter Tryz.func20, Tryz.ntmps20
 go_wp2_with fail
 refine CSP.out.mono ?_
 rintro e w1 ⟨o,c,rfl,htx,hb⟩
 have HTX:=hid htx
 have HB1:=hid hb
 clear htx hb
 obtain ⟨n,hn⟩:∃n,n=q.files.length:=⟨_,rfl⟩
 have HN:=hid hn
 rw [←hn] at hl8 hvc
 have hfs1:=(HH.out.below HB1.out).fs
 rw [←hn] at hfs1
 have HFS:=hid hfs1
 have r0:=(zK7 (HH.out.below HB1.out).box).1
 rw [←hn] at r0
 clear hn hfs1
 go_wp2_with fail
 go_loopw [6,7] (fun sv iv wr=>∃(k:Nat) (s:ByteArray),k≤n∧sv= .string s∧iv= .int .i64 k∧Below w1.heap.size w1 wr∧s=yB8 ((q.files.take k).map zR4)∧s.size≤20 * k) (fun _ iv _=>n - (intOf iv).toNat)
 case atStart=>exact ⟨0,⟨#[]⟩,Nat.zero_le _,rfl,rfl,Below.refl _ _,by rw [List.take_zero];decide +kernel,by decide⟩
 case round=>
  obtain ⟨k,s,hk,rfl,rfl,hbr,hs,hss⟩:=hrel
  have HS:=hid hs
  have HBR:=hid hbr
  replace r0:=zA1 hbr r0
  clear hs hbr
  by_cases hlt:k<n
  · have hlt' :k<q.files.length:=by rw [←HN.out];exact hlt
    obtain ⟨fb,fo,hvo,hlb,x0,x1,x2⟩:=Files.cell (by have:=Rd.below HFS.out HBR.out;rw [HN.out] at this;exact this) k hlt'
    subst hvo
    have hff:=HSZ.out q.files[k] (List.getElem_mem hlt')
    have hrn:=xW1 q.files k hlt'
    obtain ⟨f,hfe⟩:∃f,f=q.files[k]:=⟨_,rfl⟩
    rw [←hfe] at x0 x1 x2 hff hrn
    rw [←HS.out] at hrn
    have HRN:=hid hrn
    have CW:Hid (∀W,Calls Tryz.prog 44 #[.string f.text] W fun e w' =>e= .returned (.string (yC3 f.text))∧Below W.heap.size W w'):=hid (fun W=>(xO4 f.text W).mono (by rintro e w' ⟨rfl,rfl⟩;exact ⟨rfl,Below.refl _ _⟩))
    obtain ⟨hf6,hf12,_,_⟩:=hff
    have hwl:=xA9 f.text hf12 (by decide)
    obtain ⟨t,ht⟩:∃t,t=yC3 f.text:=⟨_,rfl⟩
    have HLF:Hid (zR4 f=f.name++⟨#[61]⟩++t):=hid (by rw [ht];rfl)
    rw [←ht] at hwl CW
    have hz1:(⟨#[61]⟩:ByteArray).size=1:=rfl
    have hz2:(⟨#[32]⟩:ByteArray).size=1:=rfl
    clear hrn hfe ht hlt'
    by_cases hk0:k=0
    · skip
      have hkk:¬(0:Int)<(k:Int):=by omega
      have HE:Hid (yB8 ((q.files.take (k+1)).map zR4)=s++f.name++⟨#[61]⟩++t):=hid (by
       have e0:s=⟨#[]⟩:=by rw [HS.out,hk0,List.take_zero];decide +kernel
       rw [HRN.out,if_pos hk0,HLF.out,e0,nil_app])
      have u0:s.size≤20 * k+1:=by omega
      have u1:(s++f.name).size≤20 * k+7:=by rw [ByteArray.size_append];omega
      have u2:(s++f.name++⟨#[61]⟩).size≤20 * k+8:=by rw [ByteArray.size_append];omega
      have u3:(s++f.name++⟨#[61]⟩++t).size≤20 * (k+1):=by rw [ByteArray.size_append];omega
      have k1:s.size+f.name.size≤9223372036854775807:=by omega
      have k2:¬9223372036854775807<s.size+f.name.size:=by omega
      have k3:(s++f.name).size+1≤9223372036854775807:=by omega
      have k4:¬9223372036854775807<(s++f.name).size+1:=by omega
      have k5:(s++f.name++⟨#[61]⟩).size+t.size≤9223372036854775807:=by omega
      have k6:¬9223372036854775807<(s++f.name++⟨#[61]⟩).size+t.size:=by omega
      have HU:=hid u3
      clear u0 u1 u2 u3 hk0
      go_wp2_with fail
      replace x0:=zA4 x0
      replace x1:=zA4 x1
      replace r0:=zA4 r0
      refine zA6 (by kernel_rfl) (by kernel_rfl) ?_
      repeat (go_big_quiet_step (first | (go_at_call 44;exact Calls.regrown_of (CW.out _))))
      refine wpQuiet_nil ?_
      intro w5 hb5
      have HB5:=hid (two HBR.out hb5)
      clear hb5
      go_wp2_with fail
      go_roundw
      case rel=>exact ⟨k+1,_,by omega,rfl,by go_num,HB5.out,HE.out.symm,HU.out⟩
      case measure=>simp [intOf];omega
    · skip
      have hkk:(0:Int)<(k:Int):=by omega
      have k7:s.size+1≤9223372036854775807:=by omega
      have k8:¬9223372036854775807<s.size+1:=by omega
      have HE:Hid (yB8 ((q.files.take (k+1)).map zR4)=(s++⟨#[32]⟩)++f.name++⟨#[61]⟩++t):=hid (by
       rw [HRN.out,if_neg hk0,HLF.out]
       simp only [ByteArray.append_assoc])
      have u0:(s++⟨#[32]⟩).size≤20 * k+1:=by rw [ByteArray.size_append];omega
      have u1:((s++⟨#[32]⟩)++f.name).size≤20 * k+7:=by rw [ByteArray.size_append];omega
      have u2:((s++⟨#[32]⟩)++f.name++⟨#[61]⟩).size≤20 * k+8:=by rw [ByteArray.size_append];omega
      have u3:((s++⟨#[32]⟩)++f.name++⟨#[61]⟩++t).size≤20 * (k+1):=by rw [ByteArray.size_append];omega
      have k1:(s++⟨#[32]⟩).size+f.name.size≤9223372036854775807:=by omega
      have k2:¬9223372036854775807<(s++⟨#[32]⟩).size+f.name.size:=by omega
      have k3:((s++⟨#[32]⟩)++f.name).size+1≤9223372036854775807:=by omega
      have k4:¬9223372036854775807<((s++⟨#[32]⟩)++f.name).size+1:=by omega
      have k5:((s++⟨#[32]⟩)++f.name++⟨#[61]⟩).size+t.size≤9223372036854775807:=by omega
      have k6:¬9223372036854775807<((s++⟨#[32]⟩)++f.name++⟨#[61]⟩).size+t.size:=by omega
      have HU:=hid u3
      clear u0 u1 u2 u3 hk0
      go_wp2_with fail
      replace x0:=zA4 x0
      replace x1:=zA4 x1
      replace r0:=zA4 r0
      refine zA6 (by kernel_rfl) (by kernel_rfl) ?_
      repeat (go_big_quiet_step (first | (go_at_call 44;exact Calls.regrown_of (CW.out _))))
      refine wpQuiet_nil ?_
      intro w5 hb5
      have HB5:=hid (two HBR.out hb5)
      clear hb5
      go_wp2_with fail
      go_roundw
      case rel=>exact ⟨k+1,_,by omega,rfl,by go_num,HB5.out,HE.out.symm,HU.out⟩
      case measure=>simp [intOf];omega
  · obtain rfl:k=n:=by omega
    have HW:Hid (yC3 s=vV5 q):=hid (by rw [HS.out,HN.out,List.take_length];exact HALL.out)
    have CW:Hid (∀W,Calls Tryz.prog 44 #[.string s] W fun e w' =>e= .returned (.string (yC3 s))∧w' =W):=hid (fun W=>xO4 s W)
    go_wp2_with fail
    refine (CW.out _).mono ?_
    rintro e w5 ⟨rfl,rfl⟩
    go_wp2_with fail
    go_ret
    rw [HW.out]
    exact HH.out.said (two HB1.out HBR.out) _
theorem vP7 (a b:ByteArray)(h:RefS w mx q v)(hgood:Good q)(hsz:line.size≤50)(hw:zB5 line= [a,b])(g0:(a.toList== [114,101,97,100])=false)(g1:(a.toList== [100,105,102,102])=false)(g2:(a.toList== [100,114,111,112])=false):
 Calls Tryz.prog 20 #[.pointer (some ⟨mx,0,none⟩), .string line] w (SaidR w mx (q,zP3 4)):=by
 have CF:Hid (∀W,_):=hid (fun W=>zK6 4 (by decide) W)
 have hz:¬(50:Int)<(line.size:Int):=by omega
 have HH:=hid h
 have CSP:=hid (zJ9 line [a,b] 2 w (by omega) hw rfl)
 clear h hsz hw
 go_enter Tryz.func20, Tryz.ntmps20
 go_wp2_with fail
 refine CSP.out.mono ?_
 rintro e w1 ⟨o,c,rfl,htx,hb⟩
 have HTX:=hid htx
 have HB1:=hid hb
 clear htx hb
 obtain ⟨wb,wo,rfl,x0,x1,hwc,hwm⟩:=yC4 HTX.out
 go_wp2_with fail
 refine (CF.out _).mono ?_
 rintro e w2 ⟨rfl,hb⟩
 have HB:=hid (two HB1.out hb)
 clear hb
 go_wp2_with fail
 go_ret
 exact HH.out.said HB.out _
theorem xT6 (a b:ByteArray)(h:RefS w mx q v)(hgood:Good q)(hsz:line.size≤50)(hw:zB5 line= [a,b])(g0:(a.toList== [114,101,97,100])=false)(g1:(a.toList== [100,105,102,102])=true)(g2:(a.toList== [100,114,111,112])=false)(hb:zO8 b<0):
 Calls Tryz.prog 20 #[.pointer (some ⟨mx,0,none⟩), .string line] w (SaidR w mx (q,zP3 4)):=by
 have CF:Hid (∀W,_):=hid (fun W=>zK6 4 (by decide) W)
 have CN:Hid (∀W,_):=hid (fun W=>zJ1 b W (by have:=yA6 (show b∈zB5 line by rw [hw];simp);omega))
 obtain ⟨n,hn⟩:∃n,n=zO8 b:=⟨_,rfl⟩
 rw [←hn] at *
 have hz:¬(50:Int)<(line.size:Int):=by omega
 have HH:=hid h
 have CSP:=hid (zJ9 line [a,b] 2 w (by omega) hw rfl)
 clear h hsz hw
 go_enter Tryz.func20, Tryz.ntmps20
 go_wp2_with fail
 refine CSP.out.mono ?_
 rintro e w1 ⟨o,c,rfl,htx,hb⟩
 have HTX:=hid htx
 have HB1:=hid hb
 clear htx hb
 obtain ⟨wb,wo,rfl,x0,x1,hwc,hwm⟩:=yC4 HTX.out
 go_wp2_with fail
 refine (CN.out _).mono ?_
 rintro e w2 ⟨rfl,rfl⟩
 go_wp2_with fail
 refine (CF.out _).mono ?_
 rintro e w2 ⟨rfl,hb⟩
 have HB:=hid (two HB1.out hb)
 clear hb
 go_wp2_with fail
 go_ret
 exact HH.out.said HB.out _
theorem xT7 (a b:ByteArray)(h:RefS w mx q v)(hgood:Good q)(hsz:line.size≤50)(hw:zB5 line= [a,b])(g0:(a.toList== [114,101,97,100])=false)(g1:(a.toList== [100,105,102,102])=true)(ha:0≤zO8 b)(hb:2<zO8 b):
 Calls Tryz.prog 20 #[.pointer (some ⟨mx,0,none⟩), .string line] w (SaidR w mx (q,zP3 5)):=by
 have CF:Hid (∀W,_):=hid (fun W=>zK6 5 (by decide) W)
 have CN:Hid (∀W,_):=hid (fun W=>zJ1 b W (by have:=yA6 (show b∈zB5 line by rw [hw];simp);omega))
 obtain ⟨n,hn⟩:∃n,n=zO8 b:=⟨_,rfl⟩
 rw [←hn] at *
 have hz:¬(50:Int)<(line.size:Int):=by omega
 have HH:=hid h
 have CSP:=hid (zJ9 line [a,b] 2 w (by omega) hw rfl)
 clear h hsz hw
 go_enter Tryz.func20, Tryz.ntmps20
 go_wp2_with fail
 refine CSP.out.mono ?_
 rintro e w1 ⟨o,c,rfl,htx,hb⟩
 have HTX:=hid htx
 have HB1:=hid hb
 clear htx hb
 obtain ⟨wb,wo,rfl,x0,x1,hwc,hwm⟩:=yC4 HTX.out
 go_wp2_with fail
 refine (CN.out _).mono ?_
 rintro e w2 ⟨rfl,rfl⟩
 go_wp2_with fail
 refine (CN.out _).mono ?_
 rintro e w2 ⟨rfl,rfl⟩
 go_wp2_with fail
 refine (CF.out _).mono ?_
 rintro e w2 ⟨rfl,hb⟩
 have HB:=hid (two HB1.out hb)
 clear hb
 go_wp2_with fail
 go_ret
 exact HH.out.said HB.out _
theorem vY9 (a b:ByteArray)(h:RefS w mx q v)(hgood:Good q)(hsz:line.size≤50)(hw:zB5 line= [a,b])(g0:(a.toList== [114,101,97,100])=false)(g1:(a.toList== [100,105,102,102])=true)(ha:0≤zO8 b)(hb:¬2<zO8 b):
 Calls Tryz.prog 20 #[.pointer (some ⟨mx,0,none⟩), .string line] w (SaidR w mx (q,yE1)):=by
 have CN:Hid (∀W,_):=hid (fun W=>zJ1 b W (by have:=yA6 (show b∈zB5 line by rw [hw];simp);omega))
 obtain ⟨n,hn⟩:∃n,n=zO8 b:=⟨_,rfl⟩
 rw [←hn] at *
 have hz:¬(50:Int)<(line.size:Int):=by omega
 have HH:=hid h
 have CSP:=hid (zJ9 line [a,b] 2 w (by omega) hw rfl)
 clear h hsz hw
 go_enter Tryz.func20, Tryz.ntmps20
 go_wp2_with fail
 refine CSP.out.mono ?_
 rintro e w1 ⟨o,c,rfl,htx,hb⟩
 have HTX:=hid htx
 have HB1:=hid hb
 clear htx hb
 obtain ⟨wb,wo,rfl,x0,x1,hwc,hwm⟩:=yC4 HTX.out
 go_wp2_with fail
 refine (CN.out _).mono ?_
 rintro e w2 ⟨rfl,rfl⟩
 go_wp2_with fail
 refine (CN.out _).mono ?_
 rintro e w2 ⟨rfl,rfl⟩
 go_wp2_with fail
 go_ret
 exact HH.out.said HB1.out yE1
theorem vP6 (a b:ByteArray)(h:RefS w mx q v)(hgood:Good q)(hsz:line.size≤50)(hw:zB5 line= [a,b])(g0:(a.toList== [114,101,97,100])=true)(hgt:zC6 q.files b=none):
 Calls Tryz.prog 20 #[.pointer (some ⟨mx,0,none⟩), .string line] w (SaidR w mx (q,yP2 q b)):=by
 have HR:Hid (yP2 q b=zP3 5):=hid (by unfold yP2;rw [hgt])
 have CF:Hid (∀W,_):=hid (fun W=>zK6 5 (by decide) W)
 obtain ⟨vo,vc,rfl,hvc,hvm⟩:=Rd.parts h.fs
 have CG:Hid (∀W,Below w.heap.size w W→_):=hid (fun W hb=>zL5 (.slice vo q.files.length vc) q.files b W (Rd.below h.fs hb))
 have HK:Hid (∀W,Below w.heap.size w W→W.cell? ⟨mx,0,none⟩=some (.slice vo q.files.length vc)):=hid (fun W hb=>(zK7 (h.below hb).box).1)
 unfold zO5 at CG
 rw [hgt,show (zT2 (none:Option File)).val= .agg #[.string ⟨#[]⟩, .string ⟨#[]⟩, .int .i64 0] from rfl,Option.isSome_none] at CG
 have hz:¬(50:Int)<(line.size:Int):=by omega
 have HH:=hid h
 have CSP:=hid (zJ9 line [a,b] 2 w (by omega) hw rfl)
 clear h hsz hw hgt
 go_enter Tryz.func20, Tryz.ntmps20
 go_wp2_with fail
 refine CSP.out.mono ?_
 rintro e w1 ⟨o,c,rfl,htx,hb⟩
 have HTX:=hid htx
 have HB1:=hid hb
 clear htx hb
 obtain ⟨wb,wo,rfl,x0,x1,hwc,hwm⟩:=yC4 HTX.out
 have r0:=HK.out _ HB1.out
 have HSK:Hid (∀W,Below w1.heap.size w1 W→W.cell? ⟨mx,0,none⟩=some (.slice vo q.files.length vc)∧W.cell? ⟨wb,wo+1,none⟩=some (.string b)):=hid (fun W hb=>⟨HK.out _ (two HB1.out hb),zA1 hb x1⟩)
 have XE:=hid ((FAt.new w1 zeroF).below (Below.refl _ _).drew)
 have ED:Hid (Below w1.heap.size w1 w1.drew):=hid (Below.refl _ _).drew
 have EA:Hid (Below w1.heap.size w1 (w1.alloc (.cells #[.string ⟨#[]⟩, .string ⟨#[]⟩, .int .i64 0] 102)).drew):=hid (zA0 _ _).drew
 go_wp2_with fail
 go_region_held3 (fun W=>W.cell? ⟨mx,0,none⟩=some (.slice vo q.files.length vc)∧W.cell? ⟨wb,wo+1,none⟩=some (.string b))
  (first
   | exact HSK.out _ ED.out
   | exact HSK.out _ (HE5:Hid _).out
   | exact HSK.out _ (zA0 _ _).drew
   | exact HSK.out _ (two (HE5:Hid _).out (zA0 _ _))
   | exact HSK.out _ (yJ9 (HE5:Hid _).out _ (Nat.le_refl _) _ _ _))
  (first
   | (go_at_call 45;refine (CG.out _ (two HB1.out ED.out)).mono ?_;rintro e w2 ⟨rfl,hb2⟩;have HE5:Hid (Below w1.heap.size w1 w2):=hid (two ED.out hb2);clear hb2)
   | (go_at_call 45;refine (CG.out _ (two HB1.out EA.out)).mono ?_;rintro e w2 ⟨rfl,hb2⟩;have HE5:Hid (Below w1.heap.size w1 w2):=hid (two EA.out hb2);have XF:=hid (XE.out.below hb2);have b0:=XF.out.c0;have b1:=XF.out.c1;have b2:=XF.out.c2;have b3:=XF.out.f0;have b4:=XF.out.f1;have b5:=XF.out.f2;clear hb2))
 all_goals
  first
   | (obtain ⟨W6,bx,hW6,hbx,hE6⟩:∃W6 bx,W6=w2.alloc (.cells #[.string ⟨#[]⟩, .string ⟨#[]⟩, .int .i64 0] 102)∧bx=w2.heap.size∧Below w1.heap.size w1 W6:=⟨_,_,rfl,rfl,two HE5.out (zA0 _ _)⟩
      rw [←hW6,←hbx])
   | (obtain ⟨W6,bx,hW6,hbx,hE6⟩:∃W6 bx,W6=((w2.setCell ⟨w1.heap.size,0,none⟩ (.string ⟨#[]⟩)).setCell ⟨w1.heap.size,1,none⟩ (.string ⟨#[]⟩)).setCell ⟨w1.heap.size,2,none⟩ (.int .i64 0)∧bx=w1.heap.size∧Below w1.heap.size w1 W6:=⟨_,_,rfl,rfl,yJ9 HE5.out _ (Nat.le_refl _) _ _ _⟩
      rw [←hW6,←hbx])
 all_goals
  have HE6:=hid (two HB1.out hE6)
  skip
  clear hW6 hbx hE6
  (try clear XF b0 b1 b2 b3 b4 b5)
  clear x0 x1 r0
  go_wp2_with fail
  refine (CF.out _).mono ?_
  rintro e w3 ⟨rfl,hb⟩
  have HB:=hid hb
  clear hb
  go_wp2_with fail
  go_ret
  rw [HR.out]
  exact HH.out.said (two HE6.out HB.out) _
theorem vY4 (a b:ByteArray)(h:RefS w mx q v)(hgood:Good q)(hsz:line.size≤50)(hw:zB5 line= [a,b])(g0:(a.toList== [114,101,97,100])=true)(f:File)(hgt:zC6 q.files b=some f):
 Calls Tryz.prog 20 #[.pointer (some ⟨mx,0,none⟩), .string line] w (SaidR w mx (q,yP2 q b)):=by
 have HR:Hid (yP2 q b=yC3 f.text++⟨#[32]⟩++zP7 f.times):=hid (by unfold yP2;rw [hgt])
 obtain ⟨vo,vc,rfl,hvc,hvm⟩:=Rd.parts h.fs
 have CG:Hid (∀W,Below w.heap.size w W→_):=hid (fun W hb=>zL5 (.slice vo q.files.length vc) q.files b W (Rd.below h.fs hb))
 have HK:Hid (∀W,Below w.heap.size w W→W.cell? ⟨mx,0,none⟩=some (.slice vo q.files.length vc)):=hid (fun W hb=>(zK7 (h.below hb).box).1)
 unfold zO5 at CG
 obtain ⟨hf6,hf12,ht1,ht9⟩:=(yJ4 hgood).1 f (h_mem hgt)
 obtain ⟨tn,htn⟩:∃tn:Nat,f.times=tn:=⟨f.times.toNat,by omega⟩
 rw [hgt,show (zT2 (some f)).val= .agg #[.string f.name, .string f.text, .int .i64 f.times] from rfl,Option.isSome_some,htn] at CG
 have hwl:=xA9 f.text hf12 (by decide)
 have CW:=xO4 f.text
 obtain ⟨t,ht⟩:∃t,t=yC3 f.text:=⟨_,rfl⟩
 rw [←ht] at hwl CW HR
 have his:=yQ7 tn (by omega)
 have CI:=yM1 tn (by omega)
 rw [←yH0] at CI
 rw [htn] at HR
 have HTN:=hid htn
 obtain ⟨ti,hti⟩:∃ti,ti=zP7 (tn:Int):=⟨_,rfl⟩
 rw [←hti] at his HR CI
 have HCI:=hid CI
 have HCW:Hid (∀W,Calls Tryz.prog 44 #[.string f.text] W fun e w' =>e= .returned (.string t)∧Below W.heap.size W w'):=hid (fun W=>(CW W).mono (by rintro e w' ⟨rfl,rfl⟩;exact ⟨rfl,Below.refl _ _⟩))
 have hsp:(t++⟨#[32]⟩).size≤13:=by
  rw [ByteArray.size_append]
  have:(⟨#[32]⟩:ByteArray).size=1:=rfl
  omega
 have hs3:t.size+1≤9223372036854775807:=by omega
 have hs4:¬9223372036854775807<t.size+1:=by omega
 have hs5:¬9223372036854775807<(t++⟨#[32]⟩).size+ti.size:=by omega
 have hs6:(t++⟨#[32]⟩).size+ti.size≤9223372036854775807:=by omega
 have hs7:t.size+1+ti.size≤9223372036854775807:=by omega
 have hs8:¬9223372036854775807<t.size+1+ti.size:=by omega
 have hz:¬(50:Int)<(line.size:Int):=by omega
 have HH:=hid h
 have CSP:=hid (zJ9 line [a,b] 2 w (by omega) hw rfl)
 clear h hsz hw hgt hgood hf6 ht1 ht9 ht hti CW CI htn
 go_enter Tryz.func20, Tryz.ntmps20
 go_wp2_with fail
 refine CSP.out.mono ?_
 rintro e w1 ⟨o,c,rfl,htx,hb⟩
 have HTX:=hid htx
 have HB1:=hid hb
 clear htx hb
 obtain ⟨wb,wo,rfl,x0,x1,hwc,hwm⟩:=yC4 HTX.out
 have r0:=HK.out _ HB1.out
 have HFN:Hid (∀W:World,FAt (W.alloc (.cells #[.string f.name, .string f.text, .int .i64 (tn:Int)] 102)) W.heap.size f):=hid (fun W=>by rw [←HTN.out];exact FAt.new W f)
 have HFS:Hid (∀(W:World) b,FAt W b zeroF→FAt (((W.setCell ⟨b,0,none⟩ (.string f.name)).setCell ⟨b,1,none⟩ (.string f.text)).setCell ⟨b,2,none⟩ (.int .i64 (tn:Int))) b f):=hid (fun W b h=>by rw [←HTN.out];exact h.set f)
 have HSK:Hid (∀W,Below w1.heap.size w1 W→W.cell? ⟨mx,0,none⟩=some (.slice vo q.files.length vc)∧W.cell? ⟨wb,wo+1,none⟩=some (.string b)):=hid (fun W hb=>⟨HK.out _ (two HB1.out hb),zA1 hb x1⟩)
 have XE:=hid ((FAt.new w1 zeroF).below (Below.refl _ _).drew)
 have ED:Hid (Below w1.heap.size w1 w1.drew):=hid (Below.refl _ _).drew
 have EA:Hid (Below w1.heap.size w1 (w1.alloc (.cells #[.string ⟨#[]⟩, .string ⟨#[]⟩, .int .i64 0] 102)).drew):=hid (zA0 _ _).drew
 go_wp2_with fail
 go_region_held3 (fun W=>W.cell? ⟨mx,0,none⟩=some (.slice vo q.files.length vc)∧W.cell? ⟨wb,wo+1,none⟩=some (.string b))
  (first
   | exact HSK.out _ ED.out
   | exact HSK.out _ (HE5:Hid _).out
   | exact HSK.out _ (zA0 _ _).drew
   | exact HSK.out _ (two (HE5:Hid _).out (zA0 _ _))
   | exact HSK.out _ (yJ9 (HE5:Hid _).out _ (Nat.le_refl _) _ _ _))
  (first
   | (go_at_call 45;refine (CG.out _ (two HB1.out ED.out)).mono ?_;rintro e w2 ⟨rfl,hb2⟩;have HE5:Hid (Below w1.heap.size w1 w2):=hid (two ED.out hb2);clear hb2)
   | (go_at_call 45;refine (CG.out _ (two HB1.out EA.out)).mono ?_;rintro e w2 ⟨rfl,hb2⟩;have HE5:Hid (Below w1.heap.size w1 w2):=hid (two EA.out hb2);have XF:=hid (XE.out.below hb2);have b0:=XF.out.c0;have b1:=XF.out.c1;have b2:=XF.out.c2;have b3:=XF.out.f0;have b4:=XF.out.f1;have b5:=XF.out.f2;clear hb2))
 all_goals
  first
   | (obtain ⟨W6,bx,hW6,hbx,hX6,hE6⟩:∃W6 bx,W6=w2.alloc (.cells #[.string f.name, .string f.text, .int .i64 (tn:Int)] 102)∧bx=w2.heap.size∧FAt W6 bx f∧Below w1.heap.size w1 W6:=⟨_,_,rfl,rfl,HFN.out w2,two HE5.out (zA0 _ _)⟩
      rw [←hW6,←hbx])
   | (obtain ⟨W6,bx,hW6,hbx,hX6,hE6⟩:∃W6 bx,W6=((w2.setCell ⟨w1.heap.size,0,none⟩ (.string f.name)).setCell ⟨w1.heap.size,1,none⟩ (.string f.text)).setCell ⟨w1.heap.size,2,none⟩ (.int .i64 (tn:Int))∧bx=w1.heap.size∧FAt W6 bx f∧Below w1.heap.size w1 W6:=⟨_,_,rfl,rfl,HFS.out w2 w1.heap.size XF.out,yJ9 HE5.out _ (Nat.le_refl _) _ _ _⟩
      rw [←hW6,←hbx])
 all_goals
  have HE6:=hid (two HB1.out hE6)
  have HX6:=hid hX6
  clear hW6 hbx hX6 hE6
  (try clear XF b0 b1 b2 b3 b4 b5)
  clear x0 x1 r0
  have HC3:Hid (∀W,Below W6.heap.size W6 W→W.cell? ⟨bx,1,none⟩=some (.string f.text)∧W.cell? ⟨bx,2,none⟩=some (.int .i64 tn)):=hid fun W hb=>⟨(HX6.out.below hb).c1,by rw [←HTN.out];exact (HX6.out.below hb).c2⟩
  go_wp2_with fail
  go_region_held3 (fun W=>W.cell? ⟨bx,1,none⟩=some (.string f.text)∧W.cell? ⟨bx,2,none⟩=some (.int .i64 tn))
   (first
    | exact HC3.out _ (Below.refl _ _).drew
    | exact HC3.out _ (HBI:Hid _).out
    | exact HC3.out _ (HBA:Hid _).out)
   (first
    | (go_at_call 44;refine (HCW.out _).mono ?_;rintro e wA ⟨rfl,hba⟩;have HBA:Hid (Below W6.heap.size W6 wA):=hid (two (Below.refl _ _).drew hba);clear hba)
    | (go_at_call 43;refine (HCI.out _).mono ?_;rintro e wI ⟨rfl,hbi⟩;have HBI:Hid (Below W6.heap.size W6 wI):=hid (two (HBA:Hid _).out hbi);clear hbi))
 all_goals
  go_wp2_with fail
  go_ret
  rw [HR.out]
  exact HH.out.said (two HE6.out (HBI:Hid _).out) _
theorem vY8 (a b:ByteArray)(h:RefS w mx q v)(hgood:Good q)(hsz:line.size≤50)(hw:zB5 line= [a,b])(g0:(a.toList== [114,101,97,100])=false)(g1:(a.toList== [100,105,102,102])=false)(g2:(a.toList== [100,114,111,112])=true):
 Calls Tryz.prog 20 #[.pointer (some ⟨mx,0,none⟩), .string line] w (SaidR w mx (yK3 q (zF5 q b))):=by
 obtain ⟨vo,vc,rfl,hvc,hvm⟩:=Rd.parts h.fs
 have CD:Hid (∀W,Below w.heap.size w W→_):=hid (fun W hb=>vD2 (.agg #[.slice vo q.files.length vc, .int .i64 q.turn]) q b W ⟨_,rfl,Rd.below h.fs hb⟩ hgood)
 have HK:Hid (∀W,Below w.heap.size w W→W.cell? ⟨mx,0,none⟩=some (.slice vo q.files.length vc)∧W.cell? ⟨mx,1,none⟩=some (.int .i64 q.turn)):=hid (fun W hb=>⟨(zK7 (h.below hb).box).1,(zK7 (h.below hb).box).2.1⟩)
 have CO:Hid (∀W pv,Below w.heap.size w W→Files W pv (zF5 q b).1.files→_):=hid (fun W pv hb hf=>xU1 W mx q _ (h.below hb) (zF5 q b) pv hf (by have:=xM5 q b;omega))
 have hz:¬(50:Int)<(line.size:Int):=by omega
 have HH:=hid h
 have CSP:=hid (zJ9 line [a,b] 2 w (by omega) hw rfl)
 clear h hsz hw hgood
 go_enter Tryz.func20, Tryz.ntmps20
 go_wp2_with fail
 refine CSP.out.mono ?_
 rintro e w1 ⟨o,c,rfl,htx,hb⟩
 have HTX:=hid htx
 have HB1:=hid hb
 clear htx hb
 obtain ⟨wb,wo,rfl,x0,x1,hwc,hwm⟩:=yC4 HTX.out
 obtain ⟨r0,r1⟩:=HK.out _ HB1.out
 go_wp2_with fail
 go_region_with
  (first
   | (go_at_call 32;refine (CD.out _ (two HB1.out (Below.refl _ _).drew)).mono ?_;rintro e w2 ⟨qv,rfl,⟨pv,rfl,hf⟩,hb⟩;obtain ⟨po,pc,rfl,_,_⟩:=Rd.parts hf;have HF:=hid hf;have HB:Hid (Below w.heap.size w w2):=hid (two (two HB1.out (Below.refl _ _).drew) hb);clear hf hb)
   | (go_at_call 47;refine (CO.out _ _ (HB:Hid _).out (HF:Hid _).out).mono ?_;rintro e w3 ⟨rfl,hr,ho⟩;have HR:=hid (And.intro hr ho);clear hr ho))
 all_goals
  go_wp2_with fail
  go_ret
  exact ⟨rfl,(HR:Hid _).out.1,(zB7 (HB:Hid _).out _).trans (HR:Hid _).out.2 (fun _ _ h=>h)⟩
theorem vP4 (a b d:ByteArray)(h:RefS w mx q v)(hgood:Good q)(hsz:line.size≤50)(hw:zB5 line= [a,b,d]):
 Calls Tryz.prog 20 #[.pointer (some ⟨mx,0,none⟩), .string line] w (SaidR w mx (vW3 q a b d)):=by
 have hws:b.size≤1000∧d.size≤1000:=⟨by have:=yA6 (show b∈zB5 line by rw [hw];simp);omega,by have:=yA6 (show d∈zB5 line by rw [hw];simp);omega⟩
 have CT:Hid (∀W wb wo wc,Below w.heap.size w W→Texts W (.slice (some ⟨wb,wo,none⟩) 3 wc) [a,b,d]→_):=hid (fun W wb wo wc hb htx=>vZ5 W mx q v a b d wb wo wc (h.below hb) hgood htx hws.1 hws.2)
 clear hws
 have hz:¬(50:Int)<(line.size:Int):=by omega
 have HH:=hid h
 have CSP:=hid (zJ9 line [a,b,d] 3 w (by omega) hw rfl)
 clear h hsz hw hgood
 go_enter Tryz.func20, Tryz.ntmps20
 go_wp2_with fail
 refine CSP.out.mono ?_
 rintro e w1 ⟨o,c,rfl,htx,hb⟩
 have HTX:=hid htx
 have HB1:=hid hb
 clear htx hb
 obtain ⟨wb,wo,eo,_,_⟩:=Texts.cell HTX.out 0 (by simp)
 subst eo
 go_wp2_with fail
 refine (CT.out _ _ _ _ HB1.out HTX.out).mono ?_
 intro e w2 hs
 obtain ⟨rfl,hr⟩:=id hs
 have HS:=hid hs
 clear hs hr
 go_wp2_with fail
 go_ret
 exact HS.out.after HB1.out
theorem vY6 (n:Nat)(h:RefS w mx q v)(hsz:line.size≤50)(hn:(zB5 line).length=n)(n1:n≠1)(n2:n≠2)(n3:n≠3):
 Calls Tryz.prog 20 #[.pointer (some ⟨mx,0,none⟩), .string line] w (SaidR w mx (q,zP3 4)):=by
 have CF:Hid (∀W,_):=hid (fun W=>zK6 4 (by decide) W)
 have hz:¬(50:Int)<(line.size:Int):=by omega
 have HH:=hid h
 have CSP:=hid (zJ9 line _ n w (by omega) rfl hn)
 have m1:¬(n:Int)=1:=by omega
 have m2:¬(n:Int)=2:=by omega
 have m3:¬(n:Int)=3:=by omega
 clear h hsz hn n1 n2 n3
 go_enter Tryz.func20, Tryz.ntmps20
 go_wp2_with fail
 refine CSP.out.mono ?_
 rintro e w1 ⟨o,c,rfl,htx,hb⟩
 have HB1:=hid hb
 clear htx hb
 go_wp2_with fail
 refine (CF.out _).mono ?_
 rintro e w2 ⟨rfl,hb⟩
 have HB:=hid (two HB1.out hb)
 clear hb
 go_wp2_with fail
 go_ret
 exact HH.out.said HB.out _
end
open Go.RowKit Go.Sort
theorem ref_Say (w:World)(mx:Nat)(q:Quilt)(v:Value)(line:ByteArray)(h:RefS w mx q v)(hgood:Good q):
 Calls Tryz.prog 20 #[.pointer (some ⟨mx,0,none⟩), .string line] w (SaidR w mx (zS7 q line)):=by
 unfold zS7
 by_cases h50:50<line.size
 · rw [if_pos h50];exact vY7 w mx q v line h h50
 rw [if_neg h50]
 have hsz:line.size≤50:=by omega
 match hw:zB5 line with
 | []=>
  exfalso
  have h1:=xJ6 line
  rw [hw] at h1
  exact yN8 _ (List.length_eq_zero_iff.1 h1.symm)
 | [a]=>
  dsimp only
  by_cases h1:line=sOpen
  · rw [if_pos (Or.inl h1)];exact vY5 w mx q v line a h hsz hw (zE4 h1)
  by_cases h2:line=vJ3
  · rw [if_pos (Or.inr h2)];exact vP5 w mx q v line a h hsz hw (zB4 h1) (zE4 h2)
  rw [if_neg (fun e=>e.elim h1 h2)]
  by_cases h3:line=sTurn
  · rw [if_pos h3];exact vY3 w mx q v line a h hgood hsz hw (zB4 h1) (zB4 h2) (zE4 h3)
  rw [if_neg h3]
  by_cases h4:line=sAll
  · rw [if_pos h4];exact uL9 w mx q v line a h hgood hsz hw (zB4 h1) (zB4 h2) (zB4 h3) (zE4 h4)
  rw [if_neg h4]
  exact vP8 w mx q v line a h hsz hw (zB4 h1) (zB4 h2) (zB4 h3) (zB4 h4)
 | [a,b]=>
  dsimp only
  by_cases h1:a=sRead
  · rw [if_pos h1]
    cases hgt:zC6 q.files b with
    | none=>exact vP6 w mx q v line a b h hgood hsz hw (zE4 h1) hgt
    | some f=>exact vY4 w mx q v line a b h hgood hsz hw (zE4 h1) f hgt
  rw [if_neg h1]
  by_cases h2:a=vC9
  · by_cases hb:0≤zO8 b
    · rw [if_pos ⟨h2,hb⟩]
      by_cases hc:2<zO8 b
      · rw [if_pos hc];exact xT7 w mx q v line a b h hgood hsz hw (zB4 h1) (zE4 h2) hb hc
      · rw [if_neg hc];exact vY9 w mx q v line a b h hgood hsz hw (zB4 h1) (zE4 h2) hb hc
    · have h3:a≠vC8:=fun e=>by rw [h2] at e;revert e;decide
      rw [if_neg (fun e=>hb e.2),if_neg h3]
      exact xT6 w mx q v line a b h hgood hsz hw (zB4 h1) (zE4 h2) (zB4 h3) (by omega)
  rw [if_neg (fun e=>h2 e.1)]
  by_cases h3:a=vC8
  · rw [if_pos h3];exact vY8 w mx q v line a b h hgood hsz hw (zB4 h1) (zB4 h2) (zE4 h3)
  rw [if_neg h3]
  exact vP7 w mx q v line a b h hgood hsz hw (zB4 h1) (zB4 h2) (zB4 h3)
 | [a,b,c]=>exact vP4 w mx q v line a b c h hgood hsz hw
 | a::b::c::d::r=>exact vY6 w mx q v line _ h hsz (congrArg List.length hw) (by simp) (by simp) (by simp)
end Go.Proofs.YtggpodlecljcbabGreatDoor
