/- The walks of chapter 10: the vote. -/
import Derived.Test.YtggpodlecljcbabGreatDoorKB
import Derived.Test.YtggpodlecljcbabGreatDoorKBb
namespace Go.Proofs.YtggpodlecljcbabGreatDoor
set_option linter.unusedSimpArgs false
set_option linter.unusedVariables false
set_option maxRecDepth 100000
set_option maxHeartbeats 64000000
open Lib (hid)
open Go.RowKit Go.Sort

structure CopyV where
 is:Bool
 v:Value
 turn:Int
def CopyV.cells (c:CopyV):List Value:= [.bool c.is,c.v, .int .i64 c.turn]
theorem CopyV.cells_len (c:CopyV):c.cells.length=3:=rfl
def CopyV.val (c:CopyV):Value:= .agg #[.bool c.is,c.v, .int .i64 c.turn]
def IsCopy (w:World)(cv:CopyV)(c:Copy):Prop:=cv.is=c.is∧cv.turn=c.quilt.turn∧Files w cv.v c.quilt.files
theorem IsCopy.below {w w' :World}{cv:CopyV}{c:Copy}(h:IsCopy w cv c)(hb:Below w.heap.size w w'):IsCopy w' cv c:=⟨h.1,h.2.1,h.2.2.below hb⟩
theorem IsCopy.copies {w:World}{cv:CopyV}{c:Copy}(h:IsCopy w cv c):Copies w cv.val c:=by
 obtain ⟨is,v,t⟩:=cv
 obtain ⟨h1,h2,h3⟩:=h
 dsimp only at h1 h2 h3
 subst h1 h2
 exact ⟨v,rfl,h3⟩
abbrev CopyVs :=Rd 3 CopyV.cells
theorem CopyVs.cell {w:World}{ao:Option Addr}{n cap:Nat}{l:List CopyV}(h:CopyVs w (.slice ao n cap) l)(i:Nat)(hi:i<l.length):
 ∃b off,ao=some ⟨b,off,none⟩∧b<w.heap.size∧w.cell? ⟨b,off+i * 3,none⟩=some (.bool l[i].is)∧w.cell? ⟨b,off+i * 3+1,none⟩=some l[i].v∧w.cell? ⟨b,off+i * 3+2,none⟩=some (.int .i64 l[i].turn):=by
 obtain ⟨b,off,e,hb,hc⟩:=Rd.at CopyV.cells_len (by decide) h i hi
 exact ⟨b,off,e,hb,hc 0 _ rfl,hc 1 _ rfl,hc 2 _ rfl⟩

theorem vN5 (xv cv:CopyV)(x c:Copy)(b:Nat)(w:World)(hx:IsCopy w xv x)(hc:IsCopy w cv c)
 (c0:w.cell? ⟨b,0,none⟩=some (.bool cv.is)) (c1:w.cell? ⟨b,1,none⟩=some cv.v) (c2:w.cell? ⟨b,2,none⟩=some (.int .i64 cv.turn)):
 Calls Tryz.prog 58 #[xv.val, .pointer (some ⟨b,0,none⟩)] w fun e w' =>e= .returned (.bool (zC7 c x))∧Below w.heap.size w w' :=by
 have hbl:=World.block_lt_of_cell? w _ c0
 dsimp only at hbl
 obtain ⟨xi,xv,xt⟩:=xv
 have HX:=hid hx
 have HC:=hid hc
 obtain ⟨ao,ca,rfl,hca,hca'⟩:=hx.2.2.parts
 clear hx hc
 go_enter Tryz.func58, Tryz.ntmps58
 unfold CopyV.val
 go_wp2_with fail
 have B1:=hid (zA0 w (.cells #[.bool xi, .slice ao x.quilt.files.length ca, .int .i64 xt] 52))
 refine (yN7 _ _ c x _ (HC.out.below B1.out).copies (HX.out.below B1.out).copies).mono ?_
 rintro e w1 ⟨rfl,hb1⟩
 have HB1:=hid hb1
 clear hb1
 go_wp2_with fail
 go_ret
 exact ⟨rfl,two B1.out HB1.out⟩

def Sign (b:Bool)(w:World)(e:Ending)(w' :World):Prop:=∃n:Int,(b=true→0≤n)∧(b=false→n<0)∧e= .returned (.int .i64 n)∧Below w.heap.size w w'
def IsCopies (w:World)(cvs:List CopyV)(cs:List Copy):Prop:=cvs.length=cs.length∧∀i (h:i<cvs.length) (h' :i<cs.length),IsCopy w cvs[i] cs[i]
theorem IsCopies.below {w w' :World}{cv:List CopyV}{c:List Copy}(h:IsCopies w cv c)(hb:Below w.heap.size w w'):IsCopies w' cv c:=⟨h.1,fun i h1 h2=>(h.2 i h1 h2).below hb⟩
theorem uS0 {α:Type}(l:List α)(k:Nat)(h:k<l.length)(p:α→Bool)(h1:(l.take k).any p=false)(h2:p l[k]=false):(l.take (k+1)).any p=false:=by
 rw [List.take_succ_eq_append_getElem h,List.any_append,h1]
 simp [h2]
theorem any_of {α:Type}(l:List α)(k:Nat)(h:k<l.length)(p:α→Bool)(h2:p l[k]=true):l.any p=true:=by
 rw [List.any_eq_true];exact ⟨_,List.getElem_mem h,h2⟩
theorem any_end {α:Type}(l:List α)(k:Nat)(h:¬k<l.length)(p:α→Bool)(h1:(l.take k).any p=false):l.any p=false:=by
 rwa [List.take_of_length_le (by omega)] at h1

theorem yX8 (sv:Value)(cvs:List CopyV)(cs:List Copy)(cv:CopyV)(c:Copy)(b:Nat)(w:World)(hs:CopyVs w sv cvs)(hcs:IsCopies w cvs cs)(hc:IsCopy w cv c)
 (c0:w.cell? ⟨b,0,none⟩=some (.bool cv.is)) (c1:w.cell? ⟨b,1,none⟩=some cv.v) (c2:w.cell? ⟨b,2,none⟩=some (.int .i64 cv.turn)):
 Calls Tryz.prog 100 #[sv, .func (.func 58) #[] #[.pointer (some ⟨b,0,none⟩)]] w (Sign (cs.any (zC7 c)) w):=by
 obtain ⟨ao,ca,rfl,hca,hca'⟩:=hs.parts
 have hbl:=World.block_lt_of_cell? w _ c0
 dsimp only at hbl
 have HS:=hid hs
 have HCS:=hid hcs
 have HC:=hid hc
 have HL:=hid hcs.1
 have D0:=hid c0
 have D1:=hid c1
 have D2:=hid c2
 clear hs hcs hc c0 c1 c2
 go_enter Tryz.func100, Tryz.ntmps100
 go_wp2_with fail
 go_loopw [8] (fun i wr=>∃k:Nat,k≤cvs.length∧i= .int .i64 k∧(cs.take k).any (zC7 c)=false∧Below w.heap.size w wr) (fun i _=>cvs.length - (intOf i).toNat)
 case atStart=>exact ⟨0,Nat.zero_le _,rfl,rfl,Below.refl _ _⟩
 case round=>
  obtain ⟨k,hk,rfl,htk,hbw⟩:=hrel
  have HT:=hid htk
  clear htk
  by_cases hlt:k<cvs.length
  · have hlt2:k<cs.length:=by have:=HL.out;omega
    obtain ⟨ba,oa,rfl,_,x0,x1,x2⟩:=CopyVs.cell (HS.out.below hbw) k hlt
    have HK:=hid ((HCS.out.below hbw).2 k hlt hlt2)
    have HKC:=hid (HC.out.below hbw)
    have K:=fun W (hb:Below wr.heap.size wr W)=>vN5 cvs[k] cv cs[k] c b W (HK.out.below hb) (HKC.out.below hb) (by rw [hb.cell (p:=⟨b,0,none⟩) (by have:=hbw.size;show b<_;omega),hbw.cell (p:=⟨b,0,none⟩) hbl];exact D0.out)
     (by rw [hb.cell (p:=⟨b,1,none⟩) (by have:=hbw.size;show b<_;omega),hbw.cell (p:=⟨b,1,none⟩) hbl];exact D1.out)
     (by rw [hb.cell (p:=⟨b,2,none⟩) (by have:=hbw.size;show b<_;omega),hbw.cell (p:=⟨b,2,none⟩) hbl];exact D2.out)
    have HW:=hid hbw
    clear hbw
    by_cases hf:zC7 c cs[k]=true
    · rw [hf] at K
      replace K:=hid K
      have HF:=hid hf
      clear hf
      go_wp2_with fail
      refine (K.out _ (Below.refl _ _)).mono ?_
      rintro e w2 ⟨rfl,hb2⟩
      have HW2:=hid hb2
      clear hb2
      go_wp2_with fail
      go_ret
      exact ⟨k,fun _=>by omega,(fun h=>by rw [any_of cs k hlt2 _ HF.out] at h;cases h),rfl,two HW.out HW2.out⟩
    · have hf' :zC7 c cs[k]=false:=by simpa using hf
      rw [hf'] at K
      replace K:=hid K
      have HF:=hid hf'
      clear hf hf'
      go_wp2_with fail
      refine (K.out _ (Below.refl _ _)).mono ?_
      rintro e w2 ⟨rfl,hb2⟩
      have HW2:=hid hb2
      clear hb2
      go_wp2_with fail
      go_roundw
      case rel=>exact ⟨k+1,by omega,by go_num,uS0 _ _ hlt2 _ HT.out HF.out,two HW.out HW2.out⟩
      case measure=>simp [intOf];omega
  · have HW:=hid hbw
    clear hbw
    go_wp2_with fail
    go_ret
    exact ⟨-1,fun h=>(by rw [any_end cs k (by have:=HL.out;omega) _ HT.out] at h;cases h),fun _=>by decide,rfl,HW.out⟩

theorem yM0 (sv:Value)(cvs:List CopyV)(cs:List Copy)(cv:CopyV)(c:Copy)(b:Nat)(w:World)(hs:CopyVs w sv cvs)(hcs:IsCopies w cvs cs)(hc:IsCopy w cv c)
 (c0:w.cell? ⟨b,0,none⟩=some (.bool cv.is)) (c1:w.cell? ⟨b,1,none⟩=some cv.v) (c2:w.cell? ⟨b,2,none⟩=some (.int .i64 cv.turn)):
 Calls Tryz.prog 57 #[sv, .func (.func 58) #[] #[.pointer (some ⟨b,0,none⟩)]] w fun e w' =>e= .returned (.bool (cs.any (zC7 c)))∧Below w.heap.size w w' :=by
 have K:=hid (yX8 sv cvs cs cv c b w hs hcs hc c0 c1 c2)
 obtain ⟨ao,ca,rfl,hca,hca'⟩:=hs.parts
 clear hs hcs hc c0 c1 c2
 go_enter Tryz.func57, Tryz.ntmps57
 go_wp2_with fail
 refine K.out.mono ?_
 rintro e w2 ⟨n,h1,h2,rfl,hb2⟩
 have HW2:=hid hb2
 have H1:=hid h1
 have H2:=hid h2
 clear hb2 h1 h2
 go_wp2_with fail
 go_ret
 refine ⟨zJ8 ?_,HW2.out⟩
 cases h:cs.any (zC7 c)
 · have:=H2.out h;simp;omega
 · have:=H1.out h;simp;omega
open Go.RowKit Go.Sort

theorem yF0 :zQ3 Tryz.prog 76 3 1 8:=zO4 (z:= .int .i64 0) Tryz.underlying76 (by kernel_rfl) rfl (by decide) (by decide)

structure Trio where
 a:Copy
 b:Copy
 c:Copy
structure TrioV where
 a:CopyV
 b:CopyV
 c:CopyV
def TrioV.arr (t:TrioV):Array Value:= #[.bool t.a.is,t.a.v, .int .i64 t.a.turn, .bool t.b.is,t.b.v, .int .i64 t.b.turn, .bool t.c.is,t.c.v, .int .i64 t.c.turn]
def TrioV.val (t:TrioV):Value:= .agg t.arr
def IsTrio (w:World)(tv:TrioV)(t:Trio):Prop:=IsCopy w tv.a t.a∧IsCopy w tv.b t.b∧IsCopy w tv.c t.c
theorem IsTrio.below {w w' :World}{cv:TrioV}{c:Trio}(h:IsTrio w cv c)(hb:Below w.heap.size w w'):IsTrio w' cv c:=⟨h.1.below hb,h.2.1.below hb,h.2.2.below hb⟩
def Trio.at (t:Trio)(i:Nat):Copy:=match i with | 0=>t.a | 1=>t.b | _=>t.c
def yF3 (t:Trio)(q:Quilt)(i:Nat):Bool:= !zC7 (t.at i) ⟨true,q⟩
def zL4 (t:Trio)(q:Quilt)(k:Nat):List Int:=((List.range k).filter (yF3 t q)).map fun n:Nat=>(n:Int)
def zS5 (t:Trio)(q:Quilt):List Int:=zL4 t q 3
theorem xA5 (t:Trio)(q:Quilt)(k:Nat)(h:zC7 (t.at k) ⟨true,q⟩=false):zL4 t q (k+1)=zL4 t q k++ [(k:Int)]:=by
 simp [zL4,List.range_succ,List.filter_append,yF3,h]
theorem xN4 (t:Trio)(q:Quilt)(k:Nat)(h:zC7 (t.at k) ⟨true,q⟩=true):zL4 t q (k+1)=zL4 t q k:=by
 simp [zL4,List.range_succ,List.filter_append,yF3,h]
theorem uI9 (t:Trio)(q:Quilt)(k:Nat):(zL4 t q k).length≤k:=by
 unfold zL4
 rw [List.length_map]
 exact Nat.le_trans (List.length_filter_le _ _) (by simp)
@[go_sem] theorem index_trio0 (x0 x1 x2 x3 x4 x5 x6 x7 x8 : Value) (w : World) : (Instr.index 53 (.agg #[x0, x1, x2, x3, x4, x5, x6, x7, x8]) (.int .i64 0)).run Tryz.prog w = .ok (.agg #[x0, x1, x2]) w := by kernel_rfl
@[go_sem] theorem index_trio1 (x0 x1 x2 x3 x4 x5 x6 x7 x8 : Value) (w : World) : (Instr.index 53 (.agg #[x0, x1, x2, x3, x4, x5, x6, x7, x8]) (.int .i64 1)).run Tryz.prog w = .ok (.agg #[x3, x4, x5]) w := by kernel_rfl
@[go_sem] theorem index_trio2 (x0 x1 x2 x3 x4 x5 x6 x7 x8 : Value) (w : World) : (Instr.index 53 (.agg #[x0, x1, x2, x3, x4, x5, x6, x7, x8]) (.int .i64 2)).run Tryz.prog w = .ok (.agg #[x6, x7, x8]) w := by kernel_rfl
def xR0 (l:List Int)(w:World)(e:Ending)(w' :World):Prop:=∃v,e= .returned v∧Nums w' v l∧Below w.heap.size w w' ∧∀b,v.ownBlock=some b→w.heap.size≤b
theorem yF7 (tv:TrioV)(t:Trio)(qv:Value)(q:Quilt)(w:World)(ht:IsTrio w tv t)(hq:Quilts w qv q):
 Calls Tryz.prog 27 #[tv.val,qv] w (xR0 (zS5 t q) w):=by
 obtain ⟨v,rfl,hq⟩:=hq
 obtain ⟨ao,ca,rfl,hca,hca'⟩:=hq.parts
 have HQ:=hid hq
 have HT:=hid ht
 clear hq ht
 obtain ⟨⟨a0,a1,a2⟩,⟨b0,b1,b2⟩,⟨d0,d1,d2⟩⟩:=tv
 obtain ⟨a3,a4,e,_,_⟩:=HT.out.1.2.2.parts
 dsimp only at e
 subst e
 obtain ⟨b3,b4,e,_,_⟩:=HT.out.2.1.2.2.parts
 dsimp only at e
 subst e
 obtain ⟨d3,d4,e,_,_⟩:=HT.out.2.2.2.2.parts
 dsimp only at e
 subst e
 generalize t.a.quilt.files.length=a5,t.b.quilt.files.length=b5,t.c.quilt.files.length=d5 at *
 unfold TrioV.val TrioV.arr
 obtain ⟨W2,hW2⟩:∃W2,W2=(w.alloc (.cells #[.bool a0, .slice a3 a5 a4, .int .i64 a2, .bool b0, .slice b3 b5 b4, .int .i64 b2, .bool d0, .slice d3 d5 d4, .int .i64 d2] 53)).alloc (.cells #[.slice ao q.files.length ca, .int .i64 q.turn] 32):=⟨_,rfl⟩
 have B2:Below w.heap.size w W2:=by rw [hW2];exact two (zA0 w _) (zA0 _ _)
 have c0:W2.cell? ⟨w.heap.size+1,0,none⟩=some (.slice ao q.files.length ca):=by rw [hW2];simp
 have c1:W2.cell? ⟨w.heap.size+1,1,none⟩=some (.int .i64 q.turn):=by rw [hW2];simp
 have hz:W2.heap.size=w.heap.size+2:=by rw [hW2];simp
 have HW2:=hid hW2
 have HZ:=hid hz
 replace B2:=hid B2
 clear hW2 hz
 go_enter Tryz.func27, Tryz.ntmps27
 go_wp2_with fail
 rw [←HW2.out]
 go_loopw [5,9] (fun o i wr=>∃k:Nat,k≤3∧i= .int .i64 k∧wr.ownsRow W2.heap.size 3 1 o (zL4 t q k).length ((zL4 t q k).flatMap zI0)∧Below W2.heap.size W2 wr) (fun _ i _=>3 - (intOf i).toNat)
 case atStart=>exact ⟨0,Nat.zero_le _,rfl,World.ownsRow_nil _ _ _ _,Below.refl _ _⟩
 case round=>
  obtain ⟨k,hk,rfl,hown,hbw⟩:=hrel
  have hsz:w.heap.size+1<wr.heap.size:=by have:=hbw.size;rw [HZ.out] at this;omega
  have x0:wr.cell? ⟨w.heap.size+1,0,none⟩=some (.slice ao q.files.length ca):=by rw [hbw.cell (p:=⟨w.heap.size+1,0,none⟩) (by rw [HZ.out];exact Nat.lt_succ_self _)];exact c0
  have x1:wr.cell? ⟨w.heap.size+1,1,none⟩=some (.int .i64 q.turn):=by rw [hbw.cell (p:=⟨w.heap.size+1,1,none⟩) (by rw [HZ.out];exact Nat.lt_succ_self _)];exact c1
  have HO:=hid hown
  have HW:=hid hbw
  have HN:=hid (uI9 t q k)
  clear hown hbw
  by_cases hlt:k<3
  · obtain rfl | rfl | rfl:k=0∨k=1∨k=2:=by omega
    · go_wp2_with fail
      have Bc:=zA0 wr (.cells #[.bool a0, .slice a3 a5 a4, .int .i64 a2] 52)
      have HK:=(HT.out.1.below B2.out).below HW.out
      have HQ' :=((HQ.out.below B2.out).below HW.out)
      have C:=yN7 _ _ (t.at 0) ⟨true,q⟩ _ (HK.below Bc).copies ⟨_,rfl,HQ'.below Bc⟩
      replace Bc:=hid Bc
      by_cases hf:zC7 (t.at 0) ⟨true,q⟩=true
      · rw [hf] at C
        replace C:=hid C
        have HF:=hid hf
        clear hf HK HQ'
        refine C.out.mono ?_
        rintro e w2 ⟨rfl,hb2⟩
        have HB2:=hid hb2
        clear hb2
        go_wp2_with fail
        go_roundw
        case rel=>exact ⟨1,by omega,rfl,by rw [xN4 t q 0 HF.out];exact (HO.out.alloc _).kept (⟨HB2.out.os,HB2.out.tape,HB2.out.output,HB2.out.size,fun j hj _=>HB2.out.block j hj⟩:World.grownBy _ _ none) (by cases h:Value.ownBlock _ <;> simp),two HW.out (two Bc.out HB2.out)⟩
        case measure=>simp [intOf]
      · have hf' :zC7 (t.at 0) ⟨true,q⟩=false:=by simpa using hf
        rw [hf'] at C
        replace C:=hid C
        have HF:=hid hf'
        clear hf hf' HK HQ'
        refine C.out.mono ?_
        rintro e w2 ⟨rfl,hb2⟩
        have hown2:=hid ((HO.out.alloc (.cells #[.bool a0, .slice a3 a5 a4, .int .i64 a2] 52)).kept (⟨hb2.os,hb2.tape,hb2.output,hb2.size,fun j hj _=>hb2.block j hj⟩:World.grownBy _ _ none) (by cases h:Value.ownBlock _ <;> simp))
        have HB2:=hid hb2
        have hz2:W2.heap.size≤w2.heap.size:=Nat.le_trans HW.out.size (two Bc.out hb2).size
        have hlen:(zL4 t q 0).length≤0:=HN.out
        clear hb2
        go_wp2_with (at_builtin;refine zB8 yF0 rfl _ _ rfl W2.heap.size _ _ _ rfl (hown2.out.alloc _) ⟨w2.heap.size,0,none⟩ 1 1 [.int .i64 0] rfl rfl ?c1 ?c2 ?c3 ?c4 ?_)
        case c1=>exact zL0
        case c2=>intro u hu;simp at hu;subst hu;rfl
        case c3=>omega
        case c4=>simp;omega
        intro v' w3 hown3 hg3
        have HB3:=hid (zB0 ((two HW.out (two Bc.out HB2.out)).trans ((zA0 w2 (.cells #[.int .i64 0] 3)).mono hz2)) (hown2.out.alloc _) hg3 (Nat.le_refl _))
        have HO3:=hid hown3
        clear hown3 hg3
        go_wp2_with fail
        go_roundw
        case rel=>
         refine ⟨1,by omega,rfl,?_,HB3.out⟩
         rw [xA5 t q 0 HF.out,zI4,List.length_append]
         exact HO3.out
        case measure=>simp [intOf]
    · go_wp2_with fail
      have Bc:=zA0 wr (.cells #[.bool b0, .slice b3 b5 b4, .int .i64 b2] 52)
      have HK:=(HT.out.2.1.below B2.out).below HW.out
      have HQ' :=((HQ.out.below B2.out).below HW.out)
      have C:=yN7 _ _ (t.at 1) ⟨true,q⟩ _ (HK.below Bc).copies ⟨_,rfl,HQ'.below Bc⟩
      replace Bc:=hid Bc
      by_cases hf:zC7 (t.at 1) ⟨true,q⟩=true
      · rw [hf] at C
        replace C:=hid C
        have HF:=hid hf
        clear hf HK HQ'
        refine C.out.mono ?_
        rintro e w2 ⟨rfl,hb2⟩
        have HB2:=hid hb2
        clear hb2
        go_wp2_with fail
        go_roundw
        case rel=>exact ⟨2,by omega,rfl,by rw [xN4 t q 1 HF.out];exact (HO.out.alloc _).kept (⟨HB2.out.os,HB2.out.tape,HB2.out.output,HB2.out.size,fun j hj _=>HB2.out.block j hj⟩:World.grownBy _ _ none) (by cases h:Value.ownBlock _ <;> simp),two HW.out (two Bc.out HB2.out)⟩
        case measure=>simp [intOf]
      · have hf' :zC7 (t.at 1) ⟨true,q⟩=false:=by simpa using hf
        rw [hf'] at C
        replace C:=hid C
        have HF:=hid hf'
        clear hf hf' HK HQ'
        refine C.out.mono ?_
        rintro e w2 ⟨rfl,hb2⟩
        have hown2:=hid ((HO.out.alloc (.cells #[.bool b0, .slice b3 b5 b4, .int .i64 b2] 52)).kept (⟨hb2.os,hb2.tape,hb2.output,hb2.size,fun j hj _=>hb2.block j hj⟩:World.grownBy _ _ none) (by cases h:Value.ownBlock _ <;> simp))
        have HB2:=hid hb2
        have hz2:W2.heap.size≤w2.heap.size:=Nat.le_trans HW.out.size (two Bc.out hb2).size
        have hlen:(zL4 t q 1).length≤1:=HN.out
        clear hb2
        go_wp2_with (at_builtin;refine zB8 yF0 rfl _ _ rfl W2.heap.size _ _ _ rfl (hown2.out.alloc _) ⟨w2.heap.size,0,none⟩ 1 1 [.int .i64 1] rfl rfl ?c1 ?c2 ?c3 ?c4 ?_)
        case c1=>exact zL0
        case c2=>intro u hu;simp at hu;subst hu;rfl
        case c3=>omega
        case c4=>simp;omega
        intro v' w3 hown3 hg3
        have HB3:=hid (zB0 ((two HW.out (two Bc.out HB2.out)).trans ((zA0 w2 (.cells #[.int .i64 1] 3)).mono hz2)) (hown2.out.alloc _) hg3 (Nat.le_refl _))
        have HO3:=hid hown3
        clear hown3 hg3
        go_wp2_with fail
        go_roundw
        case rel=>
         refine ⟨2,by omega,rfl,?_,HB3.out⟩
         rw [xA5 t q 1 HF.out,zI4,List.length_append]
         exact HO3.out
        case measure=>simp [intOf]
    · go_wp2_with fail
      have Bc:=zA0 wr (.cells #[.bool d0, .slice d3 d5 d4, .int .i64 d2] 52)
      have HK:=(HT.out.2.2.below B2.out).below HW.out
      have HQ' :=((HQ.out.below B2.out).below HW.out)
      have C:=yN7 _ _ (t.at 2) ⟨true,q⟩ _ (HK.below Bc).copies ⟨_,rfl,HQ'.below Bc⟩
      replace Bc:=hid Bc
      by_cases hf:zC7 (t.at 2) ⟨true,q⟩=true
      · rw [hf] at C
        replace C:=hid C
        have HF:=hid hf
        clear hf HK HQ'
        refine C.out.mono ?_
        rintro e w2 ⟨rfl,hb2⟩
        have HB2:=hid hb2
        clear hb2
        go_wp2_with fail
        go_roundw
        case rel=>exact ⟨3,by omega,rfl,by rw [xN4 t q 2 HF.out];exact (HO.out.alloc _).kept (⟨HB2.out.os,HB2.out.tape,HB2.out.output,HB2.out.size,fun j hj _=>HB2.out.block j hj⟩:World.grownBy _ _ none) (by cases h:Value.ownBlock _ <;> simp),two HW.out (two Bc.out HB2.out)⟩
        case measure=>simp [intOf]
      · have hf' :zC7 (t.at 2) ⟨true,q⟩=false:=by simpa using hf
        rw [hf'] at C
        replace C:=hid C
        have HF:=hid hf'
        clear hf hf' HK HQ'
        refine C.out.mono ?_
        rintro e w2 ⟨rfl,hb2⟩
        have hown2:=hid ((HO.out.alloc (.cells #[.bool d0, .slice d3 d5 d4, .int .i64 d2] 52)).kept (⟨hb2.os,hb2.tape,hb2.output,hb2.size,fun j hj _=>hb2.block j hj⟩:World.grownBy _ _ none) (by cases h:Value.ownBlock _ <;> simp))
        have HB2:=hid hb2
        have hz2:W2.heap.size≤w2.heap.size:=Nat.le_trans HW.out.size (two Bc.out hb2).size
        have hlen:(zL4 t q 2).length≤2:=HN.out
        clear hb2
        go_wp2_with (at_builtin;refine zB8 yF0 rfl _ _ rfl W2.heap.size _ _ _ rfl (hown2.out.alloc _) ⟨w2.heap.size,0,none⟩ 1 1 [.int .i64 2] rfl rfl ?c1 ?c2 ?c3 ?c4 ?_)
        case c1=>exact zL0
        case c2=>intro u hu;simp at hu;subst hu;rfl
        case c3=>omega
        case c4=>simp;omega
        intro v' w3 hown3 hg3
        have HB3:=hid (zB0 ((two HW.out (two Bc.out HB2.out)).trans ((zA0 w2 (.cells #[.int .i64 2] 3)).mono hz2)) (hown2.out.alloc _) hg3 (Nat.le_refl _))
        have HO3:=hid hown3
        clear hown3 hg3
        go_wp2_with fail
        go_roundw
        case rel=>
         refine ⟨3,by omega,rfl,?_,HB3.out⟩
         rw [xA5 t q 2 HF.out,zI4,List.length_append]
         exact HO3.out
        case measure=>simp [intOf]
  · obtain rfl:k=3:=by omega
    go_wp2_with fail
    go_ret
    exact ⟨_,rfl,SL.of_own HO.out,two B2.out HW.out,fun b hb=>Nat.le_trans B2.out.size (HO.out.lt b hb).1⟩
open Go.RowKit Go.Sort

open Go.RowKit Go.Sort

def yL5 (t:Trio)(b:Int)(i:Nat):Bool:=(t.at i).is && (decide (b<0) || decide ((t.at b.toNat).quilt.turn<(t.at i).quilt.turn))
def zM9 (t:Trio):Nat→Int
 | 0=> -1
 | k+1=>if yL5 t (zM9 t k) k then (k:Int) else zM9 t k
def yK6 (t:Trio)(i:Nat):Bool:=(t.at i).is && (match i with | 0=>zC7 t.a t.b || zC7 t.a t.c | 1=>zC7 t.b t.c | _=>false)
def yS6 (t:Trio):Option Nat:=if yK6 t 0 then some 0 else if yK6 t 1 then some 1 else if zM9 t 3<0 then none else some (zM9 t 3).toNat
def yA7 (t:Trio):Quilt:=match yS6 t with | none=>⟨[],0⟩ | some i=>(t.at i).quilt
def yA8 (t:Trio):Nat:=match yS6 t with | none=>4 | some _=>0
theorem yX3 (t:Trio):∀k, -1≤zM9 t k∧zM9 t k<k
 | 0=>by simp [zM9]
 | k+1=>by
  have:=yX3 t k
  simp only [zM9]
  split <;> omega
theorem twin_ge (t:Trio):yK6 t 2=false:=by simp [yK6]
theorem vM9 (t:Trio)(k:Nat)(b:Int)(hb:zM9 t k=b)(h:yL5 t b k=true):zM9 t (k+1)=k:=by simp [zM9,hb,h]
theorem uH8 (t:Trio)(k:Nat)(b:Int)(hb:zM9 t k=b)(h:yL5 t b k=false):zM9 t (k+1)=b:=by simp [zM9,hb,h]
theorem xB0 (t:Trio)(h:yK6 t 0=true):yA7 t=t.a.quilt∧yA8 t=0:=by simp [yA7,yA8,yS6,h];rfl
theorem vV7 (t:Trio)(h0:yK6 t 0=false)(h:yK6 t 1=true):yA7 t=t.b.quilt∧yA8 t=0:=by simp [yA7,yA8,yS6,h,h0];rfl
theorem votedN (t:Trio)(h0:yK6 t 0=false)(h:yK6 t 1=false)(hb:zM9 t 3= -1):yA7 t=⟨[],0⟩∧yA8 t=4:=by simp [yA7,yA8,yS6,h,h0,hb]
theorem votedB (t:Trio)(i:Nat)(h0:yK6 t 0=false)(h:yK6 t 1=false)(hb:zM9 t 3=i):yA7 t=(t.at i).quilt∧yA8 t=0:=by
 have:¬((i:Int)<0):=by omega
 simp [yA7,yA8,yS6,h,h0,hb,this]
theorem uC2 (w:World):Files w (.slice none 0 0) []:=Rd.nil w

def Trio.list (t:Trio):List Copy:= [t.a,t.b,t.c]
def TrioV.list (t:TrioV):List CopyV:= [t.a,t.b,t.c]
theorem IsTrio.list {w:World}{tv:TrioV}{t:Trio}(h:IsTrio w tv t):IsCopies w tv.list t.list:=
 ⟨rfl,fun i h1 _=>by match i,h1 with | 0,_=>exact h.1 | 1,_=>exact h.2.1 | 2,_=>exact h.2.2⟩
theorem Trio.list_at (t:Trio)(i:Nat)(h:i<t.list.length):t.list[i]=t.at i:=by match i,h with | 0,_=>rfl | 1,_=>rfl | 2,_=>rfl
theorem trio_rd {w:World}{b:Nat}(tv:TrioV)(h:∀j u,tv.arr[j]?=some u→w.cell? ⟨b,j,none⟩=some u):CopyVs w (.slice (some ⟨b,0,none⟩) 3 3) tv.list:=by
 refine ⟨rfl,_,3,rfl,Nat.le_refl _,by decide,(fun h _=>by simp [TrioV.list] at h),fun j u hj=>⟨b,0,rfl,?_⟩⟩
 rw [Nat.zero_add]
 exact h j u (by simpa [TrioV.arr,TrioV.list,CopyV.cells] using hj)
theorem Rd.drop {α:Type}{k:Nat}{enc:α→List Value}(henc:∀x,(enc x).length=k){w:World}{b off n cap:Nat}{l:List α}(h:Rd k enc w (.slice (some ⟨b,off,none⟩) n cap) l)(i:Nat)(hi:i≤l.length)(hn:n=l.length):
 Rd k enc w (.slice (some ⟨b,off+i * k,none⟩) (n - i) (cap - i)) (l.drop i):=by
 obtain ⟨h1,ao,cap',e,h3,h4,_,h5⟩:=h
 simp only [Value.slice.injEq] at e
 obtain ⟨rfl,rfl,rfl⟩:=e
 have hfl:∀(l:List α) (i:Nat),(l.drop i).flatMap enc=(l.flatMap enc).drop (i * k):=by
  intro l
  induction l with
  | nil=>simp
  | cons x l ih=>
   intro i
   cases i with
   | zero=>simp
   | succ i=>
    simp only [List.drop_succ_cons,List.flatMap_cons,ih]
    rw [Nat.add_mul,Nat.one_mul,Nat.add_comm,←List.drop_drop,←henc x,List.drop_left]
 refine ⟨zC2 henc _,some ⟨b,off+i * k,none⟩,cap - i,by rw [List.length_drop],by rw [List.length_drop];omega,by omega,(fun _ h=>by cases h),fun j u hj=>?_⟩
 rw [hfl,List.getElem?_drop] at hj
 obtain ⟨b1,off1,e1,c1⟩:=h5 _ _ hj
 simp only [Option.some.injEq,Addr.mk.injEq,and_true] at e1
 obtain ⟨rfl,rfl⟩:=e1
 exact ⟨b,_,rfl,by rw [Nat.add_assoc];exact c1⟩
theorem IsCopies.drop {w:World}{cvs:List CopyV}{cs:List Copy}(h:IsCopies w cvs cs)(i:Nat):IsCopies w (cvs.drop i) (cs.drop i):=
 ⟨by simp [h.1],fun j h1 h2=>by simpa using h.2 (i+j) (by simp at h1;omega) (by simp at h2;omega)⟩
theorem vW6 (w:World)(a:Addr):CopyVs w (.slice (some a) 0 0) ([]:List CopyV):=
 ⟨rfl,_,0,rfl,Nat.le_refl _,by decide,(fun _ _=>rfl),fun j u hj=>by simp at hj⟩
theorem uJ7 (t:Trio)(k:Nat)(hk:k<3)(h:(t.at k).is=true):yK6 t k=(t.list.drop (k+1)).any (zC7 (t.at k)):=by
 match k,hk with
 | 0,_=>simp only [yK6,h,Trio.list];simp [Trio.at]
 | 1,_=>simp only [yK6,h,Trio.list];simp [Trio.at]
 | 2,_=>simp [yK6,Trio.list]
theorem uJ6 (t:Trio)(k:Nat)(h:(t.at k).is=false):yK6 t k=false:=by simp [yK6,h]
theorem vV0 (t:Trio)(b:Int)(k:Nat)(h:(t.at k).is=false):yL5 t b k=false:=by simp [yL5,h]
theorem vV1 (t:Trio)(b:Int)(k:Nat)(h:(t.at k).is=true)(hb:b<0):yL5 t b k=true:=by simp [yL5,h,hb]
theorem xN2 (t:Trio)(m:Nat)(k:Nat)(h:(t.at k).is=true):yL5 t m k=decide ((t.at m).quilt.turn<(t.at k).quilt.turn):=by
 have:¬((m:Int)<0):=by omega
 simp [yL5,h,this]
theorem vN4 (t:Trio)(k:Nat)(hk:k<3)(hl:∀i,i<k→yK6 t i=false)(h:yK6 t k=true):yA7 t=(t.at k).quilt∧yA8 t=0:=by
 match k,hk with
 | 0,_=>exact xB0 t h
 | 1,_=>exact vV7 t (hl 0 (by omega)) h
 | 2,_=>rw [twin_ge] at h;cases h
theorem vC6 (b:Nat)(W:World):(Instr.sliceAt 53 (.pointer (some ⟨b,0,none⟩)) (some (.int .i64 1)) none none).run Tryz.prog W= .ok (.slice (some ⟨b,3,none⟩) 2 2) W:=by kernel_rfl
theorem vC5 (b:Nat)(W:World):(Instr.sliceAt 53 (.pointer (some ⟨b,0,none⟩)) (some (.int .i64 2)) none none).run Tryz.prog W= .ok (.slice (some ⟨b,6,none⟩) 1 1) W:=by kernel_rfl
theorem vC4 (b:Nat)(W:World):(Instr.sliceAt 53 (.pointer (some ⟨b,0,none⟩)) (some (.int .i64 3)) none none).run Tryz.prog W= .ok (.slice (some ⟨b,0,none⟩) 0 0) W:=by kernel_rfl
def xN8 (k:Nat):Nat:=if k=2 then 0 else (k+1) * 3
theorem vP1 (k:Nat)(h:k<3)(b:Nat)(W:World):(Instr.sliceAt 53 (.pointer (some ⟨b,0,none⟩)) (some (.int .i64 ((k:Int)+1))) none none).run Tryz.prog W= .ok (.slice (some ⟨b,xN8 k,none⟩) (2 - k) (2 - k)) W:=by
 match k,h with
 | 0,_=>exact vC6 b W
 | 1,_=>exact vC5 b W
 | 2,_=>exact vC4 b W

theorem vW0 {w:World}{b:Nat}{L:List CopyV}(hl:L.length=3)(h:CopyVs w (.slice (some ⟨b,0,none⟩) 3 3) L)(k:Nat)(hk:k<3):CopyVs w (.slice (some ⟨b,xN8 k,none⟩) (2 - k) (2 - k)) (L.drop (k+1)):=by
 by_cases h2:k=2
 · subst h2
   rw [List.drop_of_length_le (by omega)]
   exact vW6 _ _
 · have:=Rd.drop CopyV.cells_len h (k+1) (by omega) hl.symm
   rw [show (2 - k)=3 - (k+1) by omega]
   simpa [xN8,h2] using this
end Go.Proofs.YtggpodlecljcbabGreatDoor
