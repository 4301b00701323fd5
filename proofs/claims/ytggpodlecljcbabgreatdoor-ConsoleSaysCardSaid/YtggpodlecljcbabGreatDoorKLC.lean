/- The law ConsoleSays: hello; any lines. -/
import Derived.Test.YtggpodlecljcbabGreatDoorKCN
import Derived.Test.YtggpodlecljcbabGreatDoorKCH
namespace Go.Proofs.YtggpodlecljcbabGreatDoor
set_option linter.unusedSimpArgs false
set_option linter.unusedVariables false
set_option maxRecDepth 100000
set_option maxHeartbeats 64000000
open Lib (hid)
open Go.RowKit Go.Sort
theorem RefS.off1 {w w' :World}{mx:Nat}{q:Quilt}{v:Value}{g:Nat}(h:RefS w mx q v)(hO:Off (fun x=>x=g) w w')(hg:StrBlk w g)(hm:mx≠g):RefS w' mx q v:=
 ⟨by rw [hO.block _ h.lt hm];exact h.box,(RdF.off (F:=fun x=>x=g) ⟨h.fs,xX9 h.fs hg⟩ hO).rd⟩
section
variable {P:Program} (w:World)
theorem vI3 {T E ty:Nat}(I:yN5 P T E)(base:Nat)(l:List ByteArray)(lo:Option Addr)(lc:Nat)(h:Texts w (.slice lo l.length lc) l)(h63:l.length≤1000000000)(hbase:base≤w.heap.size):
 ∃v' w',(Builtin.append_ #[T,T] ty #[.slice none 0 0, .slice lo l.length lc]).run P w= .ok v' w' ∧w'.ownsRow base E 1 v' l.length (l.flatMap zD3)∧w.grownBy w' none:=by
 obtain ⟨i,e1,e2,e3,e4,e5⟩:=I
 obtain ⟨_,ao,cap,q1,q2,q3,_,q5⟩:=h
 simp only [Value.slice.injEq] at q1
 obtain ⟨rfl,_,rfl⟩:=q1
 match lo,q5 with
 | none,q5=>
  have hl:l= []:=by
   cases l with
   | nil=>rfl
   | cons x r=>
    obtain ⟨b,off,e,_⟩:=q5 0 (.string x) (by simp [zD3])
    cases e
  subst hl
  refine ⟨.slice none 0 0,w,?_,World.ownsRow_nil _ _ _ _,⟨rfl,rfl,rfl,Nat.le_refl _,fun _ _ _=>rfl⟩⟩
  simp [Builtin.append_,run_underlying e1,sizeOf,typeInfo,e2,Builtin.lenOf,Builtin.firstCells]
 | some a,q5=>
  have hn:∀j u,(l.flatMap zD3)[j]?=some u→w.cell? (a.add j)=some u:=fun j u hj=>by
   obtain ⟨b,off,e,hc⟩:=q5 j u hj
   cases e
   rw [Addr.add_lit]
   exact hc
  have h1:∀u∈l.flatMap zD3,u.oneCell' =true:=fun u hu=>by
   obtain ⟨s,rfl⟩:=xS3 l u hu
   rfl
  obtain ⟨v',w',hr,h2,h3,_,h5⟩:=run_append_own_at (P:=P) w base T ty E i _ 1 16 e1 e2 e3 e4 e5 rfl (by decide) (.slice none 0 0) 0 [] (World.ownsRow_nil _ _ _ _) a l.length lc _ (by rw [zC2 yF9]) hn h1 (by unfold maxLen;omega) (by omega) hbase
  rw [Nat.zero_add,List.nil_append] at h2
  exact ⟨v',w',hr,h2,h3⟩
theorem vB2 {T E:Nat}(I:yN5 P T E){ops:Array Oper}{rest:List Oper}{o:Oper}{a:Go.Act}{Q:Exit→Go.Act→World→Prop}(hgd:o.guard=none)(s x:Operand)
 (ho:o.op= .call { callee:= .builtin .append,args:= #[s,x],argTypes:= #[T,T] })
 (base:Nat) (l:List ByteArray) (lo:Option Addr) (lc:Nat) (hs:a.eval s= .slice none 0 0) (hx:a.eval x= .slice lo l.length lc) (hl:Texts w (.slice lo l.length lc) l) (h63:l.length≤1000000000) (hbase:base≤w.heap.size)
 (h:∀v' w',w'.ownsRow base E 1 v' l.length (l.flatMap zD3)→w.grownBy w' none→wpList P ops Q rest (a.put o.dst v') w'):wpList P ops Q (o::rest) a w:=by
 refine wpList_plain hgd fun K hK=>?_
 obtain ⟨v',w',hr,h2,h3⟩:=vI3 (P:=P) w (ty:=o.type) I base l lo lc hl h63 hbase
 unfold Oper.wp execOp
 simp only [ho,resolve,invoke,builtin,Sem.run_bind,Sem.run_pure,Result.andThen_ok,List.map_toArray,List.map_cons,List.map_nil,hs,hx,hr]
 exact hK _ _ (h v' w' h2 h3)
theorem vN3 {T E:Nat}(I:yN5 P T E){ops:Array Oper}{rest:List Oper}{o:Oper}{a:Go.Act}{Q:Exit→Go.Act→World→Prop}(hgd:o.guard=none)(s x:Operand)
 (ho:o.op= .call { callee:= .builtin .append,args:= #[s,x],argTypes:= #[T,T] })
 (base:Nat) (v:Value) (n:Nat) (xs:List Value) (hs:a.eval s=v) (hown:w.ownsRow base E 1 v n xs)
 (ad:Addr) (c:Nat) (t:ByteArray) (hx:a.eval x= .slice (some ad) 1 c) (hc:w.cell? ad=some (.string t)) (h63:n+1≤1000000000) (hbase:base≤w.heap.size)
 (h:∀v' w',w'.ownsRow base E 1 v' (n+1) (xs++ [.string t])→w.grownBy w' v.ownBlock→wpList P ops Q rest (a.put o.dst v') w'):wpList P ops Q (o::rest) a w:=by
 obtain ⟨i,e1,e2,e3,e4,e5⟩:=I
 refine wpList_append_own_at w hgd s x T ho base E i _ 1 16 e1 e2 e3 e4 e5 rfl (by decide) v n xs hs hown ad 1 c [.string t] hx rfl ?_ ?_ (by unfold maxLen;omega) (by omega) hbase (fun v' w' h1 h2 _ _=>h v' w' h1 h2)
 · intro j u hj
   match j,hj with
   | 0,hj=>
    simp at hj
    subst hj
    rw [show ad.add 0=ad by unfold Addr.add;split <;> simp_all]
    exact hc
 · intro u hu
   rw [List.mem_singleton.1 hu];rfl
end
theorem uD5 (f:Int)(w:World):Calls Tryz.prog 13 #[.nilIface, .int .i64 f] w fun e w' =>e= .returned (.bool (decide ((0:Int)=f)))∧w=w' :=by
 have h:=vL2 0 f w
 rw [zD2] at h
 exact h
theorem uD6 (w:World)(hg:GlobC w):Calls Tryz.prog 18 #[] w fun e w' =>e= .returned (.bool true)∧Below w.heap.size w w' :=by
 have CR:Hid (∀(W:World) lo lc,Below w.heap.size w W→Rd 1 zD3 W (.slice lo 15 lc) zI1→_):=hid (fun W lo lc hb hl=>uE5 W (hg.below hb) lo lc hl)
 have CN:=hid uD5
 have CT:=hid yO9
 clear hg
 go_enter Tryz.func18, Tryz.ntmps18
 go_wp2_with fail
 refine (CR.out _ _ _ (zA0 _ _) (zV6 w zI1 (by decide))).mono ?_
 rintro e w1 ⟨v,rfl,hs,hb⟩
 have HS:=hid (SL.of_own hs.own:Texts w1 v xE6)
 have HB:=hid (two (zA0 _ _) hb)
 clear hs hb
 obtain ⟨o,c,rfl,_,_⟩:=Rd.parts HS.out
 go_wp2_with fail
 refine (CN.out _ _).mono ?_
 rintro e w2 ⟨rfl,rfl⟩
 go_wp2_with fail
 refine (CT.out _ _ xE6 xE6 _ (Rd.below HS.out (zA0 _ _)) (zV6 w1 xE6 (by decide))).mono ?_
 rintro e w2 ⟨rfl,hb⟩
 have HB2:=hid (two HB.out (two (zA0 _ _) hb))
 clear hb
 go_wp2_with fail
 go_ret
 exact ⟨by simp,HB2.out⟩
theorem vM8 {a:ByteArray}{l:List UInt8}(h:a.data.toList=l):a=⟨l.toArray⟩:=by
 apply ByteArray.ext
 apply Array.toList_inj.1
 rw [h]
theorem uR6 {s x y:ByteArray}(h:zB5 s= [vY2,x,y]):3<s.size∧s.extract 0 4=⟨#[97,114,109,32]⟩:=by
 have h1:=words3 h
 have hl:s.size=s.data.toList.length:=by rw [Array.length_toList];rfl
 constructor
 · rw [hl,h1];simp [vY2]
 · apply vM8
   rw [ByteArray.data_extract,Array.toList_extract,h1]
   simp [vY2,List.extract]
theorem vO9 {s x y:ByteArray}(h:zB5 s= [zQ5,x,y]):5<s.size∧s.extract 0 6=⟨#[115,112,111,105,108,32]⟩:=by
 have h1:=words3 h
 have hl:s.size=s.data.toList.length:=by rw [Array.length_toList];rfl
 constructor
 · rw [hl,h1];simp [zQ5]
 · apply vM8
   rw [ByteArray.data_extract,Array.toList_extract,h1]
   simp [zQ5,List.extract]
theorem vW4 {w:World}{ao:Option Addr}{n cap r:Nat}{l:List ByteArray}(h:Texts w (.slice ao n cap) l)(hr:r≤l.length):Texts w (.slice ao r cap) (l.take r):=by
 obtain ⟨h0,ao',cap',h1,h2,h3,h4,h5⟩:=h
 cases h1
 have hlen:(l.take r).length=r:=by rw [List.length_take];omega
 have hfl:(l.take r).flatMap zD3=(l.flatMap zD3).take r:=by rw [yH8,yH8];unfold yL7;rw [List.map_take]
 refine ⟨by rw [hfl,hlen,List.length_take,yH8];unfold yL7;rw [List.length_map];omega,ao,cap,by rw [hlen],by omega,h3,fun _ e=>?_,fun j u hj=>?_⟩
 · have hl:l.length=0:=by
    cases l with
    | nil=>rfl
    | cons x r' =>
     obtain ⟨b,off,e2,_⟩:=h5 0 (.string x) rfl
     rw [e] at e2;cases e2
   exact h4 hl e
 · rw [hfl,List.getElem?_take] at hj
   split at hj
   · exact h5 j u hj
   · cases hj
def uI8 (s:ByteArray):Prop:=¬(3<s.size∧s.extract 0 4=⟨#[97,114,109,32]⟩)∧¬(5<s.size∧s.extract 0 6=⟨#[115,112,111,105,108,32]⟩)
theorem uH7 {s:ByteArray}(h:uI8 s):(∀x y,zB5 s≠ [vY2,x,y])∧∀x y,zB5 s≠ [zQ5,x,y]:=
 ⟨fun _ _ e=>h.1 (uR6 e),fun _ _ e=>h.2 (vO9 e)⟩
theorem xG9 {l:List ByteArray}{k:Nat}{s:ByteArray}(hk:k<l.length)(hs:s=l[k])(h:uI8 s)(hc:∀j (hj:j<l.length),j<k→uI8 l[j]):∀j (hj:j<l.length),j<k+1→uI8 l[j]:=fun j hj hjk=>by
 by_cases e:j<k
 · exact hc j hj e
 · obtain rfl:j=k:=by omega
   rw [←hs];exact h
open Go.RowKit Go.Sort
theorem law_ConsoleSays (lv:Value)(l:List ByteArray)(w:World)(hl:Texts w lv l)(hg:GlobC w):
 Calls Tryz.prog 4 #[lv] w fun e w' =>e= .returned (.bool true)∧Below w.heap.size w w' :=by
 obtain ⟨lo,lc,rfl,hlc,hlm⟩:=Rd.parts hl
 have CH:=hid (uD6 w hg)
 have HL:=hid hl
 have HG:=hid hg
 clear hl hg
 by_cases h90:90<l.length
 · have hz:(90:Int)<(l.length:Int):=by omega
   go_enter Tryz.func4, Tryz.ntmps4
   go_wp2_with fail
   refine CH.out.mono ?_
   rintro e w1 ⟨rfl,hb⟩
   have HB:=hid hb
   clear hb
   go_wp2_with fail
   go_ret
   exact ⟨rfl,HB.out⟩
 have hz:¬(90:Int)<(l.length:Int):=by omega
 go_enter Tryz.func4, Tryz.ntmps4
 go_wp2_with fail
 refine CH.out.mono ?_
 rintro e w1 ⟨rfl,hb⟩
 have HB1:=hid hb
 clear hb
 go_wp2_with fail
 go_loopw [4] (fun iv wr=>∃k:Nat,k≤l.length∧iv= .int .i64 k∧Below w1.heap.size w1 wr∧∀j (hj:j<l.length),j<k→uI8 l[j]) (fun iv _=>l.length - (intOf iv).toNat)
 case atStart=>exact ⟨0,Nat.zero_le _,rfl,Below.refl _ _,fun j _ h=>by omega⟩
 case round=>
  obtain ⟨k,hk,rfl,hbr,hcalm⟩:=hrel
  have HBR:=hid hbr
  have HC:=hid hcalm
  clear hbr hcalm
  by_cases hlt:k<l.length
  · obtain ⟨lb,lf,rfl,hlb,x0⟩:=xB5 (Rd.below HL.out (two HB1.out HBR.out)) k hlt
    obtain ⟨s,hs⟩:∃s,s=l[k]:=⟨_,rfl⟩
    have HS:=hid hs
    rw [←hs] at x0
    clear hs
    by_cases c1:100<s.size
    · have d1:(100:Int)<(s.size:Int):=by omega
      go_wp2_with fail
      go_ret
      exact ⟨rfl,two HB1.out HBR.out⟩
    have d1:¬(100:Int)<(s.size:Int):=by omega
    by_cases c2:3<s.size
    case neg=>
     have d2:¬(3:Int)<(s.size:Int):=by omega
     have d4:¬(5:Int)<(s.size:Int):=by omega
     have c4:¬5<s.size:=by omega
     have HN:=hid (xG9 hlt HS.out ⟨fun e=>c2 e.1,fun e=>c4 e.1⟩ HC.out)
     clear HC
     go_wp2_with fail
     go_roundw
     case rel=>exact ⟨k+1,by omega,by go_num,HBR.out,HN.out⟩
     case measure=>simp [intOf];omega
    have d2:(3:Int)<(s.size:Int):=by omega
    have b2:(4:Int)≤(s.size:Int):=by omega
    have b3:4≤s.size:=by omega
    by_cases c3:s.extract 0 4=⟨#[97,114,109,32]⟩
    · have e3:((s.extract 0 4).toList== [97,114,109,32])=true:=zE4 c3
      clear c3
      go_wp2_with fail
      go_ret
      exact ⟨rfl,two HB1.out HBR.out⟩
    have e3:((s.extract 0 4).toList== [97,114,109,32])=false:=zB4 c3
    by_cases c4:5<s.size
    case neg=>
     have d4:¬(5:Int)<(s.size:Int):=by omega
     have HN:=hid (xG9 hlt HS.out ⟨fun e=>c3 e.2,fun e=>c4 e.1⟩ HC.out)
     clear HC
     go_wp2_with fail
     go_roundw
     case rel=>exact ⟨k+1,by omega,by go_num,HBR.out,HN.out⟩
     case measure=>simp [intOf];omega
    have d4:(5:Int)<(s.size:Int):=by omega
    have b4:(6:Int)≤(s.size:Int):=by omega
    have b5:6≤s.size:=by omega
    by_cases c5:s.extract 0 6=⟨#[115,112,111,105,108,32]⟩
    · have e5:((s.extract 0 6).toList== [115,112,111,105,108,32])=true:=zE4 c5
      clear c5 c3
      go_wp2_with fail
      go_ret
      exact ⟨rfl,two HB1.out HBR.out⟩
    · have e5:((s.extract 0 6).toList== [115,112,111,105,108,32])=false:=zB4 c5
      have HN:=hid (xG9 hlt HS.out ⟨fun e=>c3 e.2,fun e=>c5 e.2⟩ HC.out)
      clear HC
      go_wp2_with fail
      go_roundw
      case rel=>exact ⟨k+1,by omega,by go_num,HBR.out,HN.out⟩
      case measure=>simp [intOf];omega
  · obtain rfl:k=l.length:=by omega
    have HW:Hid (∀s∈l,(∀x y,zB5 s≠ [vY2,x,y])∧∀x y,zB5 s≠ [zQ5,x,y]):=hid (fun s hs=>by
     obtain ⟨j,hj,rfl⟩:=List.getElem_of_mem hs
     exact uH7 (HC.out j hj hj))
    have HB2:=hid (two HB1.out HBR.out)
    clear HC HBR
    go_wp2_with (at_builtin;refine vB2 _ vN1 rfl _ _ rfl wr.heap.size l lo lc rfl rfl ?c1 ?c2 ?c3 ?_)
    case c1=>exact Rd.below HL.out HB2.out
    case c2=>omega
    case c3=>exact Nat.le_refl _
    intro v1 w2 ho2 hg2
    have HB3:Hid (Below wr.heap.size wr w2):=hid ((zV9 (F:=fun _=>False) hg2 (fun k e=>by cases e)).below _ (Nat.le_refl _) (fun _ h=>h.elim))
    obtain ⟨o1,q1,rfl,_,_⟩:=zI9 ho2
    have HO2:=hid ho2
    clear ho2 hg2
    go_wp2_with (at_builtin;refine vN3 _ vN1 rfl _ _ rfl wr.heap.size _ _ _ rfl (zE2 HO2.out (zA0 _ _)) ⟨w2.heap.size,0,none⟩ 1 ⟨#[109,97,114,107]⟩ rfl ?c4 ?c5 ?c6 ?_)
    case c4=>exact xP0 _ _ _
    case c5=>omega
    case c6=>have:=HB3.out.size;simp;omega
    intro v3 w3 ho3 hg3
    have HB4:Hid (Below wr.heap.size wr w3):=hid (zB0 (two HB3.out (zA0 _ _)) (zE2 HO2.out (zA0 _ _)) hg3 (Nat.le_refl _))
    have HT3:Hid (Texts w3 v3 (l++ [(⟨#[109,97,114,107]⟩:ByteArray)])):=hid (SL.of_own (by
     have h:=ho3
     rw [show l.flatMap zD3++ [Value.string ⟨#[109,97,114,107]⟩]=(l++ [(⟨#[109,97,114,107]⟩:ByteArray)]).flatMap zD3 by rw [List.flatMap_append];rfl,show l.length+1=(l++ [(⟨#[109,97,114,107]⟩:ByteArray)]).length by rw [List.length_append];rfl] at h
     exact h))
    obtain ⟨go,gc,rfl,hgc,hgm⟩:=zI9 ho3
    obtain ⟨gb,gf,hgo,_⟩:=Texts.cell HT3.out l.length (by simp)
    subst hgo
    clear ho3 hg3
    have HTO:Hid (Texts w3 (.slice (some ⟨gb,gf,none⟩) l.length gc) l):=hid (by
     have h:=vW4 HT3.out (r:=l.length) (by simp)
     rw [List.take_left] at h
     exact h)
    have hgc1:(l.length:Int)≤(gc:Int):=by omega
    have hgc2:l.length≤gc:=by omega
    have HB5:Hid (Below w.heap.size w w3):=hid (two HB2.out HB4.out)
    clear HB4 HO2 HT3 HB3
    by_cases h80:80<l.length
    · have hz80:(80:Int)<(l.length:Int):=by omega
      have CR:=hid (xZ3 w3 (some ⟨gb,gf,none⟩) l.length gc h80)
      have CS:Hid (∀W,_):=hid (fun W=>vL2 2 2 W)
      go_wp2_with fail
      refine CR.out.mono ?_
      rintro e w4 ⟨rfl,hb4⟩
      have HB6:=hid (two HB5.out hb4)
      clear hb4
      go_wp2_with fail
      refine (CS.out _).mono ?_
      rintro e w5 ⟨rfl,rfl⟩
      go_wp2_with fail
      go_ret
      exact ⟨by simp,HB6.out⟩
    have hz80:¬(80:Int)<(l.length:Int):=by omega
    have CR:=hid (xZ2 w3 (HG.out.below HB5.out) (some ⟨gb,gf,none⟩) gc l HTO.out (by omega) HW.out)
    go_wp2_with fail
    refine CR.out.mono ?_
    rintro e w4 ⟨v,rfl,hs4,hb4⟩
    have HS4:=hid hs4
    have HB6:=hid hb4
    obtain ⟨oo,oc,rfl,hoc,hoc'⟩:=zI9 hs4.own
    clear hs4 hb4 CR
    rw [zW8] at *
    have CN:=hid uD5
    have CT:=hid yO9
    go_wp2_with fail
    go_loopw [10,11] (fun wv iv wr=>∃(k:Nat) (v' :Value),k≤l.length∧iv= .int .i64 k∧RefS wr w4.heap.size (yF1 l k) v' ∧Strs wr (w4.heap.size+1) 9 wv (zL9 (yX9 l) k)∧Below w4.heap.size w4 wr) (fun _ iv _=>l.length - (intOf iv).toNat)
    case atStart=>exact ⟨0, .slice none 0 0,Nat.zero_le _,rfl,⟨heap_alloc_new w4 _,Rd.nil _⟩,vJ0 _ _ _,zA0 _ _⟩
    case round=>
     obtain ⟨k,v',hk,rfl,hr,hs,hb⟩:=hrel
     obtain ⟨wo,wc,rfl,hwc,hwc'⟩:=zI9 hs.own
     have HB7:=hid hb
     have HRK:=hid hr
     have HSK:=hid hs
     rw [zW8] at *
     clear hr hs hb
     by_cases hlt:k<l.length
     · have CS:=hid (ref_Say _ _ (yF1 l k) v' l[k] HRK.out (xT3 l k (by omega)))
       obtain ⟨lb,lf,rfl,hlb,x0⟩:=xB5 (Rd.below HL.out (two HB5.out (two HB6.out HB7.out))) k hlt
       have HQ:Hid ((zS7 (yF1 l k) l[k]).1=yF1 l (k+1)):=hid (yO2 l k hlt).symm
       have HA:Hid ((zS7 (yF1 l k) l[k]).2=yX9 l k):=hid (by unfold yX9;rw [dif_pos hlt];rfl)
       obtain ⟨t,ht⟩:∃t,t=l[k]:=⟨_,rfl⟩
       rw [←ht] at x0 CS HQ HA
       clear ht
       go_wp2_with fail
       refine CS.out.mono ?_
       rintro e w6 ⟨rfl,⟨v6,hr6⟩,ho6⟩
       have HS6:=hid (HSK.out.off ho6 (fun g hg e=>by have:=(HSK.out.own.lt g hg).1;omega))
       have HB8:=hid (HB7.out.trans (ho6.below _ HB7.out.size (fun x hx=>by rw [show x=w4.heap.size from hx];exact Nat.le_refl _)))
       have HR6:=hid hr6
       rw [HQ.out] at HR6
       rw [HA.out]
       clear hr6 ho6 x0
       go_wp2_with (at_builtin;refine xA8 _ vN1 rfl _ _ rfl (w4.heap.size+1) _ _ rfl (HS6.out.below (zA0 _ _)) ⟨w6.heap.size,0,none⟩ 1 (yX9 l k) rfl ?c1 ?c2 ?c3 ?_)
       case c1=>exact xP0 _ _ _
       case c2=>rw [zW8];omega
       case c3=>have:=HR6.out.lt;simp;omega
       intro v7 w7 ho7 hg7 hat7
       rw [←yX5] at ho7
       obtain ⟨W6,hW6⟩:∃W6,W6=w6.alloc (.cells #[.string (yX9 l k)] 9):=⟨_,rfl⟩
       rw [←hW6] at hg7
       have hb6:Below w6.heap.size w6 W6:=by rw [hW6];exact zA0 _ _
       have hs6:=HS6.out.below hb6
       have hr7:RefS w7 w4.heap.size (yF1 l (k+1)) v6:=by
        have h1:=HR6.out.below hb6
        cases hbk:(Value.slice wo k wc).ownBlock with
        | none=>exact h1.below ((zV9 (F:=fun _=>False) hg7 (fun k e=>by rw [hbk] at e;cases e)).below _ (Nat.le_refl _) (fun _ h=>h.elim))
        | some g=>exact h1.off1 (zV9 hg7 (fun k e=>by rw [hbk] at e;exact (Option.some.inj e).symm)) (hs6.all g hbk) (by have:=(hs6.own.lt g hbk).1;omega)
       have HB9:Hid (Below w4.heap.size w4 w7):=hid (zB0 (two HB8.out hb6) hs6.own hg7 (by omega))
       have HR7:=hid hr7
       have HO7:=hid ho7
       clear ho7 hg7 hat7 hW6 hb6 hs6 hr7
       go_wp2_with fail
       go_roundw
       case rel=>exact ⟨k+1,v6,by omega,by go_num,HR7.out,HO7.out,HB9.out⟩
       case measure=>simp [intOf];omega
     · obtain rfl:k=l.length:=by omega
       have HTW:Hid (Texts wr (.slice wo l.length wc) (zL9 (yX9 l) l.length)):=hid (by
        have h:=SL.of_own HSK.out.own
        exact h)
       have HTR:Hid (Texts wr (.slice oo l.length oc) (zL9 (yX9 l) l.length)):=hid (by
        have h:Texts w4 (.slice oo l.length oc) (zL9 (yX9 l) l.length):=SL.of_own HS4.out.own
        exact Rd.below h HB7.out)
       have HTQ:Hid (Texts wr (.slice (some ⟨gb,gf,none⟩) l.length gc) l):=hid (Rd.below HTO.out (two HB6.out HB7.out))
       have HTL:Hid (Texts wr (.slice lo l.length lc) l):=hid (Rd.below HL.out (two HB5.out (two HB6.out HB7.out)))
       go_wp2_with fail
       refine (CN.out _ _).mono ?_
       rintro e w8 ⟨rfl,rfl⟩
       go_wp2_with fail
       refine (CT.out _ _ _ _ _ HTR.out HTW.out).mono ?_
       rintro e w9 ⟨rfl,hb9⟩
       have HB9:=hid hb9
       clear hb9
       go_wp2_with fail
       refine (CT.out _ _ _ _ _ (Rd.below HTQ.out HB9.out) (Rd.below HTL.out HB9.out)).mono ?_
       rintro e w10 ⟨rfl,hb10⟩
       have HB10:=hid hb10
       clear hb10
       go_wp2_with fail
       go_ret
       exact ⟨by simp,two HB5.out (two HB6.out (two HB7.out (two HB9.out HB10.out)))⟩
end Go.Proofs.YtggpodlecljcbabGreatDoor
