/- Plain: chapter 8: what a deed that is added makes of the sectors; what is read of them then. -/
import Derived.Test.YtggpodlecljcbabGreatDoorKY
namespace Go.Proofs.YtggpodlecljcbabGreatDoor
set_option linter.unusedSimpArgs false
set_option linter.unusedVariables false
set_option maxRecDepth 100000
set_option maxHeartbeats 64000000
open Go.RowKit Go.Sort
def zL2 (k:UInt8)(n:Nat)(s:ByteArray):ByteArray:=(⟨#[k]⟩:ByteArray)++zH0 n++(⟨#[s.size.toUInt8,(s.size / 256).toUInt8]⟩:ByteArray)++s
theorem zQ9 (k:UInt8)(n:Nat)(s:ByteArray):(zL2 k n s).size=7+s.size:=by
 unfold zL2
 rw [ByteArray.size_append,ByteArray.size_append,ByteArray.size_append,zO9]
 show 1+4+2+s.size=_
 omega
theorem vW5 (k:UInt8)(n:Nat)(s:ByteArray):(zD1 (zL2 k n s)).data.toList=k::n.toUInt8::(n / 256).toUInt8::(n / 65536).toUInt8::(n / 16777216).toUInt8::s.size.toUInt8::(s.size / 256).toUInt8::(s.data.toList++List.replicate (40 - (zL2 k n s).size) 0):=by
 unfold zD1 zL2 zH0 zI3
 simp [ByteArray.append_eq,ByteArray.data_append]
theorem xH1 {a b:ByteArray}(h:a.data.toList=b.data.toList):a=b:=by
 cases a;cases b;simp at h;subst h;rfl
theorem zH6 (s:ByteArray)(i j:Nat):(s.extract i j).data.toList=(s.data.toList.take j).drop i:=by
 rw [ByteArray.data_extract]
 simp [Array.toList_extract,List.extract_eq_take_drop,List.drop_take]
theorem zU5 (s:ByteArray)(i:Nat)(h:i<s.size):s[i]=s.data.toList[i]'(by simpa using h):=by
 cases s;rfl
theorem cut7 {α:Type}(l r:List α)(x0 x1 x2 x3 x4 x5 x6:α):((x0::x1::x2::x3::x4::x5::x6::(l++r)).take (l.length+7)).drop 7=l:=by
 show (l++r).take l.length=l
 exact List.take_left
theorem cut2 {α:Type}(l r:List α)(x0 x1:α):((x0::x1::(l++r)).take (l.length+2)).drop 2=l:=by
 show (l++r).take l.length=l
 exact List.take_left
theorem cut2' {α:Type}(l r:List α)(x0 x1:α):(x0::x1::(l++r)).drop (l.length+2)=r:=by
 show (l++r).drop l.length=r
 exact List.drop_left
theorem zI7 (s:ByteArray):s.data.toList.length=s.size:=by cases s;simp [ByteArray.size]
theorem yQ3 (k:UInt8)(n:Nat)(s:ByteArray)(num:Nat)(hs:s.size≤33):zP2 (zD1 (zL2 k n s)) num=if ((zH0 n).toList==(zH0 num).toList)=false then yY0 else if ((k.toNat:Int)==111)=false∧((k.toNat:Int)==99)=false then yY0 else (k,s,true):=by
 have hd:=vW5 k n s
 have hz:(zD1 (zL2 k n s)).size=40:=zN0 _ (by rw [zQ9];omega)
 have h0:(zD1 (zL2 k n s))[0]'(by omega)=k:=by rw [zU5];simp [hd]
 have h5:(zD1 (zL2 k n s))[5]'(by omega)=s.size.toUInt8:=by rw [zU5];simp [hd]
 have h6:(zD1 (zL2 k n s))[6]'(by omega)=(s.size / 256).toUInt8:=by rw [zU5];simp [hd]
 have e1:(zD1 (zL2 k n s)).extract 1 5=zH0 n:=xH1 (by rw [zH6,hd];rfl)
 have e2:s.size.toUInt8.toNat+256 * (s.size / 256).toUInt8.toNat=s.size:=by
  have a1:s.size.toUInt8.toNat=s.size % 256:=by simp
  have a2:(s.size / 256).toUInt8.toNat=s.size / 256 % 256:=by simp
  rw [a1,a2];omega
 have e3:(zD1 (zL2 k n s)).extract 7 (7+s.size)=s:=xH1 (by
  rw [zH6,hd,show 7+s.size=s.data.toList.length+7 by rw [zI7];omega]
  exact cut7 _ _ _ _ _ _ _ _ _)
 unfold zP2
 rw [dif_pos hz,h0,h5,h6]
 unfold zM4
 rw [e1,e2,if_neg (by omega:¬33<s.size),e3]
theorem xD8 (num:Nat)(h1:1≤num)(h2:num≤2000000000):zP2 (zI3 40) num=yY0:=by
 unfold zP2
 rw [dif_pos (yA5 40)]
 unfold zM4
 rw [if_pos]
 have:(zI3 40).extract 1 5=zH0 0:=by decide +kernel
 rw [this]
 cases h:((zH0 0).toList==(zH0 num).toList)
 · rfl
 · exfalso
   have he:(zH0 0).toList=(zH0 num).toList:=by simpa using h
   have he2:zH0 0=zH0 num:=(zG7 _ _).1 he
   simp only [zH0,ByteArray.mk.injEq] at he2
   have he3:=congrArg Array.toList he2
   simp only [List.cons.injEq] at he3
   obtain ⟨a0,a1,a2,a3,_⟩:=he3
   replace a0:=congrArg UInt8.toNat a0
   replace a1:=congrArg UInt8.toNat a1
   replace a2:=congrArg UInt8.toNat a2
   replace a3:=congrArg UInt8.toNat a3
   simp at a0 a1 a2 a3
   omega
theorem xF0 (n:Nat):((zH0 n).toList==(zH0 n).toList)=true:=by simp
theorem zP1 (c:Change)(h:zA2 c=0):(zB3 c).2=0∧(zB3 c).1.size≤33∧zH4 (zB3 c).1=(c,0):=by
 have hb:zB3 c=((⟨#[yD9 c,c.key.size.toUInt8]⟩:ByteArray)++c.key++c.val,0):=by unfold zB3;rw [if_neg (by simp [h])]
 obtain ⟨hk,hv⟩:=zY7 h
 have hz:(zB3 c).1.size=2+c.key.size+c.val.size:=by rw [hb,ByteArray.size_append,ByteArray.size_append];rfl
 refine ⟨by rw [hb],by rw [hz];omega,?_⟩
 have hd:(zB3 c).1.data.toList=yD9 c::c.key.size.toUInt8::(c.key.data.toList++c.val.data.toList):=by rw [hb];simp [ByteArray.append_eq,ByteArray.data_append]
 have h0:(zB3 c).1[0]'(by omega)=yD9 c:=by rw [zU5];simp [hd]
 have h1:(zB3 c).1[1]'(by omega)=c.key.size.toUInt8:=by rw [zU5];simp [hd]
 have hkn:c.key.size.toUInt8.toNat=c.key.size:=by simp;omega
 have e1:(zB3 c).1.extract 2 (2+c.key.size)=c.key:=xH1 (by
  rw [zH6,hd,show 2+c.key.size=c.key.data.toList.length+2 by rw [zI7];omega]
  exact cut2 _ _ _ _)
 have e2:(zB3 c).1.extract (2+c.key.size) (zB3 c).1.size=c.val:=xH1 (by
  rw [zH6]
  rw [←zI7 (zB3 c).1,List.take_length,hd,show 2+c.key.size=c.key.data.toList.length+2 by rw [zI7];omega]
  exact cut2' _ _ _ _)
 unfold zH4
 rw [dif_neg (by omega),h0,h1]
 have hat:yE2 (zB3 c).1 (yD9 c) c.key.size.toUInt8=c:=by
  unfold yE2
  rw [hkn,e1,e2]
  obtain ⟨k,v,g⟩:=c
  cases g <;> rfl
 have hg:(yD9 c).toNat≤1:=by unfold yD9;split <;> decide
 unfold zR9
 rw [if_neg (by rw [hkn,hz];omega),hat,if_neg (by simp [h])]
def xI5 (first i:Nat)(c:Change):ByteArray:=zD1 (zL2 111 (first+i) (zB3 c).1)
def zM7 (first:Nat):Nat→List Change→List ByteArray
 | _, []=> []
 | i,c::r=>xI5 first i c::zM7 first (i+1) r
def zT3 (first i n:Nat):ByteArray:=zD1 (zL2 99 (first+i) (zH0 n))
theorem zL6 (first:Nat):∀(cs:List Change) (i:Nat),(zM7 first i cs).length=cs.length
 | [],_=>rfl
 | c::r,i=>by simp [zM7,zL6 first r (i+1)]
theorem vX3 (first i:Nat)(c:Change)(h:zA2 c=0)(o:List (List Change))(d:List Change)(u:Nat):zX1 first i (xI5 first i c) o d u=some (o,d++ [c],u):=by
 obtain ⟨_,h2,h3⟩:=zP1 c h
 unfold zX1 xI5
 rw [yQ3 _ _ _ _ h2,xF0]
 simp [h3]
theorem vO6 (first i:Nat)(o:List (List Change))(d:List Change)(u:Nat):zX1 first i (zT3 first i d.length) o d u=some (o++ [d], [],i+1):=by
 unfold zX1 zT3
 rw [yQ3 _ _ _ _ (by rw [zO9];omega),xF0]
 simp
theorem vX1 (first i:Nat)(o:List (List Change))(d:List Change)(u:Nat)(h1:1≤first)(h2:first+i≤2000000000):zX1 first i (zI3 40) o d u=none:=by
 unfold zX1
 rw [xD8 _ (by omega) h2]
 simp [yY0]
theorem xT5 (first:Nat):∀(cs:List Change) (i:Nat) (R:List ByteArray) (o:List (List Change)) (d:List Change) (u:Nat),(∀c∈cs,zA2 c=0)→
 zC4 first (zM7 first i cs++R) i o d u=zC4 first R (i+cs.length) o (d++cs) u
 | [],i,R,o,d,u,_=>by simp [zM7]
 | c::r,i,R,o,d,u,h=>by
  simp only [zM7,List.cons_append,zC4]
  rw [vX3 first i c (h c (List.mem_cons_self ..))]
  simp only []
  rw [xT5 first r (i+1) R o (d++ [c]) u (fun x hx=>h x (List.mem_cons_of_mem _ hx))]
  simp only [List.length_cons,List.append_assoc,List.singleton_append]
  congr 1
  omega
def stopY (R:List ByteArray):Prop:=R= []∨∃r,R=zI3 40::r
theorem uL8 (first i:Nat)(R:List ByteArray)(o:List (List Change))(d:List Change)(u:Nat)(h:stopY R)(h1:1≤first)(h2:first+i≤2000000000):zC4 first R i o d u=(o,u):=by
 rcases h with rfl | ⟨r,rfl⟩
 · rfl
 · simp only [zC4]
   rw [vX1 first i o d u h1 h2]
theorem xO3 (first:Nat):∀(R:List ByteArray) (i:Nat) (o:List (List Change)) (d:List Change) (u:Nat),(∀j (h:j<R.length),(zP2 R[j] (first+(i+j))).2.2=false∨((zP2 R[j] (first+(i+j))).1.toNat:Int)≠99)→zC4 first R i o d u=(o,u)
 | [],_,_,_,_,_=>rfl
 | s::r,i,o,d,u,h=>by
  have h0:=h 0 (by simp)
  simp only [List.getElem_cons_zero,Nat.add_zero] at h0
  have hr:∀j (hj:j<r.length),(zP2 r[j] (first+(i+1+j))).2.2=false∨((zP2 r[j] (first+(i+1+j))).1.toNat:Int)≠99:=fun j hj=>by
   have:=h (j+1) (by simpa using hj)
   rw [show i+1+j=i+(j+1) by omega]
   simpa using this
  simp only [zC4]
  cases hs:zX1 first i s o d u with
  | none=>rfl
  | some p=>
   obtain ⟨o1,d1,u1⟩:=p
   have hk:o1=o∧u1=u:=by
    unfold zX1 at hs
    split at hs
    · cases hs
    · rename_i hn
      split at hs
      · rename_i h9
        rcases h0 with h0 | h0
        · exact absurd h0 hn
        · exact absurd (by simpa using h9) h0
      · split at hs
        · cases hs
        · simp only [Option.some.injEq,Prod.mk.injEq] at hs
          exact ⟨hs.1.symm,hs.2.2.symm⟩
   obtain ⟨rfl,rfl⟩:=hk
   exact xO3 first r (i+1) _ _ _ hr
def vI5 (first:Nat)(P:List ByteArray)(want:List (List Change)):Prop:=∀R,zC4 first (P++R) 0 [] [] 0=zC4 first R P.length want [] P.length
theorem uE7 (first:Nat):∀(l:List ByteArray) (i:Nat) (o:List (List Change)) (d:List Change) (u:Nat) (o' :List (List Change)) (u' :Nat),zC4 first l i o d u=(o',u')→
 (o' =o∧u' =u)∨(i<u' ∧u' ≤i+l.length∧∀R,zC4 first (l.take (u' - i)++R) i o d u=zC4 first R u' o' [] u')
 | [],i,o,d,u,o',u',h=>by
  simp only [zC4,Prod.mk.injEq] at h
  exact Or.inl ⟨h.1.symm,h.2.symm⟩
 | s::r,i,o,d,u,o',u',h=>by
  cases hs:zX1 first i s o d u with
  | none=>
   simp only [zC4,hs,Prod.mk.injEq] at h
   exact Or.inl ⟨h.1.symm,h.2.symm⟩
  | some p=>
   obtain ⟨o1,d1,u1⟩:=p
   simp only [zC4,hs] at h
   have hk:(o1=o∧u1=u)∨(d1= []∧u1=i+1):=by
    unfold zX1 at hs
    split at hs
    · cases hs
    · split at hs
      · split at hs
        · simp only [Option.some.injEq,Prod.mk.injEq] at hs
          exact Or.inr ⟨hs.2.1.symm,hs.2.2.symm⟩
        · cases hs
      · split at hs
        · cases hs
        · simp only [Option.some.injEq,Prod.mk.injEq] at hs
          exact Or.inl ⟨hs.1.symm,hs.2.2.symm⟩
   rcases uE7 first r (i+1) o1 d1 u1 o' u' h with ⟨e1,e2⟩ | ⟨h1,h2,h3⟩
   · rcases hk with ⟨k1,k2⟩ | ⟨k1,k2⟩
     · exact Or.inl ⟨e1.trans k1,e2.trans k2⟩
     · refine Or.inr ⟨by omega,by simp;omega,fun R=>?_⟩
       have:u' - i=1:=by omega
       rw [this]
       simp only [List.take_succ_cons,List.take_zero,List.cons_append,List.nil_append,zC4,hs]
       rw [e1,e2,k1,k2]
   · refine Or.inr ⟨by omega,by simp;omega,fun R=>?_⟩
     obtain ⟨m,hm⟩:∃m,u' - i=m+1:=⟨u' - i - 1,by omega⟩
     rw [hm]
     simp only [List.take_succ_cons,List.cons_append,zC4,hs]
     have:m=u' - (i+1):=by omega
     rw [this]
     exact h3 R
theorem yR0 (first:Nat)(S:List ByteArray)(want:List (List Change))(used:Nat)(h:zC4 first S 0 [] [] 0=(want,used)):used≤S.length∧vI5 first (S.take used) want:=by
 rcases uE7 first S 0 [] [] 0 want used h with ⟨rfl,rfl⟩ | ⟨h1,h2,h3⟩
 · exact ⟨Nat.zero_le _,fun R=>by simp⟩
 · have hu:used≤S.length:=by omega
   refine ⟨hu,fun R=>?_⟩
   have:=h3 R
   rw [Nat.sub_zero] at this
   rw [this,List.length_take,Nat.min_eq_left hu]
theorem uO8 {first:Nat}{P:List ByteArray}{want:List (List Change)}(h:vI5 first P want)(c:List Change)(hc:∀x∈c,zA2 x=0):vI5 first (P++(zM7 first P.length c++ [zT3 first (P.length+c.length) c.length])) (want++ [c]):=fun R=>by
 rw [List.append_assoc,h,List.append_assoc,xT5 first c P.length _ want [] P.length hc]
 simp only [List.nil_append,List.cons_append,zC4]
 rw [vO6]
 simp only [List.length_append,zL6,List.length_cons,List.length_nil,Nat.zero_add,Nat.add_assoc]
open Go.RowKit Go.Sort
def zE8 (p:DiskS × Nat)(f:DiskS→DiskS × Nat):DiskS × Nat:=if p.2≠0 then p else f p.1
theorem zE0 {p:DiskS × Nat}{f:DiskS→DiskS × Nat}(h:p.2≠0):zE8 p f=p:=if_pos h
theorem zD7 {p:DiskS × Nat}{f:DiskS→DiskS × Nat}(h:p.2=0):zE8 p f=f p.1:=if_neg (by simp [h])
def zK2 (fr first next:Nat):Nat→List Change→DiskS→DiskS × Nat
 | _, [],D=>(D,0)
 | i,c::r,D=>zE8 (zB9 D ((fr+next+i:Nat):Int) (zL2 111 (first+next+i) (zB3 c).1)) (zK2 fr first next (i+1) r)
def yR7 (fr many next n:Nat)(D:DiskS):DiskS × Nat:=if next+n+1<many then zB9 D ((fr+(next+n+1):Nat):Int) ⟨#[]⟩ else (D,0)
def xI8 (fr many first next:Nat)(c:List Change)(D:DiskS):DiskS × Nat:=zE8 (zK2 fr first next 0 c D) (yR7 fr many next c.length)
def xD7 (fr first next n:Nat)(D:DiskS):DiskS × Nat:=zB9 D ((fr+(next+n):Nat):Int) (zL2 99 (first+(next+n)) (zH0 n))
def zH1 :List Change→Nat
 | []=>0
 | c::r=>if zA2 c≠0 then zA2 c else zH1 r
def xB8 (fr many first next:Nat)(c:List Change)(D:DiskS):DiskS × Nat:=zE8 (zE8 (zE8 (xI8 fr many first next c D) zC5) (xD7 fr first next c.length)) zC5
def zI2 (many next:Nat)(c:List Change):Nat:=if 14<c.length then 2 else if many<next+c.length+1 then 7 else zH1 c
def yS4 (fr many first next:Nat)(c:List Change)(D:DiskS):DiskS × Nat:=if zI2 many next c≠0 then (D,zI2 many next c) else xB8 fr many first next c D
theorem yW3 :∀(c:List Change),zH1 c=0→∀x∈c,zA2 x=0
 | [],_,x,hx=>by cases hx
 | c::r,h,x,hx=>by
  unfold zH1 at h
  split at h
  · rename_i hn;exact absurd h hn
  · rename_i hn
    rcases List.mem_cons.1 hx with rfl | hx
    · simpa using hn
    · exact yW3 r h x hx
theorem zQ2 {many next:Nat}{c:List Change}(h:zI2 many next c=0):c.length≤14∧next+c.length+1≤many∧(∀x∈c,zA2 x=0):=by
 unfold zI2 at h
 split at h
 · cases h
 · split at h
   · cases h
   · exact ⟨by omega,by omega,yW3 c h⟩
structure KeptY (I:DiskS→Prop):Prop where
 write:∀D p s,I D→I (zB9 D p s).1
 flush:∀D,I D→I (zC5 D).1
theorem yQ5 {I:DiskS→Prop}(hI:KeptY I)(fr first next:Nat):∀(c:List Change) (i:Nat) (D:DiskS),I D→I (zK2 fr first next i c D).1
 | [],_,_,h=>h
 | c::r,i,D,h=>by
  unfold zK2 zE8
  split
  · exact hI.write _ _ _ h
  · exact yQ5 hI fr first next r (i+1) _ (hI.write _ _ _ h)
theorem xP2 {I:DiskS→Prop}(hI:KeptY I)(fr many first next:Nat)(c:List Change)(D:DiskS)(h:I D):I (xI8 fr many first next c D).1:=by
 unfold xI8 zE8
 split
 · exact yQ5 hI _ _ _ _ _ _ h
 · unfold yR7
   split
   · exact hI.write _ _ _ (yQ5 hI _ _ _ _ _ _ h)
   · exact yQ5 hI _ _ _ _ _ _ h
theorem zJ3 {I:DiskS→Prop}{p:DiskS × Nat}{f:DiskS→DiskS × Nat}(h:I p.1)(hf:∀D,I D→I (f D).1):I (zE8 p f).1:=by
 unfold zE8
 split
 · exact h
 · exact hf _ h
theorem uE0 {I:DiskS→Prop}(hI:KeptY I)(fr many first next:Nat)(c:List Change)(D:DiskS)(h:I D):I (xB8 fr many first next c D).1:=
 zJ3 (zJ3 (zJ3 (xP2 hI fr many first next c D h) hI.flush) (fun E hE=>hI.write E _ _ hE)) hI.flush
theorem uO6 {I:DiskS→Prop}(hI:KeptY I)(fr many first next:Nat)(c:List Change)(D:DiskS)(h:I D):I (yS4 fr many first next c D).1:=by
 unfold yS4
 split
 · exact h
 · exact uE0 hI _ _ _ _ _ _ h
theorem zU4 :KeptY DiskS.ok:=⟨fun _ p s h=>h.write p s,fun _ h=>h.flush⟩
theorem xA6 (D:DiskS)(p:Int)(s:ByteArray):(zB9 D p s).1.now.length=D.now.length:=by
 unfold zB9;split
 · rfl
 · split
   · rw [(zG3 D).2.1]
   · simp
theorem xF2 (D:DiskS):(zC5 D).1.now=D.now:=by
 unfold zC5;split
 · exact (zG3 D).2.1
 · exact (zG3 D).2.1
theorem uD8 (n:Nat):KeptY (fun D=>D.now.length=n):=⟨fun D p s h=>(xA6 D p s).trans h,fun D h=>by rw [xF2];exact h⟩
theorem vL4 :KeptY (fun D=>∀s∈D.now,s.size=40):=⟨fun D p s h x hx=>by
 unfold zB9 at hx;split at hx
 · exact h x hx
 · rename_i hn
   split at hx
   · rw [(zG3 D).2.1] at hx;exact h x hx
   · rcases List.mem_or_eq_of_mem_set hx with hx | rfl
     · exact h x hx
     · exact zN0 _ (by omega),fun D h=>by rw [xF2];exact h⟩
theorem zO6 (D:DiskS)(p:Int)(s:ByteArray):(zB9 D p s).1.wait.length≤D.wait.length+1:=by
 unfold zB9;split
 · exact Nat.le_succ _
 · split
   · rw [(zG3 D).2.2];exact Nat.le_succ _
   · simp
theorem yU0 (D:DiskS):(zC5 D).1.wait.length≤D.wait.length:=by
 unfold zC5;split
 · rw [(zG3 D).2.2];exact Nat.le_refl _
 · simp
theorem xR5 (fr first next:Nat):∀(c:List Change) (i:Nat) (D:DiskS),(zK2 fr first next i c D).1.wait.length≤D.wait.length+c.length
 | [],_,_=>Nat.le_refl _
 | c::r,i,D=>by
  have h:=zO6 D ((fr+next+i:Nat):Int) (zL2 111 (first+next+i) (zB3 c).1)
  unfold zK2 zE8
  split
  · simp only [List.length_cons];omega
  · have:=xR5 fr first next r (i+1) (zB9 D ((fr+next+i:Nat):Int) (zL2 111 (first+next+i) (zB3 c).1)).1
    simp only [List.length_cons];omega
theorem uJ3 (fr many first next:Nat)(c:List Change)(D:DiskS):(xI8 fr many first next c D).1.wait.length≤D.wait.length+c.length+1:=by
 have h:=xR5 fr first next c 0 D
 unfold xI8 zE8
 split
 · omega
 · unfold yR7
   split
   · have:=zO6 (zK2 fr first next 0 c D).1 ((fr+(next+c.length+1):Nat):Int) ⟨#[]⟩
     omega
   · show (zK2 fr first next 0 c D).1.wait.length≤_;omega
def Calm (D:DiskS):Prop:=D.down=false∧D.fuse= -1
theorem Calm.step {D:DiskS}(h:Calm D):zI5 D=(D,0):=by
 unfold zI5
 rw [if_neg (by simp [h.1]),if_neg (by rw [h.2];decide),if_neg (by rw [h.2];decide)]
theorem Calm.write {D:DiskS}(h:Calm D)(i:Nat)(s:ByteArray)(hi:i<D.now.length)(hs:s.size≤40):zB9 D i s=({ D with now:=D.now.set i (zD1 s),wait:=D.wait++ [⟨i,zD1 s⟩] },0):=by
 unfold zB9
 rw [if_neg (by omega),if_neg (by rw [h.step];simp),h.step]
 simp
theorem Calm.flush {D:DiskS}(h:Calm D):zC5 D=({ D with kept:=D.now,wait:= [] },0):=by
 unfold zC5
 rw [if_neg (by rw [h.step];simp),h.step]
def yC7 (l:List ByteArray)(k:Nat):List ByteArray→List ByteArray
 | []=>l
 | x::r=>yC7 (l.set k x) (k+1) r
theorem yG1 :∀(xs:List ByteArray) (k:Nat) (l:List ByteArray),(yC7 l k xs).length=l.length
 | [],_,_=>rfl
 | x::r,k,l=>by rw [yC7,yG1 r];simp
theorem yO1 :∀(xs:List ByteArray) (k:Nat) (l:List ByteArray),k+xs.length≤l.length→yC7 l k xs=l.take k++xs++l.drop (k+xs.length)
 | [],k,l,h=>by simp [yC7]
 | x::r,k,l,h=>by
  simp only [List.length_cons] at h
  rw [yC7,yO1 r (k+1) (l.set k x) (by simp;omega)]
  have h1:(l.set k x).take (k+1)=l.take k++ [x]:=by
   rw [List.take_succ_eq_append_getElem (by simp;omega),List.take_set,List.set_eq_of_length_le (by simp;omega)]
   simp
  have h2:(l.set k x).drop (k+1+r.length)=l.drop (k+(x::r).length):=by
   rw [List.drop_set,if_pos (by omega)]
   congr 1
   simp;omega
  rw [h1,h2]
  simp
theorem xN9 (l:List ByteArray)(fr many i:Nat)(x:ByteArray):((l.set (fr+i) x).drop fr).take many=((l.drop fr).take many).set i x:=by
 rw [List.drop_set,if_neg (by omega),List.take_set]
 congr 1
 omega
theorem xT0 (fr many:Nat):∀(xs:List ByteArray) (i:Nat) (l:List ByteArray),((yC7 l (fr+i) xs).drop fr).take many=yC7 ((l.drop fr).take many) i xs
 | [],_,_=>rfl
 | x::r,i,l=>by
  rw [yC7,yC7,Nat.add_assoc,xT0 fr many r (i+1),xN9]
theorem zV0 :zD1 ⟨#[]⟩=zI3 40:=by decide +kernel
open Go.RowKit Go.Sort
def yD3 (s:ByteArray)(num:Nat):Prop:=(zP2 s num).2.2=false∨((zP2 s num).1.toNat:Int)≠99
theorem yP9 (first i:Nat)(c:Change)(h:zA2 c=0):yD3 (xI5 first i c) (first+i):=by
 obtain ⟨_,h2,h3⟩:=zP1 c h
 right
 unfold xI5
 rw [yQ3 _ _ _ _ h2,xF0]
 simp
theorem yD2 (num:Nat)(h1:1≤num)(h2:num≤2000000000):yD3 (zI3 40) num:=by
 left
 rw [xD8 _ h1 h2];rfl
def yA4 (first:Nat)(S:List ByteArray)(next:Nat):Prop:=∀j (h:j<S.length),next≤j→yD3 S[j] (first+j)
theorem zZ8 {first next:Nat}{S:List ByteArray}{want:List (List Change)}(hP:vI5 first (S.take next) want)(hn:next≤S.length)(hc:yA4 first S next):zC4 first S 0 [] [] 0=(want,next):=by
 have hl:(S.take next).length=next:=by rw [List.length_take];omega
 have h1:=hP (S.drop next)
 rw [List.take_append_drop,hl] at h1
 rw [h1]
 exact xO3 first (S.drop next) next want [] next (fun j hj=>by
  have hj2:next+j<S.length:=by rw [List.length_drop] at hj;omega
  have:=hc (next+j) hj2 (by omega)
  rw [List.getElem_drop]
  exact this)
def zZ3 (first fr many next:Nat)(t:Turn):Prop:=∃j,t.pos=fr+j∧next≤j∧j<many∧yD3 t.data (first+j)∧t.data.size=40
theorem yQ6 (keep:Int)(wait:List Turn)(kept:List ByteArray):∀k,k≤wait.length→∀i (h:i<kept.length),∃h2:i<(zE1 keep wait k kept).length,(zE1 keep wait k kept)[i]=kept[i]∨∃t∈wait,t.pos=i∧(zE1 keep wait k kept)[i]=t.data
 | 0,_,i,h=>⟨by rw [zR5];exact h,Or.inl (by simp [zR5])⟩
 | k+1,hk,i,h=>by
  obtain ⟨h2,h3⟩:=yQ6 keep wait kept k (by omega) i h
  refine ⟨by rw [zG1 keep wait kept _ hk];exact h,?_⟩
  have he:=zW2 keep wait k kept (by omega)
  by_cases hb:zZ9 keep k=true
  · rw [if_pos hb] at he
    by_cases hp:wait[k].pos=i
    · right
      refine ⟨wait[k],List.getElem_mem _,hp,?_⟩
      simp only [he]
      rw [List.getElem_set,if_pos hp]
    · have:(zE1 keep wait (k+1) kept)[i]'(by rw [zG1 keep wait kept _ hk];exact h)=(zE1 keep wait k kept)[i]:=by
       simp only [he]
       rw [List.getElem_set,if_neg hp]
      rw [this];exact h3
  · have:(zE1 keep wait (k+1) kept)[i]'(by rw [zG1 keep wait kept _ hk];exact h)=(zE1 keep wait k kept)[i]:=by
     rw [if_neg hb] at he
     simp only [he]
    rw [this];exact h3
structure InvY (first fr many:Nat) (D:DiskS) (want:List (List Change)) (next:Nat):Prop where
 kept:D.kept=D.now
 wait:D.wait= []
 cl:zC4 first (zB1 D fr many) 0 [] [] 0=(want,next)
 nc:yA4 first (zB1 D fr many) next
 up:D.down=false
 forty:∀s∈D.now,s.size=40
theorem xO0 (l:List ByteArray)(fr many j:Nat)(h:j<((l.drop fr).take many).length):((l.drop fr).take many)[j]=l[fr+j]'(by rw [List.length_take,List.length_drop] at h;omega):=by simp
theorem xP3 {first fr many next:Nat}{K D:DiskS}{want:List (List Change)}(h:InvY first fr many K want next)(hk:D.kept=K.kept)(hw:∀t∈D.wait,zZ3 first fr many next t)(hm:fr+many≤K.now.length)(keep:Int):
 InvY first fr many (zC1 D keep) want next:=by
 obtain ⟨R,hR⟩:∃R,R=zE1 keep D.wait D.wait.length D.kept:=⟨_,rfl⟩
 have hRl:R.length=K.now.length:=by rw [hR,zG1 keep D.wait D.kept _ (Nat.le_refl _),hk,h.kept]
 have hRat:∀i (hi:i<K.now.length),R[i]'(by omega)=K.now[i]∨∃t∈D.wait,t.pos=i∧R[i]'(by omega)=t.data:=fun i hi=>by
  subst hR
  obtain ⟨h2,h3⟩:=yQ6 keep D.wait D.kept D.wait.length (Nat.le_refl _) i (by rw [hk,h.kept];exact hi)
  have:D.kept[i]'(by rw [hk,h.kept];exact hi)=K.now[i]:=by simp only [hk,h.kept]
  rw [this] at h3
  exact h3
 have hS:(zB1 K fr many).length=many:=zJ7 hm
 have hSR:((R.drop fr).take many).length=many:=by rw [List.length_take,List.length_drop];omega
 have hu:=(yR0 first _ _ _ h.cl).1
 rw [hS] at hu
 have hnc:yA4 first ((R.drop fr).take many) next:=fun j hj hn=>by
  rw [xO0]
  rw [hSR] at hj
  rcases hRat (fr+j) (by omega) with e | ⟨t,ht,e1,e2⟩
  · rw [e]
    have:=h.nc j (by rw [hS];exact hj) hn
    unfold zB1 at this
    rw [xO0] at this
    exact this
  · rw [e2]
    obtain ⟨j',p1,p2,p3,p4,_⟩:=hw t ht
    obtain rfl:j' =j:=by omega
    exact p4
 have hAB:∀j (hj:j<next),((R.drop fr).take many)[j]'(by omega)=(zB1 K fr many)[j]'(by omega):=fun j hj=>by
  have e1:=xO0 R fr many j (by omega)
  have e2:=xO0 K.now fr many j (by unfold zB1 at hS;omega)
  rw [e1]
  refine Eq.trans ?_ e2.symm
  rcases hRat (fr+j) (by omega) with e | ⟨t,ht,q1,q2⟩
  · exact e
  · obtain ⟨j',p1,p2,p3,p4,_⟩:=hw t ht
    omega
 have htk:((R.drop fr).take many).take next=(zB1 K fr many).take next:=by
  obtain ⟨A,hA⟩:∃A,A=(R.drop fr).take many:=⟨_,rfl⟩
  obtain ⟨B,hB⟩:∃B,B=zB1 K fr many:=⟨_,rfl⟩
  simp only [←hA,←hB] at hAB hS hSR ⊢
  refine List.ext_getElem (by rw [List.length_take,List.length_take,hS,hSR]) (fun j h1 h2=>?_)
  rw [List.getElem_take,List.getElem_take]
  exact hAB j (by rw [List.length_take] at h1;omega)
 have hcl:zC4 first ((R.drop fr).take many) 0 [] [] 0=(want,next):=by
  refine zZ8 ?_ (by rw [hSR];exact hu) hnc
  rw [htk]
  exact (yR0 first _ _ _ h.cl).2
 refine ⟨rfl,rfl,?_,?_,rfl,?_⟩
 · show zC4 first (((zE1 keep D.wait D.wait.length D.kept).drop fr).take many) 0 [] [] 0=_
   rw [←hR];exact hcl
 · show yA4 first (((zE1 keep D.wait D.wait.length D.kept).drop fr).take many) next
   rw [←hR];exact hnc
 · intro s hs
   have hs2:s∈R:=by rw [hR];exact hs
   obtain ⟨i,hi,rfl⟩:=List.getElem_of_mem hs2
   rcases hRat i (by omega) with e | ⟨t,ht,e1,e2⟩
   · rw [e];exact h.forty _ (List.getElem_mem _)
   · rw [e2];obtain ⟨_,_,_,_,_,q⟩:=hw t ht;exact q
theorem zV4 {D:DiskS}(hd:D.down=false)(i:Nat)(s:ByteArray)(hi:i<D.now.length)(hs:s.size≤40):
 (∃E,zB9 D i s=(E,8)∧E.down=true∧E.kept=D.kept∧E.now=D.now∧E.wait=D.wait)∨(∃E,zB9 D i s=(E,0)∧E.down=false∧E.kept=D.kept∧E.now=D.now.set i (zD1 s)∧E.wait=D.wait++ [⟨i,zD1 s⟩]):=by
 by_cases hf:D.fuse=0
 · left
   have h1:zI5 D=({ D with down:=true,fuse:= -1 },8):=by unfold zI5;rw [if_neg (by simp [hd]),if_pos hf]
   refine ⟨{ D with down:=true,fuse:= -1 },?_,rfl,rfl,rfl,rfl⟩
   unfold zB9
   rw [if_neg (by omega),if_pos (by rw [h1];simp),h1]
 · right
   have h1:zI5 D=({ D with fuse:=if 0<D.fuse then D.fuse - 1 else D.fuse },0):=by unfold zI5;rw [if_neg (by simp [hd]),if_neg hf]
   refine ⟨{ D with fuse:=if 0<D.fuse then D.fuse - 1 else D.fuse,now:=D.now.set i (zD1 s),wait:=D.wait++ [⟨i,zD1 s⟩] },?_,hd,rfl,rfl,rfl⟩
   unfold zB9
   rw [if_neg (by omega),if_neg (by rw [h1];simp),h1]
   simp
theorem yE0 {D:DiskS}(hd:D.down=false):
 (∃E,zC5 D=(E,8)∧E.down=true∧E.kept=D.kept∧E.now=D.now∧E.wait=D.wait)∨(∃E,zC5 D=(E,0)∧E.down=false∧E.kept=D.now∧E.now=D.now∧E.wait= []):=by
 by_cases hf:D.fuse=0
 · left
   have h1:zI5 D=({ D with down:=true,fuse:= -1 },8):=by unfold zI5;rw [if_neg (by simp [hd]),if_pos hf]
   refine ⟨{ D with down:=true,fuse:= -1 },?_,rfl,rfl,rfl,rfl⟩
   unfold zC5
   rw [if_pos (by rw [h1];simp),h1]
 · right
   have h1:zI5 D=({ D with fuse:=if 0<D.fuse then D.fuse - 1 else D.fuse },0):=by unfold zI5;rw [if_neg (by simp [hd]),if_neg hf]
   refine ⟨{ D with fuse:=if 0<D.fuse then D.fuse - 1 else D.fuse,kept:=D.now,wait:= [] },?_,hd,rfl,rfl,rfl⟩
   unfold zC5
   rw [if_neg (by rw [h1];simp),h1]
theorem uM9 (first i:Nat)(c:Change)(h:zA2 c=0):(xI5 first i c).size=40:=by
 unfold xI5
 exact zN0 _ (by rw [zQ9];have:=(zP1 c h).2.1;omega)
theorem xK3 (fr many first next:Nat):∀(c:List Change) (i:Nat) (D:DiskS),D.down=false→(∀x∈c,zA2 x=0)→next+i+c.length≤many→fr+many≤D.now.length→(∀t∈D.wait,zZ3 first fr many next t)→
 (∃E,zK2 fr first next i c D=(E,8)∧E.down=true∧E.kept=D.kept∧∀t∈E.wait,zZ3 first fr many next t)∨
 (∃E,zK2 fr first next i c D=(E,0)∧E.down=false∧E.kept=D.kept∧(∀t∈E.wait,zZ3 first fr many next t)∧E.now=yC7 D.now (fr+(next+i)) (zM7 first (next+i) c))
 | [],i,D,hd,_,_,_,hw=>Or.inr ⟨D,rfl,hd,rfl,hw,rfl⟩
 | x::r,i,D,hd,hf,hn,hm,hw=>by
  simp only [List.length_cons] at hn
  have hx:=hf x (List.mem_cons_self ..)
  have hc:=zP1 x hx
  unfold zK2
  rcases zV4 hd (fr+next+i) (zL2 111 (first+next+i) (zB3 x).1) (by omega) (by rw [zQ9];omega) with ⟨E,e1,e2,e3,e4,e5⟩ | ⟨E,e1,e2,e3,e4,e5⟩
  · left
    refine ⟨E,?_,e2,e3,by rw [e5];exact hw⟩
    rw [e1,zE0 (by simp)]
  · have hwE:∀t∈E.wait,zZ3 first fr many next t:=by
     rw [e5]
     intro t ht
     rcases List.mem_append.1 ht with ht | ht
     · exact hw t ht
     · simp only [List.mem_singleton] at ht
       subst ht
       have ho:zD1 (zL2 111 (first+next+i) (zB3 x).1)=xI5 first (next+i) x:=by unfold xI5;rw [Nat.add_assoc]
       exact ⟨next+i,by show fr+next+i=_;omega,by omega,by omega,by show yD3 (zD1 _) _;rw [ho];exact yP9 first (next+i) x hx,by show (zD1 _).size=40;rw [ho];exact uM9 _ _ _ hx⟩
    have ih:=xK3 fr many first next r (i+1) E e2 (fun y hy=>hf y (List.mem_cons_of_mem _ hy)) (by omega) (by rw [e4];simpa using hm) hwE
    rw [e1,zD7 rfl]
    rcases ih with ⟨F,f1,f2,f3,f4⟩ | ⟨F,f1,f2,f3,f4,f5⟩
    · exact Or.inl ⟨F,f1,f2,f3.trans e3,f4⟩
    · refine Or.inr ⟨F,f1,f2,f3.trans e3,f4,f5.trans ?_⟩
      rw [e4]
      simp only [zM7,yC7,xI5,Nat.add_assoc]
def zX4 (first many next:Nat)(c:List Change)(S:List ByteArray):List ByteArray:=
 if next+c.length+1<many then (S.take next++zM7 first next c++S.drop (next+c.length)).set (next+c.length+1) (zI3 40) else S.take next++zM7 first next c++S.drop (next+c.length)
theorem uD4 (fr many first next:Nat)(c:List Change)(D:DiskS)(hd:D.down=false)(hf:∀x∈c,zA2 x=0)(hn:next+c.length+1≤many)(hm:fr+many≤D.now.length)(hw:∀t∈D.wait,zZ3 first fr many next t)(h1:1≤first)(h2:first+many≤2000000000):
 (∃E,xI8 fr many first next c D=(E,8)∧E.down=true∧E.kept=D.kept∧∀t∈E.wait,zZ3 first fr many next t)∨
 (∃E,xI8 fr many first next c D=(E,0)∧E.down=false∧E.kept=D.kept∧(∀t∈E.wait,zZ3 first fr many next t)∧E.now.length=D.now.length∧zB1 E fr many=zX4 first many next c (zB1 D fr many)):=by
 have hS:(zB1 D fr many).length=many:=zJ7 hm
 unfold xI8
 rcases xK3 fr many first next c 0 D hd hf (by omega) hm hw with ⟨E,e1,e2,e3,e4⟩ | ⟨E,e1,e2,e3,e4,e5⟩
 · left;refine ⟨E,?_,e2,e3,e4⟩;rw [e1,zE0 (by simp)]
 · rw [e1,zD7 rfl]
   rw [Nat.add_zero] at e5
   have l1:E.now.length=D.now.length:=by rw [e5,yG1]
   have s1:zB1 E fr many=(zB1 D fr many).take next++zM7 first next c++(zB1 D fr many).drop (next+c.length):=by
    unfold zB1
    rw [e5,xT0]
    have:=yO1 (zM7 first next c) next (zB1 D fr many) (by rw [zL6];omega)
    rw [zL6] at this
    exact this
   show (∃F,yR7 fr many next c.length E=(F,8)∧_)∨_
   unfold yR7 zX4
   by_cases hl:next+c.length+1<many
   · rw [if_pos hl,if_pos hl]
     rcases zV4 e2 (fr+(next+c.length+1)) ⟨#[]⟩ (by omega) (by decide) with ⟨F,f1,f2,f3,f4,f5⟩ | ⟨F,f1,f2,f3,f4,f5⟩
     · left;exact ⟨F,f1,f2,f3.trans e3,by rw [f5];exact e4⟩
     · right
       refine ⟨F,f1,f2,f3.trans e3,?_,by rw [f4,List.length_set,l1],?_⟩
       · rw [f5]
         intro t ht
         rcases List.mem_append.1 ht with ht | ht
         · exact e4 t ht
         · simp only [List.mem_singleton] at ht
           subst ht
           exact ⟨next+c.length+1,rfl,by omega,hl,by show yD3 (zD1 _) _;rw [zV0];exact yD2 _ (by omega) (by omega),by show (zD1 _).size=40;rw [zV0];exact yA5 40⟩
       · unfold zB1 at s1 ⊢
         rw [f4,xN9,s1,zV0]
   · rw [if_neg hl,if_neg hl]
     exact Or.inr ⟨E,rfl,e2,e3,e4,l1,s1⟩
theorem yZ3 {first many next:Nat}{c:List Change}{S:List ByteArray}(hS:S.length=many)(hn:next+c.length+1≤many):(zX4 first many next c S).length=many∧(zX4 first many next c S).take (next+c.length)=S.take next++zM7 first next c∧
 ∀j (h:j<(zX4 first many next c S).length),next+c.length≤j→(zX4 first many next c S)[j]=zI3 40∨∃h2:j<S.length,(zX4 first many next c S)[j]=S[j]:=by
 obtain ⟨A,hA⟩:∃A,A=S.take next++zM7 first next c++S.drop (next+c.length):=⟨_,rfl⟩
 have hp:(S.take next++zM7 first next c).length=next+c.length:=by rw [List.length_append,List.length_take,zL6];omega
 have hAl:A.length=many:=by rw [hA,List.length_append,hp,List.length_drop];omega
 have hAt:A.take (next+c.length)=S.take next++zM7 first next c:=by rw [hA,←hp];exact List.take_left
 have hAj:∀j (h:j<A.length),next+c.length≤j→∃h2:j<S.length,A[j]=S[j]:=fun j h hj=>by
  refine ⟨by omega,?_⟩
  subst hA
  rw [List.getElem_append_right (by rw [hp];exact hj)]
  rw [List.getElem_drop]
  congr 1
  rw [hp];omega
 unfold zX4
 rw [←hA]
 by_cases hl:next+c.length+1<many
 · rw [if_pos hl]
   refine ⟨by rw [List.length_set];exact hAl,?_,fun j h hj=>?_⟩
   · rw [List.take_set_of_le (by omega)];exact hAt
   · rw [List.getElem_set]
     split
     · exact Or.inl rfl
     · exact Or.inr (hAj j (by simpa using h) hj)
 · rw [if_neg hl]
   exact ⟨hAl,hAt,fun j h hj=>Or.inr (hAj j h hj)⟩
theorem yD5 {first many next:Nat}{c:List Change}{S:List ByteArray}(hS:S.length=many)(hn:next+c.length+1≤many)(hf:∀x∈c,zA2 x=0)(hc:yA4 first S next)(h1:1≤first)(h2:first+many≤2000000000):yA4 first (zX4 first many next c S) next:=by
 obtain ⟨a1,a2,a3⟩:=yZ3 (first:=first) (c:=c) hS hn
 intro j hj hnj
 by_cases hlt:j<next+c.length
 · have hp:(S.take next).length=next:=by rw [List.length_take];omega
   have e:(zX4 first many next c S)[j]=(S.take next++zM7 first next c)[j]'(by rw [List.length_append,hp,zL6];exact hlt):=by
    have:(zX4 first many next c S)[j]=((zX4 first many next c S).take (next+c.length))[j]'(by rw [List.length_take];omega):=by rw [List.getElem_take]
    rw [this]
    simp only [a2]
   rw [e,List.getElem_append_right (by rw [hp];exact hnj)]
   have key:∀(cs:List Change) (i k:Nat) (h:k<(zM7 first i cs).length),(∀x∈cs,zA2 x=0)→yD3 (zM7 first i cs)[k] (first+(i+k)):=by
    intro cs
    induction cs with
    | nil=>intro i k h;simp [zM7] at h
    | cons x r ih=>
     intro i k h hx
     cases k with
     | zero=>exact yP9 first i x (hx x (List.mem_cons_self ..))
     | succ k=>
      have:=ih (i+1) k (by simpa [zM7] using h) (fun y hy=>hx y (List.mem_cons_of_mem _ hy))
      have e2:i+(k+1)=i+1+k:=by omega
      rw [e2]
      exact this
   have:=key c next (j - next) (by rw [zL6];omega) hf
   rw [show next+(j - next)=j by omega] at this
   simpa only [hp] using this
 · rcases a3 j hj (by omega) with e | ⟨h3,e⟩
   · rw [e];exact yD2 _ (by omega) (by omega)
   · rw [e];exact hc j h3 hnj
theorem vS2 {first many next:Nat}{c:List Change}{S:List ByteArray}{want:List (List Change)}(hS:S.length=many)(hn:next+c.length+1≤many)(hP:vI5 first (S.take next) want):vI5 first ((zX4 first many next c S).take next) want:=by
 obtain ⟨a1,a2,a3⟩:=yZ3 (first:=first) (c:=c) hS hn
 have hp:(S.take next).length=next:=by rw [List.length_take];omega
 have:(zX4 first many next c S).take next=S.take next:=by
  have h1:((zX4 first many next c S).take (next+c.length)).take next=(zX4 first many next c S).take next:=by rw [List.take_take,Nat.min_eq_left (by omega)]
  rw [←h1,a2]
  exact List.take_left' hp
 rw [this];exact hP
theorem markS {first many next:Nat}{c:List Change}{S:List ByteArray}{want:List (List Change)}(hS:S.length=many)(hn:next+c.length+1≤many)(hP:vI5 first (S.take next) want)(hf:∀x∈c,zA2 x=0)(hc:yA4 first S next)(h1:1≤first)(h2:first+many≤2000000000):
 zC4 first ((zX4 first many next c S).set (next+c.length) (zT3 first (next+c.length) c.length)) 0 [] [] 0=(want++ [c],next+c.length+1)∧yA4 first ((zX4 first many next c S).set (next+c.length) (zT3 first (next+c.length) c.length)) (next+c.length+1):=by
 obtain ⟨a1,a2,a3⟩:=yZ3 (first:=first) (c:=c) hS hn
 have hp:(S.take next).length=next:=by rw [List.length_take];omega
 have hnc:yA4 first ((zX4 first many next c S).set (next+c.length) (zT3 first (next+c.length) c.length)) (next+c.length+1):=by
  intro j hj hnj
  rw [List.getElem_set,if_neg (by omega)]
  exact yD5 hS hn hf hc h1 h2 j (by simpa using hj) (by omega)
 refine ⟨zZ8 ?_ (by rw [List.length_set,a1];exact hn) hnc,hnc⟩
 have ht:((zX4 first many next c S).set (next+c.length) (zT3 first (next+c.length) c.length)).take (next+c.length+1)=S.take next++(zM7 first next c++ [zT3 first (next+c.length) c.length]):=by
  rw [List.take_succ_eq_append_getElem (by rw [List.length_set,a1];omega),List.take_set_of_le (Nat.le_refl _),a2,List.getElem_set_self,List.append_assoc]
 rw [ht]
 have:=uO8 hP c hf
 rw [hp] at this
 exact this
theorem inv_len {first fr many next:Nat}{D:DiskS}{want:List (List Change)}(h:InvY first fr many D want next)(hm:fr+many≤D.now.length):next≤many:=by
 have:=(yR0 first _ _ _ h.cl).1
 rwa [zJ7 hm] at this
theorem uI4 {first fr many next:Nat}{D:DiskS}{want:List (List Change)}(c:List Change)(hI:InvY first fr many D want next)(hm:fr+many≤D.now.length)(h1:1≤first)(h2:first+many≤2000000000):
 (zI2 many next c≠0∧yS4 fr many first next c D=(D,zI2 many next c))∨
 (∃E,zI2 many next c=0∧yS4 fr many first next c D=(E,0)∧InvY first fr many E (want++ [c]) (next+c.length+1)∧E.now.length=D.now.length)∨
 (∃E,zI2 many next c=0∧yS4 fr many first next c D=(E,8)∧E.down=true∧∀keep,InvY first fr many (zC1 E keep) want next∨InvY first fr many (zC1 E keep) (want++ [c]) (next+c.length+1)):=by
 by_cases h0:zI2 many next c=0
 rotate_left
 · left;exact ⟨h0,by unfold yS4;rw [if_pos h0]⟩
 right
 obtain ⟨g1,g2,g3⟩:=zQ2 h0
 have hA:yS4 fr many first next c D=xB8 fr many first next c D:=by unfold yS4;rw [if_neg (by simp [h0])]
 have hS:(zB1 D fr many).length=many:=zJ7 hm
 have hP:=(yR0 first _ _ _ hI.cl).2
 rw [hA]
 unfold xB8
 rcases uD4 fr many first next c D hI.up g3 g2 hm (by rw [hI.wait];intro t ht;cases ht) h1 h2 with ⟨E,e1,e2,e3,e4⟩ | ⟨E,e1,e2,e3,e4,e5,e6⟩
 · right
   refine ⟨E,h0,?_,e2,fun keep=>Or.inl (xP3 hI e3 e4 hm keep)⟩
   rw [e1,zE0 (p:=(E,8)) (by simp),zE0 (p:=(E,8)) (by simp),zE0 (p:=(E,8)) (by simp)]
 rw [e1,zD7 (p:=(E,0)) rfl]
 rcases yE0 e2 with ⟨F,f1,f2,f3,f4,f5⟩ | ⟨F,f1,f2,f3,f4,f5⟩
 · right
   refine ⟨F,h0,?_,f2,fun keep=>Or.inl (xP3 hI (f3.trans e3) (by rw [f5];exact e4) hm keep)⟩
   rw [f1,zE0 (p:=(F,8)) (by simp),zE0 (p:=(F,8)) (by simp)]
 rw [f1,zD7 (p:=(F,0)) rfl]
 -- behind the first flush
 have hF40:∀s∈F.now,s.size=40:=by
  have:=xP2 vL4 fr many first next c D hI.forty
  rw [e1] at this
  rw [f4];exact this
 have hFl:F.now.length=D.now.length:=by rw [f4,e5]
 have hFs:zB1 F fr many=zX4 first many next c (zB1 D fr many):=by unfold zB1 at e6 ⊢;rw [f4];exact e6
 have hFI:InvY first fr many F want next:=⟨f3.trans f4.symm,f5,by
     rw [hFs]
     exact zZ8 (vS2 hS g2 hP) (by rw [(yZ3 (first:=first) (c:=c) hS g2).1];omega) (yD5 hS g2 g3 hI.nc h1 h2),by rw [hFs];exact yD5 hS g2 g3 hI.nc h1 h2,f2,hF40⟩
 have hmF:fr+many≤F.now.length:=by rw [hFl];exact hm
 unfold xD7
 rcases zV4 f2 (fr+(next+c.length)) (zL2 99 (first+(next+c.length)) (zH0 c.length)) (by omega) (by rw [zQ9,zO9];omega) with ⟨G,k1,k2,k3,k4,k5⟩ | ⟨G,k1,k2,k3,k4,k5⟩
 · right
   refine ⟨G,h0,?_,k2,fun keep=>Or.inl (xP3 hFI k3 (by rw [k5,f5];intro t ht;cases ht) hmF keep)⟩
   rw [k1,zE0 (p:=(G,8)) (by simp)]
 rw [k1,zD7 (p:=(G,0)) rfl]
 have hcl:zD1 (zL2 99 (first+(next+c.length)) (zH0 c.length))=zT3 first (next+c.length) c.length:=rfl
 rw [hcl] at k4 k5
 have hc40:(zT3 first (next+c.length) c.length).size=40:=by rw [←hcl];exact zN0 _ (by rw [zQ9,zO9];omega)
 obtain ⟨m1,m2⟩:=markS hS g2 hP g3 hI.nc h1 h2
 have hset:∀E' :DiskS,E'.now=F.now.set (fr+(next+c.length)) (zT3 first (next+c.length) c.length)→zB1 E' fr many=(zX4 first many next c (zB1 D fr many)).set (next+c.length) (zT3 first (next+c.length) c.length):=fun E' hE=>by
  unfold zB1 at hFs ⊢
  rw [hE,xN9,hFs]
 have h40s:∀s∈F.now.set (fr+(next+c.length)) (zT3 first (next+c.length) c.length),s.size=40:=fun s hs=>by
  rcases List.mem_or_eq_of_mem_set hs with hs | rfl
  · exact hF40 s hs
  · exact hc40
 rcases yE0 k2 with ⟨H,q1,q2,q3,q4,q5⟩ | ⟨H,q1,q2,q3,q4,q5⟩
 · right
   refine ⟨H,h0,q1,q2,fun keep=>?_⟩
   have hw:H.wait= [⟨fr+(next+c.length),zT3 first (next+c.length) c.length⟩]:=by rw [q5,k5,f5];rfl
   have hk:H.kept=F.now:=by rw [q3,k3,f3,←f4]
   have hr:(zC1 H keep).now=if zZ9 keep 0 then F.now.set (fr+(next+c.length)) (zT3 first (next+c.length) c.length) else F.now:=by
    show zE1 keep H.wait H.wait.length H.kept=_
    rw [hw,hk]
    show zE1 keep [_] 1 F.now=_
    rw [zW2 keep _ 0 F.now (by simp),zR5]
    rfl
   cases hb:zZ9 keep 0
   · left
     rw [hb] at hr
     have hr2:(zC1 H keep).now=F.now:=by simpa using hr
     have hs:zB1 (zC1 H keep) fr many=zB1 F fr many:=by unfold zB1;rw [hr2]
     exact ⟨rfl,rfl,by rw [hs];exact hFI.cl,by rw [hs];exact hFI.nc,rfl,by rw [hr2];exact hF40⟩
   · right
     rw [hb] at hr
     have hr2:(zC1 H keep).now=F.now.set (fr+(next+c.length)) (zT3 first (next+c.length) c.length):=by simpa using hr
     exact ⟨rfl,rfl,by rw [hset _ hr2];exact m1,by rw [hset _ hr2];exact m2,rfl,by rw [hr2];exact h40s⟩
 · left
   have hn2:H.now=F.now.set (fr+(next+c.length)) (zT3 first (next+c.length) c.length):=q4.trans k4
   exact ⟨H,h0,q1,⟨q3.trans q4.symm,q5,by rw [hset _ hn2];exact m1,by rw [hset _ hn2];exact m2,q2,by rw [hn2];exact h40s⟩,by rw [hn2,List.length_set,hFl]⟩
theorem yG3 (D:DiskS)(keep:Int):Calm (zC1 D keep):=⟨rfl,rfl⟩
open Go.RowKit Go.Sort
def u4 (a b c d:UInt8):Nat:=a.toNat+256 * b.toNat+65536 * c.toNat+16777216 * d.toNat
theorem yS7 (n:Nat)(h:n<4294967296):u4 n.toUInt8 (n / 256).toUInt8 (n / 65536).toUInt8 (n / 16777216).toUInt8=n:=by
 unfold u4
 have a1:n.toUInt8.toNat=n % 256:=by simp
 have a2:(n / 256).toUInt8.toNat=n / 256 % 256:=by simp
 have a3:(n / 65536).toUInt8.toNat=n / 65536 % 256:=by simp
 have a4:(n / 16777216).toUInt8.toNat=n / 16777216 % 256:=by simp
 rw [a1,a2,a3,a4]
 omega
theorem u4_lt (a b c d:UInt8):u4 a b c d<4294967296:=by
 unfold u4
 have:=a.toNat_lt
 have:=b.toNat_lt
 have:=c.toNat_lt
 have:=d.toNat_lt
 omega
structure Hd where
 epoch:Nat
 side:Nat
 size:Nat
 first:Nat
def Hd.ok (h:Hd):Prop:=h.epoch<4294967296∧h.side≤1∧h.size≤480∧1≤h.first∧h.first<4294967296
def zD8 (h:Hd):ByteArray:=(⟨#[72]⟩:ByteArray)++zH0 h.epoch++zH0 h.side++zH0 h.size++zH0 h.first
theorem zP9 (h:Hd):(zD8 h).size=17:=by
 unfold zD8
 simp only [ByteArray.size_append,zO9]
 rfl
def zV3 :Hd:=⟨0,0,0,0⟩
def zY5 (x:UInt8)(h:Hd):Hd:=if x.toNat≠72∨1<h.side∨480<h.size∨h.first<1 then zV3 else h
def headOf (l:List UInt8):Hd:=match l with
 | x::a0::a1::a2::a3::b0::b1::b2::b3::c0::c1::c2::c3::d0::d1::d2::d3::_=>zY5 x ⟨u4 a0 a1 a2 a3,u4 b0 b1 b2 b3,u4 c0 c1 c2 c3,u4 d0 d1 d2 d3⟩
 | _=>zV3
theorem uE8 (h:Hd):∃r,(zD1 (zD8 h)).data.toList=72::h.epoch.toUInt8::(h.epoch / 256).toUInt8::(h.epoch / 65536).toUInt8::(h.epoch / 16777216).toUInt8::h.side.toUInt8::(h.side / 256).toUInt8::(h.side / 65536).toUInt8::(h.side / 16777216).toUInt8
 ::h.size.toUInt8::(h.size / 256).toUInt8::(h.size / 65536).toUInt8::(h.size / 16777216).toUInt8::h.first.toUInt8::(h.first / 256).toUInt8::(h.first / 65536).toUInt8::(h.first / 16777216).toUInt8::r:=by
 refine ⟨List.replicate (40 - (zD8 h).size) 0,?_⟩
 unfold zD1 zD8 zH0 zI3
 simp [ByteArray.append_eq,ByteArray.data_append]
theorem xW4 (h:Hd)(hk:h.ok):headOf (zD1 (zD8 h)).data.toList=h:=by
 obtain ⟨r,hr⟩:=uE8 h
 obtain ⟨k1,k2,k3,k4,k5⟩:=hk
 rw [hr]
 unfold headOf
 simp only []
 rw [yS7 _ k1,yS7 _ (by omega),yS7 _ (by omega),yS7 _ k5]
 unfold zY5
 rw [if_neg (by simp;omega)]
theorem vS9 :headOf (zI3 40).data.toList=zV3:=by
 have:(zI3 40).data.toList=List.replicate 40 0:=by simp [zI3]
 rw [this]
 show zY5 0 _=zV3
 rw [zY5,if_pos (Or.inl (by decide))]
theorem vT1 (l:List UInt8):(headOf l).side≤1∧(headOf l).size≤480∧(headOf l).epoch<4294967296∧(headOf l).first<4294967296:=by
 unfold headOf
 split
 · unfold zY5
   split
   · decide
   · rename_i hn
     simp only [not_or,Nat.not_lt] at hn
     exact ⟨hn.2.1,hn.2.2.1,u4_lt _ _ _ _,u4_lt _ _ _ _⟩
 · decide
def zV7 (c:Change):ByteArray:=(⟨#[c.key.size.toUInt8,c.val.size.toUInt8,(c.val.size / 256).toUInt8]⟩:ByteArray)++c.key++c.val
def zC8 :List Change→ByteArray
 | []=>⟨#[]⟩
 | c::r=>zV7 c++zC8 r
theorem xT8 (c:Change):(zV7 c).size=3+c.key.size+c.val.size:=by
 unfold zV7
 rw [ByteArray.size_append,ByteArray.size_append]
 rfl
def zJ2 :Nat→List UInt8→List Change→Option (List Change)
 | 0,_,acc=>some acc
 | f+1,t,acc=>match t with
  | []=>some acc
  | [_]=>none
  | [_,_]=>none
  | k::v::u::r=>
   if r.length<k.toNat+v.toNat+256 * u.toNat then none
   else if zA2 ⟨⟨(r.take k.toNat).toArray⟩,⟨((r.drop k.toNat).take (v.toNat+256 * u.toNat)).toArray⟩,false⟩≠0 then none
   else zJ2 f (r.drop (k.toNat+v.toNat+256 * u.toNat)) (yE5 acc ⟨⟨(r.take k.toNat).toArray⟩,⟨((r.drop k.toNat).take (v.toNat+256 * u.toNat)).toArray⟩,false⟩)
theorem uA7 (f:Nat)(c:Change)(r:List UInt8)(acc:List Change)(hc:zA2 c=0)(hg:c.gone=false):zJ2 (f+1) ((zV7 c).data.toList++r) acc=zJ2 f r (yE5 acc c):=by
 obtain ⟨hk,hv⟩:=zY7 hc
 have hd:(zV7 c).data.toList++r=c.key.size.toUInt8::c.val.size.toUInt8::(c.val.size / 256).toUInt8::(c.key.data.toList++(c.val.data.toList++r)):=by
  unfold zV7
  simp [ByteArray.append_eq,ByteArray.data_append]
 have e1:c.key.size.toUInt8.toNat=c.key.size:=by simp;omega
 have e2:c.val.size.toUInt8.toNat=c.val.size:=by simp;omega
 have e3:(c.val.size / 256).toUInt8.toNat=0:=by simp;omega
 have l1:=zI7 c.key
 have l2:=zI7 c.val
 have t1:(c.key.data.toList++(c.val.data.toList++r)).take c.key.size=c.key.data.toList:=by rw [←l1];exact List.take_left
 have t2:(c.key.data.toList++(c.val.data.toList++r)).drop c.key.size=c.val.data.toList++r:=by rw [←l1];exact List.drop_left
 have t3:(c.val.data.toList++r).take c.val.size=c.val.data.toList:=by rw [←l2];exact List.take_left
 have t4:(c.key.data.toList++(c.val.data.toList++r)).drop (c.key.size+c.val.size)=r:=by
  rw [←List.drop_drop,t2,←l2];exact List.drop_left
 have hcc:(⟨⟨c.key.data.toList.toArray⟩,⟨c.val.data.toList.toArray⟩,false⟩:Change)=c:=by
  obtain ⟨⟨k⟩,⟨v⟩,g⟩:=c
  simp at hg
  simp [hg]
 rw [hd]
 simp only [zJ2,e1,e2,e3,Nat.mul_zero,Nat.add_zero,t1,t2,t3,t4,hcc]
 rw [if_neg (by simp [l1,l2]),if_neg (by simp [hc])]
theorem xV1 :∀(l:List Change) (f:Nat) (acc:List Change),l.length≤f→(∀c∈l,zA2 c=0∧c.gone=false)→zJ2 f (zC8 l).data.toList acc=some (l.foldl yE5 acc)
 | [],0,acc,_,_=>rfl
 | [],f+1,acc,_,_=>rfl
 | c::r,0,acc,h,_=>by simp at h
 | c::r,f+1,acc,h,hc=>by
  have h1:=hc c (List.mem_cons_self ..)
  have hd:(zC8 (c::r)).data.toList=(zV7 c).data.toList++(zC8 r).data.toList:=by simp [zC8,ByteArray.append_eq,ByteArray.data_append]
  rw [hd,uA7 f c _ acc h1.1 h1.2,xV1 r f (yE5 acc c) (by simpa using h) (fun x hx=>hc x (List.mem_cons_of_mem _ hx))]
  rfl
theorem uR8 {acc:List Change}{c:Change}(h:RisesX (acc++ [c]))(hg:c.gone=false):yE5 acc c=acc++ [c]:=by
 have hlt:∀t (ht:t<acc.length),bLt acc[t].key c.key=true:=fun t ht=>by
  have:=RisesX.at h t acc.length ht (by simp)
  rw [List.getElem_append_left ht,List.getElem_append_right (Nat.le_refl _)] at this
  simpa using this
 have hr:zH3 acc c.key=acc.length:=yZ0 c.key acc acc.length (Nat.le_refl _) (fun t ht _=>hlt t ht) (fun t ht h2=>absurd ht (by omega))
 have hi:zT1 acc c.key (zH3 acc c.key)=false:=yQ8 acc c.key _ (by omega)
 unfold yE5
 rw [hi,hg,hr]
 simp
theorem yT9 :∀(l acc:List Change),RisesX (acc++l)→(∀c∈l,c.gone=false)→l.foldl yE5 acc=acc++l
 | [],acc,_,_=>by simp
 | c::r,acc,h,hg=>by
  have h1:RisesX (acc++ [c]):=by
   have:acc++(c::r)=(acc++ [c])++r:=by simp
   rw [this] at h
   exact (List.pairwise_append.1 h).1
  rw [List.foldl_cons,uR8 h1 (hg c (List.mem_cons_self ..)),yT9 r (acc++ [c]) (by simpa using h) (fun x hx=>hg x (List.mem_cons_of_mem _ hx))]
  simp
theorem vR3 (l:List Change)(f:Nat)(h:l.length≤f)(hr:RisesX l)(hc:∀c∈l,zA2 c=0∧c.gone=false):zJ2 f (zC8 l).data.toList []=some l:=by
 rw [xV1 l f [] h hc,yT9 l [] (by simpa using hr) (fun c hx=>(hc c hx).2)]
 simp
theorem zZ1 :∀(l:List Change),(∀c∈l,zA2 c=0)→(zC8 l).size≤27 * l.length
 | [],_=>Nat.le_refl _
 | c::r,h=>by
  obtain ⟨hk,hv⟩:=zY7 (h c (List.mem_cons_self ..))
  have ih:=zZ1 r (fun x hx=>h x (List.mem_cons_of_mem _ hx))
  rw [zC8,ByteArray.size_append,xT8]
  simp only [List.length_cons]
  omega
open Go.RowKit Go.Sort
structure StS where
 h:Hd
 next:Nat
 rows:List Change
def xC9 (s0 s1:ByteArray):Hd:=
 let a:=if 0<(headOf s0.data.toList).epoch then headOf s0.data.toList else zV3
 if a.epoch<(headOf s1.data.toList).epoch then headOf s1.data.toList else a
def yA1 (D:DiskS)(side:Nat):List UInt8:=((D.now.drop (2+side * 12)).take 12).flatMap (fun s=>s.data.toList)
def yP6 (D:DiskS):Option StS:=
 let h:=xC9 (D.now.getD 0 ⟨#[]⟩) (D.now.getD 1 ⟨#[]⟩)
 if h.epoch=0 then none
 else match zJ2 481 ((yA1 D h.side).take h.size) [] with
  | none=>none
  | some rows=>let p:=zC4 h.first (zB1 D 26 (D.now.length - 26)) 0 [] [] 0;some ⟨h,p.2,p.1.foldl (fun r c=>c.foldl yE5 r) rows⟩
def zS0 :Nat→Nat→DiskS→DiskS × Nat
 | _,0,D=>(D,0)
 | i,k+1,D=>zE8 (zB9 D (i:Nat) ⟨#[]⟩) (zS0 (i+1) k)
def zT4 (D:DiskS):DiskS × Nat:=
 if D.now.length<42 then (D,7)
 else zE8 (zE8 (zE8 (zE8 (zB9 D ((0:Nat):Int) ⟨#[]⟩) (zS0 26 (D.now.length - 26))) zC5) (fun E=>zB9 E ((1:Nat):Int) (zD8 ⟨1,0,0,1⟩))) zC5
theorem xH0 :∀(k i:Nat) (D:DiskS),Calm D→i+k≤D.now.length→(zS0 i k D).2=0∧Calm (zS0 i k D).1∧(zS0 i k D).1.now=yC7 D.now i (List.replicate k (zI3 40))
 | 0,i,D,h,_=>⟨rfl,h,rfl⟩
 | k+1,i,D,h,hl=>by
  have hw:=h.write i ⟨#[]⟩ (by omega) (by decide)
  rw [zV0] at hw
  have ih:=xH0 k (i+1) { D with now:=D.now.set i (zI3 40),wait:=D.wait++ [⟨i,zI3 40⟩] } ⟨h.1,h.2⟩ (by simp;omega)
  unfold zS0
  rw [hw,zD7 rfl]
  refine ⟨ih.1,ih.2.1,ih.2.2.trans ?_⟩
  rw [List.replicate_succ,yC7]
theorem Calm.flushed {D:DiskS}(h:Calm D):Calm { D with kept:=D.now,wait:= [] }:=⟨h.1,h.2⟩
theorem vI0 (D:DiskS)(h:Calm D)(hn:42≤D.now.length):∃E,zT4 D=(E,0)∧Calm E∧E.kept=E.now∧E.wait= []∧E.now=((yC7 (D.now.set 0 (zI3 40)) 26 (List.replicate (D.now.length - 26) (zI3 40))).set 1 (zD1 (zD8 ⟨1,0,0,1⟩))):=by
 have hw:=h.write 0 ⟨#[]⟩ (by omega) (by decide)
 rw [zV0] at hw
 obtain ⟨D1,hD1⟩:∃D1,D1=({ D with now:=D.now.set 0 (zI3 40),wait:=D.wait++ [⟨0,zI3 40⟩] }:DiskS):=⟨_,rfl⟩
 have c1:Calm D1:=by rw [hD1];exact ⟨h.1,h.2⟩
 have n1:D1.now=D.now.set 0 (zI3 40):=by rw [hD1]
 rw [←hD1] at hw
 obtain ⟨b1,b2,b3⟩:=xH0 (D.now.length - 26) 26 D1 c1 (by rw [n1,List.length_set];omega)
 obtain ⟨⟨D2,m2⟩,hp2⟩:∃p,p=zS0 26 (D.now.length - 26) D1:=⟨_,rfl⟩
 rw [←hp2] at b1 b2 b3
 dsimp only at b1 b2 b3
 subst b1
 have f2:=b2.flush
 have c3:Calm { D2 with kept:=D2.now,wait:= [] }:=b2.flushed
 have l2:D2.now.length=D.now.length:=by rw [b3,yG1,n1,List.length_set]
 have hw2:=c3.write 1 (zD8 ⟨1,0,0,1⟩) (by show 1<D2.now.length;omega) (by rw [zP9];omega)
 obtain ⟨D3,hD3⟩:∃D3,D3=({ D2 with kept:=D2.now,now:=D2.now.set 1 (zD1 (zD8 ⟨1,0,0,1⟩)),wait:= [⟨1,zD1 (zD8 ⟨1,0,0,1⟩)⟩] }:DiskS):=⟨_,rfl⟩
 have c4:Calm D3:=by rw [hD3];exact ⟨b2.1,b2.2⟩
 have hw3:zB9 { D2 with kept:=D2.now,wait:= [] } ((1:Nat):Int) (zD8 ⟨1,0,0,1⟩)=(D3,0):=by rw [hw2,hD3];rfl
 refine ⟨{ D3 with kept:=D3.now,wait:= [] },?_,c4.flushed,rfl,rfl,?_⟩
 · unfold zT4
   rw [if_neg (by omega),hw,zD7 (p:=(D1,0)) rfl,←hp2,zD7 (p:=(D2,0)) rfl,f2,zD7 (p:=(_,0)) rfl]
   show zE8 (zB9 { D2 with kept:=D2.now,wait:= [] } ((1:Nat):Int) (zD8 ⟨1,0,0,1⟩)) zC5=_
   rw [hw3,zD7 (p:=(D3,0)) rfl,c4.flush]
 · show D3.now=_
   rw [hD3]
   show D2.now.set 1 _=_
   rw [b3,n1]
def zY6 :Hd:=⟨1,0,0,1⟩
theorem xX1 :zY6.ok:=by unfold Hd.ok zY6;decide
theorem vT2 (l:List ByteArray)(hn:42≤l.length):∃A:List ByteArray,A.length=24∧((yC7 (l.set 0 (zI3 40)) 26 (List.replicate (l.length - 26) (zI3 40))).set 1 (zD1 (zD8 zY6)))=zI3 40::zD1 (zD8 zY6)::(A++List.replicate (l.length - 26) (zI3 40)):=by
 match l,hn with
 | x::y::r,hn=>
  simp only [List.length_cons] at hn ⊢
  have hs:=yO1 (List.replicate (r.length+1+1 - 26) (zI3 40)) 26 ((x::y::r).set 0 (zI3 40)) (by simp;omega)
  rw [hs]
  have hd:((x::y::r).set 0 (zI3 40)).drop (26+(List.replicate (r.length+1+1 - 26) (zI3 40)).length)= []:=List.drop_eq_nil_of_le (by simp;omega)
  rw [hd,List.append_nil]
  refine ⟨r.take 24,by rw [List.length_take];omega,?_⟩
  simp
theorem four_ne {n m:Nat}(h:n≠m)(hn:n<4294967296)(hm:m<4294967296):((zH0 n).toList==(zH0 m).toList)=false:=by
 cases hb:((zH0 n).toList==(zH0 m).toList)
 · rfl
 · exfalso
   have he:(zH0 n).toList=(zH0 m).toList:=by simpa using hb
   have he2:zH0 n=zH0 m:=(zG7 _ _).1 he
   simp only [zH0,ByteArray.mk.injEq] at he2
   have he3:=congrArg Array.toList he2
   simp only [List.cons.injEq] at he3
   obtain ⟨a0,a1,a2,a3,_⟩:=he3
   have:=yS7 n hn
   rw [a0,a1,a2,a3,yS7 m hm] at this
   exact h this.symm
def vI4 (b:Nat)(S:List ByteArray):Prop:=∀s∈S,∀num,b≤num→num≤2000000000→(zP2 s num).2.2=false
theorem uN8 (b num:Nat)(hb:1≤b)(h1:b≤num)(h2:num≤2000000000):(zP2 (zI3 40) num).2.2=false:=by rw [xD8 _ (by omega) h2];rfl
theorem uN9 (k:UInt8)(n:Nat)(s:ByteArray)(hs:s.size≤33)(num:Nat)(h:n≠num)(hn:n<4294967296)(h2:num≤2000000000):(zP2 (zD1 (zL2 k n s)) num).2.2=false:=by
 rw [yQ3 _ _ _ _ hs,if_pos (four_ne h hn (by omega))];rfl
theorem vR9 {b:Nat}{S:List ByteArray}(h:vI4 b S)(first:Nat)(hb:b≤first)(hf:first+S.length≤2000000000):zC4 first S 0 [] [] 0=([],0):=
 xO3 first S 0 [] [] 0 (fun j hj=>Or.inl (h _ (List.getElem_mem hj) _ (by omega) (by omega)))
open Go.RowKit Go.Sort
def uD2 (b:Nat)(s:ByteArray):Prop:=∀num,b≤num→num≤2000000000→(zP2 s num).2.2=false
structure LowAll (b:Nat) (D:DiskS):Prop where
 now:∀i s,26≤i→D.now[i]?=some s→uD2 b s
 kept:∀i s,26≤i→D.kept[i]?=some s→uD2 b s
 wait:∀t∈D.wait,26≤t.pos→uD2 b t.data
theorem LowAll.mono {b b' :Nat}{D:DiskS}(h:LowAll b D)(hb:b≤b'):LowAll b' D:=
 ⟨fun i s h1 h2 n h3 h4=>h.now i s h1 h2 n (by omega) h4,fun i s h1 h2 n h3 h4=>h.kept i s h1 h2 n (by omega) h4,fun t h1 h2 n h3 h4=>h.wait t h1 h2 n (by omega) h4⟩
theorem LowAll.write {b:Nat}{D:DiskS}(h:LowAll b D)(p:Nat)(s:ByteArray)(hs:p<26∨uD2 b (zD1 s)):LowAll b (zB9 D (p:Int) s).1:=by
 obtain ⟨s1,s2,s3⟩:=zG3 D
 unfold zB9
 split
 · exact h
 · split
   · exact ⟨by rw [s2];exact h.now,by rw [s1];exact h.kept,by rw [s3];exact h.wait⟩
   · refine ⟨fun i x h1 h2=>?_,by show ∀i s,26≤i→(zI5 D).1.kept[i]?=some s→_;rw [s1];exact h.kept,fun t ht h2=>?_⟩
     · have h2' :(D.now.set p (zD1 s))[i]?=some x:=by simpa using h2
       rw [List.getElem?_set] at h2'
       split at h2'
       · rename_i e
         split at h2'
         · cases h2'
           rcases hs with hs | hs
           · omega
           · exact hs
         · cases h2'
       · exact h.now i x h1 h2'
     · rcases List.mem_append.1 ht with ht | ht
       · exact h.wait t ht h2
       · simp only [List.mem_singleton] at ht
         subst ht
         rcases hs with hs | hs
         · exfalso
           have h3:26≤(p:Int).toNat:=h2
           omega
         · exact hs
theorem LowAll.flush {b:Nat}{D:DiskS}(h:LowAll b D):LowAll b (zC5 D).1:=by
 obtain ⟨s1,s2,s3⟩:=zG3 D
 unfold zC5
 split
 · exact ⟨by rw [s2];exact h.now,by rw [s1];exact h.kept,by rw [s3];exact h.wait⟩
 · exact ⟨by show ∀i s,26≤i→(zI5 D).1.now[i]?=some s→_;rw [s2];exact h.now,h.now,fun t ht=>by simp at ht⟩
theorem LowAll.restart {b:Nat}{D:DiskS}(h:LowAll b D)(keep:Int):LowAll b (zC1 D keep):=by
 have hk:∀i s,26≤i→(zE1 keep D.wait D.wait.length D.kept)[i]?=some s→uD2 b s:=fun i s h1 h2=>by
  have hl:=zG1 keep D.wait D.kept _ (Nat.le_refl _)
  obtain ⟨hi,he⟩:=List.getElem?_eq_some_iff.1 h2
  have hi2:i<D.kept.length:=by omega
  obtain ⟨h3,h4⟩:=yQ6 keep D.wait D.kept D.wait.length (Nat.le_refl _) i hi2
  rcases h4 with h4 | ⟨t,ht,hp,h4⟩
  · exact h.kept i s h1 (by rw [List.getElem?_eq_getElem hi2,←h4,he])
  · rw [he] at h4
    rw [h4]
    exact h.wait t ht (by omega)
 exact ⟨hk,hk,fun t ht=>by simp [zC1] at ht⟩
theorem xV7 (b:Nat)(hb:1≤b):uD2 b (zI3 40):=fun num h1 h2=>uN8 b num hb h1 h2
theorem uD1 (b:Nat)(k:UInt8)(n:Nat)(s:ByteArray)(hs:s.size≤33)(hn:n<b)(hb:n<2000000000):uD2 b (zD1 (zL2 k n s)):=fun num h1 h2=>uN9 k n s hs num (by omega) (by omega) h2
theorem LowAll.nums {b many:Nat}{D:DiskS}(h:LowAll b D):vI4 b (zB1 D 26 many):=fun s hs num h1 h2=>by
 have hs2:s∈D.now.drop 26:=List.mem_of_mem_take hs
 obtain ⟨i,hi,rfl⟩:=List.getElem_of_mem hs2
 rw [List.length_drop] at hi
 refine h.now (26+i) _ (by omega) ?_ num h1 h2
 rw [List.getElem_drop,List.getElem?_eq_getElem]
structure KeptQ (Q:ByteArray→Prop) (I:DiskS→Prop):Prop where
 write:∀(D:DiskS) (p:Nat) (s:ByteArray),26≤p→Q (zD1 s)→s.size≤40→I D→I (zB9 D (p:Int) s).1
 flush:∀D,I D→I (zC5 D).1
theorem xL8 {Q:ByteArray→Prop}{I:DiskS→Prop}(hI:KeptQ Q I)(first next many:Nat)(hQ:∀k n s,s.size≤33→n<first+many→Q (zD1 (zL2 k n s))):∀(c:List Change) (i:Nat) (D:DiskS),I D→(∀x∈c,zA2 x=0)→next+i+c.length≤many→I (zK2 26 first next i c D).1
 | [],_,_,h,_,_=>h
 | x::r,i,D,h,hf,hn=>by
  simp only [List.length_cons] at hn
  have hx:=(zP1 x (hf x (List.mem_cons_self ..))).2.1
  have h1:I (zB9 D ((26+next+i:Nat):Int) (zL2 111 (first+next+i) (zB3 x).1)).1:=hI.write _ _ _ (by omega) (hQ _ _ _ hx (by omega)) (by rw [zQ9];omega) h
  unfold zK2 zE8
  split
  · exact h1
  · exact xL8 hI first next many hQ r (i+1) _ h1 (fun y hy=>hf y (List.mem_cons_of_mem _ hy)) (by omega)
theorem xW0 {Q:ByteArray→Prop}{I:DiskS→Prop}(hI:KeptQ Q I)(first next many:Nat)(hQ:∀k n s,s.size≤33→n<first+many→Q (zD1 (zL2 k n s)))(hz:Q (zI3 40))(c:List Change)(D:DiskS)(h:I D):I (yS4 26 many first next c D).1:=by
 unfold yS4
 split
 · exact h
 · rename_i h0
   have h0:zI2 many next c=0:=by simpa using h0
   obtain ⟨g1,g2,g3⟩:=zQ2 h0
   have hl:I (xI8 26 many first next c D).1:=by
    have hr:=xL8 hI first next many hQ c 0 D h g3 (by omega)
    unfold xI8 zE8
    split
    · exact hr
    · unfold yR7
      split
      · exact hI.write _ _ _ (by omega) (by rw [zV0];exact hz) (by decide) hr
      · exact hr
   have hm:∀E,I E→I (xD7 26 first next c.length E).1:=fun E hE=>hI.write _ _ _ (by omega) (hQ _ _ _ (by rw [zO9];omega) (by omega)) (by rw [zQ9,zO9];omega) hE
   exact zJ3 (zJ3 (zJ3 hl hI.flush) hm) hI.flush
theorem low_add {b:Nat}(first next many:Nat)(hb:first+many≤b)(hb2:b≤2000000000)(h1:1≤b)(c:List Change)(D:DiskS)(h:LowAll b D):LowAll b (yS4 26 many first next c D).1:=
 xW0 (Q:=uD2 b) ⟨fun D p s _ hq _ h=>h.write p s (Or.inr hq),fun D h=>h.flush⟩ first next many (fun k n s hs hn=>uD1 b k n s hs (by omega) (by omega)) (xV7 b h1) c D h
def yU4 (n:Nat):Nat:=(n+39) / 40
def zM1 (t:ByteArray)(i:Nat):ByteArray:=t.extract (40 * i) (40 * i+40)
theorem yN2 (t:ByteArray)(i:Nat):(zM1 t i).size≤40:=by
 unfold zM1
 rw [ByteArray.size_extract]
 omega
def zT5 (p:Nat)(t:ByteArray):Nat→Nat→DiskS→DiskS × Nat
 | _,0,D=>(D,0)
 | i,k+1,D=>zE8 (zB9 D ((p+i:Nat):Int) (zM1 t i)) (zT5 p t (i+1) k)
def yM2 (h:Hd)(many n:Nat):Hd:=⟨h.epoch+1,1 - h.side,n,h.first+many⟩
def yL3 (many:Nat)(h:Hd)(rows:List Change)(D:DiskS):DiskS × Nat:=
 zE8 (zE8 (zE8 (zT5 (2+(1 - h.side) * 12) (zC8 rows) 0 (yU4 (zC8 rows).size) D) zC5) (fun E=>zB9 E (((h.epoch+1) % 2:Nat):Int) (zD8 (yM2 h many (zC8 rows).size)))) zC5
def zQ7 (many:Nat)(S:StS)(D:DiskS):DiskS × StS × Nat:=
 let p:=yL3 many S.h S.rows D
 let h:=yM2 S.h many (zC8 S.rows).size
 if p.2≠0 then (p.1,S,p.2) else (p.1,⟨h,(zC4 h.first (zB1 p.1 26 many) 0 [] [] 0).2,S.rows⟩,0)
def zC9 (many:Nat)(rows:List Change)(c:List Change):Nat:=
 if 14<c.length then 2 else if zH1 c≠0 then zH1 c else if 12<(zF3 rows c c.length).length∨many<c.length+1 then 7 else 0
def zX2 (many:Nat)(S:StS)(n:Nat)(D:DiskS):DiskS × StS × Nat:=if many<S.next+n+1 then zQ7 many S D else (D,S,0)
def vQ8 (many:Nat)(c:List Change)(rows:List Change)(p:DiskS × StS × Nat):DiskS × StS × Nat:=
 let q:=yS4 26 many p.2.1.h.first p.2.1.next c p.1
 if q.2=0 then (q.1,⟨p.2.1.h,p.2.1.next+c.length+1,rows⟩,0) else (q.1,p.2.1,q.2)
def zH2 (many:Nat)(S:StS)(c:List Change)(D:DiskS):DiskS × StS × Nat:=
 if zC9 many S.rows c≠0 then (D,S,zC9 many S.rows c)
 else let p:=zX2 many S c.length D
  if p.2.2≠0 then p else vQ8 many c (zF3 S.rows c c.length) p
structure Near (P:Nat→Prop) (K:List ByteArray) (D:DiskS):Prop where
 kl:D.kept.length=K.length
 nl:D.now.length=K.length
 kept:∀i,¬P i→D.kept[i]?=K[i]?
 now:∀i,¬P i→D.now[i]?=K[i]?
 wait:∀t∈D.wait,P t.pos∧t.data.size=40
 k40:∀s∈D.kept,s.size=40
 n40:∀s∈D.now,s.size=40
theorem Near.same {P:Nat→Prop}{K:List ByteArray}{D E:DiskS}(h:Near P K D)(h1:E.kept=D.kept)(h2:E.now=D.now)(h3:E.wait=D.wait):Near P K E:=
 ⟨by rw [h1];exact h.kl,by rw [h2];exact h.nl,by rw [h1];exact h.kept,by rw [h2];exact h.now,by rw [h3];exact h.wait,by rw [h1];exact h.k40,by rw [h2];exact h.n40⟩
theorem Near.wrote {P:Nat→Prop}{K:List ByteArray}{D E:DiskS}(h:Near P K D)(p:Nat)(s:ByteArray)(hp:P p)(hs:s.size=40)(h1:E.kept=D.kept)(h2:E.now=D.now.set p s)(h3:E.wait=D.wait++ [⟨p,s⟩]):Near P K E:=by
 refine ⟨by rw [h1];exact h.kl,by rw [h2,List.length_set];exact h.nl,by rw [h1];exact h.kept,fun i hi=>?_,fun t ht=>?_,by rw [h1];exact h.k40,fun x hx=>?_⟩
 · rw [h2,List.getElem?_set_ne (fun e:p=i=>hi (e ▸ hp))]
   exact h.now i hi
 · rw [h3] at ht
   rcases List.mem_append.1 ht with ht | ht
   · exact h.wait t ht
   · simp only [List.mem_singleton] at ht
     subst ht
     exact ⟨hp,hs⟩
 · rw [h2] at hx
   rcases List.mem_or_eq_of_mem_set hx with hx | rfl
   · exact h.n40 x hx
   · exact hs
theorem Near.flushed {P:Nat→Prop}{K:List ByteArray}{D E:DiskS}(h:Near P K D)(h1:E.kept=D.now)(h2:E.now=D.now)(h3:E.wait= []):Near P K E:=
 ⟨by rw [h1];exact h.nl,by rw [h2];exact h.nl,by rw [h1];exact h.now,by rw [h2];exact h.now,fun t ht=>(by rw [h3] at ht;cases ht),by rw [h1];exact h.n40,by rw [h2];exact h.n40⟩
theorem Near.restart {P:Nat→Prop}{K:List ByteArray}{D:DiskS}(h:Near P K D)(keep:Int):Near P K (zC1 D keep):=by
 have hl:=zG1 keep D.wait D.kept _ (Nat.le_refl _)
 have hat:∀i (hi:i<D.kept.length),(zE1 keep D.wait D.wait.length D.kept)[i]'(by omega)=D.kept[i]∨∃t∈D.wait,t.pos=i∧(zE1 keep D.wait D.wait.length D.kept)[i]'(by omega)=t.data:=fun i hi=>(yQ6 keep D.wait D.kept D.wait.length (Nat.le_refl _) i hi).2
 have h1:∀i,¬P i→(zE1 keep D.wait D.wait.length D.kept)[i]?=K[i]?:=fun i hi=>by
  rw [←h.kept i hi]
  by_cases hlt:i<D.kept.length
  · rw [List.getElem?_eq_getElem hlt,List.getElem?_eq_getElem (by omega)]
    rcases hat i hlt with e | ⟨t,ht,e,_⟩
    · rw [e]
    · exact absurd (e ▸ (h.wait t ht).1) hi
  · rw [List.getElem?_eq_none (by omega),List.getElem?_eq_none (by omega)]
 have h40:∀s∈zE1 keep D.wait D.wait.length D.kept,s.size=40:=fun s hs=>by
  obtain ⟨i,hi,rfl⟩:=List.getElem_of_mem hs
  rcases hat i (by omega) with e | ⟨t,ht,_,e⟩
  · rw [e];exact h.k40 _ (List.getElem_mem _)
  · rw [e];exact (h.wait t ht).2
 exact ⟨hl.trans h.kl,hl.trans h.kl,h1,h1,fun t ht=>by simp [zC1] at ht,h40,h40⟩
theorem yX0 (P:Nat→Prop)(K:List ByteArray)(p:Nat)(t:ByteArray):∀(k i:Nat) (D:DiskS),D.down=false→Near P K D→(∀j,j<k→P (p+i+j))→p+i+k≤K.length→
 (∃E,zT5 p t i k D=(E,8)∧E.down=true∧Near P K E)∨(∃E,zT5 p t i k D=(E,0)∧E.down=false∧Near P K E∧E.now=yC7 D.now (p+i) ((List.range k).map fun j=>zD1 (zM1 t (i+j))))
 | 0,i,D,hd,hN,_,_=>Or.inr ⟨D,rfl,hd,hN,rfl⟩
 | k+1,i,D,hd,hN,hP,hl=>by
  have h40:(zD1 (zM1 t i)).size=40:=zN0 _ (yN2 t i)
  unfold zT5
  rcases zV4 hd (p+i) (zM1 t i) (by rw [hN.nl];omega) (yN2 t i) with ⟨E,e1,e2,e3,e4,e5⟩ | ⟨E,e1,e2,e3,e4,e5⟩
  · left
    exact ⟨E,by rw [e1,zE0 (by simp)],e2,hN.same e3 e4 e5⟩
  · rw [e1,zD7 rfl]
    rcases yX0 P K p t k (i+1) E e2 (hN.wrote (p+i) _ (by have:=hP 0 (by omega);simpa using this) h40 e3 e4 e5) (fun j hj=>by have:=hP (j+1) (by omega);rwa [show p+(i+1)+j=p+i+(j+1) by omega]) (by omega) with ⟨F,f1,f2,f3⟩ | ⟨F,f1,f2,f3,f4⟩
    · exact Or.inl ⟨F,f1,f2,f3⟩
    · refine Or.inr ⟨F,f1,f2,f3,f4.trans ?_⟩
      rw [e4,List.range_succ_eq_map,List.map_cons,List.map_map,yC7]
      simp only [Nat.add_zero,Function.comp_def,Nat.add_assoc,Nat.succ_eq_add_one,Nat.add_comm 1]
theorem Near.write {P:Nat→Prop}{K:List ByteArray}{D:DiskS}(h:Near P K D)(p:Nat)(s:ByteArray)(hp:P p)(hs:s.size≤40):Near P K (zB9 D (p:Int) s).1:=by
 obtain ⟨s1,s2,s3⟩:=zG3 D
 unfold zB9
 split
 · exact h
 · split
   · exact h.same s1 s2 s3
   · exact h.wrote p (zD1 s) hp (zN0 _ hs) s1 (by simp) (by simp)
theorem Near.flush {P:Nat→Prop}{K:List ByteArray}{D:DiskS}(h:Near P K D):Near P K (zC5 D).1:=by
 obtain ⟨s1,s2,s3⟩:=zG3 D
 unfold zC5
 split
 · exact h.same s1 s2 s3
 · exact h.flushed rfl s2 rfl
theorem uN5 {P:Nat→Prop}{K:List ByteArray}(hP:∀i,26≤i→P i)(first next many:Nat)(c:List Change)(D:DiskS)(h:Near P K D):Near P K (yS4 26 many first next c D).1:=
 xW0 (Q:=fun _=>True) ⟨fun D p s hp _ hs h=>h.write p s (hP p hp) hs,fun D h=>h.flush⟩ first next many (fun _ _ _ _ _=>trivial) trivial c D h
open Go.RowKit Go.Sort
def zR0 (deeds:List (List Change))(base:List Change):List Change:=deeds.foldl (fun r c=>c.foldl yE5 r) base
structure InvZ (many:Nat) (D:DiskS) (S:StS):Prop where
 len:D.now.length=26+many
 m1:16≤many
 m2:many≤34
 log:∃deeds base,InvY S.h.first 26 many D deeds S.next∧zJ2 481 ((yA1 D S.h.side).take S.h.size) []=some base∧zR0 deeds base=S.rows
 hd:headOf (D.now.getD (S.h.epoch % 2) ⟨#[]⟩).data.toList=S.h
 other:(headOf (D.now.getD ((S.h.epoch+1) % 2) ⟨#[]⟩).data.toList).epoch<S.h.epoch
 hok:S.h.ok
 e1:1≤S.h.epoch
 f1:S.h.first≤40 * S.h.epoch
 low:LowAll (S.h.first+many) D
 rises:RisesX S.rows
 good:∀c∈S.rows,zA2 c=0∧c.gone=false
 few:S.rows.length≤12
theorem vF8 {l m:List ByteArray}{i:Nat}(h:l[i]?=m[i]?):l.getD i ⟨#[]⟩=m.getD i ⟨#[]⟩:=by
 rw [List.getD_eq_getElem?_getD,List.getD_eq_getElem?_getD,h]
theorem xY7 {l m:List ByteArray}(a n:Nat)(h:∀i,a≤i→i<a+n→l[i]?=m[i]?):(l.drop a).take n=(m.drop a).take n:=by
 refine List.ext_getElem? fun i=>?_
 rw [List.getElem?_take,List.getElem?_take]
 split
 · rw [List.getElem?_drop,List.getElem?_drop]
   exact h (a+i) (by omega) (by omega)
 · rfl
theorem InvZ.parts {many:Nat}{D:DiskS}{S:StS}(h:InvZ many D S):D.kept=D.now∧D.wait= []∧D.down=false∧(∀s∈D.now,s.size=40)∧S.next≤many:=by
 obtain ⟨deeds,base,hy,_,_⟩:=h.log
 exact ⟨hy.kept,hy.wait,hy.up,hy.forty,inv_len hy (by rw [h.len];omega)⟩
theorem InvZ.open {many:Nat}{D:DiskS}{S:StS}(h:InvZ many D S):yP6 D=some S:=by
 obtain ⟨deeds,base,hy,hp,hr⟩:=h.log
 have hpick:xC9 (D.now.getD 0 ⟨#[]⟩) (D.now.getD 1 ⟨#[]⟩)=S.h:=by
  have h1:=h.hd
  have h2:=h.other
  have h3:=h.e1
  unfold xC9
  rcases Nat.mod_two_eq_zero_or_one S.h.epoch with he | he
  · rw [he] at h1
    rw [show (S.h.epoch+1) % 2=1 by omega] at h2
    simp only [h1]
    have ha:(if 0<S.h.epoch then S.h else zV3)=S.h:=if_pos (by omega)
    rw [ha,if_neg (by omega)]
  · rw [he] at h1
    rw [show (S.h.epoch+1) % 2=0 by omega] at h2
    simp only [h1]
    have hz:zV3.epoch=0:=rfl
    rw [if_pos]
    split
    · exact h2
    · rw [hz];omega
 have he:=h.e1
 unfold yP6
 simp only [hpick]
 rw [if_neg (by omega),hp]
 have hl:D.now.length - 26=many:=by rw [h.len];omega
 simp only [hl,hy.cl]
 show some (⟨S.h,S.next,zR0 deeds base⟩:StS)=some S
 rw [hr]
theorem InvZ.near {P:Nat→Prop}{many:Nat}{K D:DiskS}{S:StS}(h:InvZ many K S)(hN:Near P K.now D)(hP:∀i,P i→2≤i∧i<26∧¬(2+S.h.side * 12≤i∧i<2+S.h.side * 12+12))(hk:D.kept=D.now)(hw:D.wait= [])(hd:D.down=false):InvZ many D S:=by
 obtain ⟨deeds,base,hy,hp,hr⟩:=h.log
 have hsec:zB1 D 26 many=zB1 K 26 many:=xY7 26 many fun i h1 h2=>hN.now i (fun hi=>by have:=hP i hi;omega)
 have hhalf:yA1 D S.h.side=yA1 K S.h.side:=by
  unfold yA1
  rw [xY7 (2+S.h.side * 12) 12 fun i h1 h2=>hN.now i (fun hi=>(hP i hi).2.2 ⟨h1,h2⟩)]
 have hat:∀i,i<2→D.now.getD i ⟨#[]⟩=K.now.getD i ⟨#[]⟩:=fun i hi=>vF8 (hN.now i (fun h2=>by have:=hP i h2;omega))
 refine ⟨hN.nl.trans h.len,h.m1,h.m2,⟨deeds,base,⟨hk,hw,by rw [hsec];exact hy.cl,by rw [hsec];exact hy.nc,hd,hN.n40⟩,by rw [hhalf];exact hp,hr⟩,by rw [hat _ (Nat.mod_lt _ (by decide))];exact h.hd,by rw [hat _ (Nat.mod_lt _ (by decide))];exact h.other,h.hok,h.e1,h.f1,?_,h.rises,h.good,h.few⟩
 have hn:∀i s,26≤i→D.now[i]?=some s→uD2 (S.h.first+many) s:=fun i s h1 h2=>h.low.now i s h1 (by rw [←hN.now i (fun hi=>by have:=hP i hi;omega)];exact h2)
 exact ⟨hn,by rw [hk];exact hn,fun t ht=>by rw [hw] at ht;cases ht⟩
theorem InvZ.head {many:Nat}{K D:DiskS}{S:StS}(h:InvZ many K S)(hE:S.h.epoch≤1000000)(hlaid:(yA1 K (1 - S.h.side)).take (zC8 S.rows).size=(zC8 S.rows).data.toList)(hn:D.now=K.now.set ((S.h.epoch+1) % 2) (zD1 (zD8 (yM2 S.h many (zC8 S.rows).size))))(hk:D.kept=D.now)(hw:D.wait= [])(hd:D.down=false):InvZ many D ⟨yM2 S.h many (zC8 S.rows).size,0,S.rows⟩:=by
 obtain ⟨deeds,base,hy,hp,hr⟩:=h.log
 have hts:=zZ1 S.rows (fun c hc=>(h.good c hc).1)
 have hsz:(zC8 S.rows).size≤480:=by have:=h.few;omega
 have hm2:=h.m2
 have hf1:=h.f1
 obtain ⟨k1,k2,k3,k4,k5⟩:=h.hok
 have hok:(yM2 S.h many (zC8 S.rows).size).ok:=⟨by show S.h.epoch+1<_;omega,by show 1 - S.h.side≤1;omega,hsz,by show 1≤S.h.first+many;omega,by show S.h.first+many<_;omega⟩
 have hq:(S.h.epoch+1) % 2<2:=Nat.mod_lt _ (by decide)
 have hat:∀i,i≠(S.h.epoch+1) % 2→D.now[i]?=K.now[i]?:=fun i hi=>by rw [hn,List.getElem?_set_ne (fun e=>hi e.symm)]
 have hsec:zB1 D 26 many=zB1 K 26 many:=xY7 26 many fun i h1 h2=>hat i (by omega)
 have hhalf:yA1 D (1 - S.h.side)=yA1 K (1 - S.h.side):=by
  unfold yA1
  rw [xY7 (2+(1 - S.h.side) * 12) 12 fun i h1 h2=>hat i (by omega)]
 have hl:D.now.length=26+many:=by rw [hn,List.length_set];exact h.len
 have hnums:vI4 (S.h.first+many) (zB1 D 26 many):=by rw [hsec];exact h.low.nums
 have hsl:(zB1 D 26 many).length=many:=zJ7 (by rw [hl];omega)
 have h40:∀s∈D.now,s.size=40:=fun s hs=>by
  rw [hn] at hs
  rcases List.mem_or_eq_of_mem_set hs with hs | rfl
  · exact hy.forty s hs
  · exact zN0 _ (by rw [zP9];omega)
 have hlow:∀i s,26≤i→D.now[i]?=some s→uD2 (S.h.first+many) s:=fun i s h1 h2=>h.low.now i s h1 (by rw [←hat i (by omega)];exact h2)
 refine ⟨hl,h.m1,h.m2,⟨[],S.rows,⟨hk,hw,?_,?_,hd,h40⟩,?_,rfl⟩,?_,?_,hok,by show 1≤S.h.epoch+1;omega,by show S.h.first+many≤40 * (S.h.epoch+1);omega,?_,h.rises,h.good,h.few⟩
 · exact vR9 hnums _ (Nat.le_refl _) (by rw [hsl];show S.h.first+many+many≤_;omega)
 · exact fun j hj _=>Or.inl (hnums _ (List.getElem_mem hj) _ (by show _≤S.h.first+many+j;omega) (by rw [hsl] at hj;show S.h.first+many+j≤_;omega))
 · show zJ2 481 ((yA1 D (1 - S.h.side)).take (zC8 S.rows).size) []=some S.rows
   rw [hhalf,hlaid]
   exact vR3 S.rows 481 (by have:=h.few;omega) h.rises h.good
 · show headOf (D.now.getD ((S.h.epoch+1) % 2) ⟨#[]⟩).data.toList=_
   rw [hn,List.getD_eq_getElem?_getD,List.getElem?_set_self (by rw [h.len];omega)]
   exact xW4 _ hok
 · show (headOf (D.now.getD ((S.h.epoch+1+1) % 2) ⟨#[]⟩).data.toList).epoch<S.h.epoch+1
   rw [vF8 (hat ((S.h.epoch+1+1) % 2) (by omega)),show (S.h.epoch+1+1) % 2=S.h.epoch % 2 by omega,h.hd]
   omega
 · refine LowAll.mono ?_ (show S.h.first+many≤S.h.first+many+many by omega)
   exact ⟨hlow,by rw [hk];exact hlow,fun t ht=>by rw [hw] at ht;cases ht⟩
theorem uF8 (s:ByteArray):(zD1 s).data.toList=s.data.toList++List.replicate (40 - s.size) 0:=by
 unfold zD1 zI3
 simp [ByteArray.append_eq,ByteArray.data_append]
theorem xV9 (t:ByteArray)(R:List UInt8):∀(k i:Nat),t.size≤40 * (i+k)→((((List.range k).map fun j=>zD1 (zM1 t (i+j))).flatMap (fun s=>s.data.toList))++R).take (t.size - 40 * i)=t.data.toList.drop (40 * i)
 | 0,i,h=>by
  rw [show t.size - 40 * i=0 by omega,List.take_zero,List.drop_eq_nil_of_le (by rw [zI7];omega)]
 | k+1,i,h=>by
  have hlen:=zI7 t
  have hc:(zM1 t i).data.toList=(t.data.toList.drop (40 * i)).take 40:=by
   unfold zM1
   rw [zH6,List.drop_take]
   congr 1
   omega
  have hcs:(zM1 t i).size=min 40 (t.size - 40 * i):=by rw [←zI7,hc,List.length_take,List.length_drop,hlen]
  have ih:=xV9 t R k (i+1) (by omega)
  have hmap:(List.range (k+1)).map (fun j=>zD1 (zM1 t (i+j)))=zD1 (zM1 t i)::(List.range k).map (fun j=>zD1 (zM1 t (i+1+j))):=by
   rw [List.range_succ_eq_map,List.map_cons,List.map_map]
   simp only [Nat.add_zero,Function.comp_def,Nat.succ_eq_add_one,Nat.add_assoc,Nat.add_comm 1]
  rw [hmap,List.flatMap_cons,uF8,hc,hcs]
  by_cases hs:t.size - 40 * i≤40
  · rw [List.take_of_length_le (l:=t.data.toList.drop (40 * i)) (by rw [List.length_drop,hlen];omega)]
    rw [List.append_assoc,List.append_assoc]
    exact List.take_left' (by rw [List.length_drop,hlen])
  · rw [show min 40 (t.size - 40 * i)=40 by omega,Nat.sub_self,List.replicate_zero,List.append_nil,List.append_assoc]
    have hl40:((t.data.toList.drop (40 * i)).take 40).length=40:=by rw [List.length_take,List.length_drop,hlen];omega
    rw [List.take_append,hl40,List.take_of_length_le (by rw [hl40];omega),show t.size - 40 * i - 40=t.size - 40 * (i+1) by omega,ih]
    rw [show 40 * (i+1)=40 * i+40 by omega,←List.drop_drop]
    exact List.take_append_drop 40 _
theorem uF1 (K D:DiskS)(side:Nat)(t:ByteArray)(hs:side≤1)(hl:26≤K.now.length)(ht:t.size≤480)(hn:D.now=yC7 K.now (2+side * 12) ((List.range (yU4 t.size)).map fun j=>zD1 (zM1 t (0+j)))):(yA1 D side).take t.size=t.data.toList:=by
 have hc:yU4 t.size≤12:=by unfold yU4;omega
 have hc2:t.size≤40 * (0+yU4 t.size):=by unfold yU4;omega
 obtain ⟨X,hX⟩:∃X,X=(List.range (yU4 t.size)).map fun j=>zD1 (zM1 t (0+j)):=⟨_,rfl⟩
 have hXl:X.length=yU4 t.size:=by rw [hX,List.length_map,List.length_range]
 have h0:=xV9 t (((K.now.drop (2+side * 12+X.length)).take (12 - X.length)).flatMap (fun s=>s.data.toList)) (yU4 t.size) 0 hc2
 rw [←hX] at hn h0
 rw [yO1 X _ _ (by rw [hXl];omega)] at hn
 unfold yA1
 rw [hn,List.append_assoc,List.drop_left' (by rw [List.length_take];omega),List.take_append,List.take_of_length_le (l:=X) (by rw [hXl];exact hc),List.flatMap_append]
 simpa using h0
theorem vH8 {many:Nat}{D:DiskS}{S:StS}(hI:InvZ many D S)(hE:S.h.epoch≤1000000):
 (∃E,yL3 many S.h S.rows D=(E,0)∧InvZ many E ⟨yM2 S.h many (zC8 S.rows).size,0,S.rows⟩)∨
 (∃E,yL3 many S.h S.rows D=(E,8)∧E.down=true∧∀keep,InvZ many (zC1 E keep) S∨InvZ many (zC1 E keep) ⟨yM2 S.h many (zC8 S.rows).size,0,S.rows⟩):=by
 obtain ⟨q1,q2,q3,q4,_⟩:=hI.parts
 have hts:=zZ1 S.rows (fun c hc=>(hI.good c hc).1)
 have hsz:(zC8 S.rows).size≤480:=by have:=hI.few;omega
 have hside:S.h.side≤1:=hI.hok.2.1
 have hlen:=hI.len
 have hc:yU4 (zC8 S.rows).size≤12:=by unfold yU4;omega
 obtain ⟨P,hPd⟩:∃P:Nat→Prop,P=fun i=>2+(1 - S.h.side) * 12≤i∧i<2+(1 - S.h.side) * 12+12:=⟨_,rfl⟩
 have hP:∀i,P i→2≤i∧i<26∧¬(2+S.h.side * 12≤i∧i<2+S.h.side * 12+12):=fun i hi=>by
  have hi:2+(1 - S.h.side) * 12≤i∧i<2+(1 - S.h.side) * 12+12:=by rw [hPd] at hi;exact hi
  have:S.h.side=0∨S.h.side=1:=by omega
  rcases this with e | e <;> rw [e] at hi ⊢ <;> omega
 have hN0:Near P D.now D:=⟨by rw [q1],rfl,fun i _=>by rw [q1],fun i _=>rfl,fun t ht=>(by rw [q2] at ht;cases ht),by rw [q1];exact q4,q4⟩
 have hrest:∀E,Near P D.now E→∀keep,InvZ many (zC1 E keep) S:=fun E hE keep=>hI.near (hE.restart keep) hP rfl rfl rfl
 unfold yL3
 rcases yX0 P D.now (2+(1 - S.h.side) * 12) (zC8 S.rows) (yU4 (zC8 S.rows).size) 0 D q3 hN0 (fun j hj=>by rw [hPd];dsimp only;omega) (by omega) with ⟨E,e1,e2,e3⟩ | ⟨E,e1,e2,e3,e4⟩
 · right
   refine ⟨E,?_,e2,fun keep=>Or.inl (hrest E e3 keep)⟩
   rw [e1,zE0 (p:=(E,8)) (by simp),zE0 (p:=(E,8)) (by simp),zE0 (p:=(E,8)) (by simp)]
 · rw [e1,zD7 (p:=(E,0)) rfl]
   rcases yE0 e2 with ⟨F,f1,f2,f3,f4,f5⟩ | ⟨F,f1,f2,f3,f4,f5⟩
   · right
     refine ⟨F,?_,f2,fun keep=>Or.inl (hrest F (e3.same f3 f4 f5) keep)⟩
     show zE8 (zE8 (zC5 E) _) zC5=_
     rw [f1,zE0 (p:=(F,8)) (by simp),zE0 (p:=(F,8)) (by simp)]
   · have hFN:Near P D.now F:=e3.flushed f3 f4 f5
     have hF:InvZ many F S:=hI.near hFN hP (f3.trans f4.symm) f5 f2
     have hFl:F.now.length=26+many:=hF.len
     have hlaid:(yA1 F (1 - S.h.side)).take (zC8 S.rows).size=(zC8 S.rows).data.toList:=uF1 D F (1 - S.h.side) (zC8 S.rows) (by omega) (by omega) hsz (f4.trans e4)
     have hfk:F.kept=F.now:=f3.trans f4.symm
     have hFF:∀G:DiskS,G.now=F.now→G.kept=F.kept→G.wait= []→∀keep,InvZ many (zC1 G keep) S:=fun G g1 g2 g3 keep=>
      hrest G ⟨by rw [g2];exact hFN.kl,by rw [g1];exact hFN.nl,by rw [g2];exact hFN.kept,by rw [g1];exact hFN.now,fun t ht=>(by rw [g3] at ht;cases ht),by rw [g2];exact hFN.k40,by rw [g1];exact hFN.n40⟩ keep
     show (∃E',zE8 (zE8 (zC5 E) _) zC5=(E',0)∧_)∨(∃E',zE8 (zE8 (zC5 E) _) zC5=(E',8)∧_)
     rw [f1,zD7 (p:=(F,0)) rfl]
     rcases zV4 f2 ((S.h.epoch+1) % 2) (zD8 (yM2 S.h many (zC8 S.rows).size)) (by rw [hFl];omega) (by rw [zP9];omega) with ⟨G,g1,g2,g3,g4,g5⟩ | ⟨G,g1,g2,g3,g4,g5⟩
     · right
       refine ⟨G,?_,g2,fun keep=>Or.inl (hFF G g4 g3 (g5.trans f5) keep)⟩
       show zE8 (zB9 F _ _) zC5=_
       rw [g1,zE0 (p:=(G,8)) (by simp)]
     · show (∃E',zE8 (zB9 F _ _) zC5=(E',0)∧_)∨(∃E',zE8 (zB9 F _ _) zC5=(E',8)∧_)
       rw [g1,zD7 (p:=(G,0)) rfl]
       rcases yE0 g2 with ⟨H,h1,h2,h3,h4,h5⟩ | ⟨H,h1,h2,h3,h4,h5⟩
       · right
         refine ⟨H,h1,h2,fun keep=>?_⟩
         have hw:H.wait= [⟨(S.h.epoch+1) % 2,zD1 (zD8 (yM2 S.h many (zC8 S.rows).size))⟩]:=by rw [h5,g5,f5];rfl
         have hk2:H.kept=F.now:=h3.trans (g3.trans hfk)
         have hr:(zC1 H keep).now=if zZ9 keep 0 then F.now.set ((S.h.epoch+1) % 2) (zD1 (zD8 (yM2 S.h many (zC8 S.rows).size))) else F.now:=by
          show zE1 keep H.wait H.wait.length H.kept=_
          rw [hw,hk2]
          show zE1 keep [_] 1 F.now=_
          rw [zW2 keep _ 0 F.now (by simp),zR5]
          rfl
         cases hb:zZ9 keep 0
         · left
           rw [hb] at hr
           have hr2:(zC1 H keep).now=F.now:=by simpa using hr
           exact hF.near (P:=P) ⟨by show (zC1 H keep).now.length=_;rw [hr2],by rw [hr2],fun i _=>by show (zC1 H keep).now[i]?=_;rw [hr2],fun i _=>by rw [hr2],fun t ht=>by simp [zC1] at ht,by show ∀s∈(zC1 H keep).now,_;rw [hr2];exact hFN.n40,by rw [hr2];exact hFN.n40⟩ hP rfl rfl rfl
         · right
           rw [hb] at hr
           have hr2:(zC1 H keep).now=F.now.set ((S.h.epoch+1) % 2) (zD1 (zD8 (yM2 S.h many (zC8 S.rows).size))):=by simpa using hr
           exact hF.head hE hlaid hr2 rfl rfl rfl
       · left
         exact ⟨H,h1,hF.head hE hlaid (h4.trans g4) (h3.trans h4.symm) h5 h2⟩
open Go.RowKit Go.Sort
theorem uI2 {l:List Change}{c x:Change}(h:x∈yE5 l c):x∈l∨(x=c∧c.gone=false):=by
 unfold yE5 at h
 cases hg:c.gone
 · simp only [hg] at h
   split at h
   · simp only [Bool.false_eq_true,if_false,List.mem_append,List.mem_cons] at h
     rcases h with h | h | h
     · exact Or.inl (List.mem_of_mem_take h)
     · exact Or.inr ⟨h,rfl⟩
     · exact Or.inl (List.mem_of_mem_drop h)
   · simp only [Bool.false_eq_true,if_false,List.mem_append,List.mem_cons] at h
     rcases h with h | h | h
     · exact Or.inl (List.mem_of_mem_take h)
     · exact Or.inr ⟨h,rfl⟩
     · exact Or.inl (List.mem_of_mem_drop h)
 · simp only [hg,if_true] at h
   split at h
   · rcases List.mem_append.1 h with h | h
     · exact Or.inl (List.mem_of_mem_take h)
     · exact Or.inl (List.mem_of_mem_drop h)
   · exact Or.inl h
theorem xQ3 :∀(c l:List Change) (x:Change),x∈c.foldl yE5 l→x∈l∨(x∈c∧x.gone=false)
 | [],_,_,h=>Or.inl h
 | y::r,l,x,h=>by
  rcases xQ3 r (yE5 l y) x h with h | h
  · rcases uI2 h with h | ⟨rfl,h⟩
    · exact Or.inl h
    · exact Or.inr ⟨List.mem_cons_self ..,h⟩
  · exact Or.inr ⟨List.mem_cons_of_mem _ h.1,h.2⟩
theorem yR9 (l c:List Change):zF3 l c c.length=c.foldl yE5 l:=by unfold zF3;rw [List.take_length]
theorem uI1 {l c:List Change}(hl:∀x∈l,zA2 x=0∧x.gone=false)(hc:∀x∈c,zA2 x=0):∀x∈zF3 l c c.length,zA2 x=0∧x.gone=false:=fun x hx=>by
 rw [yR9] at hx
 rcases xQ3 c l x hx with h | h
 · exact hl x h
 · exact ⟨hc x h.1,h.2⟩
theorem xK4 (deeds:List (List Change))(c base:List Change):zR0 (deeds++ [c]) base=zF3 (zR0 deeds base) c c.length:=by
 unfold zR0
 rw [List.foldl_append,yR9];rfl
theorem InvZ.logged {many:Nat}{K D:DiskS}{S:StS}(h:InvZ many K S)(hN:Near (fun i=>26≤i) K.now D)(hL:LowAll (S.h.first+many) D){deeds:List (List Change)}{base rows:List Change}{next:Nat}(hy:InvY S.h.first 26 many D deeds next)
 (hp:zJ2 481 ((yA1 K S.h.side).take S.h.size) []=some base) (hr:zR0 deeds base=rows) (h1:RisesX rows) (h2:∀c∈rows,zA2 c=0∧c.gone=false) (h3:rows.length≤12):InvZ many D ⟨S.h,next,rows⟩:=by
 have hside:S.h.side≤1:=h.hok.2.1
 have hhalf:yA1 D S.h.side=yA1 K S.h.side:=by
  unfold yA1
  rw [xY7 (2+S.h.side * 12) 12 fun i g1 g2=>hN.now i (by omega)]
 have hat:∀i,i<2→D.now.getD i ⟨#[]⟩=K.now.getD i ⟨#[]⟩:=fun i hi=>vF8 (hN.now i (by omega))
 exact ⟨hN.nl.trans h.len,h.m1,h.m2,⟨deeds,base,hy,by rw [hhalf];exact hp,hr⟩,by rw [hat _ (Nat.mod_lt _ (by decide))];exact h.hd,by rw [hat _ (Nat.mod_lt _ (by decide))];exact h.other,h.hok,h.e1,h.f1,hL,h1,h2,h3⟩
theorem InvZ.self {many:Nat}{D:DiskS}{S:StS}(h:InvZ many D S)(P:Nat→Prop):Near P D.now D:=by
 obtain ⟨q1,q2,q3,q4,_⟩:=h.parts
 exact ⟨by rw [q1],rfl,fun i _=>by rw [q1],fun i _=>rfl,fun t ht=>(by rw [q2] at ht;cases ht),by rw [q1];exact q4,q4⟩
theorem vV4 {many:Nat}{D:DiskS}{S:StS}(c:List Change)(hI:InvZ many D S)(hE:S.h.epoch≤1000001)(hf:zI2 many S.next c=0)(hfew:(zF3 S.rows c c.length).length≤12):
 (∃E,yS4 26 many S.h.first S.next c D=(E,0)∧InvZ many E ⟨S.h,S.next+c.length+1,zF3 S.rows c c.length⟩)∨
 (∃E,yS4 26 many S.h.first S.next c D=(E,8)∧E.down=true∧∀keep,InvZ many (zC1 E keep) S∨InvZ many (zC1 E keep) ⟨S.h,S.next+c.length+1,zF3 S.rows c c.length⟩):=by
 obtain ⟨deeds,base,hy,hp,hr⟩:=hI.log
 obtain ⟨g1,g2,g3⟩:=zQ2 hf
 have hm2:=hI.m2
 have hf1:=hI.f1
 have hf0:1≤S.h.first:=hI.hok.2.2.2.1
 have hb2:S.h.first+many≤2000000000:=by omega
 have hl:26+many≤D.now.length:=by rw [hI.len];omega
 have hrises:=(zY9 c hI.rises c.length (Nat.le_refl _)).1
 have hgood:=uI1 hI.good g3
 have hN:=uN5 (P:=fun i=>26≤i) (fun _ h=>h) S.h.first S.next many c D (hI.self _)
 have hL:=low_add S.h.first S.next many (Nat.le_refl _) hb2 (by omega) c D hI.low
 have hrep:zR0 (deeds++ [c]) base=zF3 S.rows c c.length:=by rw [xK4,hr]
 rcases uI4 c hy hl hf0 hb2 with ⟨h,_⟩ | ⟨E,_,h2,h3,h4⟩ | ⟨E,_,h2,h3,h4⟩
 · exact absurd hf h
 · rw [h2] at hN hL
   exact Or.inl ⟨E,h2,hI.logged hN hL h3 hp hrep hrises hgood hfew⟩
 · rw [h2] at hN hL
   refine Or.inr ⟨E,h2,h3,fun keep=>?_⟩
   rcases h4 keep with h5 | h5
   · exact Or.inl (hI.logged (hN.restart keep) (hL.restart keep) h5 hp hr hI.rises hI.good hI.few)
   · exact Or.inr (hI.logged (hN.restart keep) (hL.restart keep) h5 hp hrep hrises hgood hfew)
theorem vH1 {many:Nat}{rows c:List Change}(h:zC9 many rows c=0):c.length≤14∧zH1 c=0∧(zF3 rows c c.length).length≤12∧c.length+1≤many:=by
 unfold zC9 at h
 split at h
 · cases h
 · split at h
   · rename_i h1 h2;exact absurd h h2
   · rename_i h1 h2
     split at h
     · cases h
     · rename_i h3
       exact ⟨by omega,by simpa using h2,by omega,by omega⟩
theorem vU7 {many:Nat}{E:DiskS}{h:Hd}{rows:List Change}(hI:InvZ many E ⟨h,0,rows⟩):(zC4 h.first (zB1 E 26 many) 0 [] [] 0).2=0:=by
 obtain ⟨deeds,base,hy,_⟩:=hI.log
 rw [hy.cl]
theorem yX1 {many:Nat}{D:DiskS}{S:StS}(hI:InvZ many D S)(hE:S.h.epoch≤1000000):
 (∃E S',zQ7 many S D=(E,S',0)∧InvZ many E S' ∧S'.rows=S.rows∧S'.next=0∧S'.h.epoch=S.h.epoch+1)∨
 (∃E,zQ7 many S D=(E,S,8)∧E.down=true∧∀keep,∃S1,InvZ many (zC1 E keep) S1∧S1.rows=S.rows∧S1.h.epoch≤S.h.epoch+1):=by
 rcases vH8 hI hE with ⟨E,h1,h2⟩ | ⟨E,h1,h2,h3⟩
 · refine Or.inl ⟨E,⟨yM2 S.h many (zC8 S.rows).size,0,S.rows⟩,?_,h2,rfl,rfl,rfl⟩
   unfold zQ7
   simp only [h1]
   rw [if_neg (by simp),vU7 h2]
 · refine Or.inr ⟨E,?_,h2,fun keep=>?_⟩
   · unfold zQ7
     simp only [h1]
     rw [if_pos (by simp)]
   · rcases h3 keep with h | h
     · exact ⟨S,h,rfl,by omega⟩
     · exact ⟨_,h,rfl,Nat.le_refl _⟩
theorem yW7 {many:Nat}{D:DiskS}{S:StS}(c:List Change)(hI:InvZ many D S)(hE:S.h.epoch≤1000000):
 (zC9 many S.rows c≠0∧zH2 many S c D=(D,S,zC9 many S.rows c))∨
 (zC9 many S.rows c=0∧∃E S',zH2 many S c D=(E,S',0)∧InvZ many E S' ∧S'.rows=zF3 S.rows c c.length∧S'.h.epoch≤S.h.epoch+1∧S'.next=(if many<S.next+c.length+1 then 0 else S.next)+c.length+1)∨
 (zC9 many S.rows c=0∧∃E S',zH2 many S c D=(E,S',8)∧E.down=true∧∀keep,∃S1,InvZ many (zC1 E keep) S1∧(S1.rows=S.rows∨S1.rows=zF3 S.rows c c.length)∧S1.h.epoch≤S.h.epoch+1):=by
 by_cases h0:zC9 many S.rows c=0
 rotate_left
 · left;exact ⟨h0,by unfold zH2;rw [if_pos h0]⟩
 right
 obtain ⟨c1,c2,c3,c4⟩:=vH1 h0
 have hz:zH2 many S c D=(if (zX2 many S c.length D).2.2≠0 then zX2 many S c.length D else vQ8 many c (zF3 S.rows c c.length) (zX2 many S c.length D)):=by
  unfold zH2;rw [if_neg (by simp [h0])]
 have hput:∀(D1:DiskS) (S1:StS),InvZ many D1 S1→S1.rows=S.rows→S1.h.epoch≤S.h.epoch+1→S1.next+c.length+1≤many→
     (∃E S',vQ8 many c (zF3 S.rows c c.length) (D1,S1,0)=(E,S',0)∧InvZ many E S' ∧S'.rows=zF3 S.rows c c.length∧S'.h.epoch≤S.h.epoch+1∧S'.next=S1.next+c.length+1)∨
     (∃E S',vQ8 many c (zF3 S.rows c c.length) (D1,S1,0)=(E,S',8)∧E.down=true∧∀keep,∃S2,InvZ many (zC1 E keep) S2∧(S2.rows=S.rows∨S2.rows=zF3 S.rows c c.length)∧S2.h.epoch≤S.h.epoch+1):=fun D1 S1 g1 g2 g3 g4=>by
  have hf:zI2 many S1.next c=0:=by unfold zI2;rw [if_neg (by omega),if_neg (by omega)];exact c2
  unfold vQ8
  rcases vV4 c g1 (by omega) hf (by rw [g2];exact c3) with ⟨E,e1,e2⟩ | ⟨E,e1,e2,e3⟩
  · left
    rw [g2] at e2
    exact ⟨E,_,by simp only [e1];rw [if_pos trivial],e2,rfl,g3,rfl⟩
  · right
    rw [g2] at e3
    refine ⟨E,S1,by simp only [e1];rw [if_neg (by simp)],e2,fun keep=>?_⟩
    rcases e3 keep with h | h
    · exact ⟨_,h,Or.inl g2,g3⟩
    · exact ⟨_,h,Or.inr rfl,g3⟩
 rw [hz]
 by_cases hr:many<S.next+c.length+1
 · have hroom:zX2 many S c.length D=zQ7 many S D:=by unfold zX2;rw [if_pos hr]
   rw [hroom]
   rcases yX1 hI hE with ⟨E,S',e1,e2,e3,e4,e5⟩ | ⟨E,e1,e2,e3⟩
   · rw [e1,if_neg (by simp)]
     rcases hput E S' e2 e3 (by omega) (by omega) with h | h
     · left
       refine ⟨h0,?_⟩
       obtain ⟨F,S2,f1,f2,f3,f4,f5⟩:=h
       exact ⟨F,S2,f1,f2,f3,f4,by rw [f5,e4,if_pos hr]⟩
     · right
       exact ⟨h0,h⟩
   · rw [e1,if_pos (by simp)]
     right
     refine ⟨h0,E,S,rfl,e2,fun keep=>?_⟩
     obtain ⟨S1,k1,k2,k3⟩:=e3 keep
     exact ⟨S1,k1,Or.inl k2,k3⟩
 · have hroom:zX2 many S c.length D=(D,S,0):=by unfold zX2;rw [if_neg hr]
   rw [hroom,if_neg (by simp)]
   rcases hput D S hI rfl (by omega) (by omega) with h | h
   · left
     refine ⟨h0,?_⟩
     obtain ⟨F,S2,f1,f2,f3,f4,f5⟩:=h
     exact ⟨F,S2,f1,f2,f3,f4,by rw [f5,if_neg hr]⟩
   · right
     exact ⟨h0,h⟩
theorem xM9 (D:DiskS)(h:Calm D)(p:Int)(s:ByteArray):Calm (zB9 D p s).1∧(zB9 D p s).2≠8:=by
 unfold zB9
 split
 · exact ⟨h,by simp⟩
 · rw [h.step]
   simp only [ne_eq,not_true_eq_false,if_false]
   exact ⟨⟨h.1,h.2⟩,by simp⟩
theorem xN0 (D:DiskS)(h:Calm D):Calm (zC5 D).1∧(zC5 D).2≠8:=by
 rw [h.flush]
 exact ⟨⟨h.1,h.2⟩,by simp⟩
theorem vS3 :KeptY Calm:=⟨fun D p s h=>(xM9 D h p s).1,fun D h=>(xN0 D h).1⟩
theorem xE1 {I:DiskS→Prop}(hI:KeptY I)(p:Nat)(t:ByteArray):∀(k i:Nat) (D:DiskS),I D→I (zT5 p t i k D).1
 | 0,_,_,h=>h
 | k+1,i,D,h=>by
  unfold zT5
  exact zJ3 (hI.write _ _ _ h) (fun E hE=>xE1 hI p t k (i+1) E hE)
theorem yJ2 {I:DiskS→Prop}(hI:KeptY I)(many:Nat)(h:Hd)(rows:List Change)(D:DiskS)(hD:I D):I (yL3 many h rows D).1:=by
 unfold yL3
 exact zJ3 (zJ3 (zJ3 (xE1 hI _ _ _ _ _ hD) hI.flush) (fun E hE=>hI.write _ _ _ hE)) hI.flush
theorem xE2 {I:DiskS→Prop}(hI:KeptY I)(many:Nat)(S:StS)(D:DiskS)(hD:I D):I (zQ7 many S D).1:=by
 have:=yJ2 hI many S.h S.rows D hD
 unfold zQ7
 simp only []
 split
 · exact this
 · exact this
theorem yD7 {I:DiskS→Prop}(hI:KeptY I)(many:Nat)(S:StS)(c:List Change)(D:DiskS)(hD:I D):I (zH2 many S c D).1:=by
 have hr:I (zX2 many S c.length D).1:=by
  unfold zX2
  split
  · exact xE2 hI many S D hD
  · exact hD
 unfold zH2
 split
 · exact hD
 · simp only []
   split
   · exact hr
   · have:=uO6 hI 26 many (zX2 many S c.length D).2.1.h.first (zX2 many S c.length D).2.1.next c _ hr
     unfold vQ8
     simp only []
     split
     · exact this
     · exact this
theorem Calm.up {D:DiskS}(h:Calm D):D.down=false:=h.1
open Go.RowKit Go.Sort
def zX3 (ds:List (List Change)):Nat:=(ds.map (fun c=>c.length+1)).sum
theorem xL6 (ds:List (List Change))(c:List Change):zX3 (ds++ [c])=zX3 ds+c.length+1:=by
 unfold zX3
 rw [List.map_append,List.sum_append]
 simp
 omega
theorem yN1 (first:Nat):∀(l:List ByteArray) (i:Nat) (o:List (List Change)) (d:List Change) (u:Nat),zX3 o+d.length≤i→zX3 (zC4 first l i o d u).1≤i+l.length
 | [],i,o,d,u,h=>by show zX3 o≤_;omega
 | s::r,i,o,d,u,h=>by
  unfold zC4
  have hs:∀o' d' u',zX1 first i s o d u=some (o',d',u')→zX3 o' +d'.length≤i+1:=fun o' d' u' hh=>by
   unfold zX1 at hh
   split at hh
   · cases hh
   · split at hh
     · split at hh
       · simp only [Option.some.injEq,Prod.mk.injEq] at hh
         obtain ⟨h1,h2,_⟩:=hh
         rw [←h1,←h2,xL6]
         simp
         omega
       · cases hh
     · split at hh
       · cases hh
       · simp only [Option.some.injEq,Prod.mk.injEq] at hh
         obtain ⟨h1,h2,_⟩:=hh
         rw [←h1,←h2,List.length_append]
         simp
         omega
  split
  · show zX3 o≤_;simp only [List.length_cons];omega
  · rename_i o' d' u' he
    have:=yN1 first r (i+1) o' d' u' (hs _ _ _ he)
    simp only [List.length_cons]
    omega
theorem uD0 (ds:List (List Change))(k:Nat)(h:k<ds.length):zX3 (ds.take (k+1))=zX3 (ds.take k)+ds[k].length+1:=by
 rw [List.take_succ_eq_append_getElem h,xL6]
theorem xV6 (ds:List (List Change))(k:Nat):zX3 (ds.take k)≤zX3 ds:=by
 unfold zX3
 have:ds.map (fun c=>c.length+1)=(ds.take k).map (fun c=>c.length+1)++(ds.drop k).map (fun c=>c.length+1):=by rw [←List.map_append,List.take_append_drop]
 rw [this,List.sum_append]
 omega
theorem xW5 (l:List UInt8)(h:(headOf l).epoch≠0):1≤(headOf l).first:=by
 unfold headOf at h ⊢
 split at h
 · unfold zY5 at h ⊢
   split at h
   · exact absurd rfl h
   · rename_i hn
     simp only [not_or,Nat.not_lt] at hn
     rw [if_neg (by simp only [not_or,Nat.not_lt];exact hn)]
     exact hn.2.2.2
 · exact absurd rfl h
def zQ6 (D:DiskS):Nat→Hd
 | 0=>zV3
 | k+1=>if (zQ6 D k).epoch<(headOf (D.now.getD k ⟨#[]⟩).data.toList).epoch then headOf (D.now.getD k ⟨#[]⟩).data.toList else zQ6 D k
theorem vQ9 (D:DiskS):zQ6 D 2=xC9 (D.now.getD 0 ⟨#[]⟩) (D.now.getD 1 ⟨#[]⟩):=rfl
theorem yT5 (D:DiskS):∀k,(zQ6 D k).side≤1∧(zQ6 D k).size≤480∧(zQ6 D k).epoch<4294967296∧(zQ6 D k).first<4294967296∧((zQ6 D k).epoch≠0→1≤(zQ6 D k).first)
 | 0=>by simp [zQ6,zV3]
 | k+1=>by
  unfold zQ6
  split
  · obtain ⟨h1,h2,h3,h4⟩:=vT1 (D.now.getD k ⟨#[]⟩).data.toList
    exact ⟨h1,h2,h3,h4,xW5 _⟩
  · exact yT5 D k
def xE9 (D:DiskS)(side:Nat)(k:Nat):List UInt8:=((D.now.drop (2+side * 12)).take k).flatMap (fun s=>s.data.toList)
theorem xE8 (D:DiskS)(side k:Nat)(h:2+side * 12+k<D.now.length):xE9 D side (k+1)=xE9 D side k++D.now[2+side * 12+k].data.toList:=by
 unfold xE9
 rw [List.take_succ_eq_append_getElem (by rw [List.length_drop];omega),List.flatMap_append,List.getElem_drop]
 simp
theorem xM0 (D:DiskS)(side:Nat)(h40:∀s∈D.now,s.size=40):∀k,2+side * 12+k≤D.now.length→(xE9 D side k).length=40 * k
 | 0,_=>by simp [xE9]
 | k+1,h=>by
  rw [xE8 D side k (by omega),List.length_append,xM0 D side h40 k (by omega),zI7,h40 _ (List.getElem_mem _)]
  omega
open Go.RowKit Go.Sort
theorem xW3 (h:Hd):(zD1 (zD8 h)).size=40:=zN0 _ (by rw [zP9];omega)
theorem vT3 (D:DiskS)(h:Calm D)(h40:∀s∈D.now,s.size=40)(hn:42≤D.now.length)(h60:D.now.length≤60):∃E,zT4 D=(E,0)∧Calm E∧InvZ (D.now.length - 26) E ⟨zY6,0, []⟩:=by
 obtain ⟨E,e1,e2,e3,e4,e5⟩:=vI0 D h hn
 obtain ⟨A,hA,hE⟩:=vT2 D.now hn
 have h40E:∀s∈E.now,s.size=40:=fun s hs=>by
  rw [e5] at hs
  rcases List.mem_or_eq_of_mem_set hs with hs | rfl
  · have hs2:=hs
    rw [yO1 _ _ _ (by simp;omega)] at hs2
    rcases List.mem_append.1 hs2 with hs2 | hs2
    · rcases List.mem_append.1 hs2 with hs2 | hs2
      · rcases List.mem_or_eq_of_mem_set (List.mem_of_mem_take hs2) with hs3 | rfl
        · exact h40 s hs3
        · decide
      · rw [List.eq_of_mem_replicate hs2];decide
    · rcases List.mem_or_eq_of_mem_set (List.mem_of_mem_drop hs2) with hs3 | rfl
      · exact h40 s hs3
      · decide
  · exact xW3 _
 rw [show (⟨1,0,0,1⟩:Hd)=zY6 from rfl,hE] at e5
 have hl:E.now.length=D.now.length:=by rw [e5];simp [hA];omega
 have hd26:E.now.drop 26=List.replicate (D.now.length - 26) (zI3 40):=by
  rw [e5]
  show (A++List.replicate (D.now.length - 26) (zI3 40)).drop 24=_
  rw [←hA];exact List.drop_left
 have hsec:zB1 E 26 (D.now.length - 26)=List.replicate (D.now.length - 26) (zI3 40):=by
  unfold zB1
  rw [hd26]
  exact List.take_of_length_le (by simp)
 have hcl:zC4 1 (zB1 E 26 (D.now.length - 26)) 0 [] [] 0=([],0):=by
  rw [hsec,show D.now.length - 26=(D.now.length - 27)+1 by omega,List.replicate_succ]
  exact uL8 1 0 _ [] [] 0 (Or.inr ⟨_,rfl⟩) (Nat.le_refl _) (by omega)
 have hnc:yA4 1 (zB1 E 26 (D.now.length - 26)) 0:=fun j hj _=>by
  have:(zB1 E 26 (D.now.length - 26))[j]=zI3 40:=by
   have hm:∀x∈zB1 E 26 (D.now.length - 26),x=zI3 40:=fun x hx=>by rw [hsec] at hx;exact List.eq_of_mem_replicate hx
   exact hm _ (List.getElem_mem hj)
  rw [this]
  have:j<60:=by rw [hsec,List.length_replicate] at hj;omega
  exact yD2 _ (by omega) (by omega)
 have hlow:∀i s,26≤i→E.now[i]?=some s→uD2 (1+(D.now.length - 26)) s:=fun i s hi hs=>by
  have h1:(E.now.drop 26)[i - 26]?=some s:=by rw [List.getElem?_drop,show 26+(i - 26)=i by omega];exact hs
  rw [hd26] at h1
  have h2:=List.mem_of_getElem? h1
  rw [List.eq_of_mem_replicate h2]
  exact xV7 _ (by omega)
 refine ⟨E,e1,e2,by omega,by omega,by omega,⟨[], [],⟨e3,e4,hcl,hnc,e2.up,h40E⟩,?_,rfl⟩,?_,?_,xX1,Nat.le_refl _,by show 1≤40 * 1;omega,⟨hlow,by rw [e3];exact hlow,fun t ht=>by rw [e4] at ht;cases ht⟩,?_,fun c hc=>(by cases hc),Nat.zero_le _⟩
 · show zJ2 481 ((yA1 E 0).take 0) []=some []
   rw [List.take_zero];rfl
 · have g1:E.now.getD 1 ⟨#[]⟩=zD1 (zD8 zY6):=by rw [e5];rfl
   show headOf (E.now.getD 1 ⟨#[]⟩).data.toList=zY6
   rw [g1]
   exact xW4 zY6 xX1
 · have g0:E.now.getD 0 ⟨#[]⟩=zI3 40:=by rw [e5];rfl
   show (headOf (E.now.getD 0 ⟨#[]⟩).data.toList).epoch<1
   rw [g0,vS9]
   decide
 · show RisesX []
   exact List.Pairwise.nil
theorem xE3 {I:DiskS→Prop}(hI:KeptY I):∀(k i:Nat) (D:DiskS),I D→I (zS0 i k D).1
 | 0,_,_,h=>h
 | k+1,i,D,h=>by
  unfold zS0
  exact zJ3 (hI.write _ _ _ h) (fun E hE=>xE3 hI k (i+1) E hE)
theorem vE7 {I:DiskS→Prop}(hI:KeptY I)(D:DiskS)(h:I D):I (zT4 D).1:=by
 unfold zT4
 split
 · exact h
 · exact zJ3 (zJ3 (zJ3 (zJ3 (hI.write _ _ _ h) (fun E hE=>xE3 hI _ _ E hE)) hI.flush) (fun E hE=>hI.write _ _ _ hE)) hI.flush
theorem yX2 {many:Nat}{D:DiskS}{S:StS}(c:List Change)(hI:InvZ many D S)(hC:Calm D)(hE:S.h.epoch≤1000000):
 (zC9 many S.rows c≠0∧zH2 many S c D=(D,S,zC9 many S.rows c))∨
 (zC9 many S.rows c=0∧∃E S',zH2 many S c D=(E,S',0)∧InvZ many E S' ∧Calm E∧S'.rows=zF3 S.rows c c.length∧S'.h.epoch≤S.h.epoch+1∧S'.next=(if many<S.next+c.length+1 then 0 else S.next)+c.length+1):=by
 have hk:=yD7 vS3 many S c D hC
 rcases yW7 c hI hE with h | ⟨h0,E,S',h1,h2,h3,h4,h5⟩ | ⟨h0,E,S',h1,h2,_⟩
 · exact Or.inl h
 · rw [h1] at hk
   exact Or.inr ⟨h0,E,S',h1,h2,hk,h3,h4,h5⟩
 · rw [h1] at hk
   have:=hk.up
   dsimp only at this
   rw [h2] at this
   cases this
open Go.RowKit Go.Sort
theorem InvZ.fuse {many:Nat}{D:DiskS}{S:StS}(h:InvZ many D S)(f:Int):InvZ many { D with fuse:=f } S:=by
 obtain ⟨deeds,base,hy,hp,hr⟩:=h.log
 exact ⟨h.len,h.m1,h.m2,⟨deeds,base,⟨hy.kept,hy.wait,hy.cl,hy.nc,hy.up,hy.forty⟩,hp,hr⟩,h.hd,h.other,h.hok,h.e1,h.f1,⟨h.low.now,h.low.kept,h.low.wait⟩,h.rises,h.good,h.few⟩
theorem InvZ.restart {many:Nat}{D:DiskS}{S:StS}(h:InvZ many D S)(keep:Int):InvZ many (zC1 D keep) S:=by
 obtain ⟨q1,q2,q3,q4,_⟩:=h.parts
 have e:zC1 D keep= { D with fuse:= -1 }:=by
  obtain ⟨k,n,wt,f,d⟩:=D
  dsimp only at q1 q2 q3
  subst q1 q2 q3
  rfl
 rw [e]
 exact h.fuse (-1)
end Go.Proofs.YtggpodlecljcbabGreatDoor
