/- Plain: chapter 5: a number's four digits. -/
import Derived.Lib.ItoaNum
import Derived.Lib.Atoi
import Derived.Test.YtggpodlecljcbabGreatDoorKX
namespace Go.Proofs.YtggpodlecljcbabGreatDoor
set_option linter.unusedSimpArgs false
set_option linter.unusedVariables false
set_option maxRecDepth 100000
set_option maxHeartbeats 64000000
open Go.RowKit Go.Sort
def zO2 (n:Int):ByteArray:=⟨(List.replicate (4 - (Lib.itoa n).length) 48++Lib.itoa n).toArray⟩
def xI6 (s:ByteArray):Int:=if s.size<4 then -1 else match Lib.atoi (s.data.toList.take 4) with
 | none=> -1
 | some n=>if (zO2 n).data.toList=s.data.toList.take 4 then n else -1
def dgI (n:Nat):UInt8:=UInt8.ofNat (48+n)
theorem yI0 {n:Nat}(h:n<10):(dgI n).toNat=48+n:=by
 unfold dgI
 rw [UInt8.toNat_ofNat']
 omega
def uH1 (n:Nat):List UInt8:= [dgI (n / 1000),dgI (n / 100 % 10),dgI (n / 10 % 10),dgI (n % 10)]
theorem uH0 (n:Nat)(h:n≤9999):List.replicate (4 - (Lib.decDigits n).length) 48++Lib.decDigits n=uH1 n:=by
 have h0:(48:UInt8)=dgI 0:=by decide
 unfold uH1
 by_cases h1:n<10
 · rw [Lib.decDigits,dif_pos h1]
   have e1:n / 1000=0:=by omega
   have e2:n / 100 % 10=0:=by omega
   have e3:n / 10 % 10=0:=by omega
   have e4:n % 10=n:=by omega
   rw [e1,e2,e3,e4]
   rfl
 by_cases h2:n<100
 · rw [Lib.decDigits,dif_neg h1,Lib.decDigits,dif_pos (by omega)]
   have e1:n / 1000=0:=by omega
   have e2:n / 100 % 10=0:=by omega
   have e3:n / 10 % 10=n / 10:=by omega
   rw [e1,e2,e3]
   rfl
 by_cases h3:n<1000
 · rw [Lib.decDigits,dif_neg h1,Lib.decDigits,dif_neg (by omega),Lib.decDigits,dif_pos (by omega)]
   have e1:n / 1000=0:=by omega
   have e2:n / 100 % 10=n / 10 / 10:=by omega
   rw [e1,e2]
   rfl
 · rw [Lib.decDigits,dif_neg h1,Lib.decDigits,dif_neg (by omega),Lib.decDigits,dif_neg (by omega),Lib.decDigits,dif_pos (by omega)]
   have e1:n / 1000=n / 10 / 10 / 10:=by omega
   have e2:n / 100 % 10=n / 10 / 10 % 10:=by omega
   rw [e1,e2]
   rfl
theorem yJ6 (n:Nat)(h:n≤9999):(zO2 (n:Int)).data.toList=uH1 n:=by
 unfold zO2 Lib.itoa
 rw [if_neg (by omega)]
 simp only [Int.toNat_natCast]
 exact uH0 n h
theorem yH7 (n:Nat)(h:n≤9999):(zO2 (n:Int)).size=4:=by
 have h1:=yJ6 n h
 have h2:(zO2 (n:Int)).data.toList.length=4:=by rw [h1];rfl
 simpa using h2
theorem yZ8 {d:Nat}(h:d<10):Lib.digitVal (dgI d)=some d:=by
 unfold Lib.digitVal
 rw [yI0 h,if_pos (by omega)]
 simp
theorem uQ2 (a b c d:Nat)(ha:a<10)(hb:b<10)(hc:c<10)(hd:d<10):Lib.decFrom 0 [dgI a,dgI b,dgI c,dgI d]=some (((a * 10+b) * 10+c) * 10+d):=by
 simp only [Lib.decFrom,yZ8 ha,yZ8 hb,yZ8 hc,yZ8 hd]
 simp
theorem uI0 (n:Nat)(h:n≤9999):Lib.atoi (uH1 n)=some (n:Int):=by
 have hd:Lib.decNat (uH1 n)=some n:=by
  unfold Lib.decNat uH1
  rw [if_neg (by simp),uQ2 _ _ _ _ (by omega) (by omega) (by omega) (by omega)]
  congr 1
  omega
 have h1:(dgI (n / 1000)==45)=false:=by
  rw [beq_eq_false_iff_ne]
  intro e
  have:=congrArg UInt8.toNat e
  rw [yI0 (by omega)] at this
  have h2:(45:UInt8).toNat=45:=rfl
  omega
 have h2:(dgI (n / 1000)==43)=false:=by
  rw [beq_eq_false_iff_ne]
  intro e
  have:=congrArg UInt8.toNat e
  rw [yI0 (by omega)] at this
  have h2:(43:UInt8).toNat=43:=rfl
  omega
 have hd2:=hd
 unfold uH1 at hd2 ⊢
 unfold Lib.atoi
 simp only [h1,h2,Bool.false_eq_true,if_false,hd2]
 rfl
theorem yR2 :∀(l:List UInt8) (acc n:Nat),Lib.decFrom acc l=some n→n<(acc+1) * 10 ^ l.length
 | [],acc,n,h=>by
  simp only [Lib.decFrom,Option.some.injEq] at h
  simp only [List.length_nil,Nat.pow_zero]
  omega
 | b::r,acc,n,h=>by
  unfold Lib.decFrom at h
  cases hd:Lib.digitVal b with
  | none=>rw [hd] at h;cases h
  | some d=>
   rw [hd] at h
   have ih:=yR2 r (acc * 10+d) n h
   have hd9:d≤9:=by
    unfold Lib.digitVal at hd
    split at hd
    · simp only [Option.some.injEq] at hd;omega
    · cases hd
   have hp:0<10 ^ r.length:=Nat.pow_pos (by decide)
   calc n<(acc * 10+d+1) * 10 ^ r.length:=ih
    _≤((acc+1) * 10) * 10 ^ r.length:=Nat.mul_le_mul_right _ (by omega)
    _=(acc+1) * 10 ^ (b::r).length:=by rw [List.length_cons,Nat.pow_succ,Nat.mul_assoc,Nat.mul_comm (10 ^ r.length)]
theorem uC0 (s:ByteArray)(h:0≤xI6 s):∃n:Nat,xI6 s=(n:Int)∧n≤9999∧4≤s.size∧s.data.toList.take 4=uH1 n:=by
 by_cases h4:s.size<4
 · unfold xI6 at h
   rw [if_pos h4] at h
   omega
 have hl:(s.data.toList.take 4).length=4:=by
  rw [List.length_take]
  have:s.data.toList.length=s.size:=by simp
  omega
 unfold xI6 at h ⊢
 rw [if_neg h4] at h ⊢
 cases ha:Lib.atoi (s.data.toList.take 4) with
 | none=>rw [ha] at h;simp only [] at h;omega
 | some n=>
  rw [ha] at h
  simp only [] at h ⊢
  split at h
  · rename_i he
    rw [if_pos he]
    match hs:s.data.toList.take 4,hl with
    | [a,b,c,d],_=>
     rw [hs] at ha he
     have hn:n≤9999∧(zO2 n).data.toList= [a,b,c,d]:=⟨by
      replace ha:(if (a==45)=true then (Lib.decNat [b,c,d]).map fun (m:Nat)=> -(m:Int) else if (a==43)=true then (Lib.decNat [b,c,d]).map fun (m:Nat)=>(m:Int) else (Lib.decNat [a,b,c,d]).map fun (m:Nat)=>(m:Int))=some n:=ha
      split at ha
      · cases hd:Lib.decNat [b,c,d] with
        | none=>rw [hd] at ha;cases ha
        | some m=>rw [hd] at ha;simp only [Option.map_some,Option.some.injEq] at ha;omega
      · split at ha
        · cases hd:Lib.decNat [b,c,d] with
          | none=>rw [hd] at ha;cases ha
          | some m=>
           rw [hd] at ha
           simp only [Option.map_some,Option.some.injEq] at ha
           unfold Lib.decNat at hd
           rw [if_neg (by simp)] at hd
           have:=yR2 _ _ _ hd
           simp only [List.length_cons,List.length_nil] at this
           omega
        · cases hd:Lib.decNat [a,b,c,d] with
          | none=>rw [hd] at ha;cases ha
          | some m=>
           rw [hd] at ha
           simp only [Option.map_some,Option.some.injEq] at ha
           unfold Lib.decNat at hd
           rw [if_neg (by simp)] at hd
           have:=yR2 _ _ _ hd
           simp only [List.length_cons,List.length_nil] at this
           omega,he⟩
     obtain ⟨m,rfl⟩:∃m:Nat,n=(m:Int):=⟨n.toNat,by omega⟩
     refine ⟨m,rfl,by omega,by omega,?_⟩
     rw [←hn.2]
     exact yJ6 m (by omega)
  · omega
theorem xV2 (n:Nat)(h:n≤9999)(s:ByteArray)(h4:s.data.toList.take 4=uH1 n):xI6 s=(n:Int):=by
 have hl:4≤s.size:=by
  have h1:=congrArg List.length h4
  rw [List.length_take] at h1
  have h2:s.data.toList.length=s.size:=by simp
  have h3:(uH1 n).length=4:=rfl
  omega
 unfold xI6
 rw [if_neg (by omega),h4,uI0 n h]
 simp only []
 rw [if_pos (yJ6 n h)]
open Go.RowKit Go.Sort
def fB :ByteArray:=⟨#[102]⟩
def yX6 :ByteArray:=⟨#[116,117,114,110]⟩
def yT2 (f:File):Change:=⟨fB++f.name,zO2 f.times++f.text,false⟩
def zN9 (n:Int):Change:=⟨yX6,zO2 n,false⟩
def zE7 (q:Quilt):List Change:=q.files.map yT2++ [zN9 q.turn]
def zZ7 (s:ByteArray):Bool:=s.data.toList.head?==some 102
def leP (p:Option ByteArray)(k:ByteArray):Bool:=match p with | some p=>bLe k p | none=>false
def zM3 (prev:Option ByteArray)(q:Quilt)(c:Change):Option Quilt:=
 if leP prev c.key=true∨c.gone=true∨xI6 c.val<0 then none
 else if (c.key.toList==yX6.toList)=true∧c.val.size=4 then some ⟨q.files,xI6 c.val⟩
 else if zZ7 c.key=true then some ⟨q.files++ [⟨c.key.extract 1 c.key.size,c.val.extract 4 c.val.size,xI6 c.val⟩],q.turn⟩ else none
def zX5 :Option ByteArray→Quilt→List Change→Option Quilt
 | _,q, []=>some q
 | p,q,c::r=>match zM3 p q c with
  | none=>none
  | some q' =>zX5 (some c.key) q' r
def zY0 (l:List Change):Option Quilt:=match zX5 none zD6 l with
 | none=>none
 | some q=>if zB2 q≠0 then none else some q
theorem uR7 (a b:ByteArray):(a++b).toList=a.toList++b.toList:=by
 rw [zG6,zG6,zG6,ByteArray.data_append,Array.toList_append]
theorem yE4 (a b:ByteArray):(a++b).data.toList=a.data.toList++b.data.toList:=by rw [ByteArray.data_append,Array.toList_append]
theorem yW4 (a:ByteArray):(fB++a).toList=102::a.toList:=by rw [uR7,zG6 fB];rfl
theorem yA9 :yX6.toList= [116,117,114,110]:=by rw [zG6];rfl
theorem less_f (x y:List UInt8):Op.bytesLess (102::x) (102::y)=Op.bytesLess x y:=by
 show (decide ((102:UInt8)<102) || ((102:UInt8)==102 && Op.bytesLess x y))=_
 have h1:decide ((102:UInt8)<102)=false:=by decide
 rw [h1]
 simp
theorem bLt_f (a b:ByteArray):bLt (fB++a) (fB++b)=bLt a b:=by
 unfold bLt
 rw [yW4,yW4,less_f]
theorem bLe_f (a b:ByteArray):bLe (fB++a) (fB++b)=bLe a b:=by
 unfold bLe
 rw [yW4,yW4,less_f]
 simp
theorem uR4 (a:ByteArray):bLt (fB++a) yX6=true:=by
 unfold bLt
 rw [yW4,yA9]
 rfl
theorem uR5 (a:ByteArray):bLe yX6 (fB++a)=false:=by
 unfold bLe
 rw [yW4,yA9]
 rfl
theorem uF9 (n:Nat)(h:n≤9999)(t:ByteArray):(zO2 (n:Int)++t).data.toList.take 4=uH1 n:=by
 rw [yE4,yJ6 n h]
 rfl
theorem uP5 (n:Nat)(h:n≤9999)(t:ByteArray):(zO2 (n:Int)++t).extract 4 (zO2 (n:Int)++t).size=t:=by
 have h4:=yH7 n h
 apply ByteArray.ext
 apply Array.toList_inj.1
 rw [ByteArray.data_extract,Array.toList_extract,List.extract_eq_take_drop,yE4]
 have h5:(zO2 (n:Int)).data.toList.length=4:=by rw [yJ6 n h];rfl
 rw [List.drop_append_of_le_length (by omega),List.drop_of_length_le (by omega),List.nil_append]
 refine List.take_of_length_le ?_
 rw [ByteArray.size_append,h4]
 simp
theorem f_app (a:ByteArray):(fB++a).extract 1 (fB++a).size=a:=by
 apply ByteArray.ext
 apply Array.toList_inj.1
 rw [ByteArray.data_extract,Array.toList_extract,List.extract_eq_take_drop,yE4]
 show ((102::a.data.toList).drop 1).take _=_
 rw [List.drop_one,List.tail_cons]
 refine List.take_of_length_le ?_
 rw [ByteArray.size_append]
 have:fB.size=1:=rfl
 simp
 omega
theorem uK1 (p:Option ByteArray)(q:Quilt)(f:File)(hp:leP p (fB++f.name)=false)(h1:1≤f.times)(h2:f.times≤9999):zM3 p q (yT2 f)=some ⟨q.files++ [f],q.turn⟩:=by
 obtain ⟨n,hn⟩:∃n:Nat,f.times=(n:Int):=⟨f.times.toNat,by omega⟩
 have hn9:n≤9999:=by omega
 have hnum:xI6 (yT2 f).val=(n:Int):=by
  unfold yT2
  rw [hn]
  exact xV2 n hn9 _ (uF9 n hn9 _)
 have hk:(yT2 f).key=fB++f.name:=rfl
 have hg:(yT2 f).gone=false:=rfl
 unfold zM3
 rw [hnum,hk,hg,hp,if_neg (by simp),if_neg (by
  rintro ⟨h,_⟩
  rw [yW4,yA9] at h
  simp at h),if_pos (by
  unfold zZ7
  rw [yE4]
  rfl)]
 congr 2
 rw [f_app]
 have hv:(yT2 f).val.extract 4 (yT2 f).val.size=f.text:=by
  unfold yT2
  rw [hn]
  exact uP5 n hn9 f.text
 rw [hv,←hn]
theorem vX2 (p:Option ByteArray)(q:Quilt)(n:Int)(hp:leP p yX6=false)(h1:0≤n)(h2:n≤9999):zM3 p q (zN9 n)=some ⟨q.files,n⟩:=by
 obtain ⟨m,rfl⟩:∃m:Nat,n=(m:Int):=⟨n.toNat,by omega⟩
 have hnum:xI6 (zN9 m).val=(m:Int):=xV2 m (by omega) _ (by
  have:=yJ6 m (by omega)
  show (zO2 (m:Int)).data.toList.take 4=_
  rw [this];rfl)
 have hs:(zN9 m).val.size=4:=yH7 m (by omega)
 have hk:(zN9 m).key=yX6:=rfl
 have hg:(zN9 m).gone=false:=rfl
 unfold zM3
 rw [hnum,hk,hg,hp,hs,if_neg (by simp),if_pos (by simp)]
theorem xW8 :∀(fs:List File) (p:Option ByteArray) (acc:List File) (t n:Int),(∀f∈fs,1≤f.times∧f.times≤9999)→Rises fs→(p=none∨∃a,p=some (fB++a)∧∀f∈fs,bLt a f.name=true)→0≤n→n≤9999→
 zX5 p ⟨acc,t⟩ (fs.map yT2++ [zN9 n])=some ⟨acc++fs,n⟩
 | [],p,acc,t,n,_,_,hp,h1,h2=>by
  have hs:zM3 p ⟨acc,t⟩ (zN9 n)=some ⟨acc,n⟩:=vX2 p ⟨acc,t⟩ n (by
   rcases hp with rfl | ⟨a,rfl,_⟩
   · rfl
   · exact uR5 a) h1 h2
  show zX5 p ⟨acc,t⟩ [zN9 n]=_
  unfold zX5
  rw [hs]
  simp [zX5]
 | f::r,p,acc,t,n,hf,hr,hp,h1,h2=>by
  have hs:zM3 p ⟨acc,t⟩ (yT2 f)=some ⟨acc++ [f],t⟩:=uK1 p ⟨acc,t⟩ f (by
   rcases hp with rfl | ⟨a,rfl,ha⟩
   · rfl
   · show bLe (fB++f.name) (fB++a)=false
     rw [bLe_f]
     exact zY1 (ha f (List.mem_cons_self ..))) (hf f (List.mem_cons_self ..)).1 (hf f (List.mem_cons_self ..)).2
  obtain ⟨g1,g2⟩:=List.pairwise_cons.1 hr
  show zX5 p ⟨acc,t⟩ (yT2 f::(r.map yT2++ [zN9 n]))=_
  unfold zX5
  rw [hs]
  show zX5 (some (yT2 f).key) ⟨acc++ [f],t⟩ (r.map yT2++ [zN9 n])=_
  rw [xW8 r (some (yT2 f).key) (acc++ [f]) t n (fun g hg=>hf g (List.mem_cons_of_mem _ hg)) g2 (Or.inr ⟨f.name,rfl,g1⟩) h1 h2,List.append_assoc]
  rfl
theorem zV1 {f:File}(h:zA8 f=0):zB6 f.name.data.toList=0∧f.text.size≤12∧1≤f.times∧f.times≤9999:=by
 unfold zA8 at h
 split at h
 · rename_i hn;exact absurd h hn
 · rename_i hn
   split at h
   · cases h
   · split at h
     · cases h
     · rename_i hm
       exact ⟨by simpa using hn,by omega,by omega,by omega⟩
theorem vK3 {f:File}(h:zA8 f=0):f.name.size≤6:=by
 have h1:=(zV1 h).1
 unfold zB6 at h1
 split at h1
 · cases h1
 · split at h1
   · cases h1
   · have:f.name.data.toList.length=f.name.size:=by simp
     omega
theorem yI7 {q:Quilt}(h:zB2 q=0):q.files.length≤8∧Rises q.files∧(∀f∈q.files,zA8 f=0)∧1≤q.turn∧q.turn≤9999:=by
 obtain ⟨⟨h1,h2,h3⟩,h4,h5⟩:=(xQ0 q).1 h
 exact ⟨h1,h2,h3,h4,h5⟩
theorem xL1 {q:Quilt}(h:zB2 q=0):zY0 (zE7 q)=some q:=by
 obtain ⟨h1,h2,h3,h4,h5⟩:=yI7 h
 have hf:=xW8 q.files none [] 0 q.turn (fun f hf=>(zV1 (h3 f hf)).2.2) h2 (Or.inl rfl) (by omega) h5
 unfold zY0 zE7
 have e:(zD6:Quilt)=⟨[],0⟩:=rfl
 rw [e,hf]
 simp only [List.nil_append]
 rw [if_neg (by simp [h])]
theorem vZ1 {f:File}(h:zA8 f=0):zA2 (yT2 f)=0:=by
 have h1:=vK3 h
 obtain ⟨_,h2,h3,h4⟩:=zV1 h
 obtain ⟨n,hn⟩:∃n:Nat,f.times=(n:Int):=⟨f.times.toNat,by omega⟩
 have h5:=yH7 n (by omega)
 unfold zA2 yT2
 simp only [hn]
 rw [yW4,if_neg (by simp),if_neg]
 rw [ByteArray.size_append,ByteArray.size_append,h5]
 have:fB.size=1:=rfl
 omega
theorem vN6 {n:Int}(h1:0≤n)(h2:n≤9999):zA2 (zN9 n)=0:=by
 obtain ⟨m,rfl⟩:∃m:Nat,n=(m:Int):=⟨n.toNat,by omega⟩
 have h5:=yH7 m (by omega)
 unfold zA2 zN9
 simp only []
 rw [yA9,if_neg (by simp),if_neg]
 rw [h5]
 have:yX6.size=4:=rfl
 omega
theorem zG5 {q:Quilt}(h:zB2 q=0):RisesX (zE7 q)∧(∀c∈zE7 q,zA2 c=0∧c.gone=false)∧(zE7 q).length≤9:=by
 obtain ⟨h1,h2,h3,h4,h5⟩:=yI7 h
 refine ⟨?_,fun c hc=>?_,?_⟩
 · unfold RisesX zE7
   rw [List.pairwise_append]
   refine ⟨?_,List.pairwise_singleton ..,fun a ha b hb=>?_⟩
   · rw [List.pairwise_map]
     exact h2.imp (fun {a b} hab=>by show bLt (fB++a.name) (fB++b.name)=true;rw [bLt_f];exact hab)
   · obtain ⟨f,_,rfl⟩:=List.mem_map.1 ha
     rw [List.mem_singleton.1 hb]
     exact uR4 f.name
 · unfold zE7 at hc
   rcases List.mem_append.1 hc with hc | hc
   · obtain ⟨f,hf,rfl⟩:=List.mem_map.1 hc
     exact ⟨vZ1 (h3 f hf),rfl⟩
   · rw [List.mem_singleton.1 hc]
     exact ⟨vN6 (by omega) h5,rfl⟩
 · unfold zE7
   rw [List.length_append,List.length_map]
   simp only [List.length_cons,List.length_nil]
   omega
open Go.RowKit Go.Sort
theorem uD7 (a b:ByteArray):(a.toList==b.toList)=true↔a=b:=by rw [beq_iff_eq,zG7]
theorem yR8 {a b:ByteArray}(h:bLt a b=true):a≠b:=by
 intro e
 subst e
 rw [zJ6] at h
 cases h
theorem xZ9 {a b:ByteArray}(h:bLt a b=true):bLt b a=false:=by
 cases e:bLt b a
 · rfl
 · have:=zG2 h e
   rw [zJ6] at this
   cases this
theorem xH2 {a b:ByteArray}(h1:bLt a b=false)(h2:bLt b a=false):a=b:=by
 by_cases h:a.toList=b.toList
 · exact (zG7 a b).1 h
 · have:=yT7 _ _ h1 h
   unfold bLt at h2
   rw [this] at h2
   cases h2
theorem yT3 :∀(a b:List Change),RisesX a→RisesX b→(∀c,c∈a↔c∈b)→a=b
 | [], [],_,_,_=>rfl
 | [],y::b,_,_,h=>absurd ((h y).2 (List.mem_cons_self ..)) (by simp)
 | x::a, [],_,_,h=>absurd ((h x).1 (List.mem_cons_self ..)) (by simp)
 | x::a,y::b,ha,hb,h=>by
  obtain ⟨a1,a2⟩:=List.pairwise_cons.1 ha
  obtain ⟨b1,b2⟩:=List.pairwise_cons.1 hb
  have hxy:x=y:=by
   rcases List.mem_cons.1 ((h x).1 (List.mem_cons_self ..)) with h1 | h1
   · exact h1
   · rcases List.mem_cons.1 ((h y).2 (List.mem_cons_self ..)) with h2 | h2
     · exact h2.symm
     · have e1:=b1 x h1
       have e2:=a1 y h2
       rw [xZ9 e1] at e2
       cases e2
  subst hxy
  congr 1
  refine yT3 a b a2 b2 (fun c=>⟨fun hc=>?_,fun hc=>?_⟩)
  · rcases List.mem_cons.1 ((h c).1 (List.mem_cons_of_mem _ hc)) with h1 | h1
    · subst h1;exact absurd (a1 c hc) (by rw [zJ6];simp)
    · exact h1
  · rcases List.mem_cons.1 ((h c).2 (List.mem_cons_of_mem _ hc)) with h1 | h1
    · subst h1;exact absurd (b1 c hc) (by rw [zJ6];simp)
    · exact h1
theorem xB9 {a:List Change}(h:RisesX a){x y:Change}(hx:x∈a)(hy:y∈a)(hk:x.key=y.key):x=y:=by
 obtain ⟨i,hi,rfl⟩:=List.getElem_of_mem hx
 obtain ⟨j,hj,rfl⟩:=List.getElem_of_mem hy
 rcases Nat.lt_trichotomy i j with h1 | h1 | h1
 · have:=h.at i j h1 hj
   rw [hk,zJ6] at this;cases this
 · subst h1;rfl
 · have:=h.at j i h1 hi
   rw [hk,zJ6] at this;cases this
def yM3 (b:List Change)(k:ByteArray):Bool:=zT1 b k (zH3 b k)
theorem yG8 {b:List Change}(h:RisesX b)(k:ByteArray):yM3 b k=true↔∃c∈b,c.key=k:=by
 unfold yM3
 constructor
 · intro hi
   have hl:=yB9 hi
   rw [zS3 b k _ hl,uD7] at hi
   exact ⟨_,List.getElem_mem hl,hi⟩
 · rintro ⟨c,hc,rfl⟩
   cases hi:zT1 b c.key (zH3 b c.key)
   · have:=xF4 b c.key h hi
     rw [List.filter_eq_self] at this
     have h2:=this c hc
     simp at h2
   · rfl
theorem vL3 {b:List Change}(h:RisesX b){c:Change}(hc:c∈b):b[zH3 b c.key]?=some c:=by
 have hk:=(yG8 h c.key).2 ⟨c,hc,rfl⟩
 unfold yM3 at hk
 have hl:=yB9 hk
 rw [zS3 b _ _ hl,uD7] at hk
 rw [List.getElem?_eq_getElem hl]
 congr 1
 exact xB9 h (List.getElem_mem hl) hc hk
def yT8 (k:ByteArray):Change:=⟨k,⟨#[]⟩,true⟩
def yT6 (a:List Change)(c:Change):Bool:= !yM3 a c.key || match a[zH3 a c.key]? with | some x=> !decide (x=c) | none=>true
theorem xV4 {a:List Change}(h:RisesX a)(c:Change):yT6 a c=true↔c ∉ a:=by
 unfold yT6
 constructor
 · intro hn hc
   rw [(yG8 h c.key).2 ⟨c,hc,rfl⟩,vL3 h hc] at hn
   simp at hn
 · intro hn
   cases hk:yM3 a c.key
   · rfl
   · obtain ⟨x,hx,hxk⟩:=(yG8 h c.key).1 hk
     rw [←hxk,vL3 h hx]
     have:x≠c:=fun e=>hn (e ▸ hx)
     simp [this]
def xR2 (a b:List Change):List Change:=(a.filter (fun c=> !yM3 b c.key)).map (fun c=>yT8 c.key)
def vA6 (a b:List Change):List Change:=b.filter (yT6 a)
theorem vK7 {a b:List Change}(hb:RisesX b)(c:Change):c∈xR2 a b↔∃x∈a,(∀y∈b,y.key≠x.key)∧c=yT8 x.key:=by
 unfold xR2
 rw [List.mem_map]
 constructor
 · rintro ⟨x,hx,rfl⟩
   obtain ⟨h1,h2⟩:=List.mem_filter.1 hx
   refine ⟨x,h1,fun y hy e=>?_,rfl⟩
   rw [(yG8 hb x.key).2 ⟨y,hy,e⟩] at h2
   cases h2
 · rintro ⟨x,hx,hn,rfl⟩
   refine ⟨x,List.mem_filter.2 ⟨hx,?_⟩,rfl⟩
   cases hk:yM3 b x.key
   · rfl
   · obtain ⟨y,hy,e⟩:=(yG8 hb x.key).1 hk
     exact absurd e (hn y hy)
theorem vK6 {a b:List Change}(ha:RisesX a)(c:Change):c∈vA6 a b↔c∈b∧c ∉ a:=by
 unfold vA6
 rw [List.mem_filter,xV4 ha]
def zH9 :List Change→List Change→List Change
 | [],b=>b
 | x::a, []=>yT8 x.key::zH9 a []
 | x::a,y::b=>if bLt x.key y.key=true then yT8 x.key::zH9 a (y::b) else if bLt y.key x.key=true then y::zH9 (x::a) b else if x=y then zH9 a b else y::zH9 a b
termination_by a b=>a.length+b.length
theorem zG9 :∀(a b:List Change),RisesX a→RisesX b→∀c,c∈zH9 a b↔(∃x∈a,(∀y∈b,y.key≠x.key)∧c=yT8 x.key)∨(c∈b∧c ∉ a)
 | [],b,_,_,c=>by simp [zH9]
 | x::a, [],ha,hb,c=>by
  rw [zH9,List.mem_cons,zG9 a [] (List.pairwise_cons.1 ha).2 hb c]
  simp
 | x::a,y::b,ha,hb,c=>by
  obtain ⟨a1,a2⟩:=List.pairwise_cons.1 ha
  obtain ⟨b1,b2⟩:=List.pairwise_cons.1 hb
  rw [zH9]
  by_cases h1:bLt x.key y.key=true
  · have hbx:∀z∈y::b,bLt x.key z.key=true:=by
     intro z hz
     rcases List.mem_cons.1 hz with rfl | hz
     · exact h1
     · exact zG2 h1 (b1 z hz)
    rw [if_pos h1,List.mem_cons,zG9 a (y::b) a2 hb c]
    constructor
    · rintro (rfl | ⟨z,hz,hn,rfl⟩ | ⟨hc,hn⟩)
      · exact Or.inl ⟨x,List.mem_cons_self ..,fun z hz e=>yR8 (hbx z hz) e.symm,rfl⟩
      · exact Or.inl ⟨z,List.mem_cons_of_mem _ hz,hn,rfl⟩
      · refine Or.inr ⟨hc,fun h=>?_⟩
        rcases List.mem_cons.1 h with rfl | h
        · exact yR8 (hbx c hc) rfl
        · exact hn h
    · rintro (⟨z,hz,hn,rfl⟩ | ⟨hc,hn⟩)
      · rcases List.mem_cons.1 hz with rfl | hz
        · exact Or.inl rfl
        · exact Or.inr (Or.inl ⟨z,hz,hn,rfl⟩)
      · exact Or.inr (Or.inr ⟨hc,fun h=>hn (List.mem_cons_of_mem _ h)⟩)
  · rw [if_neg h1]
    by_cases h2:bLt y.key x.key=true
    · have hay:∀z∈x::a,bLt y.key z.key=true:=by
       intro z hz
       rcases List.mem_cons.1 hz with rfl | hz
       · exact h2
       · exact zG2 h2 (a1 z hz)
      rw [if_pos h2,List.mem_cons,zG9 (x::a) b ha b2 c]
      constructor
      · rintro (rfl | ⟨z,hz,hn,rfl⟩ | ⟨hc,hn⟩)
        · exact Or.inr ⟨List.mem_cons_self ..,fun h=>yR8 (hay c h) rfl⟩
        · refine Or.inl ⟨z,hz,fun u hu=>?_,rfl⟩
          rcases List.mem_cons.1 hu with rfl | hu
          · exact yR8 (hay z hz)
          · exact hn u hu
        · exact Or.inr ⟨List.mem_cons_of_mem _ hc,hn⟩
      · rintro (⟨z,hz,hn,rfl⟩ | ⟨hc,hn⟩)
        · exact Or.inr (Or.inl ⟨z,hz,fun u hu=>hn u (List.mem_cons_of_mem _ hu),rfl⟩)
        · rcases List.mem_cons.1 hc with rfl | hc
          · exact Or.inl rfl
          · exact Or.inr (Or.inr ⟨hc,hn⟩)
    · rw [if_neg h2]
      have hk:x.key=y.key:=xH2 (by simpa using h1) (by simpa using h2)
      have hA:∀z∈a,z.key≠y.key:=fun z hz e=>yR8 (a1 z hz) (hk.trans e.symm)
      have hB:∀z∈b,z.key≠x.key:=fun z hz e=>yR8 (b1 z hz) (hk.symm.trans e.symm)
      have hm:=zG9 a b a2 b2 c
      by_cases h3:x=y
      · subst h3
        rw [if_pos rfl,hm]
        constructor
        · rintro (⟨z,hz,hn,rfl⟩ | ⟨hc,hn⟩)
          · refine Or.inl ⟨z,List.mem_cons_of_mem _ hz,fun u hu=>?_,rfl⟩
            rcases List.mem_cons.1 hu with rfl | hu
            · exact fun e=>hA z hz e.symm
            · exact hn u hu
          · refine Or.inr ⟨List.mem_cons_of_mem _ hc,fun h=>?_⟩
            rcases List.mem_cons.1 h with rfl | h
            · exact hB c hc rfl
            · exact hn h
        · rintro (⟨z,hz,hn,rfl⟩ | ⟨hc,hn⟩)
          · rcases List.mem_cons.1 hz with rfl | hz
            · exact absurd rfl (hn z (List.mem_cons_self ..))
            · exact Or.inl ⟨z,hz,fun u hu=>hn u (List.mem_cons_of_mem _ hu),rfl⟩
          · rcases List.mem_cons.1 hc with rfl | hc
            · exact absurd (List.mem_cons_self ..) hn
            · exact Or.inr ⟨hc,fun h=>hn (List.mem_cons_of_mem _ h)⟩
      · rw [if_neg h3,List.mem_cons,hm]
        constructor
        · rintro (rfl | ⟨z,hz,hn,rfl⟩ | ⟨hc,hn⟩)
          · refine Or.inr ⟨List.mem_cons_self ..,fun h=>?_⟩
            rcases List.mem_cons.1 h with h | h
            · exact h3 h.symm
            · exact hA c h rfl
          · refine Or.inl ⟨z,List.mem_cons_of_mem _ hz,fun u hu=>?_,rfl⟩
            rcases List.mem_cons.1 hu with rfl | hu
            · exact fun e=>hA z hz e.symm
            · exact hn u hu
          · refine Or.inr ⟨List.mem_cons_of_mem _ hc,fun h=>?_⟩
            rcases List.mem_cons.1 h with rfl | h
            · exact hB c hc rfl
            · exact hn h
        · rintro (⟨z,hz,hn,rfl⟩ | ⟨hc,hn⟩)
          · rcases List.mem_cons.1 hz with rfl | hz
            · exact absurd hk.symm (hn y (List.mem_cons_self ..))
            · exact Or.inr (Or.inl ⟨z,hz,fun u hu=>hn u (List.mem_cons_of_mem _ hu),rfl⟩)
          · rcases List.mem_cons.1 hc with rfl | hc
            · exact Or.inl rfl
            · exact Or.inr (Or.inr ⟨hc,fun h=>hn (List.mem_cons_of_mem _ h)⟩)
termination_by a b=>a.length+b.length
theorem zM6 :∀(a b:List Change),RisesX a→RisesX b→RisesX (zH9 a b)
 | [],b,_,hb=>by rw [zH9];exact hb
 | x::a, [],ha,hb=>by
  obtain ⟨a1,a2⟩:=List.pairwise_cons.1 ha
  rw [zH9]
  refine List.pairwise_cons.2 ⟨fun c hc=>?_,zM6 a [] a2 hb⟩
  rcases (zG9 a [] a2 hb c).1 hc with ⟨z,hz,_,rfl⟩ | ⟨h,_⟩
  · exact a1 z hz
  · cases h
 | x::a,y::b,ha,hb=>by
  obtain ⟨a1,a2⟩:=List.pairwise_cons.1 ha
  obtain ⟨b1,b2⟩:=List.pairwise_cons.1 hb
  rw [zH9]
  by_cases h1:bLt x.key y.key=true
  · rw [if_pos h1]
    refine List.pairwise_cons.2 ⟨fun c hc=>?_,zM6 a (y::b) a2 hb⟩
    rcases (zG9 a (y::b) a2 hb c).1 hc with ⟨z,hz,_,rfl⟩ | ⟨h,_⟩
    · exact a1 z hz
    · rcases List.mem_cons.1 h with rfl | h
      · exact h1
      · exact zG2 h1 (b1 c h)
  · rw [if_neg h1]
    by_cases h2:bLt y.key x.key=true
    · rw [if_pos h2]
      refine List.pairwise_cons.2 ⟨fun c hc=>?_,zM6 (x::a) b ha b2⟩
      rcases (zG9 (x::a) b ha b2 c).1 hc with ⟨z,hz,_,rfl⟩ | ⟨h,_⟩
      · rcases List.mem_cons.1 hz with rfl | hz
        · exact h2
        · exact zG2 h2 (a1 z hz)
      · exact b1 c h
    · rw [if_neg h2]
      have hk:x.key=y.key:=xH2 (by simpa using h1) (by simpa using h2)
      by_cases h3:x=y
      · rw [if_pos h3];exact zM6 a b a2 b2
      · rw [if_neg h3]
        refine List.pairwise_cons.2 ⟨fun c hc=>?_,zM6 a b a2 b2⟩
        rcases (zG9 a b a2 b2 c).1 hc with ⟨z,hz,_,rfl⟩ | ⟨h,_⟩
        · show bLt y.key z.key=true
          rw [←hk];exact a1 z hz
        · exact b1 c h
termination_by a b=>a.length+b.length
theorem uB2 {a b:List Change}(ha:RisesX a)(hb:RisesX b):(xR2 a b++vA6 a b).Pairwise (fun x y=>x.key≠y.key):=by
 refine List.pairwise_append.2 ⟨?_,?_,?_⟩
 · unfold xR2
   refine List.pairwise_map.2 ?_
   exact (List.Pairwise.filter _ ha).imp (fun h=>yR8 h)
 · exact (List.Pairwise.filter _ hb).imp (fun h=>yR8 h)
 · intro x hx y hy e
   obtain ⟨z,hz,hn,rfl⟩:=(vK7 hb x).1 hx
   exact hn y ((vK6 ha y).1 hy).1 e.symm
theorem yV2 {a b l:List Change}(ha:RisesX a)(hb:RisesX b)(hp:l.Perm (xR2 a b++vA6 a b))(hs:l.Pairwise (fun x y=>bLt y.key x.key=false)):l=zH9 a b:=by
 have hd:l.Pairwise (fun x y=>x.key≠y.key):=(hp.pairwise_iff (fun h=>Ne.symm h)).2 (uB2 ha hb)
 have hr:RisesX l:=(hs.and hd).imp (fun {x y} h=>by
  cases e:bLt x.key y.key
  · exact absurd (xH2 e h.1) h.2
  · rfl)
 refine yT3 _ _ hr (zM6 a b ha hb) (fun c=>?_)
 rw [hp.mem_iff,List.mem_append,vK7 hb,vK6 ha,zG9 a b ha hb]
end Go.Proofs.YtggpodlecljcbabGreatDoor
