/- The console's words and numbers, plain. -/
import Derived.Lib.Split
import Derived.Lib.SplitLaws
import Derived.Lib.ItoaNum
import Derived.Lib.AtoiAll
import Derived.Test.YtggpodlecljcbabGreatDoorKR
import Derived.Test.YtggpodlecljcbabGreatDoorKSI
import Derived.Test.YtggpodlecljcbabGreatDoorKST
namespace Go.Proofs.YtggpodlecljcbabGreatDoor
set_option linter.unusedSimpArgs false
set_option linter.unusedVariables false
set_option maxRecDepth 100000
set_option maxHeartbeats 64000000
open Go.RowKit Go.Sort
def zK3 :List UInt8→List (List UInt8)
 | []=> [[]]
 | c::r=>if c=32 then []::zK3 r else match zK3 r with
  | []=> [[c]]
  | x::xs=>(c::x)::xs
theorem yL8 :∀ {a:List UInt8},32 ∉ a→zK3 a= [a]
 | [],_=>rfl
 | c::r,h=>by
  simp only [List.mem_cons,not_or] at h
  unfold zK3
  rw [if_neg (fun e=>h.1 e.symm),yL8 h.2]
theorem yN8 :∀(l:List UInt8),zK3 l≠ []
 | []=>by simp [zK3]
 | c::r=>by
  unfold zK3
  split
  · simp
  · split <;> simp
theorem yS8 :∀ {a r:List UInt8},32 ∉ a→zK3 (a++32::r)=a::zK3 r
 | [],r,_=>by simp [zK3]
 | c::a,r,h=>by
  simp only [List.mem_cons,not_or] at h
  show zK3 (c::(a++32::r))=_
  rw [zK3,if_neg (fun e=>h.1 e.symm),yS8 h.2]
def glue :List (List UInt8)→List UInt8
 | []=> []
 | [x]=>x
 | x::y::r=>x++32::glue (y::r)
theorem uF4 (c:UInt8)(x:List UInt8)(xs:List (List UInt8)):glue ((c::x)::xs)=c::glue (x::xs):=by
 cases xs <;> rfl
theorem yL9 :∀(l:List UInt8),glue (zK3 l)=l
 | []=>rfl
 | c::r=>by
  have ih:=yL9 r
  unfold zK3
  by_cases h:c=32
  · rw [if_pos h,h]
    cases hs:zK3 r with
    | nil=>exact absurd hs (yN8 r)
    | cons y ys=>
     rw [hs] at ih
     show []++32::glue (y::ys)=_
     rw [ih];rfl
  · rw [if_neg h]
    cases hs:zK3 r with
    | nil=>exact absurd hs (yN8 r)
    | cons y ys=>
     rw [hs] at ih
     show glue ((c::y)::ys)=_
     rw [uF4,ih]
theorem uK3 :∀(n:Nat) (s:List UInt8),s.length≤n→Lib.splitK [32] 0 (Lib.count s [32]) s=zK3 s:=by
 intro n
 induction n with
 | zero=>
  intro s hs
  obtain rfl:s= []:=List.length_eq_zero_iff.1 (by omega)
  rfl
 | succ n ih=>
  intro s hs
  have ho:=Lib.index_one s 32
  by_cases hm:Lib.index s [32]= -1
  · rw [Lib.count_miss hm]
    have hn:=Lib.indexByte_none (ho.symm.trans hm)
    show [s]=_
    rw [yL8 (fun h=>by
     obtain ⟨k,hk,e⟩:=List.getElem_of_mem h
     exact hn k (by rw [List.getElem?_eq_getElem hk,e]))]
  · have hg:=Lib.index_ge s [32]
    obtain ⟨i,hi⟩:∃i:Nat,Lib.index s [32]=i:=⟨(Lib.index s [32]).toNat,by omega⟩
    obtain ⟨h1,h2⟩:=Lib.indexByte_some (ho.symm.trans hi)
    have hlt:i<s.length:=by
     by_cases h:i<s.length
     · exact h
     · rw [List.getElem?_eq_none (by omega)] at h1;cases h1
    have hsp:s=s.take i++32::s.drop (i+1):=by
     conv=>lhs;rw [←List.take_append_drop i s,List.drop_eq_getElem_cons hlt]
     rw [List.getElem?_eq_getElem hlt,Option.some.injEq] at h1
     rw [h1]
    have hno:32 ∉ s.take i:=fun h=>by
     obtain ⟨k,hk,e⟩:=List.getElem_of_mem h
     rw [List.length_take] at hk
     refine h2 k (by omega) ?_
     rw [List.getElem_take] at e
     rw [List.getElem?_eq_getElem (by omega),e]
    rw [Lib.count_hit (by simp) hi,Nat.add_comm 1]
    unfold Lib.splitK
    rw [if_neg (by rw [hi];simp),hi]
    simp only [Int.toNat_natCast,Nat.add_zero,List.length_singleton]
    rw [ih _ (by rw [List.length_drop];omega)]
    conv=>rhs;rw [hsp]
    rw [yS8 hno]
def zB5 (s:ByteArray):List ByteArray:=(zK3 s.data.toList).map fun l=>⟨l.toArray⟩
theorem xJ6 (s:ByteArray):(zB5 s).length=(zK3 s.data.toList).length:=by simp [zB5]
theorem vJ2 (s:ByteArray):Lib.splitB ⟨#[32]⟩ 0 (Lib.countB s ⟨#[32]⟩) s=zB5 s:=by
 have h:=Lib.splitB_data ⟨#[32]⟩ 0 (Lib.countB s ⟨#[32]⟩) s
 rw [show (⟨#[32]⟩:ByteArray).data.toList= [32] from rfl,uK3 _ _ (Nat.le_refl _)] at h
 unfold zB5
 rw [←h,List.map_map]
 conv=>lhs;rw [←List.map_id (Lib.splitB _ _ _ _)]
 exact List.map_congr_left fun x _=>rfl
theorem vP0 (s:ByteArray):Lib.countB s ⟨#[32]⟩+1=(zB5 s).length:=by
 rw [←vJ2,Lib.splitB_all _ (by decide) 0 _ s rfl]
theorem uF3 :∀(l:List (List UInt8)),∀x∈l,x.length≤(glue l).length
 | [],x,hx=>by cases hx
 | [y],x,hx=>by rw [List.mem_singleton.1 hx];exact Nat.le_refl _
 | y::z::r,x,hx=>by
  show x.length≤(y++32::glue (z::r)).length
  rw [List.length_append,List.length_cons]
  rcases List.mem_cons.1 hx with h | h
  · rw [h];omega
  · have:=uF3 (z::r) x h
    omega
theorem yA6 {s x:ByteArray}(h:x∈zB5 s):x.size≤s.size:=by
 obtain ⟨l,hl,rfl⟩:=List.mem_map.1 h
 have h1:=uF3 _ l hl
 rw [yL9] at h1
 show l.toArray.size≤s.data.size
 simpa using h1
theorem words3 {s a b c:ByteArray}(h:zB5 s= [a,b,c]):s.data.toList=a.data.toList++32::(b.data.toList++32::c.data.toList):=by
 have h1:=yL9 s.data.toList
 unfold zB5 at h
 match hs:zK3 s.data.toList,h with
 | [x,y,z],h=>
  simp only [List.map_cons,List.map_nil,List.cons.injEq,and_true] at h
  obtain ⟨rfl,rfl,rfl⟩:=h
  rw [hs] at h1
  exact h1.symm
def zP7 (v:Int):ByteArray:=⟨(Lib.itoa v).toArray⟩
def zT9 (s:ByteArray):Int:=match Lib.atoiAll s.data.toList with
 | .ok v=>if zP7 v≠s∨999<v then -1 else v
 | _=> -1
def zU7 :List UInt8→Nat→Option Nat
 | [],n=>some n
 | c::r,n=>if c<48∨57<c then none else zU7 r (10 * n+(c.toNat - 48))
def finN :Option Nat→Int
 | none=> -1
 | some n=>if 999<n then -1 else (n:Int)
def zO8 (s:ByteArray):Int:=if s.size<1∨9<s.size∨(s.data.toList.head?=some 48∧1<s.size) then -1 else finN (zU7 s.data.toList 0)
theorem xS8 :∀n,n<1000→Lib.atoiAll (Lib.itoa (n:Nat))= .ok (n:Int)∧zO8 (zP7 (n:Nat))=(n:Int):=by decide +kernel
theorem uG9 :∀(l:List UInt8) (n m:Nat),zU7 l n=some m→n * 10 ^ l.length≤m
 | [],n,m,h=>by simp [zU7] at h;simp [h]
 | c::r,n,m,h=>by
  unfold zU7 at h
  split at h
  · cases h
  · have:=uG9 r _ m h
    rw [List.length_cons,Nat.pow_succ]
    calc n * (10 ^ r.length * 10)=(10 * n) * 10 ^ r.length:=by rw [Nat.mul_comm (10 ^ r.length) 10,←Nat.mul_assoc,Nat.mul_comm n 10]
     _≤(10 * n+(c.toNat - 48)) * 10 ^ r.length:=Nat.mul_le_mul_right _ (by omega)
     _≤m:=this
theorem xG1 {c:UInt8}(h:¬(c<48∨57<c)):∃d:Nat,d<10∧c=UInt8.ofNat (48+d):=by
 have h1:¬c.toNat<48:=fun e=>h (Or.inl (by rw [UInt8.lt_iff_toNat_lt];exact e))
 have h2:¬57<c.toNat:=fun e=>h (Or.inr (by rw [UInt8.lt_iff_toNat_lt];exact e))
 refine ⟨c.toNat - 48,by omega,?_⟩
 have e:48+(c.toNat - 48)=c.toNat:=by omega
 rw [e];exact (UInt8.ofNat_toNat).symm
theorem vN7 :∀x,x<10→∀y,y<10→∀z,z<10→x≠0→Lib.itoa ((100 * x+10 * y+z:Nat):Int)= [UInt8.ofNat (48+x),UInt8.ofNat (48+y),UInt8.ofNat (48+z)]:=by decide +kernel
theorem uJ5 :∀y,y<10→∀z,z<10→y≠0→Lib.itoa ((10 * y+z:Nat):Int)= [UInt8.ofNat (48+y),UInt8.ofNat (48+z)]:=by decide +kernel
theorem one_dig :∀z,z<10→Lib.itoa ((z:Nat):Int)= [UInt8.ofNat (48+z)]:=by decide +kernel
theorem uN6 {s:ByteArray}{n:Nat}(h:zO8 s=(n:Int)):s=zP7 n∧n≤999:=by
 unfold zO8 at h
 split at h
 · omega
 rename_i hc
 have hc1:¬s.size<1:=fun e=>hc (Or.inl e)
 have hc3:¬(s.data.toList.head?=some 48∧1<s.size):=fun e=>hc (Or.inr (Or.inr e))
 have hz:s.size=s.data.toList.length:=by rw [Array.length_toList];rfl
 cases hd:zU7 s.data.toList 0 with
 | none=>
  rw [hd] at h
  have h' :(-1:Int)=(n:Int):=h
  omega
 | some m=>
  rw [hd] at h
  unfold finN at h
  dsimp only at h
  split at h
  · omega
  rename_i h9
  obtain rfl:m=n:=by omega
  refine ⟨?_,by omega⟩
  suffices e:s.data.toList=Lib.itoa (m:Int) by
   apply ByteArray.ext
   apply Array.toList_inj.1
   rw [e];rfl
  rw [hz] at hc1 hc3
  clear h hc hz
  generalize s.data.toList=l at hd hc1 hc3 ⊢
  match l,hd,hc1,hc3 with
  | [],_,hc1,_=>exact absurd (by simp) hc1
  | [a],hd,_,_=>
   unfold zU7 at hd
   split at hd
   · cases hd
   rename_i ha
   obtain ⟨x,hx,rfl⟩:=xG1 ha
   unfold zU7 at hd
   simp only [Option.some.injEq] at hd
   have e:(UInt8.ofNat (48+x)).toNat=48+x:=by rw [UInt8.toNat_ofNat'];omega
   rw [e] at hd
   rw [show m=x by omega,one_dig x hx]
  | [a,b],hd,_,hc3=>
   unfold zU7 at hd
   split at hd
   · cases hd
   rename_i ha
   unfold zU7 at hd
   split at hd
   · cases hd
   rename_i hb
   obtain ⟨x,hx,rfl⟩:=xG1 ha
   obtain ⟨y,hy,rfl⟩:=xG1 hb
   unfold zU7 at hd
   simp only [Option.some.injEq] at hd
   have e:(UInt8.ofNat (48+x)).toNat=48+x:=by rw [UInt8.toNat_ofNat'];omega
   have e' :(UInt8.ofNat (48+y)).toNat=48+y:=by rw [UInt8.toNat_ofNat'];omega
   rw [e,e'] at hd
   have h0:x≠0:=fun e0=>hc3 ⟨by rw [e0];rfl,by simp⟩
   rw [show m=10 * x+y by omega,uJ5 x hx y hy h0]
  | [a,b,c],hd,_,hc3=>
   unfold zU7 at hd
   split at hd
   · cases hd
   rename_i ha
   unfold zU7 at hd
   split at hd
   · cases hd
   rename_i hb
   unfold zU7 at hd
   split at hd
   · cases hd
   rename_i hcc
   obtain ⟨x,hx,rfl⟩:=xG1 ha
   obtain ⟨y,hy,rfl⟩:=xG1 hb
   obtain ⟨z,hzz,rfl⟩:=xG1 hcc
   unfold zU7 at hd
   simp only [Option.some.injEq] at hd
   have e:(UInt8.ofNat (48+x)).toNat=48+x:=by rw [UInt8.toNat_ofNat'];omega
   have e' :(UInt8.ofNat (48+y)).toNat=48+y:=by rw [UInt8.toNat_ofNat'];omega
   have e'' :(UInt8.ofNat (48+z)).toNat=48+z:=by rw [UInt8.toNat_ofNat'];omega
   rw [e,e',e''] at hd
   have h0:x≠0:=fun e0=>hc3 ⟨by rw [e0];rfl,by simp⟩
   rw [show m=100 * x+10 * y+z by omega,vN7 x hx y hy z hzz h0]
  | a::b::c::d::r,hd,_,hc3=>
   exfalso
   unfold zU7 at hd
   split at hd
   · cases hd
   rename_i ha
   have h1:=uG9 _ _ _ hd
   obtain ⟨x,hx,rfl⟩:=xG1 ha
   have e:(UInt8.ofNat (48+x)).toNat=48+x:=by rw [UInt8.toNat_ofNat'];omega
   have h0:x≠0:=fun e0=>hc3 ⟨by rw [e0];rfl,by simp⟩
   rw [e] at h1
   have h2:1000≤10 ^ (b::c::d::r).length:=by
    rw [show (1000:Nat)=10 ^ 3 from rfl]
    exact Nat.pow_le_pow_right (by decide) (by simp)
   have h3:1 * 10 ^ (b::c::d::r).length≤(10 * 0+(48+x - 48)) * 10 ^ (b::c::d::r).length:=Nat.mul_le_mul_right _ (by omega)
   omega
theorem vE4 (s:ByteArray):(zT9 s<0∧zO8 s<0)∨(zT9 s=zO8 s∧0≤zO8 s∧zO8 s≤999):=by
 by_cases h:zO8 s<0
 · left
   refine ⟨?_,h⟩
   by_cases hn:zT9 s<0
   · exact hn
   exfalso
   unfold zT9 at hn
   split at hn
   · rename_i v hv
     split at hn
     · omega
     rename_i hc
     have hc1:zP7 v=s:=Classical.not_not.1 (fun e=>hc (Or.inl e))
     obtain ⟨n,rfl⟩:∃n:Nat,v=n:=⟨v.toNat,by omega⟩
     have h9:¬(999:Int)<(n:Int):=fun e=>hc (Or.inr e)
     have:=(xS8 n (by omega)).2
     rw [hc1] at this
     omega
   · omega
 · right
   obtain ⟨n,hn⟩:∃n:Nat,zO8 s=n:=⟨(zO8 s).toNat,by omega⟩
   obtain ⟨e,h9⟩:=uN6 hn
   have hs:=(xS8 n (by omega)).1
   rw [hn]
   refine ⟨?_,by omega,by omega⟩
   have e' :s.data.toList=Lib.itoa (n:Int):=by rw [e];rfl
   unfold zT9
   rw [e',hs]
   dsimp only
   rw [if_neg (fun h=>h.elim (fun h=>h e.symm) (fun h=>by omega))]
open Go.RowKit Go.Sort
def zP3 (n:Nat):ByteArray:=⟨#[101,114,114,111,114,32]⟩++zP7 n
def yE1 :ByteArray:=⟨#[45]⟩
def okT :ByteArray:=⟨#[111,107]⟩
def yK1 :ByteArray:=⟨#[48]⟩
def yC3 (s:ByteArray):ByteArray:=if s=⟨#[]⟩ then yE1 else s
def zU8 (s:ByteArray):ByteArray:=if s=yE1 then ⟨#[]⟩ else s
def zR4 (f:File):ByteArray:=f.name++⟨#[61]⟩++yC3 f.text
def yB8 (l:List ByteArray):ByteArray:=⟨(Lib.join (l.map (·.data.toList)) [32]).toArray⟩
def vV5 (q:Quilt):ByteArray:=if q.files.length=0 then yE1 else yB8 (q.files.map zR4)
def yP2 (q:Quilt)(n:ByteArray):ByteArray:=match zC6 q.files n with
 | none=>zP3 5
 | some f=>yC3 f.text++⟨#[32]⟩++zP7 f.times
def yK3 (q:Quilt)(p:Quilt × Nat):Quilt × ByteArray:=if p.2=0 then (p.1,okT) else (q,zP3 p.2)
def sOpen :ByteArray:=⟨#[111,112,101,110]⟩
def vJ3 :ByteArray:=⟨#[115,99,114,117,98]⟩
def sAll :ByteArray:=⟨#[97,108,108]⟩
def sTurn :ByteArray:=⟨#[116,117,114,110]⟩
def sRead :ByteArray:=⟨#[114,101,97,100]⟩
def vC9 :ByteArray:=⟨#[100,105,102,102]⟩
def vC8 :ByteArray:=⟨#[100,114,111,112]⟩
def xK2 :ByteArray:=⟨#[119,114,105,116,101]⟩
def xT4 :ByteArray:=⟨#[110,97,109,101]⟩
def xO2 :ByteArray:=⟨#[115,119,97,112]⟩
def vY2 :ByteArray:=⟨#[97,114,109]⟩
def zX8 :ByteArray:=⟨#[114,101,115,116,97,114,116]⟩
def zQ5 :ByteArray:=⟨#[115,112,111,105,108]⟩
def zS7 (q:Quilt)(line:ByteArray):Quilt × ByteArray:=
 if 50<line.size then (q,zP3 4) else match zB5 line with
 | [_]=>if line=sOpen∨line=vJ3 then (q,yK1) else if line=sTurn then (q,zP7 q.turn) else if line=sAll then (q,vV5 q) else (q,zP3 4)
 | [a,b]=>if a=sRead then (q,yP2 q b) else if a=vC9∧0≤zO8 b then (q,if 2<zO8 b then zP3 5 else yE1) else if a=vC8 then yK3 q (zF5 q b) else (q,zP3 4)
 | [a,b,c]=>
  if a=xK2 then (if c=⟨#[]⟩ then (q,zP3 4) else yK3 q (zE5 q b (zU8 c)))
  else if a=xT4 then yK3 q (zC3 q b c)
  else if a=xO2 then yK3 q (zC0 q b c)
  else if a=zX8 then (if 0≤zO8 b∧0≤zO8 c then (if 2<zO8 b then (q,zP3 5) else (q,okT)) else (q,zP3 4))
  else (q,zP3 4)
 | _=>(q,zP3 4)
theorem yZ9 {q:Quilt}(h:Good q){p:Quilt × Nat}(hp:p.2=0→Good p.1∧p.1.turn=q.turn+1):Good (yK3 q p).1:=by
 unfold yK3
 split
 · rename_i h0;exact (hp h0).1
 · exact h
theorem uL5 {q:Quilt}(h:Good q)(line:ByteArray):Good (zS7 q line).1:=by
 unfold zS7
 split
 · exact h
 split
 · split
   · exact h
   split
   · exact h
   split <;> exact h
 · split
   · exact h
   split
   · exact h
   split
   · exact yZ9 h (yW6 h _)
   · exact h
 · split
   · split
     · exact h
     · exact yZ9 h (yU9 h _ _)
   split
   · exact yZ9 h (yV4 h _ _)
   split
   · exact yZ9 h (yV0 h _ _)
   split
   · split
     · split <;> exact h
     · exact h
   · exact h
 · exact h
def yF1 (l:List ByteArray)(k:Nat):Quilt:=(l.take k).foldl (fun q s=>(zS7 q s).1) ⟨[],1⟩
def saidT (l:List ByteArray)(k:Nat)(h:k<l.length):ByteArray:=(zS7 (yF1 l k) l[k]).2
theorem yO2 (l:List ByteArray)(k:Nat)(h:k<l.length):yF1 l (k+1)=(zS7 (yF1 l k) l[k]).1:=by
 unfold yF1
 rw [List.take_succ_eq_append_getElem h,List.foldl_append];rfl
theorem xT3 (l:List ByteArray):∀k,k≤l.length→Good (yF1 l k)
 | 0,_=>uP0
 | k+1,hk=>by rw [yO2 l k (by omega)];exact uL5 (xT3 l k (by omega)) _
end Go.Proofs.YtggpodlecljcbabGreatDoor
