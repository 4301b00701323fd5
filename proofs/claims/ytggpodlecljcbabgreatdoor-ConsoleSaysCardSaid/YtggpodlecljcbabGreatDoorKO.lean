/- What a reading of an argument says of memory: files, changes, texts, quilts, copies. -/
import Derived.ProofKit
import Derived.OpenShut
import Derived.Deep.Slices
import Derived.Lib.SmallJoins
import Derived.Test.YtggpodlecljcbabGreatDoorKB
import Derived.Test.YtggpodlecljcbabGreatDoorKD
namespace Go.Proofs.YtggpodlecljcbabGreatDoor
set_option linter.unusedSimpArgs false
set_option linter.unusedVariables false
set_option maxRecDepth 100000
set_option maxHeartbeats 64000000
open Go.ChangeShapes Go.WideShapes Go.ChangeAt Go.RowKit Go.Deep Go.Joins
section
variable {H:Type} {enc:TypeId × Value→H} {w:World} {base:Nat} {spare:Nat→Bool} {held:Bool}

theorem xN1 {α:Type}{p:Nat→α→Prop}:∀n:Nat,(∀i,i<n→∃x,p i x)→∃l:List α,l.length=n∧∀i (h:i<l.length),p i l[i]
 | 0,_=>⟨[],rfl,fun i h=>by simp at h⟩
 | n+1,h=>by
  obtain ⟨l,hl,hp⟩:=xN1 n (fun i hi=>h i (by omega))
  obtain ⟨x,hx⟩:=h n (by omega)
  refine ⟨l++ [x],by simp [hl],fun i hi=>?_⟩
  by_cases hin:i<l.length
  · rw [List.getElem_append_left hin];exact hp i hin
  · have:i=n:=by simp at hi;omega
    subst this
    rw [List.getElem_append_right (by omega)]
    simpa [hl] using hx
theorem uS2 {w:World}{a:Addr}{j:Nat}{u:Value}(hs:a.spot=none)(h:w.cell? (a.add j)=some u):∃b off,a=⟨b,off,none⟩∧w.cell? ⟨b,off+j,none⟩=some u:=by
 obtain ⟨b,off,spot⟩:=a
 simp only at hs
 subst hs
 refine ⟨b,off,rfl,?_⟩
 by_cases hj:j=0
 · subst hj;simpa [Addr.add] using h
 · simpa [Addr.add,hj] using h
theorem uS3 (a:Addr)(i j:Nat):(a.add i).add j=a.add (i+j):=by
 simpa using Go.Deep.add_add a i j
theorem trod_rd {α:Type}{k:Nat}{encα:α→List Value}{ok:α→Prop}{P:Program}{t e:TypeId}(ht:P.underlying t=some (.slice e))(hC:P.cellsOf e=k)(hk:0<k)(hlen:∀x,(encα x).length=k)
 (hel:∀n cs y,DataW.trod enc P w base spare held n e cs=some y→∃x,cs=encα x∧ok x)
 {fuel:Nat} {cs:List Value} {x:DataW H × List MemPlace} (h:DataW.trod enc P w base spare held fuel t cs=some x):
 ∃v l,cs= [v]∧Rd k encα w v l∧∀x∈l,ok x:=by
 rcases open_slice ht h with ⟨rfl,_⟩ | ⟨a,len,cap,m,n,D,Pl,rfl,_,hl,hm,hmm,_,hi⟩
 · exact ⟨_, [],rfl,Rd.nil w,fun x hx=>by cases hx⟩
 · rw [hC] at hi
   have hlm:len≤m:=by rw [hmm];split <;> omega
   obtain ⟨l,hll,hp⟩:=xN1 (p:=fun i (x:α)=>w.cells? base (a.add (i * k)) k=some (encα x)∧ok x) len (fun i him=>by
    obtain ⟨cs',h1,h2⟩:=hi i (by omega)
    obtain ⟨x,rfl,hx⟩:=hel _ _ _ h2
    exact ⟨x,h1,hx⟩)
   refine ⟨_,l,rfl,⟨zC2 hlen l,some a,cap,by rw [hll],by omega,hm,(fun _ h=>by cases h),fun j u hj=>?_⟩,fun x hx=>?_⟩
   · have hjl:j<l.length * k:=by rw [←zC2 hlen l];exact (List.getElem?_eq_some_iff.1 hj).1
     have hik:j / k<l.length:=(Nat.div_lt_iff_lt_mul hk).2 hjl
     have hjk:j % k<k:=Nat.mod_lt _ hk
     have hsplit:j=j / k * k+j % k:=by rw [Nat.mul_comm];exact (Nat.div_add_mod j k).symm
     have h1:=yM5 hlen l (j / k) hik (j % k) hjk
     rw [←hsplit,hj] at h1
     obtain ⟨_,_,hc⟩:=World.cells?_some (hp _ hik).1
     have h2:=hc (j % k) hjk
     rw [←h1,uS3,←hsplit] at h2
     have h0k:0<l.length:=Nat.lt_of_le_of_lt (Nat.zero_le _) hik
     obtain ⟨_,_,hc0⟩:=World.cells?_some (hp 0 h0k).1
     have h3:=hc0 0 hk
     have hs:a.spot=none:=by
      have h4:(encα l[0])[0]?=some ((encα l[0])[0]'(by rw [hlen];exact hk)):=List.getElem?_eq_getElem _
      rw [h4,Nat.zero_mul] at h3
      have h5:=World.cell?_spot h3
      simpa [Addr.add] using h5
     obtain ⟨b,off,ea,hcell⟩:=uS2 hs h2
     exact ⟨b,off,by rw [ea],hcell⟩
   · obtain ⟨i,hi',rfl⟩:=List.mem_iff_getElem.1 hx
     exact (hp i hi').2
theorem vV9 {n:Nat}{cs:List Value}{y:DataW H × List MemPlace}(h:DataW.trod enc Tryz.prog w base spare held n 9 cs=some y):∃f:ByteArray,cs=zD3 f∧f.size≤maxLen:=by
 obtain ⟨s0,k0,_,o0⟩:=DataW.trod_string Tryz.underlying9 h
 exact ⟨s0,k0,o0⟩
theorem trod_texts {n:Nat}{cs:List Value}{y:DataW H × List MemPlace}(h:DataW.trod enc Tryz.prog w base spare held n 56 cs=some y):∃v l,cs= [v]∧Texts w v l∧∀f∈l,f.size≤maxLen:=
 trod_rd Tryz.underlying56 (by kernel_rfl) (by decide) yF9 (fun _ _ _ h=>vV9 h) h
end
open Go.ChangeShapes Go.WideShapes Go.ChangeAt Go.RowKit Go.Deep Go.Joins
section
variable {H:Type} {enc:TypeId × Value→H} {w:World} {base:Nat} {spare:Nat→Bool} {held:Bool}
end
end Go.Proofs.YtggpodlecljcbabGreatDoor
