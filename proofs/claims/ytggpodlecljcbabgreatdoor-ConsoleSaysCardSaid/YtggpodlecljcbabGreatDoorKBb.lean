/- Plain laws on worlds: what a call appends to a slice of its own. -/
import Derived.Laws.IdiomCopy
import Derived.Shelf.Spec.SlicesInsert
import Derived.Lib.AppendZerosOnto
import Derived.Lib.Overlaps
import Derived.Deep.RegionLaw
import Derived.Test.YtggpodlecljcbabGreatDoorKBase
namespace Go.Proofs.YtggpodlecljcbabGreatDoor
set_option linter.unusedSimpArgs false
set_option linter.unusedVariables false
set_option maxRecDepth 100000
set_option maxHeartbeats 64000000
open Go.RowKit Go.Sort

def zQ3 (P:Program)(T E k bytes:Nat):Prop:=
 ∃i z,P.underlying T=some (.slice E)∧P.info? E=some i∧i.zero=some z∧i.size=k∧i.bytes=bytes∧z.cells.size=k∧0<k∧bytes≤100
theorem zO4 {P:Program}{T E k bytes:Nat}{z:Value}(h1:P.underlying T=some (.slice E))(h2:(P.info? E).map (fun i=>(i.zero,i.size,i.bytes))=some (some z,k,bytes))(h3:z.cells.size=k)(h4:0<k)(h5:bytes≤100):zQ3 P T E k bytes:=by
 obtain ⟨i,hi,he⟩:=Option.map_eq_some_iff.1 h2
 simp only [Prod.mk.injEq] at he
 exact ⟨i,z,h1,hi,he.1,he.2.1,he.2.2,h3,h4,h5⟩
theorem zB8 {P:Program}{T E k bytes:Nat}(I:zQ3 P T E k bytes){w:World}{ops:Array Oper}{rest:List Oper}{o:Oper}{a:Act}{Q:Exit→Act→World→Prop}(hgd:o.guard=none)(s x:Operand)
 (ho:o.op= .call { callee:= .builtin .append,args:= #[s,x],argTypes:= #[T,T] })
 (base:Nat) (v:Value) (n:Nat) (xs:List Value) (hs:a.eval s=v) (hown:w.ownsRow base E k v n xs)
 (ad:Addr) (m c:Nat) (news:List Value) (hx:a.eval x= .slice (some ad) m c) (hl:news.length=m * k) (hnews:∀j u,news[j]?=some u→w.cell? (ad.add j)=some u) (h1:∀u∈news,u.oneCell' =true)
 (h63:n+m≤1000000000) (hbase:base≤w.heap.size)
 (h:∀v' w',w'.ownsRow base E k v' (n+m) (xs++news)→w.grownBy w' v.ownBlock→wpList P ops Q rest (a.put o.dst v') w'):wpList P ops Q (o::rest) a w:=by
 obtain ⟨i,z,e1,e2,e3,e4,e5,e6,e7,e8⟩:=I
 refine wpList_append_own w hgd s x T ho base E i z k bytes e1 e2 e3 e4 e5 e6 e7 v n xs hs hown ad m c news hx hl hnews h1 (by unfold maxLen;omega) ?_ hbase (fun v' w' a b _=>h v' w' a b)
 calc (n+m) * bytes≤1000000000 * 100:=Nat.mul_le_mul h63 e8
  _≤140737488355328:=by decide
theorem SL.of_own {w:World}{base e k:Nat}{v:Value}{n:Nat}{xs:List Value}(h:w.ownsRow base e k v n xs):SL w k v n xs:=by
 obtain ⟨h1,h2⟩:=h
 refine ⟨h1,?_⟩
 rcases h2 with ⟨rfl,rfl⟩ | ⟨g,cap,cur,rfl,_,hg,hn,hm,hs,ht⟩
 · refine ⟨none,0,rfl,Nat.le_refl _,Nat.zero_le _,fun _ _=>rfl,fun j u hj=>?_⟩
   have:xs= []:=List.eq_nil_of_length_eq_zero (by simpa using h1)
   subst this
   simp at hj
 · refine ⟨some ⟨g,0,none⟩,cap,rfl,hn,hm,(fun _ h=>by cases h),fun j u hj=>⟨g,0,rfl,?_⟩⟩
   rw [Nat.zero_add,cell_of_row w g j cur e (0,0) hg]
   rw [←ht,List.getElem?_take] at hj
   split at hj
   · simpa using hj
   · cases hj
theorem zB0 {w w0 w' :World}{base e k:Nat}{v:Value}{n:Nat}{xs:List Value}(hb:Below w0.heap.size w0 w)(hown:w.ownsRow base e k v n xs)(hg:w.grownBy w' v.ownBlock)(hbase:w0.heap.size≤base):Below w0.heap.size w0 w' :=
 hb.grown hg hb.size (fun j hj=>Nat.le_trans hbase (hown.lt j hj).1)
theorem zI4 {α:Type}(enc:α→List Value)(l:List α)(x:α):(l++ [x]).flatMap enc=l.flatMap enc++enc x:=by simp
theorem zL0 {w:World}{u:Value}{t:TypeId}:∀(j:Nat) (x:Value), [u][j]?=some x→(w.alloc (.cells #[u] t)).cell? ((⟨w.heap.size,0,none⟩:Addr).add j)=some x:=cell_one_new _ _ _
open Go.RowKit Go.Sort
variable {P:Program}
theorem zE9 (w:World)(dT sT ty elem:TypeId)(k b o dLen dCap:Nat)(a:Addr)(sLen sCap:Nat)(cs:List Value)
 (hu:P.underlying dT=some (.slice elem)) (hs:(P.info? elem).map (·.size)=some k) (hn:cs.length=Nat.min sLen dLen * k)
 (hsrc:∀j v,cs[j]?=some v→w.cell? (a.add j)=some v) (hc:∀j,j<cs.length→(w.cell? ⟨b,o+j,none⟩).isSome=true) (hf:∀j,j<cs.length→w.frozen? ⟨b,o+j,none⟩=false) (h1:∀v∈cs,v.oneCell' =true):
 (Builtin.copy_ #[dT,sT] ty #[.slice (some ⟨b,o,none⟩) dLen dCap, .slice (some a) sLen sCap]).run P w= .ok (goInt (Nat.min sLen dLen)) (w.setCells b o cs):=by
 have hl:=run_loadCells_list (P:=P) w a cs hsrc
 have hst:=run_storeCells_cells (P:=P) b o cs 0 w (by simpa using hc) (by simpa using hf) h1
 cases hq:P.info? elem with
 | none=>simp [hq] at hs
 | some i=>
  have hi:i.size=k:=by simpa [hq] using hs
  rw [hn] at hl
  simp [Builtin.copy_,run_underlying hu,Builtin.lenOf,Builtin.firstCells,sizeOf,typeInfo,hq,hi,hl,hst]
theorem yO3 (w:World)(t e ty:TypeId)(z:Value)(cs:List Value)(ht:P.underlying t=some (.slice e))(hv:∀w,(zeroValue e).run P w= .ok z w)(hz:(Builtin.zeroCells z.cells 1).toList=cs)(h1:∀v∈cs,v.oneCell' =true)(b o c:Nat)
 (hc:∀j,j<cs.length→(w.cell? ⟨b,o+j,none⟩).isSome=true) (hf:∀j,j<cs.length→w.frozen? ⟨b,o+j,none⟩=false):
 (Builtin.clear_ #[t] ty #[.slice (some ⟨b,o,none⟩) 1 c]).run P w= .ok (.tuple #[]) (w.setCells b o cs):=by
 have hst:=run_storeCells_cells (P:=P) b o cs 0 w (by simpa using hc) (by simpa using hf) h1
 simp only [Nat.add_zero] at hst
 simp [Builtin.clear_,run_underlying ht,hv,hz,hst]
theorem zF8 {B b:Nat}{a:World}(hb:B≤b):∀(vs:List Value) (o:Nat) (w:World),Below B a w→Below B a (w.setCells b o vs)
 | [],_,_,h=>h
 | v::r,o,w,h=>zF8 hb r (o+1) _ (h.setCell hb v)
theorem zK9 {w:World}{base e k g n cap:Nat}{xs:List Value}(h:w.ownsRow base e k (.slice (some ⟨g,0,none⟩) n cap) n xs):
 base≤g∧g<w.heap.size∧n≤cap∧cap≤9223372036854775807∧xs.length=n * k∧(∀j u,xs[j]?=some u→w.cell? ⟨g,j,none⟩=some u)∧(∀j,j<cap * k→(w.cell? ⟨g,j,none⟩).isSome=true)∧(∀j,w.frozen? ⟨g,j,none⟩=false)∧w.shape? g=some (e,cap * k):=by
 obtain ⟨hl,h⟩:=h
 rcases h with ⟨h,h0⟩ | ⟨g',cap',cur,h,hb,hg,h1,h2,h3,h4⟩
 · simp only [Value.slice.injEq] at h
   cases h.1
 · simp only [Value.slice.injEq,Option.some.injEq,Addr.mk.injEq,and_true,true_and] at h
   obtain ⟨rfl,rfl⟩:=h
   refine ⟨hb,?_,h1,h2,hl,?_,?_,?_,?_⟩
   · by_cases hh:g<w.heap.size
     · exact hh
     · rw [Array.getElem?_eq_none (by omega)] at hg;cases hg
   · intro j u hj
     rw [←h4,List.getElem?_take] at hj
     split at hj
     · simp only [World.cell?,hg];simpa using hj
     · cases hj
   · intro j hj
     have:j<cur.size:=by omega
     simp [World.cell?,hg,this]
   · intro j
     simp [World.frozen?,hg]
   · simp [World.shape?,hg,h3]
theorem zY8 {w:World}{g:Nat}(vs:List Value)(o:Nat)(hs:∀j,j<vs.length→(w.cell? ⟨g,o+j,none⟩).isSome=true)(j:Nat)(u:Value)(h:vs[j]?=some u):(w.setCells g o vs).cell? ⟨g,o+j,none⟩=some u:=by
 have hj:j<vs.length:=(List.getElem?_eq_some_iff.1 h).1
 have:=World.cell?_setCells_in g vs o w hs j hj
 rw [this,←h,List.getElem?_eq_getElem hj]
theorem zK1 {w:World}{g:Nat}(vs:List Value)(o j:Nat)(h:j<o∨o+vs.length≤j):(w.setCells g o vs).cell? ⟨g,j,none⟩=w.cell? ⟨g,j,none⟩:=
 World.cell?_setCells_out g vs o w ⟨g,j,none⟩ (fun _ _=>h)
theorem yE3 {w:World}{g b:Nat}(vs:List Value)(o j:Nat)(h:b≠g):(w.setCells g o vs).cell? ⟨b,j,none⟩=w.cell? ⟨b,j,none⟩:=
 World.cell?_setCells_out g vs o w ⟨b,j,none⟩ (fun e _=>absurd e h)
theorem yB0 {W:World}{g:Nat}(pre ins post:List Value)(h1:∀j u,pre[j]?=some u→W.cell? ⟨g,j,none⟩=some u)(h2:∀j u,ins[j]?=some u→W.cell? ⟨g,pre.length+j,none⟩=some u)
 (h3:∀j u,post[j]?=some u→W.cell? ⟨g,pre.length+ins.length+j,none⟩=some u):∀j u,(pre++ins++post)[j]?=some u→W.cell? ⟨g,j,none⟩=some u:=by
 intro j u h
 by_cases a:j<pre.length
 · rw [List.append_assoc,List.getElem?_append_left a] at h
   exact h1 j u h
 · by_cases b:j<pre.length+ins.length
   · rw [List.append_assoc,List.getElem?_append_right (by omega),List.getElem?_append_left (by omega)] at h
     have:=h2 _ u h
     rwa [show pre.length+(j - pre.length)=j by omega] at this
   · rw [List.getElem?_append_right (by simp;omega)] at h
     simp only [List.length_append] at h
     have:=h3 _ u h
     rwa [show pre.length+ins.length+(j - (pre.length+ins.length))=j by omega] at this
theorem xK7 {w:World}{g:Nat}(pre ins post:List Value)(hpre:∀j u,pre[j]?=some u→w.cell? ⟨g,j,none⟩=some u)(hs:∀j,j<pre.length+ins.length+post.length→(w.cell? ⟨g,j,none⟩).isSome=true):
 ∀j u,(pre++ins++post)[j]?=some u→((w.setCells g (pre.length+ins.length) post).setCells g pre.length ins).cell? ⟨g,j,none⟩=some u:=by
 have hs1:∀j,j<pre.length+ins.length+post.length→((w.setCells g (pre.length+ins.length) post).cell? ⟨g,j,none⟩).isSome=true:=fun j hj=>isSome_setCells g _ _ _ (fun t ht=>hs _ (by omega)) j (hs j hj)
 refine yB0 pre ins post ?_ ?_ ?_
 · intro j u h
   have hj:j<pre.length:=(List.getElem?_eq_some_iff.1 h).1
   rw [zK1 _ _ _ (Or.inl hj),zK1 _ _ _ (Or.inl (by omega))]
   exact hpre j u h
 · intro j u h
   exact zY8 _ _ (fun t ht=>hs1 _ (by omega)) j u h
 · intro j u h
   rw [zK1 _ _ _ (Or.inr (by omega))]
   exact zY8 _ _ (fun t ht=>hs _ (by omega)) j u h
theorem xU3 {w:World}{g:Nat}(pre ins post:List Value)(hpre:∀j u,pre[j]?=some u→w.cell? ⟨g,j,none⟩=some u)(hs:∀j,j<pre.length+ins.length+post.length→(w.cell? ⟨g,j,none⟩).isSome=true):
 ∀j u,(pre++ins++post)[j]?=some u→((w.setCells g pre.length ins).setCells g (pre.length+ins.length) post).cell? ⟨g,j,none⟩=some u:=by
 have hs1:∀j,j<pre.length+ins.length+post.length→((w.setCells g pre.length ins).cell? ⟨g,j,none⟩).isSome=true:=fun j hj=>isSome_setCells g _ _ _ (fun t ht=>hs _ (by omega)) j (hs j hj)
 refine yB0 pre ins post ?_ ?_ ?_
 · intro j u h
   have hj:j<pre.length:=(List.getElem?_eq_some_iff.1 h).1
   rw [zK1 _ _ _ (Or.inl (by omega)),zK1 _ _ _ (Or.inl hj)]
   exact hpre j u h
 · intro j u h
   have hj:j<ins.length:=(List.getElem?_eq_some_iff.1 h).1
   rw [zK1 _ _ _ (Or.inl (by omega))]
   exact zY8 _ _ (fun t ht=>hs _ (by omega)) j u h
 · intro j u h
   exact zY8 _ _ (fun t ht=>hs1 _ (by omega)) j u h
theorem vI9 {W:World}{g:Nat}(pre post:List Value)(h1:∀j u,pre[j]?=some u→W.cell? ⟨g,j,none⟩=some u)(h3:∀j u,post[j]?=some u→W.cell? ⟨g,pre.length+j,none⟩=some u):∀j u,(pre++post)[j]?=some u→W.cell? ⟨g,j,none⟩=some u:=by
 have:=yB0 (W:=W) (g:=g) pre [] post h1 (fun j u h=>by simp at h) (by simpa using h3)
 simpa using this
end Go.Proofs.YtggpodlecljcbabGreatDoor
