/- Plain laws on worlds: a slice that reads as cells; what stays as memory grows. No program. Plain laws on worlds: what a call leaves as it was, but for the blocks of a footprint. No program. -/
import Derived.WalkSpells
import Derived.WalkLawsBesides
import Derived.Lib.Hide
import Derived.Lib.QuietBelow
import Derived.BigQuiet
import Derived.Laws.IdiomCopy
import Derived.Test.YtggpodlecljcbabGreatDoorProg
namespace Go.Proofs.YtggpodlecljcbabGreatDoor
set_option linter.unusedSimpArgs false
set_option linter.unusedVariables false
set_option maxRecDepth 100000
set_option maxHeartbeats 64000000
open Go.RowKit Go.Sort

def SL (w:World)(k:Nat)(v:Value)(n:Nat)(cs:List Value):Prop:=
 cs.length=n * k∧∃(ao:Option Addr) (cap:Nat),v= .slice ao n cap∧n≤cap∧cap≤maxLen∧(n=0→ao=none→cap=0)∧
  ∀j u,cs[j]?=some u→∃b off,ao=some ⟨b,off,none⟩∧w.cell? ⟨b,off+j,none⟩=some u

theorem SL.below {w w' :World}{k:Nat}{v:Value}{n:Nat}{cs:List Value}(h:SL w k v n cs)(hb:Below w.heap.size w w'):SL w' k v n cs:=by
 obtain ⟨h1,ao,cap,h2,h3,h4,h5,h6⟩:=h
 refine ⟨h1,ao,cap,h2,h3,h4,h5,fun j u hj=>?_⟩
 obtain ⟨b,off,e,hc⟩:=h6 j u hj
 exact ⟨b,off,e,by rw [hb.cell (p:=⟨b,off+j,none⟩) (World.block_lt_of_cell? w _ hc)];exact hc⟩

theorem yF4 {P:Program}{ops:Array Oper}{C:World→Prop}{Q Q' :Act→Prop}(hq:∀a,Q a→Q' a):∀ {l:List Oper} {a:Act},wpQuiet P ops C Q l a→wpQuiet P ops C Q' l a
 | [],_,h=>hq _ h
 | o::rest,a,h=>by
  unfold wpQuiet at h ⊢
  split
  · rename_i hw
    rw [if_pos hw] at h
    exact Oper.quiet_mono (fun a h=>yF4 hq h) h
  · rename_i hw
    rw [if_neg hw] at h
    exact yF4 hq h
theorem zA6 {P:Program}{id:Nat}{Q:Exit→Act→World→Prop}{a:Act}{w:World}{l:List Oper}(hm:P.follows .mixedOrders=true)(hB:Region.lexB .any l.toArray=true)
 (h:wpQuiet P l.toArray (fun w' =>∃p:Regrown,w' =grow (redrawn w p.d) p.os) (fun a' =>∀w',Below w.heap.size w w' →Q .normal a' w') l a):(Code.region id l.toArray true).wp P Q a w:=by
 refine wp_region_quiet (C:=fun w' =>∃p:Regrown,w' =grow (redrawn w p.d) p.os) hm hB ⟨⟨w.drawn+1, #[]⟩,by rw [grow_empty];rfl⟩ ?_
 refine yF4 (Q:=fun a' =>∀w',Below w.heap.size w w' →Q .normal a' w') (fun a' h w' hp=>?_) (by simpa using h)
 obtain ⟨p,rfl⟩:=hp
 exact h _ (below_regrown w p.d p.os)
theorem zA4 {w:World}{b o:Nat}{v:Value}(h:w.cell? ⟨b,o,none⟩=some v):∀d os,(grow (redrawn w d) os).cell? ⟨b,o,none⟩=some v:=fun d os=>cell_regrown h d os
theorem zA0 (w:World)(o:Obj):Below w.heap.size w (w.alloc o):=(Below.refl _ _).alloc (Nat.le_refl _) _
theorem two {w w1 w2:World}(h1:Below w.heap.size w w1)(h2:Below w1.heap.size w1 w2):Below w.heap.size w w2:=h1.trans (h2.mono h1.size)
theorem zA1 {w w' :World}(hb:Below w.heap.size w w'){b o:Nat}{v:Value}(h:w.cell? ⟨b,o,none⟩=some v):w'.cell? ⟨b,o,none⟩=some v:=by
 rw [hb.cell (p:=⟨b,o,none⟩) (World.block_lt_of_cell? w _ h)];exact h
theorem zN2 {W w1:World}(hb:Below W.heap.size W w1):(∀b o,b<W.heap.size→w1.cell? ⟨b,o,none⟩=W.cell? ⟨b,o,none⟩)∧(∀b o,b<W.heap.size→w1.frozen? ⟨b,o,none⟩=W.frozen? ⟨b,o,none⟩):=
 ⟨fun b o h=>hb.cell (p:=⟨b,o,none⟩) h,fun b o h=>hb.frozen (p:=⟨b,o,none⟩) h⟩

def Rd {α:Type}(k:Nat)(enc:α→List Value)(w:World)(v:Value)(l:List α):Prop:=SL w k v l.length (l.flatMap enc)
section
variable {α:Type} {k:Nat} {enc:α→List Value} {w:World} {v:Value} {l:List α}
theorem Rd.below {w' :World}(h:Rd k enc w v l)(hb:Below w.heap.size w w'):Rd k enc w' v l:=SL.below h hb
theorem yM5 (henc:∀x,(enc x).length=k):∀(l:List α) (i:Nat) (h:i<l.length) (j:Nat),j<k→(l.flatMap enc)[i * k+j]?=(enc l[i])[j]?
 | x::l,0,_,j,hj=>by
  have:=henc x
  simp only [List.flatMap_cons,Nat.zero_mul,Nat.zero_add,List.getElem_cons_zero]
  rw [List.getElem?_append_left (by omega)]
 | x::l,i+1,h,j,hj=>by
  have h1:=henc x
  have:=yM5 henc l i (by simpa using h) j hj
  simp only [List.flatMap_cons,List.getElem_cons_succ]
  rw [Nat.add_mul,Nat.one_mul,List.getElem?_append_right (by omega)]
  rw [←this]
  congr 1
  omega
theorem zC2 (henc:∀x,(enc x).length=k):∀(l:List α),(l.flatMap enc).length=l.length * k
 | []=>by simp
 | x::l=>by
  simp only [List.flatMap_cons,List.length_append,List.length_cons,henc x,zC2 henc l,Nat.add_mul,Nat.one_mul]
  omega
theorem Rd.parts (h:Rd k enc w v l):∃ao cap,v= .slice ao l.length cap∧l.length≤cap∧cap≤9223372036854775807:=by
 obtain ⟨_,ao,cap,h1,h2,h3,_⟩:=h
 exact ⟨ao,cap,h1,h2,by simpa [maxLen] using h3⟩
theorem Rd.at {ao:Option Addr}{n cap:Nat}(henc:∀x,(enc x).length=k)(hk:0<k)(h:Rd k enc w (.slice ao n cap) l)(i:Nat)(hi:i<l.length):
 ∃b off,ao=some ⟨b,off,none⟩∧b<w.heap.size∧∀j u,(enc l[i])[j]?=some u→w.cell? ⟨b,off+i * k+j,none⟩=some u:=by
 obtain ⟨_,ao',cap',h1,_,_,_,h5⟩:=h
 simp only [Value.slice.injEq] at h1
 obtain ⟨rfl,_,rfl⟩:=h1
 have h0:=yM5 henc l i hi 0 hk
 have h0' :(enc l[i])[0]?=some ((enc l[i])[0]'(by rw [henc];exact hk)):=List.getElem?_eq_getElem _
 rw [h0'] at h0
 obtain ⟨b,off,rfl,c0⟩:=h5 _ _ h0
 refine ⟨b,off,rfl,World.block_lt_of_cell? w _ c0,fun j u hj=>?_⟩
 have hjk:j<k:=by rw [←henc l[i]];exact (List.getElem?_eq_some_iff.1 hj).1
 have h1:=yM5 henc l i hi j hjk
 rw [hj] at h1
 obtain ⟨b1,off1,e1,c1⟩:=h5 _ _ h1
 simp only [Option.some.injEq,Addr.mk.injEq,and_true] at e1
 obtain ⟨rfl,rfl⟩:=e1
 rw [Nat.add_assoc]
 exact c1
theorem Rd.nil (w:World):Rd k enc w (.slice none 0 0) ([]:List α):=⟨by simp,none,0,rfl,Nat.le_refl _,Nat.zero_le _,fun _ _=>rfl,fun j u hj=>by simp at hj⟩
end
theorem xM4 {α:Type}(a b:List α)(k:Nat)(h1:a.take k=b.take k)(h2:¬k<a.length)(h3:a.length=b.length):a=b:=by
 rw [List.take_of_length_le (by omega),List.take_of_length_le (by omega)] at h1
 exact h1
theorem xS0 {α:Type}(a b:List α)(k:Nat)(h1:a.take k=b.take k)(ha:k<a.length)(hb:k<b.length)(h:a[k]=b[k]):a.take (k+1)=b.take (k+1):=by
 rw [List.take_succ_eq_append_getElem ha,List.take_succ_eq_append_getElem hb,h1,h]
theorem vK2 {α:Type}(a b:List α)(k:Nat)(ha:k<a.length)(hb:k<b.length)(h:a[k]≠b[k]):a≠b:=by
 rintro rfl;exact h rfl
theorem yV8 {α:Type}{a b:List α}(h:a.length≠b.length):a≠b:=by rintro rfl;exact h rfl
theorem zG7 (a b:ByteArray):a.toList=b.toList↔a=b:=by
 rw [ByteArray.toList_eq,ByteArray.toList_eq]
 constructor
 · intro h;exact Go.WideShapes.bytes_inj h
 · rintro rfl;rfl
theorem zJ8 {a b:Bool}(h:a=b):Ending.returned (.bool a)= .returned (.bool b):=by rw [h]
open Go.RowKit Go.Sort

structure Off (F:Nat→Prop) (w w' :World):Prop where
 os:w'.os=w.os
 tape:w'.tape=w.tape
 output:w'.output=w.output
 size:w.heap.size≤w'.heap.size
 block:∀k,k<w.heap.size→¬F k→w'.heap[k]?=w.heap[k]?
theorem Off.refl (F:Nat→Prop)(w:World):Off F w w:=⟨rfl,rfl,rfl,Nat.le_refl _,fun _ _ _=>rfl⟩
theorem Off.trans {F G:Nat→Prop}{a b c:World}(h:Off F a b)(k:Off G b c)(hs:∀x,x<a.heap.size→G x→F x):Off F a c:=
 ⟨k.os.trans h.os,k.tape.trans h.tape,k.output.trans h.output,Nat.le_trans h.size k.size,fun i hi hf=>(k.block i (Nat.lt_of_lt_of_le hi h.size) (fun hg=>hf (hs i hi hg))).trans (h.block i hi hf)⟩
theorem Off.mono {F G:Nat→Prop}{a b:World}(h:Off F a b)(hs:∀x,F x→G x):Off G a b:=
 ⟨h.os,h.tape,h.output,h.size,fun i hi hf=>h.block i hi (fun x=>hf (hs i x))⟩
theorem Off.below {F:Nat→Prop}{w w' :World}(h:Off F w w')(B:Nat)(hB:B≤w.heap.size)(hF:∀x,F x→B≤x):Below B w w' :=
 ⟨h.os,h.tape,h.output,h.size,fun k hk=>h.block k (by omega) (fun hf=>by have:=hF k hf;omega)⟩
theorem zB7 {w w' :World}(h:Below w.heap.size w w')(F:Nat→Prop):Off F w w' :=⟨h.os,h.tape,h.output,h.size,fun k hk _=>h.block k hk⟩
theorem zA7 {F:Nat→Prop}(w:World)(a:Addr)(ha:F a.block)(v:Value):Off F w (w.setCell a v):=
 ⟨rfl,rfl,rfl,by simp [World.setCell],fun k _ hf=>Below.heap_setCell _ _ _ _ (fun e=>hf (e ▸ ha))⟩
theorem uB9 (F:Nat→Prop)(w:World)(o:Obj):Off F w (w.alloc o):=zB7 (zA0 w o) F
theorem yJ0 (F:Nat→Prop)(w:World):Off F w w.drew:=⟨rfl,rfl,rfl,Nat.le_refl _,fun _ _ _=>rfl⟩
theorem zV9 {F:Nat→Prop}{w w' :World}{row:Option Nat}(h:w.grownBy w' row)(hr:∀k,row=some k→F k):Off F w w' :=
 ⟨h.os,h.tape,h.output,h.size,fun k hk hf=>h.block k hk (fun e=>hf (hr k e.symm))⟩
theorem Off.cell {F:Nat→Prop}{w w' :World}(h:Off F w w'){b o:Nat}{v:Value}(hc:w.cell? ⟨b,o,none⟩=some v)(hf:¬F b):w'.cell? ⟨b,o,none⟩=some v:=by
 rw [World.cell?_of_block (w:=w) (a:=⟨b,o,none⟩) (h.block b (World.block_lt_of_cell? w _ hc) hf)];exact hc
theorem zP8 (b:Nat):∀(vs:List Value) (o:Nat) (w:World) (k:Nat),k≠b→(w.setCells b o vs).heap[k]?=w.heap[k]?
 | [],_,_,_,_=>rfl
 | v::r,o,w,k,h=>by
  rw [World.setCells,zP8 b r (o+1) _ k h]
  exact Below.heap_setCell _ _ _ _ h
theorem yO0 (b:Nat):∀(vs:List Value) (o:Nat) (w:World),(w.setCells b o vs).heap.size=w.heap.size
 | [],_,_=>rfl
 | v::r,o,w=>by rw [World.setCells,yO0 b r (o+1)];simp [World.setCell]
theorem zU1 (b:Nat):∀(vs:List Value) (o:Nat) (w:World),(w.setCells b o vs).os=w.os∧(w.setCells b o vs).tape=w.tape∧(w.setCells b o vs).output=w.output
 | [],_,_=>⟨rfl,rfl,rfl⟩
 | v::r,o,w=>by rw [World.setCells];exact zU1 b r (o+1) _
theorem yV7 {F:Nat→Prop}(w:World)(b o:Nat)(vs:List Value)(hb:F b):Off F w (w.setCells b o vs):=
 ⟨(zU1 b vs o w).1,(zU1 b vs o w).2.1,(zU1 b vs o w).2.2,by rw [yO0];exact Nat.le_refl _,fun k _ hf=>zP8 b vs o w k (fun e=>hf (e ▸ hb))⟩
theorem zA3 (w:World)(b o:Nat)(v:Value){c:Array Value}{e:TypeId}{fz:Nat × Nat}(h:w.heap[b]?=some (.cells c e fz)):(w.setCell ⟨b,o,none⟩ v).heap[b]?=some (.cells (c.setIfInBounds o v) e fz):=by
 simp [World.setCell,Array.getElem?_modify,h]
theorem yA0 (b:Nat):∀(vs:List Value) (o:Nat) (w:World) (c:Array Value) (e:TypeId) (fz:Nat × Nat),w.heap[b]?=some (.cells c e fz)→o+vs.length≤c.size→
 (w.setCells b o vs).heap[b]?=some (.cells (c.toList.take o++vs++c.toList.drop (o+vs.length)).toArray e fz)
 | [],o,w,c,e,fz,h,_=>by simp [World.setCells,h]
 | v::r,o,w,c,e,fz,h,hl=>by
  simp only [List.length_cons] at hl
  rw [World.setCells,yA0 b r (o+1) _ _ e fz (zA3 w b o v h) (by simp;omega)]
  congr 3
  simp only [Array.toList_setIfInBounds,List.length_cons]
  rw [List.take_set,List.drop_set,if_pos (by omega)]
  have ho:o<c.toList.length:=by simp;omega
  have h1:(c.toList.take (o+1)).set o v=c.toList.take o++ [v]:=by
   rw [List.take_succ_eq_append_getElem ho,List.set_append_right _ _ (by simp;omega)]
   have:o - (c.toList.take o).length=0:=by simp;omega
   rw [this];rfl
  rw [h1]
  simp only [List.append_assoc,List.cons_append,List.nil_append,List.singleton_append]
  congr 4
  omega
section
variable {w w' :World} {base:Nat} {e:TypeId} {size:Nat} {v:Value} {n:Nat} {xs:List Value}
theorem zF4 (h:w.ownsRow base e size v n xs)(hb:∀g,v.ownBlock=some g→w'.heap[g]?=w.heap[g]?):w'.ownsRow base e size v n xs:=by
 refine ⟨h.1,?_⟩
 rcases h.2 with hn | ⟨g,cap,cur,rfl,hbg,hgg,rest⟩
 · exact .inl hn
 · exact .inr ⟨g,cap,cur,rfl,hbg,by rw [hb g rfl];exact hgg,rest⟩
theorem Off.owns {F:Nat→Prop}(hO:Off F w w')(h:w.ownsRow base e size v n xs)(hf:∀g,v.ownBlock=some g→¬F g):w'.ownsRow base e size v n xs:=
 zF4 h fun g hg=>hO.block g (h.lt g hg).2 (hf g hg)
theorem uB1 {base' :Nat}(h:w.ownsRow base e size v n xs)(hb:∀g,v.ownBlock=some g→base' ≤g):w.ownsRow base' e size v n xs:=by
 refine ⟨h.1,?_⟩
 rcases h.2 with hn | ⟨g,cap,cur,rfl,hbg,rest⟩
 · exact .inl hn
 · exact .inr ⟨g,cap,cur,rfl,hb g rfl,rest⟩
theorem uB0 (h:w.ownsRow base e size v n xs):w.ownsRow 0 e size v n xs:=uB1 h (fun _ _=>Nat.zero_le _)
theorem vJ9 {g cap:Nat}(h:w.ownsRow base e size (.slice (some ⟨g,0,none⟩) n cap) n xs)(i:Nat)(hi:i<xs.length)(u:Value):(w.setCell ⟨g,i,none⟩ u).ownsRow base e size (.slice (some ⟨g,0,none⟩) n cap) n (xs.set i u):=by
 refine ⟨by rw [List.length_set];exact h.1,?_⟩
 rcases h.2 with ⟨hn,_⟩ | ⟨g',cap',cur,hv,hbg,hgg,h1,h2,h3,h4⟩
 · cases hn
 · simp only [Value.slice.injEq,Option.some.injEq,Addr.mk.injEq] at hv
   obtain ⟨⟨rfl,_⟩,_,rfl⟩:=hv
   refine .inr ⟨_,_,_,rfl,hbg,zA3 w g i u hgg,h1,h2,by simpa using h3,?_⟩
   simp only [Array.toList_setIfInBounds]
   rw [List.take_set,h4]
theorem yP3 {g cap:Nat}(h:w.ownsRow base e size (.slice (some ⟨g,0,none⟩) n cap) n xs)(ys:List Value)(hy:ys.length=xs.length):(w.setCells g 0 ys).ownsRow base e size (.slice (some ⟨g,0,none⟩) n cap) n ys:=by
 refine ⟨by rw [hy];exact h.1,?_⟩
 rcases h.2 with ⟨hn,_⟩ | ⟨g',cap',cur,hv,hbg,hgg,h1,h2,h3,h4⟩
 · cases hn
 · simp only [Value.slice.injEq,Option.some.injEq,Addr.mk.injEq] at hv
   obtain ⟨⟨rfl,_⟩,_,rfl⟩:=hv
   have hle:ys.length≤cur.size:=by
    rw [hy,h.1,h3];exact Nat.mul_le_mul_right _ h1
   refine .inr ⟨_,_,_,rfl,hbg,yA0 g ys 0 w cur e (0,0) hgg (by omega),h1,h2,?_,?_⟩
   · simp;omega
   · have:n * size=ys.length:=by rw [hy,h.1]
     simp [this]
theorem yP4 {g cap:Nat}(h:w.ownsRow base e size (.slice (some ⟨g,0,none⟩) n cap) n xs)(j:Nat)(hj:j<xs.length):w.cell? ⟨g,j,none⟩=some xs[j]:=by
 have:=h.cells (g:=g) rfl j xs[j] (List.getElem?_eq_getElem hj)
 rwa [Addr.add_lit,Nat.zero_add] at this
theorem yD0 {g cap:Nat}(h:w.ownsRow base e size (.slice (some ⟨g,0,none⟩) n cap) n xs)(j:Nat):w.frozen? ⟨g,j,none⟩=false:=by
 rcases h.2 with ⟨hn,_⟩ | ⟨g',cap',cur,hv,hbg,hgg,_⟩
 · cases hn
 · simp only [Value.slice.injEq,Option.some.injEq,Addr.mk.injEq] at hv
   obtain ⟨⟨rfl,_⟩,_⟩:=hv
   simp [World.frozen?,hgg]
theorem zU3 {g cap:Nat}(h:w.ownsRow base e size (.slice (some ⟨g,0,none⟩) n cap) n xs):n≤cap∧cap≤maxLen:=by
 rcases h.2 with ⟨hn,_⟩ | ⟨g',cap',cur,hv,hbg,hgg,h1,h2,_⟩
 · cases hn
 · simp only [Value.slice.injEq] at hv
   obtain ⟨_,_,rfl⟩:=hv
   exact ⟨h1,h2⟩
theorem vR4 (h:w.ownsRow base e size v n xs):∃ao cap,v= .slice ao n cap∧n≤cap∧cap≤maxLen∧(∀a,ao=some a→∃g,a=⟨g,0,none⟩∧base≤g)∧(ao=none→cap=0):=by
 rcases h.2 with ⟨rfl,rfl⟩ | ⟨g,cap,cur,rfl,hbg,hgg,h1,h2,_⟩
 · exact ⟨none,0,rfl,Nat.le_refl _,Nat.zero_le _,(fun _ h=>by cases h),fun _=>rfl⟩
 · exact ⟨_,cap,rfl,h1,h2,(fun a ha=>⟨g,by cases ha;rfl,hbg⟩),(fun h=>by cases h)⟩
end
def zE6 (n:Nat):Value:=if n=0 then .nilIface else .iface 73 (.int .i64 n)
theorem zD2 :zE6 0= .nilIface:=rfl
theorem zA5 {n:Nat}(h:n≠0):zE6 n= .iface 73 (.int .i64 n):=if_neg h
end Go.Proofs.YtggpodlecljcbabGreatDoor
