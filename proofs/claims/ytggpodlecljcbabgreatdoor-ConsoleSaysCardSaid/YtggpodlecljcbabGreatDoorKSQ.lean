/- Plain: chapter 3: what is done with quilts; and that it leaves what may be. -/
import Derived.Test.YtggpodlecljcbabGreatDoorKG
import Derived.Test.YtggpodlecljcbabGreatDoorKB
namespace Go.Proofs.YtggpodlecljcbabGreatDoor
set_option linter.unusedSimpArgs false
set_option linter.unusedVariables false
set_option maxRecDepth 100000
set_option maxHeartbeats 64000000
def zB2 (q:Quilt):Nat:=if zF1 q.files≠0 then zF1 q.files else if q.turn<1∨9999<q.turn then 1 else 0
def zD6 :Quilt:=⟨[],0⟩
def zD5 (q:Quilt)(p:List File × Nat):Quilt × Nat:=if p.2≠0 then (zD6,p.2) else if 9999≤q.turn then (zD6,7) else (⟨p.1,q.turn+1⟩,0)
def zZ4 (q:Quilt)(name:ByteArray):Int:=((zC6 q.files name).getD ⟨ByteArray.empty,ByteArray.empty,0⟩).times
def zE5 (q:Quilt)(name text:ByteArray):Quilt × Nat:=zD5 q (zM0 q.files ⟨name,text,zZ4 q name+1⟩)
def zF5 (q:Quilt)(name:ByteArray):Quilt × Nat:=zD5 q (zK4 q.files name)
def zC3 (q:Quilt)(name tn:ByteArray):Quilt × Nat:=
 match zC6 q.files name with
 | none=>(zD6,5)
 | some f=>if zB6 tn.data.toList≠0 then (zD6,zB6 tn.data.toList) else if (zC6 q.files tn).isSome=true then (zD6,6) else zD5 q (zM0 (zK4 q.files name).1 ⟨tn,f.text,f.times⟩)
def zN3 (a b:ByteArray)(x y g:File):File:=if (g.name.toList==a.toList)=true then ⟨g.name,y.text,g.times+1⟩ else if (g.name.toList==b.toList)=true then ⟨g.name,x.text,g.times+1⟩ else g
def zC0 (q:Quilt)(a b:ByteArray):Quilt × Nat:=
 match zC6 q.files a,zC6 q.files b with
 | some x,some y=>if x.times=9999∨y.times=9999 then (zD6,7) else if (a.toList==b.toList)=true then zD5 q (q.files,0) else zD5 q (q.files.map (zN3 a b x y),0)
 | _,_=>(zD6,5)
structure Fine (l:List File):Prop where
 len:l.length≤8
 rises:Rises l
 each:∀f∈l,zA8 f=0
theorem yL2 :∀(l:List File) (p:Option ByteArray),zF2 p l=0→∀f∈l,zA8 f=0
 | [],_,_=>by simp
 | g::r,p,h=>by
  have key:zA8 g=0∧zF2 (some g.name) r=0:=by
   unfold zF2 at h
   by_cases h1:zA8 g=0
   · rw [if_neg (by simp [h1])] at h
     cases p with
     | none=>exact ⟨h1,by simpa using h⟩
     | some q=>
      cases hq:bLe g.name q
      · exact ⟨h1,by simpa [hq] using h⟩
      · simp [hq] at h
   · rw [if_pos h1] at h;exact absurd h h1
  intro f hf
  rcases List.mem_cons.mp hf with rfl | hf
  · exact key.1
  · exact yL2 r _ key.2 f hf
theorem yL1 :∀(l:List File) (p:Option ByteArray),(∀f∈l,zA8 f=0)→Rises l→(∀q,p=some q→∀f∈l,bLt q f.name=true)→zF2 p l=0
 | [],_,_,_,_=>rfl
 | g::r,p,h,hr,hp=>by
  unfold zF2
  rw [if_neg (by simp [h g (by simp)])]
  have hr' :Rises r:=(List.pairwise_cons.mp hr).2
  have h1:=yL1 r (some g.name) (fun f hf=>h f (by simp [hf])) hr' (fun q e f hf=>by cases e;exact (List.pairwise_cons.mp hr).1 f hf)
  cases p with
  | none=>simpa using h1
  | some q=>
   have:=hp q rfl g (by simp)
   simp [zY1 this,h1]
theorem vM1 (l:List File):zF1 l=0↔Fine l:=by
 constructor
 · intro h
   unfold zF1 at h
   split at h
   · cases h
   · exact ⟨by omega,(uM2 l none h).1,yL2 l none h⟩
 · intro ⟨h1,h2,h3⟩
   unfold zF1
   rw [if_neg (by omega)]
   exact yL1 l none h3 h2 (fun q e=>by cases e)
structure Good (q:Quilt):Prop where
 fine:Fine q.files
 lo:1≤q.turn
 hi:q.turn≤9999
theorem xQ0 (q:Quilt):zB2 q=0↔Good q:=by
 constructor
 · intro h
   unfold zB2 at h
   by_cases h1:zF1 q.files=0
   · rw [if_neg (by simp [h1])] at h
     split at h
     · cases h
     · exact ⟨(vM1 _).1 h1,by omega,by omega⟩
   · rw [if_pos h1] at h;exact absurd h h1
 · intro ⟨h1,h2,h3⟩
   unfold zB2
   rw [if_neg (by simp [(vM1 _).2 h1]),if_neg (by omega)]
theorem uP0 :Good ⟨[],1⟩:=⟨⟨by simp,List.Pairwise.nil,by simp⟩,by decide,by decide⟩
theorem zK0 {f:File}(h:zA8 f=0):zB6 f.name.data.toList=0∧f.text.size≤12∧1≤f.times∧f.times≤9999:=by
 unfold zA8 at h
 by_cases h1:zB6 f.name.data.toList=0
 · rw [if_neg (by simp [h1])] at h
   split at h
   · cases h
   · split at h
     · cases h
     · exact ⟨h1,by omega,by omega,by omega⟩
 · rw [if_pos h1] at h;exact absurd h h1
theorem yG6 {s:List UInt8}(h:zB6 s=0):s.length≤6:=by
 unfold zB6 at h
 split at h
 · cases h
 · split at h
   · cases h
   · omega
theorem zU6 {n t:ByteArray}{k:Int}(h1:zB6 n.data.toList=0)(h2:t.size≤12)(h3:1≤k)(h4:k≤9999):zA8 ⟨n,t,k⟩=0:=by
 unfold zA8
 rw [if_neg (by simp [h1]),if_neg (by simpa using h2),if_neg (by simp;omega)]
theorem Fine.mem {l:List File}(h:Fine l){name:ByteArray}{f:File}(hg:zC6 l name=some f):f∈l∧f.name.toList=name.toList:=by
 unfold zC6 at hg
 exact ⟨List.mem_of_find?_eq_some hg,by simpa using List.find?_some hg⟩
theorem xT9 {l:List File}(h:Rises l)(p:File→Bool):Rises (l.filter p):=List.Pairwise.filter p h
theorem yH9 {l:List File}(h:Fine l)(name:ByteArray):Fine (zK4 l name).1:=by
 unfold zK4
 split
 · exact ⟨Nat.le_trans (List.length_filter_le _ _) h.len,xT9 h.rises _,fun f hf=>h.each f (List.mem_filter.mp hf).1⟩
 · exact ⟨by simp,List.Pairwise.nil,by simp⟩
theorem vZ4 {l:List File}(f:File)(h:Rises l):Rises (zV8 l f):=by
 rw [yB4 l f h _ rfl]
 obtain ⟨r,hr⟩:∃r,r=zR1 l f.name:=⟨_,rfl⟩
 rw [←hr]
 obtain ⟨m,hm⟩:∃m,m=if yS3 l f.name r=true then r+1 else r:=⟨_,rfl⟩
 rw [←hm]
 have hc:(m=r∧yS3 l f.name r=false)∨(m=r+1∧yS3 l f.name r=true):=by
  cases hi:yS3 l f.name r <;> simp [hi] at hm <;> simp [hm]
 clear hm
 refine List.pairwise_append.mpr ⟨List.Pairwise.take h,?_,?_⟩
 · refine List.pairwise_cons.mpr ⟨?_,List.Pairwise.drop h⟩
   intro g hg
   obtain ⟨t,ht,rfl⟩:=List.getElem_of_mem hg
   rw [List.length_drop] at ht
   rw [List.getElem_drop]
   rcases hc with ⟨rfl,hi⟩ | ⟨rfl,hi⟩
   · have hge:=xO6 f.name l (by omega)
     have hlt:bLt f.name (l[m]'(by omega)).name=true:=by
      refine zQ1 ?_
      unfold bLe
      rw [yD8 l f.name m (by omega)] at hi
      rw [hi,Bool.or_false]
      have:bLt (l[m]'(by omega)).name f.name=false:=by simpa only [←hr] using hge
      exact this
     by_cases e:t=0
     · subst e;exact hlt
     · exact zG2 hlt (h.at m (m+t) (by omega) _)
   · rw [yD8 l f.name r (by omega)] at hi
     exact zS8 hi (h.at r (r+1+t) (by omega) _)
 · intro a ha b hb
   obtain ⟨t,ht,rfl⟩:=List.getElem_of_mem ha
   rw [List.length_take] at ht
   rw [List.getElem_take]
   have hlt:bLt (l[t]'(by omega)).name f.name=true:=zO1 f.name l t (by omega) (by omega)
   rcases List.mem_cons.mp hb with rfl | hb
   · exact hlt
   · obtain ⟨u,hu,rfl⟩:=List.getElem_of_mem hb
     rw [List.length_drop] at hu
     rw [List.getElem_drop]
     exact h.at t _ (by omega) _
theorem mem_put {l:List File}(f:File)(h:Rises l):∀g∈zV8 l f,g=f∨g∈l:=by
 intro g hg
 rw [yB4 l f h _ rfl] at hg
 rcases List.mem_append.mp hg with hg | hg
 · exact Or.inr (List.mem_of_mem_take hg)
 · rcases List.mem_cons.mp hg with rfl | hg
   · exact Or.inl rfl
   · exact Or.inr (List.mem_of_mem_drop hg)
theorem vQ6 {l:List File}(f:File)(h:Rises l):(zV8 l f).length=if (zC6 l f.name).isSome=true then l.length else l.length+1:=by
 rw [yB4 l f h _ rfl]
 have hrl:=vD3 l f.name
 cases hi:yS3 l f.name (zR1 l f.name)
 · rw [yH3 l f.name h hi]
   simp
   omega
 · have hl:=zY3 hi
   rw [yZ4 l f.name hl hi]
   simp
   omega
theorem xO8 {l:List File}(h:Fine l)(f:File):Fine (zM0 l f).1:=by
 unfold zM0
 by_cases hf:zA8 f=0
 · rw [if_neg (by simp [hf])]
   split
   · exact ⟨by simp,List.Pairwise.nil,by simp⟩
   · rename_i hh
     refine ⟨?_,vZ4 f h.rises,?_⟩
     · have:=vQ6 f h.rises
       have:=h.len
       cases hs:(zC6 l f.name).isSome <;> simp [hs] at * <;> omega
     · intro g hg
       rcases mem_put f h.rises g hg with rfl | hg
       · exact hf
       · exact h.each g hg
 · rw [if_pos hf]
   exact ⟨by simp,List.Pairwise.nil,by simp⟩
theorem yG5 {q:Quilt}(h:Good q){p:List File × Nat}(hp:Fine p.1)(h0:(zD5 q p).2=0):Good (zD5 q p).1∧(zD5 q p).1.turn=q.turn+1:=by
 have:=h.lo
 unfold zD5 at h0 ⊢
 split
 · rename_i hh;rw [if_pos hh] at h0;exact absurd h0 hh
 · rename_i hh
   rw [if_neg hh] at h0
   split
   · rename_i h9;rw [if_pos h9] at h0;cases h0
   · rename_i h9
     exact ⟨⟨hp,by simp;omega,by simp;omega⟩,rfl⟩
theorem yU9 {q:Quilt}(h:Good q)(name text:ByteArray)(h0:(zE5 q name text).2=0):Good (zE5 q name text).1∧(zE5 q name text).1.turn=q.turn+1:=yG5 h (xO8 h.fine _) h0
theorem yW6 {q:Quilt}(h:Good q)(name:ByteArray)(h0:(zF5 q name).2=0):Good (zF5 q name).1∧(zF5 q name).1.turn=q.turn+1:=yG5 h (yH9 h.fine _) h0
theorem yV4 {q:Quilt}(h:Good q)(name tn:ByteArray)(h0:(zC3 q name tn).2=0):Good (zC3 q name tn).1∧(zC3 q name tn).1.turn=q.turn+1:=by
 unfold zC3 at h0 ⊢
 split
 · rename_i hg;rw [hg] at h0;cases h0
 · rename_i f hg
   rw [hg] at h0
   dsimp only at h0
   split
   · rename_i hh;rw [if_pos hh] at h0;exact absurd h0 hh
   · rename_i hh
     rw [if_neg hh] at h0
     split
     · rename_i h6;rw [if_pos h6] at h0;cases h0
     · rename_i h6
       rw [if_neg h6] at h0
       exact yG5 h (xO8 (yH9 h.fine _) _) h0
theorem xJ8 (a b:ByteArray)(x y g:File):(zN3 a b x y g).name=g.name:=by unfold zN3;split <;> (try split) <;> rfl
theorem yQ1 {l:List File}(h:Rises l){f g:File}(hf:f∈l)(hg:g∈l)(e:f.name.toList=g.name.toList):f=g:=by
 obtain ⟨i,hi,rfl⟩:=List.getElem_of_mem hf
 obtain ⟨j,hj,rfl⟩:=List.getElem_of_mem hg
 rcases Nat.lt_trichotomy i j with hh | hh | hh
 · have:=h.at i j hh hj
   unfold bLt at this;rw [e,zW1] at this;cases this
 · subst hh;rfl
 · have:=h.at j i hh hi
   unfold bLt at this;rw [e,zW1] at this;cases this
theorem vW8 {l:List File}(h:Fine l){a b:ByteArray}{x y:File}(hx:zC6 l a=some x)(hy:zC6 l b=some y)(h9:¬(x.times=9999∨y.times=9999)):Fine (l.map (zN3 a b x y)):=by
 obtain ⟨mx,ex⟩:=h.mem hx
 obtain ⟨my,ey⟩:=h.mem hy
 have fx:=zK0 (h.each x mx)
 have fy:=zK0 (h.each y my)
 refine ⟨by simpa using h.len,?_,?_⟩
 · refine List.pairwise_map.mpr (h.rises.imp fun {c d} hcd=>?_)
   rw [xJ8,xJ8];exact hcd
 · intro f hf
   obtain ⟨g,hg,rfl⟩:=List.mem_map.mp hf
   have fg:=zK0 (h.each g hg)
   unfold zN3
   split
   · rename_i e
     have:g=x:=yQ1 h.rises hg mx (by rw [ex];simpa using e)
     subst this
     exact zU6 fg.1 fy.2.1 (by omega) (by omega)
   · split
     · rename_i e
       have:g=y:=yQ1 h.rises hg my (by rw [ey];simpa using e)
       subst this
       exact zU6 fg.1 fx.2.1 (by omega) (by omega)
     · exact h.each g hg
theorem yV0 {q:Quilt}(h:Good q)(a b:ByteArray)(h0:(zC0 q a b).2=0):Good (zC0 q a b).1∧(zC0 q a b).1.turn=q.turn+1:=by
 unfold zC0 at h0 ⊢
 split
 · rename_i x y hx hy
   rw [hx,hy] at h0
   dsimp only at h0
   split
   · rename_i hh;rw [if_pos hh] at h0;cases h0
   · rename_i hh
     rw [if_neg hh] at h0
     split
     · rename_i he;rw [if_pos he] at h0;exact yG5 h h.fine h0
     · rename_i he;rw [if_neg he] at h0;exact yG5 h (vW8 h.fine hx hy hh) h0
 · rename_i hh
   revert h0
   split
   · rename_i x y hx hy;exact (hh x y hx hy).elim
   · intro h0;cases h0
def yY8 (f g:File):File:=if (g.name.toList==f.name.toList)=true then f else g
theorem xU0 (f g:File):(yY8 f g).name.toList=g.name.toList:=by
 unfold yY8
 split
 · rename_i h;simpa using (beq_iff_eq.1 h).symm
 · rfl
theorem yJ5 (l:List File)(name:ByteArray):(zC6 l name).isSome=true↔∃g,g∈l∧g.name.toList=name.toList:=by
 unfold zC6
 rw [List.find?_isSome]
 simp
theorem vQ7 (l:List File)(f:File)(hr:Rises l)(r:Nat)(hk:r=zR1 l f.name)(h:yS3 l f.name r=true):l.take r++f::l.drop (r+1)=l.map (yY8 f):=by
 have hl:=zY3 h
 have e:l.map (yY8 f)=(l.take r++l[r]::l.drop (r+1)).map (yY8 f):=by rw [←List.drop_eq_getElem_cons hl,List.take_append_drop]
 rw [yD8 l f.name r hl] at h
 have h1:(l.take r).map (yY8 f)=l.take r:=by
  conv=>rhs;rw [←List.map_id (l.take r)]
  refine List.map_congr_left fun x hx=>?_
  obtain ⟨t,ht,rfl⟩:=List.getElem_of_mem hx
  rw [List.getElem_take]
  rw [List.length_take] at ht
  have:=zL3 (zO1 f.name l t (by omega) (by omega))
  unfold yY8;rw [this];simp
 have h2:(l.drop (r+1)).map (yY8 f)=l.drop (r+1):=by
  conv=>rhs;rw [←List.map_id (l.drop (r+1))]
  refine List.map_congr_left fun x hx=>?_
  obtain ⟨t,ht,rfl⟩:=List.getElem_of_mem hx
  rw [List.getElem_drop]
  rw [List.length_drop] at ht
  have:=yQ0 (zS8 h (hr.at r (r+1+t) (by omega) (by omega)))
  unfold yY8;rw [this];simp
 rw [e,List.map_append,List.map_cons,h1,h2]
 congr 2
 unfold yY8;rw [h];simp
theorem uA4 (l:List File)(f:File)(hf:zA8 f=0)(hr:Rises l)(hg:(zC6 l f.name).isSome=true):zM0 l f=(l.map (yY8 f),0):=by
 cases hi:yS3 l f.name (zR1 l f.name)
 · rw [yH3 l f.name hr hi] at hg;cases hg
 · rw [put_is l f hf hr _ rfl hi,vQ7 l f hr _ rfl hi]
theorem uP1 (l:List File)(f:File)(name:ByteArray):(zC6 (l.map (yY8 f)) name).isSome=(zC6 l name).isSome:=by
 rw [Bool.eq_iff_iff,yJ5,yJ5]
 constructor
 · rintro ⟨g,hg,e⟩
   obtain ⟨h,hh,rfl⟩:=List.mem_map.mp hg
   exact ⟨h,hh,by rw [←e,xU0]⟩
 · rintro ⟨g,hg,e⟩
   exact ⟨_,List.mem_map.mpr ⟨g,hg,rfl⟩,by rw [xU0];exact e⟩
theorem vW7 {l:List File}(h:Fine l){a b:ByteArray}{x y:File}(hx:zC6 l a=some x)(hy:zC6 l b=some y)(hab:(a.toList==b.toList)=false):
 (l.map (yY8 ⟨x.name,y.text,x.times+1⟩)).map (yY8 ⟨y.name,x.text,y.times+1⟩)=l.map (zN3 a b x y):=by
 obtain ⟨mx,ex⟩:=h.mem hx
 obtain ⟨my,ey⟩:=h.mem hy
 rw [List.map_map]
 refine List.map_congr_left fun g hg=>?_
 show yY8 _ (yY8 _ g)=_
 unfold zN3
 have hne:a.toList≠b.toList:=by simpa using hab
 by_cases e1:g.name.toList=a.toList
 · have:g=x:=yQ1 h.rises hg mx (by rw [ex,e1])
   subst this
   have h1:yY8 ⟨g.name,y.text,g.times+1⟩ g=⟨g.name,y.text,g.times+1⟩:=by unfold yY8;simp
   rw [h1,if_pos (by simpa using e1)]
   unfold yY8
   rw [if_neg (by dsimp only;rw [e1,ey];simpa using hne)]
 · rw [if_neg (by simpa using e1)]
   have h1:yY8 ⟨x.name,y.text,x.times+1⟩ g=g:=by unfold yY8;rw [if_neg (by dsimp only;rw [ex];simpa using e1)]
   rw [h1]
   by_cases e2:g.name.toList=b.toList
   · have:g=y:=yQ1 h.rises hg my (by rw [ey,e2])
     subst this
     rw [if_pos (by simpa using e2)]
     unfold yY8;simp
   · rw [if_neg (by simpa using e2)]
     unfold yY8;rw [if_neg (by dsimp only;rw [ey];simpa using e2)]
theorem xS1 {l:List File}(h:Fine l){a b:ByteArray}{x y:File}(hx:zC6 l a=some x)(hy:zC6 l b=some y)(hab:(a.toList==b.toList)=false)(h9:¬(x.times=9999∨y.times=9999)):
 ∃l1,zM0 l ⟨x.name,y.text,x.times+1⟩=(l1,0)∧Fine l1∧zM0 l1 ⟨y.name,x.text,y.times+1⟩=(l.map (zN3 a b x y),0):=by
 obtain ⟨mx,ex⟩:=h.mem hx
 obtain ⟨my,ey⟩:=h.mem hy
 have fx:=zK0 (h.each x mx)
 have fy:=zK0 (h.each y my)
 have f1:zA8 ⟨x.name,y.text,x.times+1⟩=0:=zU6 fx.1 fy.2.1 (by omega) (by omega)
 have f2:zA8 ⟨y.name,x.text,y.times+1⟩=0:=zU6 fy.1 fx.2.1 (by omega) (by omega)
 have p1:=uA4 l ⟨x.name,y.text,x.times+1⟩ f1 h.rises ((yJ5 _ _).2 ⟨x,mx,rfl⟩)
 have hf:Fine (l.map (yY8 ⟨x.name,y.text,x.times+1⟩)):=by
  have:=xO8 h ⟨x.name,y.text,x.times+1⟩
  rw [p1] at this;exact this
 refine ⟨_,p1,hf,?_⟩
 rw [uA4 _ _ f2 hf.rises (by rw [uP1];exact (yJ5 _ _).2 ⟨y,my,rfl⟩),vW7 h hx hy hab]
def zX6 (a b:ByteArray)(x y:File)(l:List File)(k:Nat):List File:=(l.take k).map (zN3 a b x y)++l.drop k
theorem yL6 (a b:ByteArray)(x y:File)(l:List File):zX6 a b x y l 0=l:=by simp [zX6]
theorem yB1 (a b:ByteArray)(x y:File)(l:List File)(k:Nat):(zX6 a b x y l k).length=l.length:=by simp [zX6];omega
theorem xS2 (a b:ByteArray)(x y:File)(l:List File)(k:Nat)(h:k<l.length):(zX6 a b x y l k)[k]'(by rw [yB1];exact h)=l[k]:=by
 unfold zX6
 rw [List.getElem_append_right (by simp;omega)]
 simp only [List.length_map,List.length_take,List.getElem_drop]
 congr 1
 omega
theorem vB9 (a b:ByteArray)(x y:File)(l:List File)(k:Nat)(h:k<l.length):zX6 a b x y l (k+1)=(zX6 a b x y l k).set k (zN3 a b x y l[k]):=by
 unfold zX6
 rw [List.set_append_right _ _ (by simp;omega),List.drop_eq_getElem_cons h,List.take_succ_eq_append_getElem h,List.map_append]
 have:k - ((l.take k).map (zN3 a b x y)).length=0:=by simp;omega
 rw [this,List.set_cons_zero]
 simp only [List.map_cons,List.map_nil,List.append_assoc,List.cons_append,List.nil_append]
theorem vO1 (a b:ByteArray)(x y:File)(l:List File):zX6 a b x y l l.length=l.map (zN3 a b x y):=by simp [zX6]
end Go.Proofs.YtggpodlecljcbabGreatDoor
