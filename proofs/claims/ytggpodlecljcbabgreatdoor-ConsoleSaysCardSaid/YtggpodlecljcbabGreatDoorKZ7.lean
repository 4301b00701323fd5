/- The walk of (*store.Store).Checkpoint. -/
import Derived.Test.YtggpodlecljcbabGreatDoorKZ5
import Derived.Test.YtggpodlecljcbabGreatDoorKY8
namespace Go.Proofs.YtggpodlecljcbabGreatDoor
set_option linter.unusedSimpArgs false
set_option linter.unusedVariables false
set_option maxRecDepth 100000
set_option maxHeartbeats 64000000
open Lib (hid)
open Go.RowKit Go.Sort Go.Shelf
attribute [local go_sem] Oper.semAt_some
theorem vE3 {F:Nat→Prop}{w W:World}(h:Off (fun k=>F k∨w.heap.size≤k) w W):Off F w W:=
 ⟨h.os,h.tape,h.output,h.size,fun k hk hn=>h.block k hk (fun e=>by
  rcases e with e | e
  · exact hn e
  · omega)⟩
theorem StAt.turned {w W' :World}{sb lb many:Nat}{L L' :Dk}{S:StS}{rv:Value}(h:StAt w sb lb L S many rv)(hO:Off L.foot w W')(e:L'.b=L.b)(g:∀k,L'.foot k→L.foot k∨w.heap.size≤k):StAt W' sb lb L' S many rv:=by
 have hl:=h.lt
 have hll:=(Array.getElem?_eq_some_iff.1 h.log.box).1
 refine ⟨?_,h.log.off hO h.lf e,h.rows.turned (by decide) (hO.mono (fun k hk=>Or.inl hk)) (fun k hk=>?_),h.ls,fun hf=>?_,fun hf=>?_⟩
 · rw [hO.block _ hl h.sf,h.box]
   unfold yK5
   rw [e]
 · rcases hk with hk | hk
   · rcases g k hk with hk | hk
     · exact Or.inl (Or.inl hk)
     · exact Or.inr hk
   · exact Or.inl (Or.inr hk)
 · rcases g _ hf with h1 | h1
   · exact h.sf h1
   · omega
 · rcases g _ hf with h1 | h1
   · exact h.lf h1
   · omega
def StoreTo (w:World)(L:Dk)(lb sb:Nat)(rv:Value)(many:Nat)(D' :DiskS)(S' :StS)(w' :World):Prop:=∃L' lb' rv',L'.b=L.b∧DiskAt w' L' D' ∧StAt w' sb lb' L' S' many rv' ∧Off (stF L lb sb) w w' ∧(∀k,stF L' lb' sb k→stF L lb sb k∨w.heap.size≤k)∧(rv' =rv∨far (fun k=>k<w.heap.size) rv')
theorem StoreTo.same {w W' :World}{sb lb many:Nat}{L L' :Dk}{S:StS}{D' :DiskS}{rv:Value}(h:StAt w sb lb L S many rv)(hO:Off L.foot w W')(e:L'.b=L.b)(d:DiskAt W' L' D')(g:∀k,L'.foot k→L.foot k∨w.heap.size≤k):StoreTo w L lb sb rv many D' S W' :=
 ⟨L',lb,rv,e,d,h.turned hO e g,hO.mono (fun k hk=>Or.inl hk),fun k hk=>by
  rcases hk with hk | hk
  · rcases g k hk with hk | hk
    · exact Or.inl (Or.inl hk)
    · exact Or.inr hk
  · exact Or.inl (Or.inr hk),Or.inl rfl⟩
theorem vT0 {w0 wN:World}{a b c d:Value}{t:TypeId}(h:Below (w0.alloc (.cells #[a,b,c,d] t)).heap.size (w0.alloc (.cells #[a,b,c,d] t)) wN):wN.heap[w0.heap.size]?=some (.cells #[a,b,c,d] t (0,0))∧(wN.cell? ⟨w0.heap.size,0,none⟩=some a∧wN.cell? ⟨w0.heap.size,1,none⟩=some b∧wN.cell? ⟨w0.heap.size,2,none⟩=some c∧wN.cell? ⟨w0.heap.size,3,none⟩=some d)∧∀o,wN.frozen? ⟨w0.heap.size,o,none⟩=false:=by
 have hlt:w0.heap.size<(w0.alloc (.cells #[a,b,c,d] t)).heap.size:=by simp
 have hh:wN.heap[w0.heap.size]?=some (.cells #[a,b,c,d] t (0,0)):=by
  rw [h.block _ hlt]
  show (w0.heap.push _)[w0.heap.size]?=_
  simp
 exact ⟨hh,⟨by simp [World.cell?,hh],by simp [World.cell?,hh],by simp [World.cell?,hh],by simp [World.cell?,hh]⟩,fun o=>by simp [World.frozen?,hh]⟩
theorem xN3 {a w:World}{B:Nat}(h:Below B a w)(b:Nat)(hb:B≤b)(v0 v1 v2 v3:Value):Below B a ((((w.setCell ⟨b,0,none⟩ v0).setCell ⟨b,1,none⟩ v1).setCell ⟨b,2,none⟩ v2).setCell ⟨b,3,none⟩ v3):=
 (((h.setCell (p:=⟨b,0,none⟩) hb v0).setCell (p:=⟨b,1,none⟩) hb v1).setCell (p:=⟨b,2,none⟩) hb v2).setCell (p:=⟨b,3,none⟩) hb v3
theorem uE6 {w:World}{b:Nat}{a0 a1 a2 a3:Value}{t:TypeId}(h:w.heap[b]?=some (.cells #[a0,a1,a2,a3] t (0,0)))(v0 v1 v2 v3:Value):((((w.setCell ⟨b,0,none⟩ v0).setCell ⟨b,1,none⟩ v1).setCell ⟨b,2,none⟩ v2).setCell ⟨b,3,none⟩ v3).heap[b]?=some (.cells #[v0,v1,v2,v3] t (0,0)):=
 zA3 _ _ _ _ (zA3 _ _ _ _ (zA3 _ _ _ _ (zA3 _ _ _ _ h)))
theorem yC2 (w:World)(o:Obj):(w.alloc o).heap[w.heap.size]?=some o:=by
 show (w.heap.push _)[w.heap.size]?=_
 simp
theorem uP7 {D:DiskS}(h:(zC5 D).2=0):(zC5 D).1.down=false:=by
 unfold zC5 at h ⊢
 split at h
 · rename_i hn;exact absurd h hn
 · rename_i hn
   rw [if_neg hn]
   show (zI5 D).1.down=false
   unfold zI5 at hn ⊢
   split
   · rename_i hd;rw [if_pos hd] at hn;simp at hn
   · rename_i hd
     split
     · rename_i hf;rw [if_neg hd,if_pos hf] at hn;simp at hn
     · simpa using hd
theorem DAt.cells {ty tt:TypeId}{w:World}{L:Dk}{D:DiskS}(h:DAt ty tt w L D):∀k,L.foot k→∃o:Obj,w.heap[k]?=some o∧o.isCells=true:=by
 have own:∀ {e k n:Nat} {v:Value} {xs:List Value} {g:Nat},w.ownsRow 0 e k v n xs→v.ownBlock=some g→∃o:Obj,w.heap[g]?=some o∧o.isCells=true:=fun {e k n v xs g} ho hv=>by
  rcases ho.2 with ⟨rfl,_⟩ | ⟨g',cap,cur,rfl,_,hg,_⟩
  · cases hv
  · simp only [Value.ownBlock,Option.some.injEq] at hv
    subst hv
    exact ⟨_,hg,rfl⟩
 rintro k (rfl | rfl | rfl | hk)
 · exact ⟨_,h.box,rfl⟩
 · exact own h.kept rfl
 · exact own h.now rfl
 · exact own h.wait hk
structure PassZ (WC:World) (L:Dk) (G:Nat→Prop) (L' :Dk) (E:DiskS) (W:World):Prop where
 eq:L'.b=L.b
 d:DiskAt W L' E
 off:Off (fun k=>L.foot k∨G k) WC W
 grow:∀k,L'.foot k→L.foot k∨WC.heap.size≤k
theorem PassZ.own {WC:World}{L:Dk}{G:Nat→Prop}{L' :Dk}{E:DiskS}{W W' :World}{row:Option Nat}(h:PassZ WC L G L' E W)(hg:W.grownBy W' row)(hr:∀r,row=some r→WC.heap.size≤r∧∃o:Obj,W.heap[r]?=some o∧o.isCells=false):PassZ WC L G L' E W' :=by
 refine ⟨h.eq,h.d.keep fun k hk=>hg.block k (h.d.lt k hk) (fun e=>?_),⟨hg.os.trans h.off.os,hg.tape.trans h.off.tape,hg.output.trans h.off.output,Nat.le_trans h.off.size hg.size,fun k hk hn=>?_⟩,h.grow⟩
 · obtain ⟨o,ho,hc⟩:=h.d.cells k hk
   obtain ⟨_,o',ho',hc'⟩:=hr k e.symm
   rw [ho] at ho'
   cases ho'
   rw [hc] at hc'
   cases hc'
 · refine (hg.block k (Nat.lt_of_lt_of_le hk h.off.size) (fun e=>?_)).trans (h.off.block k hk hn)
   have:=(hr k e.symm).1
   omega
theorem xP6 {W W' :World}{row:Option Nat}{B k:Nat}{c:Array Value}{t:TypeId}{z:Nat × Nat}(h:W.heap[k]?=some (.cells c t z))(hg:W.grownBy W' row)(hr:∀r,row=some r→B≤r∧∃o:Obj,W.heap[r]?=some o∧o.isCells=false):W'.heap[k]?=some (.cells c t z):=by
 rw [hg.block k (Array.getElem?_eq_some_iff.1 h).1 (fun e=>?_)]
 · exact h
 · obtain ⟨_,o',ho',hc'⟩:=hr k e.symm
   rw [h] at ho'
   cases ho'
   cases hc'
theorem uD9 {F:Nat→Prop}{W W' :World}(h:Off F W W')(hF:∀k,F k→∃o:Obj,W.heap[k]?=some o∧o.isCells=true)(B:Nat):KeepsFrom B W W' :=
 ⟨h.size,fun k o _ hk hc=>by
  rw [h.block k (Array.getElem?_eq_some_iff.1 hk).1 (fun hf=>?_)]
  · exact hk
  · obtain ⟨o',ho',hc'⟩:=hF k hf
    rw [hk] at ho'
    cases ho'
    rw [hc] at hc'
    cases hc'⟩
theorem PassZ.next {WC W w3:World}{L L' L2:Dk}{G:Nat→Prop}{E E2:DiskS}(h:PassZ WC L G L' E W)(e:L2.b=L'.b)(d:DiskAt w3 L2 E2)(o:Off L'.foot W w3)(g:∀k,L2.foot k→L'.foot k∨W.heap.size≤k):PassZ WC L G L2 E2 w3:=
 ⟨e.trans h.eq,d,h.off.trans o (fun x hx hf=>by
  rcases h.grow x hf with h1 | h1
  · exact Or.inl h1
  · omega),fun k hk=>by
  rcases g k hk with h1 | h1
  · exact h.grow k h1
  · exact Or.inr (Nat.le_trans h.off.size h1)⟩
theorem PassZ.set {WC W:World}{L L' :Dk}{G G' :Nat→Prop}{E:DiskS}(h:PassZ WC L G L' E W)(b:Nat)(v:Value)(hb:¬L.foot b)(hl:b<WC.heap.size)(hG:∀k,G k→G' k)(hg:G' b):PassZ WC L G' L' E (W.setCell ⟨b,0,none⟩ v):=by
 have ho:Off (fun k=>k=b) W (W.setCell ⟨b,0,none⟩ v):=zA7 (F:=fun k=>k=b) W ⟨b,0,none⟩ rfl v
 refine ⟨h.eq,h.d.off ho (fun k hk e=>?_),(h.off.mono (fun k hk=>?_)).trans ho (fun x _ hx=>Or.inr (by rw [hx];exact hg)),h.grow⟩
 · have e:k=b:=e
   rcases h.grow k hk with h1 | h1
   · exact hb (e ▸ h1)
   · omega
 · rcases hk with hk | hk
   · exact Or.inl hk
   · exact Or.inr (hG k hk)
theorem PassZ.below {WC W W' :World}{L L' :Dk}{G:Nat→Prop}{E:DiskS}(h:PassZ WC L G L' E W)(hb:Below W.heap.size W W'):PassZ WC L G L' E W' :=
 ⟨h.eq,h.d.below hb,h.off.trans (zB7 hb (fun k=>L.foot k∨G k)) (fun _ _ hx=>hx),h.grow⟩
theorem offS4 {w V:World}{b:Nat}(h:Off (fun k=>k=b) w V)(v1 v2 v3 v4:Value):Off (fun k=>k=b) w ((((V.setCell ⟨b,1,none⟩ v1).setCell ⟨b,2,none⟩ v2).setCell ⟨b,3,none⟩ v3).setCell ⟨b,4,none⟩ v4):=
 (((h.trans (zA7 (F:=fun k=>k=b) _ ⟨b,1,none⟩ rfl v1) (fun _ _ h=>h)).trans (zA7 (F:=fun k=>k=b) _ ⟨b,2,none⟩ rfl v2) (fun _ _ h=>h)).trans (zA7 (F:=fun k=>k=b) _ ⟨b,3,none⟩ rfl v3) (fun _ _ h=>h)).trans (zA7 (F:=fun k=>k=b) _ ⟨b,4,none⟩ rfl v4) (fun _ _ h=>h)
theorem offS1 {w V:World}{b:Nat}(h:Off (fun k=>k=b) w V)(v:Value):Off (fun k=>k=b) w (V.setCell ⟨b,5,none⟩ v):=h.trans (zA7 (F:=fun k=>k=b) _ ⟨b,5,none⟩ rfl v) (fun _ _ h=>h)
theorem yP8 (F:Nat→Prop)(w:World):Off F w w.drew:=⟨rfl,rfl,rfl,Nat.le_refl _,fun _ _ _=>rfl⟩
theorem PassZ.left {w WC W:World}{sb lb many Dn:Nat}{L L' :Dk}{S:StS}{rv:Value}{G:Nat→Prop}{E:DiskS}(hs:StAt w sb lb L S many rv)(hb:Below w.heap.size w WC)(h:PassZ WC L G L' E W)(hG:∀k,G k→w.heap.size≤k)(hDn:WC.heap.size≤Dn)(hK:W.heap[Dn]?=some (.deferred (some []))):StoreTo w L lb sb rv many E S (W.putObj Dn (.deferred none)):=by
 have h2:=h.own (grownBy_putObj' W Dn (.deferred none)) (fun q e=>by cases e;exact ⟨hDn,_,hK,rfl⟩)
 refine StoreTo.same hs (vE3 (((zB7 hb L.foot).mono (fun k hk=>Or.inl hk)).trans h2.off (fun k hk hx=>?_))) h2.eq h2.d (fun k hk=>?_)
 · rcases hx with hx | hx
   · exact Or.inl hx
   · exact Or.inr (hG k hx)
 · rcases h2.grow k hk with h3 | h3
   · exact Or.inl h3
   · exact Or.inr (Nat.le_trans hb.size h3)
theorem PassZ.turned {w WC w9 W:World}{sb lb lb9 many Dn nx:Nat}{L L8:Dk}{S:StS}{rv:Value}{E:DiskS}{nh:Hd}{G:Nat→Prop}(hs:StAt w sb lb L S many rv)(hd:∀k,L.foot k→k<w.heap.size)(hb:Below w.heap.size w WC)(hw:w.heap.size+1<WC.heap.size)(h:PassZ WC L G L8 E w9)(hG:∀k,G k→w.heap.size≤k)
 (hl:LogAt w9 lb9 L8 26 many nh.first nx) (hlb:WC.heap.size≤lb9) (hlf:¬L8.foot lb9) (hDl:lb9≠Dn) (hDn:WC.heap.size≤Dn) (hDf:¬L8.foot Dn) (hO:Off (fun k=>k=sb∨k=Dn∨k=w.heap.size+1) w9 W)
 (hbox:W.heap[sb]?=some (.cells (yK5 L8 nh (.pointer (some ⟨lb9,0,none⟩)) rv) 143 (0,0))):StoreTo w L lb sb rv many E ⟨nh,nx,S.rows⟩ W:=by
 have hsl:=hs.lt
 have hsz:=hb.size
 have ho9:Off (fun k=>(L.foot k∨G k)∨k=sb∨k=Dn∨k=w.heap.size+1) WC W:=(h.off.mono (fun k hk=>Or.inl hk)).trans hO (fun k _ hk=>Or.inr hk)
 have hoff:Off (stF L lb sb) w W:=vE3 (((zB7 hb (fun k=>stF L lb sb k∨w.heap.size≤k))).trans ho9 (fun k hk hx=>by
  rcases hx with (hx | hx) | hx | hx | hx
  · exact Or.inl (Or.inl hx)
  · exact Or.inr (hG k hx)
  · exact Or.inl (Or.inr (Or.inr hx))
  · exact Or.inr (by omega)
  · exact Or.inr (by omega)))
 have hg8:∀k,L8.foot k→L.foot k∨WC.heap.size≤k:=h.grow
 have hgg:∀k,stF L8 lb9 sb k→stF L lb sb k∨w.heap.size≤k:=fun k hk=>by
  rcases hk with hk | hk | hk
  · rcases hg8 k hk with h1 | h1
    · exact Or.inl (Or.inl h1)
    · exact Or.inr (by omega)
  · exact Or.inr (by omega)
  · exact Or.inl (Or.inr (Or.inr hk))
 refine ⟨L8,lb9,rv,h.eq,h.d.off hO (fun k hk hx=>?_),⟨hbox,hl.off hO (fun hx=>?_) rfl,hs.rows.turned (by decide) hoff hgg,by omega,fun hf=>?_,hlf⟩,hoff,hgg,Or.inl rfl⟩
 · rcases hx with hx | hx | hx
   · rcases hg8 k hk with h1 | h1
     · exact hs.sf (hx ▸ h1)
     · omega
   · exact hDf (hx ▸ hk)
   · rcases hg8 k hk with h1 | h1
     · have:=hd k h1;omega
     · omega
 · rcases hx with hx | hx | hx <;> omega
 · rcases hg8 _ hf with h1 | h1
   · exact hs.sf h1
   · omega
theorem yD6 {W W2:World}{L:Dk}{D:DiskS}{Dn:Nat}{x:Obj}(h:DiskAt W L D)(ho:Off L.foot W W2)(hK:W.heap[Dn]?=some x)(hx:x.isCells=false):W2.heap[Dn]?=some x:=by
 rw [ho.block _ (Array.getElem?_eq_some_iff.1 hK).1 (fun hf=>?_)]
 · exact hK
 · obtain ⟨o,h1,h2⟩:=h.cells _ hf
   rw [hK] at h1
   cases h1
   rw [hx] at h2
   cases h2
def zN4 (p:Nat)(t:ByteArray):List Nat→Nat→DiskS→DiskS × Nat
 | [],_,D=>(D,0)
 | x::r,i,D=>zE8 (zB9 D ((p+i:Nat):Int) (zM1 t x)) (zN4 p t r (i+1))
theorem xR8 (a:DiskS × Nat)(f g:DiskS→DiskS × Nat):zE8 (zE8 a f) g=zE8 a (fun E=>zE8 (f E) g):=by
 obtain ⟨E,n⟩:=a
 by_cases h:n=0
 · subst h;rfl
 · rw [zM2 _ _ _ h,zM2 _ _ _ h,zM2 _ _ _ h]
theorem yC9 (p:Nat)(t:ByteArray)(ys:List Nat):∀(xs:List Nat) (i:Nat) (D:DiskS),zN4 p t (xs++ys) i D=zE8 (zN4 p t xs i D) (zN4 p t ys (i+xs.length))
 | [],i,D=>rfl
 | x::r,i,D=>by
  have ih:∀E,zN4 p t (r++ys) (i+1) E=zE8 (zN4 p t r (i+1) E) (zN4 p t ys (i+1+r.length)):=fun E=>yC9 p t ys r (i+1) E
  rw [List.cons_append,zN4,zN4,xR8,List.length_cons,show i+(r.length+1)=i+1+r.length by omega]
  congr 1
  funext E
  exact ih E
theorem vD7 (p:Nat)(t:ByteArray)(xs:List Nat)(x:Nat)(D:DiskS):zN4 p t (xs++ [x]) 0 D=zE8 (zN4 p t xs 0 D) (fun E=>zB9 E ((p+xs.length:Nat):Int) (zM1 t x)):=by
 rw [yC9,Nat.zero_add]
 congr 1
 funext E
 show zE8 (zB9 E ((p+xs.length:Nat):Int) (zM1 t x)) (fun E=>(E,0))=_
 obtain ⟨F,n⟩:=zB9 E ((p+xs.length:Nat):Int) (zM1 t x)
 by_cases h:n=0
 · subst h;rfl
 · rw [zM2 _ _ _ h]
theorem yR4 (p:Nat)(t:ByteArray):∀(k i:Nat) (D:DiskS),zT5 p t i k D=zN4 p t ((List.range k).map (fun j=>i+j)) i D
 | 0,_,_=>rfl
 | k+1,i,D=>by
  have hm:(List.range (k+1)).map (fun j=>i+j)=i::(List.range k).map (fun j=>i+1+j):=by
   rw [List.range_succ_eq_map,List.map_cons,List.map_map]
   simp only [Nat.add_zero,Function.comp_def,Nat.succ_eq_add_one,Nat.add_assoc,Nat.add_comm 1]
  rw [hm,zT5,zN4]
  congr 1
  funext E
  exact yR4 p t k (i+1) E
theorem yW9 (p:Nat)(t:ByteArray)(k:Nat)(D:DiskS):zT5 p t 0 k D=zN4 p t (List.range k) 0 D:=by
 rw [yR4]
 congr 1
 simp
theorem yX7 (sb lb:Nat)(L:Dk)(D:DiskS)(S:StS)(many:Nat)(rv:Value)(w:World)(hs:StAt w sb lb L S many rv)(h:DiskAt w L D)(hok:D.ok)(h40:∀s∈D.now,s.size=40)(hl:D.now.length=26+many)(hm1:1≤many)(hg:∀c∈S.rows,zA2 c=0)(hfew:S.rows.length≤12)(he:S.h.epoch≤1000000)(hsd:S.h.side≤1)(hf1:1≤S.h.first)(hf2:S.h.first≤100000000)(hwl:D.wait.length≤700000):
 Calls Tryz.prog 97 #[.pointer (some ⟨sb,0,none⟩)] w fun e w' =>e= .returned (zE6 (zQ7 many S D).2.2)∧StoreTo w L lb sb rv many (zQ7 many S D).1 (zQ7 many S D).2.1 w' :=by
 have hn60:=hok.few
 have HS:=hid hs
 have HD:=hid h
 have HOK:=hid hok
 have H40:=hid h40
 have HG:=hid hg
 obtain ⟨ro,rc,rfl,hrc,hrc'⟩:=hs.rows.rd.parts
 obtain ⟨⟨ep,sd,sz,fi⟩,nx,rows⟩:=S
 obtain ⟨FZ,hFZ⟩:∃x,x=zQ7 many ⟨⟨ep,sd,sz,fi⟩,nx,rows⟩ D:=⟨_,rfl⟩
 rw [←hFZ]
 have HFZ:=hid hFZ
 clear hFZ
 dsimp only at hg hfew he hsd hf1 hf2 hrc hrc'
 obtain ⟨W1,hW1⟩:∃W1,W1=(w.alloc (.cells #[.pointer (some ⟨sb,0,none⟩)] 78)).alloc (.cells #[.nilIface] 38):=⟨_,rfl⟩
 have hb1:Below w.heap.size w W1:=by rw [hW1];exact two (zA0 _ _) (zA0 _ _)
 have HP0:Hid (∀W,Below W1.heap.size W1 W→W.cell? ⟨w.heap.size,0,none⟩=some (.pointer (some ⟨sb,0,none⟩))):=hid (fun W hW=>zA1 hW (by rw [hW1];simp))
 have HBX:Hid (∀W,Below W1.heap.size W1 W→W.heap[sb]?=some (.cells (yK5 L ⟨ep,sd,sz,fi⟩ (.pointer (some ⟨lb,0,none⟩)) (.slice ro rows.length rc)) 143 (0,0))):=hid (fun W hW=>((hs.below hb1).below hW).box)
 have CA:=hid (vX0 _ rows W1 (hs.rows.rd.below hb1) hg (by omega))
 have HSL:=hid hs.lt
 have y6:∀o o',((w.alloc o).alloc o').cell? ⟨sb,6,none⟩=some (.slice ro rows.length rc):=fun o o' =>(zF6 (hs.below (two (zA0 w o) (zA0 _ o'))).box).2.2.2.2.2.2.1
 have HB1:=hid hb1
 have p0:=HP0.out W1 (Below.refl _ _)
 obtain ⟨c0,c1,c2,c3,c4,c5,c6,cf⟩:=zF6 (HBX.out W1 (Below.refl _ _))
 have hts:=zZ1 rows hg
 obtain ⟨t,ht⟩:∃t,t=zC8 rows:=⟨_,rfl⟩
 rw [←ht] at hts CA
 have HW1:=hid hW1
 have HT:=hid ht
 clear hs h hok h40 hg hW1 hb1 ht
 clear p0 c0 c1 c2 c3 c4 c5 c6 cf
 refine (callsIn_wide (n:=6)).1 ?_
 refine callsIn_of_wp_marks Tryz.func97 rfl trivial ?_ rfl
 refine (wpIn_wide (n:=6)).2 ?_
 simp only [Tryz.ntmps97,List.size_toArray,List.length_cons,List.length_nil,Nat.reduceAdd,Nat.reduceSub,Array.replicate_succ,Array.replicate_zero,List.push_toArray,List.append_toArray,List.nil_append,List.cons_append]
 go_wp2_with fail
 rw [show (w.alloc (.cells #[.pointer (some ⟨sb,0,none⟩)] 78)).alloc (.cells #[.nilIface] 38)=W1 from HW1.out.symm]
 refine CA.out.mono ?_
 rintro e w2 ⟨rfl,hb2⟩
 have HB2:=hid hb2
 have p0:=HP0.out w2 hb2
 obtain ⟨c0,c1,c2,c3,c4,c5,c6,cf⟩:=zF6 (HBX.out w2 hb2)
 clear hb2 y6
 go_upto_region 2 with fail
 go_cut [4] from 16 (fun s4 wx=>∃hb,s4= .pointer (some ⟨hb,0,none⟩)∧wx.heap[hb]?=some (.cells #[.int .i64 ((ep:Int)+1), .int .i64 (1 - (sd:Int)), .int .i64 t.size, .int .i64 ((fi:Int)+many)] 140 (0,0))∧w2.heap.size≤hb∧Below w2.heap.size w2 wx)
 case first=>
  have hw1:IntKind.i64.wrap ((ep:Int)+1)=(ep:Int)+1:=by rw [IntKind.wrap_i64];omega
  have hw2:IntKind.i64.wrap (1 - (sd:Int))=1 - (sd:Int):=by rw [IntKind.wrap_i64];omega
  have CN:Hid (∀W,Below w2.heap.size w2 W→Calls Tryz.prog 137 #[.pointer (some ⟨lb,0,none⟩)] W fun e w' =>e= .returned (.int .i64 ((fi:Int)+many))∧Below W.heap.size W w'):=hid (fun W hW=>uO1 lb L 26 many fi nx W (((HS.out.below HB1.out).below HB2.out).below hW).log (by omega) (by omega))
  have HSQ:Hid (∀W,Below w2.heap.size w2 W→W.cell? ⟨w.heap.size,0,none⟩=some (.pointer (some ⟨sb,0,none⟩))∧W.cell? ⟨sb,1,none⟩=some (.int .i64 ep)∧W.cell? ⟨sb,2,none⟩=some (.int .i64 sd)∧W.cell? ⟨sb,5,none⟩=some (.pointer (some ⟨lb,0,none⟩))):=hid (fun W hW=>⟨zA1 hW p0,zA1 hW c1,zA1 hW c2,zA1 hW c5⟩)
  go_region_held3 (fun W=>W.cell? ⟨w.heap.size,0,none⟩=some (.pointer (some ⟨sb,0,none⟩))∧W.cell? ⟨sb,1,none⟩=some (.int .i64 ep)∧W.cell? ⟨sb,2,none⟩=some (.int .i64 sd)∧W.cell? ⟨sb,5,none⟩=some (.pointer (some ⟨lb,0,none⟩)))
   (first
    | exact HSQ.out _ (Below.refl _ _).drew
    | exact HSQ.out _ (two (Below.refl _ _).drew (zA0 _ _))
    | exact HSQ.out _ (HBN:Hid _).out
    | exact HSQ.out _ (two (HBN:Hid _).out (zA0 _ _))
    | exact HSQ.out _ (xN3 (HBN:Hid _).out _ (Nat.le_refl _) _ _ _ _))
   (first
    | (go_at_call 137;refine (CN.out _ (by first | exact (Below.refl _ _).drew | exact two (Below.refl _ _).drew (zA0 _ _))).mono ?_;rintro e wN ⟨rfl,hbn⟩;have HBN:Hid (Below w2.heap.size w2 wN):=hid (two (by first | exact (Below.refl _ _).drew | exact two (Below.refl _ _).drew (zA0 _ _)) hbn);(try (have HAF:=hid (vT0 (two (Below.refl _ _).drew hbn));have z0:=HAF.out.2.1.1;have z1:=HAF.out.2.1.2.1;have z2:=HAF.out.2.1.2.2.1;have z3:=HAF.out.2.1.2.2.2;have zf:=HAF.out.2.2));clear hbn))
  · go_wp2_with fail
    go_meet
    exact ⟨wN.heap.size,rfl,yC2 _ _,HBN.out.size,two HBN.out (zA0 _ _)⟩
  · go_wp2_with fail
    go_meet
    exact ⟨w2.heap.size,rfl,uE6 HAF.out.1 _ _ _ _,Nat.le_refl _,xN3 HBN.out _ (Nat.le_refl _) _ _ _ _⟩
 case rest=>
 obtain ⟨hb,rfl,hhb,hhge,hbx⟩:=hcut
 have HHB:=hid hhb
 have HHG:=hid hhge
 have HXB:=hid (two HB2.out hbx)
 obtain ⟨cap,hcap⟩:∃c,c=grownCap (wc.alloc (.cells #[.int .i64 0] 3)) t.size 0 5:=⟨_,rfl⟩
 obtain ⟨WB,hWB⟩:∃W,W=(wc.alloc (.cells #[.int .i64 0] 3)).drew.alloc (.cells (bytesRow t cap) 5 ((bytesRow t cap).size,(bytesRow t cap).size+1)):=⟨_,rfl⟩
 have hcv:(convert 9 112 (.string t)).run Tryz.prog (wc.alloc (.cells #[.int .i64 0] 3))= .ok (.slice (some ⟨wc.heap.size+1,0,none⟩) t.size cap) WB:=by
  have hrc:=run_bytes_of_string (P:= Tryz.prog) (wc.alloc (.cells #[.int .i64 0] 3)) 9 112 5 t Tryz.underlying9 Tryz.underlying112 Tryz.underlying5
  rw [←hcap,←hWB,show (wc.alloc (.cells #[.int .i64 0] 3)).heap.size=wc.heap.size+1 by simp] at hrc
  exact hrc
 have hcap1:t.size≤cap:=by rw [hcap];exact grownCap_ge _ _ _ _
 have hcap2:cap≤9223372036854775807:=by
  have:=grownCap_le_maxLen (wc.alloc (.cells #[.int .i64 0] 3)) t.size 0 5 (by unfold maxLen;omega)
  rw [←hcap] at this
  unfold maxLen at this
  omega
 have HBB:Hid (Below wc.heap.size wc WB):=hid (by rw [hWB];exact two (zA0 _ _).drew (zA0 _ _))
 have HWB:=hid hWB
 clear hcap hWB hhb hhge hbx p0 c0 c1 c2 c3 c4 c5 c6 cf
 have CCH:=hid (vU6 (some ⟨wc.heap.size+1,0,none⟩) t.size cap WB)
 go_wp2_with fail
 refine CCH.out.mono ?_
 rintro e w5 ⟨rfl,rfl⟩
 go_wp2_with fail
 obtain ⟨WC,hWC⟩:∃W,W=(WB.alloc (.cells #[.slice (some ⟨wc.heap.size+1,0,none⟩) t.size cap] 112)).alloc (.cells #[.int .i64 40] 3):=⟨_,rfl⟩
 have hBs:WC.cell? ⟨WB.heap.size,0,none⟩=some (.slice (some ⟨wc.heap.size+1,0,none⟩) t.size cap):=by rw [hWC];simp
 have hBn:WC.cell? ⟨WB.heap.size+1,0,none⟩=some (.int .i64 40):=by rw [hWC];simp
 have HBC:Hid (Below wc.heap.size wc WC):=hid (by rw [hWC];exact two (two HBB.out (zA0 _ _)) (zA0 _ _))
 have hib:WC.heap[wc.heap.size]?=some (.cells #[.int .i64 ((([]:List Nat).length:Nat):Int)] 3 (0,0)):=by
  have h1:(wc.alloc (.cells #[.int .i64 0] 3)).heap[wc.heap.size]?=some (.cells #[.int .i64 0] 3 (0,0)):=yC2 _ _
  have hb1:Below (wc.alloc (.cells #[.int .i64 0] 3)).heap.size (wc.alloc (.cells #[.int .i64 0] 3)) WC:=by
   rw [hWC,HWB.out]
   exact two (two (two (Below.refl _ _).drew (zA0 _ _)) (zA0 _ _)) (zA0 _ _)
  rw [hb1.block _ (by simp)]
  exact h1
 have HIB:=hid hib
 have HWC:=hid hWC
 have hlt1:WB.heap.size+1<WC.heap.size:=by rw [hWC];simp
 have HLT1:=hid hlt1
 have HSTP:=hid (vH6 Fence.wide 5 trivial rfl (by omega) WB.heap.size (WB.heap.size+1) (wc.heap.size+1) t.size cap (by omega) hcap1 hcap2 WC hBs hBn)
 rw [←hWC]
 clear hib hWC hBs hBn hcv hlt1
 refine (wpIn_wide (n:=6)).1 ?_
 refine wpIn_rangeFunc_ownG (F:=Fence.wide) (n:=6) rfl (by omega) (gf:= 167) (lb:= #[.pointer (some ⟨WB.heap.size,0,none⟩), .pointer (some ⟨WB.heap.size+1,0,none⟩)]) rfl trivial (enters_of Tryz.func167 (by kernel_rfl) rfl) HSTP.out
  (fun {A B C} h1 h2=>⟨Nat.le_trans h1.1 h2.1,h2.2.1.trans h1.2.1,h2.2.2.trans h1.2.2⟩)
  (fun W l o o' hl ho _ _=>⟨by simp,World.putObj_heap_other (by have:=HLT1.out;omega),World.putObj_heap_other (by have:=HLT1.out;omega)⟩)
  (Below.refl _ _) (fun _=>rfl)
  (fun pre W=>∃E L',zN4 (2+(1 - sd) * 12) t pre 0 D=(E,0)∧PassZ WC L (fun k=>k=wc.heap.size) L' E W∧W.heap[wc.heap.size]?=some (.cells #[.int .i64 ((pre.length:Nat):Int)] 3 (0,0))∧E.ok∧E.wait.length≤D.wait.length+pre.length∧pre.length≤20)
  (fun c pre W=>c= .ret∧∃E L' m,m≠0∧zN4 (2+(1 - sd) * 12) t pre 0 D=(E,m)∧PassZ WC L (fun k=>k=wc.heap.size∨k=w.heap.size+1) L' E W∧W.heap[w.heap.size+1]?=some (.cells #[zE6 m] 38 (0,0)))
  (fun pre W W' row ⟨E,L',h1,h2,h3,h4⟩ hg hr=>⟨E,L',h1,h2.own hg hr,xP6 h3 hg hr,h4⟩)
  (fun c pre W W' row ⟨hc,E,L',m,h0,h1,h2,h3⟩ hg hr=>⟨hc,E,L',m,h0,h1,h2.own hg hr,xP6 h3 hg hr⟩)
  ⟨D,L,rfl,⟨rfl,HD.out.below (two HB1.out (two HXB.out HBC.out)),Off.refl _ _,fun k hk=>Or.inl hk⟩,HIB.out,HOK.out,Nat.le_refl _,Nat.zero_le _⟩
  (fun x=> { tmps:= #[.pointer (some ⟨sb,0,none⟩), .pointer (some ⟨w.heap.size,0,none⟩), .pointer (some ⟨w.heap.size+1,0,none⟩), .string t, .pointer (some ⟨hb,0,none⟩), .pointer (some ⟨wc.heap.size,0,none⟩),yV6 (wc.heap.size+1) t.size x,undef,undef,undef,undef, .pointer (some ⟨sb,0,none⟩), .pointer (some ⟨sb,0,none⟩), .pointer (some ⟨sb,6,none⟩), .slice ro rows.length rc, .string t,u16,u17,u18,u19,u20,u21,u22,u23,u24,u25,u26,u27,u28,u29,u30,u31,u32,u33,u34,u35, .string t, .slice (some ⟨wc.heap.size+1,0,none⟩) t.size cap, .func (.func 167) #[] #[.pointer (some ⟨WB.heap.size,0,none⟩), .pointer (some ⟨WB.heap.size+1,0,none⟩)],yV6 (wc.heap.size+1) t.size x,u40,u41,u42,u43,u44,u45,u46,u47,u48,u49,u50,u51,u52,u53,u54,u55,u56,u57,u58,u59,u60,u61,u62,u63,u64,u65,u66,u67,u68,u69,u70,u71,u72,u73,u74,u75,u76,u77,u78,u79,u80,u81,u82,u83,u84,u85,u86,u87,u88,u89,u90,u91,u92,u93,u94,u95,u96,u97,u98,u99,u100,u101,u102,u103,u104,u105,u106,u107,u108,u109,u110,u111,u112],defers:= [] }) ?assign ?body ?done ?stop
 case assign=>
  intro l x W K hK
  simp only [yV6] at hK ⊢
  gi_wp2
  exact hK
 case body=>
  rintro l pre x W ⟨E,L',hp,hps,hib,hok,hwt,hpl⟩ hlt
  have hcn:yU4 t.size≤12:=by unfold yU4;omega
  have HPSS:=hid hps
  have HIBW:=hid hib
  have hsf:=HS.out.sf
  have hslt:=HSL.out
  have hwcs:w.heap.size+2≤wc.heap.size∧wc.heap.size+2≤WB.heap.size:=by
   have h1:=HXB.out.size
   have h2:W1.heap.size=w.heap.size+2:=by rw [HW1.out];simp
   have h3:WB.heap.size=wc.heap.size+2:=by rw [HWB.out];simp
   omega
  have HWS:=hid hwcs
  -- what lay ahead of the range, read in W
  have hat:∀k o v,WC.cell? ⟨k,o,none⟩=some v→¬L.foot k→k≠wc.heap.size→W.cell? ⟨k,o,none⟩=some v:=fun k o v hv h1 h2=>hps.off.cell hv (fun h=>by
   rcases h with h | h
   · exact h1 h
   · exact h2 h)
  have hfl:∀k,L.foot k→k<w.heap.size:=HD.out.lt
  have hbxc:WC.heap[sb]?=some (.cells (yK5 L ⟨ep,sd,sz,fi⟩ (.pointer (some ⟨lb,0,none⟩)) (.slice ro rows.length rc)) 143 (0,0)):=HBX.out WC (two HXB.out HBC.out)
  have hhbc:WC.heap[hb]?=some (.cells #[.int .i64 ((ep:Int)+1), .int .i64 (1 - (sd:Int)), .int .i64 t.size, .int .i64 ((fi:Int)+many)] 140 (0,0)):=by rw [HBC.out.block _ (Array.getElem?_eq_some_iff.1 HHB.out).1];exact HHB.out
  have hhbl:w.heap.size+2≤hb∧hb<wc.heap.size:=⟨by have h1:=HHG.out;have h2:=HB2.out.size;have h3:W1.heap.size=w.heap.size+2:=by rw [HW1.out];simp
                                                  omega,(Array.getElem?_eq_some_iff.1 HHB.out).1⟩
  have p0:W.cell? ⟨w.heap.size,0,none⟩=some (.pointer (some ⟨sb,0,none⟩)):=hat _ _ _ (HP0.out WC (two HXB.out HBC.out)) (fun h=>by have:=hfl _ h;omega) (by omega)
  have c0:W.cell? ⟨sb,0,none⟩=some (.pointer (some ⟨L.b,0,none⟩)):=hat _ _ _ (zF6 hbxc).1 hsf (by omega)
  have c1:W.cell? ⟨hb,1,none⟩=some (.int .i64 (1 - (sd:Int))):=hat _ _ _ (by simp [World.cell?,hhbc]) (fun h=>by have:=hfl _ h;omega) (by omega)
  have c2:W.cell? ⟨wc.heap.size,0,none⟩=some (.int .i64 ((pre.length:Nat):Int)):=by simp [World.cell?,hib]
  have cf2:W.frozen? ⟨wc.heap.size,0,none⟩=false:=by simp [World.frozen?,hib]
  have hw1e:W1.heap[w.heap.size+1]?=some (.cells #[.nilIface] 38 (0,0)):=by
   have:=yC2 (w.alloc (.cells #[.pointer (some ⟨sb,0,none⟩)] 78)) (.cells #[.nilIface] 38)
   rw [←HW1.out] at this
   have e:(w.alloc (.cells #[.pointer (some ⟨sb,0,none⟩)] 78)).heap.size=w.heap.size+1:=by simp
   rw [e] at this
   exact this
  have hce:W.heap[w.heap.size+1]?=some (.cells #[.nilIface] 38 (0,0)):=by
   rw [hps.off.block (w.heap.size+1) (by have:=HLT1.out;omega) (fun h=>by
    rcases h with h | h
    · have:=hfl _ h;omega
    · have h9:w.heap.size+1=wc.heap.size:=h;omega),(two HXB.out HBC.out).block _ (Array.getElem?_eq_some_iff.1 hw1e).1]
   exact hw1e
  have HCE:=hid hce
  clear hw1e hce
  have ce:W.cell? ⟨w.heap.size+1,0,none⟩=some .nilIface:=hat _ _ _ ((zA1 (two HXB.out HBC.out) (by rw [HW1.out];simp))) (fun h=>by have:=hfl _ h;omega) (by omega)
  have cby:∀j (hj:j<t.size),W.cell? ⟨wc.heap.size+1,j,none⟩=some (.int .u8 (t.data.toList[j]'(by rw [zI7];exact hj)).toNat):=fun j hj=>by
   refine hat _ _ _ ?_ (fun h=>by have:=hfl _ h;omega) (by omega)
   have hwb:WB.heap[wc.heap.size+1]?=some (.cells (bytesRow t cap) 5 ((bytesRow t cap).size,(bytesRow t cap).size+1)):=by
    have:=yC2 (wc.alloc (.cells #[.int .i64 0] 3)).drew (.cells (bytesRow t cap) 5 ((bytesRow t cap).size,(bytesRow t cap).size+1))
    rw [←HWB.out] at this
    have e:(wc.alloc (.cells #[.int .i64 0] 3)).drew.heap.size=wc.heap.size+1:=by show (wc.alloc (.cells #[.int .i64 0] 3)).heap.size=_;simp
    rw [e] at this
    exact this
   have hwc2:WC.heap[wc.heap.size+1]?=WB.heap[wc.heap.size+1]?:=by
    rw [HWC.out]
    exact (two (zA0 _ _) (zA0 _ _)).block _ (Array.getElem?_eq_some_iff.1 hwb).1
   have hrow:=bytesRow_at t cap j hj
   simp only [World.cell?,hwc2,hwb]
   rw [hrow]
   simp
  have hnf:∀k,w.heap.size≤k→k<WC.heap.size→¬L'.foot k:=fun k h1 h2 hf=>by
   rcases hps.grow k hf with h | h
   · have:=hfl k h;omega
   · omega
  have hconv:∀W' :World,Off L'.foot W W' →(convert 112 9 (.slice (some ⟨wc.heap.size+1,40 * x,none⟩) (min 40 (t.size - 40 * x)) (min 40 (t.size - 40 * x)))).run Tryz.prog W' = .ok (.string (zM1 t x)) W' :=fun W' hW' =>by
   have hdl:(zM1 t x).data.toList.length=min 40 (t.size - 40 * x):=by
    rw [zI7]
    unfold zM1
    rw [ByteArray.size_extract]
    omega
   have:=run_convert_bytes_back (P:= Tryz.prog) W' 112 9 5 ⟨wc.heap.size+1,40 * x,none⟩ (min 40 (t.size - 40 * x)) (zM1 t x).data.toList Tryz.underlying112 Tryz.underlying5 Tryz.underlying9 (fun j hj=>by
    have hj2:40 * x+j<t.size:=by rw [hdl] at hj;omega
    rw [Addr.add_lit,hW'.cell (cby _ hj2) (hnf _ (by omega) (by have:=HLT1.out;omega))]
    simp only [zM1,zH6]
    rw [List.getElem_drop,List.getElem_take])
   rw [hdl] at this
   exact this
  obtain ⟨ch,hch⟩:∃c,c=zM1 t x:=⟨_,rfl⟩
  rw [←hch] at hconv
  have hcs:ch.size≤40:=by rw [hch];exact yN2 t x
  have hpc:(((2+(1 - sd) * 12+pre.length:Nat)):Int)=2+(1 - (sd:Int)) * 12+(pre.length:Int):=by omega
  have hsn:=vD7 (2+(1 - sd) * 12) t pre x D
  rw [hp,zZ5,←hch] at hsn
  have CW:=fun (W' :World) (hW' :Below W.heap.size W W')=>zN1 L' E (((2+(1 - sd) * 12+pre.length:Nat)):Int) ch W' (hps.d.below hW') hok (by omega)
  have hw1:=hok.write (((2+(1 - sd) * 12+pre.length:Nat)):Int) ch
  have hw3:=zO6 E (((2+(1 - sd) * 12+pre.length:Nat)):Int) ch
  obtain ⟨⟨E2,m⟩,hq⟩:∃q,q=zB9 E (((2+(1 - sd) * 12+pre.length:Nat)):Int) ch:=⟨_,rfl⟩
  rw [←hq] at CW hsn hw1 hw3
  have HCW:Hid (∀W',Below W.heap.size W W' →Calls Tryz.prog 8 #[.pointer (some ⟨L.b,0,none⟩), .int .i64 (2+(1 - (sd:Int)) * 12+(pre.length:Int)), .string ch] W' fun e w' =>e= .returned (zE6 m)∧Turned 72 75 W' L' E2 w'):=hid (fun W' hW' =>by
   have:=CW W' hW'
   rw [hps.eq,hpc] at this
   exact this)
  have HSN:=hid hsn
  have HE2:Hid (E2.ok∧E2.wait.length≤D.wait.length+(pre.length+1)):=hid ⟨hw1,by have h5:E2.wait.length≤E.wait.length+1:=hw3;omega⟩
  have hwr1:IntKind.i64.wrap ((1 - (sd:Int)) * 12)=(1 - (sd:Int)) * 12:=by rw [IntKind.wrap_i64];omega
  have hwr2:IntKind.i64.wrap (2+(1 - (sd:Int)) * 12)=2+(1 - (sd:Int)) * 12:=by rw [IntKind.wrap_i64];omega
  have hwr3:IntKind.i64.wrap (2+(1 - (sd:Int)) * 12+(pre.length:Int))=2+(1 - (sd:Int)) * 12+(pre.length:Int):=by rw [IntKind.wrap_i64];omega
  have HFL:=hid hfl
  have HHBL:=hid hhbl
  have HSQ:Hid (∀W' :World,Off L'.foot W W' →W'.cell? ⟨w.heap.size,0,none⟩=some (.pointer (some ⟨sb,0,none⟩))∧W'.cell? ⟨sb,0,none⟩=some (.pointer (some ⟨L.b,0,none⟩))∧W'.cell? ⟨hb,1,none⟩=some (.int .i64 (1 - (sd:Int)))∧W'.cell? ⟨wc.heap.size,0,none⟩=some (.int .i64 ((pre.length:Nat):Int))∧(convert 112 9 (.slice (some ⟨wc.heap.size+1,40 * x,none⟩) (min 40 (t.size - 40 * x)) (min 40 (t.size - 40 * x)))).run Tryz.prog W' = .ok (.string ch) W'):=hid (fun W' hW' =>⟨hW'.cell p0 (hnf _ (by omega) (by have:=HLT1.out;omega)),hW'.cell c0 (fun hf=>by
   rcases hps.grow _ hf with h | h
   · exact hsf h
   · have:=HLT1.out;omega),hW'.cell c1 (hnf _ (by omega) (by have:=HLT1.out;omega)),hW'.cell c2 (hnf _ (by omega) (by have:=HLT1.out;omega)),hconv W' hW'⟩)
  have HNF:=hid hnf
  clear hconv hch hcs hpc hsn CW hw1 hw3 hq hp hps hib hat hfl hbxc hhbc cby hok hsf hhbl hnf
  simp only [yV6]
  gi_wp2
  refine xC1 (S:=fun W=>W.cell? ⟨w.heap.size,0,none⟩=some (.pointer (some ⟨sb,0,none⟩))∧W.cell? ⟨sb,0,none⟩=some (.pointer (some ⟨L.b,0,none⟩))∧W.cell? ⟨hb,1,none⟩=some (.int .i64 (1 - (sd:Int)))∧W.cell? ⟨wc.heap.size,0,none⟩=some (.int .i64 ((pre.length:Nat):Int))∧(convert 112 9 (.slice (some ⟨wc.heap.size+1,40 * x,none⟩) (min 40 (t.size - 40 * x)) (min 40 (t.size - 40 * x)))).run Tryz.prog W= .ok (.string ch) W) (by kernel_rfl) (by kernel_rfl) (fun ⟨a,w,h⟩=>h) (HSQ.out _ ⟨rfl,rfl,rfl,Nat.le_refl _,fun _ _ _=>rfl⟩) (fun hHeld=>?_)
  refine wpAnyH_take (i:=0) (v:=?v0) rfl (by kernel_rfl) (by kernel_rfl) (by kernel_rfl) (fun _ _ _ h=>h) (Or.inl ⟨by rfl,?y0⟩) (by assumption) ?r0
  case y0=>(intro w hSw;(try dsimp only at hSw);go_simp;(try with_reducible rfl))
  (try simp only [Act.put,List.setIfInBounds_toArray,List.set_cons_zero,List.set_cons_succ,List.getElem_toArray,List.getElem_cons_zero,List.getElem_cons_succ])
  refine wpAnyH_take (i:=1) (v:=?v1) rfl (by kernel_rfl) (by kernel_rfl) (by kernel_rfl) (fun _ _ _ h=>h) (Or.inl ⟨by rfl,?y1⟩) (by assumption) ?r1
  case y1=>(intro w hSw;(try dsimp only at hSw);go_simp;(try with_reducible rfl))
  (try simp only [Act.put,List.setIfInBounds_toArray,List.set_cons_zero,List.set_cons_succ,List.getElem_toArray,List.getElem_cons_zero,List.getElem_cons_succ])
  refine wpAnyH_take (i:=2) (v:=?v2) rfl (by kernel_rfl) (by kernel_rfl) (by kernel_rfl) (fun _ _ _ h=>h) (Or.inl ⟨by rfl,?y2⟩) (by assumption) ?r2
  case y2=>(intro w hSw;(try dsimp only at hSw);go_simp;(try with_reducible rfl))
  (try simp only [Act.put,List.setIfInBounds_toArray,List.set_cons_zero,List.set_cons_succ,List.getElem_toArray,List.getElem_cons_zero,List.getElem_cons_succ])
  refine wpAnyH_take (i:=3) (v:=?v3) rfl (by kernel_rfl) (by kernel_rfl) (by kernel_rfl) (fun _ _ _ h=>h) (Or.inl ⟨by rfl,?y3⟩) (by assumption) ?r3
  case y3=>(intro w hSw;(try dsimp only at hSw);go_simp;(try with_reducible rfl))
  (try simp only [Act.put,List.setIfInBounds_toArray,List.set_cons_zero,List.set_cons_succ,List.getElem_toArray,List.getElem_cons_zero,List.getElem_cons_succ])
  refine wpAnyH_take (i:=4) (v:=?v4) rfl (by kernel_rfl) (by kernel_rfl) (by kernel_rfl) (fun _ _ _ h=>h) (Or.inl ⟨by rfl,?y4⟩) (by assumption) ?r4
  case y4=>(intro w hSw;(try dsimp only at hSw);go_simp;(try with_reducible rfl))
  (try simp only [Act.put,List.setIfInBounds_toArray,List.set_cons_zero,List.set_cons_succ,List.getElem_toArray,List.getElem_cons_zero,List.getElem_cons_succ])
  refine wpAnyH_take (i:=5) (v:=?v5) rfl (by kernel_rfl) (by kernel_rfl) (by kernel_rfl) (fun _ _ _ h=>h) (Or.inl ⟨by rfl,?y5⟩) (by assumption) ?r5
  case y5=>(intro w hSw;(try dsimp only at hSw);go_simp;(try with_reducible rfl))
  (try simp only [Act.put,List.setIfInBounds_toArray,List.set_cons_zero,List.set_cons_succ,List.getElem_toArray,List.getElem_cons_zero,List.getElem_cons_succ])
  refine wpAnyH_take (i:=6) (v:=?v6) rfl (by kernel_rfl) (by kernel_rfl) (by kernel_rfl) (fun _ _ _ h=>h) (Or.inl ⟨by rfl,?y6⟩) (by assumption) ?r6
  case y6=>(intro w hSw;(try dsimp only at hSw);go_simp;(try with_reducible rfl))
  (try simp only [Act.put,List.setIfInBounds_toArray,List.set_cons_zero,List.set_cons_succ,List.getElem_toArray,List.getElem_cons_zero,List.getElem_cons_succ])
  refine wpAnyH_take (i:=7) (v:=?v7) rfl (by kernel_rfl) (by kernel_rfl) (by kernel_rfl) (fun _ _ _ h=>h) (Or.inl ⟨by rfl,?y7⟩) (by assumption) ?r7
  case y7=>(intro w hSw;(try dsimp only at hSw);go_simp;(try with_reducible rfl))
  (try simp only [Act.put,List.setIfInBounds_toArray,List.set_cons_zero,List.set_cons_succ,List.getElem_toArray,List.getElem_cons_zero,List.getElem_cons_succ])
  refine wpAnyH_take (i:=8) (v:=?v8) rfl (by kernel_rfl) (by kernel_rfl) (by kernel_rfl) (fun _ _ _ h=>h) (Or.inl ⟨by rfl,?y8⟩) (by assumption) ?r8
  case y8=>(intro w hSw;(try dsimp only at hSw);go_simp;(try with_reducible rfl))
  (try simp only [Act.put,List.setIfInBounds_toArray,List.set_cons_zero,List.set_cons_succ,List.getElem_toArray,List.getElem_cons_zero,List.getElem_cons_succ])
  refine wpAnyH_take (i:=9) (v:=?v9) rfl (by kernel_rfl) (by kernel_rfl) (by kernel_rfl) (fun _ _ _ h=>h) (Or.inl ⟨by rfl,?y9⟩) (by assumption) ?r9
  case y9=>(intro w hSw;(try dsimp only at hSw);go_simp;(try with_reducible rfl))
  (try simp only [Act.put,List.setIfInBounds_toArray,List.set_cons_zero,List.set_cons_succ,List.getElem_toArray,List.getElem_cons_zero,List.getElem_cons_succ])
  refine wpAnyH_take (i:=10) (v:=?v10) rfl (by kernel_rfl) (by kernel_rfl) (by kernel_rfl) (fun _ _ _ h=>h) (Or.inl ⟨by rfl,?y10⟩) (by assumption) ?r10
  case y10=>(intro w hSw;(try dsimp only at hSw);go_simp;(try with_reducible rfl))
  (try simp only [Act.put,List.setIfInBounds_toArray,List.set_cons_zero,List.set_cons_succ,List.getElem_toArray,List.getElem_cons_zero,List.getElem_cons_succ])
  refine wpAnyH_take (i:=11) (v:=?v11) rfl (by kernel_rfl) (by kernel_rfl) (by kernel_rfl) (fun _ _ _ h=>h) (Or.inl ⟨by rfl,?y11⟩) (by assumption) ?r11
  case y11=>(intro w hSw;(try dsimp only at hSw);go_simp;(try with_reducible rfl))
  (try simp only [Act.put,List.setIfInBounds_toArray,List.set_cons_zero,List.set_cons_succ,List.getElem_toArray,List.getElem_cons_zero,List.getElem_cons_succ])
  refine wpAnyH_ready (rs:= [12]) (by kernel_rfl) (by simp) ?_
  refine AllReadyH.cons rfl (fun K hK=>?_) AllReadyH.nil
  go_simp
  refine (HCW.out _ (Below.refl _ _).drew).mono ?_
  rintro e w3 ⟨rfl,ht⟩
  obtain ⟨L2,e2,d2,o2,g2⟩:=ht
  have hof:Off L'.foot W w3:=⟨o2.os,o2.tape,o2.output,o2.size,o2.block⟩
  have g2' :∀k,L2.foot k→L'.foot k∨W.heap.size≤k:=g2
  have HOF:=hid hof
  have HPN:=hid (HPSS.out.next e2 d2 hof g2')
  refine hK.out _ _ (HSQ.out _ hof) (fun hHeld2=>?_)
  clear hK K e2 d2 o2 g2 g2'
  (try simp only [Act.put,List.setIfInBounds_toArray,List.set_cons_zero,List.set_cons_succ,List.getElem_toArray,List.getElem_cons_zero,List.getElem_cons_succ])
  refine wpAnyH_take (i:=13) (v:=?v13) rfl (by kernel_rfl) (by kernel_rfl) (by kernel_rfl) (fun _ _ _ h=>h) (Or.inl ⟨by rfl,?y13⟩) (by assumption) ?r13
  case y13=>(intro w hSw;(try dsimp only at hSw);go_simp;(try with_reducible rfl))
  (try simp only [Act.put,List.setIfInBounds_toArray,List.set_cons_zero,List.set_cons_succ,List.getElem_toArray,List.getElem_cons_zero,List.getElem_cons_succ])
  refine wpAnyH_done (by kernel_rfl) ?_ _
  have hib3:w3.heap[wc.heap.size]?=some (.cells #[.int .i64 ((pre.length:Nat):Int)] 3 (0,0)):=by
   rw [hof.block _ (Array.getElem?_eq_some_iff.1 HIBW.out).1 (HNF.out _ (by omega) (by have:=HLT1.out;omega))]
   exact HIBW.out
  have q2:w3.cell? ⟨wc.heap.size,0,none⟩=some (.int .i64 ((pre.length:Nat):Int)):=by simp [World.cell?,hib3]
  have qf:w3.frozen? ⟨wc.heap.size,0,none⟩=false:=by simp [World.frozen?,hib3]
  have HIB3:=hid hib3
  have hce3:w3.heap[w.heap.size+1]?=some (.cells #[.nilIface] 38 (0,0)):=by
   rw [hof.block _ (Array.getElem?_eq_some_iff.1 HCE.out).1 (HNF.out _ (by omega) (by have:=HLT1.out;omega))]
   exact HCE.out
  have r2:w3.cell? ⟨w.heap.size+1,0,none⟩=some .nilIface:=by simp [World.cell?,hce3]
  have rf:w3.frozen? ⟨w.heap.size+1,0,none⟩=false:=by simp [World.frozen?,hce3]
  have HCE3:=hid hce3
  have hbs:∀(b:Nat) (v:Value),w.heap.size+1≤b→b≤wc.heap.size→(∃c t,W.heap[b]?=some (.cells c t (0,0)))→KeepsFrom WC.heap.size W (w3.setCell ⟨b,0,none⟩ v)∧xE0 WB.heap.size (WB.heap.size+1) W (w3.setCell ⟨b,0,none⟩ v):=fun b v h1 h2 ⟨c,ty,hc⟩=>by
   have ho:Off (fun k=>L'.foot k∨k=b) W (w3.setCell ⟨b,0,none⟩ v):=(hof.mono (fun k hk=>Or.inl hk)).trans (zA7 (F:=fun k=>k=b) w3 ⟨b,0,none⟩ rfl v) (fun k _ hk=>Or.inr hk)
   have hsW:WC.heap.size≤W.heap.size:=HPSS.out.off.size
   have hl1:=HLT1.out
   have hwb:WB.heap.size=wc.heap.size+2:=by rw [HWB.out];simp
   refine ⟨uD9 ho (fun k hk=>?_) _,ho.size,ho.block _ (by omega) (fun hk=>?_),ho.block _ (by omega) (fun hk=>?_)⟩
   · rcases hk with hk | hk
     · exact HPSS.out.d.cells k hk
     · exact ⟨_,hk ▸ hc,rfl⟩
   · rcases hk with hk | hk
     · exact HNF.out _ (by omega) (by omega) hk
     · omega
   · rcases hk with hk | hk
     · exact HNF.out _ (by omega) (by omega) hk
     · omega
  have HBS:=hid hbs
  clear hib3 p0 c0 c1 c2 cf2 ce hHeld hHeld2 hce3 hof hbs
  have hfw:¬L.foot wc.heap.size:=fun h=>by have:=HFL.out _ h;omega
  have hfe:¬L.foot (w.heap.size+1):=fun h=>by have:=HFL.out _ h;omega
  have HFW:=hid hfw
  have HFE:=hid hfe
  have hwi:IntKind.i64.wrap ((pre.length:Int)+1)=(pre.length:Int)+1:=by rw [IntKind.wrap_i64];omega
  clear hfw hfe
  by_cases hm0:m=0
  · subst hm0
    rw [zD2]
    gi_wp2
    refine ⟨(HBS.out _ _ (by omega) (Nat.le_refl _) ⟨_,_,HIBW.out⟩).1,(HBS.out _ _ (by omega) (Nat.le_refl _) ⟨_,_,HIBW.out⟩).2,E2,L2,HSN.out,HPN.out.set _ _ HFW.out (by have:=HLT1.out;omega) (fun _ h=>h) rfl,?_,HE2.out.1,by rw [List.length_append];exact HE2.out.2,by rw [List.length_append];simp;omega⟩
    have:=zA3 w3 wc.heap.size 0 (.int .i64 ((pre.length:Int)+1)) HIB3.out
    rw [this]
    simp
  · rw [zA5 hm0]
    gi_wp2
    refine ⟨(HBS.out _ _ (Nat.le_refl _) (by omega) ⟨_,_,HCE.out⟩).1,rfl,E2,L2,m,hm0,HSN.out,HPN.out.set _ _ HFE.out (by have:=HLT1.out;omega) (fun _ h=>Or.inl h) (Or.inr rfl),?_⟩
    have:=zA3 w3 (w.heap.size+1) 0 (.iface 73 (.int .i64 m)) HCE3.out
    rw [this,zA5 hm0]
    rfl
 case stop=>
  rintro Dn c pre W hDn ⟨r,hpre⟩ ⟨rfl,E,L',m,hm,hp,hps,he0⟩ hK
  have hch:zT5 (2+(1 - sd) * 12) t 0 (yU4 t.size) D=(E,m):=by rw [yW9,←hpre,yC9,hp,zM2 _ _ _ hm]
  have hfz:FZ=(E,⟨⟨ep,sd,sz,fi⟩,nx,rows⟩,m):=by
   rw [HFZ.out]
   unfold zQ7 yL3
   simp only []
   rw [←HT.out,hch,zM2 _ _ _ hm,zM2 _ _ _ hm,zM2 _ _ _ hm]
   rw [if_pos hm]
  have hwW:Off L.foot w WC:=zB7 (two HB1.out (two HXB.out HBC.out)) _
  have hl1:=HLT1.out
  have h22:=HXB.out.size
  have hsz1:W1.heap.size=w.heap.size+2:=by rw [HW1.out];simp
  have h33:WB.heap.size=wc.heap.size+2:=by rw [HWB.out];simp
  have hps2:=hps.own (grownBy_putObj' W Dn (.deferred none)) (fun q e=>by cases e;exact ⟨hDn,_,hK,rfl⟩)
  have he2:=xP6 he0 (grownBy_putObj' W Dn (.deferred none)) (B:=WC.heap.size) (fun q e=>by cases e;exact ⟨hDn,_,hK,rfl⟩)
  have hof:Off L.foot w (W.putObj Dn (.deferred none)):=vE3 ((hwW.mono (fun k hk=>Or.inl hk)).trans hps2.off (fun k hk hx=>by
   rcases hx with hx | hx | hx
   · exact Or.inl hx
   · exact Or.inr (by rw [hx];omega)
   · exact Or.inr (by rw [hx];omega)))
  have HOF:=hid hof
  have HGR:Hid (∀k,L'.foot k→L.foot k∨w.heap.size≤k):=hid (fun k hk=>by
   rcases hps2.grow k hk with h | h
   · exact Or.inl h
   · exact Or.inr (by omega))
  have HPS2:=hid hps2
  have HE2:=hid he2
  clear hp hps he0 hch hwW hps2 hof
  subst hfz
  have hce2:(W.putObj Dn (.deferred none)).cell? ⟨w.heap.size+1,0,none⟩=some (zE6 m):=by simp only [World.cell?,HE2.out];rfl
  gi_wp2
  refine ⟨by simp, .inl ⟨_,_,rfl,run_takeDeferred hK,?_⟩⟩
  refine ⟨zE6 m,?_,rfl,StoreTo.same HS.out HOF.out HPS2.out.eq HPS2.out.d HGR.out⟩
  simp [results, Tryz.results97,go_sem,hce2]
 case done=>
  rintro Dn ys W hDn rfl ⟨E,L',hp,hps,hib,hok,hwt,hpl⟩ hK
  have hch:zT5 (2+(1 - sd) * 12) t 0 (yU4 t.size) D=(E,0):=by rw [yW9];exact hp
  obtain ⟨nh,hnh⟩:∃x,x=yM2 ⟨ep,sd,sz,fi⟩ many t.size:=⟨_,rfl⟩
  obtain ⟨pz,hpz⟩:∃x,x=zE8 (zE8 (zC5 E) (fun E=>zB9 E (((ep+1) % 2:Nat):Int) (zD8 nh))) zC5:=⟨_,rfl⟩
  have hfz:FZ=if pz.2≠0 then (pz.1,⟨⟨ep,sd,sz,fi⟩,nx,rows⟩,pz.2) else (pz.1,⟨nh,(zC4 nh.first (zB1 pz.1 26 many) 0 [] [] 0).2,rows⟩,0):=by
   rw [HFZ.out]
   unfold zQ7 yL3
   simp only []
   rw [←HT.out,hch,zZ5,←hnh,←hpz]
  have hcz:yL3 many ⟨ep,sd,sz,fi⟩ rows D=pz:=by
   unfold yL3
   rw [←HT.out,hch,zZ5,←hnh,←hpz]
  have HCZ:=hid hcz
  clear hcz
  have HPZ:=hid hpz
  have HFZ2:=hid hfz
  have HNH:=hid hnh
  have h33:WB.heap.size=wc.heap.size+2:=by rw [HWB.out];simp
  have hsz1:W1.heap.size=w.heap.size+2:=by rw [HW1.out];simp
  have h22:=HXB.out.size
  have hl1:=HLT1.out
  have hfl:∀k,L.foot k→k<w.heap.size:=HD.out.lt
  have hslt:=HSL.out
  have hsf:=HS.out.sf
  have hbC:Below w.heap.size w WC:=two HB1.out (two HXB.out HBC.out)
  have hhbl:w.heap.size+2≤hb∧hb<wc.heap.size:=⟨by have h1:=HHG.out;have h2:=HB2.out.size;omega,(Array.getElem?_eq_some_iff.1 HHB.out).1⟩
  -- what lay ahead of the range, read in any later world
  have hat:∀(L2:Dk) (E2:DiskS) (V:World) (k o:Nat) (v:Value),PassZ WC L (fun k=>k=wc.heap.size) L2 E2 V→WC.cell? ⟨k,o,none⟩=some v→¬L.foot k→k≠wc.heap.size→V.cell? ⟨k,o,none⟩=some v:=fun L2 E2 V k o v hq hv h1 h2=>hq.off.cell hv (fun h=>by
   rcases h with h | h
   · exact h1 h
   · exact h2 h)
  have hbxc:WC.heap[sb]?=some (.cells (yK5 L ⟨ep,sd,sz,fi⟩ (.pointer (some ⟨lb,0,none⟩)) (.slice ro rows.length rc)) 143 (0,0)):=HBX.out WC (two HXB.out HBC.out)
  have hhbc:WC.heap[hb]?=some (.cells #[.int .i64 ((ep:Int)+1), .int .i64 (1 - (sd:Int)), .int .i64 t.size, .int .i64 ((fi:Int)+many)] 140 (0,0)):=by rw [HBC.out.block _ hhbl.2];exact HHB.out
  have HP:Hid (∀(L2:Dk) (E2:DiskS) (V:World),PassZ WC L (fun k=>k=wc.heap.size) L2 E2 V→V.cell? ⟨w.heap.size,0,none⟩=some (.pointer (some ⟨sb,0,none⟩))∧V.cell? ⟨sb,0,none⟩=some (.pointer (some ⟨L.b,0,none⟩))∧(V.cell? ⟨hb,0,none⟩=some (.int .i64 ((ep:Int)+1))∧V.cell? ⟨hb,1,none⟩=some (.int .i64 (1 - (sd:Int)))∧V.cell? ⟨hb,2,none⟩=some (.int .i64 t.size)∧V.cell? ⟨hb,3,none⟩=some (.int .i64 ((fi:Int)+many)))∧V.heap[w.heap.size+1]?=some (.cells #[.nilIface] 38 (0,0))):=hid (fun L2 E2 V hq=>
   ⟨hat L2 E2 V _ _ _ hq (HP0.out WC (two HXB.out HBC.out)) (fun h=>by have:=hfl _ h;omega) (by omega),hat L2 E2 V _ _ _ hq (zF6 hbxc).1 hsf (by omega),
    ⟨hat L2 E2 V _ _ _ hq (by simp [World.cell?,hhbc]) (fun h=>by have:=hfl _ h;omega) (by omega),hat L2 E2 V _ _ _ hq (by simp [World.cell?,hhbc]) (fun h=>by have:=hfl _ h;omega) (by omega),hat L2 E2 V _ _ _ hq (by simp [World.cell?,hhbc]) (fun h=>by have:=hfl _ h;omega) (by omega),hat L2 E2 V _ _ _ hq (by simp [World.cell?,hhbc]) (fun h=>by have:=hfl _ h;omega) (by omega)⟩,
    by
     have hw1e:W1.heap[w.heap.size+1]?=some (.cells #[.nilIface] 38 (0,0)):=by
      have:=yC2 (w.alloc (.cells #[.pointer (some ⟨sb,0,none⟩)] 78)) (.cells #[.nilIface] 38)
      rw [←HW1.out] at this
      have e:(w.alloc (.cells #[.pointer (some ⟨sb,0,none⟩)] 78)).heap.size=w.heap.size+1:=by simp
      rw [e] at this
      exact this
     rw [hq.off.block (w.heap.size+1) (by omega) (fun h=>by
      rcases h with h | h
      · have:=hfl _ h;omega
      · have h9:w.heap.size+1=wc.heap.size:=h;omega),(two HXB.out HBC.out).block _ (Array.getElem?_eq_some_iff.1 hw1e).1]
     exact hw1e⟩)
  have HPSS:=hid hps
  have HK0:=hid hK
  have HEK:Hid (E.ok∧E.wait.length≤D.wait.length+20):=hid ⟨hok,by rw [List.length_range] at hwt hpl;omega⟩
  obtain ⟨p0,c0,⟨h0,h1,h2,h3⟩,ce⟩:=HP.out _ _ _ hps
  have CF:=zR7 L' E W hps.d hok
  have hw1:=hok.flush
  have hw3:=yU0 E
  have hpz1:=HPZ.out
  obtain ⟨⟨E1,f1⟩,hq1⟩:∃q,q=zC5 E:=⟨_,rfl⟩
  rw [←hq1] at CF hw1 hw3 hpz1
  rw [hps.eq] at CF
  have HCF:=hid CF
  have HPZ1:=hid hpz1
  have HE1:Hid (E1.ok∧E1.wait.length≤700020):=hid ⟨hw1,by have h5:E1.wait.length≤E.wait.length:=hw3;have:=HEK.out.2;omega⟩
  have HBCC:=hid hbC
  clear hch hnh hpz hfz hp hps hib hok hwt hpl hK hat hbxc hhbc CF hw1 hw3 hpz1 hq1 hbC
  go_wp2_with fail
  refine HCF.out.mono ?_
  rintro e w6 ⟨rfl,⟨L6,e6,d6,o6,g6⟩⟩
  have HP6:=hid (HPSS.out.next e6 d6 o6 g6)
  have HK6:=hid (yD6 HPSS.out.d o6 HK0.out rfl)
  clear p0 c0 h0 h1 h2 h3 ce e6 d6 o6 g6
  obtain ⟨p0,c0,⟨h0,h1,h2,h3⟩,ce⟩:=HP.out _ _ _ HP6.out
  by_cases hf1:f1=0
  rotate_left
  · have hA:pz=(E1,f1):=by rw [HPZ1.out,zM2 _ _ _ hf1,zM2 _ _ _ hf1]
    have hfz:FZ=(E1,⟨⟨ep,sd,sz,fi⟩,nx,rows⟩,f1):=by rw [HFZ2.out,hA,if_pos hf1]
    have re:w6.cell? ⟨w.heap.size+1,0,none⟩=some .nilIface:=by simp [World.cell?,ce]
    have rf:w6.frozen? ⟨w.heap.size+1,0,none⟩=false:=by simp [World.frozen?,ce]
    have hkd:(w6.setCell ⟨w.heap.size+1,0,none⟩ (.iface 73 (.int .i64 f1))).heap[Dn]?=some (.deferred (some [])):=by rw [Below.heap_setCell _ _ _ _ (by show Dn≠w.heap.size+1;omega)];exact HK6.out
    have hst:=PassZ.left HS.out HBCC.out (HP6.out.set (G' :=fun k=>k=wc.heap.size∨k=w.heap.size+1) (w.heap.size+1) (.iface 73 (.int .i64 f1)) (fun h=>by have:=hfl _ h;omega) (by omega) (fun _ h=>Or.inl h) (Or.inr rfl)) (fun k hk=>by rcases hk with hk | hk <;> omega) hDn hkd
    have hce2:((w6.setCell ⟨w.heap.size+1,0,none⟩ (.iface 73 (.int .i64 f1))).putObj Dn (.deferred none)).cell? ⟨w.heap.size+1,0,none⟩=some (.iface 73 (.int .i64 f1)):=by
     have h5:=zA3 w6 (w.heap.size+1) 0 (.iface 73 (.int .i64 f1)) ce
     have h6:=World.putObj_heap_other (w:=w6.setCell ⟨w.heap.size+1,0,none⟩ (.iface 73 (.int .i64 f1))) (o:= .deferred none) (show w.heap.size+1≠Dn by omega)
     simp only [World.cell?,h6,h5]
     rfl
    have HST:=hid hst
    have HKD:=hid hkd
    have HC2:=hid hce2
    clear hst hkd hce2 hA
    subst hfz
    rw [zA5 hf1]
    go_wp2_with fail
    refine ⟨by simp, .inl ⟨_,_,rfl,run_takeDeferred HKD.out,?_⟩⟩
    refine ⟨zE6 f1,?_,rfl,HST.out⟩
    have hce2:=HC2.out
    simp [results, Tryz.results97,go_sem,hce2,zA5 hf1]
  subst hf1
  rw [zD2]
  have hpz2:=HPZ1.out
  rw [zZ5] at hpz2
  have hval:nh.val= .agg #[.int .i64 ((ep:Int)+1), .int .i64 (1 - (sd:Int)), .int .i64 t.size, .int .i64 ((fi:Int)+many)]:=by
   have e1:((1 - sd:Nat):Int)=1 - (sd:Int):=by omega
   rw [HNH.out]
   simp only [Hd.val,yM2,e1,Int.natCast_add,Int.natCast_one]
  have CTX:=fun W' =>xJ9 nh W' (by rw [HNH.out];show ep+1≤_;omega) (by rw [HNH.out];show 1 - sd≤1;omega) (by rw [HNH.out];show t.size≤480;omega) (by rw [HNH.out];show fi+many≤_;omega)
  have htsz:=zP9 nh
  obtain ⟨tx,htx⟩:∃x,x=zD8 nh:=⟨_,rfl⟩
  rw [←htx] at CTX hpz2 htsz
  simp only [hval] at CTX
  have HCT:=hid CTX
  have CW:=fun (V:World) (hV:Below w6.heap.size w6 V)=>zN1 L6 E1 (((ep+1) % 2:Nat):Int) tx V (HP6.out.d.below hV) HE1.out.1 (by have:=HE1.out.2;omega)
  have hw1:=HE1.out.1.write (((ep+1) % 2:Nat):Int) tx
  have hw3:=zO6 E1 (((ep+1) % 2:Nat):Int) tx
  obtain ⟨⟨E2,f2⟩,hq2⟩:∃q,q=zB9 E1 (((ep+1) % 2:Nat):Int) tx:=⟨_,rfl⟩
  rw [←hq2] at CW hw1 hw3 hpz2
  have HCW2:Hid (∀V,Below w6.heap.size w6 V→Calls Tryz.prog 8 #[.pointer (some ⟨L.b,0,none⟩), .int .i64 (((ep:Int)+1) % 2), .string tx] V fun e w' =>e= .returned (zE6 f2)∧Turned 72 75 V L6 E2 w'):=hid (fun V hV=>by
   have:=CW V hV
   rw [HP6.out.eq,show (((ep+1) % 2:Nat):Int)=((ep:Int)+1) % 2 by omega] at this
   exact this)
  have HPZ2:=hid hpz2
  have HE2:Hid (E2.ok∧E2.wait.length≤700021):=hid ⟨hw1,by have h5:E2.wait.length≤E1.wait.length+1:=hw3;have:=HE1.out.2;omega⟩
  have HSQ:Hid (∀(L2:Dk) (E2:DiskS) (W:World),PassZ WC L (fun k=>k=wc.heap.size) L2 E2 W→W.cell? ⟨w.heap.size,0,none⟩=some (.pointer (some ⟨sb,0,none⟩))∧W.cell? ⟨sb,0,none⟩=some (.pointer (some ⟨L.b,0,none⟩))∧W.cell? ⟨hb,0,none⟩=some (.int .i64 ((ep:Int)+1))∧W.cell? ⟨hb,1,none⟩=some (.int .i64 (1 - (sd:Int)))∧W.cell? ⟨hb,2,none⟩=some (.int .i64 t.size)∧W.cell? ⟨hb,3,none⟩=some (.int .i64 ((fi:Int)+many))):=hid (fun L2 E2 V hq=>by
   obtain ⟨a1,a2,⟨a3,a4,a5,a6⟩,_⟩:=HP.out L2 E2 V hq
   exact ⟨a1,a2,a3,a4,a5,a6⟩)
  have HTX:=hid htx
  clear CTX htsz htx hval CW hw1 hw3 hq2 hpz2
  go_wp2_with fail
  go_region_held3 (fun W=>W.cell? ⟨w.heap.size,0,none⟩=some (.pointer (some ⟨sb,0,none⟩))∧W.cell? ⟨sb,0,none⟩=some (.pointer (some ⟨L.b,0,none⟩))∧W.cell? ⟨hb,0,none⟩=some (.int .i64 ((ep:Int)+1))∧W.cell? ⟨hb,1,none⟩=some (.int .i64 (1 - (sd:Int)))∧W.cell? ⟨hb,2,none⟩=some (.int .i64 t.size)∧W.cell? ⟨hb,3,none⟩=some (.int .i64 ((fi:Int)+many)))
   (first
    | exact HSQ.out _ _ _ (HP6.out.below (Below.refl _ _).drew)
    | exact HSQ.out _ _ _ (HP6.out.below (HBT:Hid _).out)
    | exact HSQ.out _ _ _ (HPX:Hid _).out)
   (first
    | (go_at_call 88;refine (HCT.out _).mono ?_;rintro e wT ⟨rfl,hbt⟩;have HBT:Hid (Below w6.heap.size w6 wT):=hid (two (Below.refl _ _).drew hbt);clear hbt)
    | (go_at_call 8;refine (HCW2.out _ (HBT:Hid _).out).mono ?_;rintro e w7 ⟨rfl,ht7⟩;have HT7:=hid ht7;obtain ⟨L7,e7,d7,o7,g7⟩:=ht7;have HPX:=hid ((HP6.out.below (HBT:Hid _).out).next e7 d7 o7 g7);have HK7:=hid (yD6 (HP6.out.below (HBT:Hid _).out).d o7 (((HBT:Hid _).out.block _ (Array.getElem?_eq_some_iff.1 HK6.out).1).trans HK6.out) rfl);clear e7 d7 o7 g7))
  all_goals
   clear p0 c0 h0 h1 h2 h3 ce
   obtain ⟨p0,c0,⟨h0,h1,h2,h3⟩,ce⟩:=HP.out _ _ _ HPX.out
   by_cases hf2:f2=0
   rotate_left
   · have hA:pz=(E2,f2):=by rw [HPZ2.out,zM2 _ _ _ hf2]
     have hfz:FZ=(E2,⟨⟨ep,sd,sz,fi⟩,nx,rows⟩,f2):=by rw [HFZ2.out,hA,if_pos hf2]
     have re:w7.cell? ⟨w.heap.size+1,0,none⟩=some .nilIface:=by simp [World.cell?,ce]
     have rf:w7.frozen? ⟨w.heap.size+1,0,none⟩=false:=by simp [World.frozen?,ce]
     have hkd:(w7.setCell ⟨w.heap.size+1,0,none⟩ (.iface 73 (.int .i64 f2))).heap[Dn]?=some (.deferred (some [])):=by rw [Below.heap_setCell _ _ _ _ (by show Dn≠w.heap.size+1;omega)];exact HK7.out
     have hst:=PassZ.left HS.out HBCC.out (HPX.out.set (G' :=fun k=>k=wc.heap.size∨k=w.heap.size+1) (w.heap.size+1) (.iface 73 (.int .i64 f2)) (fun h=>by have:=hfl _ h;omega) (by omega) (fun _ h=>Or.inl h) (Or.inr rfl)) (fun k hk=>by rcases hk with hk | hk <;> omega) hDn hkd
     have hce2:((w7.setCell ⟨w.heap.size+1,0,none⟩ (.iface 73 (.int .i64 f2))).putObj Dn (.deferred none)).cell? ⟨w.heap.size+1,0,none⟩=some (.iface 73 (.int .i64 f2)):=by
      have h5:=zA3 w7 (w.heap.size+1) 0 (.iface 73 (.int .i64 f2)) ce
      have h6:=World.putObj_heap_other (w:=w7.setCell ⟨w.heap.size+1,0,none⟩ (.iface 73 (.int .i64 f2))) (o:= .deferred none) (show w.heap.size+1≠Dn by omega)
      simp only [World.cell?,h6,h5]
      rfl
     have HST:=hid hst
     have HKD:=hid hkd
     have HC2:=hid hce2
     clear hst hkd hce2 hA
     subst hfz
     rw [zA5 hf2]
     go_wp2_with fail
     refine ⟨by simp, .inl ⟨_,_,rfl,run_takeDeferred HKD.out,?_⟩⟩
     refine ⟨zE6 f2,?_,rfl,HST.out⟩
     have hce2:=HC2.out
     simp [results, Tryz.results97,go_sem,hce2,zA5 hf2]
   subst hf2
   rw [zD2]
   have hpz3:=HPZ2.out
   rw [zZ5] at hpz3
   have CF:=zR7 L7 E2 w7 HPX.out.d HE2.out.1
   obtain ⟨⟨E3,f3⟩,hq3⟩:∃q,q=zC5 E2:=⟨_,rfl⟩
   rw [←hq3] at CF hpz3
   rw [HPX.out.eq] at CF
   have HCF3:=hid CF
   have HPZ3:=hid hpz3
   have HQ3:=hid hq3
   clear CF hpz3 hq3
   go_wp2_with fail
   refine HCF3.out.mono ?_
   rintro e w8 ⟨rfl,⟨L8,e8,d8,o8,g8⟩⟩
   have HP8:=hid (HPX.out.next e8 d8 o8 g8)
   have HK8:=hid (yD6 HPX.out.d o8 HK7.out rfl)
   clear p0 c0 h0 h1 h2 h3 ce e8 d8 o8 g8
   obtain ⟨p0,c0,⟨h0,h1,h2,h3⟩,ce⟩:=HP.out _ _ _ HP8.out
   by_cases hf3:f3=0
   rotate_left
   · have hA:pz=(E3,f3):=by rw [HPZ3.out]
     have hfz:FZ=(E3,⟨⟨ep,sd,sz,fi⟩,nx,rows⟩,f3):=by rw [HFZ2.out,hA,if_pos hf3]
     have re:w8.cell? ⟨w.heap.size+1,0,none⟩=some .nilIface:=by simp [World.cell?,ce]
     have rf:w8.frozen? ⟨w.heap.size+1,0,none⟩=false:=by simp [World.frozen?,ce]
     have hkd:(w8.setCell ⟨w.heap.size+1,0,none⟩ (.iface 73 (.int .i64 f3))).heap[Dn]?=some (.deferred (some [])):=by rw [Below.heap_setCell _ _ _ _ (by show Dn≠w.heap.size+1;omega)];exact HK8.out
     have hst:=PassZ.left HS.out HBCC.out (HP8.out.set (G' :=fun k=>k=wc.heap.size∨k=w.heap.size+1) (w.heap.size+1) (.iface 73 (.int .i64 f3)) (fun h=>by have:=hfl _ h;omega) (by omega) (fun _ h=>Or.inl h) (Or.inr rfl)) (fun k hk=>by rcases hk with hk | hk <;> omega) hDn hkd
     have hce2:((w8.setCell ⟨w.heap.size+1,0,none⟩ (.iface 73 (.int .i64 f3))).putObj Dn (.deferred none)).cell? ⟨w.heap.size+1,0,none⟩=some (.iface 73 (.int .i64 f3)):=by
      have h5:=zA3 w8 (w.heap.size+1) 0 (.iface 73 (.int .i64 f3)) ce
      have h6:=World.putObj_heap_other (w:=w8.setCell ⟨w.heap.size+1,0,none⟩ (.iface 73 (.int .i64 f3))) (o:= .deferred none) (show w.heap.size+1≠Dn by omega)
      simp only [World.cell?,h6,h5]
      rfl
     have HST:=hid hst
     have HKD:=hid hkd
     have HC2:=hid hce2
     clear hst hkd hce2 hA
     subst hfz
     rw [zA5 hf3]
     go_wp2_with fail
     refine ⟨by simp, .inl ⟨_,_,rfl,run_takeDeferred HKD.out,?_⟩⟩
     refine ⟨zE6 f3,?_,rfl,HST.out⟩
     have hce2:=HC2.out
     simp [results, Tryz.results97,go_sem,hce2,zA5 hf3]
   subst hf3
   rw [zD2]
   have hok3:=yJ2 zU4 many ⟨ep,sd,sz,fi⟩ rows D HOK.out
   have h403:=yJ2 vL4 many ⟨ep,sd,sz,fi⟩ rows D H40.out
   have hln3:=yJ2 (uD8 (26+many)) many ⟨ep,sd,sz,fi⟩ rows D hl
   rw [HCZ.out,HPZ3.out] at hok3 h403 hln3
   dsimp only at hok3 h403 hln3
   have hup3:E3.down=false:=by
    have:=uP7 (D:=E2) (by rw [←HQ3.out])
    rw [←HQ3.out] at this
    exact this
   obtain ⟨nl,hnl⟩:∃x,x=E3.now.length:=⟨_,rfl⟩
   rw [←hnl] at hln3
   obtain ⟨us,hus⟩:∃x,x=zC4 (fi+many) (zB1 E3 26 many) 0 [] [] 0:=⟨_,rfl⟩
   have HCS9:Hid (∀V,Below w8.heap.size w8 V→Calls Tryz.prog 87 #[.pointer (some ⟨L.b,0,none⟩)] V fun e w' =>e= .returned (.int .i64 nl)∧w' =V):=hid (fun V hV=>by
    have:=zM8 L8 E3 V (HP8.out.d.below hV)
    rw [HP8.out.eq,←hnl] at this
    exact this)
   have HCL9:Hid (∀V,Below w8.heap.size w8 V→Calls Tryz.prog 93 #[.pointer (some ⟨L.b,0,none⟩), .int .i64 26, .int .i64 ((nl:Int) - 26), .int .i64 ((fi:Int)+many)] V fun e w' =>∃lb v,e= .returned (.tuple #[.pointer (some ⟨lb,0,none⟩),v, .nilIface])∧LogAt w' lb L8 26 many (fi+many) us.2∧V.heap.size≤lb∧Deeds (fun x=>x<V.heap.size∨x=lb) w' v us.1∧Below V.heap.size V w'):=hid (fun V hV=>by
    have:=vL1 L8 E3 26 many (fi+many) V (HP8.out.d.below hV) hup3 hok3 h403 hm1 (by rw [←hnl,hln3];exact Nat.le_refl _) (by omega) (by omega)
    rw [←hus,HP8.out.eq,show ((many:Nat):Int)=(nl:Int) - 26 by omega,show ((fi+many:Nat):Int)=(fi:Int)+((nl:Int) - 26) by omega] at this
    rw [show (many:Int)=(nl:Int) - 26 by omega]
    exact this)
   have HE3:Hid (E3.ok):=hid hok3
   have HUS:=hid hus
   have HNL:=hid hnl
   have hwr:IntKind.i64.wrap ((nl:Int) - 26)=(nl:Int) - 26:=by rw [IntKind.wrap_i64];omega
   have HSQ9:Hid (∀W,Below w8.heap.size w8 W→W.cell? ⟨w.heap.size,0,none⟩=some (.pointer (some ⟨sb,0,none⟩))∧W.cell? ⟨sb,0,none⟩=some (.pointer (some ⟨L.b,0,none⟩))∧W.cell? ⟨hb,3,none⟩=some (.int .i64 ((fi:Int)+many))):=hid (fun W hW=>⟨zA1 hW p0,zA1 hW c0,zA1 hW h3⟩)
   have HLN3:=hid hln3
   clear hok3 h403 hup3 hnl hus hln3
   go_wp2_with fail
   go_region_held3 (fun W=>W.cell? ⟨w.heap.size,0,none⟩=some (.pointer (some ⟨sb,0,none⟩))∧W.cell? ⟨sb,0,none⟩=some (.pointer (some ⟨L.b,0,none⟩))∧W.cell? ⟨hb,3,none⟩=some (.int .i64 ((fi:Int)+many)))
    (first
     | exact HSQ9.out _ (Below.refl _ _).drew
     | exact HSQ9.out _ (HB9:Hid _).out)
    (first
     | (go_at_call 87;refine (HCS9.out _ (Below.refl _ _).drew).mono ?_;rintro e wA ⟨rfl,rfl⟩)
     | (go_at_call 93;refine (HCL9.out _ (Below.refl _ _).drew).mono ?_;rintro e w9 ⟨lb9,dv9,rfl,hlog9,hlb9,hde9,hbl9⟩;have HB9:Hid (Below w8.heap.size w8 w9):=hid (two (Below.refl _ _).drew hbl9);have HLOG9:=hid hlog9;have HLB9:Hid (w8.heap.size≤lb9):=hid hlb9;clear hlog9 hlb9 hde9 hbl9))
   all_goals
    have hbx9:w9.heap[sb]?=some (.cells (yK5 L ⟨ep,sd,sz,fi⟩ (.pointer (some ⟨lb,0,none⟩)) (.slice ro rows.length rc)) 143 (0,0)):=by
     have q1:WC.heap[sb]?=some (.cells (yK5 L ⟨ep,sd,sz,fi⟩ (.pointer (some ⟨lb,0,none⟩)) (.slice ro rows.length rc)) 143 (0,0)):=HBX.out WC (two HXB.out HBC.out)
     have q2:w8.heap[sb]?=some (.cells (yK5 L ⟨ep,sd,sz,fi⟩ (.pointer (some ⟨lb,0,none⟩)) (.slice ro rows.length rc)) 143 (0,0)):=by
      rw [HP8.out.off.block _ (by omega) (fun h=>by
       rcases h with h | h
       · exact hsf h
       · have h9:sb=wc.heap.size:=h;omega)]
      exact q1
     rw [HB9.out.block _ (Array.getElem?_eq_some_iff.1 q2).1]
     exact q2
    have HBX9:=hid hbx9
    have HP9:=hid (HP8.out.below HB9.out)
    have HK9:Hid (w9.heap[Dn]?=some (.deferred (some []))):=hid ((HB9.out.block _ (Array.getElem?_eq_some_iff.1 HK8.out).1).trans HK8.out)
    clear p0 c0 h0 h1 h2 h3 ce
    obtain ⟨p0,c0,⟨h0,h1,h2,h3⟩,ce⟩:=HP.out _ _ _ HP9.out
    obtain ⟨d0,d1,d2,d3,d4,d5,d6,df⟩:=zF6 hbx9
    clear hbx9 d0
    have HSR:Hid (∀W:World,Off (fun k=>k=sb) w9 W→W.cell? ⟨w.heap.size,0,none⟩=some (.pointer (some ⟨sb,0,none⟩))∧W.cell? ⟨hb,0,none⟩=some (.int .i64 ((ep:Int)+1))∧W.cell? ⟨hb,1,none⟩=some (.int .i64 (1 - (sd:Int)))∧W.cell? ⟨hb,2,none⟩=some (.int .i64 t.size)∧W.cell? ⟨hb,3,none⟩=some (.int .i64 ((fi:Int)+many))):=hid (fun W hW=>⟨hW.cell p0 (fun h=>by have h9:w.heap.size=sb:=h;omega),hW.cell h0 (fun h=>by have h9:hb=sb:=h;omega),hW.cell h1 (fun h=>by have h9:hb=sb:=h;omega),hW.cell h2 (fun h=>by have h9:hb=sb:=h;omega),hW.cell h3 (fun h=>by have h9:hb=sb:=h;omega)⟩)
    go_wp2_with fail
    refine wp_region_noPanic ?_
    refine wp_region_held_drew (S:=fun W=>W.cell? ⟨w.heap.size,0,none⟩=some (.pointer (some ⟨sb,0,none⟩))∧W.cell? ⟨hb,0,none⟩=some (.int .i64 ((ep:Int)+1))∧W.cell? ⟨hb,1,none⟩=some (.int .i64 (1 - (sd:Int)))∧W.cell? ⟨hb,2,none⟩=some (.int .i64 t.size)∧W.cell? ⟨hb,3,none⟩=some (.int .i64 ((fi:Int)+many))) (by kernel_rfl) (HSR.out _ (yP8 _ _)) (fun hHeld=>?_)
    refine wpAnyH_take (i:=0) (v:=?vz0) rfl (by kernel_rfl) (by kernel_rfl) (by decide +kernel) (fun _ _ _ h=>h) (Or.inl ⟨by rfl,?yz0⟩) (by assumption) ?rz0
    case yz0=>(intro w hSw;(try dsimp only at hSw);go_simp;(try with_reducible rfl))
    (try simp only [Act.put,List.setIfInBounds_toArray,List.set_cons_zero,List.set_cons_succ,List.getElem_toArray,List.getElem_cons_zero,List.getElem_cons_succ])
    refine wpAnyH_take (i:=2) (v:=?vz2) rfl (by kernel_rfl) (by kernel_rfl) (by decide +kernel) (fun _ _ _ h=>h) (Or.inl ⟨by rfl,?yz2⟩) (by assumption) ?rz2
    case yz2=>(intro w hSw;(try dsimp only at hSw);go_simp;(try with_reducible rfl))
    (try simp only [Act.put,List.setIfInBounds_toArray,List.set_cons_zero,List.set_cons_succ,List.getElem_toArray,List.getElem_cons_zero,List.getElem_cons_succ])
    refine wpAnyH_take (i:=4) (v:=?vz4) rfl (by kernel_rfl) (by kernel_rfl) (by decide +kernel) (fun _ _ _ h=>h) (Or.inl ⟨by rfl,?yz4⟩) (by assumption) ?rz4
    case yz4=>(intro w hSw;(try dsimp only at hSw);go_simp;(try with_reducible rfl))
    (try simp only [Act.put,List.setIfInBounds_toArray,List.set_cons_zero,List.set_cons_succ,List.getElem_toArray,List.getElem_cons_zero,List.getElem_cons_succ])
    refine wpAnyH_take (i:=5) (v:=?vz5) rfl (by kernel_rfl) (by kernel_rfl) (by decide +kernel) (fun _ _ _ h=>h) (Or.inl ⟨by rfl,?yz5⟩) (by assumption) ?rz5
    case yz5=>(intro w hSw;(try dsimp only at hSw);go_simp;(try with_reducible rfl))
    (try simp only [Act.put,List.setIfInBounds_toArray,List.set_cons_zero,List.set_cons_succ,List.getElem_toArray,List.getElem_cons_zero,List.getElem_cons_succ])
    refine wpAnyH_take (i:=1) (v:=?vz1) rfl (by kernel_rfl) (by kernel_rfl) (by decide +kernel) (fun _ _ _ h=>h) (Or.inl ⟨by rfl,?yz1⟩) (by assumption) ?rz1
    case yz1=>(intro w hSw;(try dsimp only at hSw);go_simp;(try with_reducible rfl))
    (try simp only [Act.put,List.setIfInBounds_toArray,List.set_cons_zero,List.set_cons_succ,List.getElem_toArray,List.getElem_cons_zero,List.getElem_cons_succ])
    refine wpAnyH_take (i:=3) (v:=?vz3) rfl (by kernel_rfl) (by kernel_rfl) (by decide +kernel) (fun _ _ _ h=>h) (Or.inl ⟨by rfl,?yz3⟩) (by assumption) ?rz3
    case yz3=>(intro w hSw;(try dsimp only at hSw);go_simp;(try with_reducible rfl))
    (try simp only [Act.put,List.setIfInBounds_toArray,List.set_cons_zero,List.set_cons_succ,List.getElem_toArray,List.getElem_cons_zero,List.getElem_cons_succ])
    refine wpAnyH_ready (rs:= [6]) (by kernel_rfl) (by simp) ?_
    refine AllReadyH.cons rfl (fun K hK=>?_) AllReadyH.nil
    go_simp
    refine hK.out _ _ (HSR.out _ (offS4 (yP8 _ _) _ _ _ _)) (fun hHeld2=>?_)
    clear hK K
    (try simp only [Act.put,List.setIfInBounds_toArray,List.set_cons_zero,List.set_cons_succ,List.getElem_toArray,List.getElem_cons_zero,List.getElem_cons_succ])
    refine wpAnyH_take (i:=7) (v:=?vz7) rfl (by kernel_rfl) (by kernel_rfl) (by decide +kernel) (fun _ _ _ h=>h) (Or.inl ⟨by rfl,?yz7⟩) (by assumption) ?rz7
    case yz7=>(intro w hSw;(try dsimp only at hSw);go_simp;(try with_reducible rfl))
    (try simp only [Act.put,List.setIfInBounds_toArray,List.set_cons_zero,List.set_cons_succ,List.getElem_toArray,List.getElem_cons_zero,List.getElem_cons_succ])
    refine wpAnyH_take (i:=8) (v:=?vz8) rfl (by kernel_rfl) (by kernel_rfl) (by decide +kernel) (fun _ _ _ h=>h) (Or.inl ⟨by rfl,?yz8⟩) (by assumption) ?rz8
    case yz8=>(intro w hSw;(try dsimp only at hSw);go_simp;(try with_reducible rfl))
    (try simp only [Act.put,List.setIfInBounds_toArray,List.set_cons_zero,List.set_cons_succ,List.getElem_toArray,List.getElem_cons_zero,List.getElem_cons_succ])
    refine wpAnyH_ready (rs:= [9]) (by kernel_rfl) (by simp) ?_
    refine AllReadyH.cons rfl (fun K hK=>?_) AllReadyH.nil
    go_simp
    refine hK.out _ _ (HSR.out _ (offS1 (offS4 (yP8 _ _) _ _ _ _) _)) (fun hHeld3=>?_)
    clear hK K
    (try simp only [Act.put,List.setIfInBounds_toArray,List.set_cons_zero,List.set_cons_succ,List.getElem_toArray,List.getElem_cons_zero,List.getElem_cons_succ])
    refine wpAnyH_done (by kernel_rfl) ?_ _
    refine NoPanic.normal ?_
    obtain ⟨WF,hWF⟩:∃W,W=(((((w9.setCell ⟨sb,1,none⟩ (.int .i64 ((ep:Int)+1))).setCell ⟨sb,2,none⟩ (.int .i64 (1 - (sd:Int)))).setCell ⟨sb,3,none⟩ (.int .i64 t.size)).setCell ⟨sb,4,none⟩ (.int .i64 ((fi:Int)+many))).setCell ⟨sb,5,none⟩ (.pointer (some ⟨lb9,0,none⟩))).drew:=⟨_,rfl⟩
    have hof:Off (fun k=>k=sb) w9 WF:=by rw [hWF];exact (offS1 (offS4 (Off.refl _ _) _ _ _ _) _).trans (yP8 _ _) (fun _ _ h=>h)
    have hbf:WF.heap[sb]?=some (.cells (yK5 L8 nh (.pointer (some ⟨lb9,0,none⟩)) (.slice ro rows.length rc)) 143 (0,0)):=by
     have e1:yK5 L8 nh (.pointer (some ⟨lb9,0,none⟩)) (.slice ro rows.length rc)= #[.pointer (some ⟨L.b,0,none⟩), .int .i64 ((ep:Int)+1), .int .i64 (1 - (sd:Int)), .int .i64 t.size, .int .i64 ((fi:Int)+many), .pointer (some ⟨lb9,0,none⟩), .slice ro rows.length rc]:=by
      have e2:((1 - sd:Nat):Int)=1 - (sd:Int):=by omega
      rw [HNH.out]
      unfold yK5 yM2
      rw [HP8.out.eq]
      simp only [e2]
      rfl
     rw [e1,hWF]
     exact zA3 _ _ _ _ (zA3 _ _ _ _ (zA3 _ _ _ _ (zA3 _ _ _ _ (zA3 _ _ _ _ HBX9.out))))
    rw [show (((((w9.setCell ⟨sb,1,none⟩ (.int .i64 ((ep:Int)+1))).setCell ⟨sb,2,none⟩ (.int .i64 (1 - (sd:Int)))).setCell ⟨sb,3,none⟩ (.int .i64 t.size)).setCell ⟨sb,4,none⟩ (.int .i64 ((fi:Int)+many))).setCell ⟨sb,5,none⟩ (.pointer (some ⟨lb9,0,none⟩))).drew=WF from hWF.symm]
    have hfz:FZ=(E3,⟨nh,us.2,rows⟩,0):=by
     have e1:nh.first=fi+many:=by rw [HNH.out];rfl
     rw [HFZ2.out,HPZ3.out,if_neg (by simp),e1,←HUS.out]
    have hne1:w.heap.size+1≠sb:=by omega
    have hne2:w.heap.size+1≠Dn:=by omega
    have hne3:sb≠Dn:=by omega
    have hlt9:w.heap.size+1<w9.heap.size:=(Array.getElem?_eq_some_iff.1 ce).1
    have cef:WF.heap[w.heap.size+1]?=some (.cells #[.nilIface] 38 (0,0)):=by rw [hof.block _ hlt9 hne1];exact ce
    have re:WF.cell? ⟨w.heap.size+1,0,none⟩=some .nilIface:=by simp [World.cell?,cef]
    have rf:WF.frozen? ⟨w.heap.size+1,0,none⟩=false:=by simp [World.frozen?,cef]
    have hkf:WF.heap[Dn]?=some (.deferred (some [])):=by rw [hof.block _ (Array.getElem?_eq_some_iff.1 HK9.out).1 (fun h=>hne3 h.symm)];exact HK9.out
    have hkd:(WF.setCell ⟨w.heap.size+1,0,none⟩ .nilIface).heap[Dn]?=some (.deferred (some [])):=by rw [Below.heap_setCell _ _ _ _ (by show Dn≠w.heap.size+1;omega)];exact hkf
    have hce2:((WF.setCell ⟨w.heap.size+1,0,none⟩ .nilIface).putObj Dn (.deferred none)).cell? ⟨w.heap.size+1,0,none⟩=some .nilIface:=by
     have h5:=zA3 WF (w.heap.size+1) 0 .nilIface cef
     have h6:=World.putObj_heap_other (w:=WF.setCell ⟨w.heap.size+1,0,none⟩ .nilIface) (o:= .deferred none) (show w.heap.size+1≠Dn by omega)
     simp only [World.cell?,h6,h5]
     rfl
    have hoz:Off (fun k=>k=sb∨k=Dn∨k=w.heap.size+1) w9 ((WF.setCell ⟨w.heap.size+1,0,none⟩ .nilIface).putObj Dn (.deferred none)):=
     ((hof.mono (fun k hk=>Or.inl hk)).trans (zA7 (F:=fun k=>k=sb∨k=Dn∨k=w.heap.size+1) WF ⟨w.heap.size+1,0,none⟩ (Or.inr (Or.inr rfl)) .nilIface) (fun _ _ h=>h)).trans (zV9 (F:=fun k=>k=sb∨k=Dn∨k=w.heap.size+1) (grownBy_putObj' _ Dn (.deferred none)) (fun k e=>by cases e;exact Or.inr (Or.inl rfl))) (fun _ _ h=>h)
    have hbz:((WF.setCell ⟨w.heap.size+1,0,none⟩ .nilIface).putObj Dn (.deferred none)).heap[sb]?=some (.cells (yK5 L8 nh (.pointer (some ⟨lb9,0,none⟩)) (.slice ro rows.length rc)) 143 (0,0)):=by
     rw [World.putObj_heap_other hne3,Below.heap_setCell _ _ _ _ (by show sb≠w.heap.size+1;omega)]
     exact hbf
    have hst:StoreTo w L lb sb (.slice ro rows.length rc) many E3 ⟨nh,us.2,rows⟩ ((WF.setCell ⟨w.heap.size+1,0,none⟩ .nilIface).putObj Dn (.deferred none)):=by
     have e1:nh.first=fi+many:=by rw [HNH.out];rfl
     have h1:=HP8.out.off.size
     have h2:=HLB9.out
     have h3:=(Array.getElem?_eq_some_iff.1 HK8.out).1
     refine PassZ.turned (S:=⟨⟨ep,sd,sz,fi⟩,nx,rows⟩) (nh:=nh) (nx:=us.2) HS.out hfl HBCC.out (by omega) HP9.out (fun k hk=>by have:k=wc.heap.size:=hk;omega) (by rw [e1];exact HLOG9.out) (by omega) (fun hf=>by have:=HP8.out.d.lt _ hf;omega) (by omega) hDn (fun hf=>?_) hoz hbz
     obtain ⟨o,g1,g2⟩:=HP9.out.d.cells _ hf
     rw [HK9.out] at g1
     cases g1
     cases g2
    have HST:=hid hst
    have HKD:=hid hkd
    have HC2:=hid hce2
    have RE:=hid re
    have RF:=hid rf
    clear hWF hof hbf hkf hkd hce2 hoz hbz hst cef hlt9 re rf ce p0 c0 h0 h1 h2 h3 d1 d2 d3 d4 d5 d6 df
    subst hfz
    have re:=RE.out
    have rf:=RF.out
    go_wp2_with fail
    refine ⟨by simp, .inl ⟨_,_,rfl,run_takeDeferred HKD.out,?_⟩⟩
    refine ⟨.nilIface,?_,rfl,HST.out⟩
    have hce2:=HC2.out
    simp [results, Tryz.results97,go_sem,hce2]
end Go.Proofs.YtggpodlecljcbabGreatDoor
