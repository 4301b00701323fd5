/- Plain: chapter 11: a quilt on disks. -/
import Derived.Test.YtggpodlecljcbabGreatDoorKSI
import Derived.Test.YtggpodlecljcbabGreatDoorKSY
import Derived.Test.YtggpodlecljcbabGreatDoorKR
import Derived.Test.YtggpodlecljcbabGreatDoorKD
namespace Go.Proofs.YtggpodlecljcbabGreatDoor
set_option linter.unusedSimpArgs false
set_option linter.unusedVariables false
set_option maxRecDepth 100000
set_option maxHeartbeats 64000000
open Go.RowKit Go.Sort
theorem vE8 {l:List Change}(hr:RisesX l)(c:Change)(x:Change):x∈l.filter (fun x=>x.key.toList != c.key.toList)↔x∈l∧x.key≠c.key:=by
 rw [List.mem_filter]
 simp only [bne_iff_ne,ne_eq,zG7]
theorem uR9 {l:List Change}(hr:RisesX l)(c x:Change):x∈yE5 l c↔(x∈l∧x.key≠c.key)∨(x=c∧c.gone=false):=by
 rw [←vE8 hr c x]
 unfold yE5
 by_cases hi:zT1 l c.key (zH3 l c.key)=true
 · rw [if_pos hi,xF8 l c.key hr _ rfl hi]
   cases hg:c.gone
   · simp only [Bool.false_eq_true,if_false,List.mem_append,List.mem_cons,and_true]
     constructor
     · rintro (h | h | h)
       · exact Or.inl (Or.inl h)
       · exact Or.inr h
       · exact Or.inl (Or.inr h)
     · rintro ((h | h) | h)
       · exact Or.inl h
       · exact Or.inr (Or.inr h)
       · exact Or.inr (Or.inl h)
   · simp
 · rw [if_neg hi,xF4 l c.key hr (by simpa using hi)]
   cases hg:c.gone
   · have e:x∈l↔x∈l.take (zH3 l c.key)∨x∈l.drop (zH3 l c.key):=by
      rw [←List.mem_append,List.take_append_drop]
     simp only [Bool.false_eq_true,if_false,List.mem_append,List.mem_cons,and_true]
     rw [e]
     constructor
     · rintro (h | h | h)
       · exact Or.inl (Or.inl h)
       · exact Or.inr h
       · exact Or.inl (Or.inr h)
     · rintro ((h | h) | h)
       · exact Or.inl h
       · exact Or.inr (Or.inr h)
       · exact Or.inr (Or.inl h)
   · simp
theorem xW9 :∀(cs l:List Change),RisesX l→cs.Pairwise (fun a b=>a.key≠b.key)→∀x,x∈cs.foldl yE5 l↔(x∈l∧∀c∈cs,x.key≠c.key)∨(x∈cs∧x.gone=false)
 | [],l,_,_,x=>by simp
 | c::r,l,hl,hp,x=>by
  obtain ⟨p1,p2⟩:=List.pairwise_cons.1 hp
  rw [List.foldl_cons,xW9 r (yE5 l c) (yS0 c hl) p2 x,uR9 hl c x]
  constructor
  · rintro (⟨⟨h1,h2⟩ | ⟨rfl,h2⟩,h3⟩ | ⟨h1,h2⟩)
    · refine Or.inl ⟨h1,fun d hd=>?_⟩
      rcases List.mem_cons.1 hd with rfl | hd
      · exact h2
      · exact h3 d hd
    · exact Or.inr ⟨List.mem_cons_self ..,h2⟩
    · exact Or.inr ⟨List.mem_cons_of_mem _ h1,h2⟩
  · rintro (⟨h1,h2⟩ | ⟨h1,h2⟩)
    · exact Or.inl ⟨Or.inl ⟨h1,h2 c (List.mem_cons_self ..)⟩,fun d hd=>h2 d (List.mem_cons_of_mem _ hd)⟩
    · rcases List.mem_cons.1 h1 with rfl | h1
      · exact Or.inl ⟨Or.inr ⟨rfl,h2⟩,p1⟩
      · exact Or.inr ⟨h1,h2⟩
theorem xF1 :∀(cs l:List Change),RisesX l→RisesX (cs.foldl yE5 l)
 | [],_,h=>h
 | c::r,l,h=>xF1 r _ (yS0 c h)
theorem vQ0 {l:List Change}(h:RisesX l):l.Pairwise (fun a b=>a.key≠b.key):=h.imp (fun h=>yR8 h)
theorem yU6 {a b:List Change}(ha:RisesX a)(hb:RisesX b)(hg:∀c∈b,c.gone=false):zF3 a (zH9 a b) (zH9 a b).length=b:=by
 rw [yR9]
 have hm:=zM6 a b ha hb
 refine yT3 _ _ (xF1 _ _ ha) hb (fun x=>?_)
 rw [xW9 _ _ ha (vQ0 hm)]
 constructor
 · rintro (⟨h1,h2⟩ | ⟨h1,h2⟩)
   · by_cases hy:∃y∈b,y.key=x.key
     · obtain ⟨y,hy1,hy2⟩:=hy
       by_cases hya:y∈a
       · rw [←xB9 ha hya h1 hy2];exact hy1
       · exact absurd hy2.symm (h2 y ((zG9 a b ha hb y).2 (Or.inr ⟨hy1,hya⟩)))
     · exact absurd rfl (h2 (yT8 x.key) ((zG9 a b ha hb _).2 (Or.inl ⟨x,h1,fun y hy1 e=>hy ⟨y,hy1,e⟩,rfl⟩)))
   · rcases (zG9 a b ha hb x).1 h1 with ⟨z,_,_,rfl⟩ | ⟨h3,_⟩
     · cases h2
     · exact h3
 · intro hx
   by_cases hxa:x∈a
   · refine Or.inl ⟨hxa,fun c hc e=>?_⟩
     rcases (zG9 a b ha hb c).1 hc with ⟨z,_,hz,rfl⟩ | ⟨h3,h4⟩
     · exact hz x hx e
     · rw [xB9 hb h3 hx e.symm] at h4
       exact h4 hxa
   · exact Or.inr ⟨(zG9 a b ha hb x).2 (Or.inr ⟨hx,hxa⟩),hg x hx⟩
theorem yM7 :∀(c:List Change),(∀x∈c,zA2 x=0)→zH1 c=0
 | [],_=>rfl
 | x::r,h=>by
  unfold zH1
  rw [if_neg (by simp [h x (List.mem_cons_self ..)])]
  exact yM7 r (fun y hy=>h y (List.mem_cons_of_mem _ hy))
theorem uF2 {k:ByteArray}{v:ByteArray}(h:zA2 ⟨k,v,false⟩=0):zA2 (yT8 k)=0:=by
 unfold zA2 at h ⊢
 unfold yT8
 dsimp only at h ⊢
 split at h
 · cases h
 · rename_i h1
   split at h
   · cases h
   · rename_i h2
     have h3:(k.toList== [])≠true:=fun e=>h1 (Or.inl e)
     rw [if_neg (by
      rintro (e | ⟨_,e⟩)
      · exact h3 e
      · have:((⟨#[]⟩:ByteArray).toList== [])=true:=by rw [zG6];rfl
        rw [this] at e;cases e),if_neg (by
      have:(⟨#[]⟩:ByteArray).size=0:=rfl
      omega)]
theorem xL5 {a b:List Change}(ha:RisesX a)(hb:RisesX b)(hfa:∀c∈a,zA2 c=0∧c.gone=false)(hfb:∀c∈b,zA2 c=0∧c.gone=false):∀c∈zH9 a b,zA2 c=0:=by
 intro c hc
 rcases (zG9 a b ha hb c).1 hc with ⟨z,hz,_,rfl⟩ | ⟨h,_⟩
 · obtain ⟨k,v,g⟩:=z
   obtain ⟨h1,h2⟩:=hfa _ hz
   dsimp only at h2
   subst h2
   exact uF2 h1
 · exact (hfb c h).1
theorem xF7 {q q' :Quilt}(h:zB2 q=0)(h' :zB2 q' =0)(hl:(zH9 (zE7 q) (zE7 q')).length≤14):zC9 34 (zE7 q) (zH9 (zE7 q) (zE7 q'))=0:=by
 obtain ⟨r1,f1,l1⟩:=zG5 h
 obtain ⟨r2,f2,l2⟩:=zG5 h'
 have e:=yU6 r1 r2 (fun c hc=>(f2 c hc).2)
 unfold zC9
 rw [if_neg (by omega),if_neg (by rw [yM7 _ (xL5 r1 r2 f1 f2)];simp),if_neg (by rw [e];omega)]
theorem vA0 {q:Quilt}(h:zB2 q=0):zF3 [] (zE7 q) (zE7 q).length=zE7 q:=by
 obtain ⟨r1,f1,l1⟩:=zG5 h
 rw [yR9]
 have:=yT9 (zE7 q) [] (by simpa using r1) (fun c hc=>(f1 c hc).2)
 simpa using this
theorem vT5 {q:Quilt}(h:zB2 q=0):zC9 34 [] (zE7 q)=0:=by
 obtain ⟨r1,f1,l1⟩:=zG5 h
 unfold zC9
 rw [if_neg (by omega),if_neg (by rw [yM7 _ (fun c hc=>(f1 c hc).1)];simp),if_neg (by rw [vA0 h];omega)]
def yF2 (D:DiskS):Option (StS × Quilt):=match yP6 D with
 | none=>none
 | some S=>(zY0 S.rows).map (fun q=>(S,q))
def copyC (D:DiskS):Copy:=match yF2 D with
 | none=>⟨false,zD6⟩
 | some p=>⟨true,p.2⟩
structure Sound (D:DiskS):Prop where
 ok:D.ok
 calm:Calm D
 s40:∀s∈D.now,s.size=40
 len:D.now.length= 60
 wait:D.wait.length≤900000
structure HasQ (D:DiskS) (S:StS) (q:Quilt):Prop where
 inv:InvZ 34 D S
 rows:S.rows=zE7 q
 calm:Calm D
 ok:D.ok
 good:zB2 q=0
theorem HasQ.sound {D:DiskS}{S:StS}{q:Quilt}(h:HasQ D S q):Sound D:=
 ⟨h.ok,h.calm,h.inv.parts.2.2.2.1,h.inv.len,by rw [h.inv.parts.2.1];simp⟩
theorem HasQ.copy {D:DiskS}{S:StS}{q:Quilt}(h:HasQ D S q):yF2 D=some (S,q):=by
 unfold yF2
 rw [h.inv.open]
 dsimp only
 rw [h.rows,xL1 h.good]
 rfl
theorem HasQ.copyC {D:DiskS}{S:StS}{q:Quilt}(h:HasQ D S q):copyC D=⟨true,q⟩:=by
 unfold Go.Proofs.YtggpodlecljcbabGreatDoor.copyC
 rw [h.copy]
theorem zJ0 {q:Quilt}(h:Good q):zB2 q=0:=(xQ0 q).2 h
theorem uO4 {D:DiskS}(h:Sound D){q:Quilt}(hq:zB2 q=0):∃E,zT4 D=(E,0)∧Calm E∧E.ok∧InvZ 34 E ⟨zY6,0, []⟩∧∃E' S',zH2 34 ⟨zY6,0, []⟩ (zE7 q) E=(E',S',0)∧HasQ E' S' q∧S'.h.epoch≤2:=by
 obtain ⟨E,e1,e2,e3⟩:=vT3 D h.calm h.s40 (by rw [h.len];decide) (by rw [h.len];decide)
 rw [h.len] at e3
 have hok:E.ok:=by
  have:=vE7 zU4 D h.ok
  rw [e1] at this
  exact this
 refine ⟨E,e1,e2,hok,e3,?_⟩
 rcases yX2 (zE7 q) e3 e2 (by decide) with ⟨h0,_⟩ | ⟨_,E',S',h1,h2,h3,h4,h5,_⟩
 · exact absurd (vT5 hq) h0
 · have hok' :=yD7 zU4 34 ⟨zY6,0, []⟩ (zE7 q) E hok
   rw [h1] at hok'
   exact ⟨E',S',h1,⟨h2,by rw [h4];exact vA0 hq,h3,hok',hq⟩,h5⟩
theorem uQ1 {D:DiskS}{S:StS}{q q' :Quilt}(h:HasQ D S q)(hq:zB2 q' =0)(hl:(zH9 (zE7 q) (zE7 q')).length≤14)(hE:S.h.epoch≤1000000):
 ∃E S',zH2 34 S (zH9 (zE7 q) (zE7 q')) D=(E,S',0)∧HasQ E S' q' ∧S'.h.epoch≤S.h.epoch+1:=by
 have hf:=xF7 h.good hq hl
 rcases yX2 (zH9 (zE7 q) (zE7 q')) h.inv h.calm hE with ⟨h0,_⟩ | ⟨_,E,S',h1,h2,h3,h4,h5,_⟩
 · rw [h.rows] at h0;exact absurd hf h0
 · have hok' :=yD7 zU4 34 S (zH9 (zE7 q) (zE7 q')) D h.ok
   rw [h1] at hok'
   obtain ⟨r1,_,_⟩:=zG5 h.good
   obtain ⟨r2,f2,_⟩:=zG5 hq
   refine ⟨E,S',h1,⟨h2,?_,h3,hok',hq⟩,h5⟩
   rw [h4,h.rows]
   exact yU6 r1 r2 (fun c hc=>(f2 c hc).2)
open Go.RowKit Go.Sort
theorem uC9 {a b:List Change}(ha:RisesX a)(hb:RisesX b):(zH9 a b).length=(xR2 a b).length+(vA6 a b).length:=by
 have hp:=List.mergeSort_perm (xR2 a b++vA6 a b) (fun x y=> !bLt y.key x.key)
 have hs:=List.pairwise_mergeSort (le:=fun x y:Change=> !bLt y.key x.key) (fun x y z h1 h2=>by
  simp only [Bool.not_eq_true'] at h1 h2 ⊢
  cases h3:bLt z.key x.key
  · rfl
  · cases h4:bLt x.key y.key
    · have:=xH2 h4 h1
      rw [this,h2] at h3;cases h3
    · rw [zG2 h3 h4] at h2;cases h2) (fun x y=>by
  cases h:bLt y.key x.key
  · rfl
  · rw [xZ9 h];rfl) (xR2 a b++vA6 a b)
 have h:=yV2 ha hb hp (hs.imp (fun h=>by simpa using h))
 rw [←h,hp.length_eq,List.length_append]
def yK2 (l l0:List File):Nat:=(l.filter (fun f=>decide (f ∉ l0))).length
theorem uB4 (q q' :Quilt)(h:zB2 q=0):(vA6 (zE7 q) (zE7 q')).length≤yK2 q'.files q.files+1:=by
 obtain ⟨r1,_,_⟩:=zG5 h
 unfold vA6
 have e:zE7 q' =q'.files.map yT2++ [zN9 q'.turn]:=rfl
 rw [e,List.filter_append,List.length_append]
 have h1:([zN9 q'.turn].filter (yT6 (zE7 q))).length≤1:=List.length_filter_le _ _
 have h2:((q'.files.map yT2).filter (yT6 (zE7 q))).length≤yK2 q'.files q.files:=by
  rw [List.filter_map,List.length_map]
  unfold yK2
  rw [←List.countP_eq_length_filter,←List.countP_eq_length_filter]
  refine List.countP_mono_left (fun f _ hf=>?_)
  refine decide_eq_true (fun hm=>?_)
  have h3:yT6 (zE7 q) (yT2 f)=true:=hf
  rw [xV4 r1] at h3
  exact h3 (List.mem_append_left _ (List.mem_map.2 ⟨f,hm,rfl⟩))
 omega
theorem uN1 {l:List File}(f:File)(hr:Rises l)(l0:List File):yK2 (zV8 l f) l0≤yK2 l l0+1:=by
 rw [yB4 l f hr _ rfl]
 unfold yK2
 obtain ⟨m,hm⟩:∃m,m=if yS3 l f.name (zR1 l f.name)=true then zR1 l f.name+1 else zR1 l f.name:=⟨_,rfl⟩
 have hmr:zR1 l f.name≤m:=by rw [hm];split <;> omega
 rw [←hm,List.filter_append,List.length_append,List.filter_cons]
 have h1:((l.drop m).filter (fun f=>decide (f ∉ l0))).length≤((l.drop (zR1 l f.name)).filter (fun f=>decide (f ∉ l0))).length:=by
  refine List.Sublist.length_le (List.Sublist.filter _ ?_)
  obtain ⟨d,rfl⟩:∃d,m=zR1 l f.name+d:=⟨m - zR1 l f.name,by omega⟩
  rw [←List.drop_drop]
  exact List.drop_sublist _ _
 have h2:(l.filter (fun f=>decide (f ∉ l0))).length=((l.take (zR1 l f.name)).filter (fun f=>decide (f ∉ l0))).length+((l.drop (zR1 l f.name)).filter (fun f=>decide (f ∉ l0))).length:=by
  rw [←List.length_append,←List.filter_append,List.take_append_drop]
 split
 · rw [List.length_cons];omega
 · omega
theorem uC3 (l:List File):yK2 l l=0:=by
 unfold yK2
 rw [List.length_eq_zero_iff,List.filter_eq_nil_iff]
 intro f hf
 simp [hf]
theorem xD5 (l l0:List File)(p:File→Bool):yK2 (l.filter p) l0≤yK2 l l0:=List.Sublist.length_le (List.Sublist.filter _ List.filter_sublist)
theorem yJ1 {l:List File}{f:File}(hr:Rises l)(l0:List File)(h0:(zM0 l f).2=0):yK2 (zM0 l f).1 l0≤yK2 l l0+1:=by
 rw [(put_ok h0).1]
 exact uN1 f hr l0
theorem uN2 {q:Quilt}(h:Good q)(a:Act)(h0:(yN0 q a).2=0):yK2 (yN0 q a).1.files q.files≤2:=by
 have hz:=uC3 q.files
 unfold yN0 at h0 ⊢
 split
 · rename_i hh
   rw [if_pos hh] at h0
   unfold zE5 at h0 ⊢
   obtain ⟨e,e2,_⟩:=xD3 h0
   rw [e]
   have:=yJ1 h.fine.rises q.files e2
   dsimp only
   omega
 · rename_i hh
   rw [if_neg hh] at h0
   split
   · rename_i hh
     rw [if_pos hh] at h0
     unfold zF5 at h0 ⊢
     obtain ⟨e,e2,_⟩:=xD3 h0
     rw [e]
     dsimp only
     unfold zK4
     split
     · have:=xD5 q.files q.files (fun f=>f.name.toList != a.s.toList)
       dsimp only
       omega
     · simp [yK2]
   · rename_i hh
     rw [if_neg hh] at h0
     split
     · rename_i hh
       rw [if_pos hh] at h0
       unfold zC3 at h0 ⊢
       cases hg:zC6 q.files a.s with
       | none=>rw [hg] at h0;cases h0
       | some f=>
        rw [hg] at h0
        dsimp only at h0 ⊢
        split at h0
        · rename_i hn;exact absurd h0 hn
        · split at h0
          · cases h0
          · rename_i h1 h2
            rw [if_neg h1,if_neg h2]
            obtain ⟨e,e2,_⟩:=xD3 h0
            rw [e]
            have hd:=yH9 h.fine a.s
            have h3:=yJ1 hd.rises q.files e2
            have h4:yK2 (zK4 q.files a.s).1 q.files≤0:=by
             unfold zK4
             split
             · have:=xD5 q.files q.files (fun f=>f.name.toList != a.s.toList)
               dsimp only
               omega
             · simp [yK2]
            dsimp only
            omega
     · rename_i hh
       rw [if_neg hh] at h0
       split
       · rename_i hh
         rw [if_pos hh] at h0
         unfold zC0 at h0 ⊢
         cases hx:zC6 q.files a.s with
         | none=>rw [hx] at h0;cases h0
         | some x=>
          cases hy:zC6 q.files a.t with
          | none=>rw [hx,hy] at h0;cases h0
          | some y=>
           rw [hx,hy] at h0
           dsimp only at h0 ⊢
           split at h0
           · cases h0
           · rename_i h9
             rw [if_neg h9]
             split at h0
             · rename_i hab
               rw [if_pos hab]
               obtain ⟨e,e2,_⟩:=xD3 h0
               rw [e]
               dsimp only
               omega
             · rename_i hab
               rw [if_neg hab]
               obtain ⟨e,e2,_⟩:=xD3 h0
               rw [e]
               obtain ⟨l1,p1,f1,p2⟩:=xS1 h.fine hx hy (by simpa using hab) h9
               have n1:=yJ1 h.fine.rises q.files (f:=⟨x.name,y.text,x.times+1⟩) (by rw [p1])
               have n2:=yJ1 f1.rises q.files (f:=⟨y.name,x.text,y.times+1⟩) (by rw [p2])
               rw [p1] at n1
               rw [p2] at n2
               dsimp only at n1 n2 ⊢
               omega
       · dsimp only
         omega
theorem uI5 {q:Quilt}(h:Good q)(a:Act)(h0:(yN0 q a).2=0):(zH9 (zE7 q) (zE7 (yN0 q a).1)).length≤14:=by
 have hq:=zJ0 h
 have hq' :=zJ0 (uG8 h a h0)
 obtain ⟨r1,_,l1⟩:=zG5 hq
 obtain ⟨r2,_,l2⟩:=zG5 hq'
 rw [uC9 r1 r2]
 have h1:(xR2 (zE7 q) (zE7 (yN0 q a).1)).length≤(zE7 q).length:=by
  unfold xR2
  rw [List.length_map]
  exact List.length_filter_le _ _
 have h2:=uB4 q (yN0 q a).1 hq
 have h3:=uN2 h a h0
 omega
open Go.RowKit Go.Sort
theorem xL2 :∀(f:Nat) (t:List UInt8) (acc r:List Change),(∀c∈acc,zA2 c=0)→zJ2 f t acc=some r→(∀c∈r,zA2 c=0)∧3 * r.length≤3 * acc.length+t.length
 | 0,t,acc,r,ha,h=>by
  simp only [zJ2,Option.some.injEq] at h
  subst h
  exact ⟨ha,by omega⟩
 | f+1,t,acc,r,ha,h=>by
  match t,h with
  | [],h=>
   simp only [zJ2,Option.some.injEq] at h
   subst h
   exact ⟨ha,by omega⟩
  | [_],h=>simp [zJ2] at h
  | [_,_],h=>simp [zJ2] at h
  | k::v::u::t,h=>
   simp only [zJ2] at h
   split at h
   · cases h
   · split at h
     · cases h
     · rename_i h1 h2
       have key:∀(z:Change) (t' :List UInt8),zA2 z=0→t'.length≤t.length→zJ2 f t' (yE5 acc z)=some r→(∀c∈r,zA2 c=0)∧3 * r.length≤3 * acc.length+(k::v::u::t).length:=fun z t' hz ht hp=>by
        obtain ⟨q1,q2⟩:=xL2 f _ _ r (fun c hc=>by
         rcases uI2 hc with hc | ⟨rfl,_⟩
         · exact ha c hc
         · exact hz) hp
        have h3:=xQ9 acc z
        refine ⟨q1,?_⟩
        simp only [List.length_cons]
        omega
       exact key _ _ (by simpa using h2) (by rw [List.length_drop];omega) h
theorem xQ7 {s:ByteArray}(h:(zH4 s).2=0):zA2 (zH4 s).1=0:=by
 unfold zH4 at h ⊢
 split at h
 · cases h
 · rename_i h1
   rw [dif_neg h1]
   unfold zR9 at h ⊢
   split at h
   · cases h
   · rename_i h2
     rw [if_neg h2]
     split at h
     · cases h
     · rename_i h3
       rw [if_neg h3]
       simpa using h3
theorem vX4 {first i:Nat}{s:ByteArray}{o o' :List (List Change)}{d d' :List Change}{u u' :Nat}(h:zX1 first i s o d u=some (o',d',u'))(ho:∀e∈o,∀c∈e,zA2 c=0)(hd:∀c∈d,zA2 c=0):
 (∀e∈o',∀c∈e,zA2 c=0)∧(∀c∈d',zA2 c=0):=by
 unfold zX1 at h
 split at h
 · cases h
 · split at h
   · split at h
     · simp only [Option.some.injEq,Prod.mk.injEq] at h
       obtain ⟨rfl,rfl,_⟩:=h
       refine ⟨fun e he=>?_,fun c hc=>by cases hc⟩
       rcases List.mem_append.1 he with he | he
       · exact ho e he
       · rw [List.mem_singleton.1 he];exact hd
     · cases h
   · split at h
     · cases h
     · rename_i h3
       simp only [Option.some.injEq,Prod.mk.injEq] at h
       obtain ⟨rfl,rfl,_⟩:=h
       refine ⟨ho,fun c hc=>?_⟩
       rcases List.mem_append.1 hc with hc | hc
       · exact hd c hc
       · rw [List.mem_singleton.1 hc];exact xQ7 (by simpa using h3)
theorem xG7 (first:Nat):∀(l:List ByteArray) (i:Nat) (o:List (List Change)) (d:List Change) (u:Nat),(∀e∈o,∀c∈e,zA2 c=0)→(∀c∈d,zA2 c=0)→∀e∈(zC4 first l i o d u).1,∀c∈e,zA2 c=0
 | [],_,o,_,_,ho,_=>ho
 | s::r,i,o,d,u,ho,hd=>by
  cases hs:zX1 first i s o d u with
  | none=>rw [zC4,hs];exact ho
  | some p=>
   obtain ⟨o',d',u'⟩:=p
   rw [zC4,hs]
   obtain ⟨h1,h2⟩:=vX4 hs ho hd
   exact xG7 first r (i+1) o' d' u' h1 h2
theorem xC0 :∀(ds:List (List Change)) (base:List Change),(∀c∈base,zA2 c=0)→(∀e∈ds,∀c∈e,zA2 c=0)→(∀c∈zR0 ds base,zA2 c=0)∧(zR0 ds base).length≤base.length+zX3 ds
 | [],base,hb,_=>⟨hb,Nat.le_add_right _ _⟩
 | e::r,base,hb,he=>by
  have h1:∀c∈e.foldl yE5 base,zA2 c=0:=fun c hc=>by
   rcases xQ3 e base c hc with h | ⟨h,_⟩
   · exact hb c h
   · exact he e (List.mem_cons_self ..) c h
  have hl:∀(e base:List Change),(e.foldl yE5 base).length≤base.length+e.length:=by
   intro e
   induction e with
   | nil=>intro b;exact Nat.le_refl _
   | cons x e ih=>
    intro b
    have:=ih (yE5 b x)
    have h2:=xQ9 b x
    simp only [List.foldl_cons,List.length_cons]
    omega
  obtain ⟨h2,h3⟩:=xC0 r (e.foldl yE5 base) h1 (fun e' h=>he e' (List.mem_cons_of_mem _ h))
  refine ⟨h2,?_⟩
  have h4:=hl e base
  have h5:zX3 (e::r)=e.length+1+zX3 r:=by simp [zX3]
  have h6:zR0 (e::r) base=zR0 r (e.foldl yE5 base):=rfl
  rw [h6,h5]
  omega
theorem vE2 {c:Change}(h:zA2 c=0):c.ok:=by
 obtain ⟨h1,h2⟩:=zY7 h
 unfold Change.ok maxLen
 omega
theorem uB6 {D:DiskS}{S:StS}(h:yP6 D=some S)(hn:D.now.length≤60)(h26:26≤D.now.length):(∀c∈S.rows,zA2 c=0)∧S.rows.length≤200:=by
 unfold yP6 at h
 dsimp only at h
 split at h
 · cases h
 · split at h
   · cases h
   · rename_i rows hp
     simp only [Option.some.injEq] at h
     subst h
     have hz:(xC9 (D.now.getD 0 ⟨#[]⟩) (D.now.getD 1 ⟨#[]⟩)).size≤480:=by rw [←vQ9];exact (yT5 D 2).2.1
     obtain ⟨q1,q2⟩:=xL2 _ _ _ _ (fun c hc=>by cases hc) hp
     have hd:=xG7 (xC9 (D.now.getD 0 ⟨#[]⟩) (D.now.getD 1 ⟨#[]⟩)).first (zB1 D 26 (D.now.length - 26)) 0 [] [] 0 (fun e he=>by cases he) (fun c hc=>by cases hc)
     obtain ⟨q3,q4⟩:=xC0 _ rows q1 hd
     refine ⟨q3,Nat.le_trans q4 ?_⟩
     have hm:=yN1 (xC9 (D.now.getD 0 ⟨#[]⟩) (D.now.getD 1 ⟨#[]⟩)).first (zB1 D 26 (D.now.length - 26)) 0 [] [] 0 (by simp [zX3])
     rw [zJ7 (by omega)] at hm
     have ht:(List.take (xC9 (D.now.getD 0 ⟨#[]⟩) (D.now.getD 1 ⟨#[]⟩)).size (yA1 D (xC9 (D.now.getD 0 ⟨#[]⟩) (D.now.getD 1 ⟨#[]⟩)).side)).length≤480:=by rw [List.length_take];omega
     simp only [List.length_nil] at q2
     omega
def zQ4 (D:Nat→DiskS):Trio:=⟨copyC (D 0),copyC (D 1),copyC (D 2)⟩
theorem yI4 (D:Nat→DiskS)(k:Nat)(hk:k<3):(zQ4 D).at k=copyC (D k):=by
 match k,hk with
 | 0,_=>rfl
 | 1,_=>rfl
 | 2,_=>rfl
theorem yT0 (a:Copy):zC7 a a=true:=by simp [zC7]
theorem vY1 {a:Copy}{q:Quilt}(h:zC7 a ⟨true,q⟩=true):a=⟨true,q⟩:=by
 obtain ⟨i,p⟩:=a
 simp only [zC7,Bool.and_eq_true,beq_iff_eq] at h
 obtain ⟨rfl,h⟩:=h
 simp at h
 rw [h]
theorem xO1 {a:Copy}{q:Quilt}(h:a≠⟨true,q⟩):zC7 a ⟨true,q⟩=false:=by
 cases e:zC7 a ⟨true,q⟩
 · rfl
 · exact absurd (vY1 e) h
theorem xR7 {t:Trio}{q:Quilt}{k:Nat}(hk:k<3)(h:∀i,i<3→i≠k→t.at i=⟨true,q⟩):
 yA7 t=q∧yA8 t=0∧zS5 t q=if zC7 (t.at k) ⟨true,q⟩=true then [] else [(k:Int)]:=by
 obtain ⟨a,b,c⟩:=t
 match k,hk with
 | 0,_=>
  obtain rfl:b=⟨true,q⟩:=h 1 (by decide) (by decide)
  obtain rfl:c=⟨true,q⟩:=h 2 (by decide) (by decide)
  refine ⟨?_,?_,?_⟩
  · by_cases e:a=⟨true,q⟩
    · subst e;exact (xB0 _ (by simp [yK6,Trio.at,yT0])).1
    · exact (vV7 _ (by simp [yK6,Trio.at,xO1 e]) (by simp [yK6,Trio.at,yT0])).1
  · by_cases e:a=⟨true,q⟩
    · subst e;exact (xB0 _ (by simp [yK6,Trio.at,yT0])).2
    · exact (vV7 _ (by simp [yK6,Trio.at,xO1 e]) (by simp [yK6,Trio.at,yT0])).2
  · unfold zS5 zL4
    rw [show List.range 3= [0,1,2] from rfl]
    show _=if zC7 a ⟨true,q⟩=true then _ else _
    cases e:zC7 a ⟨true,q⟩ <;> simp [yF3,Trio.at,yT0,e]
 | 1,_=>
  obtain rfl:a=⟨true,q⟩:=h 0 (by decide) (by decide)
  obtain rfl:c=⟨true,q⟩:=h 2 (by decide) (by decide)
  refine ⟨(xB0 _ (by simp [yK6,Trio.at,yT0])).1,(xB0 _ (by simp [yK6,Trio.at,yT0])).2,?_⟩
  unfold zS5 zL4
  rw [show List.range 3= [0,1,2] from rfl]
  show _=if zC7 b ⟨true,q⟩=true then _ else _
  cases e:zC7 b ⟨true,q⟩ <;> simp [yF3,Trio.at,yT0,e]
 | 2,_=>
  obtain rfl:a=⟨true,q⟩:=h 0 (by decide) (by decide)
  obtain rfl:b=⟨true,q⟩:=h 1 (by decide) (by decide)
  refine ⟨(xB0 _ (by simp [yK6,Trio.at,yT0])).1,(xB0 _ (by simp [yK6,Trio.at,yT0])).2,?_⟩
  unfold zS5 zL4
  rw [show List.range 3= [0,1,2] from rfl]
  show _=if zC7 c ⟨true,q⟩=true then _ else _
  cases e:zC7 c ⟨true,q⟩ <;> simp [yF3,Trio.at,yT0,e]
theorem xR4 {t:Trio}{q:Quilt}{k:Nat}(hk:k<3):(k:Int)∈zS5 t q↔t.at k≠⟨true,q⟩:=by
 unfold zS5 zL4
 rw [show List.range 3= [0,1,2] from rfl,List.mem_map]
 constructor
 · rintro ⟨n,hn,he⟩
   obtain rfl:n=k:=by omega
   have:=(List.mem_filter.1 hn).2
   unfold yF3 at this
   intro e
   rw [e,yT0] at this
   cases this
 · intro h
   refine ⟨k,List.mem_filter.2 ⟨?_,?_⟩,rfl⟩
   · match k,hk with
     | 0,_=>simp
     | 1,_=>simp
     | 2,_=>simp
   · unfold yF3
     rw [xO1 h];rfl
theorem xM7 {D:DiskS}{S:StS}{q:Quilt}(h1:yP6 D=some S)(h2:zY0 S.rows=some q):yF2 D=some (S,q):=by
 unfold yF2
 rw [h1]
 dsimp only
 rw [h2]
 rfl
open Go.RowKit Go.Sort
structure HasI (D:DiskS) (S:StS) (q:Quilt):Prop where
 inv:InvZ 34 D S
 rows:S.rows=zE7 q
 ok:D.ok
 good:zB2 q=0
theorem HasQ.i {D:DiskS}{S:StS}{q:Quilt}(h:HasQ D S q):HasI D S q:=⟨h.inv,h.rows,h.ok,h.good⟩
theorem HasI.copy {D:DiskS}{S:StS}{q:Quilt}(h:HasI D S q):yF2 D=some (S,q):=by
 refine xM7 h.inv.open ?_
 rw [h.rows]
 exact xL1 h.good
theorem HasI.restart {D:DiskS}{S:StS}{q:Quilt}(h:HasI D S q)(keep:Int):HasQ (zC1 D keep) S q:=⟨h.inv.restart keep,h.rows,yG3 D keep,h.ok.restart keep,h.good⟩
theorem xQ5 {D:DiskS}{S:StS}{q q' :Quilt}(h:HasI D S q)(hq:zB2 q' =0)(hl:(zH9 (zE7 q) (zE7 q')).length≤14)(hE:S.h.epoch≤1000000):
 (∃E S',zH2 34 S (zH9 (zE7 q) (zE7 q')) D=(E,S',0)∧HasI E S' q' ∧S'.h.epoch≤S.h.epoch+1)∨
 (∃E S',zH2 34 S (zH9 (zE7 q) (zE7 q')) D=(E,S',8)∧∀keep,∃S1,(HasQ (zC1 E keep) S1 q∨HasQ (zC1 E keep) S1 q')∧S1.h.epoch≤S.h.epoch+1):=by
 have hf:=xF7 h.good hq hl
 have hok' :=yD7 zU4 34 S (zH9 (zE7 q) (zE7 q')) D h.ok
 obtain ⟨r1,_,_⟩:=zG5 h.good
 obtain ⟨r2,f2,_⟩:=zG5 hq
 have hm:=yU6 r1 r2 (fun c hc=>(f2 c hc).2)
 rcases yW7 (zH9 (zE7 q) (zE7 q')) h.inv hE with ⟨h0,_⟩ | ⟨_,E,S',h1,h2,h3,h4,_⟩ | ⟨_,E,S',h1,h2,h3⟩
 · rw [h.rows] at h0;exact absurd hf h0
 · rw [h1] at hok'
   exact Or.inl ⟨E,S',h1,⟨h2,by rw [h3,h.rows];exact hm,hok',hq⟩,h4⟩
 · rw [h1] at hok'
   refine Or.inr ⟨E,S',h1,fun keep=>?_⟩
   obtain ⟨S1,i1,i2,i3⟩:=h3 keep
   refine ⟨S1,?_,i3⟩
   rcases i2 with i2 | i2
   · exact Or.inl ⟨i1,by rw [i2];exact h.rows,yG3 E keep,hok'.restart keep,h.good⟩
   · exact Or.inr ⟨i1,by rw [i2,h.rows];exact hm,yG3 E keep,hok'.restart keep,hq⟩
end Go.Proofs.YtggpodlecljcbabGreatDoor
