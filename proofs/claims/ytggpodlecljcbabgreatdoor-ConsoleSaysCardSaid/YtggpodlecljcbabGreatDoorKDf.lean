/- Plain: chapter 4: in which files two differ. -/
import Derived.Sort.Walk0
import Derived.Test.YtggpodlecljcbabGreatDoorShelfSort
import Derived.Lib.SortBridge
import Derived.Test.YtggpodlecljcbabGreatDoorKR
import Derived.Test.YtggpodlecljcbabGreatDoorKBase
namespace Go.Proofs.YtggpodlecljcbabGreatDoor
set_option linter.unusedSimpArgs false
set_option linter.unusedVariables false
set_option maxRecDepth 100000
set_option maxHeartbeats 64000000
open Lib (hid)
theorem bts {a b:ByteArray}(h:a.toList=b.toList):a=b:=(zG7 a b).1 h
def xK1 (b:List File)(f:File):Bool:=decide (zC6 b f.name=some f)
def vA5 (a b:List File):List ByteArray:=(a.filter (fun f=> !xK1 b f)).map File.name
def vA4 (a b:List File):List ByteArray:=(b.filter (fun g=>(zC6 a g.name).isNone)).map File.name
def rawD (a b:List File):List ByteArray:=vA5 a b++vA4 a b
theorem xQ1 {l:List File}(h:Rises l){f:File}(hf:f∈l):zC6 l f.name=some f:=(uF5 h f.name f).2 ⟨hf,rfl⟩
theorem uF6 {l:List File}(h:Rises l){x:ByteArray}{f:File}(hg:zC6 l x=some f):f∈l∧f.name=x:=by
 obtain ⟨h1,h2⟩:=(uF5 h x f).1 hg
 exact ⟨h1,bts h2⟩
theorem vK5 {a b:List File}(ha:Rises a)(x:ByteArray):x∈vA5 a b↔∃f,zC6 a x=some f∧zC6 b x≠some f:=by
 unfold vA5
 rw [List.mem_map]
 constructor
 · rintro ⟨f,hf,rfl⟩
   rw [List.mem_filter] at hf
   exact ⟨f,xQ1 ha hf.1,by simpa [xK1] using hf.2⟩
 · rintro ⟨f,h1,h2⟩
   obtain ⟨hm,rfl⟩:=uF6 ha h1
   exact ⟨f,List.mem_filter.mpr ⟨hm,by simpa [xK1] using h2⟩,rfl⟩
theorem vK4 {a b:List File}(hb:Rises b)(x:ByteArray):x∈vA4 a b↔zC6 a x=none∧∃g,zC6 b x=some g:=by
 unfold vA4
 rw [List.mem_map]
 constructor
 · rintro ⟨f,hf,rfl⟩
   rw [List.mem_filter] at hf
   exact ⟨by simpa using hf.2,f,xQ1 hb hf.1⟩
 · rintro ⟨h1,f,h2⟩
   obtain ⟨hm,rfl⟩:=uF6 hb h2
   exact ⟨f,List.mem_filter.mpr ⟨hm,by simp [h1]⟩,rfl⟩
theorem uN7 {a b:List File}(ha:Rises a)(hb:Rises b)(x:ByteArray):x∈rawD a b↔zC6 a x≠zC6 b x:=by
 unfold rawD
 rw [List.mem_append,vK5 ha,vK4 hb]
 cases h1:zC6 a x with
 | none=>
  cases h2:zC6 b x with
  | none=>simp
  | some g=>simp
 | some f=>simp [eq_comm]
theorem xD6 {l:List File}(h:Rises l)(p:File→Bool):((l.filter p).map File.name).Nodup:=by
 unfold List.Nodup
 rw [List.pairwise_map]
 refine List.Pairwise.imp ?_ (List.Pairwise.filter p h)
 intro x y hxy e
 rw [e,zJ6] at hxy
 cases hxy
theorem vQ4 {a b:List File}(ha:Rises a)(hb:Rises b):(rawD a b).Nodup:=by
 unfold rawD
 rw [List.nodup_append]
 refine ⟨xD6 ha _,xD6 hb _,?_⟩
 intro x hx y hy e
 subst e
 obtain ⟨f,hf,_⟩:=(vK5 ha x).1 hx
 rw [(vK4 hb x).1 hy |>.1] at hf
 cases hf
def zP6 :List File→List File→List ByteArray
 | [],b=>b.map File.name
 | f::a, []=>(f::a).map File.name
 | f::a,g::b=>if bLt f.name g.name then f.name::zP6 a (g::b) else if bLt g.name f.name then g.name::zP6 (f::a) b else (if f=g then [] else [f.name])++zP6 a b
termination_by a b=>a.length+b.length
def UpL (l:List ByteArray):Prop:=l.Pairwise (fun a b=>bLt a b=true)
theorem yZ5 (f:File)(l:List File)(x:ByteArray):zC6 (f::l) x=if f.name=x then some f else zC6 l x:=by
 unfold zC6
 rw [List.find?_cons]
 by_cases h:f.name=x
 · subst h;simp
 · have h2:(f.name.toList==x.toList)=false:=by
    rw [beq_eq_false_iff_ne];intro e;exact h (bts e)
   simp only [h2,if_neg h]
theorem xQ2 {l:List File}{x:ByteArray}(h:∀g∈l,bLt x g.name=true):zC6 l x=none:=by
 rw [xW7]
 intro g hg e
 have:=h g hg
 rw [bts e,zJ6] at this
 cases this
theorem yI6 {f:File}{l:List File}(h:Rises (f::l)):(∀g∈l,bLt f.name g.name=true)∧Rises l:=List.pairwise_cons.1 h
theorem yH4 {l:List File}(x:ByteArray):(∃f,zC6 l x=some f)→∃f∈l,f.name=x:=by
 rintro ⟨f,hf⟩
 unfold zC6 at hf
 exact ⟨f,List.mem_of_find?_eq_some hf,bts (by simpa using List.find?_some hf)⟩
theorem xV5 {l:List File}(h:Rises l)(x:ByteArray):x∈l.map File.name↔zC6 l x≠none:=by
 rw [List.mem_map]
 constructor
 · rintro ⟨f,hf,rfl⟩ e
   rw [xQ1 h hf] at e
   cases e
 · intro hne
   cases e:zC6 l x with
   | none=>exact absurd e hne
   | some f=>exact yH4 x ⟨f,e⟩
theorem bLt_eq {a b:ByteArray}(h1:bLt a b=false)(h2:bLt b a=false):a=b:=by
 refine bts (Classical.byContradiction fun hn=>?_)
 have:=yT7 _ _ h1 hn
 unfold bLt at h2
 rw [h2] at this
 cases this
theorem yB7 :∀(a b:List File),Rises a→Rises b→∀x,x∈zP6 a b↔zC6 a x≠zC6 b x
 | [],b,_,hb,x=>by
  unfold zP6
  rw [xV5 hb]
  show _↔(none:Option File)≠_
  exact ⟨fun h e=>h e.symm,fun h e=>h e.symm⟩
 | f::a, [],ha,_,x=>by
  unfold zP6
  rw [xV5 ha]
  show _↔_≠(none:Option File)
  rfl
 | f::a,g::b,ha,hb,x=>by
  obtain ⟨la,ra⟩:=yI6 ha
  obtain ⟨lb,rb⟩:=yI6 hb
  unfold zP6
  cases h1:bLt f.name g.name
  · cases h2:bLt g.name f.name
    · have e:f.name=g.name:=bLt_eq h1 h2
      have ih:=yB7 a b ra rb x
      simp only [Bool.false_eq_true,if_false]
      rw [List.mem_append,ih,yZ5 f,yZ5 g,←e]
      by_cases hx:f.name=x
      · subst hx
        rw [if_pos rfl,if_pos rfl,xQ2 la,xQ2 (by rw [e];exact lb)]
        by_cases hfg:f=g
        · simp [hfg]
        · simp [hfg]
      · rw [if_neg hx,if_neg hx]
        have:x ∉ (if f=g then [] else [f.name]):=by
         split
         · simp
         · simp;exact fun h=>hx h.symm
        simp [this]
    · have ih:=yB7 (f::a) b ha rb x
      simp only [Bool.false_eq_true,if_false,if_true]
      rw [List.mem_cons,ih,yZ5 g]
      by_cases hx:g.name=x
      · subst hx
        rw [if_pos rfl,xQ2 (l:=f::a) (fun y hy=>by rcases List.mem_cons.1 hy with rfl | hy;exact h2;exact zG2 h2 (la y hy))]
        simp
      · rw [if_neg hx]
        simp
        exact fun h=>absurd h.symm hx
  · have ih:=yB7 a (g::b) ra hb x
    simp only [if_true]
    rw [List.mem_cons,ih,yZ5 f]
    by_cases hx:f.name=x
    · subst hx
      rw [if_pos rfl,xQ2 (l:=g::b) (fun y hy=>by rcases List.mem_cons.1 hy with rfl | hy;exact h1;exact zG2 h1 (lb y hy))]
      simp
    · rw [if_neg hx]
      simp
      exact fun h=>absurd h.symm hx
termination_by a b=>a.length+b.length
theorem zW0 {a b:List File}(ha:Rises a)(hb:Rises b){x:ByteArray}(h:x∈zP6 a b):(∃f∈a,f.name=x)∨∃g∈b,g.name=x:=by
 rw [yB7 a b ha hb] at h
 cases e:zC6 a x with
 | some f=>exact Or.inl (yH4 x ⟨f,e⟩)
 | none=>
  cases e2:zC6 b x with
  | some f=>exact Or.inr (yH4 x ⟨f,e2⟩)
  | none=>exact absurd (e.trans e2.symm) h
theorem vI6 {l:List File}(h:Rises l):UpL (l.map File.name):=by
 unfold UpL
 rw [List.pairwise_map]
 exact h
theorem yF8 :∀(a b:List File),Rises a→Rises b→UpL (zP6 a b)
 | [],b,_,hb=>by unfold zP6;exact vI6 hb
 | f::a, [],ha,_=>by unfold zP6;exact vI6 ha
 | f::a,g::b,ha,hb=>by
  obtain ⟨la,ra⟩:=yI6 ha
  obtain ⟨lb,rb⟩:=yI6 hb
  unfold zP6
  cases h1:bLt f.name g.name
  · cases h2:bLt g.name f.name
    · have e:f.name=g.name:=bLt_eq h1 h2
      have ih:=yF8 a b ra rb
      simp only [Bool.false_eq_true,if_false]
      split
      · exact ih
      · refine List.Pairwise.cons ?_ ih
        intro x hx
        rcases zW0 ra rb hx with ⟨y,hy,rfl⟩ | ⟨y,hy,rfl⟩
        · exact la y hy
        · rw [e];exact lb y hy
    · have ih:=yF8 (f::a) b ha rb
      simp only [Bool.false_eq_true,if_false,if_true]
      refine List.Pairwise.cons ?_ ih
      intro x hx
      rcases zW0 ha rb hx with ⟨y,hy,rfl⟩ | ⟨y,hy,rfl⟩
      · rcases List.mem_cons.1 hy with rfl | hy
        · exact h2
        · exact zG2 h2 (la y hy)
      · exact lb y hy
  · have ih:=yF8 a (g::b) ra hb
    simp only [if_true]
    refine List.Pairwise.cons ?_ ih
    intro x hx
    rcases zW0 ra hb hx with ⟨y,hy,rfl⟩ | ⟨y,hy,rfl⟩
    · exact la y hy
    · rcases List.mem_cons.1 hy with rfl | hy
      · exact h1
      · exact zG2 h1 (lb y hy)
termination_by a b=>a.length+b.length
theorem uJ4 {l:List ByteArray}(h:UpL l):l.Nodup:=by
 refine List.Pairwise.imp ?_ h
 intro x y hxy e
 rw [e,zJ6] at hxy
 cases hxy
theorem vR6 {a b:List File}(ha:Rises a)(hb:Rises b):(rawD a b).Perm (zP6 a b):=by
 rw [List.perm_ext_iff_of_nodup (vQ4 ha hb) (uJ4 (yF8 a b ha hb))]
 intro x
 rw [uN7 ha hb,yB7 a b ha hb]
def zU0 (s:ByteArray):List UInt8:=s.data.toList
theorem xZ8 (s:ByteArray):(⟨(zU0 s).toArray⟩:ByteArray)=s:=by cases s;simp [zU0]
theorem bLt_lt (a b:ByteArray):bLt a b=true↔zU0 a<zU0 b:=by
 unfold bLt zU0
 rw [zG6,zG6,Go.Proofs.bytesLess_eq]
 simp
theorem sort_up {l m:List ByteArray}(hp:l.Perm m)(hm:UpL m):(l.map zU0).mergeSort (fun x y=>decide (x≤y))=m.map zU0:=by
 have h1:((l.map zU0).mergeSort (fun x y=>decide (x≤y))).Perm (m.map zU0):=(List.mergeSort_perm _ _).trans (hp.map _)
 have h2:((l.map zU0).mergeSort (fun x y=>decide (x≤y))).Pairwise (fun x y=>decide (x≤y)=true):=List.pairwise_mergeSort (fun a b c h1 h2=>by simp only [decide_eq_true_eq] at *;exact List.le_trans h1 h2) (fun a b=>by simp only [Bool.or_eq_true,decide_eq_true_eq];exact List.le_total a b) _
 have h3:(m.map zU0).Pairwise (fun x y=>decide (x≤y)=true):=by
  rw [List.pairwise_map]
  refine List.Pairwise.imp ?_ hm
  intro x y hxy
  rw [decide_eq_true_eq]
  exact List.le_of_lt ((bLt_lt x y).1 hxy)
 exact List.Perm.eq_of_pairwise (fun x y _ _ h1 h2=>List.le_antisymm (of_decide_eq_true h1) (of_decide_eq_true h2)) h2 h3 h1
open Go.RowKit Go.Sort
structure QAt (w:World) (b:Nat) (v:Value) (t:Int):Prop where
 c0:w.cell? ⟨b,0,none⟩=some v
 c1:w.cell? ⟨b,1,none⟩=some (.int .i64 t)
 f0:w.frozen? ⟨b,0,none⟩=false
 f1:w.frozen? ⟨b,1,none⟩=false
 ns:NoStr w b
 lt:b<w.heap.size
theorem NoStr.below {w w' :World}{b:Nat}(h:NoStr w b)(hb:Below w.heap.size w w')(hl:b<w.heap.size):NoStr w' b:=fun o s hc=>by
 obtain ⟨k,_⟩:=zN2 hb
 rw [k _ _ hl] at hc
 exact h o s hc
theorem QAt.below {w w' :World}{b:Nat}{v:Value}{t:Int}(h:QAt w b v t)(hb:Below w.heap.size w w'):QAt w' b v t:=by
 obtain ⟨k,f⟩:=zN2 hb
 exact ⟨(k _ _ h.lt).trans h.c0,(k _ _ h.lt).trans h.c1,(f _ _ h.lt).trans h.f0,(f _ _ h.lt).trans h.f1,h.ns.below hb h.lt,Nat.lt_of_lt_of_le h.lt hb.size⟩
theorem QAt.new (w:World)(v:Value)(t:Int)(hv:∀s,v≠ .string s):QAt (w.alloc (.cells #[v, .int .i64 t] 32)) w.heap.size v t:=by
 refine ⟨by simp,by simp,by simp,by simp,?_,by simp⟩
 intro o s h
 rw [World.cell?_alloc_new] at h
 match o with
 | 0=>simp at h;exact hv s h
 | 1=>simp at h
 | o+2=>simp at h
open Go.RowKit Go.Sort
theorem xR1 :zQ3 Tryz.prog 56 9 1 16:=zO4 (z:= .string ⟨#[]⟩) Tryz.underlying56 (by kernel_rfl) rfl (by decide) (by decide)
theorem xP9 (w:World)(os:Array Obj):Below w.heap.size w (grow w os):=below_regrown w w.drawn os
theorem xH7 (w:World):Calls Tryz.prog 162 #[.slice none 0 0] w fun e w' =>e= .returned (.tuple #[])∧w' =w:= Tryz.slices_Sort_string_none none 0 w
theorem vO0 (base g cap:Nat)(l m:List ByteArray)(w:World)(ho:w.ownsRow base 9 1 (.slice (some ⟨g,0,none⟩) l.length cap) l.length (l.map .string))(hp:l.Perm m)(hm:UpL m)(hl:l.length≤1000000):
 Calls Tryz.prog 162 #[.slice (some ⟨g,0,none⟩) l.length cap] w fun e w' =>e= .returned (.tuple #[])∧w'.ownsRow base 9 1 (.slice (some ⟨g,0,none⟩) m.length cap) m.length (m.map .string)∧Below base w w' :=by
 have hlt:=ho.lt g rfl
 have hH:Holds encStr w g 0 (l.map zU0).toArray:=by
  intro j hj
  have hj' :j<l.length:=by simpa using hj
  have hc:=yP4 ho j (by simpa using hj')
  refine ⟨?_,yD0 ho _⟩
  rw [Nat.zero_add,hc]
  simp [hj',encStr,xZ8]
 have hlen:m.length=l.length:=hp.length_eq.symm
 have C:= Tryz.slices_Sort_string g 0 cap (l.map zU0) w hH hlt.2 (by simp;omega)
 rw [List.length_map] at C
 refine C.mono ?_
 rintro e w' ⟨rfl,n,os,rfl⟩
 refine ⟨rfl,?_⟩
 rw [sort_up hp hm,Go.Lib.sorted_world encStr w g 0 n (l.map zU0).toArray (m.map zU0) os hH (by simp [hlen])]
 have hmm:(m.map zU0).map encStr=m.map .string:=by
  rw [List.map_map]
  refine List.map_congr_left ?_
  intro s _
  show Value.string _=_
  rw [xZ8]
 rw [hmm]
 have h0:(w.drewN n).ownsRow base 9 1 (.slice (some ⟨g,0,none⟩) l.length cap) l.length (l.map .string):=ho
 have h1:=yP3 h0 (m.map .string) (by simp [hlen])
 rw [hlen]
 have hb:Below ((w.drewN n).setCells g 0 (m.map .string)).heap.size ((w.drewN n).setCells g 0 (m.map .string)) (grow ((w.drewN n).setCells g 0 (m.map .string)) os):=xP9 _ os
 refine ⟨zF4 h1 (fun k hk=>hb.block k (h1.lt k hk).2),?_⟩
 have hbase:base≤g:=hlt.1
 exact (zF8 hbase (m.map .string) 0 (w.drewN n) (B:=base) (a:=w) ⟨rfl,rfl,rfl,Nat.le_refl _,fun _ _=>rfl⟩).trans (hb.mono (by have:=(h1.lt g rfl);omega))
theorem xF5 (f g:File):zS4 f.name f.text f.times g.name g.text g.times=decide (f=g):=rfl
theorem vJ5 (a b:List File):(vA5 a b).length≤a.length:=by unfold vA5;rw [List.length_map];exact List.length_filter_le _ _
theorem vJ4 (a b:List File):(vA4 a b).length≤b.length:=by unfold vA4;rw [List.length_map];exact List.length_filter_le _ _
theorem vZ9 (a b:List File)(k:Nat)(h:k<a.length):vA5 (a.take (k+1)) b=if xK1 b a[k]=true then vA5 (a.take k) b else vA5 (a.take k) b++ [a[k].name]:=by
 unfold vA5
 rw [List.take_succ_eq_append_getElem h,List.filter_append,List.map_append]
 by_cases hs:xK1 b a[k]=true
 · rw [if_pos hs];simp [hs]
 · rw [if_neg hs];simp [hs]
theorem vZ8 (a b:List File)(k:Nat)(h:k<b.length):vA4 a (b.take (k+1))=if (zC6 a b[k].name).isNone=true then vA4 a (b.take k)++ [b[k].name] else vA4 a (b.take k):=by
 unfold vA4
 rw [List.take_succ_eq_append_getElem h,List.filter_append,List.map_append]
 by_cases hs:(zC6 a b[k].name).isNone=true
 · rw [if_pos hs];simp [hs]
 · rw [if_neg hs];simp [hs]
def yL7 (l:List ByteArray):List Value:=l.map .string
theorem xB4 (l:List ByteArray)(s:ByteArray):yL7 l++ [.string s]=yL7 (l++ [s]):=by simp [yL7]
theorem vB7 (base:Nat)(v:Value)(l m:List ByteArray)(w:World)(ho:w.ownsRow base 9 1 v l.length (yL7 l))(hp:l.Perm m)(hm:UpL m)(hl:l.length≤1000000)(hb:base≤w.heap.size):
 Calls Tryz.prog 162 #[v] w fun e w' =>e= .returned (.tuple #[])∧w'.ownsRow base 9 1 v m.length (yL7 m)∧Below base w w' :=by
 have hlen:m.length=l.length:=hp.length_eq.symm
 rcases ho.2 with ⟨rfl,h0⟩ | ⟨g,cap,cur,rfl,_⟩
 · have hm0:m= []:=List.eq_nil_of_length_eq_zero (by omega)
   refine (xH7 w).mono ?_
   rintro e w' ⟨rfl,rfl⟩
   exact ⟨rfl,by rw [hm0];exact World.ownsRow_nil _ _ _ _,Below.refl _ _⟩
 · refine (vO0 base g cap l m w ho hp hm hl).mono ?_
   rintro e w' ⟨rfl,h1,h2⟩
   exact ⟨rfl,hlen ▸ h1,h2⟩
theorem yH8 :∀l:List ByteArray,l.flatMap zD3=yL7 l
 | []=>rfl
 | x::r=>by rw [List.flatMap_cons,yH8 r];rfl
theorem uS5 {w:World}{base:Nat}{v:Value}{l:List ByteArray}(h:w.ownsRow base 9 1 v l.length (yL7 l)):Texts w v l:=by
 have h2:l.flatMap zD3=yL7 l:=yH8 l
 show SL w 1 v l.length (l.flatMap zD3)
 rw [h2]
 exact SL.of_own h
theorem xO9 (s:ByteArray):∀u∈ [Value.string s],u.oneCell' =true:=by intro u hu;simp at hu;subst hu;rfl
theorem vG4 (va vb:Value)(a b:List File)(ta tb:Int)(w:World)(ha:Files w va a)(hb:Files w vb b)(hra:Rises a)(hrb:Rises b)(hla:a.length≤8)(hlb:b.length≤8):
 Calls Tryz.prog 122 #[.agg #[va, .int .i64 ta], .agg #[vb, .int .i64 tb]] w fun e w' =>∃v,e= .returned v∧Texts w' v (zP6 a b)∧Below w.heap.size w w' :=by
 have CB:=hid fun W hw n=>zS6 vb b n W (Rd.below hb hw) hlb hrb
 have CA:=hid fun W hw n=>zS6 va a n W (Rd.below ha hw) hla hra
 obtain ⟨ao,ca,rfl,hca,hca'⟩:=ha.parts
 obtain ⟨bo,cb,rfl,hcb,hcb'⟩:=hb.parts
 obtain ⟨W1,hW1⟩:∃W1,W1=w.alloc (.cells #[.slice ao a.length ca, .int .i64 ta] 32):=⟨_,rfl⟩
 have B1:Below w.heap.size w W1:=by rw [hW1];exact zA0 _ _
 have Q1:QAt W1 w.heap.size (.slice ao a.length ca) ta:=by rw [hW1];exact QAt.new w _ _ (fun s h=>by cases h)
 have hz1:W1.heap.size=w.heap.size+1:=by rw [hW1];simp
 obtain ⟨W2,hW2⟩:∃W2,W2=W1.alloc (.cells #[.slice bo b.length cb, .int .i64 tb] 32):=⟨_,rfl⟩
 have B2:Below W1.heap.size W1 W2:=by rw [hW2];exact zA0 _ _
 have Q2:QAt W2 (w.heap.size+1) (.slice bo b.length cb) tb:=by rw [hW2,←hz1];exact QAt.new W1 _ _ (fun s h=>by cases h)
 have HQ1:=hid (Q1.below B2)
 have HQ2:=hid Q2
 have HB:=hid (two B1 B2)
 have HW1:=hid hW1
 have HW2:=hid hW2
 have HA:=hid ha
 have HBF:=hid hb
 have HRA:=hid hra
 have HRB:=hid hrb
 clear hW1 hW2 B1 B2 Q1 Q2 hz1 ha hb hra hrb
 go_enter Tryz.func122, Tryz.ntmps122
 have c0:=HQ1.out.c0
 go_wp2_with fail
 rw [←HW1.out,←HW2.out]
 go_wp2_with fail
 clear c0
 go_loopw [5,17] (fun v i wr=>∃k:Nat,k≤a.length∧i= .int .i64 k∧wr.ownsRow W2.heap.size 9 1 v (vA5 (a.take k) b).length (yL7 (vA5 (a.take k) b))∧Below W2.heap.size W2 wr) (fun _ i _=>a.length - (intOf i).toNat)
 case atStart=>exact ⟨0,Nat.zero_le _,rfl,World.ownsRow_nil _ _ _ _,Below.refl _ _⟩
 case round=>
  obtain ⟨k,hk,rfl,hown,hbw⟩:=hrel
  have HO:=hid hown
  have HBW:=hid hbw
  clear hown hbw
  by_cases hlt:k<a.length
  · obtain ⟨ba,oa,rfl,hlb,x0,x1,x2⟩:=Files.cell (HA.out.below HB.out) k hlt
    obtain ⟨kc,_⟩:=zN2 HBW.out
    replace x0:=(kc _ _ hlb).trans x0
    replace x1:=(kc _ _ hlb).trans x1
    replace x2:=(kc _ _ hlb).trans x2
    clear kc hlb
    have HN:=hid (vZ9 a b k hlt)
    obtain ⟨R,hR⟩:∃R,R=vA5 (a.take k) b:=⟨_,rfl⟩
    have HRL:Hid (R.length≤8):=hid (by rw [hR];have h1:=vJ5 (a.take k) b;have h2:(a.take k).length≤a.length:=List.length_take_le' _ _;omega)
    rw [←hR] at HO HN
    clear hR
    obtain ⟨f,hf⟩:∃f,f=a[k]:=⟨_,rfl⟩
    rw [←hf] at x0 x1 x2 HN
    have C:=CB.out
    have HC:=hid fun W hw=>CB.out W hw f.name
    obtain ⟨o,ho⟩:∃o,o=zC6 b f.name:=⟨_,rfl⟩
    have HS:Hid (xK1 b f=decide (o=some f)):=hid (by rw [ho];rfl)
    rw [←ho] at HC
    unfold zO5 zT2 File.val at HC
    have HBX:=hid (two HB.out HBW.out)
    have BF:=hid (zF0 wr f)
    obtain ⟨W4,hW4⟩:∃W4,W4=wr.alloc (.cells #[.string f.name, .string f.text, .int .i64 f.times] 102):=⟨_,rfl⟩
    have HB4:Hid (Below wr.heap.size wr W4):=hid (by rw [hW4];exact zA0 _ _)
    rw [←hW4] at BF
    have HW4:=hid hW4
    obtain ⟨g,hg⟩:∃g,g=o.getD yB6:=⟨_,rfl⟩
    rw [←hg] at HC
    clear C hf ho hW4
    cases hso:o.isSome
    · rw [hso] at HC
      have HNX:Hid (vA5 (a.take (k+1)) b=R++ [f.name]):=hid (by
       rw [HN.out,if_neg]
       rw [HS.out]
       cases o with
       | none=>simp
       | some x=>simp at hso)
      clear hg
      clear hso
      have q0:=(HQ2.out.below (two HBW.out HB4.out)).c0
      rw [HW4.out] at q0
      go_wp2_with fail
      rw [←HW4.out]
      rw [←HW4.out] at q0
      refine (HC.out W4 (two HBX.out HB4.out)).mono ?_
      rintro e w5 ⟨rfl,hb5⟩
      obtain ⟨W6,hW6⟩:∃W6,W6=w5.alloc (.cells #[.string g.name, .string g.text, .int .i64 g.times] 102):=⟨_,rfl⟩
      have HB6:Hid (Below wr.heap.size wr W6):=hid (by rw [hW6];exact two HB4.out (two hb5 (zA0 _ _)))
      have HG6:Hid (W6.cell? ⟨w5.heap.size,0,none⟩=some (.string g.name)∧W6.cell? ⟨w5.heap.size,1,none⟩=some (.string g.text)∧W6.cell? ⟨w5.heap.size,2,none⟩=some (.int .i64 g.times)):=hid (by rw [hW6];simp)
      have HF6:Hid (W6.cell? ⟨wr.heap.size,0,none⟩=some (.string f.name)∧W6.cell? ⟨wr.heap.size,1,none⟩=some (.string f.text)∧W6.cell? ⟨wr.heap.size,2,none⟩=some (.int .i64 f.times)):=hid (BF.out _ (by rw [hW6];exact two hb5 (zA0 _ _)))
      have HW6:=hid hW6
      clear hb5 q0 hW6
      obtain ⟨z0,z1,z2⟩:=HF6.out
      obtain ⟨g0,g1,g2⟩:=HG6.out
      rw [HW6.out] at z0 z1 z2 g0 g1 g2
      have HO6:=hid (HO.out.kept (⟨HB6.out.os,HB6.out.tape,HB6.out.output,HB6.out.size,fun j hj _=>HB6.out.block j hj⟩:World.grownBy _ _ none) (by cases h:Value.ownBlock _ <;> simp))
      go_upto_region 7 with (fail)
      rw [←HW6.out] at z0 z1 z2 g0 g1 g2 ⊢
      go_wp2_with (at_builtin;refine zB8 xR1 rfl _ _ rfl W2.heap.size _ _ _ rfl (HO6.out.alloc _) ⟨W6.heap.size,0,none⟩ 1 1 [.string f.name] rfl rfl ?c1 ?c2 ?c3 ?c4 ?_)
      case c1=>exact zL0
      case c2=>exact xO9 _
      case c3=>have:=HRL.out;omega
      case c4=>have:=(two HBW.out HB6.out).size;simp;omega
      intro v7 w7 hown7 hg7
      have HW7:=hid (zB0 ((two HBW.out HB6.out).trans ((zA0 W6 (.cells #[.string f.name] 9)).mono (two HBW.out HB6.out).size)) (HO6.out.alloc _) hg7 (Nat.le_refl _))
      have HO7:Hid (w7.ownsRow W2.heap.size 9 1 v7 (R++ [f.name]).length (yL7 (R++ [f.name]))):=hid (by rw [←xB4,List.length_append];exact hown7)
      clear hown7 hg7
      go_wp2_with fail
      go_roundw
      case rel=>exact ⟨k+1,by omega,by go_num,by rw [HNX.out];exact HO7.out,HW7.out⟩
      case measure=>simp [intOf];omega
    · rw [hso] at HC
      have hog:o=some g:=by
       cases o with
       | none=>simp at hso
       | some x=>simp at hg;rw [hg]
      by_cases hfg:f=g
      · have HNX:Hid (vA5 (a.take (k+1)) b=R):=hid (by
         rw [HN.out,if_pos]
         rw [HS.out,hog,hfg]
         simp)
        have hsame:zS4 f.name f.text f.times g.name g.text g.times=true:=by rw [xF5,decide_eq_true_eq];exact hfg
        clear hog hg hfg
        clear hso
        have q0:=(HQ2.out.below (two HBW.out HB4.out)).c0
        rw [HW4.out] at q0
        go_wp2_with fail
        rw [←HW4.out]
        rw [←HW4.out] at q0
        refine (HC.out W4 (two HBX.out HB4.out)).mono ?_
        rintro e w5 ⟨rfl,hb5⟩
        obtain ⟨W6,hW6⟩:∃W6,W6=w5.alloc (.cells #[.string g.name, .string g.text, .int .i64 g.times] 102):=⟨_,rfl⟩
        have HB6:Hid (Below wr.heap.size wr W6):=hid (by rw [hW6];exact two HB4.out (two hb5 (zA0 _ _)))
        have HG6:Hid (W6.cell? ⟨w5.heap.size,0,none⟩=some (.string g.name)∧W6.cell? ⟨w5.heap.size,1,none⟩=some (.string g.text)∧W6.cell? ⟨w5.heap.size,2,none⟩=some (.int .i64 g.times)):=hid (by rw [hW6];simp)
        have HF6:Hid (W6.cell? ⟨wr.heap.size,0,none⟩=some (.string f.name)∧W6.cell? ⟨wr.heap.size,1,none⟩=some (.string f.text)∧W6.cell? ⟨wr.heap.size,2,none⟩=some (.int .i64 f.times)):=hid (BF.out _ (by rw [hW6];exact two hb5 (zA0 _ _)))
        have HW6:=hid hW6
        clear hb5 q0 hW6
        obtain ⟨z0,z1,z2⟩:=HF6.out
        obtain ⟨g0,g1,g2⟩:=HG6.out
        rw [HW6.out] at z0 z1 z2 g0 g1 g2
        have HO6:=hid (HO.out.kept (⟨HB6.out.os,HB6.out.tape,HB6.out.output,HB6.out.size,fun j hj _=>HB6.out.block j hj⟩:World.grownBy _ _ none) (by cases h:Value.ownBlock _ <;> simp))
        go_wp2_with fail
        rw [←HW6.out]
        go_wp2_with fail
        go_roundw
        case rel=>exact ⟨k+1,by omega,by go_num,by rw [HNX.out];exact HO6.out,two HBW.out HB6.out⟩
        case measure=>simp [intOf];omega
      · have HNX:Hid (vA5 (a.take (k+1)) b=R++ [f.name]):=hid (by
         rw [HN.out,if_neg]
         rw [HS.out,hog]
         simp
         exact fun h=>hfg h.symm)
        have hsame:zS4 f.name f.text f.times g.name g.text g.times=false:=by rw [xF5,decide_eq_false_iff_not];exact hfg
        clear hog hg hfg
        clear hso
        have q0:=(HQ2.out.below (two HBW.out HB4.out)).c0
        rw [HW4.out] at q0
        go_wp2_with fail
        rw [←HW4.out]
        rw [←HW4.out] at q0
        refine (HC.out W4 (two HBX.out HB4.out)).mono ?_
        rintro e w5 ⟨rfl,hb5⟩
        obtain ⟨W6,hW6⟩:∃W6,W6=w5.alloc (.cells #[.string g.name, .string g.text, .int .i64 g.times] 102):=⟨_,rfl⟩
        have HB6:Hid (Below wr.heap.size wr W6):=hid (by rw [hW6];exact two HB4.out (two hb5 (zA0 _ _)))
        have HG6:Hid (W6.cell? ⟨w5.heap.size,0,none⟩=some (.string g.name)∧W6.cell? ⟨w5.heap.size,1,none⟩=some (.string g.text)∧W6.cell? ⟨w5.heap.size,2,none⟩=some (.int .i64 g.times)):=hid (by rw [hW6];simp)
        have HF6:Hid (W6.cell? ⟨wr.heap.size,0,none⟩=some (.string f.name)∧W6.cell? ⟨wr.heap.size,1,none⟩=some (.string f.text)∧W6.cell? ⟨wr.heap.size,2,none⟩=some (.int .i64 f.times)):=hid (BF.out _ (by rw [hW6];exact two hb5 (zA0 _ _)))
        have HW6:=hid hW6
        clear hb5 q0 hW6
        obtain ⟨z0,z1,z2⟩:=HF6.out
        obtain ⟨g0,g1,g2⟩:=HG6.out
        rw [HW6.out] at z0 z1 z2 g0 g1 g2
        have HO6:=hid (HO.out.kept (⟨HB6.out.os,HB6.out.tape,HB6.out.output,HB6.out.size,fun j hj _=>HB6.out.block j hj⟩:World.grownBy _ _ none) (by cases h:Value.ownBlock _ <;> simp))
        go_upto_region 7 with (fail)
        rw [←HW6.out] at z0 z1 z2 g0 g1 g2 ⊢
        go_wp2_with (at_builtin;refine zB8 xR1 rfl _ _ rfl W2.heap.size _ _ _ rfl (HO6.out.alloc _) ⟨W6.heap.size,0,none⟩ 1 1 [.string f.name] rfl rfl ?c1 ?c2 ?c3 ?c4 ?_)
        case c1=>exact zL0
        case c2=>exact xO9 _
        case c3=>have:=HRL.out;omega
        case c4=>have:=(two HBW.out HB6.out).size;simp;omega
        intro v7 w7 hown7 hg7
        have HW7:=hid (zB0 ((two HBW.out HB6.out).trans ((zA0 W6 (.cells #[.string f.name] 9)).mono (two HBW.out HB6.out).size)) (HO6.out.alloc _) hg7 (Nat.le_refl _))
        have HO7:Hid (w7.ownsRow W2.heap.size 9 1 v7 (R++ [f.name]).length (yL7 (R++ [f.name]))):=hid (by rw [←xB4,List.length_append];exact hown7)
        clear hown7 hg7
        go_wp2_with fail
        go_roundw
        case rel=>exact ⟨k+1,by omega,by go_num,by rw [HNX.out];exact HO7.out,HW7.out⟩
        case measure=>simp [intOf];omega
  · have hka:k=a.length:=by omega
    subst hka
    rw [List.take_length] at HO
    have q0:=(HQ2.out.below HBW.out).c0
    go_wp2_with fail
    clear q0
    have HO1:=HO
    have HBW1:=HBW
    have HL1:=hid (vJ5 a b)
    obtain ⟨R1,hR1⟩:∃R,R=vA5 a b:=⟨_,rfl⟩
    rw [←hR1] at HO1 HL1
    have HR1:=hid hR1
    clear HO HBW hR1
    go_loopw [5,45] (fun v i wr=>∃k:Nat,k≤b.length∧i= .int .i64 k∧wr.ownsRow W2.heap.size 9 1 v (R1++vA4 a (b.take k)).length (yL7 (R1++vA4 a (b.take k)))∧Below W2.heap.size W2 wr) (fun _ i _=>b.length - (intOf i).toNat)
    case atStart=>exact ⟨0,Nat.zero_le _,rfl,by simpa [vA4] using HO1.out,HBW1.out⟩
    case round=>
     obtain ⟨k,hk,rfl,hown,hbw⟩:=hrel
     have HO:=hid hown
     have HBW:=hid hbw
     clear hown hbw HO1 HBW1
     by_cases hlt:k<b.length
     · obtain ⟨bb,ob,rfl,hlb,x0,x1,x2⟩:=Files.cell (HBF.out.below HB.out) k hlt
       obtain ⟨kc,_⟩:=zN2 HBW.out
       replace x0:=(kc _ _ hlb).trans x0
       replace x1:=(kc _ _ hlb).trans x1
       replace x2:=(kc _ _ hlb).trans x2
       clear kc hlb
       have HN:=hid (vZ8 a b k hlt)
       obtain ⟨R2,hR2⟩:∃R,R=vA4 a (b.take k):=⟨_,rfl⟩
       have HRL:Hid ((R1++R2).length≤16):=hid (by rw [hR2,List.length_append];have h0:=HL1.out;have h1:=vJ4 a (b.take k);have h2:(b.take k).length≤b.length:=List.length_take_le' _ _;omega)
       rw [←hR2] at HO HN
       clear hR2
       obtain ⟨R,hR⟩:∃R,R=R1++R2:=⟨_,rfl⟩
       rw [←hR] at HO HRL
       obtain ⟨f,hf⟩:∃f,f=b[k]:=⟨_,rfl⟩
       rw [←hf] at x0 x1 x2 HN
       have HC:=hid fun W hw=>CA.out W hw f.name
       obtain ⟨o,ho⟩:∃o,o=zC6 a f.name:=⟨_,rfl⟩
       rw [←ho] at HC HN
       unfold zO5 zT2 File.val at HC
       have HBX:=hid (two HB.out HBW.out)
       have BF:=hid (zF0 wr f)
       obtain ⟨W4,hW4⟩:∃W4,W4=wr.alloc (.cells #[.string f.name, .string f.text, .int .i64 f.times] 102):=⟨_,rfl⟩
       have HB4:Hid (Below wr.heap.size wr W4):=hid (by rw [hW4];exact zA0 _ _)
       rw [←hW4] at BF
       have HW4:=hid hW4
       obtain ⟨g,hg⟩:∃g,g=o.getD yB6:=⟨_,rfl⟩
       rw [←hg] at HC
       clear hf ho hW4 hg
       cases hso:o.isSome
       · rw [hso] at HC
         have HNX:Hid (R1++vA4 a (b.take (k+1))=R++ [f.name]):=hid (by
          rw [HN.out,if_pos (by cases o with | none=>rfl | some x=>simp at hso),hR,List.append_assoc])
         clear hR
         clear hso
         have q0:=(HQ1.out.below (two HBW.out HB4.out)).c0
         rw [HW4.out] at q0
         go_wp2_with fail
         rw [←HW4.out]
         rw [←HW4.out] at q0
         refine (HC.out W4 (two HBX.out HB4.out)).mono ?_
         rintro e w5 ⟨rfl,hb5⟩
         obtain ⟨W6,hW6⟩:∃W6,W6=w5.alloc (.cells #[.string g.name, .string g.text, .int .i64 g.times] 102):=⟨_,rfl⟩
         have HB6:Hid (Below wr.heap.size wr W6):=hid (by rw [hW6];exact two HB4.out (two hb5 (zA0 _ _)))
         have HG6:Hid (W6.cell? ⟨w5.heap.size,0,none⟩=some (.string g.name)∧W6.cell? ⟨w5.heap.size,1,none⟩=some (.string g.text)∧W6.cell? ⟨w5.heap.size,2,none⟩=some (.int .i64 g.times)):=hid (by rw [hW6];simp)
         have HF6:Hid (W6.cell? ⟨wr.heap.size,0,none⟩=some (.string f.name)∧W6.cell? ⟨wr.heap.size,1,none⟩=some (.string f.text)∧W6.cell? ⟨wr.heap.size,2,none⟩=some (.int .i64 f.times)):=hid (BF.out _ (by rw [hW6];exact two hb5 (zA0 _ _)))
         have HW6:=hid hW6
         clear hb5 q0 hW6
         obtain ⟨z0,z1,z2⟩:=HF6.out
         obtain ⟨g0,g1,g2⟩:=HG6.out
         rw [HW6.out] at z0 z1 z2 g0 g1 g2
         have HO6:=hid (HO.out.kept (⟨HB6.out.os,HB6.out.tape,HB6.out.output,HB6.out.size,fun j hj _=>HB6.out.block j hj⟩:World.grownBy _ _ none) (by cases h:Value.ownBlock _ <;> simp))
         go_upto_region 14 with (fail)
         rw [←HW6.out] at z0 z1 z2 g0 g1 g2 ⊢
         go_wp2_with (at_builtin;refine zB8 xR1 rfl _ _ rfl W2.heap.size _ _ _ rfl (HO6.out.alloc _) ⟨W6.heap.size,0,none⟩ 1 1 [.string f.name] rfl rfl ?c1 ?c2 ?c3 ?c4 ?_)
         case c1=>exact zL0
         case c2=>exact xO9 _
         case c3=>have:=HRL.out;omega
         case c4=>have:=(two HBW.out HB6.out).size;simp;omega
         intro v7 w7 hown7 hg7
         have HW7:=hid (zB0 ((two HBW.out HB6.out).trans ((zA0 W6 (.cells #[.string f.name] 9)).mono (two HBW.out HB6.out).size)) (HO6.out.alloc _) hg7 (Nat.le_refl _))
         have HO7:Hid (w7.ownsRow W2.heap.size 9 1 v7 (R++ [f.name]).length (yL7 (R++ [f.name]))):=hid (by rw [←xB4,List.length_append];exact hown7)
         clear hown7 hg7
         go_wp2_with fail
         go_roundw
         case rel=>exact ⟨k+1,by omega,by go_num,by rw [HNX.out];exact HO7.out,HW7.out⟩
         case measure=>simp [intOf];omega
       · rw [hso] at HC
         have HNX:Hid (R1++vA4 a (b.take (k+1))=R):=hid (by
          rw [HN.out,if_neg (by cases o with | none=>simp at hso | some x=>simp),hR])
         clear hR
         clear hso
         have q0:=(HQ1.out.below (two HBW.out HB4.out)).c0
         rw [HW4.out] at q0
         go_wp2_with fail
         rw [←HW4.out]
         rw [←HW4.out] at q0
         refine (HC.out W4 (two HBX.out HB4.out)).mono ?_
         rintro e w5 ⟨rfl,hb5⟩
         obtain ⟨W6,hW6⟩:∃W6,W6=w5.alloc (.cells #[.string g.name, .string g.text, .int .i64 g.times] 102):=⟨_,rfl⟩
         have HB6:Hid (Below wr.heap.size wr W6):=hid (by rw [hW6];exact two HB4.out (two hb5 (zA0 _ _)))
         have HG6:Hid (W6.cell? ⟨w5.heap.size,0,none⟩=some (.string g.name)∧W6.cell? ⟨w5.heap.size,1,none⟩=some (.string g.text)∧W6.cell? ⟨w5.heap.size,2,none⟩=some (.int .i64 g.times)):=hid (by rw [hW6];simp)
         have HF6:Hid (W6.cell? ⟨wr.heap.size,0,none⟩=some (.string f.name)∧W6.cell? ⟨wr.heap.size,1,none⟩=some (.string f.text)∧W6.cell? ⟨wr.heap.size,2,none⟩=some (.int .i64 f.times)):=hid (BF.out _ (by rw [hW6];exact two hb5 (zA0 _ _)))
         have HW6:=hid hW6
         clear hb5 q0 hW6
         obtain ⟨z0,z1,z2⟩:=HF6.out
         obtain ⟨g0,g1,g2⟩:=HG6.out
         rw [HW6.out] at z0 z1 z2 g0 g1 g2
         have HO6:=hid (HO.out.kept (⟨HB6.out.os,HB6.out.tape,HB6.out.output,HB6.out.size,fun j hj _=>HB6.out.block j hj⟩:World.grownBy _ _ none) (by cases h:Value.ownBlock _ <;> simp))
         go_wp2_with fail
         rw [←HW6.out]
         go_wp2_with fail
         go_roundw
         case rel=>exact ⟨k+1,by omega,by go_num,by rw [HNX.out];exact HO6.out,two HBW.out HB6.out⟩
         case measure=>simp [intOf];omega
     · have hkb:k=b.length:=by omega
       subst hkb
       rw [List.take_length] at HO
       have HP:Hid ((R1++vA4 a b).Perm (zP6 a b)):=hid (by rw [HR1.out];exact vR6 HRA.out HRB.out)
       have CS:=vB7 W2.heap.size _ _ (zP6 a b) wr HO.out HP.out (yF8 a b HRA.out HRB.out) (by rw [List.length_append];have h0:=HL1.out;have h1:=vJ4 a b;omega) HBW.out.size
       replace CS:=hid CS
       go_wp2_with fail
       refine CS.out.mono ?_
       rintro e w8 ⟨rfl,ho8,hb8⟩
       have HO8:=hid ho8
       have HB8:=hid (HBW.out.trans hb8)
       clear ho8 hb8
       go_wp2_with fail
       go_ret
       exact ⟨_,rfl,uS5 HO8.out,two HB.out HB8.out⟩
end Go.Proofs.YtggpodlecljcbabGreatDoor
