/- Plain: chapter 7: changes of rows, their bytes. Plain: chapter 7: rows that rise, and what a change does. -/
import Derived.Laws.IdiomStrings
import Derived.Test.YtggpodlecljcbabGreatDoorKB
import Derived.Test.YtggpodlecljcbabGreatDoorKSQ
namespace Go.Proofs.YtggpodlecljcbabGreatDoor
set_option linter.unusedSimpArgs false
set_option linter.unusedVariables false
set_option maxRecDepth 100000
set_option maxHeartbeats 64000000
open Lib (hid)
def zA2 (c:Change):Nat:=if (c.key.toList== [])=true∨(c.gone=true∧(c.val.toList== [])=false) then 3 else if 8<c.key.size∨16<c.val.size then 2 else 0
def yD9 (c:Change):UInt8:=if c.gone then 1 else 0
def zB3 (c:Change):ByteArray × Nat:=if zA2 c≠0 then (⟨#[]⟩,zA2 c) else ((⟨#[yD9 c,c.key.size.toUInt8]⟩:ByteArray)++c.key++c.val,0)
def xH6 :Change:=⟨⟨#[]⟩,⟨#[]⟩,false⟩
def yE2 (s:ByteArray)(x y:UInt8):Change:=⟨s.extract 2 (2+y.toNat),s.extract (2+y.toNat) s.size,((x.toNat:Int)==1)⟩
def zR9 (s:ByteArray)(x y:UInt8):Change × Nat:=
 if 1<x.toNat∨s.size<2+y.toNat then (xH6,4) else if zA2 (yE2 s x y)≠0 then (xH6,4) else (yE2 s x y,0)
def zH4 (s:ByteArray):Change × Nat:=if h:s.size<2 then (xH6,4) else zR9 s (s[0]'(by omega)) (s[1]'(by omega))
def RisesX (l:List Change):Prop:=l.Pairwise (fun a b=>bLt a.key b.key=true)
theorem RisesX.at {l:List Change}(h:RisesX l)(i j:Nat)(hij:i<j)(hj:j<l.length):bLt (l[i]'(by omega)).key l[j].key=true:=List.pairwise_iff_getElem.mp h i j (by omega) hj hij
theorem RisesX.mono {l:List Change}(h:RisesX l)(name:ByteArray)(i j:Nat)(hij:i≤j)(hj:j<l.length)(hl:bLt l[j].key name=true):bLt (l[i]'(by omega)).key name=true:=by
 by_cases e:i=j
 · subst e;exact hl
 · exact zG2 (h.at i j (by omega) hj) hl
def zH3 (l:List Change)(name:ByteArray):Nat:=(l.takeWhile (fun f=>bLt f.key name)).length
theorem yZ0 (name:ByteArray):∀(l:List Change) (i:Nat),i≤l.length→(∀t,(ht:t<l.length)→t<i→bLt l[t].key name=true)→(∀t,(ht:t<l.length)→i≤t→bLt l[t].key name=false)→zH3 l name=i
 | [],i,h,_,_=>by simp at h;simp [zH3,h]
 | f::r,0,_,_,h2=>by
  have:=h2 0 (by simp) (Nat.le_refl _)
  simp at this
  simp [zH3,this]
 | f::r,i+1,h,h1,h2=>by
  have ha:=h1 0 (by simp) (by omega)
  have ih:=yZ0 name r i (by simpa using h) (fun t ht hti=>h1 (t+1) (by simpa using ht) (by omega)) (fun t ht hti=>h2 (t+1) (by simpa using ht) (by omega))
  simp at ha
  unfold zH3 at ih ⊢
  simp [ha,ih]
def zT1 (l:List Change)(name:ByteArray)(i:Nat):Bool:=match l[i]? with | some f=>f.key.toList==name.toList | none=>false
theorem zS3 (l:List Change)(name:ByteArray)(i:Nat)(h:i<l.length):zT1 l name i=(l[i].key.toList==name.toList):=by unfold zT1;rw [List.getElem?_eq_getElem h]
theorem yQ8 (l:List Change)(name:ByteArray)(i:Nat)(h:¬i<l.length):zT1 l name i=false:=by unfold zT1;rw [List.getElem?_eq_none (by omega)]
theorem vJ6 (l:List Change)(name:ByteArray):zH3 l name≤l.length:=List.Sublist.length_le (List.takeWhile_sublist _)
theorem zS9 (name:ByteArray):∀(l:List Change) (t:Nat) (h:t<l.length),t<zH3 l name→bLt l[t].key name=true
 | [],t,h,_=>by simp at h
 | f::r,t,h,ht=>by
  unfold zH3 at ht
  cases hf:bLt f.key name
  · simp [hf] at ht
  · cases t with
    | zero=>exact hf
    | succ t=>
     simp [hf] at ht
     exact zS9 name r t (by simpa using h) (by unfold zH3;omega)
theorem yZ1 (name:ByteArray):∀(l:List Change) (h:zH3 l name<l.length),bLt l[zH3 l name].key name=false
 | [],h=>by simp at h
 | f::r,h=>by
  cases hf:bLt f.key name
  · have e:zH3 (f::r) name=0:=by simp [zH3,hf]
    simp only [e];exact hf
  · have e:zH3 (f::r) name=zH3 r name+1:=by simp [zH3,hf]
    have:=yZ1 name r (by rw [e] at h;simpa using h)
    simp only [e];exact this
theorem yB9 {l:List Change}{name:ByteArray}{i:Nat}(h:zT1 l name i=true):i<l.length:=by
 by_cases hh:i<l.length
 · exact hh
 · rw [yQ8 l name i hh] at h;cases h
theorem xF8 (l:List Change)(name:ByteArray)(hr:RisesX l)(r:Nat)(hk:r=zH3 l name)(h:zT1 l name r=true):l.filter (fun f=>f.key.toList != name.toList)=l.take r++l.drop (r+1):=by
 have hl:=yB9 h
 have e:l=l.take r++l[r]::l.drop (r+1):=by rw [←List.drop_eq_getElem_cons hl,List.take_append_drop]
 rw [zS3 l name r hl] at h
 have h1:(l.take r).filter (fun f=>f.key.toList != name.toList)=l.take r:=by
  rw [List.filter_eq_self]
  intro x hx
  obtain ⟨t,ht,rfl⟩:=List.getElem_of_mem hx
  rw [List.getElem_take]
  rw [List.length_take] at ht
  have:=zL3 (zS9 name l t (by omega) (by omega))
  simp only [bne,this,Bool.not_false]
 have h2:(l.drop (r+1)).filter (fun f=>f.key.toList != name.toList)=l.drop (r+1):=by
  rw [List.filter_eq_self]
  intro x hx
  obtain ⟨t,ht,rfl⟩:=List.getElem_of_mem hx
  rw [List.getElem_drop]
  rw [List.length_drop] at ht
  have:=yQ0 (zS8 h (hr.at r (r+1+t) (by omega) (by omega)))
  simp only [bne,this,Bool.not_false]
 calc l.filter (fun f=>f.key.toList != name.toList)=(l.take r++l[r]::l.drop (r+1)).filter (fun f=>f.key.toList != name.toList):=by rw [←e]
  _=_:=by rw [List.filter_append,h1,List.filter_cons,h2];simp [bne,h]
def yI8 (f:Change)(p:List Change × Bool)(g:Change):List Change × Bool:=
 let q:=if p.2=false∧bLe f.key g.key=true then (p.1++ [f],true) else p
 if (g.key.toList==f.key.toList)=true then q else (q.1++ [g],q.2)
def zX9 (l:List Change)(f:Change)(k:Nat):List Change × Bool:=(l.take k).foldl (yI8 f) ([],false)
theorem yC8 (l:List Change)(f:Change)(k:Nat)(h:k<l.length):zX9 l f (k+1)=yI8 f (zX9 l f k) l[k]:=by
 unfold zX9;rw [List.take_succ_eq_append_getElem h,List.foldl_append];rfl
def xC8 (l:List Change)(f:Change):List Change:=if (zX9 l f l.length).2=false then (zX9 l f l.length).1++ [f] else (zX9 l f l.length).1
theorem xC6 (l:List Change)(f:Change):∀k,k≤zH3 l f.key→k≤l.length→zX9 l f k=(l.take k,false)
 | 0,_,_=>by simp [zX9]
 | k+1,h,hl=>by
  have hb:=zS9 f.key l k (by omega) (by omega)
  rw [yC8 l f k (by omega),xC6 l f k (by omega) (by omega),yI8]
  dsimp only
  rw [if_neg (by rw [zL3 hb];simp),if_neg (by rw [zY1 hb];simp),List.take_succ_eq_append_getElem (show k<l.length by omega)]
theorem xU8 (l:List Change)(f:Change)(k:Nat)(h:k<l.length)(R:List Change)(hp:zX9 l f k=(R,true))(hn:(l[k].key.toList==f.key.toList)=false):zX9 l f (k+1)=(R++ [l[k]],true):=by
 rw [yC8 l f k h,hp,yI8];simp [hn]
theorem yT4 (l:List Change)(f:Change)(r:Nat)(R:List Change)(hp:zX9 l f (r+1)=(R,true))(hn:∀t,(ht:t<l.length)→r<t→(l[t].key.toList==f.key.toList)=false):∀k,r+1+k≤l.length→zX9 l f (r+1+k)=(R++(l.drop (r+1)).take k,true)
 | 0,_=>by simp [hp]
 | k+1,h=>by
  have h0:=yT4 l f r R hp hn k (by omega)
  have hk:k<(l.drop (r+1)).length:=by rw [List.length_drop];omega
  have:=xU8 l f (r+1+k) (by omega) _ h0 (hn _ (by omega) (by omega))
  rw [show r+1+(k+1)=r+1+k+1 by omega,this,List.take_succ_eq_append_getElem hk,List.getElem_drop,List.append_assoc]
theorem xK8 (l:List Change)(f:Change)(hr:RisesX l)(r:Nat)(hk:r=zH3 l f.key):xC8 l f=l.take r++f::l.drop (if zT1 l f.key r then r+1 else r):=by
 have hrl:r≤l.length:=by rw [hk];exact vJ6 _ _
 have h0:=xC6 l f r (by omega) hrl
 by_cases hl:r<l.length
 · have hge:=by have:=yZ1 f.key l (by rw [←hk];exact hl);simpa [←hk] using this
   have hgt:∀t,(ht:t<l.length)→r<t→(l[t].key.toList==f.key.toList)=false:=by
    intro t ht hrt
    have h1:=hr.at r t hrt ht
    cases e:(l[t].key.toList==f.key.toList)
    · rfl
    · have h2:bLt l[r].key f.key=true:=by
       have:l[t].key.toList=f.key.toList:=by simpa using e
       unfold bLt at h1 ⊢;rwa [←this]
      rw [hge] at h2;cases h2
   have hle:bLe f.key l[r].key=true:=by
    cases e:bLe f.key l[r].key
    · have:=zQ1 e
      rw [hge] at this;cases this
    · rfl
   cases hi:zT1 l f.key r
   · have hn:=hi
     rw [zS3 l f.key r hl] at hn
     have h1:zX9 l f (r+1)=(l.take r++ [f]++ [l[r]],true):=by
      rw [yC8 l f r hl,h0,yI8]
      dsimp only
      rw [if_neg (by rw [hn];simp),if_pos ⟨rfl,hle⟩]
     have h2:=yT4 l f r _ h1 hgt (l.length - (r+1)) (by omega)
     rw [show r+1+(l.length - (r+1))=l.length by omega] at h2
     unfold xC8
     rw [h2,if_neg (by simp),List.take_of_length_le (l:=l.drop (r+1)) (by rw [List.length_drop];omega),if_neg (by simp),List.drop_eq_getElem_cons hl]
     simp
   · have hn:=hi
     rw [zS3 l f.key r hl] at hn
     have h1:zX9 l f (r+1)=(l.take r++ [f],true):=by
      rw [yC8 l f r hl,h0,yI8]
      dsimp only
      rw [if_pos hn,if_pos ⟨rfl,hle⟩]
     have h2:=yT4 l f r _ h1 hgt (l.length - (r+1)) (by omega)
     rw [show r+1+(l.length - (r+1))=l.length by omega] at h2
     unfold xC8
     rw [h2,if_neg (by simp),List.take_of_length_le (l:=l.drop (r+1)) (by rw [List.length_drop];omega),if_pos rfl]
     simp
 · have e:r=l.length:=by omega
   rw [yQ8 l f.key r hl,if_neg (by simp),List.drop_of_length_le (by omega)]
   unfold xC8
   rw [←e,h0,if_pos rfl]
theorem vP9 {l:List Change}(f:Change)(h:RisesX l):RisesX (xC8 l f):=by
 rw [xK8 l f h _ rfl]
 obtain ⟨r,hr⟩:∃r,r=zH3 l f.key:=⟨_,rfl⟩
 rw [←hr]
 obtain ⟨m,hm⟩:∃m,m=if zT1 l f.key r=true then r+1 else r:=⟨_,rfl⟩
 rw [←hm]
 have hc:(m=r∧zT1 l f.key r=false)∨(m=r+1∧zT1 l f.key r=true):=by
  cases hi:zT1 l f.key r <;> simp [hi] at hm <;> simp [hm]
 clear hm
 refine List.pairwise_append.mpr ⟨List.Pairwise.take h,?_,?_⟩
 · refine List.pairwise_cons.mpr ⟨?_,List.Pairwise.drop h⟩
   intro g hg
   obtain ⟨t,ht,rfl⟩:=List.getElem_of_mem hg
   rw [List.length_drop] at ht
   rw [List.getElem_drop]
   rcases hc with ⟨rfl,hi⟩ | ⟨rfl,hi⟩
   · have hge:=yZ1 f.key l (by omega)
     have hlt:bLt f.key (l[m]'(by omega)).key=true:=by
      refine zQ1 ?_
      unfold bLe
      rw [zS3 l f.key m (by omega)] at hi
      rw [hi,Bool.or_false]
      have:bLt (l[m]'(by omega)).key f.key=false:=by simpa only [←hr] using hge
      exact this
     by_cases e:t=0
     · subst e;exact hlt
     · exact zG2 hlt (h.at m (m+t) (by omega) _)
   · rw [zS3 l f.key r (by omega)] at hi
     exact zS8 hi (h.at r (r+1+t) (by omega) _)
 · intro a ha b hb
   obtain ⟨t,ht,rfl⟩:=List.getElem_of_mem ha
   rw [List.length_take] at ht
   rw [List.getElem_take]
   have hlt:bLt (l[t]'(by omega)).key f.key=true:=zS9 f.key l t (by omega) (by omega)
   rcases List.mem_cons.mp hb with rfl | hb
   · exact hlt
   · obtain ⟨u,hu,rfl⟩:=List.getElem_of_mem hb
     rw [List.length_drop] at hu
     rw [List.getElem_drop]
     exact h.at t _ (by omega) _

def yE5 (l:List Change)(c:Change):List Change:=
 if zT1 l c.key (zH3 l c.key) then (if c.gone then l.take (zH3 l c.key)++l.drop (zH3 l c.key+1) else l.take (zH3 l c.key)++c::l.drop (zH3 l c.key+1))
 else (if c.gone then l else l.take (zH3 l c.key)++c::l.drop (zH3 l c.key))
theorem xF4 (l:List Change)(key:ByteArray)(hr:RisesX l)(h:zT1 l key (zH3 l key)=false):l.filter (fun x=>x.key.toList != key.toList)=l:=by
 rw [List.filter_eq_self]
 intro x hx
 obtain ⟨t,ht,rfl⟩:=List.getElem_of_mem hx
 by_cases h1:t<zH3 l key
 · have:=zL3 (zS9 key l t ht h1)
   simp only [bne,this,Bool.not_false]
 · have hrk:zH3 l key<l.length:=by omega
   have hge:=yZ1 key l hrk
   rw [zS3 l key _ hrk] at h
   have:(l[t].key.toList==key.toList)=false:=by
    by_cases e:t=zH3 l key
    · subst e;exact h
    · cases e2:(l[t].key.toList==key.toList)
      · rfl
      · have h2:=hr.at (zH3 l key) t (by omega) ht
        have e3:l[t].key.toList=key.toList:=by simpa using e2
        have h3:bLt l[zH3 l key].key key=true:=by unfold bLt at h2 ⊢;rw [←e3];exact h2
        rw [h3] at hge;cases hge
   simp only [bne,this,Bool.not_false]
theorem yS0 {l:List Change}(c:Change)(hr:RisesX l):RisesX (yE5 l c):=by
 unfold yE5
 cases hg:c.gone
 · have h:=vP9 c hr
   rw [xK8 l c hr _ rfl] at h
   by_cases hi:zT1 l c.key (zH3 l c.key)=true
   · simp only [hi,if_true] at h ⊢;simpa using h
   · simp only [hi,if_false] at h ⊢;simpa using h
 · by_cases hi:zT1 l c.key (zH3 l c.key)=true
   · rw [if_pos hi]
     simp only [if_true]
     rw [←xF8 l c.key hr _ rfl hi]
     exact List.Pairwise.filter _ hr
   · rw [if_neg hi]
     simp only [if_true]
     exact hr
theorem xQ9 (l:List Change)(c:Change):(yE5 l c).length≤l.length+1:=by
 unfold yE5
 split
 · split
   · rw [List.length_append,List.length_take,List.length_drop];omega
   · rename_i h _
     have:=yB9 h
     rw [List.length_append,List.length_take,List.length_cons,List.length_drop];omega
 · split
   · omega
   · rw [List.length_append,List.length_take,List.length_cons,List.length_drop];omega
def zF3 (l cs:List Change)(k:Nat):List Change:=(cs.take k).foldl yE5 l
theorem xH3 (l cs:List Change)(k:Nat)(h:k<cs.length):zF3 l cs (k+1)=yE5 (zF3 l cs k) cs[k]:=by
 unfold zF3;rw [List.take_succ_eq_append_getElem h,List.foldl_append];rfl
theorem zY9 {l:List Change}(cs:List Change)(hr:RisesX l):∀k,k≤cs.length→RisesX (zF3 l cs k)∧(zF3 l cs k).length≤l.length+k
 | 0,_=>⟨hr,Nat.le_refl _⟩
 | k+1,h=>by
  obtain ⟨h1,h2⟩:=zY9 cs hr k (by omega)
  rw [xH3 l cs k (by omega)]
  exact ⟨yS0 _ h1,Nat.le_trans (xQ9 _ _) (by omega)⟩
open Go.RowKit Go.Sort
theorem cf_key {k v:ByteArray}{g:Bool}(h:k.toList= []):zA2 ⟨k,v,g⟩=3:=by simp [zA2,h]
theorem cf_gone {k v:ByteArray}(h:¬k.toList= [])(h2:¬v.toList= []):zA2 ⟨k,v,true⟩=3:=by simp [zA2,h,h2]
theorem cf_long {k v:ByteArray}{g:Bool}(h:¬k.toList= [])(h2:g=false∨v.toList= [])(h3:8<k.size∨16<v.size):zA2 ⟨k,v,g⟩=2:=by
 rcases h2 with rfl | h2 <;> simp [zA2,h,h3, *]
theorem cf_good {k v:ByteArray}{g:Bool}(h:¬k.toList= [])(h2:g=false∨v.toList= [])(h3:¬(8<k.size∨16<v.size)):zA2 ⟨k,v,g⟩=0:=by
 rcases h2 with rfl | h2 <;> simp [zA2,h,h3, *]
theorem yG2 (k v:ByteArray)(g:Bool)(w:World)(hk:k.size≤maxLen)(hv:v.size≤maxLen):
 Calls Tryz.prog 95 #[.agg #[.string k, .string v, .bool g]] w fun e w' =>e= .returned (zE6 (zA2 ⟨k,v,g⟩))∧Below w.heap.size w w' :=by
 unfold maxLen at hk hv
 have B1:=hid (zA0 w (.cells #[.string k, .string v, .bool g] 109))
 by_cases hk0:k.toList= []
 · have hF:=hid (cf_key (v:=v) (g:=g) hk0)
   have he:k.toList.isEmpty=true:=by rw [hk0];rfl
   go_enter Tryz.func95, Tryz.ntmps95
   go_wp2_with fail
   go_ret
   exact ⟨by rw [hF.out];rfl,B1.out⟩
 have he:k.toList.isEmpty=false:=by cases hh:k.toList with | nil=>exact absurd hh hk0 | cons a r=>rfl
 by_cases hgv:g=true∧¬v.toList= []
 · obtain ⟨rfl,hv0⟩:=hgv
   have hF:=hid (cf_gone hk0 hv0)
   have hve:v.toList.isEmpty=false:=by cases hh:v.toList with | nil=>exact absurd hh hv0 | cons a r=>rfl
   go_enter Tryz.func95, Tryz.ntmps95
   go_wp2_with fail
   go_ret
   exact ⟨by rw [hF.out];rfl,B1.out⟩
 have hgv2:g=false∨v.toList= []:=by
  cases g
  · exact Or.inl rfl
  · exact Or.inr (Classical.byContradiction fun h=>hgv ⟨rfl,h⟩)
 clear hgv
 have key:zA2 ⟨k,v,g⟩=if 8<k.size∨16<v.size then 2 else 0:=by
  by_cases h3:8<k.size∨16<v.size
  · rw [if_pos h3];exact cf_long hk0 hgv2 h3
  · rw [if_neg h3];exact cf_good hk0 hgv2 h3
 have HK:=hid key
 clear key
 rcases hgv2 with rfl | hv0
 rotate_left
 · have hve:v.toList.isEmpty=true:=by rw [hv0];rfl
   cases g
   all_goals
    by_cases h8:8<k.size
    · have h8' :(8:Int)<(k.size:Int):=by omega
      have hF:=hid (HK.out.trans (if_pos (Or.inl h8)))
      clear h8
      go_enter Tryz.func95, Tryz.ntmps95
      go_wp2_with fail
      go_ret
      exact ⟨by rw [hF.out];rfl,B1.out⟩
    · have h8' :¬(8:Int)<(k.size:Int):=by omega
      by_cases h16:16<v.size
      · have h16' :(16:Int)<(v.size:Int):=by omega
        have hF:=hid (HK.out.trans (if_pos (Or.inr h16)))
        clear h8 h16
        go_enter Tryz.func95, Tryz.ntmps95
        go_wp2_with fail
        go_ret
        exact ⟨by rw [hF.out];rfl,B1.out⟩
      · have h16' :¬(16:Int)<(v.size:Int):=by omega
        have hF:=hid (HK.out.trans (if_neg (by omega)))
        clear h8 h16
        go_enter Tryz.func95, Tryz.ntmps95
        go_wp2_with fail
        go_ret
        exact ⟨by rw [hF.out];rfl,B1.out⟩
 · by_cases h8:8<k.size
   · have h8' :(8:Int)<(k.size:Int):=by omega
     have hF:=hid (HK.out.trans (if_pos (Or.inl h8)))
     clear h8
     go_enter Tryz.func95, Tryz.ntmps95
     go_wp2_with fail
     go_ret
     exact ⟨by rw [hF.out];rfl,B1.out⟩
   · have h8' :¬(8:Int)<(k.size:Int):=by omega
     by_cases h16:16<v.size
     · have h16' :(16:Int)<(v.size:Int):=by omega
       have hF:=hid (HK.out.trans (if_pos (Or.inr h16)))
       clear h8 h16
       go_enter Tryz.func95, Tryz.ntmps95
       go_wp2_with fail
       go_ret
       exact ⟨by rw [hF.out];rfl,B1.out⟩
     · have h16' :¬(16:Int)<(v.size:Int):=by omega
       have hF:=hid (HK.out.trans (if_neg (by omega)))
       clear h8 h16
       go_enter Tryz.func95, Tryz.ntmps95
       go_wp2_with fail
       go_ret
       exact ⟨by rw [hF.out];rfl,B1.out⟩
open Go.RowKit Go.Sort
theorem zY7 {c:Change}(h:zA2 c=0):c.key.size≤8∧c.val.size≤16:=by
 unfold zA2 at h
 split at h
 · cases h
 · split at h
   · cases h
   · omega
theorem vU2 (n:Nat)(hn:n≤255)(w:World):(convert 112 9 (.slice (some ⟨w.heap.size,0,none⟩) 2 2)).run Tryz.prog (w.alloc (.cells #[.int .u8 0, .int .u8 (n:Int)] 5))= .ok (.string ⟨#[0,n.toUInt8]⟩) (w.alloc (.cells #[.int .u8 0, .int .u8 (n:Int)] 5)):=by
 refine run_convert_bytes_back (P:= Tryz.prog) (w.alloc (.cells #[.int .u8 0, .int .u8 (n:Int)] 5)) 112 9 5 ⟨w.heap.size,0,none⟩ 2 [0,n.toUInt8] Tryz.underlying112 Tryz.underlying5 Tryz.underlying9 (fun j hj=>?_)
 rw [Addr.add_lit]
 match j,hj with
 | 0,_=>simp
 | 1,_=>simp;omega
theorem vU1 (n:Nat)(hn:n≤255)(w:World):(convert 112 9 (.slice (some ⟨w.heap.size,0,none⟩) 2 2)).run Tryz.prog (w.alloc (.cells #[.int .u8 1, .int .u8 (n:Int)] 5))= .ok (.string ⟨#[1,n.toUInt8]⟩) (w.alloc (.cells #[.int .u8 1, .int .u8 (n:Int)] 5)):=by
 refine run_convert_bytes_back (P:= Tryz.prog) (w.alloc (.cells #[.int .u8 1, .int .u8 (n:Int)] 5)) 112 9 5 ⟨w.heap.size,0,none⟩ 2 [1,n.toUInt8] Tryz.underlying112 Tryz.underlying5 Tryz.underlying9 (fun j hj=>?_)
 rw [Addr.add_lit]
 match j,hj with
 | 0,_=>simp
 | 1,_=>simp;omega
theorem vZ3 (c:Change)(w:World)(hk:c.key.size≤maxLen)(hv:c.val.size≤maxLen):
 Calls Tryz.prog 168 #[.agg #[.string c.key, .string c.val, .bool c.gone]] w fun e w' =>e= .returned (.tuple #[.string (zB3 c).1,zE6 (zB3 c).2])∧Below w.heap.size w w' :=by
 obtain ⟨k,v,g⟩:=c
 dsimp only at hk hv ⊢
 have C:=hid fun W=>yG2 k v g W hk hv
 unfold maxLen at hk hv
 obtain ⟨W1,hW1⟩:∃W1,W1=w.alloc (.cells #[.string k, .string v, .bool g] 109):=⟨_,rfl⟩
 have B1:Hid (Below w.heap.size w W1):=hid (by rw [hW1];exact zA0 w _)
 have CE:Hid (∀W,Below W1.heap.size W1 W→W.cell? ⟨w.heap.size,0,none⟩=some (.string k)∧W.cell? ⟨w.heap.size,1,none⟩=some (.string v)∧W.cell? ⟨w.heap.size,2,none⟩=some (.bool g)):=hid fun W hb=>⟨zA1 hb (by rw [hW1];simp),zA1 hb (by rw [hW1];simp),zA1 hb (by rw [hW1];simp)⟩
 have HW1:=hid hW1
 clear hW1
 go_enter Tryz.func168, Tryz.ntmps168
 go_wp2_with fail
 rw [←HW1.out]
 refine (C.out _).mono ?_
 rintro e w2 ⟨rfl,hb2⟩
 have HB2:=hid hb2
 obtain ⟨c0,c1,c2⟩:=CE.out _ hb2
 clear hb2
 by_cases hf:zA2 ⟨k,v,g⟩=0
 rotate_left
 · have he:zE6 (zA2 ⟨k,v,g⟩)= .iface 73 (.int .i64 (zA2 ⟨k,v,g⟩)):=zA5 hf
   have hcb:Hid (zB3 ⟨k,v,g⟩=(⟨#[]⟩,zA2 ⟨k,v,g⟩)):=hid (by unfold zB3;rw [if_pos hf])
   clear hf
   go_wp2_with fail
   refine bodyPost_ret (v:= .tuple #[.string ⟨#[]⟩,zE6 (zA2 ⟨k,v,g⟩)]) (by simp [results, Tryz.results168,go_sem,he]) rfl ?_
   exact ⟨by rw [hcb.out],two B1.out HB2.out⟩
 have he:zE6 (zA2 ⟨k,v,g⟩)= .nilIface:=by rw [hf];rfl
 have HF:=hid hf
 obtain ⟨hk8,hv16⟩:=zY7 hf
 dsimp only at hk8 hv16
 clear hf hk hv
 cases g
 · have hcv:=vU2 k.size (by omega) w2
   have hcb:Hid (zB3 ⟨k,v,false⟩=((⟨#[0,k.size.toUInt8]⟩:ByteArray)++k++v,0)):=hid (by unfold zB3;rw [if_neg (by simp [HF.out])];rfl)
   have HB3:=hid (two B1.out (two HB2.out (zA0 w2 (.cells #[.int .u8 0, .int .u8 (k.size:Int)] 5))))
   obtain ⟨e0,e1,e2⟩:=CE.out _ (two HB2.out (zA0 w2 (.cells #[.int .u8 0, .int .u8 (k.size:Int)] 5)))
   go_wp2_with fail
   refine bodyPost_ret (v:= .tuple #[.string ((⟨#[0,k.size.toUInt8]⟩:ByteArray)++k++v), .nilIface]) (by simp [results, Tryz.results168,go_sem,he]) rfl ?_
   exact ⟨by rw [hcb.out];rfl,HB3.out⟩
 · have hcv:=vU1 k.size (by omega) w2
   have hcb:Hid (zB3 ⟨k,v,true⟩=((⟨#[1,k.size.toUInt8]⟩:ByteArray)++k++v,0)):=hid (by unfold zB3;rw [if_neg (by simp [HF.out])];rfl)
   have HB3:=hid (two B1.out (two HB2.out (zA0 w2 (.cells #[.int .u8 1, .int .u8 (k.size:Int)] 5))))
   obtain ⟨e0,e1,e2⟩:=CE.out _ (two HB2.out (zA0 w2 (.cells #[.int .u8 1, .int .u8 (k.size:Int)] 5)))
   go_wp2_with fail
   refine bodyPost_ret (v:= .tuple #[.string ((⟨#[1,k.size.toUInt8]⟩:ByteArray)++k++v), .nilIface]) (by simp [results, Tryz.results168,go_sem,he]) rfl ?_
   exact ⟨by rw [hcb.out];rfl,HB3.out⟩
open Go.RowKit Go.Sort
structure QXAt (w:World) (b:Nat) (c:Change):Prop where
 c0:w.cell? ⟨b,0,none⟩=some (.string c.key)
 c1:w.cell? ⟨b,1,none⟩=some (.string c.val)
 c2:w.cell? ⟨b,2,none⟩=some (.bool c.gone)
 f0:w.frozen? ⟨b,0,none⟩=false
 f1:w.frozen? ⟨b,1,none⟩=false
 f2:w.frozen? ⟨b,2,none⟩=false
 lt:b<w.heap.size
theorem QXAt.new (w:World)(c:Change):QXAt (w.alloc (.cells #[.string c.key, .string c.val, .bool c.gone] 109)) w.heap.size c:=⟨by simp,by simp,by simp,by simp,by simp,by simp,by simp⟩
theorem QXAt.below {w w' :World}{b:Nat}{c:Change}(h:QXAt w b c)(hb:Below w.heap.size w w'):QXAt w' b c:=by
 obtain ⟨k,fr⟩:=zN2 hb
 exact ⟨(k _ _ h.lt).trans h.c0,(k _ _ h.lt).trans h.c1,(k _ _ h.lt).trans h.c2,(fr _ _ h.lt).trans h.f0,(fr _ _ h.lt).trans h.f1,(fr _ _ h.lt).trans h.f2,Nat.lt_of_lt_of_le h.lt hb.size⟩
theorem vZ2 (s:ByteArray)(w:World)(hs:s.size≤1000):
 Calls Tryz.prog 132 #[.string s] w fun e w' =>e= .returned (.tuple #[(zH4 s).1.val',zE6 (zH4 s).2])∧Below w.heap.size w w' :=by
 obtain ⟨W1,hW1⟩:∃W1,W1=w.alloc (.cells #[.string ⟨#[]⟩, .string ⟨#[]⟩, .bool false] 109):=⟨_,rfl⟩
 have B1:Hid (Below w.heap.size w W1):=hid (by rw [hW1];exact zA0 w _)
 have HW1:=hid hW1
 clear hW1
 have HQ:Hid (QXAt W1 w.heap.size xH6):=hid (by rw [HW1.out];exact QXAt.new w xH6)
 have hend:∀(b:Nat) (n:Nat),True:=fun _ _=>trivial
 by_cases h2:s.size<2
 · have HC:Hid (zH4 s=(xH6,4)):=hid (by unfold zH4;rw [dif_pos h2])
   go_enter Tryz.func132, Tryz.ntmps132
   go_wp2_with fail
   have HBF:=(((zA0 w (.cells #[.string ⟨#[]⟩, .string ⟨#[]⟩, .bool false] 109)).setCell (p:=⟨w.heap.size,0,none⟩) (Nat.le_refl _) (.string ⟨#[]⟩)).setCell (p:=⟨w.heap.size,1,none⟩) (Nat.le_refl _) (.string ⟨#[]⟩)).setCell (p:=⟨w.heap.size,2,none⟩) (Nat.le_refl _) (.bool false)
   refine bodyPost_ret (v:= .tuple #[.agg #[.string ⟨#[]⟩, .string ⟨#[]⟩, .bool false], .iface 73 (.int .i64 4)]) (by simp [results, Tryz.results132,go_sem]) rfl ?_
   exact ⟨by rw [HC.out];rfl,by first | exact HBF | exact zA0 _ _⟩
 have h0:0<s.size:=by omega
 have h1:1<s.size:=by omega
 have hy:s[1].toNat≤255:=by have:=s[1].toNat_lt;omega
 have HC0:Hid (zH4 s=zR9 s s[0] s[1]):=hid (by unfold zH4;rw [dif_neg h2])
 by_cases hg:1<s[0].toNat
 · have HC:Hid (zH4 s=(xH6,4)):=hid (by rw [HC0.out];unfold zR9;rw [if_pos (Or.inl hg)])
   go_enter Tryz.func132, Tryz.ntmps132
   go_wp2_with fail
   have HBF:=(((zA0 w (.cells #[.string ⟨#[]⟩, .string ⟨#[]⟩, .bool false] 109)).setCell (p:=⟨w.heap.size,0,none⟩) (Nat.le_refl _) (.string ⟨#[]⟩)).setCell (p:=⟨w.heap.size,1,none⟩) (Nat.le_refl _) (.string ⟨#[]⟩)).setCell (p:=⟨w.heap.size,2,none⟩) (Nat.le_refl _) (.bool false)
   refine bodyPost_ret (v:= .tuple #[.agg #[.string ⟨#[]⟩, .string ⟨#[]⟩, .bool false], .iface 73 (.int .i64 4)]) (by simp [results, Tryz.results132,go_sem]) rfl ?_
   exact ⟨by rw [HC.out];rfl,by first | exact HBF | exact zA0 _ _⟩
 by_cases hn:s.size<2+s[1].toNat
 · have HC:Hid (zH4 s=(xH6,4)):=hid (by rw [HC0.out];unfold zR9;rw [if_pos (Or.inr hn)])
   have hn' :(s.size:Int)<2+(s[1].toNat:Int):=by omega
   go_enter Tryz.func132, Tryz.ntmps132
   go_wp2_with fail
   have HBF:=(((zA0 w (.cells #[.string ⟨#[]⟩, .string ⟨#[]⟩, .bool false] 109)).setCell (p:=⟨w.heap.size,0,none⟩) (Nat.le_refl _) (.string ⟨#[]⟩)).setCell (p:=⟨w.heap.size,1,none⟩) (Nat.le_refl _) (.string ⟨#[]⟩)).setCell (p:=⟨w.heap.size,2,none⟩) (Nat.le_refl _) (.bool false)
   refine bodyPost_ret (v:= .tuple #[.agg #[.string ⟨#[]⟩, .string ⟨#[]⟩, .bool false], .iface 73 (.int .i64 4)]) (by simp [results, Tryz.results132,go_sem]) rfl ?_
   exact ⟨by rw [HC.out];rfl,by first | exact HBF | exact zA0 _ _⟩
 have HC:Hid (zH4 s=if zA2 (yE2 s s[0] s[1])≠0 then (xH6,4) else (yE2 s s[0] s[1],0)):=hid (by rw [HC0.out];unfold zR9;rw [if_neg (by omega)])
 have hn' :¬(s.size:Int)<2+(s[1].toNat:Int):=by omega
 clear HC0
 go_enter Tryz.func132, Tryz.ntmps132
 go_wp2_with fail
 go_region
 obtain ⟨k,hk⟩:∃k,k=s.extract 2 (2+s[1].toNat):=⟨_,rfl⟩
 obtain ⟨v,hv⟩:∃k,k=s.extract (2+s[1].toNat) s.size:=⟨_,rfl⟩
 obtain ⟨g,hgn⟩:∃k,k=((s[0].toNat:Int)==1):=⟨_,rfl⟩
 have hcc:yE2 s s[0] s[1]=⟨k,v,g⟩:=by rw [hk,hv,hgn];rfl
 have hks:k.size≤maxLen:=by rw [hk,ByteArray.size_extract];unfold maxLen;omega
 have hvs:v.size≤maxLen:=by rw [hv,ByteArray.size_extract];unfold maxLen;omega
 rw [hcc] at HC
 rw [←hk,←hv,←hgn]
 obtain ⟨W2,hW2⟩:∃W2,W2=((w.alloc (.cells #[.string ⟨#[]⟩, .string ⟨#[]⟩, .bool false] 109)).alloc (.cells #[.string k, .string v, .bool g] 109)).drew:=⟨_,rfl⟩
 have z1:W1.heap.size=w.heap.size+1:=by rw [HW1.out];simp
 have X2:QXAt W2 (w.heap.size+1) ⟨k,v,g⟩:=by
  rw [hW2,←HW1.out,←z1]
  exact (QXAt.new W1 ⟨k,v,g⟩).below (Below.refl _ _).drew
 have B2:Below W1.heap.size W1 W2:=by rw [hW2,←HW1.out];exact (zA0 _ _).drew
 have HX2:=hid X2
 have HR2:=hid (HQ.out.below B2)
 have HB2:=hid (two B1.out B2)
 have CC:=hid fun W=>yG2 k v g W hks hvs
 have HW2:=hid hW2
 have q0:=HX2.out.c0
 have q1:=HX2.out.c1
 have q2:=HX2.out.c2
 dsimp only at q0 q1 q2
 rw [←HW2.out]
 clear hk hv hgn hcc hW2 X2 B2 z1 hks hvs hg hn hn' hy
 go_wp2_with fail
 refine (CC.out _).mono ?_
 rintro e w3 ⟨rfl,hb3⟩
 have HR3:=hid (HR2.out.below hb3)
 have HX3:=hid (HX2.out.below hb3)
 have HB3:=hid (two HB2.out hb3)
 clear hb3 q0 q1 q2
 have r0:=HR3.out.c0
 have r1:=HR3.out.c1
 have r2:=HR3.out.c2
 have r3:=HR3.out.f0
 have r4:=HR3.out.f1
 have r5:=HR3.out.f2
 by_cases hf:zA2 ⟨k,v,g⟩=0
 · have he:zE6 (zA2 ⟨k,v,g⟩)= .nilIface:=by rw [hf];rfl
   have HC2:Hid (zH4 s=(⟨k,v,g⟩,0)):=hid (by rw [HC.out,if_neg (by simp [hf])])
   have q0:=HX3.out.c0
   have q1:=HX3.out.c1
   have q2:=HX3.out.c2
   dsimp only at q0 q1 q2
   clear hf
   go_wp2_with fail
   have HBF:=((HB3.out.setCell (p:=⟨w.heap.size,0,none⟩) (Nat.le_refl _) (.string k)).setCell (p:=⟨w.heap.size,1,none⟩) (Nat.le_refl _) (.string v)).setCell (p:=⟨w.heap.size,2,none⟩) (Nat.le_refl _) (.bool g)
   refine bodyPost_ret (v:= .tuple #[.agg #[.string k, .string v, .bool g], .nilIface]) (by simp [results, Tryz.results132,go_sem,r0,r1,r2,r3,r4,r5]) rfl ?_
   exact ⟨by rw [HC2.out];rfl,HBF⟩
 · have he:zE6 (zA2 ⟨k,v,g⟩)= .iface 73 (.int .i64 (zA2 ⟨k,v,g⟩)):=zA5 hf
   have HC2:Hid (zH4 s=(xH6,4)):=hid (by rw [HC.out,if_pos hf])
   clear hf
   go_wp2_with fail
   have HBF:=((HB3.out.setCell (p:=⟨w.heap.size,0,none⟩) (Nat.le_refl _) (.string ⟨#[]⟩)).setCell (p:=⟨w.heap.size,1,none⟩) (Nat.le_refl _) (.string ⟨#[]⟩)).setCell (p:=⟨w.heap.size,2,none⟩) (Nat.le_refl _) (.bool false)
   refine bodyPost_ret (v:= .tuple #[.agg #[.string ⟨#[]⟩, .string ⟨#[]⟩, .bool false], .iface 73 (.int .i64 4)]) (by simp [results, Tryz.results132,go_sem,r0,r1,r2,r3,r4,r5]) rfl ?_
   exact ⟨by rw [HC2.out];rfl,HBF⟩
end Go.Proofs.YtggpodlecljcbabGreatDoor
