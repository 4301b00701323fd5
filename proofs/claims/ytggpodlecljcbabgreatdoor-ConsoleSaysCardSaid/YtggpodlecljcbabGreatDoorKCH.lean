/- A row of strings that is appended to; a trio stays as a block of strings is written. -/
import Derived.Maps.AppendAt
import Derived.Test.YtggpodlecljcbabGreatDoorKC6
import Derived.Test.YtggpodlecljcbabGreatDoorKT0
import Derived.Test.YtggpodlecljcbabGreatDoorKCE
import Derived.Test.YtggpodlecljcbabGreatDoorKC9
import Derived.Test.YtggpodlecljcbabGreatDoorKCB
namespace Go.Proofs.YtggpodlecljcbabGreatDoor
set_option linter.unusedSimpArgs false
set_option linter.unusedVariables false
set_option maxRecDepth 100000
set_option maxHeartbeats 64000000
open Lib (hid)
open Go.RowKit Go.Sort
def StrBlk (w:World)(g:Nat):Prop:=∃cur t,w.heap[g]?=some (.cells cur t (0,0))∧∀x∈cur.toList,∃s,x= .string s
def yN5 (P:Program)(T E:Nat):Prop:=∃i,P.underlying T=some (.slice E)∧P.info? E=some i∧i.zero=some (.string ⟨#[]⟩)∧i.size=1∧i.bytes=16
theorem vO2 {P:Program}{T E:Nat}(h1:P.underlying T=some (.slice E))(h2:(P.info? E).map (fun i=>(i.zero,i.size,i.bytes))=some (some (.string ⟨#[]⟩),1,16)):yN5 P T E:=by
 obtain ⟨i,hi,he⟩:=Option.map_eq_some_iff.1 h2
 simp only [Prod.mk.injEq] at he
 exact ⟨i,h1,hi,he.1,he.2.1,he.2.2⟩
theorem vN1 :yN5 Tryz.prog 56 9:=vO2 Tryz.underlying56 (by kernel_rfl)
structure Strs (w:World) (base E:Nat) (v:Value) (l:List ByteArray):Prop where
 own:w.ownsRow base E 1 v l.length (l.flatMap zD3)
 all:∀g,v.ownBlock=some g→StrBlk w g
theorem vJ0 (w:World)(base E:Nat):Strs w base E (.slice none 0 0) []:=⟨World.ownsRow_nil _ _ _ _,fun g h=>by cases h⟩
theorem StrBlk.off {F:Nat→Prop}{w w' :World}{g:Nat}(h:StrBlk w g)(hO:Off F w w')(hF:¬F g):StrBlk w' g:=by
 obtain ⟨cur,t,h1,h2⟩:=h
 exact ⟨cur,t,by rw [hO.block _ (Array.getElem?_eq_some_iff.1 h1).1 hF];exact h1,h2⟩
theorem Strs.off {F:Nat→Prop}{w w' :World}{base E:Nat}{v:Value}{l:List ByteArray}(h:Strs w base E v l)(hO:Off F w w')(hF:∀g,v.ownBlock=some g→¬F g):Strs w' base E v l:=
 ⟨hO.owns h.own hF,fun g hg=>(h.all g hg).off hO (hF g hg)⟩
theorem Strs.below {w w' :World}{base E:Nat}{v:Value}{l:List ByteArray}(h:Strs w base E v l)(hb:Below w.heap.size w w'):Strs w' base E v l:=h.off (zB7 hb (fun _=>False)) (fun _ _ h=>h)
theorem xS3 (l:List ByteArray):∀x∈l.flatMap zD3,∃s,x= .string s:=fun x hx=>by
 obtain ⟨s,_,h⟩:=List.mem_flatMap.1 hx
 exact ⟨s,List.mem_singleton.1 h⟩
theorem xR3 (n:Nat):∀x∈(Builtin.zeroCells (Value.cells (.string ⟨#[]⟩)) n).toList,∃s,x= .string s:=fun x hx=>by
 have h:x∈Builtin.zeroCells (Value.cells (.string ⟨#[]⟩)) n:=Array.mem_toList_iff.1 hx
 unfold Builtin.zeroCells at h
 obtain ⟨i,_,hi⟩:=Array.mem_map.1 h
 refine ⟨⟨#[]⟩,?_⟩
 rw [←hi]
 show #[Value.string ⟨#[]⟩][i % 1]! =_
 rw [Nat.mod_one];rfl
section
variable {P:Program} (w:World)
theorem vI2 {T E ty:Nat}(I:yN5 P T E)(base:Nat)(v:Value)(l:List ByteArray)(h:Strs w base E v l)(a:Addr)(c:Nat)(t:ByteArray)(ha:w.cell? a=some (.string t))(h63:l.length+1≤1000000000)(hbase:base≤w.heap.size):
 ∃v' w',(Builtin.append_ #[T,T] ty #[v, .slice (some a) 1 c]).run P w= .ok v' w' ∧Strs w' base E v' (l++ [t])∧w.grownBy w' v.ownBlock∧(v'.ownBlock=v.ownBlock∨v'.ownBlock=some w.heap.size):=by
 obtain ⟨i,e1,e2,e3,e4,e5⟩:=I
 have hn:∀j u, [Value.string t][j]?=some u→w.cell? (a.add j)=some u:=fun j u hj=>by
  match j,hj with
  | 0,hj=>
   simp at hj
   subst hj
   rw [show a.add 0=a by unfold Addr.add;split <;> simp_all]
   exact ha
 have h1:∀u∈ [Value.string t],u.oneCell' =true:=fun u hu=>by rw [List.mem_singleton.1 hu];rfl
 obtain ⟨v',w',hr,h2,h3,_,h5⟩:=run_append_own_at (P:=P) w base T ty E i _ 1 16 e1 e2 e3 e4 e5 rfl (by decide) v l.length _ h.own a 1 c [.string t] rfl hn h1 (by unfold maxLen;omega) (by omega) hbase
 refine ⟨v',w',hr,⟨?_,fun g hg=>?_⟩,h3,h5⟩
 · rw [List.length_append,List.flatMap_append];exact h2
 · rcases h.own.2 with ⟨rfl,h0⟩ | ⟨g0,cap,cur,rfl,hbg,hg0,hnc,hcm,hcs,htake⟩
   · have hr2:=run_append_nil (P:=P) w T ty E i _ e1 e2 e3 a 1 c [.string t] (by rw [e4];rfl) hn (by decide) (by decide) (by rw [e5];decide)
     rw [hr] at hr2
     injection hr2 with q1 q2
     subst q1 q2
     simp only [Value.ownBlock,Option.some.injEq] at hg
     subst hg
     refine ⟨_,_,heap_alloc_new w.drew _,fun x hx=>?_⟩
     rw [Array.toList_append,List.mem_append] at hx
     rcases hx with hx | hx
     · exact ⟨t,List.mem_singleton.1 (by simpa using hx)⟩
     · exact xR3 _ x hx
   · by_cases hroom:l.length+1≤cap
     · have hr2:=run_append_room (P:=P) w T ty E i e1 e2 g0 l.length cap cur hg0 a 1 c [.string t] (by rw [e4];rfl) hn h1 hroom (by rw [e4,hcs];simp;omega)
       rw [hr] at hr2
       injection hr2 with q1 q2
       subst q1 q2
       simp only [Value.ownBlock,Option.some.injEq] at hg
       subst hg
       obtain ⟨cur2,t2,q3,q4⟩:=h.all g0 rfl
       rw [hg0] at q3
       simp only [Option.some.injEq,Obj.cells.injEq] at q3
       obtain ⟨rfl,rfl,_⟩:=q3
       refine ⟨_,_,setRow_heap w g0 cur _ E _ hg0,fun x hx=>?_⟩
       have hx' :x∈List.take (l.length * i.size) cur.toList++ [Value.string t]++List.drop (l.length * i.size+ [Value.string t].length) cur.toList:=hx
       rw [List.mem_append,List.mem_append] at hx'
       rcases hx' with (hx | hx) | hx
       · exact q4 x (List.mem_of_mem_take hx)
       · exact ⟨t,List.mem_singleton.1 hx⟩
       · exact q4 x (List.mem_of_mem_drop hx)
     · have holds:∀j u,(l.flatMap zD3)[j]?=some u→w.cell? ((⟨g0,0,none⟩:Addr).add j)=some u:=h.own.cells (g:=g0) rfl
       have hr2:=run_append_grow (P:=P) w T ty E i _ e1 e2 e3 ⟨g0,0,none⟩ l.length cap _ (by rw [e4];exact h.own.1) holds a 1 c [.string t] (by rw [e4];rfl) hn (by omega) (by omega) (growslice_fits (by omega) (by rw [e5];omega))
       rw [hr] at hr2
       injection hr2 with q1 q2
       subst q1 q2
       simp only [Value.ownBlock,Option.some.injEq] at hg
       subst hg
       refine ⟨_,_,heap_alloc_new w.drew _,fun x hx=>?_⟩
       rw [Array.toList_append,Array.toList_append,List.mem_append,List.mem_append] at hx
       rcases hx with (hx | hx) | hx
       · exact xS3 l x (by simpa using hx)
       · exact ⟨t,List.mem_singleton.1 (by simpa using hx)⟩
       · exact xR3 _ x hx
theorem xA8 {T E:Nat}(I:yN5 P T E){ops:Array Oper}{rest:List Oper}{o:Oper}{a:Go.Act}{Q:Exit→Go.Act→World→Prop}(hgd:o.guard=none)(s x:Operand)
 (ho:o.op= .call { callee:= .builtin .append,args:= #[s,x],argTypes:= #[T,T] })
 (base:Nat) (v:Value) (l:List ByteArray) (hs:a.eval s=v) (hown:Strs w base E v l)
 (ad:Addr) (c:Nat) (t:ByteArray) (hx:a.eval x= .slice (some ad) 1 c) (hc:w.cell? ad=some (.string t)) (h63:l.length+1≤1000000000) (hbase:base≤w.heap.size)
 (h:∀v' w',Strs w' base E v' (l++ [t])→w.grownBy w' v.ownBlock→(v'.ownBlock=v.ownBlock∨v'.ownBlock=some w.heap.size)→wpList P ops Q rest (a.put o.dst v') w'):wpList P ops Q (o::rest) a w:=by
 refine wpList_plain hgd fun K hK=>?_
 obtain ⟨v',w',hr,h2,h3,h5⟩:=vI2 (P:=P) w (ty:=o.type) I base v l hown ad c t hc h63 hbase
 unfold Oper.wp execOp
 simp only [ho,resolve,invoke,builtin,Sem.run_bind,Sem.run_pure,Result.andThen_ok,List.map_toArray,List.map_cons,List.map_nil,hs,hx,hr]
 exact hK _ _ (h v' w' h2 h3 h5)
end
theorem vM4 {α:Type}{k j:Nat}{enc:α→List Value}{w:World}{v:Value}{l:List α}{g:Nat}(h:Rd k enc w v l)(hj:∀x,∃u,(enc x)[j]?=some u∧∀s,u≠ .string s)(hg:StrBlk w g):far (fun x=>x=g) v:=by
 intro a n c e hn hx
 obtain ⟨_,ao,cap,rfl,_,_,_,h6⟩:=h
 simp only [Value.slice.injEq] at e
 obtain ⟨rfl,hl,_⟩:=e
 have hx' :a.block=g:=hx
 match l,hl with
 | [],hl=>exact absurd hn (by rw [←hl];exact Nat.lt_irrefl 0)
 | y::r,_=>
  obtain ⟨u,hu,hs⟩:=hj y
  have hlt:j<(enc y).length:=(List.getElem?_eq_some_iff.1 hu).1
  obtain ⟨b,off,q1,q2⟩:=h6 j u (by rw [List.flatMap_cons,List.getElem?_append_left hlt];exact hu)
  simp only [Option.some.injEq] at q1
  subst q1
  have hb:b=g:=hx'
  subst hb
  obtain ⟨cur,t,q3,q4⟩:=hg
  rw [cell_of_row w b (off+j) cur t (0,0) q3] at q2
  obtain ⟨s,hs'⟩:=q4 u (Array.mem_toList_iff.2 (Array.mem_of_getElem? q2))
  exact hs s hs'
theorem xX9 {w:World}{v:Value}{l:List File}{g:Nat}(h:Files w v l)(hg:StrBlk w g):far (fun x=>x=g) v:=vM4 (j:=2) h (fun x=>⟨_,rfl,fun s=>by simp⟩) hg
theorem PreT.off1 {P:Nat→Prop}{B:Nat}{b:Nat→Nat}{w w' :World}{tb:Nat}{L:Nat→Dk}{D:Nat→DiskS}{lb sb:Nat→Nat}{rv:Nat→Value}{sp:Nat→Option Addr}{v:Value}{q:Quilt}{g:Nat}(h:PreT P B b w tb L D lb sb rv sp v q)(hO:Off (fun x=>x=g) w w')(hg:StrBlk w g)(hn:¬TF tb L lb sb g):PreT P B b w' tb L D lb sb rv sp v q where
 box:=by rw [hO.block _ h.tlt (fun hx=>hn (Or.inl (Eq.symm hx)))];exact h.box
 ds:=⟨fun k hk=>(h.ds.d k hk).off hO (fun x hx e=>hn (Or.inr ⟨k,hk,by rw [←show x=g from e];exact Or.inl hx⟩)),h.ds.eq,h.ds.low,h.ds.ap⟩
 st:=fun k hk hp S q' e=>by
  obtain ⟨s1,s2⟩:=h.st k hk hp S q' e
  exact ⟨s1,s2.off hO (fun x hx e=>hn (Or.inr ⟨k,hk,by rw [←show x=g from e];exact hx⟩)) (vM4 (j:=2) s2.rows.rd (fun x=>⟨_,rfl,fun s=>by simp⟩) hg)⟩
 lt:=fun k hk x hx=>⟨Nat.lt_of_lt_of_le (h.lt k hk x hx).1 hO.size,(h.lt k hk x hx).2⟩
 ap:=h.ap
 fr:=h.fr
 rl:=fun k hk a n c e hn hx=>h.rl k hk a n c e hn (Nat.le_trans hO.size hx)
 nt:=h.nt
 rt:=h.rt
 tB:=h.tB
 qv:=(RdF.off (F:=fun x=>x=g) ⟨h.qv,xX9 h.qv hg⟩ hO).rd
 qf:=h.qf
 qt:=h.qt
 rB:=h.rB
 vB:=h.vB
theorem SessT.off1 {m B:Nat}{W0:World}{b:Nat→Nat}{w w' :World}{sx tb:Nat}{q:Quilt}{L:Nat→Dk}{D:Nat→DiskS}{S:Nat→StS}{lb sb:Nat→Nat}{rv:Nat→Value}{v:Value}{g:Nat}(h:SessT m B W0 b w sx tb q L D S lb sb rv v)(hO:Off (fun x=>x=g) w w')(hg:StrBlk w g)(hn:¬SF sx tb L lb sb g)(hl:W0.heap.size≤g):SessT m B W0 b w' sx tb q L D S lb sb rv v:=
 ⟨⟨h.t.pre.off1 hO hg (fun hx=>hn (Or.inr hx)),h.t.has,h.t.ep,h.t.good⟩,by rw [hO.block _ h.lt (fun hx=>hn (Or.inl (Eq.symm hx)))];exact h.box,h.lo,h.hi,h.bel.trans (hO.below _ h.bel.size (fun x hx=>by rw [show x=g from hx];exact hl))⟩
theorem SessB.off1 {k m B:Nat}{W0:World}{b:Nat→Nat}{w w' :World}{sx tb:Nat}{q:Quilt}{L:Nat→Dk}{D:Nat→DiskS}{S:Nat→StS}{lb sb:Nat→Nat}{rv:Nat→Value}{sp:Nat→Option Addr}{v:Value}{g:Nat}(h:SessB k m B W0 b w sx tb q L D S lb sb rv sp v)(hO:Off (fun x=>x=g) w w')(hg:StrBlk w g)(hn:¬SF sx tb L lb sb g)(hl:W0.heap.size≤g):SessB k m B W0 b w' sx tb q L D S lb sb rv sp v:=
 ⟨h.pre.off1 hO hg (fun hx=>hn (Or.inr hx)),h.has,h.snd,h.good,by rw [hO.block _ h.lt (fun hx=>hn (Or.inl (Eq.symm hx)))];exact h.box,h.lo,h.hi,h.bel.trans (hO.below _ h.bel.size (fun x hx=>by rw [show x=g from hx];exact hl))⟩
open Go.RowKit Go.Sort
theorem xB5 {w:World}{ao:Option Addr}{n cap:Nat}{l:List ByteArray}(h:Rd 1 zD3 w (.slice ao n cap) l)(i:Nat)(hi:i<l.length):∃b off,ao=some ⟨b,off,none⟩∧b<w.heap.size∧w.cell? ⟨b,off+i,none⟩=some (.string l[i]):=by
 obtain ⟨b,off,e,hb,hc⟩:=Rd.at (enc:=zD3) (fun _=>rfl) (by decide) h i hi
 exact ⟨b,off,e,hb,by have:=hc 0 (.string l[i]) rfl;simpa using this⟩
theorem xP0 (w:World)(u:Value)(t:TypeId):(w.alloc (.cells #[u] t)).cell? ⟨w.heap.size,0,none⟩=some u:=by
 have h:=zL0 (w:=w) (u:=u) (t:=t) 0 u rfl
 rw [Addr.add_lit] at h
 exact h
def vN0 (p0 p1 p2:Value):Obj:= .cells #[p0,p1,p2, .pointer none] 97 (0,0)
theorem zR3 {p0 p1 p2:Value}{w:World}{sx:Nat}(h:w.heap[sx]?=some (vN0 p0 p1 p2)):w.cell? ⟨sx,0,none⟩=some p0∧w.cell? ⟨sx,1,none⟩=some p1∧w.cell? ⟨sx,2,none⟩=some p2∧w.cell? ⟨sx,3,none⟩=some (.pointer none)∧∀o,w.frozen? ⟨sx,o,none⟩=false:=by
 unfold vN0 at h
 exact ⟨by simp [World.cell?,h],by simp [World.cell?,h],by simp [World.cell?,h],by simp [World.cell?,h],fun o=>by simp [World.frozen?,h]⟩
theorem uH5 (m B:Nat)(W0:World)(b:Nat→Nat)(w:World)(sx:Nat)(q:Quilt)(L:Nat→Dk)(D:Nat→DiskS)(S:Nat→StS)(hds:Disks3 B b w L D)(hq:∀k,k<3→HasQ (D k) (S k) q∧(S k).h.epoch≤m)(hgood:Good q)(hbx:w.heap[sx]?=some (vN0 (.pointer (some ⟨b 0,0,none⟩)) (.pointer (some ⟨b 1,0,none⟩)) (.pointer (some ⟨b 2,0,none⟩))))(hlo:W0.heap.size≤sx)(hhi:sx<B)(hBw:B≤w.heap.size)(hbel:Below W0.heap.size W0 w)(hg:GlobI W0):
 Calls Tryz.prog 39 #[.pointer (some ⟨sx,0,none⟩)] w fun e w' =>e= .returned (.string yK1)∧∃F,Sess m B W0 b sx q F w' :=by
 obtain ⟨X,hXs,hXg,hXw,hX0⟩:=xA2 hbel (by omega:W0.heap.size≤B) hBw hg
 have CO:=vK1 X b L D S m q w (by rw [hXs];exact hds) hq hXg hXw hgood
 rw [hXs] at CO
 replace CO:=hid CO
 have HND:Hid (¬DF L sx):=hid (fun hx=>by
  obtain ⟨k,hk,hx⟩:=hx
  have:=hds.low k hk _ hx
  omega)
 have HLT:Hid (sx<w.heap.size):=hid (Array.getElem?_eq_some_iff.1 hbx).1
 have HX:=hid (And.intro hXs (And.intro hXw hX0))
 have HLO:=hid hlo
 have HHI:=hid hhi
 have HBB:=hid hbx
 obtain ⟨y0,y1,y2,y3,yf⟩:=zR3 hbx
 have CI:=hid xA4
 clear hds hq hgood hbx hlo hhi hBw hbel hg hXs hXg hXw hX0
 go_enter Tryz.func39, Tryz.ntmps39
 go_wp2_with fail
 refine CO.out.mono ?_
 rintro e w1 ⟨tb1,L1,lb1,sb1,rv1,v1,rfl,ht,hs,hb⟩
 have hk:=hs.keep HLT.out HND.out
 have hbx:=hk.1.trans HBB.out
 have HT:=hid ht
 have HB:=hid hb
 have HBX:=hid hbx
 obtain ⟨z0,z1,z2,z3,zf⟩:=zR3 hbx
 clear ht hs hb hk hbx y0 y1 y2 y3 yf
 go_wp2_with fail
 refine (CI.out _).mono ?_
 rintro e w2 ⟨rfl,rfl⟩
 go_wp2_with fail
 go_ret
 have hof:Off (fun x=>x=sx) w1 (w1.setCell ⟨sx,3,none⟩ (.pointer (some ⟨tb1,0,none⟩))):=zA7 (F:=fun x=>x=sx) w1 ⟨sx,3,none⟩ rfl _
 have hof2:Off (fun x=>x<B) w1 (w1.setCell ⟨sx,3,none⟩ (.pointer (some ⟨tb1,0,none⟩))):=hof.mono (fun x e=>by have h1:x=sx:=e;have:=HHI.out;omega)
 refine ⟨rfl,SF sx tb1 L1 lb1 sb1,tb1,L1,D,S,lb1,sb1,rv1,v1,⟨⟨HT.out.pre.lowoff hof2,HT.out.has,HT.out.ep,HT.out.good⟩,?_,HLO.out,HHI.out,?_⟩,rfl⟩
 · have h1:=HBX.out
   unfold vN0 at h1
   unfold SBox
   rw [zA3 _ _ _ _ h1];rfl
 · have h1:=two HX.out.2.2 (by have h2:=HB.out;rw [←HX.out.1] at h2;exact h2)
   exact (h1.trans (hof.below _ h1.size (fun x e=>by have h2:x=sx:=e;have:=HLO.out;omega)))
structure SayRel (W0:World) (lines:List ByteArray) (ans:Nat→ByteArray) (sx:Nat) (Rel:Nat→(Nat→Prop)→World→Prop):Prop where
 step:∀j (hj:j<lines.length) F w,Rel j F w→Calls Tryz.prog 40 #[.pointer (some ⟨sx,0,none⟩), .string lines[j]] w (fun e w' =>e= .returned (.string (ans j))∧∃F',Rel (j+1) F' w' ∧Steps F w w' F')
 off:∀j F w w' g,Rel j F w→¬F g→StrBlk w g→Off (fun x=>x=g) w w' →W0.heap.size≤g→Rel j F w'
 below:∀j F w w',Rel j F w→Below w.heap.size w w' →Rel j F w'
 bel:∀j F w,Rel j F w→Below W0.heap.size W0 w
 lt:∀j F w,Rel j F w→∀x,F x→x<w.heap.size
def zL9 (ans:Nat→ByteArray)(n:Nat):List ByteArray:=(List.range n).map ans
theorem yX5 (ans:Nat→ByteArray)(n:Nat):zL9 ans (n+1)=zL9 ans n++ [ans n]:=by
 unfold zL9
 rw [List.range_succ,List.map_append];rfl
theorem zW8 (ans:Nat→ByteArray)(n:Nat):(zL9 ans n).length=n:=by
 unfold zL9
 rw [List.length_map,List.length_range]
theorem uH6 (w0:World)(hg:GlobI w0)(lo:Option Addr)(lc:Nat)(lines:List ByteArray)(hl:Rd 1 zD3 w0 (.slice lo lines.length lc) lines)(hn:lines.length≤80)(ans:Nat→ByteArray)(Rel:Nat→(Nat→Nat)→Nat→(Nat→Prop)→World→Prop)
 (h0:∀B b F w,Sess 2 B w0 b w0.heap.size ⟨[],1⟩ F w→Rel B b 0 F w) (hR:∀B b,SayRel w0 lines ans w0.heap.size (Rel B b)):
 Calls Tryz.prog 19 #[.slice lo lines.length lc] w0 fun e w' =>∃v,e= .returned (.tuple #[v, .nilIface])∧Strs w' w0.heap.size 9 v (zL9 ans lines.length)∧Below w0.heap.size w0 w' :=by
 have HG:=hid hg
 have HL:=hid hl
 have HN:=hid hn
 have H0:=hid h0
 have HR:=hid hR
 obtain ⟨W1,hW1⟩:∃W1,W1=w0.alloc (.cells #[.pointer none, .pointer none, .pointer none, .pointer none] 97):=⟨_,rfl⟩
 have HW1:=hid hW1
 have HB1:Hid (Below w0.heap.size w0 W1):=hid (by rw [hW1];exact zA0 _ _)
 have HZ1:Hid (W1.heap.size=w0.heap.size+1):=hid (by rw [hW1];simp)
 have HSX:Hid (W1.heap[w0.heap.size]?=some (vN0 (.pointer none) (.pointer none) (.pointer none))):=hid (by rw [hW1];unfold vN0;show (w0.heap.push _)[w0.heap.size]?=_;simp)
 clear hW1 hg hl h0 hR
 go_enter Tryz.func19, Tryz.ntmps19
 go_wp2_with fail
 rw [←HW1.out]
 go_loopw [18] (fun iv wr=>∃(k:Nat) (b:Nat→Nat) (L:Nat→Dk),k≤3∧iv= .int .i64 k∧wr.heap[w0.heap.size]?=some (vN0 (ptrTo b k 0) (ptrTo b k 1) (ptrTo b k 2))∧NewTo W1.heap.size b wr L k∧Below w0.heap.size W1 wr) (fun iv _=>3 - (intOf iv).toNat)
 case atStart=>exact ⟨0,fun _=>0,fun _=>⟨0,0,0,0,0, .nilIface⟩,by omega,rfl,HSX.out,⟨fun k hk=>by omega,fun k hk=>by omega,fun k hk=>by omega,fun i j hi=>by omega⟩,(Below.refl W1.heap.size W1).mono (by have:=HZ1.out;omega)⟩
 case round=>
  obtain ⟨k,b,L,hk,rfl,hbx,hnew,hbw⟩:=hrel
  have HBX:=hid hbx
  have HNEW:=hid hnew
  have HBW:=hid hbw
  clear hbx hnew hbw
  obtain rfl | rfl | rfl | rfl:k=0∨k=1∨k=2∨k=3:=by omega
  · have CN:=hid (xQ4 60 wr (by decide) (by decide))
    rw [show ((0:Nat):Int)=0 from rfl]
    go_wp2_with fail
    refine CN.out.mono ?_
    rintro e w3 ⟨Ln,rfl,hd,hb,hf⟩
    have hz:w0.heap.size<wr.heap.size:=(Array.getElem?_eq_some_iff.1 HBX.out).1
    have hz2:W1.heap.size≤wr.heap.size:=HBW.out.size
    have hbx3:w3.heap[w0.heap.size]?=some (vN0 (.pointer none) (.pointer none) (.pointer none)):=by rw [hb.block _ hz];exact HBX.out
    have HBX3:=hid hbx3
    obtain ⟨z0,z1,z2,z3,zf⟩:=zR3 hbx3
    have HN3:=hid (HNEW.out.next (w2:=w3.setCell ⟨w0.heap.size,0,none⟩ (.pointer (some ⟨Ln.b,0,none⟩))) hb hz2 hd hf (zA7 (F:=fun x=>x<W1.heap.size) w3 ⟨w0.heap.size,0,none⟩ (by have:=HZ1.out;show w0.heap.size<W1.heap.size;omega) _))
    have HB3:=hid hb
    clear hd hb hf hbx3 hz
    go_wp2_with fail
    go_roundw
    case rel=>
     refine ⟨1,upd b 0 Ln.b,upd L 0 Ln,by omega,rfl,?_,HN3.out,(HBW.out.trans (HB3.out.mono (by have:=HZ1.out;omega))).setCell (p:=⟨w0.heap.size,0,none⟩) (Nat.le_refl _) _⟩
     have h1:=HBX3.out
     unfold vN0 at h1 ⊢
     exact zA3 _ _ _ _ h1
    case measure=>simp [intOf]
  · have CN:=hid (xQ4 60 wr (by decide) (by decide))
    rw [show ((1:Nat):Int)=1 from rfl]
    go_wp2_with fail
    refine CN.out.mono ?_
    rintro e w3 ⟨Ln,rfl,hd,hb,hf⟩
    have hz:w0.heap.size<wr.heap.size:=(Array.getElem?_eq_some_iff.1 HBX.out).1
    have hz2:W1.heap.size≤wr.heap.size:=HBW.out.size
    have hbx3:w3.heap[w0.heap.size]?=some (vN0 (.pointer (some ⟨b 0,0,none⟩)) (.pointer none) (.pointer none)):=by rw [hb.block _ hz];exact HBX.out
    have HBX3:=hid hbx3
    obtain ⟨z0,z1,z2,z3,zf⟩:=zR3 hbx3
    have HN3:=hid (HNEW.out.next (w2:=w3.setCell ⟨w0.heap.size,1,none⟩ (.pointer (some ⟨Ln.b,0,none⟩))) hb hz2 hd hf (zA7 (F:=fun x=>x<W1.heap.size) w3 ⟨w0.heap.size,1,none⟩ (by have:=HZ1.out;show w0.heap.size<W1.heap.size;omega) _))
    have HB3:=hid hb
    clear hd hb hf hbx3 hz
    go_wp2_with fail
    go_roundw
    case rel=>
     refine ⟨2,upd b 1 Ln.b,upd L 1 Ln,by omega,rfl,?_,HN3.out,(HBW.out.trans (HB3.out.mono (by have:=HZ1.out;omega))).setCell (p:=⟨w0.heap.size,1,none⟩) (Nat.le_refl _) _⟩
     have h1:=HBX3.out
     unfold vN0 at h1 ⊢
     exact zA3 _ _ _ _ h1
    case measure=>simp [intOf]
  · have CN:=hid (xQ4 60 wr (by decide) (by decide))
    rw [show ((2:Nat):Int)=2 from rfl]
    go_wp2_with fail
    refine CN.out.mono ?_
    rintro e w3 ⟨Ln,rfl,hd,hb,hf⟩
    have hz:w0.heap.size<wr.heap.size:=(Array.getElem?_eq_some_iff.1 HBX.out).1
    have hz2:W1.heap.size≤wr.heap.size:=HBW.out.size
    have hbx3:w3.heap[w0.heap.size]?=some (vN0 (.pointer (some ⟨b 0,0,none⟩)) (.pointer (some ⟨b 1,0,none⟩)) (.pointer none)):=by rw [hb.block _ hz];exact HBX.out
    have HBX3:=hid hbx3
    obtain ⟨z0,z1,z2,z3,zf⟩:=zR3 hbx3
    have HN3:=hid (HNEW.out.next (w2:=w3.setCell ⟨w0.heap.size,2,none⟩ (.pointer (some ⟨Ln.b,0,none⟩))) hb hz2 hd hf (zA7 (F:=fun x=>x<W1.heap.size) w3 ⟨w0.heap.size,2,none⟩ (by have:=HZ1.out;show w0.heap.size<W1.heap.size;omega) _))
    have HB3:=hid hb
    clear hd hb hf hbx3 hz
    go_wp2_with fail
    go_roundw
    case rel=>
     refine ⟨3,upd b 2 Ln.b,upd L 2 Ln,by omega,rfl,?_,HN3.out,(HBW.out.trans (HB3.out.mono (by have:=HZ1.out;omega))).setCell (p:=⟨w0.heap.size,2,none⟩) (Nat.le_refl _) _⟩
     have h1:=HBX3.out
     unfold vN0 at h1 ⊢
     exact zA3 _ _ _ _ h1
    case measure=>simp [intOf]
  · rw [show ((3:Nat):Int)=3 from rfl]
    have hds:Disks3 W1.heap.size b wr L (fun _=>xI7 60):=⟨HNEW.out.d,HNEW.out.eq,HNEW.out.low,HNEW.out.ap⟩
    have hz1:=HZ1.out
    have hbw0:Below w0.heap.size w0 wr:=HB1.out.trans (HBW.out.mono (by omega))
    obtain ⟨X,hXs,hXg,hXw,hX0⟩:=xA2 hbw0 (B:=W1.heap.size) (by omega) HBW.out.size HG.out
    have hds0:Disks3 X.heap.size b wr L (fun _=>xI7 60):=by rw [hXs];exact hds
    have CF:=hid (vB5 X b L (fun _=>xI7 60) wr hds0 (fun _ _=>uC4) hXg hXw)
    have HXS:=hid hXs
    have HX0:=hid hX0
    have hbx:wr.heap[w0.heap.size]?=some (vN0 (.pointer (some ⟨b 0,0,none⟩)) (.pointer (some ⟨b 1,0,none⟩)) (.pointer (some ⟨b 2,0,none⟩))):=HBX.out
    have HBXW:=hid hbx
    obtain ⟨z0,z1,z2,z3,zf⟩:=zR3 hbx
    have HDB:Hid (w0.heap.size<wr.heap.size∧¬DF L w0.heap.size):=hid ⟨(Array.getElem?_eq_some_iff.1 hbx).1,fun hx=>by
     obtain ⟨k,hk,hx⟩:=hx
     have:=hds.low k hk _ hx
     omega⟩
    clear hbx hds hz1 hbw0 hds0 hXs hXg hXw hX0
    go_wp2_with fail
    refine CF.out.mono ?_
    rintro e w4 ⟨rfl,L4,D4,hd4,hq4,hb4,hs4⟩
    obtain ⟨S4,hS4⟩:=pick3 hq4
    have hkd:=hs4.keep HDB.out.1 HDB.out.2
    have hbx4:=hkd.1.trans HBXW.out
    have CO:=hid (uH5 2 X.heap.size w0 b w4 w0.heap.size ⟨[],1⟩ L4 D4 S4 hd4 hS4 uN3 hbx4 (Nat.le_refl _) (by have:=HXS.out;have:=HZ1.out;omega) hb4.size (two HX0.out hb4) HG.out)
    have H0X:=hid (H0.out X.heap.size b)
    have HRX:=hid (HR.out X.heap.size b)
    obtain ⟨y0,y1,y2,y3,yf⟩:=zR3 hbx4
    clear hd4 hq4 hb4 hs4 hS4 hkd hbx4 z0 z1 z2 z3 zf
    go_wp2_with fail
    refine CO.out.mono ?_
    rintro e w5 ⟨rfl,F5,hse⟩
    have HS5:=hid (H0X.out F5 w5 hse)
    obtain ⟨R,hRe⟩:∃R,R=Rel X.heap.size b:=⟨_,rfl⟩
    rw [←hRe] at HS5 HRX
    clear hse y0 y1 y2 y3 yf hRe
    go_wp2_with fail
    go_loopw [9,47] (fun v iv wr=>∃(j:Nat) (F:Nat→Prop),j≤lines.length∧iv= .int .i64 j∧R j F wr∧Strs wr w0.heap.size 9 v (zL9 ans j)∧(∀g,v.ownBlock=some g→¬F g)) (fun _ iv _=>lines.length - (intOf iv).toNat)
    case atStart=>exact ⟨0,F5,Nat.zero_le _,rfl,HS5.out,vJ0 _ _ _,fun g h=>by cases h⟩
    case round=>
     obtain ⟨j,F,hj,rfl,hr,hs,hf⟩:=hrel
     obtain ⟨oo,oc,rfl,hoc,hoc'⟩:=zI9 hs.own
     have hb:=HRX.out.bel j F wr hr
     have HB:=hid hb
     have HRJ:=hid hr
     have HSJ:=hid hs
     have HFJ:=hid hf
     rw [zW8] at *
     clear hr hs hf hb
     by_cases hlt:j<lines.length
     · have CS:=hid (HRX.out.step j hlt F wr HRJ.out)
       obtain ⟨lb,lf,rfl,hlb,x0⟩:=xB5 (Rd.below HL.out HB.out) j hlt
       obtain ⟨t,ht⟩:∃t,t=lines[j]:=⟨_,rfl⟩
       rw [←ht] at x0 CS
       clear ht
       go_wp2_with fail
       refine CS.out.mono ?_
       rintro e w6 ⟨rfl,F6,hr6,hst⟩
       have hoff6:∀g,(Value.slice oo j oc).ownBlock=some g→g<wr.heap.size∧¬F g:=fun g hg=>⟨(HSJ.out.own.lt g hg).2,HFJ.out g hg⟩
       have HS6:=hid (HSJ.out.off hst.off (fun g hg=>HFJ.out g hg))
       have HF6:Hid (∀g,(Value.slice oo j oc).ownBlock=some g→¬F6 g):=hid (fun g hg=>(hst.keep (hoff6 g hg).1 (hoff6 g hg).2).2.1)
       have HR6:=hid hr6
       have HB6:=hid (HRX.out.bel (j+1) F6 w6 hr6)
       have HLT6:=hid (HRX.out.lt (j+1) F6 w6 hr6)
       clear hr6 hst hoff6 x0
       go_wp2_with (at_builtin;refine xA8 _ vN1 rfl _ _ rfl w0.heap.size _ _ rfl (HS6.out.below (zA0 _ _)) ⟨w6.heap.size,0,none⟩ 1 (ans j) rfl ?c1 ?c2 ?c3 ?_)
       case c1=>exact xP0 _ _ _
       case c2=>rw [zW8];have:=HN.out;omega
       case c3=>have:=HB6.out.size;simp;omega
       intro v7 w7 ho7 hg7 hat7
       rw [←yX5] at ho7
       obtain ⟨W6,hW6⟩:∃W6,W6=w6.alloc (.cells #[.string (ans j)] 9):=⟨_,rfl⟩
       rw [←hW6] at hg7
       have hz6:W6.heap.size=w6.heap.size+1:=by rw [hW6];simp
       have hb6:Below w6.heap.size w6 W6:=by rw [hW6];exact zA0 _ _
       have hs6:=HS6.out.below hb6
       have hr7:R (j+1) F6 w7:=by
        have h1:=HRX.out.below (j+1) F6 w6 W6 HR6.out hb6
        cases hbk:(Value.slice oo j oc).ownBlock with
        | none=>exact HRX.out.below _ _ _ _ h1 ((zV9 (F:=fun _=>False) hg7 (fun k e=>by rw [hbk] at e;cases e)).below _ (Nat.le_refl _) (fun _ h=>h.elim))
        | some g=>exact HRX.out.off _ _ _ _ g h1 (HF6.out g hbk) (hs6.all g hbk) (zV9 hg7 (fun k e=>by rw [hbk] at e;exact (Option.some.inj e).symm)) (hs6.own.lt g hbk).1
       have hf7:∀g,v7.ownBlock=some g→¬F6 g:=fun g hg hx=>by
        rcases hat7 with h1 | h1
        · exact HF6.out g (by rw [←h1];exact hg) hx
        · rw [h1] at hg
          have h2:=HLT6.out g hx
          simp only [Option.some.injEq] at hg
          omega
       have HR7:=hid hr7
       have HO7:=hid ho7
       have HF7:=hid hf7
       clear ho7 hg7 hat7 hW6 hz6 hb6 hs6 hr7 hf7
       go_wp2_with fail
       go_roundw
       case rel=>exact ⟨j+1,F6,by omega,by go_num,HR7.out,HO7.out,HF7.out⟩
       case measure=>simp [intOf];omega
     · obtain rfl:j=lines.length:=by omega
       go_wp2_with fail
       refine bodyPost_ret (v:= .tuple #[.slice oo lines.length oc, .nilIface]) (by simp [results, Tryz.results19,go_sem]) rfl ?_
       exact ⟨_,rfl,HSJ.out,HB.out⟩
open Go.RowKit Go.Sort
def yX9 (l:List ByteArray)(j:Nat):ByteArray:=if h:j<l.length then saidT l j h else ⟨#[]⟩
theorem Sess.off1 {m B:Nat}{W0:World}{b:Nat→Nat}{sx:Nat}{q:Quilt}{F:Nat→Prop}{w w' :World}{g:Nat}(h:Sess m B W0 b sx q F w)(hF:¬F g)(hg:StrBlk w g)(hO:Off (fun x=>x=g) w w')(hl:W0.heap.size≤g):Sess m B W0 b sx q F w' :=by
 obtain ⟨tb,L,D,S,lb,sb,rv,v,h,rfl⟩:=h
 exact (h.off1 hO hg hF hl).sess
theorem Sess.below' {m B:Nat}{W0:World}{b:Nat→Nat}{sx:Nat}{q:Quilt}{F:Nat→Prop}{w w' :World}(h:Sess m B W0 b sx q F w)(hb:Below w.heap.size w w'):Sess m B W0 b sx q F w' :=by
 obtain ⟨tb,L,D,S,lb,sb,rv,v,h,rfl⟩:=h
 exact (h.below hb).sess
theorem Sess.bel' {m B:Nat}{W0:World}{b:Nat→Nat}{sx:Nat}{q:Quilt}{F:Nat→Prop}{w:World}(h:Sess m B W0 b sx q F w):Below W0.heap.size W0 w∧∀x,F x→x<w.heap.size:=by
 obtain ⟨tb,L,D,S,lb,sb,rv,v,h,rfl⟩:=h
 exact ⟨h.bel,fun x hx=>(h.flt hx).1⟩
theorem uL7 (W0:World)(hg:GlobC W0)(lines:List ByteArray)(hn:lines.length≤80)(hw:∀s∈lines,(∀x y,zB5 s≠ [vY2,x,y])∧∀x y,zB5 s≠ [zQ5,x,y])(sx B:Nat)(b:Nat→Nat):
 SayRel W0 lines (yX9 lines) sx (fun j F w=>Sess (2+j) B W0 b sx (yF1 lines j) F w) where
 step:=fun j hj F w h=>by
  obtain ⟨h1,h2⟩:=hw lines[j] (List.getElem_mem hj)
  refine (vG6 (2+j) B W0 b w sx (yF1 lines j) F h (by omega) hg lines[j] h1 h2).mono ?_
  rintro e w' ⟨rfl,F',hs,hst⟩
  refine ⟨?_,F',?_,hst⟩
  · unfold yX9
    rw [dif_pos hj];rfl
  · rw [yO2 lines j hj];exact hs
 off:=fun j F w w' g h hF hg hO hl=>Sess.off1 h hF hg hO hl
 below:=fun j F w w' h hb=>Sess.below' h hb
 bel:=fun j F w h=>(Sess.bel' h).1
 lt:=fun j F w h=>(Sess.bel' h).2
theorem xZ2 (w0:World)(hg:GlobC w0)(lo:Option Addr)(lc:Nat)(lines:List ByteArray)(hl:Rd 1 zD3 w0 (.slice lo lines.length lc) lines)(hn:lines.length≤80)(hw:∀s∈lines,(∀x y,zB5 s≠ [vY2,x,y])∧∀x y,zB5 s≠ [zQ5,x,y]):
 Calls Tryz.prog 19 #[.slice lo lines.length lc] w0 fun e w' =>∃v,e= .returned (.tuple #[v, .nilIface])∧Strs w' w0.heap.size 9 v (zL9 (yX9 lines) lines.length)∧Below w0.heap.size w0 w' :=
 uH6 w0 hg.i lo lc lines hl hn (yX9 lines) (fun B b j F w=>Sess (2+j) B w0 b w0.heap.size (yF1 lines j) F w) (fun B b F w h=>h) (fun B b=>uL7 w0 hg lines hn hw _ B b)
theorem xZ3 (w0:World)(lo:Option Addr)(n lc:Nat)(hn:80<n):
 Calls Tryz.prog 19 #[.slice lo n lc] w0 fun e w' =>e= .returned (.tuple #[.slice none 0 0,zE6 2])∧Below w0.heap.size w0 w' :=by
 go_enter Tryz.func19, Tryz.ntmps19
 go_wp2_with fail
 refine bodyPost_ret (v:= .tuple #[.slice none 0 0,zE6 2]) (by simp [results, Tryz.results19,go_sem,zA5]) rfl ?_
 exact ⟨rfl,Below.refl _ _⟩
open Go.RowKit Go.Sort
def zI1 :List ByteArray:= [⟨#[119,114,105,116,101,32,97,32,104,97,121]⟩,⟨#[119,114,105,116,101,32,98,32,45]⟩,⟨#[110,97,109,101,32,97,32,99]⟩,⟨#[115,119,97,112,32,98,32,99]⟩,⟨#[97,108,108]⟩,⟨#[114,101,97,100,32,98]⟩,⟨#[115,112,111,105,108,32,49,32,48]⟩,⟨#[115,112,111,105,108,32,49,32,49]⟩,⟨#[100,105,102,102,32,49]⟩,⟨#[100,105,102,102,32,50]⟩,⟨#[115,99,114,117,98]⟩,⟨#[100,105,102,102,32,49]⟩,⟨#[111,112,101,110]⟩,⟨#[116,117,114,110]⟩,⟨#[102,108,121]⟩]
def xE6 :List ByteArray:= [⟨#[111,107]⟩,⟨#[111,107]⟩,⟨#[111,107]⟩,⟨#[111,107]⟩,⟨#[98,61,104,97,121,32,99,61,45]⟩,⟨#[104,97,121,32,50]⟩,⟨#[111,107]⟩,⟨#[111,107]⟩,⟨#[101,114,114,111,114,32,52]⟩,⟨#[45]⟩,⟨#[49]⟩,⟨#[45]⟩,⟨#[48]⟩,⟨#[53]⟩,⟨#[101,114,114,111,114,32,52]⟩]
def zY4 (j:Nat):ByteArray:=xE6.getD j ⟨#[]⟩
def zW3 :Quilt:=yF1 zI1 6
theorem xP5 :zL9 zY4 15=xE6:=by decide +kernel
theorem vS8 :∀j,j<6→(zS7 (yF1 zI1 j) (zI1.getD j ⟨#[]⟩)).2=zY4 j:=by decide +kernel
theorem vF3 :∀j,11≤j→j<15→(zS7 zW3 (zI1.getD j ⟨#[]⟩)).2=zY4 j:=by
 have h:∀j,j<15→11≤j→(zS7 zW3 (zI1.getD j ⟨#[]⟩)).2=zY4 j:=by decide +kernel
 exact fun j h1 h2=>h j h2 h1
theorem vS7 :∀j,11≤j→j<15→(zS7 zW3 (zI1.getD j ⟨#[]⟩)).1=zW3:=by
 have h:∀j,j<15→11≤j→(zS7 zW3 (zI1.getD j ⟨#[]⟩)).1=zW3:=by decide +kernel
 exact fun j h1 h2=>h j h2 h1
theorem xE4 :∀j,j<15→j≠6→j≠7→(zB5 (zI1.getD j ⟨#[]⟩)).head?≠some vY2∧(zB5 (zI1.getD j ⟨#[]⟩)).head?≠some zQ5:=by decide +kernel
theorem vL8 {j:Nat}(h1:j<15)(h2:j≠6)(h3:j≠7):(∀x y,zB5 (zI1.getD j ⟨#[]⟩)≠ [vY2,x,y])∧∀x y,zB5 (zI1.getD j ⟨#[]⟩)≠ [zQ5,x,y]:=
 ⟨fun x y e=>(xE4 j h1 h2 h3).1 (by rw [e];rfl),fun x y e=>(xE4 j h1 h2 h3).2 (by rw [e];rfl)⟩
def SessX (C:DiskS→Prop)(m B:Nat)(W0:World)(b:Nat→Nat)(sx:Nat)(q:Quilt)(F:Nat→Prop)(w:World):Prop:=∃tb L D S lb sb rv sp v,SessB 1 m B W0 b w sx tb q L D S lb sb rv sp v∧C (D 1)∧F=SF sx tb L lb sb
section
variable {C:DiskS→Prop} {m B:Nat} {W0:World} {b:Nat→Nat} {sx:Nat} {q:Quilt} {F:Nat→Prop} {w w' :World} {g:Nat}
theorem SessX.off1 (h:SessX C m B W0 b sx q F w)(hF:¬F g)(hg:StrBlk w g)(hO:Off (fun x=>x=g) w w')(hl:W0.heap.size≤g):SessX C m B W0 b sx q F w' :=by
 obtain ⟨tb,L,D,S,lb,sb,rv,sp,v,h,hc,rfl⟩:=h
 exact ⟨tb,L,D,S,lb,sb,rv,sp,v,h.off1 hO hg hF hl,hc,rfl⟩
theorem SessX.below' (h:SessX C m B W0 b sx q F w)(hb:Below w.heap.size w w'):SessX C m B W0 b sx q F w' :=by
 obtain ⟨tb,L,D,S,lb,sb,rv,sp,v,h,hc,rfl⟩:=h
 exact ⟨tb,L,D,S,lb,sb,rv,sp,v,h.below hb,hc,rfl⟩
theorem SessX.bel' (h:SessX C m B W0 b sx q F w):Below W0.heap.size W0 w∧∀x,F x→x<w.heap.size:=by
 obtain ⟨tb,L,D,S,lb,sb,rv,sp,v,h,hc,rfl⟩:=h
 refine ⟨h.bel,fun x hx=>?_⟩
 rcases hx with rfl | hx
 · exact h.lt
 · exact (h.tlt hx).1
end
def uI6 (D:DiskS):Prop:=∃D1,Sound D1∧D=zT7 0 D1
def yN6 (D:DiskS):Prop:=copyC D=⟨false,zD6⟩
def one1 :ByteArray:=⟨#[49]⟩
def nil1 :ByteArray:=⟨#[48]⟩
theorem xR6 {line a c:ByteArray}(hw:zB5 line= [a,c]):(line.toList== [111,112,101,110])=false∧(line.toList== [115,99,114,117,98])=false∧(line.toList== [97,108,108])=false∧(line.toList== [116,117,114,110])=false:=xD9 (by rw [hw];simp)
theorem vB6 {line a c d:ByteArray}(hw:zB5 line= [a,c,d]):(line.toList== [111,112,101,110])=false∧(line.toList== [115,99,114,117,98])=false∧(line.toList== [97,108,108])=false∧(line.toList== [116,117,114,110])=false:=xD9 (by rw [hw];simp)
theorem xE5 (m B:Nat)(W0:World)(b:Nat→Nat)(w:World)(sx tb:Nat)(q:Quilt)(L:Nat→Dk)(D:Nat→DiskS)(S:Nat→StS)(lb sb:Nat→Nat)(rv:Nat→Value)(sp:Nat→Option Addr)(v:Value)(h:SessB 1 m B W0 b w sx tb q L D S lb sb rv sp v)(hg:GlobC W0)(line y:ByteArray)(ky:Nat)(hsz:line.size≤50)(hw:zB5 line= [zQ5,one1,y])(hys:y.size≤1000)(hy:zT9 y=ky)(hky:ky< 60)(C:DiskS→Prop)(hC:C (zT7 ky (D 1))):
 Calls Tryz.prog 40 #[.pointer (some ⟨sx,0,none⟩), .string line] w fun e w' =>e= .returned (.string okT)∧∃F',SessX C m B W0 b sx q F' w' ∧Steps (SF sx tb L lb sb) w w' F' :=by
 obtain ⟨n0,n1,n2,n3⟩:=vB6 hw
 refine (xT2 w sx line zQ5 one1 y (hg.below h.bel) hsz hw n0 n1 n2 n3 (by decide +kernel) (by decide +kernel) (by decide +kernel) (by decide +kernel) (by decide +kernel) (by decide +kernel) (fun s ok W w' =>onT s ok=okT∧∃F',SessX C m B W0 b sx q F' w' ∧Steps (SF sx tb L lb sb) W w' F') (fun W wb wo wc hb htx=>?_)).mono ?_
 · refine (xZ1 1 m B W0 b W sx tb q L D S lb sb rv sp v one1 y wb wo wc ky (h.below hb) hg htx (by decide) hys (by decide +kernel) hy (by decide) hky).mono ?_
   rintro e w' ⟨rfl,L',hs,hst⟩
   exact ⟨okT,true,rfl,rfl,_,⟨tb,_,_,S,lb,sb,rv,sp,v,hs,by rw [zA9];exact hC,rfl⟩,hst⟩
 · rintro e w' ⟨s,ok,W,hb,rfl,hs,F',hx,hst⟩
   exact ⟨by rw [hs],F',hx,Steps.after hb hst⟩
theorem vF5 (m B:Nat)(W0:World)(b:Nat→Nat)(w:World)(sx:Nat)(q:Quilt)(F:Nat→Prop)(h:SessX yN6 m B W0 b sx q F w)(hg:GlobC W0):
 Calls Tryz.prog 40 #[.pointer (some ⟨sx,0,none⟩), .string (zI1.getD 8 ⟨#[]⟩)] w fun e w' =>e= .returned (.string (zY4 8))∧∃F',SessX yN6 m B W0 b sx q F' w' ∧Steps F w w' F' :=by
 obtain ⟨tb,L,D,S,lb,sb,rv,sp,v,h,hc,rfl⟩:=h
 have hw:zB5 (zI1.getD 8 ⟨#[]⟩)= [vC9,one1]:=by decide +kernel
 obtain ⟨n0,n1,n2,n3⟩:=xR6 hw
 have hgw:=hg.below h.bel
 refine (yY7 w sx (zI1.getD 8 ⟨#[]⟩) vC9 one1 hgw (by decide +kernel) hw n0 n1 n2 n3 (by decide +kernel) (by decide +kernel) 1 (hid fun W hb=>(by have h1:=zP0 one1 W (hgw.below hb) (by decide);rw [show zT9 one1=1 by decide +kernel] at h1;exact h1)) (by decide) (fun s W w' =>s=zP3 4∧Below W.heap.size W w') (fun W hb=>(yY4 1 m B W0 b W sx tb q L D S lb sb rv sp v (h.below hb) hg.i hc).mono (fun e w' ⟨he,hr⟩=>⟨_,he,rfl,hr⟩))).mono ?_
 rintro e w' ⟨s,W,hb,rfl,rfl,hb2⟩
 exact ⟨by rw [show zY4 8=zP3 4 by decide +kernel],_,⟨tb,L,D,S,lb,sb,rv,sp,v,h.below (two hb hb2),hc,rfl⟩,(Steps.refl _ _).below (two hb hb2)⟩
theorem vF4 (m B:Nat)(W0:World)(b:Nat→Nat)(w:World)(sx:Nat)(q:Quilt)(F:Nat→Prop)(h:SessX yN6 m B W0 b sx q F w)(hg:GlobC W0):
 Calls Tryz.prog 40 #[.pointer (some ⟨sx,0,none⟩), .string (zI1.getD 9 ⟨#[]⟩)] w fun e w' =>e= .returned (.string (zY4 9))∧∃F',SessX yN6 m B W0 b sx q F' w' ∧Steps F w w' F' :=by
 obtain ⟨tb,L,D,S,lb,sb,rv,sp,v,h,hc,rfl⟩:=h
 have hw:zB5 (zI1.getD 9 ⟨#[]⟩)= [vC9,⟨#[50]⟩]:=by decide +kernel
 obtain ⟨n0,n1,n2,n3⟩:=xR6 hw
 have hgw:=hg.below h.bel
 refine (yY7 w sx (zI1.getD 9 ⟨#[]⟩) vC9 ⟨#[50]⟩ hgw (by decide +kernel) hw n0 n1 n2 n3 (by decide +kernel) (by decide +kernel) 2 (hid fun W hb=>(by have h1:=zP0 ⟨#[50]⟩ W (hgw.below hb) (by decide);rw [show zT9 ⟨#[50]⟩=2 by decide +kernel] at h1;exact h1)) (by decide) (fun s W w' =>s=yE1∧Below W.heap.size W w') (fun W hb=>(yE9 1 m B W0 b W sx tb q L D S lb sb rv sp v (h.below hb) hg.i ((h.has 2 (by decide) (by decide)).1.copyC)).mono (fun e w' ⟨he,hr⟩=>⟨_,he,rfl,hr⟩))).mono ?_
 rintro e w' ⟨s,W,hb,rfl,rfl,hb2⟩
 exact ⟨by rw [show zY4 9=yE1 by decide +kernel],_,⟨tb,L,D,S,lb,sb,rv,sp,v,h.below (two hb hb2),hc,rfl⟩,(Steps.refl _ _).below (two hb hb2)⟩
theorem vF2 (m B:Nat)(W0:World)(b:Nat→Nat)(w:World)(sx:Nat)(q:Quilt)(F:Nat→Prop)(h:SessX yN6 m B W0 b sx q F w)(hm:2≤m)(hg:GlobC W0):
 Calls Tryz.prog 40 #[.pointer (some ⟨sx,0,none⟩), .string (zI1.getD 10 ⟨#[]⟩)] w fun e w' =>e= .returned (.string (zY4 10))∧∃F',Sess m B W0 b sx q F' w' ∧Steps F w w' F' :=by
 obtain ⟨tb,L,D,S,lb,sb,rv,sp,v,h,hc,rfl⟩:=h
 refine (xT1 w sx (zI1.getD 10 ⟨#[]⟩) vJ3 (hg.below h.bel) (by decide +kernel) (by decide +kernel) (by decide +kernel) (by decide +kernel) (fun s W w' =>s=oneT∧∃F',Sess m B W0 b sx q F' w' ∧Steps (SF sx tb L lb sb) W w' F') (fun W hb=>(vU3 m B W0 b W sx tb q L D S lb sb rv sp v (h.below hb) hm hg.i hc).mono (fun e w' ⟨he,hr⟩=>⟨_,he,rfl,hr⟩))).mono ?_
 rintro e w' ⟨s,W,hb,rfl,rfl,F',h1,h2⟩
 exact ⟨by rw [show zY4 10=oneT by decide +kernel],F',h1,Steps.after hb h2⟩
def zN7 (W0:World)(sx B:Nat)(b:Nat→Nat)(j:Nat)(F:Nat→Prop)(w:World):Prop:=
 if j≤6 then Sess (2+j) B W0 b sx (yF1 zI1 j) F w else if j≤7 then SessX uI6 8 B W0 b sx zW3 F w else if j≤10 then SessX yN6 8 B W0 b sx zW3 F w else Sess (2+j) B W0 b sx zW3 F w
theorem yW0 {W0:World}{sx B:Nat}{b:Nat→Nat}{j:Nat}{F:Nat→Prop}{w:World}{T:Prop}(h:zN7 W0 sx B b j F w)(h1:∀m q,Sess m B W0 b sx q F w→T)(h2:∀C m q,SessX C m B W0 b sx q F w→T):T:=by
 unfold zN7 at h
 split at h
 · exact h1 _ _ h
 · split at h
   · exact h2 _ _ _ h
   · split at h
     · exact h2 _ _ _ h
     · exact h1 _ _ h
theorem uE4 (W0:World)(hg:GlobC W0)(sx B:Nat)(b:Nat→Nat):SayRel W0 zI1 zY4 sx (zN7 W0 sx B b) where
 step:=fun j hj F w h=>by
  have h15:j<15:=hj
  rw [show zI1[j]=zI1.getD j ⟨#[]⟩ by rw [List.getD_eq_getElem?_getD,List.getElem?_eq_getElem hj];rfl]
  by_cases h6:j<6
  · unfold zN7 at h
    rw [if_pos (by omega)] at h
    obtain ⟨g1,g2⟩:=vL8 h15 (by omega) (by omega)
    refine (vG6 (2+j) B W0 b w sx (yF1 zI1 j) F h (by omega) hg _ g1 g2).mono ?_
    rintro e w' ⟨rfl,F',hs,hst⟩
    refine ⟨by rw [vS8 j h6],F',?_,hst⟩
    unfold zN7
    rw [if_pos (by omega),yO2 zI1 j hj,show zI1[j]=zI1.getD j ⟨#[]⟩ by rw [List.getD_eq_getElem?_getD,List.getElem?_eq_getElem hj];rfl]
    exact hs
  by_cases h11:11≤j
  · unfold zN7 at h
    rw [if_neg (by omega),if_neg (by omega),if_neg (by omega)] at h
    obtain ⟨g1,g2⟩:=vL8 h15 (by omega) (by omega)
    refine (vG6 (2+j) B W0 b w sx zW3 F h (by omega) hg _ g1 g2).mono ?_
    rintro e w' ⟨rfl,F',hs,hst⟩
    refine ⟨by rw [vF3 j h11 h15],F',?_,hst⟩
    unfold zN7
    rw [if_neg (by omega),if_neg (by omega),if_neg (by omega)]
    rw [vS7 j h11 h15] at hs
    exact hs
  obtain rfl | rfl | rfl | rfl | rfl:j=6∨j=7∨j=8∨j=9∨j=10:=by omega
  · unfold zN7 at h
    rw [if_pos (by omega)] at h
    obtain ⟨tb,L,D,S,lb,sb,rv,v,h,rfl⟩:=h
    refine (xE5 (2+6) B W0 b w sx tb zW3 L D S lb sb rv _ v (h.bad (k:=1) (by decide)) hg (zI1.getD 6 ⟨#[]⟩) nil1 0 (by decide +kernel) (by decide +kernel) (by decide) (by decide +kernel) (by decide) uI6 ⟨D 1,(h.t.has 1 (by decide)).sound,rfl⟩).mono ?_
    rintro e w' ⟨rfl,F',hx,hst⟩
    exact ⟨by rw [show zY4 6=okT by decide +kernel],F',by unfold zN7;rw [if_neg (by omega),if_pos (by omega)];exact hx,hst⟩
  · unfold zN7 at h
    rw [if_neg (by omega),if_pos (by omega)] at h
    obtain ⟨tb,L,D,S,lb,sb,rv,sp,v,h,⟨D1,hs1,hd1⟩,rfl⟩:=h
    refine (xE5 8 B W0 b w sx tb zW3 L D S lb sb rv sp v h hg (zI1.getD 7 ⟨#[]⟩) one1 1 (by decide +kernel) (by decide +kernel) (by decide) (by decide +kernel) (by decide) yN6 (by rw [hd1];exact vC2 hs1)).mono ?_
    rintro e w' ⟨rfl,F',hx,hst⟩
    exact ⟨by rw [show zY4 7=okT by decide +kernel],F',by unfold zN7;rw [if_neg (by omega),if_neg (by omega),if_pos (by omega)];exact hx,hst⟩
  · unfold zN7 at h
    rw [if_neg (by omega),if_neg (by omega),if_pos (by omega)] at h
    refine (vF5 8 B W0 b w sx zW3 F h hg).mono ?_
    rintro e w' ⟨he,F',hx,hst⟩
    exact ⟨he,F',by unfold zN7;rw [if_neg (by omega),if_neg (by omega),if_pos (by omega)];exact hx,hst⟩
  · unfold zN7 at h
    rw [if_neg (by omega),if_neg (by omega),if_pos (by omega)] at h
    refine (vF4 8 B W0 b w sx zW3 F h hg).mono ?_
    rintro e w' ⟨he,F',hx,hst⟩
    exact ⟨he,F',by unfold zN7;rw [if_neg (by omega),if_neg (by omega),if_pos (by omega)];exact hx,hst⟩
  · unfold zN7 at h
    rw [if_neg (by omega),if_neg (by omega),if_pos (by omega)] at h
    refine (vF2 8 B W0 b w sx zW3 F h (by decide) hg).mono ?_
    rintro e w' ⟨he,F',⟨tb,L,D,S,lb,sb,rv,v,hx,hF⟩,hst⟩
    exact ⟨he,F',by unfold zN7;rw [if_neg (by omega),if_neg (by omega),if_neg (by omega)];exact ⟨tb,L,D,S,lb,sb,rv,v,hx.up (by omega),hF⟩,hst⟩
 off:=fun j F w w' g h hF hg hO hl=>by
  unfold zN7 at h ⊢
  split at h
  · rename_i c1;rw [if_pos c1];exact Sess.off1 h hF hg hO hl
  · rename_i c1;rw [if_neg c1]
    split at h
    · rename_i c2;rw [if_pos c2];exact SessX.off1 h hF hg hO hl
    · rename_i c2;rw [if_neg c2]
      split at h
      · rename_i c3;rw [if_pos c3];exact SessX.off1 h hF hg hO hl
      · rename_i c3;rw [if_neg c3];exact Sess.off1 h hF hg hO hl
 below:=fun j F w w' h hb=>by
  unfold zN7 at h ⊢
  split at h
  · rename_i c1;rw [if_pos c1];exact Sess.below' h hb
  · rename_i c1;rw [if_neg c1]
    split at h
    · rename_i c2;rw [if_pos c2];exact SessX.below' h hb
    · rename_i c2;rw [if_neg c2]
      split at h
      · rename_i c3;rw [if_pos c3];exact SessX.below' h hb
      · rename_i c3;rw [if_neg c3];exact Sess.below' h hb
 bel:=fun j F w h=>yW0 h (fun m q h=>(Sess.bel' h).1) (fun C m q h=>(SessX.bel' h).1)
 lt:=fun j F w h=>yW0 h (fun m q h=>(Sess.bel' h).2) (fun C m q h=>(SessX.bel' h).2)
theorem uE5 (w0:World)(hg:GlobC w0)(lo:Option Addr)(lc:Nat)(hl:Rd 1 zD3 w0 (.slice lo 15 lc) zI1):
 Calls Tryz.prog 19 #[.slice lo 15 lc] w0 fun e w' =>∃v,e= .returned (.tuple #[v, .nilIface])∧Strs w' w0.heap.size 9 v xE6∧Below w0.heap.size w0 w' :=by
 have h:=uH6 w0 hg.i lo lc zI1 hl (by decide) zY4 (fun B b=>zN7 w0 w0.heap.size B b) (fun B b F w h=>by unfold zN7;rw [if_pos (by omega)];exact h) (fun B b=>uE4 w0 hg _ B b)
 rw [show zI1.length=15 from rfl,xP5] at h
 exact h
end Go.Proofs.YtggpodlecljcbabGreatDoor
