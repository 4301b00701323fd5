/- The walk of a disk's Write. The walk of the reference's Write. -/
import Derived.Deep.RegionWith
import Derived.Deep.RegionLaw
import Derived.Deep.AppendLies
import Derived.Lib.SmallJoins
import Derived.Test.YtggpodlecljcbabGreatDoorShelf
import Derived.Test.YtggpodlecljcbabGreatDoorKK
import Derived.Test.YtggpodlecljcbabGreatDoorKBb
namespace Go.Proofs.YtggpodlecljcbabGreatDoor
set_option linter.unusedSimpArgs false
set_option linter.unusedVariables false
set_option maxRecDepth 100000
set_option maxHeartbeats 64000000
open Lib (hid)
open Go.RowKit Go.Sort
theorem two_new {w:World}{a b:Value}{t:TypeId}:∀(j:Nat) (x:Value), [a,b][j]?=some x→(w.alloc (.cells #[a,b] t)).cell? ((⟨w.heap.size,0,none⟩:Addr).add j)=some x:=by
 intro j x h
 match j,h with
 | 0,h=>simp at h;subst h;rw [Addr.add_lit];simp
 | 1,h=>simp at h;subst h;rw [Addr.add_lit];simp
 | j+2,h=>simp at h
theorem uJ8 (t:Turn):∀u∈t.cells,u.oneCell' =true:=by
 intro u hu
 simp [Turn.cells] at hu
 rcases hu with rfl | rfl <;> rfl
theorem Stepped.turned {ty tt:TypeId}{w w' :World}{L:Dk}{D' :DiskS}(h:Stepped ty tt w L D' w'):Turned ty tt w L D' w' :=⟨L,rfl,h.1,h.2.1.mono (fun _ hx=>Or.inl hx),fun _ hk=>Or.inl hk⟩
theorem vN2 {D:DiskS}{p:Int}{s:ByteArray}(h:p<0∨(D.now.length:Int)≤p∨40<s.size):zB9 D p s=(D,1):=by unfold zB9;rw [if_pos h]
theorem vB0 {D:DiskS}{p:Int}{s:ByteArray}(h:¬(p<0∨(D.now.length:Int)≤p∨40<s.size))(h2:(zI5 D).2≠0):zB9 D p s=zI5 D:=by unfold zB9;rw [if_neg h,if_pos h2]
theorem xA7 {D:DiskS}{i:Nat}{s:ByteArray}(h:i<D.now.length)(hs:s.size≤40)(h2:(zI5 D).2=0):zB9 D i s=({ (zI5 D).1 with now:=D.now.set i (zD1 s),wait:=D.wait++ [⟨i,zD1 s⟩] },0):=by
 unfold zB9;rw [if_neg (by omega),if_neg (by simp [h2])];simp
theorem I_turns :zQ3 Tryz.prog 70 75 2 24:=zO4 (z:= .agg #[.int .i64 0, .string ⟨#[]⟩]) Tryz.underlying70 (by kernel_rfl) rfl (by decide) (by decide)
theorem zL7 {F:Nat→Prop}{w w' :World}(h:Off F w w'){b:Nat}(hb:F b)(o:Nat)(v:Value):Off F w (w'.setCell ⟨b,o,none⟩ v):=h.trans (zA7 (F:=F) _ ⟨b,o,none⟩ hb v) (fun _ _ h=>h)

theorem DAt.grow_wait {ty tt:TypeId}{w w' :World}{L:Dk}{D:DiskS}(h:DAt ty tt w L D)(hg:w.grownBy w' L.wv.ownBlock)(g c:Nat)(l:List Turn)(hv:w'.ownsRow 0 tt 2 (.slice (some ⟨g,0,none⟩) l.length c) l.length (l.flatMap Turn.cells))(hor:L.wv.ownBlock=some g∨w.heap.size≤g):
 DAt ty tt (w'.setCell ⟨L.b,2,none⟩ (.slice (some ⟨g,0,none⟩) l.length c)) { L with wv:= .slice (some ⟨g,0,none⟩) l.length c } { D with wait:=l }:=by
 have hlt:=h.lt
 have hb:∀k,(k=L.b∨k=L.gk∨k=L.gn)→w'.heap[k]?=w.heap[k]?:=fun k hk=>by
  refine hg.block k (hlt k (by rcases hk with h | h | h <;> simp [Dk.foot,h])) ?_
  rcases hk with rfl | rfl | rfl
  · exact fun e=>h.wb e.symm
  · exact fun e=>h.wk e.symm
  · exact fun e=>h.wn e.symm
 have hne:∀k,(k=L.b∨k=L.gk∨k=L.gn)→g≠k:=fun k hk e=>by
  subst e
  rcases hor with h1 | h1
  · rcases hk with rfl | rfl | rfl
    · exact h.wb h1
    · exact h.wk h1
    · exact h.wn h1
  · have:=hlt g (by rcases hk with h | h | h <;> simp [Dk.foot,h])
    omega
 have e1:=hne _ (Or.inl rfl)
 have e2:=hne _ (Or.inr (Or.inl rfl))
 have e3:=hne _ (Or.inr (Or.inr rfl))
 refine ⟨?_,zE3 (zF4 h.kept fun x hx=>by cases hx;exact hb _ (Or.inr (Or.inl rfl))) (zT8 h.kb) _,zE3 (zF4 h.now fun x hx=>by cases hx;exact hb _ (Or.inr (Or.inr rfl))) (zT8 h.nb) _,zE3 hv (zT8 e1) _,h.kb,h.nb,h.kn,zT8 e1,zT8 e2,zT8 e3⟩
 have hbx:=hb _ (Or.inl rfl)
 rw [h.box] at hbx
 rw [zA3 _ _ _ _ hbx]
 rfl

theorem zN1 (L:Dk)(D:DiskS)(p:Int)(s:ByteArray)(w:World)(h:DiskAt w L D)(hok:D.ok)(hl:D.wait.length≤1000000):
 Calls Tryz.prog 8 #[.pointer (some ⟨L.b,0,none⟩), .int .i64 p, .string s] w fun e w' =>e= .returned (zE6 (zB9 D p s).2)∧Turned 72 75 w L (zB9 D p s).1 w' :=by
 have c1:=h.c1
 have hc:=(zU3 h.now).1
 have hm:=(zU3 h.now).2
 unfold maxLen at hm
 by_cases hb:p<0∨(D.now.length:Int)≤p∨40<s.size
 · have E:=hid (vN2 hb)
   have H:=hid (Turned.refl h)
   rw [E.out]
   clear h hok E
   rcases Decidable.em (p<0) with hp | hp
   · go_enter Tryz.func8, Tryz.ntmps8
     go_wp2_with fail
     go_ret
     exact ⟨rfl,H.out⟩
   · rcases Decidable.em ((D.now.length:Int)≤p) with hp2 | hp2
     · go_enter Tryz.func8, Tryz.ntmps8
       go_wp2_with fail
       go_ret
       exact ⟨rfl,H.out⟩
     · have hp3:40<s.size:=by omega
       clear hb
       go_enter Tryz.func8, Tryz.ntmps8
       go_wp2_with fail
       go_ret
       exact ⟨rfl,H.out⟩
 · obtain ⟨i,rfl⟩:∃i:Nat,p=i:=⟨p.toNat,by omega⟩
   have hi:i<D.now.length:=by omega
   have hs:s.size≤40:=by omega
   have CS:=xY1 L D w h hok
   by_cases h2:(zI5 D).2=0
   · have E:=hid (xA7 hi hs h2)
     rw [E.out]
     rw [h2] at CS
     obtain ⟨D1,hD1⟩:∃D1,D1=(zI5 D).1:=⟨_,rfl⟩
     have q1:Hid (D1.now=D.now):=hid (by rw [hD1];exact (zG3 D).2.1)
     have q2:Hid (D1.wait=D.wait):=hid (by rw [hD1];exact (zG3 D).2.2)
     rw [←hD1] at CS ⊢
     replace CS:=hid CS
     have FC:=hid (xY2 s hs)
     clear h hok E h2 hD1 hb
     go_enter Tryz.func8, Tryz.ntmps8
     go_wp2_with fail
     refine CS.out.mono ?_
     rintro e w1 ⟨rfl,hS⟩
     have HS:=hid hS
     clear hS
     have hev:zE6 0= .nilIface:=rfl
     rw [hev]
     have ED:=hid (Below.refl w1.heap.size w1).drew
     have HSK:Hid (∀W,DiskAt W L D1→W.cell? ⟨L.b,1,none⟩=some (.slice (some ⟨L.gn,0,none⟩) D.now.length L.cn)∧W.cell? ⟨L.gn,i,none⟩=some (.string (D.now[i]'hi))∧W.frozen? ⟨L.gn,i,none⟩=false):=hid fun W hd=>
      ⟨by rw [←q1.out];exact hd.c1,by have h3:=hd.ncell i (by rw [q1.out];exact hi);simpa [q1.out] using h3,hd.fn i⟩
     obtain ⟨old,hold⟩:∃x,x=D.now[i]:=⟨_,rfl⟩
     rw [←hold] at HSK
     clear hold
     have H1:Hid (∀W,Below w1.heap.size w1 W→DiskAt W L D1):=hid fun W hb=>HS.out.1.below hb
     have H2:Hid (∀W,Below w1.heap.size w1 W→DiskAt (W.setCell ⟨L.gn,i,none⟩ (.string (zD1 s))) L { D1 with now:=D1.now.set i (zD1 s) }):=hid fun W hb=>(HS.out.1.below hb).now_at i (by rw [q1.out];exact hi) _
     have q3:Hid (D1.now.length=D.now.length):=hid (by rw [q1.out])
     have q4:Hid ((D1.now.set i (zD1 s)).length=D.now.length):=hid (by rw [List.length_set,q1.out])
     go_wp2_with fail
     have kk:=(HSK.out _ HS.out.1).1
     go_region_with (first | (go_at_call 26;refine (FC.out _).mono ?_;rintro e wA ⟨rfl,hbA⟩;have HE1:=hid (two ED.out hbA);have HA:=hid (HSK.out _ (H1.out _ HE1.out));have z1:=HA.out.1;have z2:=HA.out.2.1;have z3:=HA.out.2.2;clear hbA HA))
     all_goals
      obtain ⟨W2,hW2⟩:∃W2,W2=wA.setCell ⟨L.gn,i,none⟩ (.string (zD1 s)):=⟨_,rfl⟩
      have HD2:Hid (DiskAt W2 L { D1 with now:=D1.now.set i (zD1 s) }):=hid (by rw [hW2];exact H2.out _ HE1.out)
      have HO2:Hid (Off L.foot w W2):=hid (by
       rw [hW2]
       refine zL7 ?_ (Or.inr (Or.inr (Or.inl rfl))) i _
       exact (HS.out.2.1.mono (fun _ hx=>Or.inl hx)).trans (zB7 HE1.out L.foot) (fun _ _ h=>h))
      rw [←hW2]
      have HZ2:Hid (w.heap.size≤W2.heap.size):=hid HO2.out.size
      clear HSK H1 H2 HE1 ED hW2 q3
      have hn:(D1.now.set i (zD1 s)).length=D.now.length:=q4.out
      have k1:W2.cell? ⟨L.b,1,none⟩=some (.slice (some ⟨L.gn,0,none⟩) D.now.length L.cn):=by rw [←hn];exact HD2.out.c1
      have k2:=HD2.out.c2
      have k3:W2.cell? ⟨L.gn,i,none⟩=some (.string (zD1 s)):=by
       have:=HD2.out.ncell i (by show i<(D1.now.set i (zD1 s)).length;rw [hn];exact hi)
       simpa using this
      have k4:=HD2.out.f 2
      clear hn
      obtain ⟨W3,hW3⟩:∃W3,W3=W2.drew.alloc (.cells #[.int .i64 i, .string (zD1 s)] 75):=⟨_,rfl⟩
      have B3:Hid (Below W2.heap.size W2 W3):=hid (by rw [hW3];exact two (Below.refl _ _).drew (zA0 _ _))
      have HD3:Hid (DiskAt W3 L { D1 with now:=D1.now.set i (zD1 s) }):=hid (HD2.out.below B3.out)
      have HW3:Hid (W3.ownsRow 0 75 2 L.wv D1.wait.length (D1.wait.flatMap Turn.cells)):=hid HD3.out.wait
      have hq1:D1.wait.length+1≤maxLen:=by rw [q2.out];unfold maxLen;omega
      have hq2:(D1.wait.length+1) * 24≤140737488355328:=by rw [q2.out];omega
      have HK3:Hid (∀w',W3.grownBy w' L.wv.ownBlock→w'.cell? ⟨L.b,2,none⟩=some L.wv∧w'.frozen? ⟨L.b,2,none⟩=false):=hid fun w' hg=>by
       have e:=hg.block L.b (HD3.out.lt _ (Or.inl rfl)) (fun e=>HD3.out.wb e.symm)
       exact ⟨(World.cell?_of_block (a:=⟨L.b,2,none⟩) e).trans HD3.out.c2,(World.frozen?_of_block (a:=⟨L.b,2,none⟩) e).trans (HD3.out.f 2)⟩
      have HF3:Hid (∀g cap w',w'.ownsRow 0 75 2 (.slice (some ⟨g,0,none⟩) (D1.wait.length+1) cap) (D1.wait.length+1) (D1.wait.flatMap Turn.cells++ [.int .i64 i, .string (zD1 s)])→W3.grownBy w' L.wv.ownBlock→(L.wv.ownBlock=some g∨g=W2.heap.size+1)→
          Turned 72 75 w L ({ D1 with now:=D.now.set i (zD1 s),wait:=D.wait++ [⟨i,zD1 s⟩] }) (w'.setCell ⟨L.b,2,none⟩ (.slice (some ⟨g,0,none⟩) (D1.wait.length+1) cap))):=hid fun g cap w' ho hg hor=>by
       have hs3:W3.heap.size=W2.heap.size+1:=by rw [hW3];simp
       have el:(D.wait++ [(⟨i,zD1 s⟩:Turn)]).length=D1.wait.length+1:=by rw [q2.out];simp
       have ho' :w'.ownsRow 0 75 2 (.slice (some ⟨g,0,none⟩) (D.wait++ [(⟨i,zD1 s⟩:Turn)]).length cap) (D.wait++ [(⟨i,zD1 s⟩:Turn)]).length ((D.wait++ [(⟨i,zD1 s⟩:Turn)]).flatMap Turn.cells):=by
        rw [el,zI4,←q2.out];exact ho
       have hor' :L.wv.ownBlock=some g∨W3.heap.size≤g:=hor.imp id (fun e=>by omega)
       have hd:=HD3.out.grow_wait hg g cap _ ho' hor'
       refine ⟨{ L with wv:= .slice (some ⟨g,0,none⟩) (D1.wait.length+1) cap },rfl,by rw [←el,←q1.out];exact hd,?_,fun k hk=>?_⟩
       · refine zL7 ?_ (Or.inl rfl) 2 _
         refine (HO2.out.trans (zB7 B3.out L.foot) (fun _ _ h=>h)).trans (zV9 (F:=L.foot) hg (fun k hk=>Or.inr (Or.inr (Or.inr hk)))) (fun _ _ h=>h)
       · have hz:=HZ2.out
         rcases hk with hk | hk | hk | hk
         · exact Or.inl (Or.inl hk)
         · exact Or.inl (Or.inr (Or.inl hk))
         · exact Or.inl (Or.inr (Or.inr (Or.inl hk)))
         · have:g=k:=by simpa [Value.ownBlock] using hk
           subst this
           rcases hor with h | h
           · exact Or.inl (Or.inr (Or.inr (Or.inr h)))
           · exact Or.inr (by omega)
      have two_new' :∀(j:Nat) (x:Value), [Value.int .i64 i, .string (zD1 s)][j]?=some x→W3.cell? ((⟨W2.heap.size,0,none⟩:Addr).add j)=some x:=by rw [hW3];exact two_new (w:=W2.drew)
      have k5:(W2.alloc (.cells #[.int .i64 i, .string (zD1 s)] 75)).cell? ⟨L.b,2,none⟩=some L.wv:=(HD2.out.below (zA0 _ _)).c2
      subst hW3
      obtain ⟨i0,z0,e1,e2,e3,e4,e5,e6,e7,e8⟩:=I_turns
      go_wp2_with fail
      go_region_law (refine step_append_lies _ rfl (.tmp 41) (.tmp 51) 70 rfl 0 75 i0 z0 2 24 e1 e2 e3 e4 e5 e6 e7 L.wv D1.wait.length (D1.wait.flatMap Turn.cells) (by simp [Act.eval,Act.put]) HW3.out ⟨W2.heap.size,0,none⟩ 1 1 [.int .i64 i, .string (zD1 s)] (by simp [Act.eval,Act.put]) rfl two_new' (uJ8 ⟨i,zD1 s⟩) (by decide) hq1 hq2 (Nat.zero_le _) (W2.heap.size+1) (by simp) ?_;intro g cap w' ho hg hor hlt;have y2:=(HK3.out _ hg).1;have y4:=(HK3.out _ hg).2;have HY:=hid (HF3.out g cap w' ho hg hor);clear ho hg hor hlt)
      all_goals
       go_wp2_with fail
       go_ret
       exact ⟨rfl,HY.out⟩
   · have E:=hid (vB0 hb h2)
     rw [E.out]
     have hev:=zA5 h2
     rw [hev] at CS ⊢
     replace CS:=hid CS
     clear h hok E h2 hev hb
     go_enter Tryz.func8, Tryz.ntmps8
     go_wp2_with fail
     refine CS.out.mono ?_
     rintro e w1 ⟨rfl,hS⟩
     have HS:=hid hS
     clear hS
     go_wp2_with fail
     go_ret
     exact ⟨rfl,HS.out.turned⟩
open Go.RowKit Go.Sort
theorem vB1 {P:Program}{T E k bytes:Nat}(I:zQ3 P T E k bytes){w:World}{ops:Array Oper}{rest:List Oper}{o:Oper}{a:Act}{Q:Exit→Act→World→Prop}(hgd:o.guard=none)(s x:Operand)
 (ho:o.op= .call { callee:= .builtin .append,args:= #[s,x],argTypes:= #[T,T] })
 (base:Nat) (v:Value) (n:Nat) (xs:List Value) (hs:a.eval s=v) (hown:w.ownsRow base E k v n xs)
 (ad:Addr) (m c:Nat) (news:List Value) (hx:a.eval x= .slice (some ad) m c) (hl:news.length=m * k) (hnews:∀j u,news[j]?=some u→w.cell? (ad.add j)=some u) (h1:∀u∈news,u.oneCell' =true)
 (hm:0<m) (h63:n+m≤1000000000) (hbase:base≤w.heap.size) (H:Nat) (hH:w.heap.size=H)
 (h:∀g cap w',w'.ownsRow base E k (.slice (some ⟨g,0,none⟩) (n+m) cap) (n+m) (xs++news)→w.grownBy w' v.ownBlock→(v.ownBlock=some g∨g=H)→g<w'.heap.size→wpList P ops Q rest (a.put o.dst (.slice (some ⟨g,0,none⟩) (n+m) cap)) w'):wpList P ops Q (o::rest) a w:=by
 obtain ⟨i,z,e1,e2,e3,e4,e5,e6,e7,e8⟩:=I
 refine wpList_append_lies w hgd s x T ho base E i z k bytes e1 e2 e3 e4 e5 e6 e7 v n xs hs hown ad m c news hx hl hnews h1 hm (by unfold maxLen;omega) ?_ hbase H hH h
 calc (n+m) * bytes≤1000000000 * 100:=Nat.mul_le_mul h63 e8
  _≤140737488355328:=by decide
open Go.RowKit Go.Sort
theorem vF9 {D:DiskS}(h2:(zI5 D).2≠0):zC5 D=zI5 D:=by unfold zC5;rw [if_pos h2]
theorem vG0 {D:DiskS}(h2:(zI5 D).2=0):zC5 D=({ (zI5 D).1 with kept:=D.now,wait:= [] },0):=by unfold zC5;rw [if_neg (by simp [h2])]
theorem xB3 :(Tryz.prog.info? 9).map (·.size)=some 1:=by kernel_rfl
theorem xM6 (w:World)(ty:TypeId)(g ck:Nat)(a:Addr)(sc:Nat)(l:List ByteArray)(dn:Nat)(hd:dn=l.length)(hsrc:∀j v,(l.map Value.string)[j]?=some v→w.cell? (a.add j)=some v)
 (hc:∀j,j<l.length→(w.cell? ⟨g,j,none⟩).isSome=true) (hf:∀j,w.frozen? ⟨g,j,none⟩=false):
 (Builtin.copy_ #[56, 56] ty #[.slice (some ⟨g,0,none⟩) dn ck, .slice (some a) l.length sc]).run Tryz.prog w= .ok (goInt l.length) (w.setCells g 0 (l.map .string)):=by
 subst hd
 have h:=zE9 (P:= Tryz.prog) w 56 56 ty 9 1 g 0 l.length ck a l.length sc (l.map .string) Tryz.underlying56 xB3 (by simp) hsrc (fun j hj=>by rw [Nat.zero_add];exact hc j (by simpa using hj)) (fun j _=>by rw [Nat.zero_add];exact hf j) (fun v hv=>by obtain ⟨s,_,rfl⟩:=List.mem_map.1 hv;rfl)
 simpa using h
theorem DAt.now_read {ty tt:TypeId}{w:World}{L:Dk}{D:DiskS}(h:DAt ty tt w L D):∀j v,(D.now.map Value.string)[j]?=some v→w.cell? ((⟨L.gn,0,none⟩:Addr).add j)=some v:=h.now.cells rfl
theorem DAt.kept_read {ty tt:TypeId}{w:World}{L:Dk}{D:DiskS}(h:DAt ty tt w L D):∀j v,(D.kept.map Value.string)[j]?=some v→w.cell? ((⟨L.gk,0,none⟩:Addr).add j)=some v:=h.kept.cells rfl
theorem zR7 (L:Dk)(D:DiskS)(w:World)(h:DiskAt w L D)(hok:D.ok):
 Calls Tryz.prog 9 #[.pointer (some ⟨L.b,0,none⟩)] w fun e w' =>e= .returned (zE6 (zC5 D).2)∧Turned 72 75 w L (zC5 D).1 w' :=by
 have CS:=xY1 L D w h hok
 by_cases h2:(zI5 D).2=0
 · have E:=hid (vG0 h2)
   rw [E.out]
   rw [h2] at CS
   obtain ⟨D1,hD1⟩:∃D1,D1=(zI5 D).1:=⟨_,rfl⟩
   have q1:Hid (D1.now=D.now):=hid (by rw [hD1];exact (zG3 D).2.1)
   have HOK1:Hid D1.ok:=hid (by rw [hD1];exact hok.step)
   rw [←hD1] at CS ⊢
   replace CS:=hid CS
   clear h hok E h2 hD1
   have hev:zE6 0= .nilIface:=rfl
   rw [hev] at CS
   go_enter Tryz.func9, Tryz.ntmps9
   go_wp2_with fail
   refine CS.out.mono ?_
   rintro e w1 ⟨rfl,hS⟩
   have HS:=hid hS
   clear hS
   have HD:=hid (HS.out.1.below (Below.refl _ _).drew)
   have c0:=HS.out.1.c0
   have c1:=HS.out.1.c1
   have HC:Hid (∀ty,(Builtin.copy_ #[56, 56] ty #[.slice (some ⟨L.gk,0,none⟩) D1.kept.length L.ck, .slice (some ⟨L.gn,0,none⟩) D1.now.length L.cn]).run Tryz.prog w1.drew= .ok (goInt D1.now.length) (w1.drew.setCells L.gk 0 (D1.now.map .string))):=hid fun ty=>
    xM6 w1.drew ty L.gk L.ck ⟨L.gn,0,none⟩ L.cn D1.now D1.kept.length HOK1.out.same HD.out.now_read (fun j hj=>by rw [HD.out.kcell j (by rw [HOK1.out.same];exact hj)];rfl) HD.out.fk
   go_wp2_with fail
   go_region_law (refine step_copy_runI rfl (.tmp 11) (.tmp 15) 56 56 rfl (.slice (some ⟨L.gk,0,none⟩) D1.kept.length L.ck) (.slice (some ⟨L.gn,0,none⟩) D1.now.length L.cn) (by simp [Act.eval,Act.put]) (by simp [Act.eval,Act.put]) (HC.out 3) ?_)
   all_goals
    obtain ⟨W2,hW2⟩:∃W2,W2=w1.drew.setCells L.gk 0 (D1.now.map .string):=⟨_,rfl⟩
    have HD2:Hid (DiskAt W2 L { D1 with kept:=D1.now }):=hid (by rw [hW2];exact HD.out.kept_all D1.now HOK1.out.same.symm)
    have HO2:Hid (Off L.foot w W2):=hid (by
     rw [hW2]
     exact ((HS.out.2.1.mono (fun _ hx=>Or.inl hx)).trans (yJ0 L.foot _) (fun _ _ h=>h)).trans (yV7 (F:=L.foot) _ L.gk 0 _ (Or.inr (Or.inl rfl))) (fun _ _ h=>h))
    rw [←hW2]
    clear hW2 HC HD c0 c1
    have k2:=HD2.out.c2
    have k4:=HD2.out.f 2
    have HF:Hid (Turned 72 75 w L ({ D1 with kept:=D.now,wait:= [] }) (W2.setCell ⟨L.b,2,none⟩ (.slice none 0 0))):=hid
     ⟨{ L with wv:= .slice none 0 0 },rfl,by rw [←q1.out];exact HD2.out.set_wait (.slice none 0 0) [] (World.ownsRow_nil _ _ _ _) (by simp [Value.ownBlock]) (by simp [Value.ownBlock]) (by simp [Value.ownBlock]),
      zL7 HO2.out (Or.inl rfl) 2 _,fun k hk=>by
       rcases hk with hk | hk | hk | hk
       · exact Or.inl (Or.inl hk)
       · exact Or.inl (Or.inr (Or.inl hk))
       · exact Or.inl (Or.inr (Or.inr (Or.inl hk)))
       · simp [Value.ownBlock] at hk⟩
    go_wp2_with fail
    go_ret
    exact ⟨rfl,HF.out⟩
 · have E:=hid (vF9 h2)
   rw [E.out]
   have hev:=zA5 h2
   rw [hev] at CS ⊢
   replace CS:=hid CS
   clear h hok E h2 hev
   go_enter Tryz.func9, Tryz.ntmps9
   go_wp2_with fail
   refine CS.out.mono ?_
   rintro e w1 ⟨rfl,hS⟩
   have HS:=hid hS
   clear hS
   go_wp2_with fail
   go_ret
   exact ⟨rfl,HS.out.turned⟩
open Go.RowKit Go.Sort
theorem xA3 :zQ3 Tryz.prog 56 9 1 16:=zO4 (z:= .string ⟨#[]⟩) Tryz.underlying56 (by kernel_rfl) rfl (by decide) (by decide)
theorem uK0 (l:List ByteArray):∀u∈l.map Value.string,u.oneCell' =true:=by
 intro v hv;obtain ⟨s,_,rfl⟩:=List.mem_map.1 hv;rfl
open Go.RowKit Go.Sort
theorem DAt.wait_at {ty tt:TypeId}{w:World}{L:Dk}{D:DiskS}(h:DAt ty tt w L D)(k:Nat)(hk:k<D.wait.length):
 ∃g cap,L.wv= .slice (some ⟨g,0,none⟩) D.wait.length cap∧w.cell? ⟨g,k * 2,none⟩=some (.int .i64 D.wait[k].pos)∧w.cell? ⟨g,k * 2+1,none⟩=some (.string D.wait[k].data):=by
 obtain ⟨g,cap,e⟩:=Go.Joins.ownsRow_form h.wait (by omega)
 have hw:=h.wait
 rw [e] at hw
 have hc:=hw.cells (g:=g) rfl
 have f0:=yM5 Turn.cells_len D.wait k hk 0 (by decide)
 have f1:=yM5 Turn.cells_len D.wait k hk 1 (by decide)
 have r0:=hc (k * 2+0) (.int .i64 D.wait[k].pos) (by rw [f0];rfl)
 have r1:=hc (k * 2+1) (.string D.wait[k].data) (by rw [f1];rfl)
 rw [Addr.add_lit,Nat.zero_add] at r0 r1
 exact ⟨g,cap,e,r0,r1⟩
theorem DAt.drew' {ty tt:TypeId}{w:World}{L:Dk}{D:DiskS}(h:DAt ty tt w L D):DAt ty tt w.drew L D:=h.below (Below.refl _ _).drew
theorem xY3 (L:Dk)(D:DiskS)(keep:Int)(w:World)(h:DiskAt w L D)(hok:D.ok)(hk0:0≤keep)(hk1:keep<18446744073709551616)(hwl:D.wait.length≤1000000):
 Calls Tryz.prog 124 #[.pointer (some ⟨L.b,0,none⟩), .int .u64 keep] w fun e w' =>e= .returned (.tuple #[])∧Turned 72 75 w L (zC1 D keep) w' :=by
 obtain ⟨wo,wc,hwv,hn,hm,hao,hnone⟩:=vR4 h.wait
 obtain ⟨b,gk,gn,ck,cn,wv⟩:=L
 simp only at hwv
 subst hwv
 unfold maxLen at hm
 have c2:=h.c2
 have H:=hid h
 have HOK:=hid hok
 simp only at c2
 clear h hok hao hnone
 go_enter Tryz.func124, Tryz.ntmps124
 go_wp2_with fail
 go_loopw [11] (fun i wr=>∃(k:Nat),k≤D.wait.length∧i= .int .i64 k∧DiskAt wr ⟨b,gk,gn,ck,cn, .slice wo D.wait.length wc⟩ { D with kept:=zE1 keep D.wait k D.kept }∧Off (Dk.foot ⟨b,gk,gn,ck,cn, .slice wo D.wait.length wc⟩) w wr) (fun i _=>D.wait.length - (intOf i).toNat)
 case atStart=>exact ⟨0,Nat.zero_le _,rfl,by rw [zR5];exact H.out,Off.refl _ _⟩
 case round=>
  obtain ⟨k,hk,rfl,hd,ho⟩:=hrel
  have HD:=hid hd
  have HO:=hid ho
  clear hd ho
  by_cases hlt:k<D.wait.length
  · obtain ⟨g,cap,e,x0,x1⟩:=HD.out.wait_at k hlt
    simp only [Value.slice.injEq] at e
    obtain ⟨rfl,_,rfl⟩:=e
    simp only at x0 x1
    have HKN:=hid (zW2 keep D.wait k D.kept hlt)
    have hp:D.wait[k].pos<D.now.length:=HOK.out.pos _ (List.getElem_mem hlt)
    obtain ⟨t,ht⟩:∃t,t=D.wait[k]:=⟨_,rfl⟩
    rw [←ht] at x0 x1 hp HKN
    obtain ⟨tp,td⟩:=t
    simp only at x0 x1 hp HKN
    clear ht
    obtain ⟨kl,hkl⟩:∃l,l=zE1 keep D.wait k D.kept:=⟨_,rfl⟩
    have hlen:kl.length=D.now.length:=by rw [hkl,zG1 keep D.wait D.kept k hk];exact HOK.out.same
    rw [←hkl] at HD HKN
    have HDA:=hid (HD.out.below (zA0 wr (.cells #[.int .i64 tp, .string td] 75)))
    have HOA:=hid (HO.out.trans (uB9 (Dk.foot ⟨b,gk,gn,ck,cn, .slice (some ⟨g,0,none⟩) D.wait.length wc⟩) wr (.cells #[.int .i64 tp, .string td] 75)) (fun _ _ h=>h))
    clear hkl
    cases hkb:zZ9 keep k
    · have HK:Hid (zE1 keep D.wait (k+1) D.kept=kl):=hid (by rw [HKN.out,hkb];rfl)
      unfold zZ9 at hkb
      go_wp2_with fail
      go_roundw
      case rel=>exact ⟨k+1,by omega,by go_num,by rw [HK.out];exact HDA.out,HOA.out⟩
      case measure=>simp [intOf];omega
    · have HK:Hid (zE1 keep D.wait (k+1) D.kept=kl.set tp td):=hid (by rw [HKN.out,hkb];rfl)
      unfold zZ9 at hkb
      have z0:=HDA.out.c0
      have z1:=HDA.out.kcell tp (by show tp<kl.length;omega)
      have z2:=HDA.out.fk tp
      simp only at z0 z1 z2
      obtain ⟨old,hold⟩:∃x,x=kl[tp]'(by omega):=⟨_,rfl⟩
      rw [←hold] at z1
      have hi:tp<kl.length:=by omega
      have hc:=(zU3 HD.out.kept).1
      simp only at hc
      clear hold
      have HDB:=hid (HDA.out.drew'.kept_at tp hi td)
      have HOB:=hid (zL7 (HOA.out.trans (yJ0 _ _) (fun _ _ h=>h)) (b:=gk) (Or.inr (Or.inl rfl)) tp (.string td))
      go_wp2_with fail
      go_region
      all_goals
       go_wp2_with fail
       go_roundw
       case rel=>exact ⟨k+1,by omega,by go_num,by rw [HK.out];exact HDB.out,HOB.out⟩
       case measure=>simp [intOf];omega
  · have hke:k=D.wait.length:=by omega
    have hlen:(zE1 keep D.wait k D.kept).length=D.now.length:=by rw [zG1 keep D.wait D.kept k hk];exact HOK.out.same
    obtain ⟨kl,hkl⟩:∃l,l=zE1 keep D.wait k D.kept:=⟨_,rfl⟩
    have HKL:Hid (kl=zE1 keep D.wait D.wait.length D.kept):=hid (by rw [hkl,hke])
    rw [←hkl] at HD hlen
    have HLEN:=hid hlen
    clear hke hkl hlen
    have HDD:=hid HD.out.drew'
    have c0:=HD.out.c0
    have c1:=HD.out.c1
    simp only at c0 c1
    have HC:Hid (∀ty,(Builtin.copy_ #[56, 56] ty #[.slice (some ⟨gn,0,none⟩) D.now.length cn, .slice (some ⟨gk,0,none⟩) kl.length ck]).run Tryz.prog wr.drew= .ok (goInt kl.length) (wr.drew.setCells gn 0 (kl.map .string))):=hid fun ty=>
     xM6 wr.drew ty gn cn ⟨gk,0,none⟩ ck kl D.now.length HLEN.out.symm HDD.out.kept_read (fun j hj=>by rw [HDD.out.ncell j (by show j<D.now.length;rw [←HLEN.out];exact hj)];rfl) HDD.out.fn
    go_wp2_with fail
    go_region_law (refine step_copy_runI rfl (.tmp 35) (.tmp 39) 56 56 rfl (.slice (some ⟨gn,0,none⟩) D.now.length cn) (.slice (some ⟨gk,0,none⟩) kl.length ck) (by simp [Act.eval,Act.put]) (by simp [Act.eval,Act.put]) (HC.out 3) ?_)
    all_goals
     obtain ⟨W2,hW2⟩:∃W2,W2=wr.drew.setCells gn 0 (kl.map .string):=⟨_,rfl⟩
     have HD2:Hid (DiskAt W2 ⟨b,gk,gn,ck,cn, .slice wo D.wait.length wc⟩ { D with kept:=kl,now:=kl }):=hid (by rw [hW2];exact HDD.out.now_all kl HLEN.out)
     have HO2:Hid (Off (Dk.foot ⟨b,gk,gn,ck,cn, .slice wo D.wait.length wc⟩) w W2):=hid (by
      rw [hW2]
      exact (HO.out.trans (yJ0 _ _) (fun _ _ h=>h)).trans (yV7 _ gn 0 _ (Or.inr (Or.inr (Or.inl rfl)))) (fun _ _ h=>h))
     rw [←hW2]
     clear hW2 HC HDD c0 c1
     have k2:=HD2.out.c2
     have k3:=HD2.out.c3
     have k4:=HD2.out.c4
     have y2:=HD2.out.f 2
     have y3:=HD2.out.f 3
     have y4:=HD2.out.f 4
     simp only at k2 k3 k4 y2 y3 y4
     have HF:Hid (Turned 72 75 w ⟨b,gk,gn,ck,cn, .slice wo D.wait.length wc⟩ (zC1 D keep) (((W2.setCell ⟨b,2,none⟩ (.slice none 0 0)).setCell ⟨b,4,none⟩ (.bool false)).setCell ⟨b,3,none⟩ (.int .i64 (-1)))):=hid (by
      have h1:=((HD2.out.set_wait (.slice none 0 0) [] (World.ownsRow_nil _ _ _ _) (by simp [Value.ownBlock]) (by simp [Value.ownBlock]) (by simp [Value.ownBlock])).set_down false).set_fuse (-1)
      refine ⟨⟨b,gk,gn,ck,cn, .slice none 0 0⟩,rfl,?_,zL7 (zL7 (zL7 HO2.out (Or.inl rfl) 2 _) (Or.inl rfl) 4 _) (Or.inl rfl) 3 _,fun k hk=>?_⟩
      · unfold zC1
        rw [←HKL.out]
        exact h1
      · rcases hk with hk | hk | hk | hk
        · exact Or.inl (Or.inl hk)
        · exact Or.inl (Or.inr (Or.inl hk))
        · exact Or.inl (Or.inr (Or.inr (Or.inl hk)))
        · simp [Value.ownBlock] at hk)
     go_wp2_with fail
     go_end0
     exact ⟨rfl,HF.out⟩
open Go.RowKit Go.Sort
open Go.RowKit Go.Sort
theorem vN9 :(Tryz.prog.info? 9).map (fun i=>(i.zero,i.size,i.bytes))=some (some (.string ⟨#[]⟩),1,16):=by kernel_rfl
theorem vR7 (n:Nat)(hn:n≤1000)(w:World):(Instr.makeSlice 56 (.int .i64 (n:Int)) (.int .i64 (n:Int))).run Tryz.prog w= .ok (.slice (some ⟨w.heap.size,0,none⟩) n n) (w.alloc (.cells (madeCells #[.string ⟨#[]⟩] n) 9)):=
 run_make_row' (P:= Tryz.prog) 56 9 (.string ⟨#[]⟩) 16 Tryz.underlying56 vN9 rfl .i64 .i64 n (by omega) (by omega) w
def zW4 (s:ByteArray)(n m:Nat):List Value:=List.replicate m (.string s)++List.replicate (n - m) (.string ⟨#[]⟩)
theorem xP8 (s:ByteArray){n m:Nat}(h:m≤n):(zW4 s n m).length=n:=by simp [zW4];omega
theorem uF0 (n:Nat)(s:ByteArray):madeCells #[.string ⟨#[]⟩] n=(zW4 s n 0).toArray:=by
 apply Array.toList_inj.1
 apply List.ext_getElem
 · simp [madeCells,zW4]
 · intro i h1 h2
   simp [madeCells,zW4,Nat.mod_one]
def vA7 (w:World)(g n m:Nat)(s:ByteArray):Prop:=w.heap[g]?=some (.cells (zW4 s n m).toArray 9 (0,0))
theorem vL9 {w:World}{g n m k:Nat}{s:ByteArray}(h:vA7 w g n m s)(hk:m+k≤n):vA7 (w.setCells g m (List.replicate k (.string s))) g n (m+k) s:=by
 unfold vA7 at h ⊢
 rw [yA0 g _ m w _ _ _ h (by simp [zW4];omega)]
 congr 3
 simp only [zW4,List.length_replicate]
 rw [List.take_left' (by simp),List.drop_append]
 simp only [List.length_replicate,List.drop_replicate]
 rw [show m - (m+k)=0 by omega,show m+k - m=k by omega,show n - m - k=n - (m+k) by omega]
 simp [List.replicate_append_replicate,←List.append_assoc]
theorem xE7 {w:World}{g n m:Nat}{s:ByteArray}(h:vA7 w g n m s)(hm:m≤n)(j:Nat)(hj:j<n):w.cell? ⟨g,j,none⟩=some ((zW4 s n m)[j]'(by rw [xP8 s hm];exact hj)):=by
 unfold vA7 at h
 have hl:=xP8 s hm
 simp [World.cell?,h,hl,hj]
theorem vF7 {w:World}{g n m:Nat}{s:ByteArray}(h:vA7 w g n m s)(j:Nat):w.frozen? ⟨g,j,none⟩=false:=by
 unfold vA7 at h
 simp [World.frozen?,h]
theorem uO9 {w:World}{g n:Nat}{s:ByteArray}(h:vA7 w g n n s)(hn:n≤1000):w.ownsRow 0 9 1 (.slice (some ⟨g,0,none⟩) n n) n ((List.replicate n s).map .string):=by
 refine ⟨by simp,Or.inr ⟨g,n,_,rfl,Nat.zero_le _,h,Nat.le_refl _,by unfold maxLen;omega,by simp [xP8 s (Nat.le_refl n)],?_⟩⟩
 simp [zW4]
theorem xR9 (xb xo xc n:Nat)(s:ByteArray)(w:World)(hx:w.cell? ⟨xb,xo,none⟩=some (.string s))(hxc:1≤xc)(hxm:xc≤9223372036854775807)(h1:1≤n)(h2:n≤60):
 Calls Tryz.prog 49 #[.slice (some ⟨xb,xo,none⟩) 1 xc, .int .i64 n] w fun e w' =>e= .returned (.slice (some ⟨w.heap.size,0,none⟩) n n)∧vA7 w' w.heap.size n n s∧Below w.heap.size w w' :=by
 have CM:= Tryz.bits_Mul 1 n (by decide) (by omega) w
 rw [show 1 * n / 18446744073709551616=0 by omega,show 1 * n % 18446744073709551616=n by omega] at CM
 replace CM:=hid CM
 have hmk:=vR7 n (by omega)
 have hmod:(n:Int) % 18446744073709551616=n:=by omega
 have hmod2:(n:Int) % 9223372036854775808=n:=by omega
 go_enter Tryz.func49, Tryz.ntmps49
 go_wp2_with fail
 refine CM.out.mono ?_
 rintro e w2 ⟨rfl,hq⟩
 rw [hq]
 clear hq
 have HX:=hid hx
 have HM0:Hid (vA7 (w.alloc (.cells (madeCells #[.string ⟨#[]⟩] n) 9)) w.heap.size n 0 s):=hid (by unfold vA7;rw [←uF0 n s];exact heap_alloc_new w _)
 have HCP:Hid (∀ty,(Builtin.copy_ #[56, 56] ty #[.slice (some ⟨w.heap.size,0,none⟩) n n, .slice (some ⟨xb,xo,none⟩) 1 xc]).run Tryz.prog (w.alloc (.cells (madeCells #[.string ⟨#[]⟩] n) 9))= .ok (.int .i64 1) ((w.alloc (.cells (madeCells #[.string ⟨#[]⟩] n) 9)).setCell ⟨w.heap.size,0,none⟩ (.string s))):=hid fun ty=>by
  have hbx:=World.block_lt_of_cell? w _ HX.out
  have hm1:Nat.min 1 n=1:=by show min 1 n=1;omega
  have h:=zE9 (P:= Tryz.prog) (w.alloc (.cells (madeCells #[.string ⟨#[]⟩] n) 9)) 56 56 ty 9 1 w.heap.size 0 n n ⟨xb,xo,none⟩ 1 xc [.string s] Tryz.underlying56 xB3 (by rw [hm1];rfl)
   (fun j v hj=>by
    have hj0:j=0:=by have:=(List.getElem?_eq_some_iff.1 hj).1;simp at this;omega
    subst hj0
    simp at hj
    subst hj
    rw [Addr.add_lit,Nat.add_zero,(zA0 w _).cell hbx]
    exact HX.out) (fun j hj=>by rw [xE7 HM0.out (Nat.zero_le _) _ (by simp at hj;omega)];rfl) (fun j hj=>vF7 HM0.out _) (fun v hv=>by simp at hv;subst hv;rfl)
  rw [hm1] at h
  exact h
 have HM1:Hid (vA7 ((w.alloc (.cells (madeCells #[.string ⟨#[]⟩] n) 9)).setCell ⟨w.heap.size,0,none⟩ (.string s)) w.heap.size n (0+1) s):=hid (vL9 (k:=1) HM0.out (by omega))
 have HB1:Hid (Below w.heap.size w ((w.alloc (.cells (madeCells #[.string ⟨#[]⟩] n) 9)).setCell ⟨w.heap.size,0,none⟩ (.string s))):=hid ((zA0 w _).setCell (Nat.le_refl _) _)
 clear hx
 go_wp2_with (simp only [HCP.out])
 have hWE:(w.alloc (.cells (madeCells #[.string ⟨#[]⟩] n) 9)).setCell ⟨w.heap.size,0,none⟩ (.string s)=w.alloc (.cells ((madeCells #[.string ⟨#[]⟩] n).setIfInBounds 0 (.string s)) 9):=by simp [go_sem]
 rw [hWE] at HM1 HB1
 clear hWE
 obtain ⟨W1,hW1⟩:∃W1,W1=w.alloc (.cells ((madeCells #[.string ⟨#[]⟩] n).setIfInBounds 0 (.string s)) 9):=⟨_,rfl⟩
 rw [←hW1] at HM1 HB1 ⊢
 clear hW1 HCP HM0 hmk hmod hmod2 CM
 go_loopw [8] (fun i wr=>∃(m:Nat),1≤m∧m≤n∧i= .int .i64 m∧vA7 wr w.heap.size n m s∧Below w.heap.size w wr) (fun i _=>n - (intOf i).toNat)
 case atStart=>exact ⟨1,Nat.le_refl _,h1,rfl,by simpa using HM1.out,HB1.out⟩
 case round=>
  obtain ⟨m,hm1,hmn,rfl,hh,hb⟩:=hrel
  have HH:=hid hh
  have HB:=hid hb
  clear hh hb
  by_cases hlt:m<n
  · obtain ⟨k,hk⟩:∃k,k=Nat.min m (n - m):=⟨_,rfl⟩
    have hk1:k≤m:=by rw [hk];exact Nat.min_le_left _ _
    have hk2:k≤n - m:=by rw [hk];exact Nat.min_le_right _ _
    have hk3:1≤k:=by rw [hk];show 1≤min m (n - m);omega
    have HHD:Hid (vA7 wr.drew w.heap.size n m s):=hid HH.out
    have HC:Hid (∀ty,(Builtin.copy_ #[56, 56] ty #[.slice (some ⟨w.heap.size,m,none⟩) (n - m) (n - m), .slice (some ⟨w.heap.size,0,none⟩) m n]).run Tryz.prog wr.drew= .ok (goInt k) (wr.drew.setCells w.heap.size m (List.replicate k (.string s)))):=hid fun ty=>by
     rw [hk]
     refine zE9 (P:= Tryz.prog) wr.drew 56 56 ty 9 1 w.heap.size m (n - m) (n - m) ⟨w.heap.size,0,none⟩ m n _ Tryz.underlying56 xB3 (by simp) (fun j v hj=>?_) (fun j hj=>?_) (fun j hj=>?_) (fun v hv=>?_)
     · have hj' :j<Nat.min m (n - m):=by have:=(List.getElem?_eq_some_iff.1 hj).1;simpa using this
       rw [←hk] at hj'
       rw [Addr.add_lit,Nat.zero_add,xE7 HHD.out hmn j (by omega)]
       rw [List.getElem?_replicate,if_pos (by rw [←hk];exact hj')] at hj
       rw [←hj]
       simp only [zW4]
       rw [List.getElem_append_left (by simp;omega)]
       simp
     · have hj' :j<Nat.min m (n - m):=by simpa using hj
       rw [←hk] at hj'
       rw [xE7 HHD.out hmn (m+j) (by omega)];rfl
     · have:=HHD.out
       unfold vA7 at this
       simp [World.frozen?,this]
     · obtain ⟨_,rfl⟩:=List.mem_replicate.1 hv;rfl
    have HN:=hid (vL9 (k:=k) HHD.out (by omega))
    have HBN:Hid (Below w.heap.size w (wr.drew.setCells w.heap.size m (List.replicate k (.string s)))):=hid (zF8 (Nat.le_refl _) _ _ _ HB.out.drew)
    have q1:(m:Int)≤(n:Int):=by omega
    have q3:¬n=m:=by omega
    have q5:IntKind.i64.wrap ((m:Int)+(k:Int))=(m:Int)+(k:Int):=by rw [IntKind.wrap_i64];omega
    clear hk
    have mixed: Tryz.prog.follows .mixedOrders=true:=by kernel_rfl
    go_wp2_with fail
    go_region_law (refine step_copy_runI rfl (.tmp 41) (.tmp 44) 56 56 rfl (.slice (some ⟨w.heap.size,m,none⟩) (n - m) (n - m)) (.slice (some ⟨w.heap.size,0,none⟩) m n) (by simp [Act.eval,Act.put]) (by simp [Act.eval,Act.put]) (HC.out 3) ?_)
    all_goals
     try go_simp
     try go_wp2_with fail
     go_roundw
     case rel=>exact ⟨m+k,by omega,by omega,by go_num,HN.out,HBN.out⟩
     case measure=>simp [intOf];omega
  · have hme:m=n:=by omega
    have HE:Hid (vA7 wr w.heap.size n n s):=hid (by rw [←hme];exact hme ▸ HH.out)
    have hlt2:((m:Int)<(n:Int))=False:=by simp;omega
    clear hme
    go_wp2_with fail
    go_ret
    exact ⟨rfl,HE.out,HB.out⟩
open Go.RowKit Go.Sort
theorem vB8 (g cap:Nat)(l:List ByteArray)(w:World)(h:w.ownsRow 0 9 1 (.slice (some ⟨g,0,none⟩) l.length cap) l.length (l.map .string))(h0:0<l.length)(hl:l.length≤1000):
 Calls Tryz.prog 50 #[.slice (some ⟨g,0,none⟩) l.length cap] w fun e w' =>∃g' c',e= .returned (.slice (some ⟨g',0,none⟩) l.length c')∧w'.ownsRow 0 9 1 (.slice (some ⟨g',0,none⟩) l.length c') l.length (l.map .string)∧w.heap.size≤g' ∧Below w.heap.size w w' :=by
 have hcm:=(zU3 h).2
 have hcc:=(zU3 h).1
 unfold maxLen at hcm
 have HN:Hid (∀j v,(l.map Value.string)[j]?=some v→(w.alloc (.cells #[] 9)).cell? ((⟨g,0,none⟩:Addr).add j)=some v):=hid fun j v hj=>by
  have:=h.cells (g:=g) rfl j v hj
  rw [Addr.add_lit] at this ⊢
  exact zA1 (zA0 w _) this
 have HP:=hid h0
 have HM:=hid (World.ownsRow_made w (e:= 9) (size:=1) #[] 0 (Nat.le_refl w.heap.size) (Nat.zero_le _) (by simp))
 have hq1:0+l.length≤1000000000:=by omega
 have HB:=hid (zA0 w (.cells #[] 9))
 have q22:∀(w:World) (a:Option Addr) (n c n' c' :Nat),(binOp .eql 56 (.slice a n c) (.slice none n' c')).run Tryz.prog w= .ok (.bool a.isNone) w:=fun w a n c n' c' =>Lib.run_eql_slice_nil w _ _ a n c n' c' Tryz.underlying56
 clear h h0
 go_enter Tryz.func50, Tryz.ntmps50
 go_wp2_with (at_builtin;refine vB1 xA3 rfl _ _ rfl w.heap.size (.slice (some ⟨w.heap.size,0,none⟩) 0 0) 0 [] rfl HM.out ⟨g,0,none⟩ l.length cap (l.map .string) rfl (by simp) HN.out (uK0 _) HP.out hq1 (by simp) (w.heap.size+1) (by simp) ?_;intro g' c' w' ho hg hor hlt;have HY:=hid (And.intro ho (And.intro hg hor));clear ho hg hor hlt)
 go_wp2_with fail
 go_ret
 obtain ⟨ho,hg,hor⟩:=HY.out
 rw [Nat.zero_add,List.nil_append] at ho
 have hg' :w.heap.size≤g' :=by
  rcases hor with h | h
  · simp [Value.ownBlock] at h;omega
  · omega
 exact ⟨g',c',by simp,uB0 ho,hg',HB.out.grown hg (by simp) (fun k hk=>by simp [Value.ownBlock] at hk;omega)⟩
theorem uF7 :zD1 ⟨#[]⟩=zI3 40:=by
 have h:(⟨#[]⟩:ByteArray).size=0:=rfl
 apply ByteArray.ext
 simp [zD1,zI3,h]
theorem xQ4 (n:Nat)(w:World)(h1:1≤n)(h2:n≤60):
 Calls Tryz.prog 23 #[.int .i64 n] w fun e w' =>∃L:Dk,e= .returned (.tuple #[.pointer (some ⟨L.b,0,none⟩), .nilIface])∧DiskAt w' L (xI7 n)∧Below w.heap.size w w' ∧∀k,L.foot k→w.heap.size≤k:=by
 have CF:=hid (xY2 ⟨#[]⟩ (by decide) w)
 rw [uF7] at CF
 go_enter Tryz.func23, Tryz.ntmps23
 go_wp2_with fail
 refine CF.out.mono ?_
 rintro e w1 ⟨rfl,hb1⟩
 have HB1:=hid hb1
 obtain ⟨z40,hz⟩:∃z,z=zI3 40:=⟨_,rfl⟩
 have HZ:=hid hz
 rw [←hz]
 clear hb1 hz
 have CR:=hid (xR9 w1.heap.size 0 1 n z40 (w1.alloc (.cells #[.string z40] 9)) (by simp) (Nat.le_refl _) (by decide) h1 h2)
 go_wp2_with fail
 refine CR.out.mono ?_
 rintro e w2 ⟨rfl,hh,hb2⟩
 have HH:=hid hh
 have HB2:=hid (two (two HB1.out (zA0 _ _)) hb2)
 have HOW:=hid (uO9 HH.out (by omega))
 have hs2:w1.heap.size+1≤w2.heap.size:=by have:=hb2.size;simpa using this
 have hsz:(w1.alloc (.cells #[.string z40] 9)).heap.size=w1.heap.size+1:=by simp
 rw [hsz] at HOW HH ⊢
 have hlt:w1.heap.size+1<w2.heap.size:=by
  have:=(HOW.out.lt _ rfl).2;exact this
 clear hh hb2 hsz
 have CC:=vB8 (w1.heap.size+1) n (List.replicate n z40) w2 (by simpa using HOW.out) (by simp;omega) (by simp;omega)
 rw [List.length_replicate] at CC
 replace CC:=hid CC
 have HS2:=hid hs2
 have HLT:=hid hlt
 clear hs2 hlt
 go_wp2_with fail
 refine CC.out.mono ?_
 rintro e w3 ⟨g',c',rfl,ho3,hg3,hb3⟩
 have HO3:=hid ho3
 have HG3:=hid hg3
 have HB3:=hid hb3
 clear ho3 hg3 hb3
 go_wp2_with fail
 refine bodyPost_ret (v:= .tuple #[.pointer (some ⟨w3.heap.size,0,none⟩), .nilIface]) (by simp [results, Tryz.results23,go_sem]) rfl ?_
 have hs1:=HB1.out.size
 have hs2:=HS2.out
 have hs3:=HB3.out.size
 have hg3:=HG3.out
 have hlt:=HLT.out
 have hgl:=(HO3.out.lt g' rfl).2
 have hkr:w3.ownsRow 0 9 1 (.slice (some ⟨w1.heap.size+1,0,none⟩) n n) n ((List.replicate n z40).map .string):=zF4 HOW.out fun k hk=>by cases hk;exact HB3.out.block _ hlt
 have bo:∀o,Below w3.heap.size w3 (w3.alloc o):=fun o=>zA0 w3 o
 refine ⟨⟨w3.heap.size,w1.heap.size+1,g',n,c', .slice none 0 0⟩,rfl,?_,two (two HB2.out HB3.out) (zA0 _ _),?_⟩
 · refine ⟨?_,?_,?_,World.ownsRow_nil _ _ _ _,by show w1.heap.size+1≠w3.heap.size;omega,by show g' ≠w3.heap.size;omega,by show w1.heap.size+1≠g';omega,by simp [Value.ownBlock],by simp [Value.ownBlock],by simp [Value.ownBlock]⟩
   · show (w3.alloc _).heap[w3.heap.size]?=_
     rw [heap_alloc_new]
     simp [xI7]
   · have:=hkr.alloc (.cells #[.slice (some ⟨w1.heap.size+1,0,none⟩) n n, .slice (some ⟨g',0,none⟩) n c', .slice none 0 0, .int .i64 (-1), .bool false] 72)
     simpa [xI7,HZ.out] using this
   · have:=HO3.out.alloc (.cells #[.slice (some ⟨w1.heap.size+1,0,none⟩) n n, .slice (some ⟨g',0,none⟩) n c', .slice none 0 0, .int .i64 (-1), .bool false] 72)
     simpa [xI7,HZ.out] using this
 · intro k hk
   rcases hk with hk | hk | hk | hk
   · simp only at hk;omega
   · simp only at hk;omega
   · simp only at hk;omega
   · simp [Value.ownBlock] at hk
end Go.Proofs.YtggpodlecljcbabGreatDoor
