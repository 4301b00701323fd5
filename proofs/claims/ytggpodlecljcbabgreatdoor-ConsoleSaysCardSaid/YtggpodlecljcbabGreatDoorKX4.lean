/- The walks of chapter 7: slices.Clone and the search on changes. -/
import Derived.Lib.SliceRun
import Derived.Test.YtggpodlecljcbabGreatDoorKX
import Derived.Test.YtggpodlecljcbabGreatDoorKG
import Derived.Test.YtggpodlecljcbabGreatDoorKBb
import Derived.Test.YtggpodlecljcbabGreatDoorKBase
namespace Go.Proofs.YtggpodlecljcbabGreatDoor
set_option linter.unusedSimpArgs false
set_option linter.unusedVariables false
set_option maxRecDepth 100000
set_option maxHeartbeats 64000000
open Lib (hid)
open Go.RowKit Go.Sort
theorem zN6 :zQ3 Tryz.prog 34 109 3 40:=zO4 (z:= .agg #[.string ⟨#[]⟩, .string ⟨#[]⟩, .bool false]) Tryz.underlying34 (by kernel_rfl) rfl (by decide) (by decide)
theorem zR8 (f:Change):∀u∈f.cells,u.oneCell' =true:=by
 intro u hu
 simp [Change.cells] at hu
 rcases hu with rfl | rfl | rfl <;> rfl
theorem yR6 (va:Value)(l:List Change)(w:World)(ha:Changes w va l)(hl:l.length≤1000):
 Calls Tryz.prog 104 #[va] w fun e w' =>∃v,e= .returned v∧w'.ownsRow w.heap.size 109 3 v l.length (l.flatMap Change.cells)∧Below w.heap.size w w' :=by
 obtain ⟨h1,ao,cap,rfl,h2,h3,h4,h5⟩:=ha
 cases ao with
 | none=>
  have e1:l= []:=by
   cases l with
   | nil=>rfl
   | cons f r=>
    obtain ⟨b,off,e,_⟩:=h5 0 (.string f.key) rfl
    cases e
  subst e1
  refine (AnyE.slices_Clone_nil Tryz.cloneChanges 0 cap w).mono ?_
  rintro e w' ⟨rfl,rfl⟩
  exact ⟨_,rfl,World.ownsRow_nil _ _ _ _,Below.refl _ _⟩
 | some a=>
  have H5:Hid (∀j u,(l.flatMap Change.cells)[j]?=some u→(w.alloc (.cells #[] 109)).cell? (a.add j)=some u):=by
   refine hid fun j u hj=>?_
   obtain ⟨b,off,e,hc⟩:=h5 j u hj
   cases e
   rw [Addr.add_lit]
   exact zA1 (zA0 w _) hc
  have H1:=hid h1
  replace h3:cap≤9223372036854775807:=h3
  clear h1 h4 h5
  have q22:∀(w:World) (a:Option Addr) (n c n' c' :Nat),(binOp .eql 34 (.slice a n c) (.slice none n' c')).run Tryz.prog w= .ok (.bool a.isNone) w:=fun w a n c n' c' =>Lib.run_eql_slice_nil w _ _ a n c n' c' Tryz.underlying34
  go_enter Tryz.func104, Tryz.ntmps104
  go_wp2_with (at_builtin;refine zB8 zN6 rfl _ _ rfl w.heap.size _ 0 [] rfl (World.ownsRow_made w #[] 0 (Nat.le_refl _) (Nat.zero_le _) (by simp)) a l.length cap (l.flatMap Change.cells) rfl H1.out ?c1 ?c2 ?c3 ?c4 ?_)
  case c1=>exact H5.out
  case c2=>
   intro u hu
   obtain ⟨f,_,hf⟩:=List.mem_flatMap.mp hu
   exact zR8 f u hf
  case c3=>omega
  case c4=>simp
  intro v' w3 hown3 hg3
  have HB3:=hid (zB0 (k:=3) (zA0 w (.cells #[] 109)) (World.ownsRow_made w #[] 0 (Nat.le_refl _) (Nat.zero_le _) (by simp)) hg3 (Nat.le_refl _))
  have HO3:=hid hown3
  clear hown3 hg3
  go_wp2_with fail
  go_ret
  exact ⟨v',rfl,HO3.out,HB3.out⟩
theorem xX2 (f:Change)(name:ByteArray)(w:World):
 Calls Tryz.prog 133 #[.agg #[.string f.key, .string f.val, .bool f.gone], .string name] w fun e w' =>e= .returned (.int .i64 (xJ1 f.key name))∧Below w.heap.size w w' :=by
 have C:=fun W=> Tryz.strings_Compare f.key name W
 have B1:=zA0 w (.cells #[.string f.key, .string f.val, .bool f.gone] 109)
 have HB1:=hid B1
 clear B1
 go_enter Tryz.func133, Tryz.ntmps133
 go_wp2_with fail
 refine (C _).mono ?_
 rintro e w2 ⟨rfl,hb2⟩
 go_wp2_with fail
 go_ret
 exact ⟨rfl,HB1.out⟩

def yS1 (l:List Change)(name:ByteArray)(w:World)(e:Ending)(w' :World):Prop:=e= .returned (.tuple #[.int .i64 (zH3 l name), .bool (zT1 l name (zH3 l name))])∧Below w.heap.size w w'
theorem xJ2 (va:Value)(l:List Change)(name:ByteArray)(w:World)(ha:Changes w va l)(hl:l.length≤1000)(hr:RisesX l):
 Calls Tryz.prog 108 #[va, .string name, .func (.func 133) #[] #[]] w (yS1 l name w):=by
 obtain ⟨ao,ca,rfl,hca,hca'⟩:=ha.parts
 have HA:=hid ha
 have HR:=hid hr
 clear ha hr
 go_enter Tryz.func108, Tryz.ntmps108
 go_wp2_with fail
 go_loopw [9,10] (fun x y wr=>∃i j:Nat,i≤j∧j≤l.length∧x= .int .i64 i∧y= .int .i64 j∧(∀t,(ht:t<l.length)→t<i→bLt l[t].key name=true)∧(∀t,(ht:t<l.length)→j≤t→bLt l[t].key name=false)∧Below w.heap.size w wr) (fun x y _=>(intOf y).toNat - (intOf x).toNat)
 case atStart=>exact ⟨0,l.length,Nat.zero_le _,Nat.le_refl _,rfl,rfl,fun t _ h=>absurd h (by omega),fun t h1 h2=>absurd h1 (by omega),Below.refl _ _⟩
 case round=>
  obtain ⟨i,j,hij,hj,rfl,rfl,h1,h2,hbw⟩:=hrel
  have H1:=hid h1
  have H2:=hid h2
  clear h1 h2
  by_cases hlt:i<j
  · have hmj:(i+j) / 2<j:=by omega
    have him:i≤(i+j) / 2:=by omega
    obtain ⟨ba,oa,rfl,hlb,x0,x1,x2⟩:=Changes.cell (HA.out.below hbw) ((i+j) / 2) (by omega)
    have C:=hid fun W=>xX2 (l[(i+j) / 2]'(by omega)) name W
    have HW:=hid hbw
    clear hbw
    by_cases hc:xJ1 (l[(i+j) / 2]'(by omega)).key name<0
    · have HL:=hid ((yI1 _ _).mp hc)
      go_wp2_with fail
      refine (C.out _).mono ?_
      rintro e w2 ⟨rfl,hb2⟩
      have HB2:=hid (two HW.out hb2)
      clear hb2 x0 x1 x2
      go_wp2_with fail
      go_roundw
      case rel=>exact ⟨(i+j) / 2+1,j,by omega,hj,by congr 1,rfl,fun t ht hti=>HR.out.mono name t ((i+j) / 2) (by omega) (by omega) HL.out,H2.out,HB2.out⟩
      case measure=>simp [intOf];omega
    · have HL:Hid (bLt (l[(i+j) / 2]'(by omega)).key name=false):=by
       refine hid ?_
       rw [←Bool.not_eq_true,←yI1];exact hc
      go_wp2_with fail
      refine (C.out _).mono ?_
      rintro e w2 ⟨rfl,hb2⟩
      have HB2:=hid (two HW.out hb2)
      clear hb2 x0 x1 x2
      go_wp2_with fail
      go_roundw
      case rel=>
       refine ⟨i,(i+j) / 2,by omega,by omega,rfl,by congr 1,H1.out,?_,HB2.out⟩
       intro t ht hti
       cases hb:bLt l[t].key name
       · rfl
       · have:=HR.out.mono name ((i+j) / 2) t hti ht hb
         rw [HL.out] at this;cases this
      case measure=>simp [intOf];omega
  · have hij2:i=j:=by omega
    subst hij2
    have HK:=hid (yZ0 name l i (by omega) H1.out H2.out)
    by_cases hil:i<l.length
    · obtain ⟨ba,oa,rfl,hlb,x0,x1,x2⟩:=Changes.cell (HA.out.below hbw) i hil
      have C:=hid fun W=>xX2 l[i] name W
      have HW:=hid hbw
      clear hbw
      go_wp2_with fail
      refine (C.out _).mono ?_
      rintro e w2 ⟨rfl,hb2⟩
      have HB2:=hid (two HW.out hb2)
      clear hb2 x0 x1 x2
      go_wp2_with fail
      refine bodyPost_ret (v:= .tuple #[.int .i64 i, .bool (xJ1 l[i].key name==0)]) (by simp [results, Tryz.results108,go_sem]) rfl ?_
      refine ⟨?_,HB2.out⟩
      have e2:zT1 l name (zH3 l name)=(xJ1 l[i].key name==0):=by
       rw [HK.out,zS3 l name i hil]
       have:=vH4 l[i].key name
       cases h1:(l[i].key.toList==name.toList) <;> cases h2:(xJ1 l[i].key name==0) <;> simp_all
      rw [e2,HK.out]
    · have HW:=hid hbw
      clear hbw
      go_wp2_with fail
      refine bodyPost_ret (v:= .tuple #[.int .i64 i, .bool false]) (by simp [results, Tryz.results108,go_sem]) rfl ?_
      refine ⟨?_,HW.out⟩
      rw [HK.out,yQ8 l name i hil]

open Go.RowKit Go.Sort
def Blk (w:World)(g e n:Nat):Prop:=∃c:Array Value,w.heap[g]?=some (.cells c e (0,0))∧c.size=n
theorem Blk.drew {w:World}{g e n:Nat}(h:Blk w g e n):Blk w.drew g e n:=h
theorem Blk.sets {g e n:Nat}:∀(vs:List Value) (o:Nat) {w:World},Blk w g e n→Blk (w.setCells g o vs) g e n
 | [],_,_,h=>h
 | v::r,o,w,h=>by
  rw [World.setCells]
  refine Blk.sets r (o+1) ?_
  obtain ⟨c,h1,h2⟩:=h
  exact ⟨_,zA3 w g o v h1,by rw [Array.size_setIfInBounds];exact h2⟩
theorem Blk.of_own {w:World}{base e k g n cap:Nat}{xs:List Value}(h:w.ownsRow base e k (.slice (some ⟨g,0,none⟩) n cap) n xs):Blk w g e (cap * k):=by
 obtain ⟨_,h⟩:=h
 rcases h with ⟨h,_⟩ | ⟨g',cap',cur,h,hb,hg,h1,h2,h3,h4⟩
 · simp only [Value.slice.injEq] at h;cases h.1
 · simp only [Value.slice.injEq,Option.some.injEq,Addr.mk.injEq,and_true,true_and] at h
   obtain ⟨rfl,rfl⟩:=h
   exact ⟨cur,hg,h3⟩
theorem yI9 {W:World}{base e k g m n cap:Nat}{ys:List Value}(hB:Blk W g e (cap * k))(hb:base≤g)(hm:m=n)(hn:n≤cap)(hc:cap≤9223372036854775807)(hl:ys.length=n * k)(hr:∀j u,ys[j]?=some u→W.cell? ⟨g,j,none⟩=some u):
 W.ownsRow base e k (.slice (some ⟨g,0,none⟩) m cap) n ys:=by
 subst hm
 obtain ⟨c,h1,h2⟩:=hB
 refine ⟨hl,Or.inr ⟨g,cap,c,rfl,hb,h1,hn,hc,h2,?_⟩⟩
 have hmk:m * k≤cap * k:=Nat.mul_le_mul_right k hn
 refine List.ext_getElem? fun j=>?_
 rw [List.getElem?_take]
 by_cases hj:j<m * k
 · rw [if_pos hj]
   have hy:ys[j]?=some (ys[j]'(by omega)):=List.getElem?_eq_getElem _
   have h3:=hr j _ hy
   rw [hy,←h3]
   simp [World.cell?,h1]
 · rw [if_neg hj,List.getElem?_eq_none (by omega)]
theorem vA8 :(Builtin.zeroCells (Value.agg #[.string ⟨#[]⟩, .string ⟨#[]⟩, .bool false]).cells 1).toList= [.string ⟨#[]⟩, .string ⟨#[]⟩, .bool false]:=by
 first | kernel_rfl | (simp [Builtin.zeroCells,Value.cells];done) | (apply List.ext_getElem <;> simp [Builtin.zeroCells])
theorem yW1 (l:List Change)(f:Change)(i:Nat):(l.take i++f::l.drop i).flatMap Change.cells=(l.take i).flatMap Change.cells++f.cells++(l.drop i).flatMap Change.cells:=by
 rw [List.flatMap_append,List.flatMap_cons,List.append_assoc]
theorem zO3 (l:List Change)(i:Nat):l.flatMap Change.cells=(l.take i).flatMap Change.cells++(l.drop i).flatMap Change.cells:=by
 rw [←List.flatMap_append,List.take_append_drop]
theorem xX0 {l:List Change}:∀u∈l.flatMap Change.cells,u.oneCell' =true:=by
 intro u hu
 obtain ⟨f,_,hf⟩:=List.mem_flatMap.mp hu
 exact zR8 f u hf
theorem yJ3 :(Tryz.prog.info? 109).map (·.size)=some 3:=by
 obtain ⟨i0,z0,e1,e2,e3,e4,_⟩:=zN6
 rw [e2];simp [e4]
theorem zG0 (l:List Change)(i:Nat)(hi:i≤l.length):((l.take i).flatMap Change.cells).length=i * 3:=by rw [zC2 (k:=3) (fun _=>rfl),List.length_take,Nat.min_eq_left hi]
theorem yM9 (l:List Change)(i:Nat):((l.drop i).flatMap Change.cells).length=(l.length - i) * 3:=by rw [zC2 (k:=3) (fun _=>rfl),List.length_drop]

theorem xJ4 (base:Nat)(v:Value)(l:List Change)(i:Nat)(w:World)(ho:w.ownsRow base 109 3 v l.length (l.flatMap Change.cells))(hi:i<l.length)(hl:l.length≤1000):
 Calls Tryz.prog 134 #[v, .int .i64 i, .int .i64 ((i:Int)+1)] w fun e w' =>∃v',e= .returned v' ∧w'.ownsRow base 109 3 v' (l.take i++l.drop (i+1)).length ((l.take i++l.drop (i+1)).flatMap Change.cells)∧Below base w w' :=by
 obtain ⟨g,cap,rfl⟩:∃g cap,v= .slice (some ⟨g,0,none⟩) l.length cap:=by
  rcases ho.2 with ⟨_,h⟩ | ⟨g,cap,_,h,_⟩
  · omega
  · exact ⟨g,cap,h⟩
 obtain ⟨hb,hgw,hnc,hc63,hlen,hcell,hsome,hfro,_⟩:=zK9 ho
 have hic:i≤cap:=by omega
 have hjc:i+1≤cap:=by omega
 have HC:=hid hcell
 have HS:=hid hsome
 have HF:=hid hfro
 have HO:=hid ho
 clear hcell hsome hfro ho hlen
 obtain ⟨news,hnews⟩:∃news,news=(l.drop (i+1)).flatMap Change.cells:=⟨_,rfl⟩
 have hnl:news.length=(l.length - (i+1)) * 3:=by rw [hnews,zC2 (k:=3) (fun _=>rfl),List.length_drop]
 obtain ⟨A,hA,hsrc⟩:∃A:Addr,(if cap=i+1 then (some (⟨g,0,none⟩:Addr)) else some ⟨g,(i+1) * 3,none⟩)=some A∧Hid (∀t u,news[t]?=some u→w.drew.cell? (A.add t)=some u):=by
  by_cases h:cap=i+1
  · refine ⟨⟨g,0,none⟩,by simp [h],hid fun t u hu=>?_⟩
    have h0:news.length=0:=by rw [hnl];omega
    rw [List.length_eq_zero_iff.1 h0] at hu
    simp at hu
  · refine ⟨⟨g,(i+1) * 3,none⟩,by simp [h],hid fun t u hu=>?_⟩
    rw [Addr.add_lit]
    refine HC.out ((i+1) * 3+t) u ?_
    rw [hnews] at hu
    have e:l.flatMap Change.cells=(l.take (i+1)).flatMap Change.cells++(l.drop (i+1)).flatMap Change.cells:=by rw [←List.flatMap_append,List.take_append_drop]
    have e2:((l.take (i+1)).flatMap Change.cells).length=(i+1) * 3:=by rw [zC2 (k:=3) (fun _=>rfl),List.length_take];congr 1;omega
    rw [e,List.getElem?_append_right (by omega),e2,show (i+1) * 3+t - (i+1) * 3=t by omega]
    exact hu
 have s2:Hid (∀u∈news,u.oneCell' =true):=by
  refine hid fun u hu=>?_
  rw [hnews] at hu
  obtain ⟨f,_,hf⟩:=List.mem_flatMap.mp hu
  exact zR8 f u hf
 have s3:Hid (∀t,t<news.length→(w.drew.cell? ⟨g,0+i * 3+t,none⟩).isSome=true∧w.drew.frozen? ⟨g,0+i * 3+t,none⟩=false):=hid fun t ht=>⟨HS.out _ (by rw [hnl] at ht;omega),HF.out _⟩
 obtain ⟨W1,hW1⟩:∃W1,W1=w.drew.setCells g (0+i * 3) news:=⟨_,rfl⟩
 have s1:=hid hnl
 have hW:=hid hW1
 have HN:=hid hnews
 clear hnl hnews hW1
 have S1:Hid (∀j,j<cap * 3→(W1.cell? ⟨g,j,none⟩).isSome=true):=hid fun j hj=>by rw [hW.out];exact isSome_setCells g news _ _ (fun t ht=>(s3.out t ht).1) j (HS.out j hj)
 have F1:Hid (∀j,W1.frozen? ⟨g,j,none⟩=false):=hid fun j=>by rw [hW.out,World.frozen?_setCells];exact HF.out j
 obtain ⟨W2,hW2⟩:∃W2,W2=W1.setCells g ((i+(l.length - (i+1))) * 3) [.string ⟨#[]⟩, .string ⟨#[]⟩, .bool false]:=⟨_,rfl⟩
 have hcl:∀ty,(Builtin.clear_ #[34] ty #[.slice (some ⟨g,(i+(l.length - (i+1))) * 3,none⟩) (l.length - (i+(l.length - (i+1)))) (cap - (i+(l.length - (i+1))))]).run Tryz.prog W1= .ok (.tuple #[]) W2:=by
  intro ty
  rw [hW2,show l.length - (i+(l.length - (i+1)))=1 by omega]
  refine yO3 W1 _ _ ty _ _ Tryz.underlying34 Tryz.zeroValue109 vA8 ?_ g _ _ ?_ ?_
  · intro u hu;simp at hu;rcases hu with rfl | rfl | rfl <;> rfl
  · intro j hj;simp at hj;exact S1.out _ (by omega)
  · intro j hj;exact F1.out _
 have HFIN:Hid (W2.ownsRow base 109 3 (.slice (some ⟨g,0,none⟩) (i+(l.length - (i+1))) cap) (l.take i++l.drop (i+1)).length ((l.take i++l.drop (i+1)).flatMap Change.cells)∧Below base w W2):=by
  refine hid ⟨?_,?_⟩
  · refine yI9 (by rw [hW2,hW.out];exact ((Blk.of_own HO.out).drew.sets _ _).sets _ _) hb (by simp;omega) (by simp;omega) hc63 (zC2 (k:=3) (fun _=>rfl) _) ?_
    rw [List.flatMap_append,←HN.out,hW2]
    have hnl:=s1.out
    intro j u hj
    have hj' :=(List.getElem?_eq_some_iff.1 hj).1
    rw [List.length_append,zG0 l i (by omega),hnl] at hj'
    rw [zK1 _ _ _ (Or.inl (by omega)),hW.out]
    revert j u hj hj'
    have R:=vI9 (W:=w.drew.setCells g (0+i * 3) news) (g:=g) ((l.take i).flatMap Change.cells) news ?_ ?_
    · intro j u hj _;exact R j u hj
    · intro j u hj
      have hj' :=(List.getElem?_eq_some_iff.1 hj).1
      rw [zG0 l i (by omega)] at hj'
      rw [zK1 _ _ _ (Or.inl (by omega))]
      refine HC.out j u ?_
      rw [zO3 l i,List.getElem?_append_left (by rw [zG0 l i (by omega)];omega)]
      exact hj
    · intro j u hj
      rw [zG0 l i (by omega),show i * 3+j=0+i * 3+j by omega]
      exact zY8 _ _ (fun t ht=>(s3.out t ht).1) j u hj
  · rw [hW2,hW.out]
    exact zF8 hb _ _ _ (zF8 hb _ _ _ (Below.refl _ _).drew)
 clear hW2
 obtain ⟨i0,z0,e1,e2,e3,e4,e5,e6,e7,e8⟩:=zN6
 have mixed: Tryz.prog.follows .mixedOrders=true:=by kernel_rfl
 have hbd:0≤(i:Int)+1∧(i:Int)+1≤(l.length:Int):=⟨by omega,by omega⟩
 have hbd1:(0:Int)≤(i:Int)+1:=by omega
 have hbd2:(i:Int)+1≤(l.length:Int):=by omega
 go_enter Tryz.func134, Tryz.ntmps134
 go_wp2_with fail
 go_region_law_o (refine step_append_room rfl (.tmp 22) (.tmp 25) 34 rfl 109 i0 3 e1 e2 e4 g 0 i cap (by simp [Act.eval,Act.put]) A (l.length - (i+1)) (cap - (i+1)) news (by simp [Act.eval,Act.put]) s1.out hsrc.out s2.out (by omega) s3.out ?_;rw [←hW.out])
 go_wp2_with fail
 go_ret
 exact ⟨_,rfl,HFIN.out⟩
open Go.RowKit Go.Sort
theorem vF0 (l:List Change)(f:Change):l.take l.length++f::l.drop l.length=l++ [f]:=by rw [List.take_length,List.drop_length]

theorem yR5 (base:Nat)(v:Value)(l:List Change)(f:Change)(vb:Nat)(vt:TypeId)(w:World)(ho:w.ownsRow base 109 3 v l.length (l.flatMap Change.cells))(hl:l.length≤1000)(hbase:base≤w.heap.size)
 (hx:w.heap[vb]?=some (.cells #[.string f.key, .string f.val, .bool f.gone] vt (0,0))):
 Calls Tryz.prog 135 #[v, .int .i64 l.length, .slice (some ⟨vb,0,none⟩) 1 1] w fun e w' =>∃v',e= .returned v' ∧w'.ownsRow base 109 3 v' (l++ [f]).length ((l++ [f]).flatMap Change.cells)∧Below base w w' :=by
 have hnews:Hid (∀j u,f.cells[j]?=some u→w.cell? ((⟨vb,0,none⟩:Addr).add j)=some u):=by
  refine hid fun j u hj=>?_
  rw [Addr.add_lit,Nat.zero_add]
  simp only [World.cell?,hx]
  simpa [Change.cells] using hj
 obtain ⟨ao,cap,rfl,hcap,hm,H⟩:∃ao cap,v= .slice ao l.length cap∧l.length≤cap∧cap≤9223372036854775807∧Hid (w.ownsRow base 109 3 v l.length (l.flatMap Change.cells)):=by
  have h2:=ho.2
  rcases h2 with ⟨rfl,h0⟩ | ⟨g,cap,cur,rfl,_,_,h1,h2,_⟩
  · exact ⟨none,0,by rw [h0],by omega,by omega,hid ho⟩
  · exact ⟨_,cap,rfl,h1,h2,hid ho⟩
 clear ho hx
 have h63:l.length+1≤1000000000:=by omega
 rcases (show cap=l.length∨cap≠l.length by omega) with rfl | hcc
 all_goals
  go_enter Tryz.func135, Tryz.ntmps135
  go_wp2_with (at_builtin;refine zB8 zN6 rfl _ _ rfl base _ _ _ rfl H.out ⟨vb,0,none⟩ 1 1 f.cells rfl rfl hnews.out (zR8 f) h63 hbase ?_)
  intro v' w3 hown3 hg3
  have HB3:=hid ((Below.refl base w).grown hg3 hbase (fun j hj=>(H.out.lt j hj).1))
  have HO3:=hid hown3
  clear hown3 hg3
  go_wp2_with fail
  go_ret
  refine ⟨v',rfl,?_,HB3.out⟩
  rw [zI4,List.length_append]
  exact HO3.out

theorem yK4 (base g cap:Nat)(l:List Change)(f:Change)(i:Nat)(vb:Nat)(vt:TypeId)(w:World)(ho:w.ownsRow base 109 3 (.slice (some ⟨g,0,none⟩) l.length cap) l.length (l.flatMap Change.cells))(hl:l.length≤1000)(hi:i<l.length)(hroom:l.length+1≤cap)
 (hvb:vb≠g) (hx:w.heap[vb]?=some (.cells #[.string f.key, .string f.val, .bool f.gone] vt (0,0))):
 Calls Tryz.prog 135 #[.slice (some ⟨g,0,none⟩) l.length cap, .int .i64 i, .slice (some ⟨vb,0,none⟩) 1 1] w fun e w' =>∃v',e= .returned v' ∧w'.ownsRow base 109 3 v' (l.take i++f::l.drop i).length ((l.take i++f::l.drop i).flatMap Change.cells)∧Below base w w' :=by
 obtain ⟨hb,hgw,hnc,hc63,hlen,hcell,hsome,hfro,hsh⟩:=zK9 ho
 have hxs:w.shape? vb=some (vt,3):=by simp [World.shape?,hx]
 have hxf:∀j,w.frozen? ⟨vb,j,none⟩=false:=fun j=>by simp [World.frozen?,hx]
 have hxc:∀j u,f.cells[j]?=some u→w.cell? ⟨vb,j,none⟩=some u:=fun j u hj=>by simp only [World.cell?,hx];simpa [Change.cells] using hj
 have hsz:∀w,(Go.sizeOf 109).run Tryz.prog w= .ok 3 w:=fun w=>by kernel_rfl
 have hov:∀lb cb,(callFunc 163 #[.slice (some ⟨vb,0,none⟩) 1 1, .slice (some ⟨g,(i+1) * 3,none⟩) lb cb]).run Tryz.prog w= .ok (.value (.bool false)) w:=fun lb cb=>by
  rw [run_callFunc_extern Tryz.func163 (by kernel_rfl) (by kernel_rfl) (by kernel_rfl) (e:=Extern.SlicesOverlaps.overlaps #[34, 34] #[4]) (by kernel_rfl),
   Lib.run_overlaps_apart w 34 4 109 Tryz.underlying34 3 hsz ⟨vb,0,none⟩ ⟨g,(i+1) * 3,none⟩ 1 1 lb cb hvb vt 109 3 (cap * 3) hxs hsh (by omega) (hxf _) (hxf _)]
  rfl
 obtain ⟨post,hpost⟩:∃post,post=(l.drop i).flatMap Change.cells:=⟨_,rfl⟩
 have hpl:post.length=(l.length - i) * 3:=by rw [hpost,yM9]
 have hpc:∀j u,post[j]?=some u→w.cell? ⟨g,i * 3+j,none⟩=some u:=fun j u hj=>by
  refine hcell (i * 3+j) u ?_
  rw [zO3 l i,List.getElem?_append_right (by rw [zG0 l i (by omega)];omega),zG0 l i (by omega),show i * 3+j - i * 3=j by omega,←hpost]
  exact hj
 have hp1:∀u∈post,u.oneCell' =true:=by rw [hpost];exact xX0
 have hcp1:∀ty dc sc,(Builtin.copy_ #[34, 34] ty #[.slice (some ⟨g,(i+1) * 3,none⟩) (l.length - i) dc, .slice (some ⟨g,i * 3,none⟩) (l.length+1 - i) sc]).run Tryz.prog w.drew= .ok (goInt (Nat.min (l.length+1 - i) (l.length - i))) (w.drew.setCells g ((i+1) * 3) post):=fun ty dc sc=>
  zE9 w.drew _ _ ty 109 3 g ((i+1) * 3) _ dc ⟨g,i * 3,none⟩ _ sc post Tryz.underlying34 yJ3 (by rw [hpl,show Nat.min (l.length+1 - i) (l.length - i)=l.length - i by simp only [Nat.min_def];split <;> omega])
   (fun j v hj=>by rw [Addr.add_lit];exact hpc j v hj) (fun j hj=>hsome _ (by omega)) (fun j hj=>hfro _) hp1
 obtain ⟨W1,hW1⟩:∃W1,W1=w.drew.setCells g ((i+1) * 3) post:=⟨_,rfl⟩
 have hs1:∀j,j<cap * 3→(W1.cell? ⟨g,j,none⟩).isSome=true:=fun j hj=>by
  rw [hW1]
  exact isSome_setCells g post ((i+1) * 3) w.drew (fun t ht=>hsome _ (by omega)) _ (hsome j hj)
 have hcp2:∀(W:World),(∀x,W.cell? x=W1.cell? x)→(∀x,W.frozen? x=W1.frozen? x)→∀ty dc,(Builtin.copy_ #[34, 34] ty #[.slice (some ⟨g,i * 3,none⟩) (l.length+1 - i) dc, .slice (some ⟨vb,0,none⟩) 1 1]).run Tryz.prog W= .ok (goInt (Nat.min 1 (l.length+1 - i))) (W.setCells g (i * 3) f.cells):=fun W hWc hWf ty dc=>
  zE9 W _ _ ty 109 3 g (i * 3) _ dc ⟨vb,0,none⟩ 1 1 f.cells Tryz.underlying34 yJ3 (by rw [show Nat.min 1 (l.length+1 - i)=1 by simp only [Nat.min_def];split <;> omega];rfl)
   (fun j v hj=>by rw [Addr.add_lit,Nat.zero_add,hWc,hW1,yE3 _ _ _ hvb];exact hxc j v hj)
   (fun j hj=>by rw [hWc];rw [Change.cells_len] at hj;exact hs1 _ (by omega)) (fun j hj=>by rw [hWf,hW1,World.frozen?_setCells];exact hfro _) (zR8 f)
 rw [←hW1] at hcp1
 have HFIN:Hid ((W1.setCells g (i * 3) f.cells).ownsRow base 109 3 (.slice (some ⟨g,0,none⟩) (l.length+1) cap) (l.take i++f::l.drop i).length ((l.take i++f::l.drop i).flatMap Change.cells)∧Below base w (W1.setCells g (i * 3) f.cells)):=by
  refine hid ⟨?_,?_⟩
  · refine yI9 (by rw [hW1];exact ((Blk.of_own ho).drew.sets _ _).sets _ _) hb (by simp;omega) (by simp;omega) hc63 (zC2 (k:=3) (fun _=>rfl) _) ?_
    rw [yW1,←hpost]
    have R:=xK7 (w:=w.drew) (g:=g) ((l.take i).flatMap Change.cells) f.cells post ?_ ?_
    · rw [zG0 l i (by omega),Change.cells_len,show i * 3+3=(i+1) * 3 by omega,←hW1] at R
      exact R
    · intro j u hj
      refine hcell j u ?_
      have hj' :=(List.getElem?_eq_some_iff.1 hj).1
      rw [zO3 l i,List.getElem?_append_left hj']
      exact hj
    · intro j hj
      rw [zG0 l i (by omega),Change.cells_len,hpl] at hj
      exact hsome _ (by omega)
  · rw [hW1]
    exact zF8 hb _ _ _ (zF8 hb _ _ _ (Below.refl _ _).drew)
 have HC1:=hid hcp1
 have HC2:=hid hcp2
 have HOV:=hid hov
 clear hcell hsome hfro hsh hxs hxf hxc hsz hov hpost hpl hpc hp1 hcp1 hW1 hs1 hcp2 ho hx hlen
 have hz2:¬((i:Int)=(l.length:Int)):=by omega
 have hw1:IntKind.i64.wrap ((i:Int)+1)=(i:Int)+1:=by rw [IntKind.wrap_i64];omega
 have hb1:(0:Int)≤(i:Int)+1:=by omega
 have htn:((i:Int)+1).toNat=i+1:=by omega
 have hb2:¬(cap=i+1):=by omega
 have hb3:(i:Int)≤(l.length:Int)+1:=by omega
 have hb4:¬(cap=i):=by omega
 have hb5:i≤l.length:=by omega
 have mixed: Tryz.prog.follows .mixedOrders=true:=by kernel_rfl
 go_enter Tryz.func135, Tryz.ntmps135
 go_wp2_with (simp only [HOV.out])
 go_region_law_o (refine step_copy_runI rfl _ _ 34 34 rfl (.slice (some ⟨g,(i+1) * 3,none⟩) (l.length - i) (cap - (i+1))) (.slice (some ⟨g,i * 3,none⟩) (l.length+1 - i) (cap - i)) (by simp [Act.eval,Act.put]) (by simp [Act.eval,Act.put]) (HC1.out 3 (cap - (i+1)) (cap - i)) ?_)
 go_wp2_with (simp only [HC2.out W1 (fun _=>rfl) (fun _=>rfl)])
 go_ret
 exact ⟨_,rfl,HFIN.out⟩
theorem yN3 (base g cap:Nat)(l:List Change)(f:Change)(i:Nat)(vb:Nat)(vt:TypeId)(w:World)(ho:w.ownsRow base 109 3 (.slice (some ⟨g,0,none⟩) l.length cap) l.length (l.flatMap Change.cells))(hl:l.length≤1000)(hi:i<l.length)(hroom:cap=l.length)
 (hbase:base≤w.heap.size) (hx:w.heap[vb]?=some (.cells #[.string f.key, .string f.val, .bool f.gone] vt (0,0))):
 Calls Tryz.prog 135 #[.slice (some ⟨g,0,none⟩) l.length cap, .int .i64 i, .slice (some ⟨vb,0,none⟩) 1 1] w fun e w' =>∃v',e= .returned v' ∧w'.ownsRow base 109 3 v' (l.take i++f::l.drop i).length ((l.take i++f::l.drop i).flatMap Change.cells)∧Below base w w' :=by
 obtain ⟨hb,hgw,hnc,hc63,hlen,hcell,hsome,hfro,hsh⟩:=zK9 ho
 have hxc:∀j u,f.cells[j]?=some u→w.cell? ⟨vb,j,none⟩=some u:=fun j u hj=>by simp only [World.cell?,hx];simpa [Change.cells] using hj
 have hvw:vb<w.heap.size:=World.block_lt_of_cell? w ⟨vb,0,none⟩ (hxc 0 _ rfl)
 obtain ⟨i0,z0,e1,e2,e3,e4,e5,e6,e7,e8⟩:=zN6
 obtain ⟨pre,hpre⟩:∃pre,pre=(l.take i).flatMap Change.cells:=⟨_,rfl⟩
 have hql:pre.length=i * 3:=by rw [hpre,zG0 l i (by omega)]
 have hqc:∀j u,pre[j]?=some u→w.cell? ⟨g,j,none⟩=some u:=fun j u hj=>by
  refine hcell j u ?_
  have hj' :=(List.getElem?_eq_some_iff.1 hj).1
  rw [zO3 l i,←hpre,List.getElem?_append_left hj']
  exact hj
 obtain ⟨post,hpost⟩:∃post,post=(l.drop i).flatMap Change.cells:=⟨_,rfl⟩
 have hpl:post.length=(l.length - i) * 3:=by rw [hpost,yM9]
 have hpc:∀j u,post[j]?=some u→w.cell? ⟨g,i * 3+j,none⟩=some u:=fun j u hj=>by
  refine hcell (i * 3+j) u ?_
  rw [zO3 l i,List.getElem?_append_right (by rw [zG0 l i (by omega)];omega),zG0 l i (by omega),show i * 3+j - i * 3=j by omega,←hpost]
  exact hj
 have hp1:∀u∈post,u.oneCell' =true:=by rw [hpost];exact xX0
 have hold:(Builtin.firstCells i0.size i (.slice (some ⟨g,0,none⟩) i cap)).run Tryz.prog w.drew= .ok pre.toArray w.drew:=by
  rw [e4]
  exact run_firstCells_some w.drew 3 i ⟨g,0,none⟩ i cap pre hql (fun j v hj=>by rw [Addr.add_lit,Nat.zero_add];exact hqc j v hj)
 have hkk:(l.length:Int)+1 - (i:Int)=((l.length+1 - i:Nat):Int):=by omega
 have hik:i+(l.length+1 - i)=l.length+1:=by omega
 obtain ⟨G,hG⟩:∃G,G=grownCap w (l.length+1) cap 109:=⟨_,rfl⟩
 obtain ⟨ROW,hROW⟩:∃ROW:Array Value,ROW=pre.toArray++Builtin.zeroCells z0.cells (l.length+1 - i)++Builtin.zeroCells z0.cells (G - (l.length+1)):=⟨_,rfl⟩
 have hGn:l.length+1≤G:=by rw [hG];exact grownCap_ge w _ _ _
 have hG63:G≤9223372036854775807:=by
  have:=grownCap_le_maxLen w (l.length+1) cap 109 (by unfold maxLen;omega)
  rw [←hG] at this
  unfold maxLen at this
  omega
 have hRl:ROW.size=G * 3:=by
  rw [hROW]
  simp [Builtin.zeroCells,e6,hql]
  omega
 have hrz:∀ty,(Builtin.append_ #[34, 3] ty #[.slice (some ⟨g,0,none⟩) i cap, .int .i64 ((l.length:Int)+1 - (i:Int))]).run Tryz.prog w=
     .ok (.slice (some ⟨w.heap.size,0,none⟩) (l.length+1) G) (w.drew.alloc (.cells ROW 109)):=fun ty=>by
  have h:=Lib.run_append_grow_zeros w 34 3 ty 109 i0 z0 .i64 .i64 Tryz.underlying34 Tryz.underlying3 e2 e3 (some ⟨g,0,none⟩) i cap pre hold (l.length+1 - i) (by omega) (by omega) (by omega) (by omega) (by rw [e5];omega) (by rw [e5,hik];exact growslice_fits (by omega) (by omega))
  rw [hik] at h
  rw [hkk,hROW,hG]
  exact h
 obtain ⟨W1,hW1⟩:∃W1,W1=w.drew.alloc (.cells ROW 109):=⟨_,rfl⟩
 rw [←hW1] at hrz
 have hN:∀j,j<G * 3→(W1.cell? ⟨w.heap.size,j,none⟩).isSome=true:=fun j hj=>by
  rw [hW1,World.cell?_alloc_at (w:=w.drew) ROW _ w.heap.size j rfl,Array.getElem?_eq_getElem (by omega)];rfl
 have hNp:∀j u,pre[j]?=some u→W1.cell? ⟨w.heap.size,j,none⟩=some u:=fun j u hj=>by
  have hj' :=(List.getElem?_eq_some_iff.1 hj).1
  rw [hW1,World.cell?_alloc_at (w:=w.drew) ROW _ w.heap.size j rfl,hROW,Array.getElem?_append_left (by simp;omega),Array.getElem?_append_left (by simp;omega)]
  simpa using hj
 have hNf:∀j,W1.frozen? ⟨w.heap.size,j,none⟩=false:=fun j=>by rw [hW1];exact World.frozen?_alloc_at (w:=w.drew) ROW _ w.heap.size j rfl
 have hOb:∀b j v,b<w.heap.size→w.cell? ⟨b,j,none⟩=some v→W1.cell? ⟨b,j,none⟩=some v:=fun b j v hb h=>by rw [hW1,World.cell?_alloc_past (w:=w.drew) _ b j hb];exact h
 have hcpA:∀ty dc,(Builtin.copy_ #[34, 34] ty #[.slice (some ⟨w.heap.size,i * 3,none⟩) (l.length+1 - i) dc, .slice (some ⟨vb,0,none⟩) 1 1]).run Tryz.prog W1= .ok (goInt (Nat.min 1 (l.length+1 - i))) (W1.setCells w.heap.size (i * 3) f.cells):=fun ty dc=>
  zE9 W1 _ _ ty 109 3 w.heap.size (i * 3) _ dc ⟨vb,0,none⟩ 1 1 f.cells Tryz.underlying34 yJ3 (by rw [show Nat.min 1 (l.length+1 - i)=1 by simp only [Nat.min_def];split <;> omega];rfl)
   (fun j v hj=>by rw [Addr.add_lit,Nat.zero_add];exact hOb _ _ _ hvw (hxc j v hj))
   (fun j hj=>by rw [Change.cells_len] at hj;exact hN _ (by omega)) (fun j hj=>hNf _) (zR8 f)
 obtain ⟨W2,hW2⟩:∃W2,W2=W1.setCells w.heap.size (i * 3) f.cells:=⟨_,rfl⟩
 rw [←hW2] at hcpA
 have hcpB:∀ty dc sc,(Builtin.copy_ #[34, 34] ty #[.slice (some ⟨w.heap.size,(i+1) * 3,none⟩) (l.length - i) dc, .slice (some ⟨g,i * 3,none⟩) (l.length - i) sc]).run Tryz.prog W2.drew= .ok (goInt (Nat.min (l.length - i) (l.length - i))) (W2.drew.setCells w.heap.size ((i+1) * 3) post):=fun ty dc sc=>
  zE9 W2.drew _ _ ty 109 3 w.heap.size ((i+1) * 3) _ dc ⟨g,i * 3,none⟩ _ sc post Tryz.underlying34 yJ3 (by rw [hpl,show Nat.min (l.length - i) (l.length - i)=l.length - i by simp])
   (fun j v hj=>by
    rw [Addr.add_lit]
    show W2.cell? _=_
    rw [hW2,yE3 _ _ _ (by omega)]
    exact hOb _ _ _ hgw (hpc j v hj))
   (fun j hj=>by
    show (W2.cell? _).isSome=true
    rw [hW2]
    exact isSome_setCells w.heap.size f.cells (i * 3) W1 (fun t ht=>by rw [Change.cells_len] at ht;exact hN _ (by omega)) _ (hN _ (by omega)))
   (fun j hj=>by
    show W2.frozen? _=false
    rw [hW2,World.frozen?_setCells];exact hNf _) hp1
 obtain ⟨W3,hW3⟩:∃W3,W3=W2.drew.setCells w.heap.size ((i+1) * 3) post:=⟨_,rfl⟩
 rw [←hW3] at hcpB
 have HFIN:Hid (W3.ownsRow base 109 3 (.slice (some ⟨w.heap.size,0,none⟩) (l.length+1) G) (l.take i++f::l.drop i).length ((l.take i++f::l.drop i).flatMap Change.cells)∧Below base w W3):=by
  refine hid ⟨?_,?_⟩
  · refine yI9 (by rw [hW3];refine Blk.sets _ _ (Blk.drew ?_);rw [hW2];refine Blk.sets _ _ ?_;rw [hW1];exact ⟨ROW,(by show (w.heap.push (Obj.cells ROW 109))[w.heap.size]?=some (Obj.cells ROW 109);simp),hRl⟩) hbase (by simp;omega) (by simp;omega) hG63 (zC2 (k:=3) (fun _=>rfl) _) ?_
    rw [yW1,←hpost,←hpre]
    have R:=xU3 (w:=W1) (g:=w.heap.size) pre f.cells post hNp (fun j hj=>hN _ (by rw [hql,hpl,Change.cells_len] at hj;omega))
    rw [hql,Change.cells_len,show i * 3+3=(i+1) * 3 by omega,←hW2] at R
    rw [hW3,←drew_setCells]
    exact R
  · rw [hW3]
    refine zF8 hbase _ _ _ (Below.drew ?_)
    rw [hW2]
    refine zF8 hbase _ _ _ ?_
    rw [hW1]
    exact (Below.refl _ _).drew.alloc hbase _
 have HRZ:=hid hrz
 have HA:=hid hcpA
 have HB:=hid hcpB
 have hw1:IntKind.i64.wrap ((i:Int)+1)=(i:Int)+1:=by rw [IntKind.wrap_i64];omega
 have hz2:¬((i:Int)=(l.length:Int)):=by omega
 have hz3:(cap:Int)<(l.length:Int)+1:=by omega
 have hb1:(0:Int)≤(i:Int)+1:=by omega
 have htn:((i:Int)+1).toNat=i+1:=by omega
 have hb3:(i:Int)≤(l.length:Int)+1:=by omega
 have hb5:i≤l.length:=by omega
 have hb6:i≤cap:=by omega
 have hci:¬(cap=i):=by omega
 have hGi:¬(G=i):=by omega
 have hGim:¬(G=i+1):=by omega
 have mixed: Tryz.prog.follows .mixedOrders=true:=by kernel_rfl
 clear hcell hsome hfro hsh hx hxc hvw e1 e2 e3 e4 e5 e6 e7 e8 hpre hql hqc hpost hpl hpc hp1 hold hkk hik hG hROW hRl hrz hW1 hN hNp hNf hOb hcpA hW2 hcpB hW3 ho hlen hroom hb hgw
 go_enter Tryz.func135, Tryz.ntmps135
 go_wp2_with (first
  | (at_builtin;refine Lib.wpList_append_run _ rfl _ _ _ _ rfl _ _ rfl rfl _ _ (HRZ.out _) ?_)
  | (simp only [HA.out]))
 go_region_law_o (refine step_copy_runI rfl _ _ 34 34 rfl (.slice (some ⟨w.heap.size,(i+1) * 3,none⟩) (l.length - i) (G - (i+1))) (.slice (some ⟨g,i * 3,none⟩) (l.length - i) (cap - i)) (by simp [Act.eval,Act.put]) (by simp [Act.eval,Act.put]) (HB.out 3 (G - (i+1)) (cap - i)) ?_)
 go_wp2_with fail
 go_ret
 exact ⟨_,rfl,HFIN.out⟩

theorem xJ3 (base:Nat)(v:Value)(l:List Change)(f:Change)(i:Nat)(vb:Nat)(vt:TypeId)(w:World)(ho:w.ownsRow base 109 3 v l.length (l.flatMap Change.cells))(hl:l.length≤1000)(hi:i≤l.length)
 (hbase:base≤w.heap.size) (hvb:v.ownBlock≠some vb) (hx:w.heap[vb]?=some (.cells #[.string f.key, .string f.val, .bool f.gone] vt (0,0))):
 Calls Tryz.prog 135 #[v, .int .i64 i, .slice (some ⟨vb,0,none⟩) 1 1] w fun e w' =>∃v',e= .returned v' ∧w'.ownsRow base 109 3 v' (l.take i++f::l.drop i).length ((l.take i++f::l.drop i).flatMap Change.cells)∧Below base w w' :=by
 by_cases h:i=l.length
 · subst h
   rw [vF0]
   exact yR5 base v l f vb vt w ho hl hbase hx
 · obtain ⟨g,cap,rfl⟩:∃g cap,v= .slice (some ⟨g,0,none⟩) l.length cap:=by
    rcases ho.2 with ⟨_,h⟩ | ⟨g,cap,_,h,_⟩
    · omega
    · exact ⟨g,cap,h⟩
   by_cases hroom:l.length+1≤cap
   · refine yK4 base g cap l f i vb vt w ho hl (by omega) hroom ?_ hx
     rintro rfl;exact hvb rfl
   · have:=(zK9 ho).2.2.1
     exact yN3 base g cap l f i vb vt w ho hl (by omega) (by omega) hbase hx
end Go.Proofs.YtggpodlecljcbabGreatDoor
