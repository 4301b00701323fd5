/- The walks of image.Changes: the search, the sort. -/
import Derived.Test.YtggpodlecljcbabGreatDoorShelfCmp
import Derived.Lib.SortBridge
import Derived.Deep.RegionLaw
import Derived.Deep.CutRange
import Derived.Test.YtggpodlecljcbabGreatDoorKI
import Derived.Test.YtggpodlecljcbabGreatDoorKSI
import Derived.Test.YtggpodlecljcbabGreatDoorKI3
namespace Go.Proofs.YtggpodlecljcbabGreatDoor
set_option linter.unusedSimpArgs false
set_option linter.unusedVariables false
set_option maxRecDepth 100000
set_option maxHeartbeats 64000000
open Lib (hid)
open Go.RowKit Go.Sort
theorem xX3 (f:Change)(name:ByteArray)(w:World):
 Calls Tryz.prog 106 #[.agg #[.string f.key, .string f.val, .bool f.gone], .string name] w fun e w' =>e= .returned (.int .i64 (xJ1 f.key name))∧Below w.heap.size w w' :=by
 have C:=fun W=> Tryz.strings_Compare f.key name W
 have B1:=zA0 w (.cells #[.string f.key, .string f.val, .bool f.gone] 109)
 have HB1:=hid B1
 clear B1
 go_enter Tryz.func106, Tryz.ntmps106
 go_wp2_with fail
 refine (C _).mono ?_
 rintro e w2 ⟨rfl,hb2⟩
 go_wp2_with fail
 go_ret
 exact ⟨rfl,HB1.out⟩
theorem yI3 (va:Value)(l:List Change)(name:ByteArray)(w:World)(ha:Changes w va l)(hl:l.length≤1000)(hr:RisesX l):
 Calls Tryz.prog 108 #[va, .string name, .func (.func 106) #[] #[]] w (yS1 l name w):=by
 obtain ⟨ao,ca,rfl,hca,hca'⟩:=ha.parts
 have HA:=hid ha
 have HR:=hid hr
 clear ha hr
 go_enter Tryz.func108, Tryz.ntmps108
 go_wp2_with fail
 go_loopw [9,10] (fun x y wr=>∃i j:Nat,i≤j∧j≤l.length∧x= .int .i64 i∧y= .int .i64 j∧(∀t,(ht:t<l.length)→t<i→bLt l[t].key name=true)∧(∀t,(ht:t<l.length)→j≤t→bLt l[t].key name=false)∧Below w.heap.size w wr) (fun x y _=>(intOf y).toNat - (intOf x).toNat)
 case atStart=>exact ⟨0,l.length,Nat.zero_le _,Nat.le_refl _,rfl,rfl,fun t _ h=>absurd h (by omega),fun t h1 h2=>absurd h1 (by omega),Below.refl _ _⟩
 case round=>
  obtain ⟨i,j,hij,hj,rfl,rfl,h1,h2,hbw⟩:=hrel
  have H1:=hid h1
  have H2:=hid h2
  clear h1 h2
  by_cases hlt:i<j
  · have hmj:(i+j) / 2<j:=by omega
    have him:i≤(i+j) / 2:=by omega
    obtain ⟨ba,oa,rfl,hlb,x0,x1,x2⟩:=Changes.cell (HA.out.below hbw) ((i+j) / 2) (by omega)
    have C:=hid fun W=>xX3 (l[(i+j) / 2]'(by omega)) name W
    have HW:=hid hbw
    clear hbw
    by_cases hc:xJ1 (l[(i+j) / 2]'(by omega)).key name<0
    · have HL:=hid ((yI1 _ _).mp hc)
      go_wp2_with fail
      refine (C.out _).mono ?_
      rintro e w2 ⟨rfl,hb2⟩
      have HB2:=hid (two HW.out hb2)
      clear hb2 x0 x1 x2
      go_wp2_with fail
      go_roundw
      case rel=>exact ⟨(i+j) / 2+1,j,by omega,hj,by congr 1,rfl,fun t ht hti=>HR.out.mono name t ((i+j) / 2) (by omega) (by omega) HL.out,H2.out,HB2.out⟩
      case measure=>simp [intOf];omega
    · have HL:Hid (bLt (l[(i+j) / 2]'(by omega)).key name=false):=by
       refine hid ?_
       rw [←Bool.not_eq_true,←yI1];exact hc
      go_wp2_with fail
      refine (C.out _).mono ?_
      rintro e w2 ⟨rfl,hb2⟩
      have HB2:=hid (two HW.out hb2)
      clear hb2 x0 x1 x2
      go_wp2_with fail
      go_roundw
      case rel=>
       refine ⟨i,(i+j) / 2,by omega,by omega,rfl,by congr 1,H1.out,?_,HB2.out⟩
       intro t ht hti
       cases hb:bLt l[t].key name
       · rfl
       · have:=HR.out.mono name ((i+j) / 2) t hti ht hb
         rw [HL.out] at this;cases this
      case measure=>simp [intOf];omega
  · have hij2:i=j:=by omega
    subst hij2
    have HK:=hid (yZ0 name l i (by omega) H1.out H2.out)
    by_cases hil:i<l.length
    · obtain ⟨ba,oa,rfl,hlb,x0,x1,x2⟩:=Changes.cell (HA.out.below hbw) i hil
      have C:=hid fun W=>xX3 l[i] name W
      have HW:=hid hbw
      clear hbw
      go_wp2_with fail
      refine (C.out _).mono ?_
      rintro e w2 ⟨rfl,hb2⟩
      have HB2:=hid (two HW.out hb2)
      clear hb2 x0 x1 x2
      go_wp2_with fail
      refine bodyPost_ret (v:= .tuple #[.int .i64 i, .bool (xJ1 l[i].key name==0)]) (by simp [results, Tryz.results108,go_sem]) rfl ?_
      refine ⟨?_,HB2.out⟩
      have e2:zT1 l name (zH3 l name)=(xJ1 l[i].key name==0):=by
       rw [HK.out,zS3 l name i hil]
       have:=vH4 l[i].key name
       cases h1:(l[i].key.toList==name.toList) <;> cases h2:(xJ1 l[i].key name==0) <;> simp_all
      rw [e2,HK.out]
    · have HW:=hid hbw
      clear hbw
      go_wp2_with fail
      refine bodyPost_ret (v:= .tuple #[.int .i64 i, .bool false]) (by simp [results, Tryz.results108,go_sem]) rfl ?_
      refine ⟨?_,HW.out⟩
      rw [HK.out,yQ8 l name i hil]

instance: Inhabited Change:=⟨⟨⟨#[]⟩,⟨#[]⟩,false⟩⟩
theorem xM1 (l:List Change):flatK Change.cells 3 l.toArray=(l.flatMap Change.cells).toArray:=by
 refine ext_get! (by simp [zC2 Change.cells_len]) fun t ht=>?_
 have ht' :t<l.length * 3:=by simpa using ht
 rw [get_flatK _ _ _ t (by simpa using ht')]
 have h3:t / 3<l.length:=by omega
 have h:=yM5 Change.cells_len l (t / 3) h3 (t % 3) (by omega)
 have e:t / 3 * 3+t % 3=t:=by omega
 rw [e] at h
 have e1:(l.toArray)[t / 3]! =l[t / 3]:=by simp [h3]
 rw [e1,List.getElem!_eq_getElem?_getD,←h]
 simp
theorem xB6 (x y:Change)(W:World):Calls Tryz.prog 110 #[.agg #[.string x.key, .string x.val, .bool x.gone], .agg #[.string y.key, .string y.val, .bool y.gone]] W fun e w' =>e= .returned (.int .i64 (xJ1 x.key y.key))∧∃q os',w' =grow (W.drewN q) os' :=by
 have C:=fun W=> Tryz.strings_Compare x.key y.key W
 have HG:Hid ((W.alloc (.cells #[.string x.key, .string x.val, .bool x.gone] 109)).alloc (.cells #[.string y.key, .string y.val, .bool y.gone] 109)=grow (W.drewN 0) (#[.cells #[.string x.key, .string x.val, .bool x.gone] 109]++ #[.cells #[.string y.key, .string y.val, .bool y.gone] 109])):=hid (by rw [alloc_eq_grow,alloc_eq_grow,grow_grow];rfl)
 go_enter Tryz.func110, Tryz.ntmps110
 go_wp2_with fail
 refine (C _).mono ?_
 rintro e w2 ⟨rfl,rfl⟩
 go_wp2_with fail
 go_ret
 exact ⟨rfl,0,_,HG.out⟩
def cmpC (x y:Change):Int:=xJ1 x.key y.key
theorem yQ2 (x y:Change):ltOf cmpC x y=bLt x.key y.key:=by
 unfold ltOf cmpC
 cases h:bLt x.key y.key
 · refine decide_eq_false (fun e=>?_)
   rw [(yI1 _ _).1 e] at h
   cases h
 · exact decide_eq_true ((yI1 _ _).2 h)
theorem uJ9 :SWO (ltOf cmpC) where
 irrefl x:=by rw [yQ2];exact zJ6 _
 trans x y z h1 h2:=by rw [yQ2] at *;exact zG2 h1 h2
 ntrans x y z h1 h2:=by
  rw [yQ2] at *
  cases h3:bLt x.key z.key
  · rfl
  · cases h4:bLt y.key x.key
    · have:=xH2 h1 h4
      rw [this,h2] at h3
      cases h3
    · rw [zG2 h4 h3] at h2
      cases h2
theorem yX4 {B b:Nat}{a:World}(hb:B≤b):∀(vs:List Value) (o:Nat) (w:World),Below B a w→Below B a (w.setCells b o vs)
 | [],_,_,h=>h
 | v::r,o,w,h=>yX4 hb r (o+1) _ (h.setCell hb v)
theorem xZ6 (base:Nat)(v:Value)(l:List Change)(w:World)(ho:w.ownsRow base 109 3 v l.length (l.flatMap Change.cells))(hb:base≤w.heap.size)(hl:l.length≤1000000):
 Calls Tryz.prog 109 #[v, .func (.func 110) #[] #[]] w fun e w' =>e= .returned (.tuple #[])∧∃m:List Change,m.Perm l∧m.Pairwise (fun x y=>bLt y.key x.key=false)∧w'.ownsRow base 109 3 v m.length (m.flatMap Change.cells)∧Below base w w' :=by
 rcases ho.2 with ⟨rfl,h0⟩ | ⟨g,cap,cur,rfl,_⟩
 · have hm0:l= []:=List.eq_nil_of_length_eq_zero (by omega)
   subst hm0
   have C:=AnyF.slices_SortFunc_none Tryz.sortChanges none 0 (.func (.func 110) #[] #[]) w
   change Calls Tryz.prog 109 _ _ _ at C
   refine C.mono ?_
   rintro e w' ⟨rfl,rfl⟩
   exact ⟨rfl, [],List.Perm.refl _,List.Pairwise.nil,World.ownsRow_nil _ _ _ _,Below.refl _ _⟩
 · have hlt:=ho.lt g rfl
   have hH:HoldsK Change.cells 3 w g 0 l.toArray:=by
    unfold HoldsK
    rw [xM1]
    intro j hj
    have hj' :j<(l.flatMap Change.cells).length:=by simpa using hj
    have hc:=yP4 ho j hj'
    refine ⟨?_,yD0 ho _⟩
    rw [Nat.zero_add,hc]
    congr 1
    show _=id ((l.flatMap Change.cells).toArray)[j]!
    simp only [id,List.getElem!_toArray]
    rw [getElem!_pos _ j hj']
   have eg:∀args w,(callFunc 110 args).run Tryz.prog w= .ok (.enter 110 args) w:=enters_of Tryz.func110 (by kernel_rfl) rfl
   have C:=AnyQ.slices_SortFunc Tryz.sortChanges 3 Tryz.isAgg109 Tryz.sizeOf109 Change.cells (fun _=>rfl) (fun x u hu=>by simp [Change.cells] at hu;rcases hu with rfl | rfl | rfl <;> rfl) cmpC uJ9 110 #[] g 0 cap l.toArray w eg (fun _ _ _ _ x y=>xB6 x y _) hH hlt.2 (by simp;omega)
   change Calls Tryz.prog 109 _ _ _ at C
   rw [List.size_toArray] at C
   refine C.mono ?_
   rintro e w' ⟨rfl,d',n,os,hp,hs,rfl⟩
   obtain ⟨hp1,_,hp3⟩:=hp
   have hsz:d'.size=l.length:=by simpa using hp1
   obtain ⟨m,rfl⟩:∃m:List Change,d' =m.toArray:=⟨d'.toList,by simp⟩
   have hml:m.length=l.length:=by simpa using hsz
   have hperm:m.Perm l:=by
    have e1:(m.toArray.extract 0 l.length).toList=m:=by rw [Array.toList_extract,List.extract_eq_take_drop];simp;exact List.take_of_length_le (by omega)
    have e2:(l.toArray.extract 0 l.length).toList=l:=by rw [Array.toList_extract,List.extract_eq_take_drop];simp
    rw [e1,e2] at hp3
    exact hp3
   refine ⟨rfl,m,hperm,?_,?_⟩
   · refine List.pairwise_iff_getElem.2 (fun i j hi hj hij=>?_)
     have:=hs i j (Nat.zero_le _) hij (by omega)
     rw [yQ2] at this
     simpa [hi,hj] using this
   · have e1:sortWorldK Change.cells 3 w g 0 n m.toArray os=grow ((w.drewN n).setCells g 0 (m.flatMap Change.cells)) os:=by
      unfold sortWorldK putRowK
      rw [xM1,Go.Lib.putRow_eq_setCells id w g 0 (flatK Change.cells 3 l.toArray) (m.flatMap Change.cells) n hH (by simp [zC2 Change.cells_len,hml]),List.map_id]
     rw [e1]
     have h0:(w.drewN n).ownsRow base 109 3 (.slice (some ⟨g,0,none⟩) l.length cap) l.length (l.flatMap Change.cells):=ho
     have h1:=yP3 h0 (m.flatMap Change.cells) (by simp [zC2 Change.cells_len,hml])
     rw [hml]
     have hb2:Below ((w.drewN n).setCells g 0 (m.flatMap Change.cells)).heap.size ((w.drewN n).setCells g 0 (m.flatMap Change.cells)) (grow ((w.drewN n).setCells g 0 (m.flatMap Change.cells)) os):=below_regrown _ _ os
     refine ⟨zF4 h1 (fun k hk=>hb2.block k (h1.lt k hk).2),?_⟩
     exact (yX4 hlt.1 (m.flatMap Change.cells) 0 (w.drewN n) (B:=base) (a:=w) ⟨rfl,rfl,rfl,Nat.le_refl _,fun _ _=>rfl⟩).trans (hb2.mono (by have:=(h1.lt g rfl);omega))
open Go.RowKit Go.Sort
theorem uB5 (a b:List Change)(k:Nat)(h:k<a.length):xR2 (a.take (k+1)) b=if yM3 b a[k].key=true then xR2 (a.take k) b else xR2 (a.take k) b++ [yT8 a[k].key]:=by
 unfold xR2
 rw [List.take_succ_eq_append_getElem h,List.filter_append,List.map_append]
 by_cases hs:yM3 b a[k].key=true
 · rw [if_pos hs];simp [hs]
 · rw [if_neg hs];simp [hs]
theorem uB3 (a b:List Change)(k:Nat)(h:k<b.length):vA6 a (b.take (k+1))=if yT6 a b[k]=true then vA6 a (b.take k)++ [b[k]] else vA6 a (b.take k):=by
 unfold vA6
 rw [List.take_succ_eq_append_getElem h,List.filter_append]
 by_cases hs:yT6 a b[k]=true
 · rw [if_pos hs];simp [hs]
 · rw [if_neg hs];simp [hs]
theorem uC6 {a:List Change}{c:Change}(h:yM3 a c.key=false):yT6 a c=true:=by unfold yT6;rw [h];rfl
theorem uC5 {a:List Change}{c:Change}(h:yM3 a c.key=true)(hr:zH3 a c.key<a.length):yT6 a c= !zV2 (a[zH3 a c.key]).key (a[zH3 a c.key]).val (a[zH3 a c.key]).gone c.key c.val c.gone:=by
 unfold yT6
 rw [h,List.getElem?_eq_getElem hr]
 rfl
theorem xL3 {w:World}{base:Nat}{v:Value}{l m:List Change}{c:Change}(h:w.ownsRow base 109 3 v (l.length+1) (l.flatMap Change.cells++c.cells))(hm:m=l++ [c]):w.ownsRow base 109 3 v m.length (m.flatMap Change.cells):=by
 subst hm
 rw [List.length_append,List.flatMap_append]
 simpa using h
theorem xP4 (va vb:Value)(a b:List Change)(w:World)(ha:Changes w va a)(hb:Changes w vb b)(hla:a.length≤200)(hlb:b.length≤200)(hra:RisesX a)(hrb:RisesX b):
 Calls Tryz.prog 65 #[va,vb] w fun e w' =>∃v,e= .returned v∧w'.ownsRow w.heap.size 109 3 v (zH9 a b).length ((zH9 a b).flatMap Change.cells)∧Below w.heap.size w w' :=by
 obtain ⟨ao,ac,rfl,hac,hac'⟩:=ha.parts
 obtain ⟨bo,bc,rfl,hbc,hbc'⟩:=hb.parts
 have HA:=hid ha
 have HB:=hid hb
 have HRA:=hid hra
 have HRB:=hid hrb
 have CA:Hid (∀name W,Below w.heap.size w W→Calls Tryz.prog 108 #[.slice ao a.length ac, .string name, .func (.func 106) #[] #[]] W (yS1 a name W)):=hid (fun name W h=>yI3 _ a name W (ha.below h) (by omega) hra)
 have CB:Hid (∀name W,Below w.heap.size w W→Calls Tryz.prog 108 #[.slice bo b.length bc, .string name, .func (.func 106) #[] #[]] W (yS1 b name W)):=hid (fun name W h=>yI3 _ b name W (hb.below h) (by omega) hrb)
 clear ha hb hra hrb
 go_enter Tryz.func65, Tryz.ntmps65
 go_wp2_with fail
 go_loopw [5,17] (fun v iv wr=>∃(k:Nat) (O:List Change),k≤a.length∧O=xR2 (a.take k) b∧O.length≤k∧iv= .int .i64 k∧wr.ownsRow w.heap.size 109 3 v O.length (O.flatMap Change.cells)∧Below w.heap.size w wr) (fun _ iv _=>a.length - (intOf iv).toNat)
 case atStart=>exact ⟨0, [],Nat.zero_le _,rfl,Nat.le_refl _,rfl,World.ownsRow_nil _ _ _ _,Below.refl _ _⟩
 case round=>
  obtain ⟨k,O,hk,hO,hol,rfl,ho,hbw⟩:=hrel
  obtain ⟨lo,lc,rfl,hlc,hlc'⟩:=zI9 ho
  have HO:=hid ho
  have HBW:=hid hbw
  have HOE:=hid hO
  clear ho hbw hO
  by_cases hlt:k<a.length
  · obtain ⟨cb,cof,rfl,hlb2,x0,x1,x2⟩:=Changes.cell (Rd.below HA.out HBW.out) k hlt
    have HN:=hid (uB5 a b k hlt)
    obtain ⟨c,hce⟩:∃c,c=a[k]:=⟨_,rfl⟩
    rw [←hce] at x0 x1 x2 HN
    obtain ⟨W3,hW3⟩:∃W3,W3=wr.alloc (.cells #[.string c.key, .string c.val, .bool c.gone] 109):=⟨_,rfl⟩
    have HB3:Hid (Below wr.heap.size wr W3):=hid (by rw [hW3];exact zA0 _ _)
    have HC3:Hid (∀W,Below W3.heap.size W3 W→W.cell? ⟨wr.heap.size,0,none⟩=some (.string c.key)):=hid fun W hb=>zA1 hb (by rw [hW3];simp)
    have CS:=hid (CB.out c.key W3 (two HBW.out HB3.out))
    have HW3:=hid hW3
    clear hce hW3
    go_wp2_with fail
    rw [←HW3.out]
    clear x0 x1 x2 hlb2
    refine CS.out.mono ?_
    rintro e wA ⟨rfl,hba⟩
    have HBA:=hid hba
    have HBK:=hid (two HBW.out (two HB3.out hba))
    have HOA:=hid (zE2 HO.out (two HB3.out hba))
    have hx0:=HC3.out wA hba
    have hzA:=HBK.out.size
    obtain ⟨R,hR⟩:∃R,R=zH3 b c.key:=⟨_,rfl⟩
    obtain ⟨X,hX⟩:∃X,X=zT1 b c.key R:=⟨_,rfl⟩
    rw [←hR,←hX]
    have HX:Hid (yM3 b c.key=X):=hid (by unfold yM3;rw [hX,hR])
    clear hba hX hR
    cases X
    · go_wp2_with (at_builtin;refine zB8 zN6 rfl _ _ rfl w.heap.size _ _ _ rfl (HOA.out.alloc _) ⟨wA.heap.size,0,none⟩ 1 1 [.string c.key, .string ⟨#[]⟩, .bool true] rfl rfl ?c1 ?c2 ?c3 ?c4 ?_)
      case c1=>exact zK5
      case c2=>intro u hu;simp at hu;rcases hu with rfl | rfl | rfl <;> rfl
      case c3=>omega
      case c4=>simp;omega
      intro v3 w3 ho3 hg3
      have HO3:Hid (w3.ownsRow w.heap.size 109 3 v3 (O++ [yT8 c.key]).length ((O++ [yT8 c.key]).flatMap Change.cells)):=hid (xL3 (c:=yT8 c.key) ho3 rfl)
      have HBZ:=hid (zB0 (two HBK.out (zA0 wA (.cells #[.string c.key, .string ⟨#[]⟩, .bool true] 109))) (HOA.out.alloc _) hg3 (Nat.le_refl _))
      clear ho3 hg3 hx0
      go_wp2_with fail
      go_roundw
      case rel=>exact ⟨k+1,O++ [yT8 c.key],by omega,by rw [HN.out,HX.out,if_neg (by simp),HOE.out],by simp;omega,by go_num,HO3.out,HBZ.out⟩
      case measure=>simp [intOf];omega
    · go_wp2_with fail
      go_roundw
      case rel=>exact ⟨k+1,O,by omega,by rw [HN.out,HX.out,if_pos rfl,HOE.out],by omega,by go_num,HOA.out,HBK.out⟩
      case measure=>simp [intOf];omega
  · obtain rfl:k=a.length:=by omega
    have HOE1:Hid (O=xR2 a b):=hid (by rw [HOE.out,List.take_length])
    clear HOE
    obtain ⟨wx,hwx⟩:∃wx:World,wx=wr:=⟨_,rfl⟩
    subst hwx
    have HBX:=HBW
    have HOX:=HO
    clear HBW HO
    go_wp2_with fail
    go_loopw [5,40] (fun v iv wr=>∃(k:Nat) (M:List Change),k≤b.length∧M=xR2 a b++vA6 a (b.take k)∧M.length≤200+k∧iv= .int .i64 k∧wr.ownsRow w.heap.size 109 3 v M.length (M.flatMap Change.cells)∧Below w.heap.size w wr) (fun _ iv _=>b.length - (intOf iv).toNat)
    case atStart=>exact ⟨0,O,Nat.zero_le _,by rw [HOE1.out];simp [vA6],by omega,rfl,HOX.out,HBX.out⟩
    case round=>
     obtain ⟨k,M,hk,hM,hol2,rfl,ho,hbw⟩:=hrel
     obtain ⟨lo2,lc2,rfl,hlc2,hlc2'⟩:=zI9 ho
     have HO:=hid ho
     have HBW:=hid hbw
     have HME:=hid hM
     clear ho hbw hM
     by_cases hlt:k<b.length
     · obtain ⟨cb,cof,rfl,hlb2,x0,x1,x2⟩:=Changes.cell (Rd.below HB.out HBW.out) k hlt
       have HN:=hid (uB3 a b k hlt)
       obtain ⟨c,hce⟩:∃c,c=b[k]:=⟨_,rfl⟩
       rw [←hce] at x0 x1 x2 HN
       obtain ⟨W3,hW3⟩:∃W3,W3=wr.alloc (.cells #[.string c.key, .string c.val, .bool c.gone] 109):=⟨_,rfl⟩
       have HB3:Hid (Below wr.heap.size wr W3):=hid (by rw [hW3];exact zA0 _ _)
       have HC3:Hid (∀W,Below W3.heap.size W3 W→W.cell? ⟨wr.heap.size,0,none⟩=some (.string c.key)∧W.cell? ⟨wr.heap.size,1,none⟩=some (.string c.val)∧W.cell? ⟨wr.heap.size,2,none⟩=some (.bool c.gone)):=hid fun W hb=>⟨zA1 hb (by rw [hW3];simp),zA1 hb (by rw [hW3];simp),zA1 hb (by rw [hW3];simp)⟩
       have CS:=hid (CA.out c.key W3 (two HBW.out HB3.out))
       have HW3:=hid hW3
       clear hce hW3
       go_wp2_with fail
       rw [←HW3.out]
       clear x0 x1 x2 hlb2
       refine CS.out.mono ?_
       rintro e wA ⟨rfl,hba⟩
       have HBA:=hid hba
       have HBK:=hid (two HBW.out (two HB3.out hba))
       have HOA:=hid (zE2 HO.out (two HB3.out hba))
       obtain ⟨R,hR⟩:∃R,R=zH3 a c.key:=⟨_,rfl⟩
       obtain ⟨X,hX⟩:∃X,X=zT1 a c.key R:=⟨_,rfl⟩
       obtain ⟨Y,hY⟩:∃Y,Y=yT6 a c:=⟨_,rfl⟩
       rw [←hR,←hX]
       have HX:Hid (yM3 a c.key=X):=hid (by unfold yM3;rw [hX,hR])
       have HXX:=hid hX
       have HR:=hid hR
       have HY:=hid hY
       clear hba hX hR hY
       go_upto_region 14 with fail
       go_cut [61] from 52 to 61 (fun s61 wx=>s61= .bool Y∧Below wA.heap.size wA wx)
       case first=>
        obtain ⟨z0,z1,z2⟩:=HC3.out wA HBA.out
        replace z0:=zA4 z0
        replace z1:=zA4 z1
        replace z2:=zA4 z2
        cases X
        · have HYT:Hid (Y=true):=hid (by rw [HY.out];exact uC6 HX.out)
          refine zA6 (by kernel_rfl) (by kernel_rfl) ?_
          repeat (go_big_quiet_step (fail))
          refine wpQuiet_nil ?_
          intro wx hbx
          have HBX:=hid hbx
          clear hbx
          go_wp2_with fail
          go_meet
          exact ⟨by rw [HYT.out],HBX.out⟩
        · have hrl:R<a.length:=yB9 HXX.out.symm
          have HYT:Hid (Y= !zV2 a[R].key a[R].val a[R].gone c.key c.val c.gone):=hid (by
           obtain rfl:=HR.out
           rw [HY.out];exact uC5 HX.out hrl)
          obtain ⟨ab,aof,rfl,hlab,p0,p1,p2⟩:=Changes.cell (Rd.below HA.out HBK.out) R hrl
          obtain ⟨p,hp⟩:∃p,p=a[R]:=⟨_,rfl⟩
          rw [←hp] at p0 p1 p2 HYT
          replace p0:=zA4 p0
          replace p1:=zA4 p1
          replace p2:=zA4 p2
          clear hp
          refine zA6 (by kernel_rfl) (by kernel_rfl) ?_
          repeat (go_big_quiet_step (fail))
          refine wpQuiet_nil ?_
          intro wx hbx
          have HBX:=hid hbx
          clear hbx
          go_wp2_with fail
          go_meet
          exact ⟨by rw [HYT.out],HBX.out⟩
       case rest=>
       obtain ⟨rfl,hbx⟩:=hcut
       have HBC:=hid (two HBK.out hbx)
       have HOC:=hid (zE2 HOA.out hbx)
       obtain ⟨z0,z1,z2⟩:=HC3.out wc (two HBA.out hbx)
       have hzA:=HBC.out.size
       clear hbx
       cases Y
       · go_wp2_with fail
         go_roundw
         case rel=>exact ⟨k+1,M,by omega,by rw [HN.out,←HY.out,if_neg (by simp),HME.out],by omega,by go_num,HOC.out,HBC.out⟩
         case measure=>simp [intOf];omega
       · go_wp2_with (at_builtin;refine zB8 zN6 rfl _ _ rfl w.heap.size _ _ _ rfl (HOC.out.alloc _) ⟨wc.heap.size,0,none⟩ 1 1 [.string c.key, .string c.val, .bool c.gone] rfl rfl ?c1 ?c2 ?c3 ?c4 ?_)
         case c1=>exact zK5
         case c2=>intro u hu;simp at hu;rcases hu with rfl | rfl | rfl <;> rfl
         case c3=>omega
         case c4=>simp;omega
         intro v3 w3 ho3 hg3
         have HO3:Hid (w3.ownsRow w.heap.size 109 3 v3 (M++ [c]).length ((M++ [c]).flatMap Change.cells)):=hid (xL3 (c:=c) ho3 rfl)
         have HBZ:=hid (zB0 (two HBC.out (zA0 wc (.cells #[.string c.key, .string c.val, .bool c.gone] 109))) (HOC.out.alloc _) hg3 (Nat.le_refl _))
         clear ho3 hg3 z0 z1 z2
         go_wp2_with fail
         go_roundw
         case rel=>exact ⟨k+1,M++ [c],by omega,by rw [HN.out,←HY.out,if_pos rfl,HME.out,List.append_assoc],by simp;omega,by go_num,HO3.out,HBZ.out⟩
         case measure=>simp [intOf];omega
     · obtain rfl:k=b.length:=by omega
       have HME1:Hid (M=xR2 a b++vA6 a b):=hid (by rw [HME.out,List.take_length])
       have CSO:=hid (xZ6 w.heap.size (.slice lo2 M.length lc2) M wr HO.out HBW.out.size (by omega))
       clear HME
       go_wp2_with fail
       refine CSO.out.mono ?_
       rintro e wS ⟨rfl,m,hp,hs,hoS,hbS⟩
       have HP:=hid hp
       have HS:=hid hs
       have HOS:=hid hoS
       have HBS:=hid hbS
       have hme:m=zH9 a b:=yV2 HRA.out HRB.out (HME1.out ▸ hp) hs
       have HM:=hid hme
       clear hp hs hoS hbS hme
       go_wp2_with fail
       go_ret
       refine ⟨_,rfl,?_,?_⟩
       · rw [←HM.out];exact HOS.out
       · exact HBW.out.trans HBS.out
end Go.Proofs.YtggpodlecljcbabGreatDoor
