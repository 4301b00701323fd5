/- Plain: chapter 2: files by their names. The walks of chapter 2: are files fine? Plain: files that rise, and the place of a name among them. -/
import Derived.Test.YtggpodlecljcbabGreatDoorShelf
import Derived.Test.YtggpodlecljcbabGreatDoorKB
namespace Go.Proofs.YtggpodlecljcbabGreatDoor
set_option linter.unusedSimpArgs false
set_option linter.unusedVariables false
set_option maxRecDepth 100000
set_option maxHeartbeats 64000000
open Lib (hid)
def bLt (a b:ByteArray):Bool:=Op.bytesLess a.toList b.toList
def bLe (a b:ByteArray):Bool:=Op.bytesLess a.toList b.toList || a.toList==b.toList
def zF2 (prev:Option ByteArray):List File→Nat
 | []=>0
 | f::r=>if zA8 f≠0 then zA8 f else if (match prev with | some p=>bLe f.name p | none=>false) then 3 else zF2 (some f.name) r
def zF1 (l:List File):Nat:=if 8<l.length then 2 else zF2 none l
def yV5 (l:List File)(k:Nat):Option ByteArray:=if k=0 then none else (l[k - 1]?).map File.name
theorem yA2 (l:List File)(k:Nat)(h:k<l.length)(p:Option ByteArray):zF2 p (l.drop k)=if zA8 l[k]≠0 then zA8 l[k] else if (match p with | some p=>bLe l[k].name p | none=>false) then 3 else zF2 (some l[k].name) (l.drop (k+1)):=by
 rw [List.drop_eq_getElem_cons h]
 rfl
theorem xV0 (l:List File)(k:Nat)(h:k<l.length):yV5 l (k+1)=some l[k].name:=by simp [yV5,h]
theorem ff_stop (l:List File)(k n:Nat)(h:k<l.length)(p:Option ByteArray)(hn:zA8 l[k]=n)(h0:n≠0):zF2 p (l.drop k)=n:=by
 rw [yA2 l k h,hn,if_pos h0]
theorem uP8 (l:List File)(k:Nat)(h:k<l.length)(p:ByteArray)(hn:zA8 l[k]=0)(hl:bLe l[k].name p=true):zF2 (some p) (l.drop k)=3:=by
 rw [yA2 l k h,hn,if_neg (by simp)];simp [hl]
theorem uG1 (l:List File)(k:Nat)(h:k<l.length)(p:Option ByteArray)(hn:zA8 l[k]=0)(hl:∀q,p=some q→bLe l[k].name q=false):zF2 p (l.drop k)=zF2 (yV5 l (k+1)) (l.drop (k+1)):=by
 rw [yA2 l k h,hn,if_neg (by simp),xV0 l k h]
 cases p with
 | none=>simp
 | some q=>simp [hl q rfl]
theorem ff_end (l:List File)(k:Nat)(h:¬k<l.length)(p:Option ByteArray):zF2 p (l.drop k)=0:=by
 rw [List.drop_of_length_le (by omega)];rfl
def zC6 (l:List File)(name:ByteArray):Option File:=l.find? (fun f=>f.name.toList==name.toList)
open Go.RowKit Go.Sort

theorem vC7 (va:Value)(l:List File)(w:World)(ha:Files w va l)(hok:∀f∈l,f.ok):
 Calls Tryz.prog 145 #[va] w fun e w' =>e= .returned (zE6 (zF1 l))∧Below w.heap.size w w' :=by
 obtain ⟨ao,ca,rfl,hca,hca'⟩:=ha.parts
 have HA:=hid ha
 have HOK:=hid hok
 clear ha hok
 by_cases hl:l.length≤8
 · have HL:Hid (zF1 l=zF2 none l):=by show zF1 l=_;unfold zF1;rw [if_neg (by omega)]
   go_enter Tryz.func145, Tryz.ntmps145
   go_wp2_with fail
   go_loopw [12] (fun i wr=>∃k:Nat,k≤l.length∧i= .int .i64 k∧zF2 (yV5 l k) (l.drop k)=zF2 none l∧Below w.heap.size w wr) (fun i _=>l.length - (intOf i).toNat)
   case atStart=>exact ⟨0,Nat.zero_le _,rfl,rfl,Below.refl _ _⟩
   case round=>
    obtain ⟨k,hk,rfl,htk,hbw⟩:=hrel
    have HT:=hid htk
    have HW:=hid hbw
    clear htk
    by_cases hlt:k<l.length
    · obtain ⟨ba,oa,rfl,hlb,x0,x1,x2⟩:=Files.cell (HA.out.below hbw) k hlt
      have C:=fun W=>xM2 l[k] W (HOK.out l[k] (List.getElem_mem hlt))
      unfold File.val at C
      have B1:=zA0 wr (.cells #[.string l[k].name, .string l[k].text, .int .i64 l[k].times] 102)
      have HB1:=hid (two HW.out B1)
      clear hbw
      by_cases hf:zA8 l[k]=0
      · rw [hf,zD2] at C
        replace C:=hid C
        cases k with
        | zero=>
         have HN:=hid (uG1 l 0 hlt (yV5 l 0) hf (fun q h=>by cases h))
         clear hf B1
         simp only [Nat.zero_mul,Nat.add_zero] at x0 x1 x2
         go_wp2_with fail
         refine (C.out _).mono ?_
         rintro e w2 ⟨rfl,hb2⟩
         have HB2:=hid (two HB1.out hb2)
         clear hb2 x0 x1 x2
         go_wp2_with fail
         refine zA6 (by kernel_rfl) (by kernel_rfl) ?_
         repeat (go_big_quiet_step (fail))
         refine wpQuiet_nil ?_
         intro w3 hb3
         have HB3:=hid (two HB2.out hb3)
         clear hb3
         go_wp2_with fail
         go_roundw
         case rel=>exact ⟨1,by omega,by go_num,by rw [←HN.out];exact HT.out,HB3.out⟩
         case measure=>simp [intOf];omega
        | succ m=>
         obtain ⟨bb,ob,eb,_,y0,y1,y2⟩:=Files.cell (HA.out.below HW.out) m (by omega)
         simp only [Option.some.injEq,Addr.mk.injEq,and_true] at eb
         obtain ⟨rfl,rfl⟩:=eb
         have hp:=xV0 l m (by omega)
         have hgt:(0:Int)<((m+1:Nat):Int):=by omega
         have hgt' :decide ((0:Int)<((m+1:Nat):Int))=true:=by simp
         have Y0:=hid (zA1 B1 y0)
         by_cases hle:bLe l[m+1].name (l[m]'(by omega)).name=true
         · have HN:=hid (uP8 l (m+1) hlt _ hf hle)
           have hle2:(Op.bytesLess l[m+1].name.toList (l[m]'(by omega)).name.toList || l[m+1].name.toList==(l[m]'(by omega)).name.toList)=true:=hle
           rw [hp] at HT
           clear hf hle hp B1 y0 y1 y2
           go_wp2_with fail
           refine (C.out _).mono ?_
           rintro e w2 ⟨rfl,hb2⟩
           have HB2:=hid (two HB1.out hb2)
           have y0:=zA4 (zA1 hb2 Y0.out)
           have z0:=zA4 (zA1 hb2 (b:=wr.heap.size) (o:=0) (v:= .string l[m+1].name) (by simp))
           clear hb2 x0 x1 x2
           go_wp2_with fail
           refine zA6 (by kernel_rfl) (by kernel_rfl) ?_
           repeat (go_big_quiet_step (fail))
           refine wpQuiet_nil ?_
           intro w3 hb3
           have HB3:=hid (two HB2.out hb3)
           clear hb3
           go_wp2_with fail
           go_ret
           exact ⟨by rw [HL.out,←HT.out,HN.out];rfl,HB3.out⟩
         · have hle1:bLe l[m+1].name (l[m]'(by omega)).name=false:=by simpa using hle
           have HN:=hid (uG1 l (m+1) hlt (yV5 l (m+1)) hf (fun q hq=>by rw [hp] at hq;cases hq;exact hle1))
           have hle2:(Op.bytesLess l[m+1].name.toList (l[m]'(by omega)).name.toList || l[m+1].name.toList==(l[m]'(by omega)).name.toList)=false:=hle1
           clear hf hle hle1 hp B1 y0 y1 y2
           go_wp2_with fail
           refine (C.out _).mono ?_
           rintro e w2 ⟨rfl,hb2⟩
           have HB2:=hid (two HB1.out hb2)
           have y0:=zA4 (zA1 hb2 Y0.out)
           have z0:=zA4 (zA1 hb2 (b:=wr.heap.size) (o:=0) (v:= .string l[m+1].name) (by simp))
           clear hb2 x0 x1 x2
           go_wp2_with fail
           refine zA6 (by kernel_rfl) (by kernel_rfl) ?_
           repeat (go_big_quiet_step (fail))
           refine wpQuiet_nil ?_
           intro w3 hb3
           have HB3:=hid (two HB2.out hb3)
           clear hb3
           go_wp2_with fail
           go_roundw
           case rel=>exact ⟨m+1+1,by omega,by go_num,by rw [←HN.out];exact HT.out,HB3.out⟩
           case measure=>simp [intOf];omega
      · have HN:=hid (ff_stop l k _ hlt (yV5 l k) rfl hf)
        have HE:=hid (zA5 hf)
        rw [zA5 hf] at C
        replace C:=hid C
        clear hf B1
        cases k with
        | zero=>
         simp only [Nat.zero_mul,Nat.add_zero] at x0 x1 x2
         go_wp2_with fail
         refine (C.out _).mono ?_
         rintro e w2 ⟨rfl,hb2⟩
         have HB2:=hid (two HB1.out hb2)
         clear hb2
         go_wp2_with fail
         go_ret
         exact ⟨by rw [HL.out,←HT.out,HN.out,HE.out];rfl,HB2.out⟩
        | succ m=>
         go_wp2_with fail
         refine (C.out _).mono ?_
         rintro e w2 ⟨rfl,hb2⟩
         have HB2:=hid (two HB1.out hb2)
         clear hb2
         go_wp2_with fail
         go_ret
         exact ⟨by rw [HL.out,←HT.out,HN.out,HE.out];rfl,HB2.out⟩
    · have HN:=hid (ff_end l k hlt (yV5 l k))
      clear hbw
      go_wp2_with fail
      go_ret
      exact ⟨by rw [HL.out,←HT.out,HN.out];rfl,HW.out⟩
 · have HL:Hid (zF1 l=2):=by show zF1 l=_;unfold zF1;rw [if_pos (by omega)]
   go_enter Tryz.func145, Tryz.ntmps145
   go_wp2_with fail
   go_ret
   exact ⟨by rw [HL.out];rfl,Below.refl _ _⟩
open Go.Lib
def xJ1 (a b:ByteArray):Int:=Lib.compareBytes a.data.toList b.data.toList
theorem zG6 (a:ByteArray):a.toList=a.data.toList:=ByteArray.toList_eq a
theorem vH3 :∀(x y:List UInt8),(Lib.compareBytes x y<0)↔Op.bytesLess x y=true
 | [], []=>by simp [compareBytes,Op.bytesLess]
 | [],_::_=>by simp [compareBytes,Op.bytesLess]
 | _::_, []=>by simp [compareBytes,Op.bytesLess]
 | a::x,b::y=>by
  have ih:=vH3 x y
  unfold compareBytes Op.bytesLess
  by_cases h:a<b
  · simp [h]
  · by_cases h2:b<a
    · have h3:a≠b:=by rintro rfl;exact h h2
      simp [h,h2,h3]
    · have h3:a=b:=by
       apply UInt8.toNat_inj.mp
       simp only [UInt8.lt_iff_toNat_lt] at h h2
       omega
      subst h3
      simp [h,ih]
theorem xQ6 :∀(x y:List UInt8),(Lib.compareBytes x y=0)↔x=y
 | [], []=>by simp [compareBytes]
 | [],_::_=>by simp [compareBytes]
 | _::_, []=>by simp [compareBytes]
 | a::x,b::y=>by
  have ih:=xQ6 x y
  unfold compareBytes
  by_cases h:a<b
  · have h3:a≠b:=by rintro rfl;simp at h
    simp [h,h3]
  · by_cases h2:b<a
    · have h3:a≠b:=by rintro rfl;exact h h2
      simp [h,h2,h3]
    · have h3:a=b:=by
       apply UInt8.toNat_inj.mp
       simp only [UInt8.lt_iff_toNat_lt] at h h2
       omega
      subst h3
      simp [h,ih]
theorem xL7 :∀(x y z:List UInt8),Op.bytesLess x y=true→Op.bytesLess y z=true→Op.bytesLess x z=true
 | _,_, [],_,h=>by simp [Op.bytesLess] at h
 | [],_,_::_,_,_=>by simp [Op.bytesLess]
 | _::_, [],_::_,h,_=>by simp [Op.bytesLess] at h
 | a::x,b::y,c::z,h1,h2=>by
  have ih:=xL7 x y z
  simp only [Op.bytesLess,Bool.or_eq_true,decide_eq_true_eq,Bool.and_eq_true,beq_iff_eq,UInt8.lt_iff_toNat_lt,←UInt8.toNat_inj] at *
  rcases h1 with h1 | ⟨h1,h1'⟩ <;> rcases h2 with h2 | ⟨h2,h2'⟩
  · left;omega
  · left;omega
  · left;omega
  · right;exact ⟨by omega,ih h1' h2'⟩
theorem zW1 (x:List UInt8):Op.bytesLess x x=false:=by
 have h:=vH3 x x
 have h0:=(xQ6 x x).mpr rfl
 rw [h0] at h
 simpa using h
theorem yT7 (x y:List UInt8)(h:Op.bytesLess x y=false)(hn:x≠y):Op.bytesLess y x=true:=by
 induction x generalizing y with
 | nil=>cases y <;> simp_all [Op.bytesLess]
 | cons a x ih=>
  cases y with
  | nil=>simp [Op.bytesLess]
  | cons b y=>
   simp only [Op.bytesLess,Bool.or_eq_true,Bool.or_eq_false_iff,decide_eq_true_eq,decide_eq_false_iff_not,Bool.and_eq_true,beq_iff_eq,UInt8.lt_iff_toNat_lt,←UInt8.toNat_inj] at *
   by_cases e:a.toNat=b.toNat
   · right
     have e' :a=b:=UInt8.toNat_inj.mp e
     subst e'
     refine ⟨rfl,ih y ?_ ?_⟩
     · simpa using h.2
     · rintro rfl;exact hn rfl
   · left;omega
theorem yI1 (a b:ByteArray):xJ1 a b<0↔bLt a b=true:=by unfold xJ1 bLt;rw [zG6,zG6];exact vH3 _ _
theorem vH4 (a b:ByteArray):xJ1 a b=0↔(a.toList==b.toList)=true:=by unfold xJ1;rw [zG6,zG6,beq_iff_eq];exact xQ6 _ _
theorem zG2 {a b c:ByteArray}(h1:bLt a b=true)(h2:bLt b c=true):bLt a c=true:=xL7 _ _ _ h1 h2
theorem zJ6 (a:ByteArray):bLt a a=false:=zW1 _
theorem zQ1 {a b:ByteArray}(h:bLe a b=false):bLt b a=true:=by
 unfold bLe at h
 simp only [Bool.or_eq_false_iff] at h
 exact yT7 _ _ h.1 (by simpa using h.2)
def Rises (l:List File):Prop:=l.Pairwise (fun a b=>bLt a.name b.name=true)
theorem uM2 (l:List File):∀(p:Option ByteArray),zF2 p l=0→Rises l∧(∀q,p=some q→∀f∈l,bLt q f.name=true):=by
 induction l with
 | nil=>intro p _;exact ⟨List.Pairwise.nil,fun _ _ f hf=>by simp at hf⟩
 | cons f r ih=>
  intro p h
  have key:zA8 f=0:=by
   by_cases h1:zA8 f=0
   · exact h1
   · unfold zF2 at h;rw [if_pos h1] at h;exact absurd h h1
  have key2:(∀q,p=some q→bLe f.name q=false)∧zF2 (some f.name) r=0:=by
   unfold zF2 at h
   rw [if_neg (by simp [key])] at h
   cases p with
   | none=>exact ⟨(fun q hq=>by cases hq),by simpa using h⟩
   | some q=>
    cases hq:bLe f.name q
    · refine ⟨fun q' e=>by cases e;exact hq,?_⟩
      simpa [hq] using h
    · simp [hq] at h
  obtain ⟨hr,hl⟩:=ih _ key2.2
  refine ⟨List.Pairwise.cons (fun g hg=>hl _ rfl g hg) hr,?_⟩
  rintro q rfl g hg
  have hq:bLt q f.name=true:=zQ1 (key2.1 q rfl)
  rcases List.mem_cons.mp hg with rfl | hg
  · exact hq
  · exact zG2 hq (hl _ rfl g hg)
theorem Rises.at {l:List File}(h:Rises l)(i j:Nat)(hij:i<j)(hj:j<l.length):bLt (l[i]'(by omega)).name l[j].name=true:=List.pairwise_iff_getElem.mp h i j (by omega) hj hij
theorem Rises.mono {l:List File}(h:Rises l)(name:ByteArray)(i j:Nat)(hij:i≤j)(hj:j<l.length)(hl:bLt l[j].name name=true):bLt (l[i]'(by omega)).name name=true:=by
 by_cases e:i=j
 · subst e;exact hl
 · exact zG2 (h.at i j (by omega) hj) hl
def zR1 (l:List File)(name:ByteArray):Nat:=(l.takeWhile (fun f=>bLt f.name name)).length
theorem uA0 (name:ByteArray):∀(l:List File) (i:Nat),i≤l.length→(∀t,(ht:t<l.length)→t<i→bLt l[t].name name=true)→(∀t,(ht:t<l.length)→i≤t→bLt l[t].name name=false)→zR1 l name=i
 | [],i,h,_,_=>by simp at h;simp [zR1,h]
 | f::r,0,_,_,h2=>by
  have:=h2 0 (by simp) (Nat.le_refl _)
  simp at this
  simp [zR1,this]
 | f::r,i+1,h,h1,h2=>by
  have ha:=h1 0 (by simp) (by omega)
  have ih:=uA0 name r i (by simpa using h) (fun t ht hti=>h1 (t+1) (by simpa using ht) (by omega)) (fun t ht hti=>h2 (t+1) (by simpa using ht) (by omega))
  simp at ha
  unfold zR1 at ih ⊢
  simp [ha,ih]
def yS3 (l:List File)(name:ByteArray)(i:Nat):Bool:=match l[i]? with | some f=>f.name.toList==name.toList | none=>false
theorem yD8 (l:List File)(name:ByteArray)(i:Nat)(h:i<l.length):yS3 l name i=(l[i].name.toList==name.toList):=by unfold yS3;rw [List.getElem?_eq_getElem h]
theorem vE9 (l:List File)(name:ByteArray)(i:Nat)(h:¬i<l.length):yS3 l name i=false:=by unfold yS3;rw [List.getElem?_eq_none (by omega)]
open Go.RowKit Go.Sort

def yB6 :File:=⟨ByteArray.empty,ByteArray.empty,0⟩
def zT2 (o:Option File):File:=o.getD yB6
def zO5 (o:Option File)(w:World)(e:Ending)(w' :World):Prop:=e= .returned (.tuple #[(zT2 o).val, .bool o.isSome])∧Below w.heap.size w w'
theorem get_at (l:List File)(k:Nat)(h:k<l.length)(name:ByteArray)(h1:(l.take k).find? (fun f=>f.name.toList==name.toList)=none)(h2:(l[k].name.toList==name.toList)=true):zC6 l name=some l[k]:=by
 unfold zC6
 have e:l=l.take k++l[k]::l.drop (k+1):=by rw [←List.drop_eq_getElem_cons h,List.take_append_drop]
 calc l.find? (fun f=>f.name.toList==name.toList)=(l.take k++l[k]::l.drop (k+1)).find? (fun f=>f.name.toList==name.toList):=by rw [←e]
  _=some l[k]:=by rw [List.find?_append,h1,List.find?_cons,h2];rfl
theorem uP3 (l:List File)(k:Nat)(h:k<l.length)(name:ByteArray)(h1:(l.take k).find? (fun f=>f.name.toList==name.toList)=none)(h2:(l[k].name.toList==name.toList)=false):(l.take (k+1)).find? (fun f=>f.name.toList==name.toList)=none:=by
 rw [List.take_succ_eq_append_getElem h,List.find?_append,h1]
 simp only [List.find?_cons,h2,Option.none_or,List.find?_nil]
theorem uP2 (l:List File)(k:Nat)(h:¬k<l.length)(name:ByteArray)(h1:(l.take k).find? (fun f=>f.name.toList==name.toList)=none):zC6 l name=none:=by
 rwa [List.take_of_length_le (by omega)] at h1

theorem zL5 (va:Value)(l:List File)(name:ByteArray)(w:World)(ha:Files w va l):
 Calls Tryz.prog 45 #[va, .string name] w (zO5 (zC6 l name) w):=by
 obtain ⟨ao,ca,rfl,hca,hca'⟩:=ha.parts
 have HA:=hid ha
 clear ha
 obtain ⟨W2,hW2⟩:∃W2,W2=w.alloc (.cells #[.string ⟨#[]⟩, .string ⟨#[]⟩, .int .i64 0] 102):=⟨_,rfl⟩
 have B2:Below w.heap.size w W2:=by rw [hW2];exact zA0 w _
 have g0:W2.cell? ⟨w.heap.size,0,none⟩=some (.string ⟨#[]⟩):=by rw [hW2];simp
 have g1:W2.cell? ⟨w.heap.size,1,none⟩=some (.string ⟨#[]⟩):=by rw [hW2];simp
 have g2:W2.cell? ⟨w.heap.size,2,none⟩=some (.int .i64 0):=by rw [hW2];simp
 have g3:W2.frozen? ⟨w.heap.size,0,none⟩=false:=by rw [hW2];simp
 have g4:W2.frozen? ⟨w.heap.size,1,none⟩=false:=by rw [hW2];simp
 have g5:W2.frozen? ⟨w.heap.size,2,none⟩=false:=by rw [hW2];simp
 have HW2:=hid hW2
 have HB2:=hid B2
 clear hW2 B2
 go_enter Tryz.func45, Tryz.ntmps45
 go_wp2_with fail
 rw [←HW2.out]
 go_loopw [6] (fun i wr=>∃k:Nat,k≤l.length∧i= .int .i64 k∧(l.take k).find? (fun f=>f.name.toList==name.toList)=none∧wr=W2) (fun i _=>l.length - (intOf i).toNat)
 case atStart=>exact ⟨0,Nat.zero_le _,rfl,rfl,rfl⟩
 case round=>
  obtain ⟨k,hk,rfl,htk,rfl⟩:=hrel
  by_cases hlt:k<l.length
  · obtain ⟨ba,oa,rfl,hlb,x0,x1,x2⟩:=Files.cell (HA.out.below HB2.out) k hlt
    cases hn:(l[k].name.toList==name.toList)
    · have HN:=hid (uP3 l k hlt name htk hn)
      clear htk
      go_wp2_with fail
      go_roundw
      case rel=>exact ⟨k+1,by omega,by go_num,HN.out,trivial⟩
      case measure=>simp [intOf];omega
    · have HN:=hid (get_at l k hlt name htk hn)
      clear htk
      go_wp2_with fail
      have HBF:=((HB2.out.setCell (p:=⟨w.heap.size,0,none⟩) (by simp) (.string l[k].name)).setCell (p:=⟨w.heap.size,1,none⟩) (by simp) (.string l[k].text)).setCell (p:=⟨w.heap.size,2,none⟩) (by simp) (.int .i64 l[k].times)
      refine bodyPost_ret (v:= .tuple #[.agg #[.string l[k].name, .string l[k].text, .int .i64 l[k].times], .bool true]) (by simp [results, Tryz.results45,go_sem,g0,g1,g2,g3,g4,g5]) rfl ?_
      exact ⟨by rw [HN.out];rfl,HBF⟩
  · have HN:=hid (uP2 l k hlt name htk)
    clear htk
    go_wp2_with fail
    have HBF:=((HB2.out.setCell (p:=⟨w.heap.size,0,none⟩) (by simp) (.string ⟨#[]⟩)).setCell (p:=⟨w.heap.size,1,none⟩) (by simp) (.string ⟨#[]⟩)).setCell (p:=⟨w.heap.size,2,none⟩) (by simp) (.int .i64 0)
    refine bodyPost_ret (v:= .tuple #[.agg #[.string ⟨#[]⟩, .string ⟨#[]⟩, .int .i64 0], .bool false]) (by simp [results, Tryz.results45,go_sem,g0,g1,g2,g3,g4,g5]) rfl ?_
    exact ⟨by rw [HN.out];rfl,HBF⟩

theorem vM2 (f:File)(name:ByteArray)(w:World):
 Calls Tryz.prog 183 #[.agg #[.string f.name, .string f.text, .int .i64 f.times], .string name] w fun e w' =>e= .returned (.int .i64 (xJ1 f.name name))∧Below w.heap.size w w' :=by
 have C:=fun W=> Tryz.strings_Compare f.name name W
 have B1:=zA0 w (.cells #[.string f.name, .string f.text, .int .i64 f.times] 102)
 have HB1:=hid B1
 clear B1
 go_enter Tryz.func183, Tryz.ntmps183
 go_wp2_with fail
 refine (C _).mono ?_
 rintro e w2 ⟨rfl,hb2⟩
 go_wp2_with fail
 go_ret
 exact ⟨rfl,HB1.out⟩

def yU8 (l:List File)(name:ByteArray)(w:World)(e:Ending)(w' :World):Prop:=e= .returned (.tuple #[.int .i64 (zR1 l name), .bool (yS3 l name (zR1 l name))])∧Below w.heap.size w w'
theorem xX4 (va:Value)(l:List File)(name:ByteArray)(w:World)(ha:Files w va l)(hl:l.length≤8)(hr:Rises l):
 Calls Tryz.prog 182 #[va, .string name, .func (.func 183) #[] #[]] w (yU8 l name w):=by
 obtain ⟨ao,ca,rfl,hca,hca'⟩:=ha.parts
 have HA:=hid ha
 have HR:=hid hr
 clear ha hr
 go_enter Tryz.func182, Tryz.ntmps182
 go_wp2_with fail
 go_loopw [9,10] (fun x y wr=>∃i j:Nat,i≤j∧j≤l.length∧x= .int .i64 i∧y= .int .i64 j∧(∀t,(ht:t<l.length)→t<i→bLt l[t].name name=true)∧(∀t,(ht:t<l.length)→j≤t→bLt l[t].name name=false)∧Below w.heap.size w wr) (fun x y _=>(intOf y).toNat - (intOf x).toNat)
 case atStart=>exact ⟨0,l.length,Nat.zero_le _,Nat.le_refl _,rfl,rfl,fun t _ h=>absurd h (by omega),fun t h1 h2=>absurd h1 (by omega),Below.refl _ _⟩
 case round=>
  obtain ⟨i,j,hij,hj,rfl,rfl,h1,h2,hbw⟩:=hrel
  have H1:=hid h1
  have H2:=hid h2
  clear h1 h2
  by_cases hlt:i<j
  · have hmj:(i+j) / 2<j:=by omega
    have him:i≤(i+j) / 2:=by omega
    obtain ⟨ba,oa,rfl,hlb,x0,x1,x2⟩:=Files.cell (HA.out.below hbw) ((i+j) / 2) (by omega)
    have C:=hid fun W=>vM2 (l[(i+j) / 2]'(by omega)) name W
    have HW:=hid hbw
    clear hbw
    by_cases hc:xJ1 (l[(i+j) / 2]'(by omega)).name name<0
    · have HL:=hid ((yI1 _ _).mp hc)
      go_wp2_with fail
      refine (C.out _).mono ?_
      rintro e w2 ⟨rfl,hb2⟩
      have HB2:=hid (two HW.out hb2)
      clear hb2 x0 x1 x2
      go_wp2_with fail
      go_roundw
      case rel=>exact ⟨(i+j) / 2+1,j,by omega,hj,by congr 1,rfl,fun t ht hti=>HR.out.mono name t ((i+j) / 2) (by omega) (by omega) HL.out,H2.out,HB2.out⟩
      case measure=>simp [intOf];omega
    · have HL:Hid (bLt (l[(i+j) / 2]'(by omega)).name name=false):=by
       refine hid ?_
       rw [←Bool.not_eq_true,←yI1];exact hc
      go_wp2_with fail
      refine (C.out _).mono ?_
      rintro e w2 ⟨rfl,hb2⟩
      have HB2:=hid (two HW.out hb2)
      clear hb2 x0 x1 x2
      go_wp2_with fail
      go_roundw
      case rel=>
       refine ⟨i,(i+j) / 2,by omega,by omega,rfl,by congr 1,H1.out,?_,HB2.out⟩
       intro t ht hti
       cases hb:bLt l[t].name name
       · rfl
       · have:=HR.out.mono name ((i+j) / 2) t hti ht hb
         rw [HL.out] at this;cases this
      case measure=>simp [intOf];omega
  · have hij2:i=j:=by omega
    subst hij2
    have HK:=hid (uA0 name l i (by omega) H1.out H2.out)
    by_cases hil:i<l.length
    · obtain ⟨ba,oa,rfl,hlb,x0,x1,x2⟩:=Files.cell (HA.out.below hbw) i hil
      have C:=hid fun W=>vM2 l[i] name W
      have HW:=hid hbw
      clear hbw
      go_wp2_with fail
      refine (C.out _).mono ?_
      rintro e w2 ⟨rfl,hb2⟩
      have HB2:=hid (two HW.out hb2)
      clear hb2 x0 x1 x2
      go_wp2_with fail
      refine bodyPost_ret (v:= .tuple #[.int .i64 i, .bool (xJ1 l[i].name name==0)]) (by simp [results, Tryz.results182,go_sem]) rfl ?_
      refine ⟨?_,HB2.out⟩
      have e2:yS3 l name (zR1 l name)=(xJ1 l[i].name name==0):=by
       rw [HK.out,yD8 l name i hil]
       have:=vH4 l[i].name name
       cases h1:(l[i].name.toList==name.toList) <;> cases h2:(xJ1 l[i].name name==0) <;> simp_all
      rw [e2,HK.out]
    · have HW:=hid hbw
      clear hbw
      go_wp2_with fail
      refine bodyPost_ret (v:= .tuple #[.int .i64 i, .bool false]) (by simp [results, Tryz.results182,go_sem]) rfl ?_
      refine ⟨?_,HW.out⟩
      rw [HK.out,vE9 l name i hil]

theorem yS9 (va:Value)(l:List File)(name:ByteArray)(w:World)(ha:Files w va l)(hl:l.length≤8)(hr:Rises l):
 Calls Tryz.prog 149 #[va, .string name] w (yU8 l name w):=by
 obtain ⟨ao,ca,rfl,hca,hca'⟩:=ha.parts
 have C:=hid fun W hb=>xX4 (.slice ao l.length ca) l name W (Rd.below ha hb) hl hr
 clear ha hr
 go_enter Tryz.func149, Tryz.ntmps149
 go_wp2_with fail
 refine (C.out _ (Below.refl _ _)).mono ?_
 rintro e w2 ⟨rfl,hb2⟩
 have HB2:=hid hb2
 clear hb2
 go_wp2_with fail
 exact bodyPost_ret (v:= .tuple #[.int .i64 (zR1 l name), .bool (yS3 l name (zR1 l name))]) (by simp [results, Tryz.results149,go_sem]) rfl ⟨rfl,HB2.out⟩
open Go.RowKit Go.Sort

theorem vD3 (l:List File)(name:ByteArray):zR1 l name≤l.length:=List.Sublist.length_le (List.takeWhile_sublist _)
theorem zO1 (name:ByteArray):∀(l:List File) (t:Nat) (h:t<l.length),t<zR1 l name→bLt l[t].name name=true
 | [],t,h,_=>by simp at h
 | f::r,t,h,ht=>by
  unfold zR1 at ht
  cases hf:bLt f.name name
  · simp [hf] at ht
  · cases t with
    | zero=>exact hf
    | succ t=>
     simp [hf] at ht
     exact zO1 name r t (by simpa using h) (by unfold zR1;omega)
theorem xO6 (name:ByteArray):∀(l:List File) (h:zR1 l name<l.length),bLt l[zR1 l name].name name=false
 | [],h=>by simp at h
 | f::r,h=>by
  cases hf:bLt f.name name
  · have e:zR1 (f::r) name=0:=by simp [zR1,hf]
    simp only [e];exact hf
  · have e:zR1 (f::r) name=zR1 r name+1:=by simp [zR1,hf]
    have:=xO6 name r (by rw [e] at h;simpa using h)
    simp only [e];exact this
theorem zL3 {a b:ByteArray}(h:bLt a b=true):(a.toList==b.toList)=false:=by
 cases e:(a.toList==b.toList)
 · rfl
 · have:a.toList=b.toList:=by simpa using e
   unfold bLt at h
   rw [this,zW1] at h;cases h
theorem xH8 (l:List File)(name:ByteArray)(k:Nat)(hk:k≤zR1 l name):(l.take k).find? (fun f=>f.name.toList==name.toList)=none:=by
 rw [List.find?_eq_none]
 intro x hx
 obtain ⟨t,ht,rfl⟩:=List.getElem_of_mem hx
 rw [List.getElem_take]
 rw [List.length_take] at ht
 simp only [zL3 (zO1 name l t (by omega) (by omega)),Bool.false_eq_true,not_false_eq_true]
theorem yZ4 (l:List File)(name:ByteArray)(h:zR1 l name<l.length)(h2:yS3 l name (zR1 l name)=true):zC6 l name=some l[zR1 l name]:=by
 rw [yD8 l name _ h] at h2
 exact get_at l _ h name (xH8 l name _ (Nat.le_refl _)) h2
theorem zY3 {l:List File}{name:ByteArray}{i:Nat}(h:yS3 l name i=true):i<l.length:=by
 by_cases hh:i<l.length
 · exact hh
 · rw [vE9 l name i hh] at h;cases h
theorem yH3 (l:List File)(name:ByteArray)(hr:Rises l)(h2:yS3 l name (zR1 l name)=false):zC6 l name=none:=by
 unfold zC6
 rw [List.find?_eq_none]
 intro x hx
 obtain ⟨t,ht,rfl⟩:=List.getElem_of_mem hx
 by_cases h:t<zR1 l name
 · simp only [zL3 (zO1 name l t ht h),Bool.false_eq_true,not_false_eq_true]
 · have hrk:zR1 l name<l.length:=by omega
   have hge:=xO6 name l hrk
   rw [yD8 l name _ hrk] at h2
   by_cases e:t=zR1 l name
   · subst e;simp [h2]
   · have:=hr.at (zR1 l name) t (by omega) ht
     intro he
     have he' :l[t].name.toList=name.toList:=by simpa using he
     have h3:bLt l[zR1 l name].name name=true:=by unfold bLt at this ⊢;rw [←he'];exact this
     rw [h3] at hge;cases hge

theorem zS6 (va:Value)(l:List File)(name:ByteArray)(w:World)(ha:Files w va l)(hl:l.length≤8)(hr:Rises l):
 Calls Tryz.prog 111 #[va, .string name] w (zO5 (zC6 l name) w):=by
 obtain ⟨ao,ca,rfl,hca,hca'⟩:=ha.parts
 obtain ⟨W2,hW2⟩:∃W2,W2=w.alloc (.cells #[.string ⟨#[]⟩, .string ⟨#[]⟩, .int .i64 0] 102):=⟨_,rfl⟩
 have B2:Below w.heap.size w W2:=by rw [hW2];exact zA0 w _
 have HZ:Hid (W2.heap.size=w.heap.size+1):=hid (by rw [hW2];simp)
 have g0:W2.cell? ⟨w.heap.size,0,none⟩=some (.string ⟨#[]⟩):=by rw [hW2];simp
 have g1:W2.cell? ⟨w.heap.size,1,none⟩=some (.string ⟨#[]⟩):=by rw [hW2];simp
 have g2:W2.cell? ⟨w.heap.size,2,none⟩=some (.int .i64 0):=by rw [hW2];simp
 have g3:W2.frozen? ⟨w.heap.size,0,none⟩=false:=by rw [hW2];simp
 have g4:W2.frozen? ⟨w.heap.size,1,none⟩=false:=by rw [hW2];simp
 have g5:W2.frozen? ⟨w.heap.size,2,none⟩=false:=by rw [hW2];simp
 have C:=hid (yS9 (.slice ao l.length ca) l name W2 (Rd.below ha B2) hl hr)
 have HA:=hid ha
 have HR:=hid hr
 have HW2:=hid hW2
 have HB2:=hid B2
 clear hW2 B2 ha hr
 have HB3:Hid (∀W,Below W2.heap.size W2 W→W.cell? ⟨w.heap.size,0,none⟩=some (.string ⟨#[]⟩)∧W.cell? ⟨w.heap.size,1,none⟩=some (.string ⟨#[]⟩)∧W.cell? ⟨w.heap.size,2,none⟩=some (.int .i64 0)∧W.frozen? ⟨w.heap.size,0,none⟩=false∧W.frozen? ⟨w.heap.size,1,none⟩=false∧W.frozen? ⟨w.heap.size,2,none⟩=false):=by
  refine hid fun W hb=>?_
  have hs:=HZ.out
  obtain ⟨hc,hf⟩:=zN2 hb
  exact ⟨(hc _ _ (by omega)).trans g0,(hc _ _ (by omega)).trans g1,(hc _ _ (by omega)).trans g2,((hf _ _ (by omega)).trans g3),((hf _ _ (by omega)).trans g4),((hf _ _ (by omega)).trans g5)⟩
 clear g0 g1 g2 g3 g4 g5
 cases hi:yS3 l name (zR1 l name)
 · have HN:=hid (yH3 l name HR.out hi)
   unfold yU8 at C
   rw [hi] at C
   clear hi
   go_enter Tryz.func111, Tryz.ntmps111
   go_wp2_with fail
   rw [←HW2.out]
   refine (C.out).mono ?_
   rintro e w2 ⟨rfl,hb2⟩
   have HC2:=hid (two HB2.out hb2)
   obtain ⟨g0,g1,g2,g3,g4,g5⟩:=HB3.out w2 hb2
   clear hb2
   go_wp2_with fail
   have HBF:=((HC2.out.setCell (p:=⟨w.heap.size,0,none⟩) (by simp) (.string ⟨#[]⟩)).setCell (p:=⟨w.heap.size,1,none⟩) (by simp) (.string ⟨#[]⟩)).setCell (p:=⟨w.heap.size,2,none⟩) (by simp) (.int .i64 0)
   refine bodyPost_ret (v:= .tuple #[.agg #[.string ⟨#[]⟩, .string ⟨#[]⟩, .int .i64 0], .bool false]) (by simp [results, Tryz.results111,go_sem,g0,g1,g2,g3,g4,g5]) rfl ?_
   exact ⟨by rw [HN.out];rfl,HBF⟩
 · unfold yU8 at C
   rw [hi] at C
   obtain ⟨k,hkk⟩:∃k,k=zR1 l name:=⟨_,rfl⟩
   have hk:k<l.length:=by rw [hkk];exact zY3 hi
   have HN:Hid (zC6 l name=some l[k]):=by subst hkk;exact hid (yZ4 l name hk hi)
   rw [←hkk] at C
   clear hi hkk
   go_enter Tryz.func111, Tryz.ntmps111
   go_wp2_with fail
   rw [←HW2.out]
   refine (C.out).mono ?_
   rintro e w2 ⟨rfl,hb2⟩
   obtain ⟨ba,oa,rfl,hlb,x0,x1,x2⟩:=Files.cell (HA.out.below (two HB2.out hb2)) k hk
   have HC2:=hid (two HB2.out hb2)
   obtain ⟨g0,g1,g2,g3,g4,g5⟩:=HB3.out w2 hb2
   clear hb2
   go_wp2_with fail
   have HBF:=((HC2.out.setCell (p:=⟨w.heap.size,0,none⟩) (by simp) (.string l[k].name)).setCell (p:=⟨w.heap.size,1,none⟩) (by simp) (.string l[k].text)).setCell (p:=⟨w.heap.size,2,none⟩) (by simp) (.int .i64 l[k].times)
   refine bodyPost_ret (v:= .tuple #[.agg #[.string l[k].name, .string l[k].text, .int .i64 l[k].times], .bool true]) (by simp [results, Tryz.results111,go_sem,g0,g1,g2,g3,g4,g5]) rfl ?_
   exact ⟨by rw [HN.out];rfl,HBF⟩
end Go.Proofs.YtggpodlecljcbabGreatDoor
