/- The walks of chapter 2: slices.Clone of files. The walks of chapter 2: putting a file, the reference's way. Plain: dropping and putting, at the place of a name. The walks of chapter 2: slices.Clone on files. -/
import Derived.Test.YtggpodlecljcbabGreatDoorShelfClone
import Derived.Lib.SliceRun
import Derived.Test.YtggpodlecljcbabGreatDoorKF
import Derived.Test.YtggpodlecljcbabGreatDoorKBb
import Derived.Test.YtggpodlecljcbabGreatDoorKB
namespace Go.Proofs.YtggpodlecljcbabGreatDoor
set_option linter.unusedSimpArgs false
set_option linter.unusedVariables false
set_option maxRecDepth 100000
set_option maxHeartbeats 64000000
open Lib (hid)
open Go.RowKit Go.Sort

theorem zN5 :zQ3 Tryz.prog 30 102 3 40:=zO4 (z:= .agg #[.string ⟨#[]⟩, .string ⟨#[]⟩, .int .i64 0]) Tryz.underlying30 (by kernel_rfl) rfl (by decide) (by decide)
theorem zK5 {w:World}{a b c:Value}{t:TypeId}:∀(j:Nat) (x:Value), [a,b,c][j]?=some x→(w.alloc (.cells #[a,b,c] t)).cell? ((⟨w.heap.size,0,none⟩:Addr).add j)=some x:=by
 intro j x h
 match j,h with
 | 0,h=>simp at h;subst h;rw [Addr.add_lit];simp
 | 1,h=>simp at h;subst h;rw [Addr.add_lit];simp
 | 2,h=>simp at h;subst h;rw [Addr.add_lit];simp
 | j+3,h=>simp at h
theorem zN8 (f:File):∀u∈f.cells,u.oneCell' =true:=by
 intro u hu
 simp [File.cells] at hu
 rcases hu with rfl | rfl | rfl <;> rfl
def Fresh (B:Nat)(v:Value):Prop:=∀b,v.ownBlock=some b→B≤b
theorem zH5 (B:Nat):Fresh B (.slice none 0 0):=fun _ h=>by cases h
theorem Fresh.mono {B B' :Nat}{v:Value}(h:Fresh B v)(hb:B' ≤B):Fresh B' v:=fun b hv=>Nat.le_trans hb (h b hv)
theorem yH5 {w:World}{base e k n:Nat}{v:Value}{xs:List Value}(h:w.ownsRow base e k v n xs):Fresh base v:=fun b hb=>(h.lt b hb).1
def vA2 (p:List File × Nat)(w:World)(e:Ending)(w' :World):Prop:=∃v,e= .returned (.tuple #[v, .int .i64 p.2])∧Files w' v p.1∧Below w.heap.size w w' ∧Fresh w.heap.size v
def yS2 (p:List File × Nat)(w:World)(e:Ending)(w' :World):Prop:=∃v,e= .returned (.tuple #[v, .int .i64 p.2])∧Files w' v p.1∧Below w.heap.size w w'
def yG9 (l:List File)(name:ByteArray)(k:Nat):List File:=(l.take k).filter (fun f=>f.name.toList != name.toList)
def zK4 (l:List File)(name:ByteArray):List File × Nat:=if (zC6 l name).isSome then (l.filter (fun f=>f.name.toList != name.toList),0) else ([],5)
theorem keep_le (l:List File)(name:ByteArray)(k:Nat):(yG9 l name k).length≤k:=Nat.le_trans (List.length_filter_le _ _) (by rw [List.length_take];omega)
theorem uO5 (l:List File)(name:ByteArray)(k:Nat)(h:k<l.length)(h2:(l[k].name.toList==name.toList)=false):yG9 l name (k+1)=yG9 l name k++ [l[k]]:=by
 unfold yG9;rw [List.take_succ_eq_append_getElem h,List.filter_append];simp [bne,h2]
theorem keep_no (l:List File)(name:ByteArray)(k:Nat)(h:k<l.length)(h2:(l[k].name.toList==name.toList)=true):yG9 l name (k+1)=yG9 l name k:=by
 unfold yG9;rw [List.take_succ_eq_append_getElem h,List.filter_append];simp [bne,h2]

theorem yK7 (va:Value)(l:List File)(name:ByteArray)(w:World)(ha:Files w va l)(hl:l.length≤8):
 Calls Tryz.prog 63 #[va, .string name] w (vA2 (zK4 l name) w):=by
 have C:=zL5 va l name w ha
 obtain ⟨ao,ca,rfl,hca,hca'⟩:=ha.parts
 have HA:=hid ha
 clear ha
 unfold zO5 zT2 File.val at C
 cases hg:zC6 l name
 · rw [hg] at C
   replace C:=hid C
   have HD:Hid (zK4 l name=([],5)):=by refine hid ?_;unfold zK4;rw [hg];rfl
   clear hg
   go_enter Tryz.func63, Tryz.ntmps63
   go_wp2_with fail
   refine C.out.mono ?_
   rintro e w2 ⟨rfl,hb2⟩
   have HB2:=hid hb2
   clear hb2
   go_wp2_with fail
   have HB3:=hid (two HB2.out (zA0 w2 (.cells #[.string yB6.name, .string yB6.text, .int .i64 yB6.times] 102)))
   refine bodyPost_ret (v:= .tuple #[.slice none 0 0, .int .i64 5]) (by simp [results, Tryz.results63,go_sem]) rfl ?_
   exact ⟨.slice none 0 0,by rw [HD.out];rfl,by rw [HD.out];exact Rd.nil _,HB3.out,zH5 _⟩
 · rename_i f
   rw [hg] at C
   replace C:=hid C
   have HD:Hid (zK4 l name=(yG9 l name l.length,0)):=by refine hid ?_;unfold zK4 yG9;rw [hg,List.take_length];rfl
   clear hg
   go_enter Tryz.func63, Tryz.ntmps63
   go_wp2_with fail
   refine C.out.mono ?_
   rintro e w2 ⟨rfl,hb2⟩
   have HB2:=hid hb2
   clear hb2
   go_wp2_with fail
   obtain ⟨W2,hW2⟩:∃W2,W2=w2.alloc (.cells #[.string f.name, .string f.text, .int .i64 f.times] 102):=⟨_,rfl⟩
   have BW2:=hid (show Below w.heap.size w W2 by rw [hW2];exact two HB2.out (zA0 _ _))
   rw [←hW2]
   clear hW2 HB2
   go_loopw [8,9] (fun o i wr=>∃k:Nat,k≤l.length∧i= .int .i64 k∧wr.ownsRow W2.heap.size 102 3 o (yG9 l name k).length ((yG9 l name k).flatMap File.cells)∧Below W2.heap.size W2 wr) (fun _ i _=>l.length - (intOf i).toNat)
   case atStart=>exact ⟨0,Nat.zero_le _,rfl,World.ownsRow_nil _ _ _ _,Below.refl _ _⟩
   case round=>
    obtain ⟨k,hk,rfl,hown,hbw⟩:=hrel
    have HO:=hid hown
    have HW:=hid hbw
    have HN:=hid (keep_le l name k)
    by_cases hlt:k<l.length
    · obtain ⟨ba,oa,rfl,hlb,x0,x1,x2⟩:=Files.cell (HA.out.below (two BW2.out hbw)) k hlt
      clear hown hbw
      cases hn:(l[k].name.toList==name.toList)
      · have HK:=hid (uO5 l name k hlt hn)
        have hz2:=HW.out.size
        have hkl:=HN.out
        go_wp2_with (at_builtin;refine zB8 zN5 rfl _ _ rfl W2.heap.size _ _ _ rfl (HO.out.alloc _) ⟨wr.heap.size,0,none⟩ 1 1 [.string l[k].name, .string l[k].text, .int .i64 l[k].times] rfl rfl ?c1 ?c2 ?c3 ?c4 ?_)
        case c1=>exact zK5
        case c2=>exact zN8 l[k]
        case c3=>omega
        case c4=>simp;omega
        intro v' w3 hown3 hg3
        have HB3:=hid (zB0 (HW.out.trans ((zA0 wr (.cells #[.string l[k].name, .string l[k].text, .int .i64 l[k].times] 102)).mono hz2)) (HO.out.alloc _) hg3 (Nat.le_refl _))
        have HO3:=hid hown3
        clear hown3 hg3
        go_wp2_with fail
        go_roundw
        case rel=>
         refine ⟨k+1,by omega,by go_num,?_,HB3.out⟩
         rw [HK.out,zI4,List.length_append]
         exact HO3.out
        case measure=>simp [intOf];omega
      · have HK:=hid (keep_no l name k hlt hn)
        go_wp2_with fail
        go_roundw
        case rel=>exact ⟨k+1,by omega,by go_num,by rw [HK.out];exact HO.out,HW.out⟩
        case measure=>simp [intOf];omega
    · have hkl:k=l.length:=by omega
      subst hkl
      clear hown hbw
      go_wp2_with fail
      refine bodyPost_ret (v:= .tuple #[u8, .int .i64 0]) (by simp [results, Tryz.results63,go_sem]) rfl ?_
      exact ⟨u8,by rw [HD.out];rfl,by rw [HD.out];exact SL.of_own HO.out,two BW2.out HW.out,(yH5 HO.out).mono BW2.out.size⟩
theorem xU2 (va:Value)(l:List File)(name:ByteArray)(w:World)(ha:Files w va l)(hl:l.length≤8):
 Calls Tryz.prog 63 #[va, .string name] w (yS2 (zK4 l name) w):=
 (yK7 va l name w ha hl).mono fun _ _ ⟨v,h1,h2,h3,_⟩=>⟨v,h1,h2,h3⟩
open Go.RowKit Go.Sort

def zP5 (f:File)(p:List File × Bool)(g:File):List File × Bool:=
 let q:=if p.2=false∧bLe f.name g.name=true then (p.1++ [f],true) else p
 if (g.name.toList==f.name.toList)=true then q else (q.1++ [g],q.2)
def zR2 (l:List File)(f:File)(k:Nat):List File × Bool:=(l.take k).foldl (zP5 f) ([],false)
theorem zK8 (l:List File)(f:File)(k:Nat)(h:k<l.length):zR2 l f (k+1)=zP5 f (zR2 l f k) l[k]:=by
 unfold zR2;rw [List.take_succ_eq_append_getElem h,List.foldl_append];rfl
theorem vD6 (f:File)(p:List File × Bool)(g:File):(zP5 f p g).1.length≤p.1.length+2:=by
 unfold zP5
 dsimp only
 split <;> split <;> simp <;> omega
theorem xU9 (l:List File)(f:File):∀k,k≤l.length→(zR2 l f k).1.length≤2 * k
 | 0,_=>by simp [zR2]
 | k+1,h=>by
  have:=xU9 l f k (by omega)
  have:=vD6 f (zR2 l f k) l[k]
  rw [zK8 l f k (by omega)];omega
def zV8 (l:List File)(f:File):List File:=if (zR2 l f l.length).2=false then (zR2 l f l.length).1++ [f] else (zR2 l f l.length).1
def zM0 (l:List File)(f:File):List File × Nat:=if zA8 f≠0 then ([],zA8 f) else if (zC6 l f.name).isSome=false∧8≤l.length then ([],7) else (zV8 l f,0)

theorem xC5 (va:Value)(l:List File)(f:File)(w:World)(ha:Files w va l)(hf:f.ok)(hl:l.length≤8):
 Calls Tryz.prog 61 #[va,f.val] w (yS2 (zM0 l f) w):=by
 have CF:=fun W=>xO5 f W hf
 have CG:=fun W hb=>zL5 va l f.name W (Rd.below ha hb)
 obtain ⟨ao,ca,rfl,hca,hca'⟩:=ha.parts
 have HA:=hid ha
 clear ha
 unfold zO5 zT2 File.val at CG
 unfold File.val at CF ⊢
 have B1:=zA0 w (.cells #[.string f.name, .string f.text, .int .i64 f.times] 102)
 by_cases hff:zA8 f=0
 · rw [hff] at CF
   replace CF:=hid CF
   obtain ⟨W1,hW1⟩:∃W1,W1=w.alloc (.cells #[.string f.name, .string f.text, .int .i64 f.times] 102):=⟨_,rfl⟩
   rw [←hW1] at B1
   have hz:W1.heap.size=w.heap.size+1:=by rw [hW1];simp
   have c0:W1.cell? ⟨w.heap.size,0,none⟩=some (.string f.name):=by rw [hW1];simp
   have c1:W1.cell? ⟨w.heap.size,1,none⟩=some (.string f.text):=by rw [hW1];simp
   have c2:W1.cell? ⟨w.heap.size,2,none⟩=some (.int .i64 f.times):=by rw [hW1];simp
   have CB:Hid (∀W,Below W1.heap.size W1 W→W.cell? ⟨w.heap.size,0,none⟩=some (.string f.name)∧W.cell? ⟨w.heap.size,1,none⟩=some (.string f.text)∧W.cell? ⟨w.heap.size,2,none⟩=some (.int .i64 f.times)):=by
    refine hid fun W hb=>?_
    obtain ⟨hc,_⟩:=zN2 hb
    exact ⟨(hc _ _ (by omega)).trans c0,(hc _ _ (by omega)).trans c1,(hc _ _ (by omega)).trans c2⟩
   have HW1:=hid hW1
   have HB1:=hid B1
   clear hW1 hz c0 c1 c2 B1
   have HS:Hid (((zC6 l f.name).isSome=false∧8≤l.length)→zM0 l f=([],7)):=hid fun h=>by unfold zM0;rw [if_neg (by simp [hff]),if_pos h]
   have HT:Hid (¬((zC6 l f.name).isSome=false∧8≤l.length)→zM0 l f=(zV8 l f,0)):=hid fun h=>by unfold zM0;rw [if_neg (by simp [hff]),if_neg h]
   clear hff
   obtain ⟨g,hg⟩:∃g,g=(zC6 l f.name).getD yB6:=⟨_,rfl⟩
   rw [←hg] at CG
   clear hg
   obtain ⟨s,hs⟩:∃s,s=(zC6 l f.name).isSome:=⟨_,rfl⟩
   rw [←hs] at CG HS HT
   clear hs
   replace CG:=hid CG
   by_cases hfull:s=false∧8≤l.length
   · have HD:=hid (HS.out hfull)
     obtain ⟨rfl,h8⟩:=hfull
     go_enter Tryz.func61, Tryz.ntmps61
     go_wp2_with fail
     rw [←HW1.out]
     refine (CF.out _).mono ?_
     rintro e w2 ⟨rfl,hb2⟩
     obtain ⟨d0,d1,d2⟩:=CB.out w2 hb2
     have HB2:=hid hb2
     clear hb2
     go_wp2_with fail
     refine (CG.out _ (two HB1.out HB2.out)).mono ?_
     rintro e w3 ⟨rfl,hb3⟩
     have HB3:=hid (two HB2.out hb3)
     clear hb3
     go_wp2_with fail
     have HB4:=hid (two HB1.out (two HB3.out (zA0 w3 (.cells #[.string g.name, .string g.text, .int .i64 g.times] 102))))
     refine bodyPost_ret (v:= .tuple #[.slice none 0 0, .int .i64 7]) (by simp [results, Tryz.results61,go_sem]) rfl ?_
     exact ⟨.slice none 0 0,by rw [HD.out];rfl,by rw [HD.out];exact Rd.nil _,HB4.out⟩
   · have HD:=hid (HT.out hfull)
     have hcs:s=true∨(s=false∧l.length<8):=by cases s <;> simp_all
     clear hfull
     rcases hcs with rfl | ⟨rfl,h8⟩
     all_goals
      go_enter Tryz.func61, Tryz.ntmps61
      go_wp2_with fail
      rw [←HW1.out]
      refine (CF.out _).mono ?_
      rintro e w2 ⟨rfl,hb2⟩
      obtain ⟨d0,d1,d2⟩:=CB.out w2 hb2
      have HB2:=hid hb2
      clear hb2
      go_wp2_with fail
      refine (CG.out _ (two HB1.out HB2.out)).mono ?_
      rintro e w3 ⟨rfl,hb3⟩
      have HB3:=hid (two HB2.out hb3)
      clear hb3 d0 d1 d2
      go_wp2_with fail
      obtain ⟨W2,hW2⟩:∃W2,W2=w3.alloc (.cells #[.string g.name, .string g.text, .int .i64 g.times] 102):=⟨_,rfl⟩
      have BW2:=hid (show Below W1.heap.size W1 W2 by rw [hW2];exact two HB3.out (zA0 _ _))
      rw [←hW2]
      clear hW2 HB2 HB3
      go_loopw [9,10,11] (fun o dn i wr=>∃k:Nat,k≤l.length∧dn= .bool (zR2 l f k).2∧i= .int .i64 k∧wr.ownsRow W2.heap.size 102 3 o (zR2 l f k).1.length ((zR2 l f k).1.flatMap File.cells)∧Below W2.heap.size W2 wr) (fun _ _ i _=>l.length - (intOf i).toNat)
      case atStart=>exact ⟨0,Nat.zero_le _,rfl,rfl,World.ownsRow_nil _ _ _ _,Below.refl _ _⟩
      case round=>
       obtain ⟨k,hk,rfl,rfl,hown,hbw⟩:=hrel
       have hlen:=xU9 l f k hk
       obtain ⟨R,d,hR⟩:∃R d,zR2 l f k=(R,d):=⟨_,_,rfl⟩
       rw [hR] at hown hlen ⊢
       dsimp only at hown hlen ⊢
       have HO0:=hid hown
       have HW0:=hid hbw
       clear hown hbw
       by_cases hlt:k<l.length
       · obtain ⟨ba,oa,rfl,hlb,x0,x1,x2⟩:=Files.cell (HA.out.below (two HB1.out BW2.out)) k hlt
         have XC:Hid (∀W,Below W2.heap.size W2 W→W.cell? ⟨ba,oa+k * 3,none⟩=some (.string l[k].name)∧W.cell? ⟨ba,oa+k * 3+1,none⟩=some (.string l[k].text)∧W.cell? ⟨ba,oa+k * 3+2,none⟩=some (.int .i64 l[k].times)∧W.cell? ⟨w.heap.size,0,none⟩=some (.string f.name)∧W.cell? ⟨w.heap.size,1,none⟩=some (.string f.text)∧W.cell? ⟨w.heap.size,2,none⟩=some (.int .i64 f.times)):=by
          refine hid fun W hb=>?_
          obtain ⟨hc,_⟩:=zN2 hb
          obtain ⟨d0,d1,d2⟩:=CB.out W (two BW2.out hb)
          exact ⟨(hc _ _ hlb).trans x0,(hc _ _ hlb).trans x1,(hc _ _ hlb).trans x2,d0,d1,d2⟩
         clear x0 x1 x2 hlb
         cases d
         · cases hle:(Op.bytesLess f.name.toList l[k].name.toList || f.name.toList==l[k].name.toList)
           · have hb2:bLe f.name l[k].name=false:=hle
             obtain ⟨x0,x1,x2,d0,d1,d2⟩:=XC.out _ HW0.out
             have y0:=zA4 x0
             have z0:=zA4 d0
             clear x0 x1 x2 d0 d1 d2
             go_wp2_with fail
             refine zA6 (by kernel_rfl) (by kernel_rfl) ?_
             repeat (go_big_quiet_step (fail))
             refine wpQuiet_nil ?_
             intro w4 hb4
             have HW4:=hid (two HW0.out hb4)
             have HO4:=hid (HO0.out.kept (⟨hb4.os,hb4.tape,hb4.output,hb4.size,fun j hj _=>hb4.block j hj⟩:World.grownBy _ _ none) (by cases h:Value.ownBlock _ <;> simp))
             clear hb4 y0 z0
             cases hn:(l[k].name.toList==f.name.toList)
             · have HK:Hid (zR2 l f (k+1)=(R++ [l[k]],false)):=hid (by rw [zK8 l f k hlt,hR,zP5];simp [hb2,hn])
               clear hR
               obtain ⟨x0,x1,x2,d0,d1,d2⟩:=XC.out _ HW4.out
               have y0:=zA4 x0
               have z0:=zA4 d0
               clear x0 x1 x2 d0 d1 d2
               go_wp2_with fail
               refine zA6 (by kernel_rfl) (by kernel_rfl) ?_
               repeat (go_big_quiet_step (fail))
               refine wpQuiet_nil ?_
               intro w5 hb5
               have HW5:=hid (two HW4.out hb5)
               have HO5:=hid (HO4.out.kept (⟨hb5.os,hb5.tape,hb5.output,hb5.size,fun j hj _=>hb5.block j hj⟩:World.grownBy _ _ none) (by cases h:Value.ownBlock _ <;> simp))
               clear hb5 y0 z0
               obtain ⟨x0,x1,x2,d0,d1,d2⟩:=XC.out _ HW5.out
               have hz6:=HW5.out.size
               go_wp2_with (at_builtin;refine zB8 zN5 rfl _ _ rfl W2.heap.size _ _ _ rfl (HO5.out.alloc _) ⟨w5.heap.size,0,none⟩ 1 1 [.string l[k].name, .string l[k].text, .int .i64 l[k].times] rfl rfl ?c1 ?c2 ?c3 ?c4 ?_)
               case c1=>exact zK5
               case c2=>exact zN8 l[k]
               case c3=>first | omega | (simp only [List.length_append,List.length_cons,List.length_nil];omega)
               case c4=>simp;omega
               intro v6 w6 hown6 hg6
               have HW6:=hid (zB0 (HW5.out.trans ((zA0 w5 (.cells #[.string l[k].name, .string l[k].text, .int .i64 l[k].times] 102)).mono hz6)) (HO5.out.alloc _) hg6 (Nat.le_refl _))
               have HO6:Hid (w6.ownsRow W2.heap.size 102 3 v6 (R++ [l[k]]).length ((R++ [l[k]]).flatMap File.cells)):=hid (by first | (rw [zI4,List.length_append];exact hown6) | (simp only [List.flatMap_append,List.length_append,List.append_assoc,List.flatMap_cons,List.flatMap_nil,List.append_nil,List.length_cons,List.length_nil];exact hown6))
               clear hown6 hg6 x0 x1 x2 d0 d1 d2
               go_wp2_with fail
               go_roundw
               case rel=>exact ⟨k+1,by omega,by rw [HK.out],by go_num,by rw [HK.out];exact HO6.out,HW6.out⟩
               case measure=>simp [intOf];omega
             · have HK:Hid (zR2 l f (k+1)=(R,false)):=hid (by rw [zK8 l f k hlt,hR,zP5];simp [hb2,hn])
               clear hR
               obtain ⟨x0,x1,x2,d0,d1,d2⟩:=XC.out _ HW4.out
               have y0:=zA4 x0
               have z0:=zA4 d0
               clear x0 x1 x2 d0 d1 d2
               go_wp2_with fail
               refine zA6 (by kernel_rfl) (by kernel_rfl) ?_
               repeat (go_big_quiet_step (fail))
               refine wpQuiet_nil ?_
               intro w5 hb5
               have HW5:=hid (two HW4.out hb5)
               have HO5:=hid (HO4.out.kept (⟨hb5.os,hb5.tape,hb5.output,hb5.size,fun j hj _=>hb5.block j hj⟩:World.grownBy _ _ none) (by cases h:Value.ownBlock _ <;> simp))
               clear hb5 y0 z0
               go_wp2_with fail
               go_roundw
               case rel=>exact ⟨k+1,by omega,by rw [HK.out],by go_num,by rw [HK.out];exact HO5.out,HW5.out⟩
               case measure=>simp [intOf];omega
           · have hb2:bLe f.name l[k].name=true:=hle
             obtain ⟨x0,x1,x2,d0,d1,d2⟩:=XC.out _ HW0.out
             have y0:=zA4 x0
             have z0:=zA4 d0
             clear x0 x1 x2 d0 d1 d2
             go_wp2_with fail
             refine zA6 (by kernel_rfl) (by kernel_rfl) ?_
             repeat (go_big_quiet_step (fail))
             refine wpQuiet_nil ?_
             intro w4 hb4
             have HW4:=hid (two HW0.out hb4)
             have HO4:=hid (HO0.out.kept (⟨hb4.os,hb4.tape,hb4.output,hb4.size,fun j hj _=>hb4.block j hj⟩:World.grownBy _ _ none) (by cases h:Value.ownBlock _ <;> simp))
             clear hb4 y0 z0
             obtain ⟨x0,x1,x2,d0,d1,d2⟩:=XC.out _ HW4.out
             have hz5:=HW4.out.size
             go_wp2_with (at_builtin;refine zB8 zN5 rfl _ _ rfl W2.heap.size _ _ _ rfl (HO4.out.alloc _) ⟨w4.heap.size,0,none⟩ 1 1 [.string f.name, .string f.text, .int .i64 f.times] rfl rfl ?c1 ?c2 ?c3 ?c4 ?_)
             case c1=>exact zK5
             case c2=>exact zN8 f
             case c3=>first | omega | (simp only [List.length_append,List.length_cons,List.length_nil];omega)
             case c4=>simp;omega
             intro v5 w5 hown5 hg5
             have HW5:=hid (zB0 (HW4.out.trans ((zA0 w4 (.cells #[.string f.name, .string f.text, .int .i64 f.times] 102)).mono hz5)) (HO4.out.alloc _) hg5 (Nat.le_refl _))
             have HO5:Hid (w5.ownsRow W2.heap.size 102 3 v5 (R++ [f]).length ((R++ [f]).flatMap File.cells)):=hid (by first | (rw [zI4,List.length_append];exact hown5) | (simp only [List.flatMap_append,List.length_append,List.append_assoc,List.flatMap_cons,List.flatMap_nil,List.append_nil,List.length_cons,List.length_nil];exact hown5))
             clear hown5 hg5 x0 x1 x2 d0 d1 d2
             go_wp2_with fail
             cases hn:(l[k].name.toList==f.name.toList)
             · have HK:Hid (zR2 l f (k+1)=(R++ [f]++ [l[k]],true)):=hid (by rw [zK8 l f k hlt,hR,zP5];simp [hb2,hn])
               clear hR
               obtain ⟨x0,x1,x2,d0,d1,d2⟩:=XC.out _ HW5.out
               have y0:=zA4 x0
               have z0:=zA4 d0
               clear x0 x1 x2 d0 d1 d2
               go_wp2_with fail
               refine zA6 (by kernel_rfl) (by kernel_rfl) ?_
               repeat (go_big_quiet_step (fail))
               refine wpQuiet_nil ?_
               intro w6 hb6
               have HW6:=hid (two HW5.out hb6)
               have HO6:=hid (HO5.out.kept (⟨hb6.os,hb6.tape,hb6.output,hb6.size,fun j hj _=>hb6.block j hj⟩:World.grownBy _ _ none) (by cases h:Value.ownBlock _ <;> simp))
               clear hb6 y0 z0
               obtain ⟨x0,x1,x2,d0,d1,d2⟩:=XC.out _ HW6.out
               have hz7:=HW6.out.size
               go_wp2_with (at_builtin;refine zB8 zN5 rfl _ _ rfl W2.heap.size _ _ _ rfl (HO6.out.alloc _) ⟨w6.heap.size,0,none⟩ 1 1 [.string l[k].name, .string l[k].text, .int .i64 l[k].times] rfl rfl ?c1 ?c2 ?c3 ?c4 ?_)
               case c1=>exact zK5
               case c2=>exact zN8 l[k]
               case c3=>first | omega | (simp only [List.length_append,List.length_cons,List.length_nil];omega)
               case c4=>simp;omega
               intro v7 w7 hown7 hg7
               have HW7:=hid (zB0 (HW6.out.trans ((zA0 w6 (.cells #[.string l[k].name, .string l[k].text, .int .i64 l[k].times] 102)).mono hz7)) (HO6.out.alloc _) hg7 (Nat.le_refl _))
               have HO7:Hid (w7.ownsRow W2.heap.size 102 3 v7 (R++ [f]++ [l[k]]).length ((R++ [f]++ [l[k]]).flatMap File.cells)):=hid (by first | (rw [zI4,List.length_append];exact hown7) | (simp only [List.flatMap_append,List.length_append,List.append_assoc,List.flatMap_cons,List.flatMap_nil,List.append_nil,List.length_cons,List.length_nil];exact hown7))
               clear hown7 hg7 x0 x1 x2 d0 d1 d2
               go_wp2_with fail
               go_roundw
               case rel=>exact ⟨k+1,by omega,by rw [HK.out],by go_num,by rw [HK.out];exact HO7.out,HW7.out⟩
               case measure=>simp [intOf];omega
             · have HK:Hid (zR2 l f (k+1)=(R++ [f],true)):=hid (by rw [zK8 l f k hlt,hR,zP5];simp [hb2,hn])
               clear hR
               obtain ⟨x0,x1,x2,d0,d1,d2⟩:=XC.out _ HW5.out
               have y0:=zA4 x0
               have z0:=zA4 d0
               clear x0 x1 x2 d0 d1 d2
               go_wp2_with fail
               refine zA6 (by kernel_rfl) (by kernel_rfl) ?_
               repeat (go_big_quiet_step (fail))
               refine wpQuiet_nil ?_
               intro w6 hb6
               have HW6:=hid (two HW5.out hb6)
               have HO6:=hid (HO5.out.kept (⟨hb6.os,hb6.tape,hb6.output,hb6.size,fun j hj _=>hb6.block j hj⟩:World.grownBy _ _ none) (by cases h:Value.ownBlock _ <;> simp))
               clear hb6 y0 z0
               go_wp2_with fail
               go_roundw
               case rel=>exact ⟨k+1,by omega,by rw [HK.out],by go_num,by rw [HK.out];exact HO6.out,HW6.out⟩
               case measure=>simp [intOf];omega
         · have hb2:(true=false∧bLe f.name l[k].name=true)=False:=by simp
           obtain ⟨x0,x1,x2,d0,d1,d2⟩:=XC.out _ HW0.out
           have y0:=zA4 x0
           have z0:=zA4 d0
           clear x0 x1 x2 d0 d1 d2
           go_wp2_with fail
           refine zA6 (by kernel_rfl) (by kernel_rfl) ?_
           repeat (go_big_quiet_step (fail))
           refine wpQuiet_nil ?_
           intro w4 hb4
           have HW4:=hid (two HW0.out hb4)
           have HO4:=hid (HO0.out.kept (⟨hb4.os,hb4.tape,hb4.output,hb4.size,fun j hj _=>hb4.block j hj⟩:World.grownBy _ _ none) (by cases h:Value.ownBlock _ <;> simp))
           clear hb4 y0 z0
           cases hn:(l[k].name.toList==f.name.toList)
           · have HK:Hid (zR2 l f (k+1)=(R++ [l[k]],true)):=hid (by rw [zK8 l f k hlt,hR,zP5];simp [hb2,hn])
             clear hR
             obtain ⟨x0,x1,x2,d0,d1,d2⟩:=XC.out _ HW4.out
             have y0:=zA4 x0
             have z0:=zA4 d0
             clear x0 x1 x2 d0 d1 d2
             go_wp2_with fail
             refine zA6 (by kernel_rfl) (by kernel_rfl) ?_
             repeat (go_big_quiet_step (fail))
             refine wpQuiet_nil ?_
             intro w5 hb5
             have HW5:=hid (two HW4.out hb5)
             have HO5:=hid (HO4.out.kept (⟨hb5.os,hb5.tape,hb5.output,hb5.size,fun j hj _=>hb5.block j hj⟩:World.grownBy _ _ none) (by cases h:Value.ownBlock _ <;> simp))
             clear hb5 y0 z0
             obtain ⟨x0,x1,x2,d0,d1,d2⟩:=XC.out _ HW5.out
             have hz6:=HW5.out.size
             go_wp2_with (at_builtin;refine zB8 zN5 rfl _ _ rfl W2.heap.size _ _ _ rfl (HO5.out.alloc _) ⟨w5.heap.size,0,none⟩ 1 1 [.string l[k].name, .string l[k].text, .int .i64 l[k].times] rfl rfl ?c1 ?c2 ?c3 ?c4 ?_)
             case c1=>exact zK5
             case c2=>exact zN8 l[k]
             case c3=>first | omega | (simp only [List.length_append,List.length_cons,List.length_nil];omega)
             case c4=>simp;omega
             intro v6 w6 hown6 hg6
             have HW6:=hid (zB0 (HW5.out.trans ((zA0 w5 (.cells #[.string l[k].name, .string l[k].text, .int .i64 l[k].times] 102)).mono hz6)) (HO5.out.alloc _) hg6 (Nat.le_refl _))
             have HO6:Hid (w6.ownsRow W2.heap.size 102 3 v6 (R++ [l[k]]).length ((R++ [l[k]]).flatMap File.cells)):=hid (by first | (rw [zI4,List.length_append];exact hown6) | (simp only [List.flatMap_append,List.length_append,List.append_assoc,List.flatMap_cons,List.flatMap_nil,List.append_nil,List.length_cons,List.length_nil];exact hown6))
             clear hown6 hg6 x0 x1 x2 d0 d1 d2
             go_wp2_with fail
             go_roundw
             case rel=>exact ⟨k+1,by omega,by rw [HK.out],by go_num,by rw [HK.out];exact HO6.out,HW6.out⟩
             case measure=>simp [intOf];omega
           · have HK:Hid (zR2 l f (k+1)=(R,true)):=hid (by rw [zK8 l f k hlt,hR,zP5];simp [hb2,hn])
             clear hR
             obtain ⟨x0,x1,x2,d0,d1,d2⟩:=XC.out _ HW4.out
             have y0:=zA4 x0
             have z0:=zA4 d0
             clear x0 x1 x2 d0 d1 d2
             go_wp2_with fail
             refine zA6 (by kernel_rfl) (by kernel_rfl) ?_
             repeat (go_big_quiet_step (fail))
             refine wpQuiet_nil ?_
             intro w5 hb5
             have HW5:=hid (two HW4.out hb5)
             have HO5:=hid (HO4.out.kept (⟨hb5.os,hb5.tape,hb5.output,hb5.size,fun j hj _=>hb5.block j hj⟩:World.grownBy _ _ none) (by cases h:Value.ownBlock _ <;> simp))
             clear hb5 y0 z0
             go_wp2_with fail
             go_roundw
             case rel=>exact ⟨k+1,by omega,by rw [HK.out],by go_num,by rw [HK.out];exact HO5.out,HW5.out⟩
             case measure=>simp [intOf];omega
       · have hkl:k=l.length:=by omega
         subst hkl
         cases d
         · have HE:Hid (zV8 l f=R++ [f]):=hid (by unfold zV8;rw [hR];rfl)
           clear hR
           obtain ⟨d0,d1,d2⟩:=CB.out _ (two BW2.out HW0.out)
           have hz4:=HW0.out.size
           go_wp2_with (at_builtin;refine zB8 zN5 rfl _ _ rfl W2.heap.size _ _ _ rfl (HO0.out.alloc _) ⟨wr.heap.size,0,none⟩ 1 1 [.string f.name, .string f.text, .int .i64 f.times] rfl rfl ?c1 ?c2 ?c3 ?c4 ?_)
           case c1=>exact zK5
           case c2=>exact zN8 f
           case c3=>omega
           case c4=>simp;omega
           intro v4 w4 hown4 hg4
           have HW4:=hid (zB0 (HW0.out.trans ((zA0 wr (.cells #[.string f.name, .string f.text, .int .i64 f.times] 102)).mono hz4)) (HO0.out.alloc _) hg4 (Nat.le_refl _))
           have HO4:Hid (w4.ownsRow W2.heap.size 102 3 v4 (R++ [f]).length ((R++ [f]).flatMap File.cells)):=hid (by first | (rw [zI4,List.length_append];exact hown4) | (simp only [List.flatMap_append,List.length_append,List.append_assoc,List.flatMap_cons,List.flatMap_nil,List.append_nil,List.length_cons,List.length_nil];exact hown4))
           clear hown4 hg4
           go_wp2_with fail
           refine bodyPost_ret (v:= .tuple #[v4, .int .i64 0]) (by simp [results, Tryz.results61,go_sem]) rfl ?_
           exact ⟨v4,by rw [HD.out];rfl,by rw [HD.out,HE.out];exact SL.of_own HO4.out,two HB1.out (two BW2.out HW4.out)⟩
         · have HE:Hid (zV8 l f=R):=hid (by unfold zV8;rw [hR];rfl)
           clear hR
           go_wp2_with fail
           refine bodyPost_ret (v:= .tuple #[u9, .int .i64 0]) (by simp [results, Tryz.results61,go_sem]) rfl ?_
           exact ⟨u9,by rw [HD.out];rfl,by rw [HD.out,HE.out];exact SL.of_own HO0.out,two HB1.out (two BW2.out HW0.out)⟩
 · have HD:Hid (zM0 l f=([],zA8 f)):=hid (by unfold zM0;rw [if_pos hff])
   have hpos:(0:Int)<(zA8 f:Int):=by omega
   replace CF:=hid CF
   have HB1:=hid B1
   clear hff B1
   go_enter Tryz.func61, Tryz.ntmps61
   go_wp2_with fail
   refine (CF.out _).mono ?_
   rintro e w2 ⟨rfl,hb2⟩
   have HB2:=hid (two HB1.out hb2)
   clear hb2
   go_wp2_with fail
   refine bodyPost_ret (v:= .tuple #[.slice none 0 0, .int .i64 (zA8 f)]) (by simp [results, Tryz.results61,go_sem]) rfl ?_
   exact ⟨.slice none 0 0,by rw [HD.out],by rw [HD.out];exact Rd.nil _,HB2.out⟩
open Go.RowKit Go.Sort
theorem yQ0 {a b:ByteArray}(h:bLt b a=true):(a.toList==b.toList)=false:=by
 cases e:(a.toList==b.toList)
 · rfl
 · have:a.toList=b.toList:=by simpa using e
   unfold bLt at h
   rw [this,zW1] at h;cases h
theorem zS8 {a b c:ByteArray}(h:(a.toList==b.toList)=true)(h2:bLt a c=true):bLt b c=true:=by
 have:a.toList=b.toList:=by simpa using h
 unfold bLt at h2 ⊢;rwa [←this]
theorem vT7 (l:List File)(name:ByteArray)(hr:Rises l)(r:Nat)(hk:r=zR1 l name)(h:yS3 l name r=true):l.filter (fun f=>f.name.toList != name.toList)=l.take r++l.drop (r+1):=by
 have hl:=zY3 h
 have e:l=l.take r++l[r]::l.drop (r+1):=by rw [←List.drop_eq_getElem_cons hl,List.take_append_drop]
 rw [yD8 l name r hl] at h
 have h1:(l.take r).filter (fun f=>f.name.toList != name.toList)=l.take r:=by
  rw [List.filter_eq_self]
  intro x hx
  obtain ⟨t,ht,rfl⟩:=List.getElem_of_mem hx
  rw [List.getElem_take]
  rw [List.length_take] at ht
  have:=zL3 (zO1 name l t (by omega) (by omega))
  simp only [bne,this,Bool.not_false]
 have h2:(l.drop (r+1)).filter (fun f=>f.name.toList != name.toList)=l.drop (r+1):=by
  rw [List.filter_eq_self]
  intro x hx
  obtain ⟨t,ht,rfl⟩:=List.getElem_of_mem hx
  rw [List.getElem_drop]
  rw [List.length_drop] at ht
  have:=yQ0 (zS8 h (hr.at r (r+1+t) (by omega) (by omega)))
  simp only [bne,this,Bool.not_false]
 calc l.filter (fun f=>f.name.toList != name.toList)=(l.take r++l[r]::l.drop (r+1)).filter (fun f=>f.name.toList != name.toList):=by rw [←e]
  _=_:=by rw [List.filter_append,h1,List.filter_cons,h2];simp [bne,h]
theorem zY1 {a b:ByteArray}(h:bLt b a=true):bLe a b=false:=by
 cases e:bLe a b
 · rfl
 · unfold bLe at e
   rw [Bool.or_eq_true] at e
   rcases e with e | e
   · have h3:bLt a a=true:=zG2 (show bLt a b=true from e) h
     rw [zJ6] at h3;cases h3
   · rw [yQ0 h] at e;cases e
theorem xK9 (l:List File)(f:File):∀k,k≤zR1 l f.name→k≤l.length→zR2 l f k=(l.take k,false)
 | 0,_,_=>by simp [zR2]
 | k+1,h,hl=>by
  have hb:=zO1 f.name l k (by omega) (by omega)
  rw [zK8 l f k (by omega),xK9 l f k (by omega) (by omega),zP5]
  dsimp only
  rw [if_neg (by rw [zL3 hb];simp),if_neg (by rw [zY1 hb];simp),List.take_succ_eq_append_getElem (show k<l.length by omega)]
theorem vD5 (l:List File)(f:File)(k:Nat)(h:k<l.length)(R:List File)(hp:zR2 l f k=(R,true))(hn:(l[k].name.toList==f.name.toList)=false):zR2 l f (k+1)=(R++ [l[k]],true):=by
 rw [zK8 l f k h,hp,zP5];simp [hn]
theorem xC7 (l:List File)(f:File)(r:Nat)(R:List File)(hp:zR2 l f (r+1)=(R,true))(hn:∀t,(ht:t<l.length)→r<t→(l[t].name.toList==f.name.toList)=false):∀k,r+1+k≤l.length→zR2 l f (r+1+k)=(R++(l.drop (r+1)).take k,true)
 | 0,_=>by simp [hp]
 | k+1,h=>by
  have h0:=xC7 l f r R hp hn k (by omega)
  have hk:k<(l.drop (r+1)).length:=by rw [List.length_drop];omega
  have:=vD5 l f (r+1+k) (by omega) _ h0 (hn _ (by omega) (by omega))
  rw [show r+1+(k+1)=r+1+k+1 by omega,this,List.take_succ_eq_append_getElem hk,List.getElem_drop,List.append_assoc]
theorem yB4 (l:List File)(f:File)(hr:Rises l)(r:Nat)(hk:r=zR1 l f.name):zV8 l f=l.take r++f::l.drop (if yS3 l f.name r then r+1 else r):=by
 have hrl:r≤l.length:=by rw [hk];exact vD3 _ _
 have h0:=xK9 l f r (by omega) hrl
 by_cases hl:r<l.length
 · have hge:=by have:=xO6 f.name l (by rw [←hk];exact hl);simpa [←hk] using this
   have hgt:∀t,(ht:t<l.length)→r<t→(l[t].name.toList==f.name.toList)=false:=by
    intro t ht hrt
    have h1:=hr.at r t hrt ht
    cases e:(l[t].name.toList==f.name.toList)
    · rfl
    · have h2:bLt l[r].name f.name=true:=by
       have:l[t].name.toList=f.name.toList:=by simpa using e
       unfold bLt at h1 ⊢;rwa [←this]
      rw [hge] at h2;cases h2
   have hle:bLe f.name l[r].name=true:=by
    cases e:bLe f.name l[r].name
    · have:=zQ1 e
      rw [hge] at this;cases this
    · rfl
   cases hi:yS3 l f.name r
   · have hn:=hi
     rw [yD8 l f.name r hl] at hn
     have h1:zR2 l f (r+1)=(l.take r++ [f]++ [l[r]],true):=by
      rw [zK8 l f r hl,h0,zP5]
      dsimp only
      rw [if_neg (by rw [hn];simp),if_pos ⟨rfl,hle⟩]
     have h2:=xC7 l f r _ h1 hgt (l.length - (r+1)) (by omega)
     rw [show r+1+(l.length - (r+1))=l.length by omega] at h2
     unfold zV8
     rw [h2,if_neg (by simp),List.take_of_length_le (l:=l.drop (r+1)) (by rw [List.length_drop];omega),if_neg (by simp),List.drop_eq_getElem_cons hl]
     simp
   · have hn:=hi
     rw [yD8 l f.name r hl] at hn
     have h1:zR2 l f (r+1)=(l.take r++ [f],true):=by
      rw [zK8 l f r hl,h0,zP5]
      dsimp only
      rw [if_pos hn,if_pos ⟨rfl,hle⟩]
     have h2:=xC7 l f r _ h1 hgt (l.length - (r+1)) (by omega)
     rw [show r+1+(l.length - (r+1))=l.length by omega] at h2
     unfold zV8
     rw [h2,if_neg (by simp),List.take_of_length_le (l:=l.drop (r+1)) (by rw [List.length_drop];omega),if_pos rfl]
     simp
 · have e:r=l.length:=by omega
   rw [vE9 l f.name r hl,if_neg (by simp),List.drop_of_length_le (by omega)]
   unfold zV8
   rw [←e,h0,if_pos rfl]
open Go.RowKit Go.Sort
theorem yM6 (va:Value)(l:List File)(w:World)(ha:Files w va l)(hl:l.length≤8):
 Calls Tryz.prog 116 #[va] w fun e w' =>∃v,e= .returned v∧w'.ownsRow w.heap.size 102 3 v l.length (l.flatMap File.cells)∧Below w.heap.size w w' :=by
 obtain ⟨h1,ao,cap,rfl,h2,h3,h4,h5⟩:=ha
 cases ao with
 | none=>
  have e1:l= []:=by
   cases l with
   | nil=>rfl
   | cons f r=>
    obtain ⟨b,off,e,_⟩:=h5 0 (.string f.name) rfl
    cases e
  subst e1
  refine (AnyE.slices_Clone_nil Tryz.cloneFiles 0 cap w).mono ?_
  rintro e w' ⟨rfl,rfl⟩
  exact ⟨_,rfl,World.ownsRow_nil _ _ _ _,Below.refl _ _⟩
 | some a=>
  have H5:Hid (∀j u,(l.flatMap File.cells)[j]?=some u→(w.alloc (.cells #[] 102)).cell? (a.add j)=some u):=by
   refine hid fun j u hj=>?_
   obtain ⟨b,off,e,hc⟩:=h5 j u hj
   cases e
   rw [Addr.add_lit]
   exact zA1 (zA0 w _) hc
  have H1:=hid h1
  replace h3:cap≤9223372036854775807:=h3
  clear h1 h4 h5
  have q22:∀(w:World) (a:Option Addr) (n c n' c' :Nat),(binOp .eql 30 (.slice a n c) (.slice none n' c')).run Tryz.prog w= .ok (.bool a.isNone) w:=fun w a n c n' c' =>Lib.run_eql_slice_nil w _ _ a n c n' c' Tryz.underlying30
  go_enter Tryz.func116, Tryz.ntmps116
  go_wp2_with (at_builtin;refine zB8 zN5 rfl _ _ rfl w.heap.size _ 0 [] rfl (World.ownsRow_made w #[] 0 (Nat.le_refl _) (Nat.zero_le _) (by simp)) a l.length cap (l.flatMap File.cells) rfl H1.out ?c1 ?c2 ?c3 ?c4 ?_)
  case c1=>exact H5.out
  case c2=>
   intro u hu
   obtain ⟨f,_,hf⟩:=List.mem_flatMap.mp hu
   exact zN8 f u hf
  case c3=>omega
  case c4=>simp
  intro v' w3 hown3 hg3
  have HB3:=hid (zB0 (k:=3) (zA0 w (.cells #[] 102)) (World.ownsRow_made w #[] 0 (Nat.le_refl _) (Nat.zero_le _) (by simp)) hg3 (Nat.le_refl _))
  have HO3:=hid hown3
  clear hown3 hg3
  go_wp2_with fail
  go_ret
  exact ⟨v',rfl,HO3.out,HB3.out⟩
open Go.RowKit Go.Sort
theorem vV6 :(Builtin.zeroCells (Value.agg #[.string ⟨#[]⟩, .string ⟨#[]⟩, .int .i64 0]).cells 1).toList= [.string ⟨#[]⟩, .string ⟨#[]⟩, .int .i64 0]:=by
 first | kernel_rfl | (simp [Builtin.zeroCells,Value.cells];done) | (apply List.ext_getElem <;> simp [Builtin.zeroCells])
theorem xF3 (l:List File)(f:File)(i:Nat):(l.take i++f::l.drop i).flatMap File.cells=(l.take i).flatMap File.cells++f.cells++(l.drop i).flatMap File.cells:=by
 rw [List.flatMap_append,List.flatMap_cons,List.append_assoc]
theorem zR6 (l:List File)(i:Nat):l.flatMap File.cells=(l.take i).flatMap File.cells++(l.drop i).flatMap File.cells:=by
 rw [←List.flatMap_append,List.take_append_drop]
theorem yZ6 {l:List File}:∀u∈l.flatMap File.cells,u.oneCell' =true:=by
 intro u hu
 obtain ⟨f,_,hf⟩:=List.mem_flatMap.mp hu
 exact zN8 f u hf
theorem yQ9 :(Tryz.prog.info? 102).map (·.size)=some 3:=by
 obtain ⟨i0,z0,e1,e2,e3,e4,_⟩:=zN5
 rw [e2];simp [e4]
theorem yP1 {w:World}{g n cap:Nat}{l:List File}(hn:n=l.length)(hc:n≤cap)(hm:cap≤9223372036854775807)(h:∀j u,(l.flatMap File.cells)[j]?=some u→w.cell? ⟨g,j,none⟩=some u):Files w (.slice (some ⟨g,0,none⟩) n cap) l:=by
 subst hn
 refine ⟨zC2 (k:=3) (enc:=File.cells) (fun _=>rfl) l,some ⟨g,0,none⟩,cap,rfl,hc,hm,(fun _ h=>by cases h),fun j u hj=>⟨g,0,rfl,?_⟩⟩
 rw [Nat.zero_add];exact h j u hj
theorem zH8 (l:List File)(i:Nat)(hi:i≤l.length):((l.take i).flatMap File.cells).length=i * 3:=by rw [zC2 (k:=3) (fun _=>rfl),List.length_take,Nat.min_eq_left hi]
theorem yU2 (l:List File)(i:Nat):((l.drop i).flatMap File.cells).length=(l.length - i) * 3:=by rw [zC2 (k:=3) (fun _=>rfl),List.length_drop]

theorem xX6 (base:Nat)(v:Value)(l:List File)(i:Nat)(w:World)(ho:w.ownsRow base 102 3 v l.length (l.flatMap File.cells))(hi:i<l.length)(hl:l.length≤8):
 Calls Tryz.prog 152 #[v, .int .i64 i, .int .i64 ((i:Int)+1)] w fun e w' =>∃v',e= .returned v' ∧Files w' v' (l.take i++l.drop (i+1))∧Below base w w' ∧Fresh base v' :=by
 obtain ⟨g,cap,rfl⟩:∃g cap,v= .slice (some ⟨g,0,none⟩) l.length cap:=by
  rcases ho.2 with ⟨_,h⟩ | ⟨g,cap,_,h,_⟩
  · omega
  · exact ⟨g,cap,h⟩
 obtain ⟨hb,hgw,hnc,hc63,hlen,hcell,hsome,hfro,_⟩:=zK9 ho
 have hic:i≤cap:=by omega
 have hjc:i+1≤cap:=by omega
 have HC:=hid hcell
 have HS:=hid hsome
 have HF:=hid hfro
 have HO:=hid ho
 clear hcell hsome hfro ho hlen
 obtain ⟨news,hnews⟩:∃news,news=(l.drop (i+1)).flatMap File.cells:=⟨_,rfl⟩
 have hnl:news.length=(l.length - (i+1)) * 3:=by rw [hnews,zC2 (k:=3) (fun _=>rfl),List.length_drop]
 obtain ⟨A,hA,hsrc⟩:∃A:Addr,(if cap=i+1 then (some (⟨g,0,none⟩:Addr)) else some ⟨g,(i+1) * 3,none⟩)=some A∧Hid (∀t u,news[t]?=some u→w.drew.cell? (A.add t)=some u):=by
  by_cases h:cap=i+1
  · refine ⟨⟨g,0,none⟩,by simp [h],hid fun t u hu=>?_⟩
    have h0:news.length=0:=by rw [hnl];omega
    rw [List.length_eq_zero_iff.1 h0] at hu
    simp at hu
  · refine ⟨⟨g,(i+1) * 3,none⟩,by simp [h],hid fun t u hu=>?_⟩
    rw [Addr.add_lit]
    refine HC.out ((i+1) * 3+t) u ?_
    rw [hnews] at hu
    have e:l.flatMap File.cells=(l.take (i+1)).flatMap File.cells++(l.drop (i+1)).flatMap File.cells:=by rw [←List.flatMap_append,List.take_append_drop]
    have e2:((l.take (i+1)).flatMap File.cells).length=(i+1) * 3:=by rw [zC2 (k:=3) (fun _=>rfl),List.length_take];congr 1;omega
    rw [e,List.getElem?_append_right (by omega),e2,show (i+1) * 3+t - (i+1) * 3=t by omega]
    exact hu
 have s2:Hid (∀u∈news,u.oneCell' =true):=by
  refine hid fun u hu=>?_
  rw [hnews] at hu
  obtain ⟨f,_,hf⟩:=List.mem_flatMap.mp hu
  exact zN8 f u hf
 have s3:Hid (∀t,t<news.length→(w.drew.cell? ⟨g,0+i * 3+t,none⟩).isSome=true∧w.drew.frozen? ⟨g,0+i * 3+t,none⟩=false):=hid fun t ht=>⟨HS.out _ (by rw [hnl] at ht;omega),HF.out _⟩
 obtain ⟨W1,hW1⟩:∃W1,W1=w.drew.setCells g (0+i * 3) news:=⟨_,rfl⟩
 have s1:=hid hnl
 have hW:=hid hW1
 have HN:=hid hnews
 clear hnl hnews hW1
 have S1:Hid (∀j,j<cap * 3→(W1.cell? ⟨g,j,none⟩).isSome=true):=hid fun j hj=>by rw [hW.out];exact isSome_setCells g news _ _ (fun t ht=>(s3.out t ht).1) j (HS.out j hj)
 have F1:Hid (∀j,W1.frozen? ⟨g,j,none⟩=false):=hid fun j=>by rw [hW.out,World.frozen?_setCells];exact HF.out j
 obtain ⟨W2,hW2⟩:∃W2,W2=W1.setCells g ((i+(l.length - (i+1))) * 3) [.string ⟨#[]⟩, .string ⟨#[]⟩, .int .i64 0]:=⟨_,rfl⟩
 have hcl:∀ty,(Builtin.clear_ #[30] ty #[.slice (some ⟨g,(i+(l.length - (i+1))) * 3,none⟩) (l.length - (i+(l.length - (i+1)))) (cap - (i+(l.length - (i+1))))]).run Tryz.prog W1= .ok (.tuple #[]) W2:=by
  intro ty
  rw [hW2,show l.length - (i+(l.length - (i+1)))=1 by omega]
  refine yO3 W1 _ _ ty _ _ Tryz.underlying30 Tryz.zeroValue102 vV6 ?_ g _ _ ?_ ?_
  · intro u hu;simp at hu;rcases hu with rfl | rfl | rfl <;> rfl
  · intro j hj;simp at hj;exact S1.out _ (by omega)
  · intro j hj;exact F1.out _
 have HFIN:Hid (Files W2 (.slice (some ⟨g,0,none⟩) (i+(l.length - (i+1))) cap) (l.take i++l.drop (i+1))∧Below base w W2∧Fresh base (.slice (some ⟨g,0,none⟩) (i+(l.length - (i+1))) cap)):=by
  refine hid ⟨?_,?_,fun b h=>by cases h;exact hb⟩
  · refine yP1 (by simp;omega) (by omega) hc63 ?_
    rw [List.flatMap_append,←HN.out,hW2]
    have hnl:=s1.out
    intro j u hj
    have hj' :=(List.getElem?_eq_some_iff.1 hj).1
    rw [List.length_append,zH8 l i (by omega),hnl] at hj'
    rw [zK1 _ _ _ (Or.inl (by omega)),hW.out]
    revert j u hj hj'
    have R:=vI9 (W:=w.drew.setCells g (0+i * 3) news) (g:=g) ((l.take i).flatMap File.cells) news ?_ ?_
    · intro j u hj _;exact R j u hj
    · intro j u hj
      have hj' :=(List.getElem?_eq_some_iff.1 hj).1
      rw [zH8 l i (by omega)] at hj'
      rw [zK1 _ _ _ (Or.inl (by omega))]
      refine HC.out j u ?_
      rw [zR6 l i,List.getElem?_append_left (by rw [zH8 l i (by omega)];omega)]
      exact hj
    · intro j u hj
      rw [zH8 l i (by omega),show i * 3+j=0+i * 3+j by omega]
      exact zY8 _ _ (fun t ht=>(s3.out t ht).1) j u hj
  · rw [hW2,hW.out]
    exact zF8 hb _ _ _ (zF8 hb _ _ _ (Below.refl _ _).drew)
 clear hW2
 obtain ⟨i0,z0,e1,e2,e3,e4,e5,e6,e7,e8⟩:=zN5
 have mixed: Tryz.prog.follows .mixedOrders=true:=by kernel_rfl
 have hbd:0≤(i:Int)+1∧(i:Int)+1≤(l.length:Int):=⟨by omega,by omega⟩
 have hbd1:(0:Int)≤(i:Int)+1:=by omega
 have hbd2:(i:Int)+1≤(l.length:Int):=by omega
 go_enter Tryz.func152, Tryz.ntmps152
 go_wp2_with fail
 go_region_law_o (refine step_append_room rfl (.tmp 22) (.tmp 25) 30 rfl 102 i0 3 e1 e2 e4 g 0 i cap (by simp [Act.eval,Act.put]) A (l.length - (i+1)) (cap - (i+1)) news (by simp [Act.eval,Act.put]) s1.out hsrc.out s2.out (by omega) s3.out ?_;rw [←hW.out])
 go_wp2_with fail
 go_ret
 exact ⟨_,rfl,HFIN.out⟩
open Go.RowKit Go.Sort
theorem vS5 (l:List File)(f:File):l.take l.length++f::l.drop l.length=l++ [f]:=by rw [List.take_length,List.drop_length]

theorem yY1 (base:Nat)(v:Value)(l:List File)(f:File)(vb:Nat)(vt:TypeId)(w:World)(ho:w.ownsRow base 102 3 v l.length (l.flatMap File.cells))(hl:l.length≤8)(hbase:base≤w.heap.size)
 (hx:w.heap[vb]?=some (.cells #[.string f.name, .string f.text, .int .i64 f.times] vt (0,0))):
 Calls Tryz.prog 151 #[v, .int .i64 l.length, .slice (some ⟨vb,0,none⟩) 1 1] w fun e w' =>∃v',e= .returned v' ∧Files w' v' (l++ [f])∧Below base w w' ∧Fresh base v' :=by
 have hnews:Hid (∀j u,f.cells[j]?=some u→w.cell? ((⟨vb,0,none⟩:Addr).add j)=some u):=by
  refine hid fun j u hj=>?_
  rw [Addr.add_lit,Nat.zero_add]
  simp only [World.cell?,hx]
  simpa [File.cells] using hj
 obtain ⟨ao,cap,rfl,hcap,hm,H⟩:∃ao cap,v= .slice ao l.length cap∧l.length≤cap∧cap≤9223372036854775807∧Hid (w.ownsRow base 102 3 v l.length (l.flatMap File.cells)):=by
  have h2:=ho.2
  rcases h2 with ⟨rfl,h0⟩ | ⟨g,cap,cur,rfl,_,_,h1,h2,_⟩
  · exact ⟨none,0,by rw [h0],by omega,by omega,hid ho⟩
  · exact ⟨_,cap,rfl,h1,h2,hid ho⟩
 clear ho hx
 have h63:l.length+1≤1000000000:=by omega
 rcases (show cap=l.length∨cap≠l.length by omega) with rfl | hcc
 all_goals
  go_enter Tryz.func151, Tryz.ntmps151
  go_wp2_with (at_builtin;refine zB8 zN5 rfl _ _ rfl base _ _ _ rfl H.out ⟨vb,0,none⟩ 1 1 f.cells rfl rfl hnews.out (zN8 f) h63 hbase ?_)
  intro v' w3 hown3 hg3
  have HB3:=hid ((Below.refl base w).grown hg3 hbase (fun j hj=>(H.out.lt j hj).1))
  have HO3:=hid hown3
  clear hown3 hg3
  go_wp2_with fail
  go_ret
  refine ⟨v',rfl,?_,HB3.out,yH5 HO3.out⟩
  have:=SL.of_own HO3.out
  unfold Files Rd
  rw [zI4,List.length_append]
  exact this

theorem yR1 (base g cap:Nat)(l:List File)(f:File)(i:Nat)(vb:Nat)(vt:TypeId)(w:World)(ho:w.ownsRow base 102 3 (.slice (some ⟨g,0,none⟩) l.length cap) l.length (l.flatMap File.cells))(hl:l.length≤8)(hi:i<l.length)(hroom:l.length+1≤cap)
 (hvb:vb≠g) (hx:w.heap[vb]?=some (.cells #[.string f.name, .string f.text, .int .i64 f.times] vt (0,0))):
 Calls Tryz.prog 151 #[.slice (some ⟨g,0,none⟩) l.length cap, .int .i64 i, .slice (some ⟨vb,0,none⟩) 1 1] w fun e w' =>∃v',e= .returned v' ∧Files w' v' (l.take i++f::l.drop i)∧Below base w w' ∧Fresh base v' :=by
 obtain ⟨hb,hgw,hnc,hc63,hlen,hcell,hsome,hfro,hsh⟩:=zK9 ho
 have hxs:w.shape? vb=some (vt,3):=by simp [World.shape?,hx]
 have hxf:∀j,w.frozen? ⟨vb,j,none⟩=false:=fun j=>by simp [World.frozen?,hx]
 have hxc:∀j u,f.cells[j]?=some u→w.cell? ⟨vb,j,none⟩=some u:=fun j u hj=>by simp only [World.cell?,hx];simpa [File.cells] using hj
 have hsz:∀w,(Go.sizeOf 102).run Tryz.prog w= .ok 3 w:=fun w=>by kernel_rfl
 have hov:∀lb cb,(callFunc 184 #[.slice (some ⟨vb,0,none⟩) 1 1, .slice (some ⟨g,(i+1) * 3,none⟩) lb cb]).run Tryz.prog w= .ok (.value (.bool false)) w:=fun lb cb=>by
  rw [run_callFunc_extern Tryz.func184 (by kernel_rfl) (by kernel_rfl) (by kernel_rfl) (e:=Extern.SlicesOverlaps.overlaps #[30, 30] #[4]) (by kernel_rfl),
   Lib.run_overlaps_apart w 30 4 102 Tryz.underlying30 3 hsz ⟨vb,0,none⟩ ⟨g,(i+1) * 3,none⟩ 1 1 lb cb hvb vt 102 3 (cap * 3) hxs hsh (by omega) (hxf _) (hxf _)]
  rfl
 obtain ⟨post,hpost⟩:∃post,post=(l.drop i).flatMap File.cells:=⟨_,rfl⟩
 have hpl:post.length=(l.length - i) * 3:=by rw [hpost,yU2]
 have hpc:∀j u,post[j]?=some u→w.cell? ⟨g,i * 3+j,none⟩=some u:=fun j u hj=>by
  refine hcell (i * 3+j) u ?_
  rw [zR6 l i,List.getElem?_append_right (by rw [zH8 l i (by omega)];omega),zH8 l i (by omega),show i * 3+j - i * 3=j by omega,←hpost]
  exact hj
 have hp1:∀u∈post,u.oneCell' =true:=by rw [hpost];exact yZ6
 have hcp1:∀ty dc sc,(Builtin.copy_ #[30, 30] ty #[.slice (some ⟨g,(i+1) * 3,none⟩) (l.length - i) dc, .slice (some ⟨g,i * 3,none⟩) (l.length+1 - i) sc]).run Tryz.prog w.drew= .ok (goInt (Nat.min (l.length+1 - i) (l.length - i))) (w.drew.setCells g ((i+1) * 3) post):=fun ty dc sc=>
  zE9 w.drew _ _ ty 102 3 g ((i+1) * 3) _ dc ⟨g,i * 3,none⟩ _ sc post Tryz.underlying30 yQ9 (by rw [hpl,show Nat.min (l.length+1 - i) (l.length - i)=l.length - i by simp only [Nat.min_def];split <;> omega])
   (fun j v hj=>by rw [Addr.add_lit];exact hpc j v hj) (fun j hj=>hsome _ (by omega)) (fun j hj=>hfro _) hp1
 obtain ⟨W1,hW1⟩:∃W1,W1=w.drew.setCells g ((i+1) * 3) post:=⟨_,rfl⟩
 have hs1:∀j,j<cap * 3→(W1.cell? ⟨g,j,none⟩).isSome=true:=fun j hj=>by
  rw [hW1]
  exact isSome_setCells g post ((i+1) * 3) w.drew (fun t ht=>hsome _ (by omega)) _ (hsome j hj)
 have hcp2:∀(W:World),(∀x,W.cell? x=W1.cell? x)→(∀x,W.frozen? x=W1.frozen? x)→∀ty dc,(Builtin.copy_ #[30, 30] ty #[.slice (some ⟨g,i * 3,none⟩) (l.length+1 - i) dc, .slice (some ⟨vb,0,none⟩) 1 1]).run Tryz.prog W= .ok (goInt (Nat.min 1 (l.length+1 - i))) (W.setCells g (i * 3) f.cells):=fun W hWc hWf ty dc=>
  zE9 W _ _ ty 102 3 g (i * 3) _ dc ⟨vb,0,none⟩ 1 1 f.cells Tryz.underlying30 yQ9 (by rw [show Nat.min 1 (l.length+1 - i)=1 by simp only [Nat.min_def];split <;> omega];rfl)
   (fun j v hj=>by rw [Addr.add_lit,Nat.zero_add,hWc,hW1,yE3 _ _ _ hvb];exact hxc j v hj)
   (fun j hj=>by rw [hWc];rw [File.cells_len] at hj;exact hs1 _ (by omega)) (fun j hj=>by rw [hWf,hW1,World.frozen?_setCells];exact hfro _) (zN8 f)
 rw [←hW1] at hcp1
 have HFIN:Hid (Files (W1.setCells g (i * 3) f.cells) (.slice (some ⟨g,0,none⟩) (l.length+1) cap) (l.take i++f::l.drop i)∧Below base w (W1.setCells g (i * 3) f.cells)∧Fresh base (.slice (some ⟨g,0,none⟩) (l.length+1) cap)):=by
  refine hid ⟨?_,?_,fun b h=>by cases h;exact hb⟩
  · refine yP1 (by simp;omega) hroom hc63 ?_
    rw [xF3,←hpost]
    have R:=xK7 (w:=w.drew) (g:=g) ((l.take i).flatMap File.cells) f.cells post ?_ ?_
    · rw [zH8 l i (by omega),File.cells_len,show i * 3+3=(i+1) * 3 by omega,←hW1] at R
      exact R
    · intro j u hj
      refine hcell j u ?_
      have hj' :=(List.getElem?_eq_some_iff.1 hj).1
      rw [zR6 l i,List.getElem?_append_left hj']
      exact hj
    · intro j hj
      rw [zH8 l i (by omega),File.cells_len,hpl] at hj
      exact hsome _ (by omega)
  · rw [hW1]
    exact zF8 hb _ _ _ (zF8 hb _ _ _ (Below.refl _ _).drew)
 have HC1:=hid hcp1
 have HC2:=hid hcp2
 have HOV:=hid hov
 clear hcell hsome hfro hsh hxs hxf hxc hsz hov hpost hpl hpc hp1 hcp1 hW1 hs1 hcp2 ho hx hlen
 have hz2:¬((i:Int)=(l.length:Int)):=by omega
 have hw1:IntKind.i64.wrap ((i:Int)+1)=(i:Int)+1:=by rw [IntKind.wrap_i64];omega
 have hb1:(0:Int)≤(i:Int)+1:=by omega
 have htn:((i:Int)+1).toNat=i+1:=by omega
 have hb2:¬(cap=i+1):=by omega
 have hb3:(i:Int)≤(l.length:Int)+1:=by omega
 have hb4:¬(cap=i):=by omega
 have hb5:i≤l.length:=by omega
 have mixed: Tryz.prog.follows .mixedOrders=true:=by kernel_rfl
 go_enter Tryz.func151, Tryz.ntmps151
 go_wp2_with (simp only [HOV.out])
 go_region_law_o (refine step_copy_runI rfl _ _ 30 30 rfl (.slice (some ⟨g,(i+1) * 3,none⟩) (l.length - i) (cap - (i+1))) (.slice (some ⟨g,i * 3,none⟩) (l.length+1 - i) (cap - i)) (by simp [Act.eval,Act.put]) (by simp [Act.eval,Act.put]) (HC1.out 3 (cap - (i+1)) (cap - i)) ?_)
 go_wp2_with (simp only [HC2.out W1 (fun _=>rfl) (fun _=>rfl)])
 go_ret
 exact ⟨_,rfl,HFIN.out⟩
theorem yU1 (base g cap:Nat)(l:List File)(f:File)(i:Nat)(vb:Nat)(vt:TypeId)(w:World)(ho:w.ownsRow base 102 3 (.slice (some ⟨g,0,none⟩) l.length cap) l.length (l.flatMap File.cells))(hl:l.length≤8)(hi:i<l.length)(hroom:cap=l.length)
 (hbase:base≤w.heap.size) (hx:w.heap[vb]?=some (.cells #[.string f.name, .string f.text, .int .i64 f.times] vt (0,0))):
 Calls Tryz.prog 151 #[.slice (some ⟨g,0,none⟩) l.length cap, .int .i64 i, .slice (some ⟨vb,0,none⟩) 1 1] w fun e w' =>∃v',e= .returned v' ∧Files w' v' (l.take i++f::l.drop i)∧Below base w w' ∧Fresh base v' :=by
 obtain ⟨hb,hgw,hnc,hc63,hlen,hcell,hsome,hfro,hsh⟩:=zK9 ho
 have hxc:∀j u,f.cells[j]?=some u→w.cell? ⟨vb,j,none⟩=some u:=fun j u hj=>by simp only [World.cell?,hx];simpa [File.cells] using hj
 have hvw:vb<w.heap.size:=World.block_lt_of_cell? w ⟨vb,0,none⟩ (hxc 0 _ rfl)
 obtain ⟨i0,z0,e1,e2,e3,e4,e5,e6,e7,e8⟩:=zN5
 obtain ⟨pre,hpre⟩:∃pre,pre=(l.take i).flatMap File.cells:=⟨_,rfl⟩
 have hql:pre.length=i * 3:=by rw [hpre,zH8 l i (by omega)]
 have hqc:∀j u,pre[j]?=some u→w.cell? ⟨g,j,none⟩=some u:=fun j u hj=>by
  refine hcell j u ?_
  have hj' :=(List.getElem?_eq_some_iff.1 hj).1
  rw [zR6 l i,←hpre,List.getElem?_append_left hj']
  exact hj
 obtain ⟨post,hpost⟩:∃post,post=(l.drop i).flatMap File.cells:=⟨_,rfl⟩
 have hpl:post.length=(l.length - i) * 3:=by rw [hpost,yU2]
 have hpc:∀j u,post[j]?=some u→w.cell? ⟨g,i * 3+j,none⟩=some u:=fun j u hj=>by
  refine hcell (i * 3+j) u ?_
  rw [zR6 l i,List.getElem?_append_right (by rw [zH8 l i (by omega)];omega),zH8 l i (by omega),show i * 3+j - i * 3=j by omega,←hpost]
  exact hj
 have hp1:∀u∈post,u.oneCell' =true:=by rw [hpost];exact yZ6
 have hold:(Builtin.firstCells i0.size i (.slice (some ⟨g,0,none⟩) i cap)).run Tryz.prog w.drew= .ok pre.toArray w.drew:=by
  rw [e4]
  exact run_firstCells_some w.drew 3 i ⟨g,0,none⟩ i cap pre hql (fun j v hj=>by rw [Addr.add_lit,Nat.zero_add];exact hqc j v hj)
 have hkk:(l.length:Int)+1 - (i:Int)=((l.length+1 - i:Nat):Int):=by omega
 have hik:i+(l.length+1 - i)=l.length+1:=by omega
 obtain ⟨G,hG⟩:∃G,G=grownCap w (l.length+1) cap 102:=⟨_,rfl⟩
 obtain ⟨ROW,hROW⟩:∃ROW:Array Value,ROW=pre.toArray++Builtin.zeroCells z0.cells (l.length+1 - i)++Builtin.zeroCells z0.cells (G - (l.length+1)):=⟨_,rfl⟩
 have hGn:l.length+1≤G:=by rw [hG];exact grownCap_ge w _ _ _
 have hG63:G≤9223372036854775807:=by
  have:=grownCap_le_maxLen w (l.length+1) cap 102 (by unfold maxLen;omega)
  rw [←hG] at this
  unfold maxLen at this
  omega
 have hRl:ROW.size=G * 3:=by
  rw [hROW]
  simp [Builtin.zeroCells,e6,hql]
  omega
 have hrz:∀ty,(Builtin.append_ #[30, 3] ty #[.slice (some ⟨g,0,none⟩) i cap, .int .i64 ((l.length:Int)+1 - (i:Int))]).run Tryz.prog w=
     .ok (.slice (some ⟨w.heap.size,0,none⟩) (l.length+1) G) (w.drew.alloc (.cells ROW 102)):=fun ty=>by
  have h:=Lib.run_append_grow_zeros w 30 3 ty 102 i0 z0 .i64 .i64 Tryz.underlying30 Tryz.underlying3 e2 e3 (some ⟨g,0,none⟩) i cap pre hold (l.length+1 - i) (by omega) (by omega) (by omega) (by omega) (by rw [e5];omega) (by rw [e5,hik];exact growslice_fits (by omega) (by omega))
  rw [hik] at h
  rw [hkk,hROW,hG]
  exact h
 obtain ⟨W1,hW1⟩:∃W1,W1=w.drew.alloc (.cells ROW 102):=⟨_,rfl⟩
 rw [←hW1] at hrz
 have hN:∀j,j<G * 3→(W1.cell? ⟨w.heap.size,j,none⟩).isSome=true:=fun j hj=>by
  rw [hW1,World.cell?_alloc_at (w:=w.drew) ROW _ w.heap.size j rfl,Array.getElem?_eq_getElem (by omega)];rfl
 have hNp:∀j u,pre[j]?=some u→W1.cell? ⟨w.heap.size,j,none⟩=some u:=fun j u hj=>by
  have hj' :=(List.getElem?_eq_some_iff.1 hj).1
  rw [hW1,World.cell?_alloc_at (w:=w.drew) ROW _ w.heap.size j rfl,hROW,Array.getElem?_append_left (by simp;omega),Array.getElem?_append_left (by simp;omega)]
  simpa using hj
 have hNf:∀j,W1.frozen? ⟨w.heap.size,j,none⟩=false:=fun j=>by rw [hW1];exact World.frozen?_alloc_at (w:=w.drew) ROW _ w.heap.size j rfl
 have hOb:∀b j v,b<w.heap.size→w.cell? ⟨b,j,none⟩=some v→W1.cell? ⟨b,j,none⟩=some v:=fun b j v hb h=>by rw [hW1,World.cell?_alloc_past (w:=w.drew) _ b j hb];exact h
 have hcpA:∀ty dc,(Builtin.copy_ #[30, 30] ty #[.slice (some ⟨w.heap.size,i * 3,none⟩) (l.length+1 - i) dc, .slice (some ⟨vb,0,none⟩) 1 1]).run Tryz.prog W1= .ok (goInt (Nat.min 1 (l.length+1 - i))) (W1.setCells w.heap.size (i * 3) f.cells):=fun ty dc=>
  zE9 W1 _ _ ty 102 3 w.heap.size (i * 3) _ dc ⟨vb,0,none⟩ 1 1 f.cells Tryz.underlying30 yQ9 (by rw [show Nat.min 1 (l.length+1 - i)=1 by simp only [Nat.min_def];split <;> omega];rfl)
   (fun j v hj=>by rw [Addr.add_lit,Nat.zero_add];exact hOb _ _ _ hvw (hxc j v hj))
   (fun j hj=>by rw [File.cells_len] at hj;exact hN _ (by omega)) (fun j hj=>hNf _) (zN8 f)
 obtain ⟨W2,hW2⟩:∃W2,W2=W1.setCells w.heap.size (i * 3) f.cells:=⟨_,rfl⟩
 rw [←hW2] at hcpA
 have hcpB:∀ty dc sc,(Builtin.copy_ #[30, 30] ty #[.slice (some ⟨w.heap.size,(i+1) * 3,none⟩) (l.length - i) dc, .slice (some ⟨g,i * 3,none⟩) (l.length - i) sc]).run Tryz.prog W2.drew= .ok (goInt (Nat.min (l.length - i) (l.length - i))) (W2.drew.setCells w.heap.size ((i+1) * 3) post):=fun ty dc sc=>
  zE9 W2.drew _ _ ty 102 3 w.heap.size ((i+1) * 3) _ dc ⟨g,i * 3,none⟩ _ sc post Tryz.underlying30 yQ9 (by rw [hpl,show Nat.min (l.length - i) (l.length - i)=l.length - i by simp])
   (fun j v hj=>by
    rw [Addr.add_lit]
    show W2.cell? _=_
    rw [hW2,yE3 _ _ _ (by omega)]
    exact hOb _ _ _ hgw (hpc j v hj))
   (fun j hj=>by
    show (W2.cell? _).isSome=true
    rw [hW2]
    exact isSome_setCells w.heap.size f.cells (i * 3) W1 (fun t ht=>by rw [File.cells_len] at ht;exact hN _ (by omega)) _ (hN _ (by omega)))
   (fun j hj=>by
    show W2.frozen? _=false
    rw [hW2,World.frozen?_setCells];exact hNf _) hp1
 obtain ⟨W3,hW3⟩:∃W3,W3=W2.drew.setCells w.heap.size ((i+1) * 3) post:=⟨_,rfl⟩
 rw [←hW3] at hcpB
 have HFIN:Hid (Files W3 (.slice (some ⟨w.heap.size,0,none⟩) (l.length+1) G) (l.take i++f::l.drop i)∧Below base w W3∧Fresh base (.slice (some ⟨w.heap.size,0,none⟩) (l.length+1) G)):=by
  refine hid ⟨?_,?_,fun b h=>by cases h;exact hbase⟩
  · refine yP1 (by simp;omega) hGn hG63 ?_
    rw [xF3,←hpost,←hpre]
    have R:=xU3 (w:=W1) (g:=w.heap.size) pre f.cells post hNp (fun j hj=>hN _ (by rw [hql,hpl,File.cells_len] at hj;omega))
    rw [hql,File.cells_len,show i * 3+3=(i+1) * 3 by omega,←hW2] at R
    rw [hW3,←drew_setCells]
    exact R
  · rw [hW3]
    refine zF8 hbase _ _ _ (Below.drew ?_)
    rw [hW2]
    refine zF8 hbase _ _ _ ?_
    rw [hW1]
    exact (Below.refl _ _).drew.alloc hbase _
 have HRZ:=hid hrz
 have HA:=hid hcpA
 have HB:=hid hcpB
 have hw1:IntKind.i64.wrap ((i:Int)+1)=(i:Int)+1:=by rw [IntKind.wrap_i64];omega
 have hz2:¬((i:Int)=(l.length:Int)):=by omega
 have hz3:(cap:Int)<(l.length:Int)+1:=by omega
 have hb1:(0:Int)≤(i:Int)+1:=by omega
 have htn:((i:Int)+1).toNat=i+1:=by omega
 have hb3:(i:Int)≤(l.length:Int)+1:=by omega
 have hb5:i≤l.length:=by omega
 have hb6:i≤cap:=by omega
 have hci:¬(cap=i):=by omega
 have hGi:¬(G=i):=by omega
 have hGim:¬(G=i+1):=by omega
 have mixed: Tryz.prog.follows .mixedOrders=true:=by kernel_rfl
 clear hcell hsome hfro hsh hx hxc hvw e1 e2 e3 e4 e5 e6 e7 e8 hpre hql hqc hpost hpl hpc hp1 hold hkk hik hG hROW hRl hrz hW1 hN hNp hNf hOb hcpA hW2 hcpB hW3 ho hlen hroom hb hgw
 go_enter Tryz.func151, Tryz.ntmps151
 go_wp2_with (first
  | (at_builtin;refine Lib.wpList_append_run _ rfl _ _ _ _ rfl _ _ rfl rfl _ _ (HRZ.out _) ?_)
  | (simp only [HA.out]))
 go_region_law_o (refine step_copy_runI rfl _ _ 30 30 rfl (.slice (some ⟨w.heap.size,(i+1) * 3,none⟩) (l.length - i) (G - (i+1))) (.slice (some ⟨g,i * 3,none⟩) (l.length - i) (cap - i)) (by simp [Act.eval,Act.put]) (by simp [Act.eval,Act.put]) (HB.out 3 (G - (i+1)) (cap - i)) ?_)
 go_wp2_with fail
 go_ret
 exact ⟨_,rfl,HFIN.out⟩

theorem xX5 (base:Nat)(v:Value)(l:List File)(f:File)(i:Nat)(vb:Nat)(vt:TypeId)(w:World)(ho:w.ownsRow base 102 3 v l.length (l.flatMap File.cells))(hl:l.length≤8)(hi:i≤l.length)
 (hbase:base≤w.heap.size) (hvb:v.ownBlock≠some vb) (hx:w.heap[vb]?=some (.cells #[.string f.name, .string f.text, .int .i64 f.times] vt (0,0))):
 Calls Tryz.prog 151 #[v, .int .i64 i, .slice (some ⟨vb,0,none⟩) 1 1] w fun e w' =>∃v',e= .returned v' ∧Files w' v' (l.take i++f::l.drop i)∧Below base w w' ∧Fresh base v' :=by
 by_cases h:i=l.length
 · subst h
   rw [vS5]
   exact yY1 base v l f vb vt w ho hl hbase hx
 · obtain ⟨g,cap,rfl⟩:∃g cap,v= .slice (some ⟨g,0,none⟩) l.length cap:=by
    rcases ho.2 with ⟨_,h⟩ | ⟨g,cap,_,h,_⟩
    · omega
    · exact ⟨g,cap,h⟩
   by_cases hroom:l.length+1≤cap
   · refine yR1 base g cap l f i vb vt w ho hl (by omega) hroom ?_ hx
     rintro rfl;exact hvb rfl
   · have:=(zK9 ho).2.2.1
     exact yU1 base g cap l f i vb vt w ho hl (by omega) (by omega) hbase hx
open Go.RowKit Go.Sort
def zX0 (p:List File × Nat)(w:World)(e:Ending)(w' :World):Prop:=∃v,e= .returned (.tuple #[v,zE6 p.2])∧Files w' v p.1∧Below w.heap.size w w' ∧Fresh w.heap.size v
theorem uG5 (l:List File)(name:ByteArray)(h:zC6 l name=none):zK4 l name=([],5):=by unfold zK4;rw [h];rfl
theorem uG4 (l:List File)(name:ByteArray)(hr:Rises l)(r:Nat)(hk:r=zR1 l name)(h:yS3 l name r=true):zK4 l name=(l.take r++l.drop (r+1),0):=by
 have hl:=zY3 h
 subst hk
 unfold zK4
 rw [yZ4 l name hl h,←vT7 l name hr _ rfl h]
 rfl

theorem yV3 (va:Value)(l:List File)(name:ByteArray)(w:World)(ha:Files w va l)(hl:l.length≤8)(hr:Rises l):
 Calls Tryz.prog 114 #[va, .string name] w (zX0 (zK4 l name) w):=by
 have C:=yS9 va l name w ha hl hr
 have CC:=hid fun W hb=>yM6 va l W (Rd.below ha hb) hl
 obtain ⟨ao,ca,rfl,hca,hca'⟩:=ha.parts
 unfold yU8 at C
 cases hi:yS3 l name (zR1 l name)
 · have HD:=hid (uG5 l name (yH3 l name hr hi))
   rw [hi] at C
   replace C:=hid C
   clear ha hi hr
   go_enter Tryz.func114, Tryz.ntmps114
   go_wp2_with fail
   refine (C.out).mono ?_
   rintro e w2 ⟨rfl,hb2⟩
   have HB2:=hid hb2
   clear hb2
   go_wp2_with fail
   refine bodyPost_ret (v:= .tuple #[.slice none 0 0,zE6 5]) (by simp [results, Tryz.results114,go_sem,zE6]) rfl ?_
   exact ⟨_,by rw [HD.out],by rw [HD.out];exact Rd.nil _,HB2.out,zH5 _⟩
 · obtain ⟨k,hkk⟩:∃k,k=zR1 l name:=⟨_,rfl⟩
   have hk:k<l.length:=by rw [hkk];exact zY3 hi
   have HD:=hid (uG4 l name hr k hkk (by rw [hkk];exact hi))
   rw [hi,←hkk] at C
   replace C:=hid C
   clear ha hi hr hkk
   go_enter Tryz.func114, Tryz.ntmps114
   go_wp2_with fail
   refine (C.out).mono ?_
   rintro e w2 ⟨rfl,hb2⟩
   have HB2:=hid hb2
   clear hb2
   go_wp2_with fail
   refine (CC.out _ HB2.out).mono ?_
   rintro e w3 ⟨v,rfl,ho,hb3⟩
   have HO:=hid ho
   have HB3:=hid hb3
   clear ho hb3
   go_wp2_with fail
   refine (xX6 _ v l k _ HO.out hk hl).mono ?_
   rintro e w4 ⟨v',rfl,hf,hb4,hfr⟩
   have HFR:=hid (hfr.mono HB2.out.size)
   have HF:=hid hf
   have HB4:=hid (HB2.out.trans ((HB3.out.trans hb4).mono HB2.out.size))
   clear hf hb4 hfr
   go_wp2_with fail
   refine bodyPost_ret (v:= .tuple #[v',zE6 0]) (by simp [results, Tryz.results114,go_sem,zE6]) rfl ?_
   exact ⟨_,by rw [HD.out],by rw [HD.out];exact HF.out,HB4.out,HFR.out⟩
theorem yP5 {w w' :World}{base e k n:Nat}{v:Value}{xs:List Value}(h:w.ownsRow base e k v n xs)(hb:Below w.heap.size w w'):w'.ownsRow base e k v n xs:=
 h.kept (⟨hb.os,hb.tape,hb.output,hb.size,fun j hj _=>hb.block j hj⟩:World.grownBy _ _ none) (by cases h:Value.ownBlock _ <;> simp)
theorem xP7 (w:World)(o:Obj):(w.alloc o).heap[w.heap.size]?=some o:=by
 show (w.heap.push o)[w.heap.size]?=some o
 simp
theorem own_put {w:World}{base g n cap:Nat}{l:List File}(f:File)(k:Nat)(hk:k<l.length)(hn:n=l.length)(ho:w.ownsRow base 102 3 (.slice (some ⟨g,0,none⟩) n cap) n (l.flatMap File.cells)):
 Files (((w.setCell ⟨g,k * 3,none⟩ (.string f.name)).setCell ⟨g,k * 3+1,none⟩ (.string f.text)).setCell ⟨g,k * 3+2,none⟩ (.int .i64 f.times)) (.slice (some ⟨g,0,none⟩) n cap) (l.take k++f::l.drop (k+1)):=by
 subst hn
 obtain ⟨hb,hgw,hnc,hc63,hlen,hcell,hsome,hfro,hsh⟩:=zK9 ho
 show Files (w.setCells g (k * 3) f.cells) _ _
 refine yP1 (by simp;omega) hnc hc63 ?_
 have hq:=zH8 l k (by omega)
 have hp:((l.drop (k+1)).flatMap File.cells).length=(l.length - (k+1)) * 3:=yU2 l (k+1)
 have R:=yB0 (W:=w.setCells g (k * 3) f.cells) (g:=g) ((l.take k).flatMap File.cells) f.cells ((l.drop (k+1)).flatMap File.cells) ?_ ?_ ?_
 · rw [List.flatMap_append,List.flatMap_cons,←List.append_assoc]
   exact R
 · intro j u hj
   have hj' :=(List.getElem?_eq_some_iff.1 hj).1
   rw [zK1 _ _ _ (Or.inl (by omega))]
   refine hcell j u ?_
   rw [zR6 l k,List.getElem?_append_left hj']
   exact hj
 · intro j u hj
   rw [hq]
   exact zY8 _ _ (fun t ht=>hsome _ (by rw [File.cells_len] at ht;omega)) j u hj
 · intro j u hj
   have hj' :=(List.getElem?_eq_some_iff.1 hj).1
   rw [hq,File.cells_len,zK1 _ _ _ (Or.inr (by rw [File.cells_len];omega))]
   refine hcell _ u ?_
   rw [zR6 l (k+1),List.getElem?_append_right (by rw [zH8 l (k+1) (by omega)];omega),zH8 l (k+1) (by omega),show k * 3+3+j - (k+1) * 3=j by omega]
   exact hj
theorem uA5 (l:List File)(f:File)(h:zA8 f≠0):zM0 l f=([],zA8 f):=by unfold zM0;rw [if_pos h]
theorem put_is (l:List File)(f:File)(hf:zA8 f=0)(hr:Rises l)(r:Nat)(hk:r=zR1 l f.name)(h:yS3 l f.name r=true):zM0 l f=(l.take r++f::l.drop (r+1),0):=by
 have hg:=yZ4 l f.name (by rw [←hk];exact zY3 h) (by rw [←hk];exact h)
 unfold zM0
 rw [if_neg (by simp [hf]),if_neg (by simp [hg]),yB4 l f hr r hk,if_pos h]
theorem uM6 (l:List File)(f:File)(hf:zA8 f=0)(hr:Rises l)(h:yS3 l f.name (zR1 l f.name)=false)(h8:8≤l.length):zM0 l f=([],7):=by
 unfold zM0
 rw [if_neg (by simp [hf]),if_pos ⟨by rw [yH3 l f.name hr h];rfl,h8⟩]
theorem put_new (l:List File)(f:File)(hf:zA8 f=0)(hr:Rises l)(r:Nat)(hk:r=zR1 l f.name)(h:yS3 l f.name r=false)(h8:¬8≤l.length):zM0 l f=(l.take r++f::l.drop r,0):=by
 unfold zM0
 rw [if_neg (by simp [hf]),if_neg (by intro hh;exact h8 hh.2),yB4 l f hr r hk,if_neg (by simp [h])]

open Go.RowKit Go.Sort
def BoxF (b:Nat)(f:File)(w0:World):Prop:=∀W,Below w0.heap.size w0 W→W.cell? ⟨b,0,none⟩=some (.string f.name)∧W.cell? ⟨b,1,none⟩=some (.string f.text)∧W.cell? ⟨b,2,none⟩=some (.int .i64 f.times)
theorem box_of {b:Nat}{f:File}{w0:World}(hb:b<w0.heap.size)(c0:w0.cell? ⟨b,0,none⟩=some (.string f.name))(c1:w0.cell? ⟨b,1,none⟩=some (.string f.text))(c2:w0.cell? ⟨b,2,none⟩=some (.int .i64 f.times)):BoxF b f w0:=fun W h=>by
 obtain ⟨hc,_⟩:=zN2 h
 exact ⟨(hc _ _ hb).trans c0,(hc _ _ hb).trans c1,(hc _ _ hb).trans c2⟩
theorem zF0 (w:World)(f:File):BoxF w.heap.size f (w.alloc (.cells #[.string f.name, .string f.text, .int .i64 f.times] 102)):=
 box_of (by simp) (by simp) (by simp) (by simp)
end Go.Proofs.YtggpodlecljcbabGreatDoor
