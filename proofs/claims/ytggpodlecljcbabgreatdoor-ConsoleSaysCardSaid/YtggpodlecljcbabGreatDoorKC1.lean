/- The walks of the document's digits: Decimal, noughted. -/
import Derived.Deep.RegionLaw
import Derived.BigQuiet
import Derived.Lib.AtoiErrMem
import Derived.Test.YtggpodlecljcbabGreatDoorKI
import Derived.Test.YtggpodlecljcbabGreatDoorKC0
import Derived.Test.YtggpodlecljcbabGreatDoorKK4
namespace Go.Proofs.YtggpodlecljcbabGreatDoor
set_option linter.unusedSimpArgs false
set_option linter.unusedVariables false
set_option maxRecDepth 100000
set_option maxHeartbeats 64000000
open Lib (hid)
open Go.RowKit Go.Sort
def xY6 (n:Nat):ByteArray:=⟨(Lib.decDigits n).toArray⟩
theorem yC1 {n:Nat}(h:n<10):xY6 n=⟨#[dgI n]⟩:=by
 unfold xY6
 rw [Lib.decDigits,dif_pos h]
 rfl
theorem xA1 {n:Nat}(h:¬n<10):xY6 n=xY6 (n / 10)++⟨#[dgI (n % 10)]⟩:=by
 unfold xY6
 rw [Lib.decDigits,dif_neg h]
 apply ByteArray.ext
 apply Array.toList_inj.1
 rw [yE4]
 rfl
theorem xY5 :∀(n:Nat),n≤9999→(xY6 n).size≤4:=by
 intro n hn
 by_cases h1:n<10
 · rw [yC1 h1];exact (by decide:(1:Nat)≤4)
 rw [xA1 h1,ByteArray.size_append]
 have s1:∀k,(⟨#[dgI k]⟩:ByteArray).size=1:=fun k=>rfl
 rw [s1]
 by_cases h2:n / 10<10
 · rw [yC1 h2,s1];omega
 rw [xA1 h2,ByteArray.size_append,s1]
 by_cases h3:n / 10 / 10<10
 · rw [yC1 h3,s1];omega
 rw [xA1 h3,ByteArray.size_append,s1,yC1 (by omega),s1]
 omega
theorem xY9 (k:UInt8)(g:Nat)(W:World)(h:W.cell? ⟨g,0,none⟩=some (.int .u8 k.toNat)):(convert 112 9 (.slice (some ⟨g,0,none⟩) 1 1)).run Tryz.prog W= .ok (.string ⟨#[k]⟩) W:=by
 refine run_convert_bytes_back (P:= Tryz.prog) _ 112 9 5 ⟨g,0,none⟩ 1 [k] Tryz.underlying112 Tryz.underlying5 Tryz.underlying9 (fun j hj=>?_)
 rw [Addr.add_lit]
 match j,hj with
 | 0,_=>simpa using h
theorem uR2 {w0 wA:World}{a:Value}{t:TypeId}(h:Below (w0.alloc (.cells #[a] t)).heap.size (w0.alloc (.cells #[a] t)) wA):wA.cell? ⟨w0.heap.size,0,none⟩=some a∧∀o,(wA.alloc o).cell? ⟨w0.heap.size,0,none⟩=some a:=by
 have hlt:w0.heap.size<(w0.alloc (.cells #[a] t)).heap.size:=by simp
 exact ⟨by rw [(zN2 h).1 _ _ hlt];simp,fun o=>by rw [(zN2 (two h (zA0 _ o))).1 _ _ hlt];simp⟩
theorem yM1 :∀(n:Nat),n≤9999→∀w,Calls Tryz.prog 43 #[.int .i64 (n:Int)] w fun e w' =>e= .returned (.string (xY6 n))∧Below w.heap.size w w' :=by
 intro n
 induction n using Nat.strongRecOn with
 | _ n ih=>
  intro hn w
  have hn0:¬(n:Int)<0:=by omega
  by_cases h1:n<10
  · have h1i:(n:Int)<10:=by omega
    obtain ⟨R,hR⟩:∃R,R=xY6 n:=⟨_,rfl⟩
    have hR2:R=⟨#[dgI n]⟩:=by rw [hR,yC1 h1]
    have hd:=yI0 h1
    have hcv:(convert 112 9 (.slice (some ⟨w.heap.size,0,none⟩) 1 1)).run Tryz.prog (w.alloc (.cells #[.int .u8 (48+(n:Int))] 5))= .ok (.string R) (w.alloc (.cells #[.int .u8 (48+(n:Int))] 5)):=by
     rw [hR2]
     refine xY9 (dgI n) w.heap.size _ ?_
     rw [hd]
     simp
    have hw:IntKind.u8.wrap (48+(n:Int))=48+(n:Int):=by simp [IntKind.wrap,IntKind.signed,IntKind.bits];omega
    have HB:=hid (zA0 w (.cells #[.int .u8 (48+(n:Int))] 5))
    rw [←hR]
    clear hR hR2 hd ih h1
    go_enter Tryz.func43, Tryz.ntmps43
    go_wp2_with fail
    go_ret
    exact ⟨rfl,HB.out⟩
  · have h1i:¬(n:Int)<10:=by omega
    obtain ⟨q,hq⟩:∃q:Nat,q=n / 10:=⟨_,rfl⟩
    obtain ⟨r,hr⟩:∃r:Nat,r=n % 10:=⟨_,rfl⟩
    have hqi:(n:Int) / 10=(q:Int):=by omega
    have hqt:Int.tdiv (n:Int) 10=(q:Int):=by rw [hq];rfl
    have hri:(n:Int) % 10=(r:Int):=by omega
    have hrt:Int.tmod (n:Int) 10=(r:Int):=by rw [hr];rfl
    have C:=hid (ih q (by omega) (by omega))
    have hr10:r<10:=by omega
    have hd:=yI0 hr10
    obtain ⟨d,hdd⟩:∃d:ByteArray,d=⟨#[dgI r]⟩:=⟨_,rfl⟩
    have hdz:d.size=1:=by rw [hdd];rfl
    have hc1:∀g W,W.cell? ⟨g,0,none⟩=some (.int .u8 (48+(r:Int)))→(convert 112 9 (.slice (some ⟨g,0,none⟩) 1 1)).run Tryz.prog W= .ok (.string d) W:=fun g W h=>by
     rw [hdd]
     refine xY9 (dgI r) g W ?_
     rw [hd,h]
     rfl
    have hw:IntKind.u8.wrap (48+(r:Int))=48+(r:Int):=by simp [IntKind.wrap,IntKind.signed,IntKind.bits];omega
    have hwq:IntKind.i64.wrap (q:Int)=(q:Int):=by rw [IntKind.wrap_i64];omega
    have hwr:IntKind.i64.wrap (48+(r:Int))=48+(r:Int):=by rw [IntKind.wrap_i64];omega
    obtain ⟨f,hf⟩:∃f,f=xY6 q:=⟨_,rfl⟩
    have hz:f.size≤4:=by rw [hf];exact xY5 q (by omega)
    have hz2:¬9223372036854775807<f.size+1:=by omega
    have hz3:¬9223372036854775807<f.size+d.size:=by omega
    have HR:Hid (xY6 n=f++d):=hid (by rw [xA1 h1,hf,hdd,hq,hr])
    rw [HR.out]
    rw [←hf] at C
    clear hf hdd hd hq hr ih h1
    go_enter Tryz.func43, Tryz.ntmps43
    go_wp2_with fail
    go_region_law (first
     | (go_simp;go_at_call 43;refine (C.out _).mono ?_;rintro e wA ⟨rfl,hbA⟩;have HBA:Hid (Below w.heap.size w wA):=hid (by first | exact two (Below.refl _ _).drew hbA | exact two (zA0 _ _).drew hbA);have hbA2:=two (Below.refl _ _).drew hbA;first | (have G:=uR2 hbA2;(try simp at G)) | skip))
    all_goals
     go_wp2_with fail
     go_ret
     exact ⟨rfl,by first | exact HBA.out | exact two HBA.out (zA0 _ _)⟩
def zB (k:Nat):ByteArray:=⟨(List.replicate k 48).toArray⟩
theorem four_zB (n:Nat):zO2 (n:Int)=zB (4 - (xY6 n).size)++xY6 n:=by
 apply ByteArray.ext
 apply Array.toList_inj.1
 rw [yE4]
 have h1:(xY6 n).size=(Lib.decDigits n).length:=by simp [xY6,ByteArray.size]
 unfold zO2 Lib.itoa
 rw [if_neg (by omega),h1]
 simp only [Int.toNat_natCast]
 rfl
open Go.RowKit Go.Sort
theorem zB4 {s:ByteArray}{l:List UInt8}(h:s≠⟨l.toArray⟩):(s.toList==l)=false:=by
 rw [ByteArray.toList_eq]
 apply Bool.eq_false_iff.2
 intro e
 apply h
 apply ByteArray.ext
 apply Array.toList_inj.1
 rw [eq_of_beq e]
theorem yQ4 {s:ByteArray}(h:s≠⟨#[]⟩):s.toList.isEmpty=false:=by
 have:=zB4 (l:= []) h
 cases hs:s.toList with
 | nil=>rw [hs] at this;cases this
 | cons=>rfl
theorem yH0 (n:Nat):zP7 (n:Int)=xY6 n:=by
 unfold zP7 xY6 Lib.itoa
 rw [if_neg (by omega),Int.toNat_natCast]
theorem vM7 (n:Nat)(w:World)(hg:GlobI w)(hn:n≤99999):Calls Tryz.prog 71 #[.int .i64 (n:Int)] w fun e w' =>e= .returned (.string (zP7 n))∧Below w.heap.size w w' :=by
 refine (Tryz.strconv_Itoa (n:Int) (by omega) (by omega) w hg.tab).mono ?_
 rintro e w' ⟨rfl,k,os,rfl⟩
 exact ⟨rfl,yH2 w k os⟩
theorem yA3 (n:Nat)(w:World)(hn:n<100):Calls Tryz.prog 71 #[.int .i64 (n:Int)] w fun e w' =>e= .returned (.string (zP7 n))∧w' =w:=by
 refine (Tryz.strconv_Itoa_small n hn w).mono ?_
 rintro e w' ⟨rfl,rfl⟩
 exact ⟨by rw [yH0];rfl,rfl⟩
theorem yQ7 (n:Nat)(h:n≤9999):(zP7 n).size≤4:=by rw [yH0];exact xY5 n h
theorem zH7 (n:Nat)(hn:n≠0)(h9:n<100)(w:World):Calls Tryz.prog 70 #[zE6 n] w fun e w' =>e= .returned (.string (zP3 n))∧w' =w:=by
 rw [zA5 hn]
 have CI:=hid (yA3 n w h9)
 have hz:=yQ7 n (by omega)
 obtain ⟨s,hs⟩:∃s,s=zP7 n:=⟨_,rfl⟩
 unfold zP3
 rw [←hs] at CI hz ⊢
 clear hs hn
 go_enter Tryz.func70, Tryz.ntmps70
 go_wp2_with fail
 refine CI.out.mono ?_
 rintro e w' ⟨rfl,rfl⟩
 go_wp2_with fail
 go_ret
 exact ⟨rfl,rfl⟩
theorem vM6 (n:Nat)(h9:n<100)(w:World):Calls Tryz.prog 78 #[zE6 n] w fun e w' =>e= .returned (.string (if n=0 then okT else zP3 n))∧w' =w:=by
 by_cases hn:n=0
 · rw [hn,zD2,if_pos rfl]
   go_enter Tryz.func78, Tryz.ntmps78
   go_wp2_with fail
   go_ret
   exact ⟨rfl,rfl⟩
 · have CF:=zH7 n hn h9 w
   rw [zA5 hn] at CF ⊢
   rw [if_neg hn]
   have HCF:=hid CF
   clear CF hn
   go_enter Tryz.func78, Tryz.ntmps78
   go_wp2_with fail
   refine HCF.out.mono ?_
   rintro e w' ⟨rfl,rfl⟩
   go_wp2_with fail
   go_ret
   exact ⟨rfl,rfl⟩
theorem vM5 (s:ByteArray)(w:World):Calls Tryz.prog 119 #[.string s] w fun e w' =>e= .returned (.string (yC3 s))∧w' =w:=by
 unfold yC3
 by_cases h:s=⟨#[]⟩
 · rw [if_pos h,h]
   go_enter Tryz.func119, Tryz.ntmps119
   go_wp2_with fail
   go_ret
   exact ⟨rfl,rfl⟩
 · rw [if_neg h]
   have h' :=yQ4 h
   clear h
   go_enter Tryz.func119, Tryz.ntmps119
   go_wp2_with fail
   go_ret
   exact ⟨rfl,rfl⟩
theorem xO4 (s:ByteArray)(w:World):Calls Tryz.prog 44 #[.string s] w fun e w' =>e= .returned (.string (yC3 s))∧w' =w:=by
 unfold yC3
 by_cases h:s=⟨#[]⟩
 · rw [if_pos h,h]
   go_enter Tryz.func44, Tryz.ntmps44
   go_wp2_with fail
   go_ret
   exact ⟨rfl,rfl⟩
 · rw [if_neg h]
   have h' :=yQ4 h
   clear h
   go_enter Tryz.func44, Tryz.ntmps44
   go_wp2_with fail
   go_ret
   exact ⟨rfl,rfl⟩
theorem uQ8 (s:ByteArray)(w:World):Calls Tryz.prog 81 #[.string s] w fun e w' =>e= .returned (.string (zU8 s))∧w' =w:=by
 unfold zU8 yE1
 by_cases h:s=⟨#[45]⟩
 · rw [if_pos h,h]
   go_enter Tryz.func81, Tryz.ntmps81
   go_wp2_with fail
   go_ret
   exact ⟨rfl,rfl⟩
 · rw [if_neg h]
   have h' :=zB4 (l:= [45]) h
   clear h
   go_enter Tryz.func81, Tryz.ntmps81
   go_wp2_with fail
   go_ret
   exact ⟨rfl,rfl⟩
theorem zK6 (n:Nat)(h9:n≤9999)(w:World):Calls Tryz.prog 41 #[.int .i64 (n:Int)] w fun e w' =>e= .returned (.string (zP3 n))∧Below w.heap.size w w' :=by
 have CD:=yM1 n h9 w
 rw [←yH0] at CD
 have HCD:=hid CD
 have hz:=yQ7 n h9
 obtain ⟨s,hs⟩:∃s,s=zP7 n:=⟨_,rfl⟩
 unfold zP3
 rw [←hs] at HCD hz ⊢
 clear hs CD
 go_enter Tryz.func41, Tryz.ntmps41
 go_wp2_with fail
 refine HCD.out.mono ?_
 rintro e w' ⟨rfl,hb⟩
 have HB:=hid hb
 clear hb
 go_wp2_with fail
 go_ret
 exact ⟨rfl,HB.out⟩
theorem zQ0 (a:Option Addr)(c:Nat)(w:World):Calls Tryz.prog 120 #[.slice a 0 c] w fun e w' =>e= .returned (.string yE1)∧w' =w:=by
 go_enter Tryz.func120, Tryz.ntmps120
 go_wp2_with fail
 go_ret
 exact ⟨rfl,rfl⟩
theorem vU5 (v:Value)(l:List ByteArray)(w:World)(h:Texts w v l)(hl:l≠ [])(hl2:l.length≤1000)(hlen:(yB8 l).size≤140737488355328):Calls Tryz.prog 120 #[v] w fun e w' =>e= .returned (.string (yB8 l))∧Below w.heap.size w w' :=by
 obtain ⟨vo,vc,rfl,hvc,hvm⟩:=h.parts
 have hp:0<l.length:=List.length_pos_iff.2 hl
 obtain ⟨bk,o,rfl,hbk,_⟩:=Texts.cell h 0 hp
 have hcells:∀(j:Nat) x,l[j]?=some x→w.cell? ⟨bk,o+j,none⟩=some (.string x):=fun j x hj=>by
  obtain ⟨hj1,rfl⟩:=List.getElem?_eq_some_iff.1 hj
  obtain ⟨bk',o',e,_,hc⟩:=Texts.cell h j hj1
  cases e
  exact hc
 have hN:l.length≤140737488355328:=by omega
 have CJ:=hid (Tryz.strings_Join bk o vc l ⟨#[32]⟩ w hcells hbk hN hvc (by
  have:(yB8 l).size=(Lib.join (l.map (·.data.toList)) [32]).length:=by unfold yB8;simp [ByteArray.size]
  rw [this] at hlen;exact hlen))
 have hp' :¬(l.length:Int)=0:=by omega
 clear hcells hlen hN hbk h
 go_enter Tryz.func120, Tryz.ntmps120
 go_wp2_with fail
 refine CJ.out.mono ?_
 rintro e w' ⟨rfl,hb⟩
 have HB:=hid hb
 clear hb
 go_wp2_with fail
 go_ret
 exact ⟨rfl,HB.out⟩
open Go.RowKit Go.Sort
structure GlobC (w:World):Prop where
 i:GlobI w
 rng:∃ev,w.cell? ⟨3,0,none⟩=some ev∧(ev= .nilIface∨∃te pe,ev= .iface te pe)
 len:∃m,w.cell? ⟨0,0,none⟩=some (.int .i64 m)
theorem GlobC.below {w w' :World}(h:GlobC w)(hb:Below w.heap.size w w'):GlobC w' :=by
 obtain ⟨ev,h1,h2⟩:=h.rng
 obtain ⟨m,h3⟩:=h.len
 exact ⟨h.i.below hb,⟨ev,zA1 hb h1,h2⟩,⟨m,zA1 hb h3⟩⟩
theorem uR3 {a b:ByteArray}(h:a≠b):(a.toList==b.toList)=false:=by
 rw [ByteArray.toList_eq,ByteArray.toList_eq]
 apply Bool.eq_false_iff.2
 intro e
 apply h
 apply ByteArray.ext
 apply Array.toList_inj.1
 exact eq_of_beq e
theorem vV3 {l:List UInt8}{v:Int}(h:Lib.atoiAll l= .ok v): -9223372036854775808≤v∧v≤9223372036854775807:=by
 unfold Lib.atoiAll at h
 split at h
 · cases h
 · dsimp only at h
   split at h
   · cases h
   · cases h
   · rename_i c r u hu
     split at h
     · cases h
     · rename_i h1
       split at h
       · cases h
       · rename_i h2
         simp only [Lib.NumEnd.ok.injEq] at h
         subst h
         split
         · rename_i hn
           have:¬9223372036854775808<u:=fun e=>h2 ⟨hn,e⟩
           omega
         · rename_i hn
           have:¬9223372036854775808≤u:=fun e=>h1 ⟨hn,e⟩
           omega
theorem xZ4 (n:Int)(w:World)(hg:GlobI w)(h0: -9223372036854775808≤n)(h1:n≤9223372036854775807):Calls Tryz.prog 71 #[.int .i64 n] w fun e w' =>e= .returned (.string (zP7 n))∧Below w.heap.size w w' :=by
 refine (Tryz.strconv_Itoa n h0 h1 w hg.tab).mono ?_
 rintro e w' ⟨rfl,k,os,rfl⟩
 exact ⟨rfl,yH2 w k os⟩
theorem zP0 (s:ByteArray)(w:World)(hg:GlobC w)(hs:s.size≤1000):Calls Tryz.prog 76 #[.string s] w fun e w' =>e= .returned (.int .i64 (zT9 s))∧Below w.heap.size w w' :=by
 cases ha:Lib.atoiAll s.data.toList with
 | ok v=>
  obtain ⟨hv1,hv2⟩:=vV3 ha
  have CA:=hid (Tryz.strconv_Atoi_ok s (by omega) v ha w)
  have CI:Hid (∀W,Below w.heap.size w W→Calls Tryz.prog 71 #[.int .i64 v] W fun e w' =>e= .returned (.string (zP7 v))∧Below W.heap.size W w'):=hid (fun W hb=>xZ4 v W (hg.i.below hb) hv1 hv2)
  have HN:Hid (zT9 s=if zP7 v≠s∨999<v then -1 else v):=hid (by unfold zT9;rw [ha])
  obtain ⟨t,ht⟩:∃t,t=zP7 v:=⟨_,rfl⟩
  rw [←ht] at CI HN
  clear ha hg ht hs
  go_enter Tryz.func76, Tryz.ntmps76
  go_wp2_with fail
  refine CA.out.mono ?_
  rintro e w1 ⟨rfl,hw1⟩
  have HB1:Hid (Below w.heap.size w w1):=hid (by
   rcases hw1 with rfl | ⟨t,rfl⟩
   · exact Below.refl _ _
   · exact Lib.bytesWorld_below w _ t)
  have CI1:=hid (CI.out w1 HB1.out)
  clear hw1
  go_wp2_with fail
  refine CI1.out.mono ?_
  rintro e w2 ⟨rfl,hb2⟩
  have HB2:=hid (two HB1.out hb2)
  clear hb2
  by_cases hts:t=s
  · have hts' :t.toList=s.toList:=by rw [hts]
    by_cases h9:999<v
    · have HN2:Hid (zT9 s= -1):=hid (by rw [HN.out,if_pos (Or.inr h9)])
      clear hts
      go_wp2_with fail
      go_ret
      rw [HN2.out]
      exact ⟨rfl,HB2.out⟩
    · have HN2:Hid (zT9 s=v):=hid (by rw [HN.out,if_neg (fun h=>h.elim (fun h=>h hts) h9)])
      clear hts
      go_wp2_with fail
      go_ret
      rw [HN2.out]
      exact ⟨rfl,HB2.out⟩
  · have hts' :(t.toList==s.toList)=false:=uR3 hts
    have HN2:Hid (zT9 s= -1):=hid (by rw [HN.out,if_pos (Or.inl hts)])
    clear hts
    go_wp2_with fail
    go_ret
    rw [HN2.out]
    exact ⟨rfl,HB2.out⟩
 | range=>
  obtain ⟨ev,he1,he2⟩:=hg.rng
  have CA:=hid (Tryz.strconv_Atoi_range s (by omega) ha ev w he1 he2)
  have HN:Hid (zT9 s= -1):=hid (by unfold zT9;rw [ha])
  clear ha hg he1 he2 hs
  go_enter Tryz.func76, Tryz.ntmps76
  go_wp2_with fail
  refine CA.out.mono ?_
  rintro e w1 ⟨N,rfl,_,_,hb1⟩
  have HB1:=hid hb1
  clear hb1
  go_wp2_with fail
  go_ret
  rw [HN.out]
  exact ⟨rfl,HB1.out⟩
 | _=>
  obtain ⟨ev,he1,he2⟩:=hg.i.err
  have CA:=hid (Tryz.strconv_Atoi_bad s (by omega) _ ha trivial ev w he1 he2)
  have HN:Hid (zT9 s= -1):=hid (by unfold zT9;rw [ha])
  clear ha hg he1 he2 hs
  go_enter Tryz.func76, Tryz.ntmps76
  go_wp2_with fail
  refine CA.out.mono ?_
  rintro e w1 ⟨N,rfl,_,_,hb1⟩
  have HB1:=hid hb1
  clear hb1
  go_wp2_with fail
  go_ret
  rw [HN.out]
  exact ⟨rfl,HB1.out⟩
open Go.RowKit Go.Sort
theorem xF9 (s:ByteArray)(k:Nat)(h:k<s.size):s.data.toList.drop k=s[k]::s.data.toList.drop (k+1):=by
 have h' :k<s.data.toList.length:=by rw [Array.length_toList];exact h
 rw [List.drop_eq_getElem_cons h']
 rfl
theorem uE9 (s:ByteArray)(h:0<s.size):s.data.toList.head?=some s[0]:=by
 have:=xF9 s 0 h
 rw [List.drop_zero] at this
 rw [this];rfl
theorem uQ0 (s:ByteArray):s.data.toList.drop s.size= []:=by
 apply List.drop_eq_nil_of_le
 rw [Array.length_toList];exact Nat.le_refl _
theorem uA6 {k:Nat}(h:k≤9):10 ^ k≤1000000000:=by
 rw [show (1000000000:Nat)=10 ^ 9 from rfl]
 exact Nat.pow_le_pow_right (by decide) h
theorem zJ1 (s:ByteArray)(w:World)(hs:s.size≤1000):Calls Tryz.prog 46 #[.string s, .int .i64 999] w fun e w' =>e= .returned (.int .i64 (zO8 s))∧w' =w:=by
 by_cases h1:s.size<1
 · have HN:Hid (zO8 s= -1):=hid (by unfold zO8;rw [if_pos (Or.inl h1)])
   have h1' :(s.size:Int)<1:=by omega
   clear h1
   go_enter Tryz.func46, Tryz.ntmps46
   go_wp2_with fail
   go_ret
   rw [HN.out];exact ⟨rfl,rfl⟩
 have h1' :¬(s.size:Int)<1:=by omega
 by_cases h9:9<s.size
 · have HN:Hid (zO8 s= -1):=hid (by unfold zO8;rw [if_pos (Or.inr (Or.inl h9))])
   have h9' :(9:Int)<(s.size:Int):=by omega
   clear h1
   go_enter Tryz.func46, Tryz.ntmps46
   go_wp2_with fail
   go_ret
   rw [HN.out];exact ⟨rfl,rfl⟩
 have h9' :¬(9:Int)<(s.size:Int):=by omega
 have h0:0<s.size:=by omega
 have hh:=uE9 s h0
 by_cases hz:s[0].toNat=48∧1<s.size
 · obtain ⟨hz1,hz2⟩:=hz
   have HN:Hid (zO8 s= -1):=hid (by
    unfold zO8
    rw [if_pos (Or.inr (Or.inr ⟨by rw [hh];congr 1;exact UInt8.toNat_inj.1 hz1,hz2⟩))])
   have hz1' :(s[0].toNat:Int)=48:=by omega
   have hz2' :(1:Int)<(s.size:Int):=by omega
   clear h1 h9 hh
   go_enter Tryz.func46, Tryz.ntmps46
   go_wp2_with fail
   go_ret
   rw [HN.out];exact ⟨rfl,rfl⟩
 have HN:Hid (zO8 s=finN (zU7 s.data.toList 0)):=hid (by
  unfold zO8
  rw [if_neg (fun h=>h.elim h1 (fun h=>h.elim h9 (fun h=>hz ⟨by
   have:=h.1
   rw [hh,Option.some.injEq] at this
   rw [this];rfl,h.2⟩)))])
 have hloop:∀(K:Prop),(K→K):=fun _ h=>h
 have hzz:¬(s[0].toNat:Int)=48∨((s[0].toNat:Int)=48∧¬(1:Int)<(s.size:Int)):=by
  by_cases e:s[0].toNat=48
  · exact Or.inr ⟨by omega,fun h=>hz ⟨e,by omega⟩⟩
  · exact Or.inl (by omega)
 clear h1 h9 hh hz hloop
 rcases hzz with hz1 | ⟨hz1,hz2⟩
 all_goals
  go_enter Tryz.func46, Tryz.ntmps46
  go_wp2_with fail
  go_loop [5,6] (fun nv iv=>∃k n:Nat,k≤s.size∧n<10 ^ k∧nv= .int .i64 n∧iv= .int .i64 k∧zU7 (s.data.toList.drop k) n=zU7 s.data.toList 0) (fun _ iv=>s.size - (intOf iv).toNat)
  case atStart=>exact ⟨0,0,Nat.zero_le _,by decide,rfl,rfl,rfl⟩
  case round=>
   obtain ⟨k,n,hk,hn,rfl,rfl,hd⟩:=hrel
   have hp:10 ^ k≤1000000000:=uA6 (by omega)
   have hnb:n<1000000000:=by omega
   have HD:=hid hd
   have HNL:=hid hn
   clear hd hn hp
   by_cases hlt:k<s.size
   · have hdr:=xF9 s k hlt
     have hu:=s[k].toNat_lt
     by_cases hb:48≤s[k].toNat∧s[k].toNat≤57
     · obtain ⟨hb1,hb2⟩:=hb
       have hb1' :¬(s[k].toNat:Int)<48:=by omega
       have hb2' :¬(57:Int)<(s[k].toNat:Int):=by omega
       have hw:IntKind.u8.wrap ((s[k].toNat:Int) - 48)=((s[k].toNat - 48:Nat):Int):=by
        show _=_
        unfold IntKind.wrap
        simp [IntKind.signed,IntKind.bits]
        omega
       have HX:Hid (zU7 (s.data.toList.drop (k+1)) (10 * n+(s[k].toNat - 48))=zU7 s.data.toList 0):=hid (by
        rw [←HD.out,hdr]
        conv=>rhs;unfold zU7
        rw [if_neg (fun h=>h.elim (fun h=>by rw [UInt8.lt_iff_toNat_lt] at h;have h2:s[k].toNat<48:=h;omega) (fun h=>by rw [UInt8.lt_iff_toNat_lt] at h;have h2:57<s[k].toNat:=h;omega))])
       clear hdr
       go_wp2_with fail
       go_round
       case rel=>
        refine ⟨k+1,10 * n+(s[k].toNat - 48),by omega,by rw [Nat.pow_succ];have:=HNL.out;omega,by go_num,by go_num,HX.out⟩
       case measure=>simp [intOf];omega
     · have HX:Hid (zO8 s= -1):=hid (by
        have hb' :s[k].toNat<48∨57<s[k].toNat:=by omega
        rw [HN.out,←HD.out,hdr]
        unfold zU7
        rw [if_pos (hb'.elim (fun h=>Or.inl (by rw [UInt8.lt_iff_toNat_lt];exact h)) (fun h=>Or.inr (by rw [UInt8.lt_iff_toNat_lt];exact h)))]
        rfl)
       have hb' :(s[k].toNat:Int)<48∨(¬(s[k].toNat:Int)<48∧(57:Int)<(s[k].toNat:Int)):=by omega
       clear hdr hb
       rcases hb' with hb1 | ⟨hb1,hb2⟩
       all_goals
        go_wp2_with fail
        go_ret
        rw [HX.out];exact ⟨rfl,rfl⟩
   · obtain rfl:k=s.size:=by omega
     have hx:zU7 s.data.toList 0=some n:=by rw [←HD.out,uQ0];rfl
     by_cases h9:999<n
     · have HX:Hid (zO8 s= -1):=hid (by rw [HN.out,hx];exact if_pos h9)
       have h9' :(999:Int)<(n:Int):=by omega
       clear hx
       go_wp2_with fail
       go_ret
       rw [HX.out];exact ⟨rfl,rfl⟩
     · have HX:Hid (zO8 s=(n:Int)):=hid (by rw [HN.out,hx];exact if_neg h9)
       have h9' :¬(999:Int)<(n:Int):=by omega
       clear hx
       go_wp2_with fail
       go_ret
       rw [HX.out];exact ⟨rfl,rfl⟩
theorem vT6 (s:ByteArray)(f k:Nat)(hf:f≤k)(hk:k<s.size)(hb:s[k]=32)(hn:∀j,f≤j→∀(h:j<k),s[j]'(Nat.lt_trans h hk)≠32):zK3 (s.data.toList.drop f)=(s.extract f k).data.toList::zK3 (s.data.toList.drop (k+1)):=by
 have h1:s.data.toList.drop f=(s.extract f k).data.toList++s.data.toList.drop k:=by
  rw [ByteArray.data_extract,Array.toList_extract,List.extract_eq_take_drop]
  conv=>lhs;rw [←List.take_append_drop (k - f) (s.data.toList.drop f),List.drop_drop]
  rw [show f+(k - f)=k by omega]
 rw [h1,xF9 s k hk,hb,yS8]
 intro hm
 rw [ByteArray.data_extract,Array.toList_extract,List.extract_eq_take_drop] at hm
 obtain ⟨i,hi,e⟩:=List.getElem_of_mem hm
 rw [List.length_take,List.length_drop,Array.length_toList] at hi
 rw [List.getElem_take,List.getElem_drop,Array.getElem_toList] at e
 exact hn (f+i) (by omega) (by omega) e
theorem uG6 (s:ByteArray)(f:Nat)(hf:f≤s.size)(hn:∀j,f≤j→∀(h:j<s.size),s[j]≠32):zK3 (s.data.toList.drop f)= [(s.extract f s.size).data.toList]:=by
 have h1:s.data.toList.drop f=(s.extract f s.size).data.toList:=by
  rw [ByteArray.data_extract,Array.toList_extract,List.extract_eq_take_drop,List.take_of_length_le]
  rw [List.length_drop,Array.length_toList]
  exact Nat.le_refl _
 rw [h1,yL8]
 intro hm
 rw [ByteArray.data_extract,Array.toList_extract,List.extract_eq_take_drop] at hm
 obtain ⟨i,hi,e⟩:=List.getElem_of_mem hm
 rw [List.length_take,List.length_drop,Array.length_toList] at hi
 have hz:s.data.size=s.size:=rfl
 rw [List.getElem_take,List.getElem_drop,Array.getElem_toList] at e
 exact hn (f+i) (by omega) (by omega) e
theorem uJ1 {s:ByteArray}{acc:List ByteArray}(h:zK3 s.data.toList=acc.map (·.data.toList)):zB5 s=acc:=by
 unfold zB5
 rw [h,List.map_map]
 conv=>rhs;rw [←List.map_id acc]
 exact List.map_congr_left fun x _=>rfl
theorem vJ1 (acc:List ByteArray)(x:ByteArray):(acc++ [x]).flatMap zD3=acc.flatMap zD3++ [.string x]:=by
 rw [List.flatMap_append];rfl
theorem vZ6 (s:ByteArray)(w:World)(hs:s.size≤1000):Calls Tryz.prog 42 #[.string s] w fun e w' =>∃v,e= .returned v∧w'.ownsRow w.heap.size 9 1 v (zB5 s).length ((zB5 s).flatMap zD3)∧Below w.heap.size w w' :=by
 go_enter Tryz.func42, Tryz.ntmps42
 go_wp2_with fail
 go_loopw [3,4,5] (fun lv fv iv wr=>∃(k f:Nat) (acc:List ByteArray),f≤k∧k≤s.size∧acc.length≤f∧fv= .int .i64 f∧iv= .int .i64 k∧wr.ownsRow w.heap.size 9 1 lv acc.length (acc.flatMap zD3)∧Below w.heap.size w wr∧(∀j,f≤j→∀(h:j<k) (h2:j<s.size),s[j]≠32)∧zK3 s.data.toList=acc.map (·.data.toList)++zK3 (s.data.toList.drop f)) (fun _ _ iv _=>s.size - (intOf iv).toNat)
 case atStart=>exact ⟨0,0, [],Nat.le_refl _,Nat.zero_le _,Nat.le_refl _,rfl,rfl,World.ownsRow_nil _ _ _ _,Below.refl _ _,fun j _ h=>by omega,rfl⟩
 case round=>
  obtain ⟨k,f,acc,hfk,hk,hac,rfl,rfl,ho,hb,hn,hsp⟩:=hrel
  obtain ⟨lo,lc,rfl,hlc,hlc'⟩:=zI9 ho
  have HO:=hid ho
  have HB:=hid hb
  have HN:=hid hn
  have HSP:=hid hsp
  have hzz:=hb.size
  clear ho hb hn hsp
  by_cases hlt:k<s.size
  · by_cases hbl:s[k]=32
    · have hbt:(s[k].toNat:Int)=32:=by rw [hbl];rfl
      have HX:Hid (zK3 s.data.toList=(acc++ [s.extract f k]).map (·.data.toList)++zK3 (s.data.toList.drop (k+1))):=hid (by
       rw [HSP.out,vT6 s f k hfk hlt hbl (fun j h1 h2=>HN.out j h1 h2 (by omega)),List.map_append,List.append_assoc];rfl)
      obtain ⟨x,hx⟩:∃x,x=s.extract f k:=⟨_,rfl⟩
      rw [←hx] at HX
      have HXX:=hid hx
      clear hbl hx
      go_wp2_with (at_builtin;rw [←HXX.out];refine zB8 xA3 rfl _ _ rfl w.heap.size _ _ _ rfl (HO.out.alloc _) ⟨wr.heap.size,0,none⟩ 1 1 [.string x] rfl rfl ?c1 ?c2 ?c3 ?c4 ?_)
      case c1=>exact zL0
      case c2=>intro u hu;simp at hu;subst hu;rfl
      case c3=>omega
      case c4=>simp;omega
      intro v2 w3 ho3 hg3
      have HB3:=hid (zB0 (HB.out.trans ((zA0 wr (.cells #[.string x] 9)).mono hzz)) (HO.out.alloc _) hg3 (Nat.le_refl _))
      have HO3:Hid (w3.ownsRow w.heap.size 9 1 v2 (acc++ [x]).length ((acc++ [x]).flatMap zD3)):=hid (by rw [vJ1,List.length_append];exact ho3)
      clear ho3 hg3
      go_wp2_with fail
      go_roundw
      case rel=>exact ⟨k+1,k+1,acc++ [x],Nat.le_refl _,by omega,by rw [List.length_append,List.length_singleton];omega,by go_num,by go_num,HO3.out,HB3.out,fun j h1 h2=>by omega,HX.out⟩
      case measure=>simp [intOf];omega
    · have hbt:¬(s[k].toNat:Int)=32:=fun e=>hbl (UInt8.toNat_inj.1 (by have h32:(32:UInt8).toNat=32:=rfl;omega))
      have HX:Hid (∀j,f≤j→∀(h:j<k+1) (h2:j<s.size),s[j]≠32):=hid (fun j h1 h2 h3=>by
       by_cases e:j=k
       · subst e;exact hbl
       · exact HN.out j h1 (by omega) h3)
      clear hbl
      go_wp2_with fail
      go_roundw
      case rel=>exact ⟨k+1,f,acc,by omega,by omega,hac,rfl,by go_num,HO.out,HB.out,HX.out,HSP.out⟩
      case measure=>simp [intOf];omega
  · obtain rfl:k=s.size:=by omega
    have HX:Hid (zB5 s=acc++ [s.extract f s.size]):=hid (uJ1 (by
     rw [HSP.out,uG6 s f hfk (fun j h1 h2=>HN.out j h1 h2 h2),List.map_append];rfl))
    obtain ⟨x,hx⟩:∃x,x=s.extract f s.size:=⟨_,rfl⟩
    rw [←hx] at HX
    have HXX:=hid hx
    clear hx
    go_wp2_with (at_builtin;rw [←HXX.out];refine zB8 xA3 rfl _ _ rfl w.heap.size _ _ _ rfl (HO.out.alloc _) ⟨wr.heap.size,0,none⟩ 1 1 [.string x] rfl rfl ?c1 ?c2 ?c3 ?c4 ?_)
    case c1=>exact zL0
    case c2=>intro u hu;simp at hu;subst hu;rfl
    case c3=>omega
    case c4=>simp;omega
    intro v2 w3 ho3 hg3
    have HB3:=hid (zB0 (HB.out.trans ((zA0 wr (.cells #[.string x] 9)).mono hzz)) (HO.out.alloc _) hg3 (Nat.le_refl _))
    have HO3:Hid (w3.ownsRow w.heap.size 9 1 v2 (acc++ [x]).length ((acc++ [x]).flatMap zD3)):=hid (by rw [vJ1,List.length_append];exact ho3)
    clear ho3 hg3
    go_wp2_with fail
    go_ret
    rw [HX.out]
    exact ⟨_,rfl,HO3.out,HB3.out⟩
end Go.Proofs.YtggpodlecljcbabGreatDoor
