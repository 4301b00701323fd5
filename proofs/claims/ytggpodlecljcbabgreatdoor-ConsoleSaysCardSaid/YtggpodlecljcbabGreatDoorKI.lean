/- The walks of image.four, image.number. -/
import Derived.Test.YtggpodlecljcbabGreatDoorShelf
import Derived.Lib.SmallJoins
import Derived.Lib.Repeat
import Derived.Lib.AppendIntMem
import Derived.Lib.ItoaLen
import Derived.Maps.AppendAt
import Derived.Deep.RegionHeld3
import Derived.Test.YtggpodlecljcbabGreatDoorKSI
import Derived.Test.YtggpodlecljcbabGreatDoorKX4
namespace Go.Proofs.YtggpodlecljcbabGreatDoor
set_option linter.unusedSimpArgs false
set_option linter.unusedVariables false
set_option maxRecDepth 100000
set_option maxHeartbeats 64000000
open Lib (hid)
open Go.RowKit Go.Sort
structure GlobI (w:World):Prop where
 tab : Lib.TabIs Tryz.prog w "internal/strconv.uint64pow10" .u64 Lib.pow10Tab
 err:∃ev,w.cell? ⟨2,0,none⟩=some ev∧(ev= .nilIface∨∃te pe,ev= .iface te pe)
theorem GlobI.below {w w' :World}(h:GlobI w)(hb:Below w.heap.size w w'):GlobI w' :=by
 obtain ⟨ev,h1,h2⟩:=h.err
 exact ⟨Go.Joins.tab_stays (g:= 1) (by kernel_rfl) h.tab hb (Nat.le_refl _),ev,zA1 hb h1,h2⟩
theorem yH2 (w:World)(k:Nat)(os:Array Obj):Below w.heap.size w (grow (w.drewN k) os):=Lib.below_grow w.heap.size w (Nat.le_refl _) k os
theorem xK5 (c:Nat):Lib.repeatL [48] c=List.replicate c (48:UInt8):=by
 induction c with
 | zero=>rfl
 | succ c ih=>rw [Lib.repeatL,ih,List.replicate_succ];rfl
theorem uP4 (n:Int):(⟨(Lib.repeatL [48] (4 - (Lib.itoa n).length)).toArray⟩:ByteArray)++⟨(Lib.itoa n).toArray⟩=zO2 n:=by
 rw [xK5]
 apply ByteArray.ext
 apply Array.toList_inj.1
 rw [yE4]
 rfl
theorem xL9 (n:Int)(hn1: -9999≤n)(hn2:n≤99999)(w:World)(hg:GlobI w):
 Calls Tryz.prog 99 #[.int .i64 n] w fun e w' =>e= .returned (.string (zO2 n))∧Below w.heap.size w w' :=by
 have CI:=hid (Tryz.strconv_Itoa n (by omega) (by omega) w hg.tab)
 have HFC:=hid (uP4 n)
 have hlen:=Lib.itoa_length_le n (by omega) (by omega)
 obtain ⟨l,hl⟩:∃l,l=Lib.itoa n:=⟨_,rfl⟩
 obtain ⟨s,hs⟩:∃s:ByteArray,s=⟨l.toArray⟩:=⟨_,rfl⟩
 have hsz:s.size=l.length:=by rw [hs];rfl
 obtain ⟨m,hm⟩:∃m:Nat,m=4 - l.length:=⟨_,rfl⟩
 rw [←hl] at CI HFC hlen
 rw [←hs] at CI HFC
 rw [←hm] at HFC
 have hmx:max (0:Int) (4 - (s.size:Int))=(m:Int):=by omega
 have hwr:IntKind.i64.wrap (4 - (s.size:Int))=4 - (s.size:Int):=by rw [IntKind.wrap_i64];omega
 have hm4:m≤4:=by omega
 obtain ⟨r,hr⟩:∃r:ByteArray,r=⟨(Lib.repeatL [48] m).toArray⟩:=⟨_,rfl⟩
 have hrz:r.size=m:=by rw [hr,xK5];simp [ByteArray.size]
 have hrs:r.size+s.size≤9223372036854775807:=by omega
 have CR:=fun W=> Tryz.strings_Repeat ⟨#[48]⟩ m W (by omega) (by
  have:(⟨#[48]⟩:ByteArray).size=1:=rfl
  rw [this];omega)
 rw [show (⟨(Lib.repeatL (⟨#[48]⟩:ByteArray).data.toList m).toArray⟩:ByteArray)=r from hr.symm] at CR
 rw [←hr] at HFC
 have HCR:=hid CR
 clear hl hs hsz hm hg CR hlen hr hrz
 go_enter Tryz.func99, Tryz.ntmps99
 go_wp2_with fail
 refine CI.out.mono ?_
 rintro e w1 ⟨rfl,k,os,hw1⟩
 have HB1:Hid (Below w.heap.size w w1):=hid (by rw [hw1];exact yH2 w k os)
 clear hw1
 go_wp2_with fail
 refine (HCR.out _).mono ?_
 rintro e w2 ⟨rfl,hb2⟩
 have HB2:=hid (two HB1.out hb2)
 clear hb2
 go_wp2_with fail
 go_ret
 rw [←HFC.out]
 exact ⟨rfl,HB2.out⟩
theorem uP9 (s:ByteArray):(s.extract 0 4).data.toList=s.data.toList.take 4:=by
 rw [ByteArray.data_extract,Array.toList_extract,List.extract_eq_take_drop,List.drop_zero]
theorem vV2 {l:List UInt8}{n:Int}(hl:l.length≤4)(h:Lib.atoi l=some n): -9999≤n∧n≤99999:=by
 match l,h with
 | b::r,h=>
  simp only [List.length_cons] at hl
  have hb:∀(x:List UInt8) (m:Nat),x.length≤4→Lib.decNat x=some m→m≤9999:=fun x m hx hm=>by
   unfold Lib.decNat at hm
   split at hm
   · cases hm
   · have h1:=yR2 _ _ _ hm
     have h2:10 ^ x.length≤10 ^ 4:=Nat.pow_le_pow_right (by decide) hx
     have h3:(10:Nat) ^ 4=10000:=rfl
     omega
  replace h:(if (b==45)=true then (Lib.decNat r).map fun (m:Nat)=> -(m:Int) else if (b==43)=true then (Lib.decNat r).map fun (m:Nat)=>(m:Int) else (Lib.decNat (b::r)).map fun (m:Nat)=>(m:Int))=some n:=h
  split at h
  · cases hd:Lib.decNat r with
    | none=>rw [hd] at h;cases h
    | some m=>
     rw [hd] at h
     simp only [Option.map_some,Option.some.injEq] at h
     have:=hb r m (by omega) hd
     omega
  · split at h
    · cases hd:Lib.decNat r with
      | none=>rw [hd] at h;cases h
      | some m=>
       rw [hd] at h
       simp only [Option.map_some,Option.some.injEq] at h
       have:=hb r m (by omega) hd
       omega
    · cases hd:Lib.decNat (b::r) with
      | none=>rw [hd] at h;cases h
      | some m=>
       rw [hd] at h
       simp only [Option.map_some,Option.some.injEq] at h
       have:=hb (b::r) m (by simp only [List.length_cons];omega) hd
       omega
theorem xW2 (s:ByteArray)(w:World)(hg:GlobI w)(hs:s.size≤9223372036854775807):
 Calls Tryz.prog 101 #[.string s] w fun e w' =>e= .returned (.int .i64 (xI6 s))∧Below w.heap.size w w' :=by
 by_cases h4:s.size<4
 · have h4' :(s.size:Int)<4:=by omega
   have HN:Hid (xI6 s= -1):=hid (by unfold xI6;rw [if_pos h4])
   clear h4 hg
   go_enter Tryz.func101, Tryz.ntmps101
   go_wp2_with fail
   go_ret
   exact ⟨by rw [HN.out];rfl,Below.refl _ _⟩
 have h4' :¬(s.size:Int)<4:=by omega
 have h4s:4≤s.size:=by omega
 have h4z:(4:Int)≤(s.size:Int):=by omega
 obtain ⟨s4,hs4⟩:∃x,x=s.extract 0 4:=⟨_,rfl⟩
 have hd4:s4.data.toList=s.data.toList.take 4:=by rw [hs4];exact uP9 s
 have hz4:s4.size=4:=by
  have h1:=congrArg List.length hd4
  rw [List.length_take] at h1
  have h2:s.data.toList.length=s.size:=by simp
  have h3:s4.data.toList.length=s4.size:=by simp
  omega
 have HS4:=hid hs4
 have HG:=hid hg
 cases ha:Lib.atoi s4.data.toList with
 | none=>
  have HN:Hid (xI6 s= -1):=hid (by unfold xI6;rw [if_neg h4,←hd4,ha])
  obtain ⟨ev,he1,he2⟩:=hg.err
  have CA:=hid (Tryz.strconv_Atoi_err s4 (by omega) ha ev w he1 he2)
  clear hs4 hd4 hz4 ha hg he1 he2 h4
  go_enter Tryz.func101, Tryz.ntmps101
  go_wp2_with fail
  rw [←HS4.out]
  refine CA.out.mono ?_
  rintro e w1 ⟨NB,rfl,_,_,hb1⟩
  have HB1:=hid hb1
  clear hb1
  go_wp2_with fail
  refine zA6 (by kernel_rfl) (by kernel_rfl) ?_
  repeat (go_big_quiet_step (fail))
  refine wpQuiet_nil ?_
  intro w2 hb2
  have HB2:=hid (two HB1.out hb2)
  clear hb2
  go_wp2_with fail
  go_ret
  exact ⟨by rw [HN.out];rfl,HB2.out⟩
 | some n=>
  obtain ⟨hn1,hn2⟩:=vV2 (by have h3:s4.data.toList.length=s4.size:=by simp
                            omega) ha
  have CA:=hid (Tryz.strconv_Atoi s4 n (by omega) ha w)
  have CF:=hid (fun W (hb:Below w.heap.size w W)=>xL9 n hn1 hn2 W (hg.below hb))
  have HN:Hid (xI6 s=if (zO2 n).data.toList=s4.data.toList then n else -1):=hid (by unfold xI6;rw [if_neg h4,←hd4,ha])
  clear hs4 hd4 hz4 ha hg h4
  go_enter Tryz.func101, Tryz.ntmps101
  go_wp2_with fail
  rw [←HS4.out]
  refine CA.out.mono ?_
  rintro e w1 ⟨rfl,t,hw1⟩
  have HB1:Hid (Below w.heap.size w w1):=hid (by rw [hw1];exact Go.Joins.below_bytesWorld _ _ _ _ (Nat.le_refl _))
  clear hw1
  have CQ:=hid (CF.out w1 HB1.out)
  have CF1:Hid (∀W,Below w1.heap.size w1 W→Calls Tryz.prog 99 #[.int .i64 n] W fun e w' =>e= .returned (.string (zO2 n))∧Below W.heap.size W w'):=hid (fun W hW=>CF.out W (two HB1.out hW))
  go_wp2_with fail
  refine zA6 (by kernel_rfl) (by kernel_rfl) ?_
  repeat (go_big_quiet_step (first | (go_at_call 99;exact Calls.regrown_of (CF1.out _ (below_regrown _ _ _)))))
  refine wpQuiet_nil ?_
  intro w2 hb2
  have HB2:=hid (two HB1.out hb2)
  clear hb2
  rw [←HS4.out]
  cases hq:((zO2 n).toList==s4.toList)
  · have HZ:Hid (xI6 s= -1):=hid (by
     rw [HN.out,if_neg]
     intro h
     rw [zG6,zG6,h] at hq
     simp at hq)
    clear hq
    go_wp2_with fail
    go_ret
    exact ⟨by rw [HZ.out];rfl,HB2.out⟩
  · have HZ:Hid (xI6 s=n):=hid (by
     rw [HN.out,if_pos]
     rw [zG6,zG6] at hq
     simpa using hq)
    clear hq
    go_wp2_with fail
    go_ret
    exact ⟨by rw [HZ.out];rfl,HB2.out⟩
open Go.RowKit Go.Sort
theorem yG0 {P:Program}(w:World){ops:Array Oper}{o:Oper}{a:Go.Act}{K:Go.Act→World→Prop}{Q:Exit→Go.Act→World→Prop}{E:Prop}(hgd:o.guard=none)(s x:Operand)(t:TypeId)
 (ho:o.op= .call { callee:= .builtin .append,args:= #[s,x],argTypes:= #[t,t] })
 (base:Nat) (e:TypeId) (size bytes:Nat) (I:zQ3 P t e size bytes)
 (v:Value) (n:Nat) (xs:List Value) (hs:a.eval s=v) (hown:w.ownsRow base e size v n xs)
 (ad:Addr) (m c:Nat) (news:List Value) (hx:a.eval x= .slice (some ad) m c) (hl:news.length=m * size) (hnews:∀j u,news[j]?=some u→w.cell? (ad.add j)=some u) (h1:∀u∈news,u.oneCell' =true)
 (h63:n+m≤1000000000) (hbase:base≤w.heap.size)
 (h:∀v' w',w'.ownsRow base e size v' (n+m) (xs++news)→w.grownBy w' v.ownBlock→K (a.put o.dst v') w'):
 if Region.wanted o (yielded ops a.tmps)=true then Oper.wp P o a w K Q else E:=by
 have hw:Region.wanted o (yielded ops a.tmps)=true:=by simp [Region.wanted,hgd]
 rw [if_pos hw]
 obtain ⟨i,z,e1,e2,e3,e4,e5,e6,e7,e8⟩:=I
 obtain ⟨v',w',hr,h2,h3,_,_⟩:=run_append_own_at (P:=P) w base t o.type e i z size bytes e1 e2 e3 e4 e5 e6 e7 v n xs hown ad m c news hl hnews h1 (by unfold maxLen;omega) (by
  calc (n+m) * bytes≤1000000000 * 100:=Nat.mul_le_mul h63 e8
   _≤140737488355328:=by decide) hbase
 unfold Oper.wp execOp
 simp only [ho,resolve,invoke,builtin,Sem.run_bind,Sem.run_pure,Result.andThen_ok,List.map_toArray,List.map_cons,List.map_nil,hs,hx,hr]
 exact h v' w' h2 h3
theorem zE2 {w w' :World}{base e k n:Nat}{v:Value}{xs:List Value}(h:w.ownsRow base e k v n xs)(hb:Below w.heap.size w w'):w'.ownsRow base e k v n xs:=
 h.kept (⟨hb.os,hb.tape,hb.output,hb.size,fun j hj _=>hb.block j hj⟩:World.grownBy _ _ none) (by cases h:Value.ownBlock _ <;> simp)
theorem zW6 {w w' :World}{row:Option Nat}{b o:Nat}{v:Value}(hg:w.grownBy w' row)(hc:w.cell? ⟨b,o,none⟩=some v)(hne:row≠some b):w'.cell? ⟨b,o,none⟩=some v:=by
 have hlt:=World.block_lt_of_cell? w _ hc
 have h:=hg.block b hlt (fun e=>hne e.symm)
 simpa [World.cell?,h] using hc
theorem zI9 {w:World}{base e k n:Nat}{v:Value}{xs:List Value}(h:w.ownsRow base e k v n xs):∃ao cap,v= .slice ao n cap∧n≤cap∧cap≤9223372036854775807:=by
 obtain ⟨_,h2⟩:=h
 rcases h2 with ⟨rfl,rfl⟩ | ⟨g,cap,cur,rfl,_,_,hn,hm,_⟩
 · exact ⟨none,0,rfl,Nat.le_refl _,by decide⟩
 · exact ⟨_,_,rfl,hn,by unfold maxLen at hm;omega⟩
theorem xD1 {w:World}{base base' e k n:Nat}{v:Value}{xs:List Value}(h:w.ownsRow base e k v n xs)(hb:base' ≤base):w.ownsRow base' e k v n xs:=by
 obtain ⟨h1,h2⟩:=h
 refine ⟨h1,?_⟩
 rcases h2 with h2 | ⟨g,cap,cur,a1,a2,a3⟩
 · exact Or.inl h2
 · exact Or.inr ⟨g,cap,cur,a1,by omega,a3⟩
theorem vZ0 (fs:List File)(k:Nat)(h:k<fs.length):((fs.take (k+1)).map yT2).flatMap Change.cells=((fs.take k).map yT2).flatMap Change.cells++ [.string (fB++fs[k].name), .string (zO2 fs[k].times++fs[k].text), .bool false]:=by
 rw [List.take_succ_eq_append_getElem h,List.map_append,List.flatMap_append]
 rfl
theorem vS6 (qv:Value)(q:Quilt)(w:World)(hq:Quilts w qv q)(hg:GlobI w)(hl:q.files.length≤100)(hf:∀f∈q.files,1≤f.times∧f.times≤9999∧f.name.size≤1000∧f.text.size≤1000)(ht:0≤q.turn∧q.turn≤9999):
 Calls Tryz.prog 56 #[qv] w fun e w' =>∃v,e= .returned v∧w'.ownsRow w.heap.size 109 3 v (zE7 q).length ((zE7 q).flatMap Change.cells)∧Below w.heap.size w w' :=by
 obtain ⟨vf,rfl,hfs⟩:=hq
 obtain ⟨ao,ac,rfl,hac,hac'⟩:=hfs.parts
 obtain ⟨fs,tn⟩:=q
 dsimp only at hfs hl hf ht hac
 have HFS:=hid hfs
 have HG:=hid hg
 have HF:=hid hf
 have HT:=hid ht
 have CF:Hid (∀n:Int, -9999≤n→n≤99999→∀W,Below w.heap.size w W→Calls Tryz.prog 99 #[.int .i64 n] W fun e w' =>e= .returned (.string (zO2 n))∧Below W.heap.size W w'):=hid (fun n h1 h2 W hb=>xL9 n h1 h2 W (hg.below hb))
 clear hfs hg hf ht
 go_enter Tryz.func56, Tryz.ntmps56
 go_wp2_with fail
 obtain ⟨W1,hW1⟩:∃W1,W1=w.alloc (.cells #[.slice ao fs.length ac, .int .i64 tn] 32):=⟨_,rfl⟩
 rw [←hW1]
 have HB1:Hid (Below w.heap.size w W1):=hid (by rw [hW1];exact zA0 _ _)
 have HQ1:Hid (∀W,Below W1.heap.size W1 W→W.cell? ⟨w.heap.size,1,none⟩=some (.int .i64 tn)):=hid fun W hb=>zA1 hb (by rw [hW1];simp)
 clear hW1
 go_loopw [3,9] (fun v iv wr=>∃k:Nat,k≤fs.length∧iv= .int .i64 k∧wr.ownsRow W1.heap.size 109 3 v k (((fs.take k).map yT2).flatMap Change.cells)∧Below W1.heap.size W1 wr) (fun _ iv _=>fs.length - (intOf iv).toNat)
 case atStart=>exact ⟨0,Nat.zero_le _,rfl,World.ownsRow_nil _ _ _ _,Below.refl _ _⟩
 case round=>
  obtain ⟨k,hk,rfl,ho,hbw⟩:=hrel
  obtain ⟨lo,lc,rfl,hlc,hlc'⟩:=zI9 ho
  have HO:=hid ho
  have HBW:=hid hbw
  clear ho hbw
  by_cases hlt:k<fs.length
  · obtain ⟨fb,fo,rfl,hlb,x0,x1,x2⟩:=Files.cell (Rd.below HFS.out (two HB1.out HBW.out)) k hlt
    have hff:=HF.out fs[k] (List.getElem_mem hlt)
    have hrn:=vZ0 fs k hlt
    obtain ⟨f,hfe⟩:∃f,f=fs[k]:=⟨_,rfl⟩
    rw [←hfe] at x0 x1 x2 hff hrn
    have HRN:=hid hrn
    have HFF:=hid hff
    obtain ⟨W3,hW3⟩:∃W3,W3=wr.alloc (.cells #[.string f.name, .string f.text, .int .i64 f.times] 102):=⟨_,rfl⟩
    have HB3:Hid (Below wr.heap.size wr W3):=hid (by rw [hW3];exact zA0 _ _)
    have HC3:Hid (∀W,Below W3.heap.size W3 W→W.cell? ⟨wr.heap.size,0,none⟩=some (.string f.name)∧W.cell? ⟨wr.heap.size,1,none⟩=some (.string f.text)∧W.cell? ⟨wr.heap.size,2,none⟩=some (.int .i64 f.times)):=hid fun W hb=>⟨zA1 hb (by rw [hW3];simp),zA1 hb (by rw [hW3];simp),zA1 hb (by rw [hW3];simp)⟩
    have HW3:=hid hW3
    have CF3:Hid (∀W,Below W3.heap.size W3 W→Calls Tryz.prog 99 #[.int .i64 f.times] W fun e w' =>e= .returned (.string (zO2 f.times))∧Below W.heap.size W w'):=hid (fun W hb=>CF.out f.times (by omega) (by omega) W (two HB1.out (two HBW.out (two HB3.out hb))))
    have hs1:(⟨#[102]⟩:ByteArray).size+f.name.size≤9223372036854775807:=by
     have:(⟨#[102]⟩:ByteArray).size=1:=rfl
     omega
    have hs3:1+f.name.size≤9223372036854775807:=by omega
    have hs4:¬9223372036854775807<1+f.name.size:=by omega
    have hs2:(zO2 f.times).size+f.text.size≤9223372036854775807:=by
     obtain ⟨m,hm⟩:∃m:Nat,f.times=(m:Int):=⟨f.times.toNat,by omega⟩
     rw [hm,yH7 m (by omega)]
     omega
    have hs5:¬9223372036854775807<(zO2 f.times).size+f.text.size:=by omega
    have hs6:((zO2 f.times).size:Int)+(f.text.size:Int)≤9223372036854775807:=by omega
    have hs7:¬(9223372036854775807:Int)<((zO2 f.times).size:Int)+(f.text.size:Int):=by omega
    have HOA:Hid (∀W,Below W3.heap.size W3 W→W.ownsRow W1.heap.size 109 3 (.slice lo k lc) (k:Nat) (((fs.take k).map yT2).flatMap Change.cells)∧W1.heap.size≤W.heap.size):=hid (fun W hb=>⟨zE2 HO.out (two HB3.out hb),by have h1:=HBW.out.size;have h2:=HB3.out.size;have h3:=hb.size;omega⟩)
    have hk100:k≤100:=by omega
    have HNB:Hid ((Value.slice lo k lc).ownBlock≠some wr.heap.size):=hid (fun e=>by have:=(HO.out.lt _ e).2;omega)
    clear hrn hfe hW3 hff
    go_wp2_with fail
    rw [←HW3.out]
    clear x0 x1 x2 hlb
    go_region_held3 (fun W=>W.cell? ⟨wr.heap.size,0,none⟩=some (.string f.name)∧W.cell? ⟨wr.heap.size,1,none⟩=some (.string f.text)∧W.cell? ⟨wr.heap.size,2,none⟩=some (.int .i64 f.times))
     (first
      | exact HC3.out _ (Below.refl _ _).drew
      | exact HC3.out _ (HBA:Hid _).out
      | exact HC3.out _ (two (HBA:Hid _).out (zA0 _ _))
      | exact (HKZ:Hid _).out)
     (first
      | (go_at_call 99;refine (CF3.out _ (Below.refl _ _).drew).mono ?_;rintro e wA ⟨rfl,hba⟩;have HBA:Hid (Below W3.heap.size W3 wA):=hid (two (Below.refl _ _).drew hba);clear hba)
      | (refine yG0 _ rfl (.tmp 13) (.tmp 24) 34 rfl W1.heap.size 109 3 40 zN6 (.slice lo k lc) k _ (by simp [Act.eval,Act.put]) ((HOA.out _ (HBA:Hid _).out).1.alloc _) ⟨wA.heap.size,0,none⟩ 1 1 [.string (fB++f.name), .string (zO2 f.times++f.text), .bool false] (by simp [Act.eval,Act.put]) rfl zK5 (by simp [Value.oneCell']) (by omega) (by have:=(HOA.out _ (HBA:Hid _).out).2;simp;omega) ?_;intro v2 w2 ho2 hg2;have HO2:=hid ho2;have HG2:=hid hg2;have HKZ:=hid (And.intro (zW6 hg2 (HC3.out _ (two (HBA:Hid _).out (zA0 _ _))).1 HNB.out) (And.intro (zW6 hg2 (HC3.out _ (two (HBA:Hid _).out (zA0 _ _))).2.1 HNB.out) (zW6 hg2 (HC3.out _ (two (HBA:Hid _).out (zA0 _ _))).2.2 HNB.out)));clear ho2 hg2))
    all_goals
     have HO3:Hid (w2.ownsRow W1.heap.size 109 3 v2 (k+1) (((fs.take (k+1)).map yT2).flatMap Change.cells)):=hid (by rw [HRN.out];exact HO2.out)
     have HBZ:Hid (Below W1.heap.size W1 w2):=hid (zB0 (two HBW.out (two HB3.out (two HBA.out (zA0 _ _)))) ((HOA.out _ HBA.out).1.alloc _) HG2.out (Nat.le_refl _))
     go_wp2_with fail
     go_roundw
     case rel=>exact ⟨k+1,by omega,by go_num,HO3.out,HBZ.out⟩
     case measure=>simp [intOf];omega
  · obtain rfl:k=fs.length:=by omega
    have x1:=HQ1.out wr HBW.out
    have CFT:=hid (CF.out tn (by have:=HT.out;omega) (by have:=HT.out;omega) wr (two HB1.out HBW.out))
    go_wp2_with fail
    refine CFT.out.mono ?_
    rintro e wA ⟨rfl,hba⟩
    have HBA:=hid (two HBW.out hba)
    have HOA:=hid (zE2 HO.out hba)
    have hz:=HBA.out.size
    clear hba x1
    go_wp2_with (at_builtin;refine zB8 zN6 rfl _ _ rfl W1.heap.size _ _ _ rfl (HOA.out.alloc _) ⟨wA.heap.size,0,none⟩ 1 1 [.string yX6, .string (zO2 tn), .bool false] rfl rfl ?c1 ?c2 ?c3 ?c4 ?_)
    case c1=>exact zK5
    case c2=>intro u hu;simp at hu;rcases hu with rfl | rfl | rfl <;> rfl
    case c3=>omega
    case c4=>simp;omega
    intro v3 w3 ho3 hg3
    have HB3:=hid (zB0 (two HBA.out (zA0 wA (.cells #[.string yX6, .string (zO2 tn), .bool false] 109))) (HOA.out.alloc _) hg3 (Nat.le_refl _))
    have HO3:Hid (w3.ownsRow w.heap.size 109 3 v3 (zE7 ⟨fs,tn⟩).length ((zE7 ⟨fs,tn⟩).flatMap Change.cells)):=hid (by
     have e1:(zE7 ⟨fs,tn⟩).length=fs.length+1:=by simp [zE7]
     have e2:(zE7 ⟨fs,tn⟩).flatMap Change.cells=((fs.take fs.length).map yT2).flatMap Change.cells++ [.string yX6, .string (zO2 tn), .bool false]:=by
      rw [List.take_length]
      unfold zE7
      rw [List.flatMap_append]
      rfl
     rw [e1,e2,List.take_length]
     exact xD1 ho3 HB1.out.size)
    clear ho3 hg3
    go_wp2_with fail
    go_ret
    exact ⟨_,rfl,HO3.out,two HB1.out HB3.out⟩
end Go.Proofs.YtggpodlecljcbabGreatDoor
