/- A console's session in memory; opening its disks, all files, a file. -/
import Derived.Deep.CutRange
import Derived.Test.YtggpodlecljcbabGreatDoorKC1
import Derived.Test.YtggpodlecljcbabGreatDoorKTD
import Derived.Test.YtggpodlecljcbabGreatDoorKT0
namespace Go.Proofs.YtggpodlecljcbabGreatDoor
set_option linter.unusedSimpArgs false
set_option linter.unusedVariables false
set_option maxRecDepth 100000
set_option maxHeartbeats 64000000
open Lib (hid)
open Go.RowKit Go.Sort
def SF (sx tb:Nat)(L:Nat→Dk)(lb sb:Nat→Nat):Nat→Prop:=fun x=>x=sx∨TF tb L lb sb x
def SBox (b:Nat→Nat)(tb:Nat):Obj:= .cells #[.pointer (some ⟨b 0,0,none⟩), .pointer (some ⟨b 1,0,none⟩), .pointer (some ⟨b 2,0,none⟩), .pointer (some ⟨tb,0,none⟩)] 97 (0,0)
structure SessT (m B:Nat) (W0:World) (b:Nat→Nat) (w:World) (sx tb:Nat) (q:Quilt) (L:Nat→Dk) (D:Nat→DiskS) (S:Nat→StS) (lb sb:Nat→Nat) (rv:Nat→Value) (v:Value):Prop where
 t:TrioQ m B b w tb q L D S lb sb rv v
 box:w.heap[sx]?=some (SBox b tb)
 lo:W0.heap.size≤sx
 hi:sx<B
 bel:Below W0.heap.size W0 w
def Sess (m B:Nat)(W0:World)(b:Nat→Nat)(sx:Nat)(q:Quilt)(F:Nat→Prop)(w:World):Prop:=∃tb L D S lb sb rv v,SessT m B W0 b w sx tb q L D S lb sb rv v∧F=SF sx tb L lb sb
def uS4 (m B:Nat)(W0:World)(b:Nat→Nat)(sx:Nat)(q:Quilt)(F:Nat→Prop)(w:World)(s:ByteArray)(e:Ending)(w' :World):Prop:=e= .returned (.string s)∧∃F',Sess m B W0 b sx q F' w' ∧Steps F w w' F'
theorem zG4 {b:Nat→Nat}{w:World}{sx tb:Nat}(h:w.heap[sx]?=some (SBox b tb)):w.cell? ⟨sx,0,none⟩=some (.pointer (some ⟨b 0,0,none⟩))∧w.cell? ⟨sx,1,none⟩=some (.pointer (some ⟨b 1,0,none⟩))∧w.cell? ⟨sx,2,none⟩=some (.pointer (some ⟨b 2,0,none⟩))∧w.cell? ⟨sx,3,none⟩=some (.pointer (some ⟨tb,0,none⟩))∧∀o,w.frozen? ⟨sx,o,none⟩=false:=by
 unfold SBox at h
 exact ⟨by simp [World.cell?,h],by simp [World.cell?,h],by simp [World.cell?,h],by simp [World.cell?,h],fun o=>by simp [World.frozen?,h]⟩
theorem box_set {b:Nat→Nat}{w:World}{sx tb tb1:Nat}(h:w.heap[sx]?=some (SBox b tb)):(w.setCell ⟨sx,3,none⟩ (.pointer (some ⟨tb1,0,none⟩))).heap[sx]?=some (SBox b tb1):=by
 unfold SBox at h ⊢
 rw [zA3 _ _ _ _ h];rfl
section
variable {m B:Nat} {W0:World} {b:Nat→Nat} {w w' :World} {sx tb:Nat} {q:Quilt} {L:Nat→Dk} {D:Nat→DiskS} {S:Nat→StS} {lb sb:Nat→Nat} {rv:Nat→Value} {v:Value}
theorem SessT.lt (h:SessT m B W0 b w sx tb q L D S lb sb rv v):sx<w.heap.size:=(Array.getElem?_eq_some_iff.1 h.box).1
theorem SessT.nt (h:SessT m B W0 b w sx tb q L D S lb sb rv v):¬TF tb L lb sb sx:=fun hx=>by have:=(h.t.lt hx).2;have:=h.hi;omega
theorem SessT.below (h:SessT m B W0 b w sx tb q L D S lb sb rv v)(hb:Below w.heap.size w w'):SessT m B W0 b w' sx tb q L D S lb sb rv v:=
 ⟨h.t.below hb,by rw [hb.block _ h.lt];exact h.box,h.lo,h.hi,two h.bel hb⟩
theorem SessT.up (h:SessT m B W0 b w sx tb q L D S lb sb rv v){n:Nat}(hn:m≤n):SessT n B W0 b w sx tb q L D S lb sb rv v:=⟨h.t.up hn,h.box,h.lo,h.hi,h.bel⟩
theorem SessT.flt (h:SessT m B W0 b w sx tb q L D S lb sb rv v){x:Nat}(hx:SF sx tb L lb sb x):x<w.heap.size∧W0.heap.size≤x:=by
 rcases hx with rfl | hx
 · exact ⟨h.lt,h.lo⟩
 · have h1:=h.t.lt hx
   have:=h.lo
   have:=h.hi
   exact ⟨h1.1,by omega⟩
theorem SessT.sess (h:SessT m B W0 b w sx tb q L D S lb sb rv v):Sess m B W0 b sx q (SF sx tb L lb sb) w:=⟨tb,L,D,S,lb,sb,rv,v,h,rfl⟩
theorem SessT.base (h:SessT m B W0 b w sx tb q L D S lb sb rv v)(hg:GlobI W0):∃X,X.heap.size=B∧GlobI X∧Below X.heap.size X w∧Below W0.heap.size W0 X:=xA2 h.bel (by have:=h.lo;have:=h.hi;omega) h.t.lo hg
theorem SessT.said (h:SessT m B W0 b w sx tb q L D S lb sb rv v)(hb:Below w.heap.size w w')(s:ByteArray):uS4 (m+1) B W0 b sx q (SF sx tb L lb sb) w s (.returned (.string s)) w' :=
 ⟨rfl,_,((h.below hb).up (Nat.le_succ m)).sess,(Steps.refl _ _).below hb⟩
end
theorem xA4 (W:World):Calls Tryz.prog 71 #[.int .i64 0] W fun e w' =>e= .returned (.string yK1)∧w' =W:=by
 have h:=yA3 0 W (by decide)
 rw [show zP7 ((0:Nat):Int)=yK1 by decide +kernel] at h
 exact h
theorem df_sf {sx tb:Nat}{L:Nat→Dk}{lb sb:Nat→Nat}{x:Nat}(h:DF L x):SF sx tb L lb sb x:=Or.inr (uH2 h)
theorem uQ7 (m B:Nat)(W0:World)(b:Nat→Nat)(w:World)(sx tb:Nat)(q:Quilt)(L:Nat→Dk)(D:Nat→DiskS)(S:Nat→StS)(lb sb:Nat→Nat)(rv:Nat→Value)(v:Value)(h:SessT m B W0 b w sx tb q L D S lb sb rv v)(hg:GlobI W0):
 Calls Tryz.prog 39 #[.pointer (some ⟨sx,0,none⟩)] w (uS4 (m+1) B W0 b sx q (SF sx tb L lb sb) w yK1):=by
 obtain ⟨X,hXs,hXg,hXw,hX0⟩:=h.base hg
 have CO:=vK1 X b L D S m q w (by rw [hXs];exact h.t.pre.ds) (fun k hk=>⟨h.t.has k hk,h.t.ep k hk⟩) hXg hXw h.t.good
 rw [hXs] at CO
 replace CO:=hid CO
 have HH:=hid h
 have HND:Hid (¬DF L sx):=hid (fun hx=>h.nt (uH2 hx))
 have HX:=hid (And.intro hXs (And.intro hXw hX0))
 obtain ⟨y0,y1,y2,y3,yf⟩:=zG4 h.box
 have CI:=hid xA4
 clear h hg hXs hXg hXw hX0
 go_enter Tryz.func39, Tryz.ntmps39
 go_wp2_with fail
 refine CO.out.mono ?_
 rintro e w1 ⟨tb1,L1,lb1,sb1,rv1,v1,rfl,ht,hs,hb⟩
 have hk:=hs.keep HH.out.lt HND.out
 have hbx:=hk.1.trans HH.out.box
 have HT:=hid ht
 have HS:=hid hs
 have HB:=hid hb
 have HBX:=hid hbx
 obtain ⟨z0,z1,z2,z3,zf⟩:=zG4 hbx
 clear ht hs hb hk hbx y0 y1 y2 y3 yf
 go_wp2_with fail
 refine (CI.out _).mono ?_
 rintro e w2 ⟨rfl,rfl⟩
 go_wp2_with fail
 go_ret
 have hlt:=HH.out.hi
 have hlo:=HH.out.lo
 have hB0:B≤w.heap.size:=HH.out.t.lo
 have hof:Off (fun x=>x=sx) w1 (w1.setCell ⟨sx,3,none⟩ (.pointer (some ⟨tb1,0,none⟩))):=zA7 (F:=fun x=>x=sx) w1 ⟨sx,3,none⟩ rfl _
 have hof2:Off (fun x=>x<B) w1 (w1.setCell ⟨sx,3,none⟩ (.pointer (some ⟨tb1,0,none⟩))):=hof.mono (fun x e=>by have h1:x=sx:=e;omega)
 refine ⟨rfl,SF sx tb1 L1 lb1 sb1,⟨tb1,L1,D,S,lb1,sb1,rv1,v1,⟨⟨HT.out.pre.lowoff hof2,HT.out.has,fun k hk=>Nat.le_succ_of_le (HT.out.ep k hk),HT.out.good⟩,box_set HBX.out,hlo,hlt,?_⟩,rfl⟩,⟨?_,fun x hx=>?_⟩⟩
 · have h1:=two HX.out.2.2 (by have h2:=HB.out;rw [←HX.out.1] at h2;exact h2)
   exact (h1.trans (hof.below _ h1.size (fun x e=>by have h2:x=sx:=e;omega)))
 · refine (HS.out.off.mono (fun x hx=>df_sf hx)).trans hof (fun x hx hG=>?_)
   have h1:x=sx:=hG
   exact Or.inl h1
 · rcases hx with hx | hx
   · exact Or.inl (Or.inl hx)
   · exact (HS.out.grow x hx).imp df_sf id
open Go.RowKit Go.Sort
@[go_sem] theorem field_turn (x y : Value) (w : World) : (Instr.field 32 (.agg #[x, y]) 1).run Tryz.prog w = .ok y w := by kernel_rfl
theorem xA9 (s:ByteArray){n:Nat}(h:s.size≤n)(hn:1≤n):(yC3 s).size≤n:=by
 unfold yC3
 split
 · exact hn
 · exact h
theorem line_le {f:File}(h1:f.name.size≤6)(h2:f.text.size≤12):(zR4 f).size≤19:=by
 unfold zR4
 rw [ByteArray.size_append,ByteArray.size_append]
 have:=xA9 f.text h2 (by decide)
 have:(⟨#[61]⟩:ByteArray).size=1:=rfl
 omega
theorem uE1 (n:Nat):∀(l:List (List UInt8)),(∀x∈l,x.length≤n)→(Lib.join l [32]).length≤(n+1) * l.length
 | [],_=>by simp [Lib.join]
 | [x],h=>by
  have:=h x (by simp)
  simp only [Lib.join,List.intercalate_singleton,List.length_singleton]
  omega
 | x::y::r,h=>by
  have ih:=uE1 n (y::r) (fun z hz=>h z (List.mem_cons_of_mem _ hz))
  have hx:=h x (by simp)
  unfold Lib.join at ih ⊢
  rw [List.intercalate_cons_cons]
  rw [List.length_append,List.length_append]
  simp only [List.length_cons,List.length_nil] at ih ⊢
  have e:(n+1) * (r.length+1+1)=(n+1) * (r.length+1)+(n+1):=by rw [Nat.mul_add,Nat.mul_one]
  omega
theorem uO7 {n:Nat}{l:List ByteArray}(h:∀s∈l,s.size≤n):(yB8 l).size≤(n+1) * l.length:=by
 have:=uE1 n (l.map (·.data.toList)) (fun x hx=>by
  obtain ⟨s,hs,rfl⟩:=List.mem_map.1 hx
  rw [Array.length_toList];exact h s hs)
 rw [List.length_map] at this
 unfold yB8
 have e:(⟨(Lib.join (l.map (·.data.toList)) [32]).toArray⟩:ByteArray).size=(Lib.join (l.map (·.data.toList)) [32]).length:=by
  show (Lib.join (l.map (·.data.toList)) [32]).toArray.size=_
  rw [List.size_toArray]
 rw [e];exact this
theorem vS1 (fs:List File)(k:Nat)(h:k<fs.length):((fs.take (k+1)).map zR4).flatMap zD3=((fs.take k).map zR4).flatMap zD3++ [.string (zR4 fs[k])]:=by
 rw [List.take_succ_eq_append_getElem h,List.map_append,List.flatMap_append]
 rfl
theorem yJ4 {q:Quilt}(h:Good q):(∀f∈q.files,f.name.size≤6∧f.text.size≤12∧1≤f.times∧f.times≤9999)∧q.files.length≤8:=by
 refine ⟨fun f hf=>?_,h.fine.len⟩
 obtain ⟨h1,h2,h3,h4⟩:=zK0 (h.fine.each f hf)
 have h5:=yG6 h1
 rw [Array.length_toList] at h5
 exact ⟨h5,h2,h3,h4⟩
theorem h_mem {l:List File}{n:ByteArray}{f:File}(h:zC6 l n=some f):f∈l:=by
 unfold zC6 at h
 exact List.mem_of_find?_eq_some h
section
variable (m B:Nat) (W0:World) (b:Nat→Nat) (w:World) (sx tb:Nat) (q:Quilt) (L:Nat→Dk) (D:Nat→DiskS) (S:Nat→StS) (lb sb:Nat→Nat) (rv:Nat→Value) (v:Value)
theorem con_all (h:SessT m B W0 b w sx tb q L D S lb sb rv v):
 Calls Tryz.prog 74 #[.pointer (some ⟨sx,0,none⟩)] w fun e w' =>e= .returned (.string (vV5 q))∧Below w.heap.size w w' :=by
 have CQ:=hid (zQ8 h.t.pre h.t.few)
 obtain ⟨hsz,hl8⟩:=yJ4 h.t.good
 have HSZ:=hid hsz
 obtain ⟨y0,y1,y2,y3,yf⟩:=zG4 h.box
 obtain ⟨fs,tn⟩:=q
 dsimp only at hl8
 clear h hsz
 go_enter Tryz.func74, Tryz.ntmps74
 go_wp2_with fail
 refine CQ.out.mono ?_
 rintro e w1 ⟨qv,rfl,⟨v1,rfl,hf1,_⟩,hb1⟩
 obtain ⟨ao,ac,rfl,hac,hac'⟩:=hf1.parts
 have HFS:=hid hf1
 have HB1:=hid hb1
 dsimp only
 dsimp only at HFS hac
 clear hf1 hb1 y0 y1 y2 y3 yf
 go_wp2_with fail
 go_loopw [3,13] (fun v iv wr=>∃k:Nat,k≤fs.length∧iv= .int .i64 k∧wr.ownsRow w1.heap.size 9 1 v k (((fs.take k).map zR4).flatMap zD3)∧Below w1.heap.size w1 wr) (fun _ iv _=>fs.length - (intOf iv).toNat)
 case atStart=>exact ⟨0,Nat.zero_le _,rfl,World.ownsRow_nil _ _ _ _,Below.refl _ _⟩
 case round=>
  obtain ⟨k,hk,rfl,ho,hbw⟩:=hrel
  obtain ⟨lo,lc,rfl,hlc,hlc'⟩:=zI9 ho
  have HO:=hid ho
  have HBW:=hid hbw
  clear ho hbw
  by_cases hlt:k<fs.length
  · obtain ⟨fb,fo,rfl,hlb,x0,x1,x2⟩:=Files.cell (Rd.below HFS.out HBW.out) k hlt
    have hff:=HSZ.out fs[k] (List.getElem_mem hlt)
    have hrn:=vS1 fs k hlt
    obtain ⟨f,hfe⟩:∃f,f=fs[k]:=⟨_,rfl⟩
    rw [←hfe] at x0 x1 x2 hff hrn
    have HRN:=hid hrn
    have hwl:=xA9 f.text hff.2.1 (by decide)
    have CW:=vM5 f.text
    obtain ⟨t,ht⟩:∃t,t=yC3 f.text:=⟨_,rfl⟩
    have hlf:zR4 f=f.name++⟨#[61]⟩++t:=by rw [ht];rfl
    rw [←ht] at hwl CW
    obtain ⟨hf6,hf12,_,_⟩:=hff
    obtain ⟨W3,hW3⟩:∃W3,W3=wr.alloc (.cells #[.string f.name, .string f.text, .int .i64 f.times] 102):=⟨_,rfl⟩
    have HB3:Hid (Below wr.heap.size wr W3):=hid (by rw [hW3];exact zA0 _ _)
    have HC3:Hid (∀W,Below W3.heap.size W3 W→W.cell? ⟨wr.heap.size,0,none⟩=some (.string f.name)∧W.cell? ⟨wr.heap.size,1,none⟩=some (.string f.text)):=hid fun W hb=>⟨zA1 hb (by rw [hW3];simp),zA1 hb (by rw [hW3];simp)⟩
    have HW3:=hid hW3
    have CF3:Hid (∀W,Calls Tryz.prog 119 #[.string f.text] W fun e w' =>e= .returned (.string t)∧Below W.heap.size W w'):=hid (fun W=>(CW W).mono (by rintro e w' ⟨rfl,rfl⟩;exact ⟨rfl,Below.refl _ _⟩))
    have hz1:(⟨#[61]⟩:ByteArray).size=1:=rfl
    obtain ⟨ne,hne⟩:∃ne,ne=f.name++⟨#[61]⟩:=⟨_,rfl⟩
    have hnz:ne.size≤7:=by rw [hne,ByteArray.size_append];omega
    have HNE:=hid hne
    have HLF:=hid hlf
    have hs3:f.name.size+1≤9223372036854775807:=by omega
    have hs4:¬9223372036854775807<f.name.size+1:=by omega
    have hs5:¬9223372036854775807<(f.name++⟨#[61]⟩).size+t.size:=by rw [←hne];omega
    have hs6:(f.name++⟨#[61]⟩).size+t.size≤9223372036854775807:=by rw [←hne];omega
    have hs7:f.name.size+1+t.size≤9223372036854775807:=by omega
    have hs8:¬9223372036854775807<f.name.size+1+t.size:=by omega
    have HOA:Hid (∀W,Below W3.heap.size W3 W→W.ownsRow w1.heap.size 9 1 (.slice lo k lc) (k:Nat) (((fs.take k).map zR4).flatMap zD3)∧w1.heap.size≤W.heap.size):=hid (fun W hb=>⟨zE2 HO.out (two HB3.out hb),by have h1:=HBW.out.size;have h2:=HB3.out.size;have h3:=hb.size;omega⟩)
    have hk100:k≤100:=by omega
    have HNB:Hid ((Value.slice lo k lc).ownBlock≠some wr.heap.size):=hid (fun e=>by have:=(HO.out.lt _ e).2;omega)
    clear hrn hfe hW3 ht hlf CW hne
    go_wp2_with fail
    rw [←HW3.out]
    clear x0 x1 x2 hlb
    go_region_held3 (fun W=>W.cell? ⟨wr.heap.size,0,none⟩=some (.string f.name)∧W.cell? ⟨wr.heap.size,1,none⟩=some (.string f.text))
     (first
      | exact HC3.out _ (Below.refl _ _).drew
      | exact HC3.out _ (HBA:Hid _).out
      | exact HC3.out _ (two (HBA:Hid _).out (zA0 _ _))
      | exact (HKZ:Hid _).out)
     (first
      | (go_at_call 119;refine (CF3.out _).mono ?_;rintro e wA ⟨rfl,hba⟩;have HBA:Hid (Below W3.heap.size W3 wA):=hid (two (Below.refl _ _).drew hba);clear hba)
      | (refine yG0 _ rfl (.tmp 17) (.tmp 25) 56 rfl w1.heap.size 9 1 16 xA3 (.slice lo k lc) k _ (by simp [Act.eval,Act.put]) ((HOA.out _ (HBA:Hid _).out).1.alloc _) ⟨wA.heap.size,0,none⟩ 1 1 [.string (f.name++⟨#[61]⟩++t)] (by simp [Act.eval,Act.put]) rfl zL0 (by simp [Value.oneCell']) (by omega) (by have:=(HOA.out _ (HBA:Hid _).out).2;simp;omega) ?_;intro v2 w2 ho2 hg2;have HO2:=hid ho2;have HG2:=hid hg2;have HKZ:=hid (And.intro (zW6 hg2 (HC3.out _ (two (HBA:Hid _).out (zA0 _ _))).1 HNB.out) (zW6 hg2 (HC3.out _ (two (HBA:Hid _).out (zA0 _ _))).2 HNB.out));clear ho2 hg2))
    all_goals
     have HO3:Hid (w2.ownsRow w1.heap.size 9 1 v2 (k+1) (((fs.take (k+1)).map zR4).flatMap zD3)):=hid (by rw [HRN.out,HLF.out];exact HO2.out)
     have HBZ:Hid (Below w1.heap.size w1 w2):=hid (zB0 (two HBW.out (two HB3.out (two HBA.out (zA0 _ _)))) ((HOA.out _ HBA.out).1.alloc _) HG2.out (Nat.le_refl _))
     go_wp2_with fail
     go_roundw
     case rel=>exact ⟨k+1,by omega,by go_num,HO3.out,HBZ.out⟩
     case measure=>simp [intOf];omega
  · obtain rfl:k=fs.length:=by omega
    by_cases h0:fs.length=0
    · have hall:vV5 ⟨fs,tn⟩=yE1:=by unfold vV5;rw [if_pos h0]
      have HALL:=hid hall
      have CJ:=zQ0 lo lc wr
      rw [show (0:Nat)=fs.length from h0.symm] at CJ
      have HCJ:=hid CJ
      clear CJ hall h0
      go_wp2_with fail
      refine HCJ.out.mono ?_
      rintro e w3 ⟨rfl,rfl⟩
      go_wp2_with fail
      go_ret
      rw [HALL.out]
      exact ⟨rfl,two HB1.out HBW.out⟩
    · have hall:vV5 ⟨fs,tn⟩=yB8 (fs.map zR4):=by unfold vV5;rw [if_neg h0]
      have HALL:=hid hall
      have htx:Texts wr (.slice lo fs.length lc) (fs.map zR4):=by
       have h1:=HO.out
       rw [List.take_length] at h1
       have h2:fs.length=(fs.map zR4).length:=by simp
       rw [h2] at h1 ⊢
       exact SL.of_own h1
      have CJ:=vU5 (.slice lo fs.length lc) (fs.map zR4) wr htx (fun e=>h0 (by simpa using congrArg List.length e)) (by rw [List.length_map];omega) (by
       have h1:=uO7 (n:=19) (l:=fs.map zR4) (fun s hs=>by
        obtain ⟨f,hf,rfl⟩:=List.mem_map.1 hs
        exact line_le (HSZ.out f hf).1 (HSZ.out f hf).2.1)
       rw [List.length_map] at h1
       omega)
      have HCJ:=hid CJ
      clear CJ hall h0 htx
      go_wp2_with fail
      refine HCJ.out.mono ?_
      rintro e w3 ⟨rfl,hb3⟩
      have HB3:=hid hb3
      clear hb3
      go_wp2_with fail
      go_ret
      rw [HALL.out]
      exact ⟨rfl,two HB1.out (two HBW.out HB3.out)⟩
theorem uQ6 (n:ByteArray)(h:SessT m B W0 b w sx tb q L D S lb sb rv v)(hg:GlobI W0):
 Calls Tryz.prog 75 #[.pointer (some ⟨sx,0,none⟩), .string n] w fun e w' =>e= .returned (.string (yP2 q n))∧Below w.heap.size w w' :=by
 have CQ:=hid (zQ8 h.t.pre h.t.few)
 obtain ⟨hsz,hl8⟩:=yJ4 h.t.good
 have HSZ:=hid hsz
 have HRI:=hid h.t.good.fine.rises
 have HG:Hid (GlobI w):=hid (hg.below h.bel)
 obtain ⟨y0,y1,y2,y3,yf⟩:=zG4 h.box
 clear h hsz hg
 go_enter Tryz.func75, Tryz.ntmps75
 go_wp2_with fail
 refine CQ.out.mono ?_
 rintro e w1 ⟨qv,rfl,⟨v1,rfl,hf1,_⟩,hb1⟩
 obtain ⟨ao,ac,rfl,hac,hac'⟩:=hf1.parts
 have HB1:=hid hb1
 have CG:=zS6 (.slice ao q.files.length ac) q.files n w1 hf1 hl8 HRI.out
 unfold zO5 at CG
 cases hgt:zC6 q.files n with
 | none=>
  have HR:Hid (yP2 q n=zP3 5):=hid (by unfold yP2;rw [hgt])
  rw [hgt,show (zT2 (none:Option File)).val= .agg #[.string ⟨#[]⟩, .string ⟨#[]⟩, .int .i64 0] from rfl,Option.isSome_none] at CG
  have HCG:=hid CG
  have CF:=zH7 5 (by decide) (by decide)
  rw [zA5 (by decide)] at CF
  have HCF:=hid CF
  clear hf1 hb1 CG CF hgt y0 y1 y2 y3 yf
  go_wp2_with fail
  refine HCG.out.mono ?_
  rintro e w2 ⟨rfl,hb2⟩
  have HB2:=hid (two HB1.out hb2)
  clear hb2
  go_wp2_with fail
  refine (HCF.out _).mono ?_
  rintro e w3 ⟨rfl,rfl⟩
  go_wp2_with fail
  go_ret
  rw [HR.out]
  exact ⟨rfl,two HB2.out (zA0 _ _)⟩
 | some f=>
  have HR:Hid (yP2 q n=yC3 f.text++⟨#[32]⟩++zP7 f.times):=hid (by unfold yP2;rw [hgt])
  rw [hgt,show (zT2 (some f)).val= .agg #[.string f.name, .string f.text, .int .i64 f.times] from rfl,Option.isSome_some] at CG
  have HCG:=hid CG
  have hff:=HSZ.out f ((h_mem hgt))
  obtain ⟨hf6,hf12,ht1,ht9⟩:=hff
  obtain ⟨tn,htn⟩:∃tn:Nat,f.times=tn:=⟨f.times.toNat,by omega⟩
  have hwl:=xA9 f.text hf12 (by decide)
  have CW:=vM5 f.text
  obtain ⟨t,ht⟩:∃t,t=yC3 f.text:=⟨_,rfl⟩
  rw [←ht] at hwl CW HR
  have his:=yQ7 tn (by omega)
  have CI:Hid (∀W,Below w1.heap.size w1 W→Calls Tryz.prog 71 #[.int .i64 f.times] W fun e w' =>e= .returned (.string (zP7 f.times))∧Below W.heap.size W w'):=hid (fun W hb=>by
   rw [htn]
   exact vM7 tn W (HG.out.below (two HB1.out hb)) (by omega))
  rw [htn] at HR CI
  obtain ⟨ti,hti⟩:∃ti,ti=zP7 (tn:Int):=⟨_,rfl⟩
  rw [←hti] at his HR CI
  have HCW:Hid (∀W,Calls Tryz.prog 119 #[.string f.text] W fun e w' =>e= .returned (.string t)∧Below W.heap.size W w'):=hid (fun W=>(CW W).mono (by rintro e w' ⟨rfl,rfl⟩;exact ⟨rfl,Below.refl _ _⟩))
  rw [htn] at HCG
  have hsp:(t++⟨#[32]⟩).size≤13:=by
   rw [ByteArray.size_append]
   have:(⟨#[32]⟩:ByteArray).size=1:=rfl
   omega
  have hs3:t.size+1≤9223372036854775807:=by omega
  have hs4:¬9223372036854775807<t.size+1:=by omega
  have hs5:¬9223372036854775807<(t++⟨#[32]⟩).size+ti.size:=by omega
  have hs6:(t++⟨#[32]⟩).size+ti.size≤9223372036854775807:=by omega
  have hs7:t.size+1+ti.size≤9223372036854775807:=by omega
  have hs8:¬9223372036854775807<t.size+1+ti.size:=by omega
  clear hf1 hb1 CG hgt y0 y1 y2 y3 yf hf6 ht1 ht9 ht hti CW
  go_wp2_with fail
  refine HCG.out.mono ?_
  rintro e w2 ⟨rfl,hb2⟩
  have HB2:=hid hb2
  clear hb2
  obtain ⟨W3,hW3⟩:∃W3,W3=w2.alloc (.cells #[.string f.name, .string f.text, .int .i64 tn] 102):=⟨_,rfl⟩
  have HB3:Hid (Below w1.heap.size w1 W3):=hid (by rw [hW3];exact two HB2.out (zA0 _ _))
  have HC3:Hid (∀W,Below W3.heap.size W3 W→W.cell? ⟨w2.heap.size,1,none⟩=some (.string f.text)∧W.cell? ⟨w2.heap.size,2,none⟩=some (.int .i64 tn)):=hid fun W hb=>⟨zA1 hb (by rw [hW3];simp),zA1 hb (by rw [hW3];simp)⟩
  have HW3:=hid hW3
  clear hW3 htn
  go_wp2_with fail
  rw [←HW3.out]
  go_region_held3 (fun W=>W.cell? ⟨w2.heap.size,1,none⟩=some (.string f.text)∧W.cell? ⟨w2.heap.size,2,none⟩=some (.int .i64 tn))
   (first
    | exact HC3.out _ (Below.refl _ _).drew
    | exact HC3.out _ (HBI:Hid _).out
    | exact HC3.out _ (HBA:Hid _).out)
   (first
    | (go_at_call 119;refine (HCW.out _).mono ?_;rintro e wA ⟨rfl,hba⟩;have HBA:Hid (Below W3.heap.size W3 wA):=hid (two (Below.refl _ _).drew hba);clear hba)
    | (go_at_call 71;refine (CI.out _ (two HB3.out (HBA:Hid _).out)).mono ?_;rintro e wI ⟨rfl,hbi⟩;have HBI:Hid (Below W3.heap.size W3 wI):=hid (two (HBA:Hid _).out hbi);clear hbi))
  all_goals
   go_wp2_with fail
   go_ret
   rw [HR.out]
   exact ⟨rfl,two HB1.out (two HB3.out HBI.out)⟩
end
end Go.Proofs.YtggpodlecljcbabGreatDoor
