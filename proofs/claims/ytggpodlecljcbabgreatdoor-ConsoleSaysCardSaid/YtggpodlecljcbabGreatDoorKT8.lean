/- A trio's quilt; a deed done to it. -/
import Derived.Test.YtggpodlecljcbabGreatDoorKT1
import Derived.Test.YtggpodlecljcbabGreatDoorKST
import Derived.Test.YtggpodlecljcbabGreatDoorKI4
namespace Go.Proofs.YtggpodlecljcbabGreatDoor
set_option linter.unusedSimpArgs false
set_option linter.unusedVariables false
set_option maxRecDepth 100000
set_option maxHeartbeats 64000000
open Lib (hid)
open Go.RowKit Go.Sort
theorem yG4 {w:World}{b:Nat}{o:Option Addr}{n c:Nat}{k:IntKind}{i:Int}{t:TypeId}(h:w.heap[b]?=some (.cells #[.slice o n c, .int k i] t (0,0))):NoStr w b:=by
 intro j s hc
 simp only [World.cell?,h] at hc
 match j,hc with
 | 0,hc=>simp at hc
 | 1,hc=>simp at hc
 | j+2,hc=>simp at hc
theorem vG2 {w:World}{ad:Addr}{n c:Nat}{l:List File}(h:Files w (.slice (some ad) n c) l):∀j u,(l.flatMap File.cells)[j]?=some u→w.cell? (ad.add j)=some u:=by
 obtain ⟨_,ao,cap,e,_,_,_,h6⟩:=h
 simp only [Value.slice.injEq] at e
 obtain ⟨rfl,_,_⟩:=e
 intro j u hj
 obtain ⟨b,off,e,hc⟩:=h6 j u hj
 cases e
 rw [Addr.add_lit];exact hc
theorem vG3 (l:List File):∀u∈l.flatMap File.cells,u.oneCell' =true:=by
 intro u hu
 obtain ⟨f,_,hf⟩:=List.mem_flatMap.1 hu
 simp only [File.cells,List.mem_cons,List.not_mem_nil,or_false] at hf
 rcases hf with rfl | rfl | rfl <;> rfl
section
variable {P:Nat→Prop} {B:Nat} {b:Nat→Nat} {w:World} {tb:Nat} {L:Nat→Dk} {D:Nat→DiskS} {lb sb:Nat→Nat} {rv:Nat→Value} {sp:Nat→Option Addr} {v:Value} {q:Quilt}
theorem zQ8 (h:PreT P B b w tb L D lb sb rv sp v q)(hl:q.files.length≤1000):
 Calls Tryz.prog 16 #[.pointer (some ⟨tb,0,none⟩)] w fun e w' =>∃qv,e= .returned qv∧zT6 w.heap.size w' qv q∧Below w.heap.size w w' :=by
 obtain ⟨vo,vc,rfl,hvc,hvc'⟩:=h.qv.parts
 obtain ⟨W1,hW1⟩:∃W1,W1=w.alloc (.cells #[.slice none 0 0, .int .i64 0] 32):=⟨_,rfl⟩
 have HW1:=hid hW1
 have hb1:Below w.heap.size w W1:=by rw [hW1];exact zA0 _ _
 have HZ1:Hid (W1.heap.size=w.heap.size+1):=hid (by rw [hW1];simp)
 have HBX:Hid (W1.heap[w.heap.size]?=some (.cells #[.slice none 0 0, .int .i64 0] 32 (0,0))):=hid (by rw [hW1];show (w.heap.push _)[w.heap.size]?=_;simp)
 have HH:=hid (h.below hb1)
 have HB1:=hid hb1
 have HK:Hid (∀W,Below W1.heap.size W1 W→W.cell? ⟨tb,6,none⟩=some (.slice vo q.files.length vc)∧W.cell? ⟨tb,7,none⟩=some (.int .i64 q.turn)∧W.cell? ⟨w.heap.size,0,none⟩=some (.slice none 0 0)∧W.cell? ⟨w.heap.size,1,none⟩=some (.int .i64 0)∧W.frozen? ⟨w.heap.size,0,none⟩=false∧W.frozen? ⟨w.heap.size,1,none⟩=false∧NoStr W w.heap.size):=hid (fun W hW=>by
  have hc:=((h.below hb1).below hW).cell
  have hx:W.heap[w.heap.size]?=some (.cells #[.slice none 0 0, .int .i64 0] 32 (0,0)):=by rw [hW.block _ (by rw [HZ1.out];omega)];exact HBX.out
  exact ⟨hc.2.2.2.2.2.2.1,hc.2.2.2.2.2.2.2.1,by simp [World.cell?,hx],by simp [World.cell?,hx],by simp [World.frozen?,hx],by simp [World.frozen?,hx],yG4 hx⟩)
 clear hW1 hb1 h
 obtain ⟨k0,k1,k2,k3,k4,k5,_⟩:=HK.out W1 (Below.refl _ _)
 have HC1:Hid (Files W1.drew (.slice vo q.files.length vc) q.files):=hid (HH.out.qv.below (Below.refl _ _).drew)
 go_enter Tryz.func16, Tryz.ntmps16
 go_wp2_with fail
 rw [←HW1.out]
 cases vo with
 | none=>
  have hn:q.files.length=0:=by
   obtain ⟨_,ao,cap,e,_,_,_,h6⟩:=HC1.out
   simp only [Value.slice.injEq] at e
   obtain ⟨rfl,_,_⟩:=e
   by_cases hz:q.files.length=0
   · exact hz
   · have hl:0<(q.files.flatMap File.cells).length:=by rw [zC2 File.cells_len];omega
     obtain ⟨_,_,e,_⟩:=h6 0 _ (List.getElem?_eq_getElem hl)
     cases e
  have hq0:q.files= []:=List.length_eq_zero_iff.1 hn
  have hvz:vc=0:=by
   obtain ⟨_,ao,cap,e,_,_,h5,_⟩:=HC1.out
   simp only [Value.slice.injEq] at e
   obtain ⟨rfl,_,rfl⟩:=e
   exact h5 hn rfl
  rw [hn,hvz] at k0
  have HQ0:=hid hq0
  clear hn hvz hvc hvc' hq0
  obtain ⟨qf,qt⟩:=q
  have hq1:qf= []:=HQ0.out
  subst hq1
  go_region
  all_goals
   go_wp2_with fail
   refine bodyPost_ret (v:= .agg #[.slice none 0 0, .int .i64 qt]) (by simp [results, Tryz.results16,go_sem,k2,k3,k4,k5]) rfl ?_
   exact ⟨_,rfl,⟨_,rfl,Rd.nil _,zH5 _⟩,((HB1.out.setCell (p:=⟨w.heap.size,0,none⟩) (Nat.le_refl _) _).setCell (p:=⟨w.heap.size,1,none⟩) (Nat.le_refl _) _).drew⟩
 | some ad=>
  have HNW:=hid (vG2 HC1.out)
  go_region_law (refine yG0 _ rfl (.const (.slice none 0 0)) (.tmp 7) 30 rfl W1.heap.size 102 3 40 zN5 (.slice none 0 0) 0 [] (by simp [Act.eval,Act.put]) (World.ownsRow_nil _ _ _ _) ad q.files.length vc (q.files.flatMap File.cells) (by simp [Act.eval,Act.put]) (zC2 File.cells_len _) HNW.out (vG3 _) (by omega) (Nat.le_refl _) ?_;intro v2 w2 ho2 hg2;have HO2:=hid ho2;obtain ⟨ao2,ac2,rfl,_,_⟩:=zD4 ho2;have hb2:Below W1.heap.size W1 w2:=zB0 (Below.refl _ _).drew (World.ownsRow_nil _ W1.heap.size 102 3) hg2 (Nat.le_refl _);obtain ⟨j0,j1,j2,j3,j4,j5,jn⟩:=HK.out w2 hb2;have HB2:=hid hb2;clear ho2 hg2 hb2)
  all_goals
   go_wp2_with fail
   refine bodyPost_ret (v:= .agg #[.slice ao2 q.files.length ac2, .int .i64 q.turn]) (by simp [results, Tryz.results16,go_sem,j2,j3,j4,j5]) rfl ?_
   have hof:Files w2 (.slice ao2 q.files.length ac2) q.files:=by
    have h:=SL.of_own HO2.out
    rw [Nat.zero_add,List.nil_append] at h
    exact h
   exact ⟨_,rfl,zI8 hof jn (zD9 hof) (fun b hb=>Nat.le_trans HB1.out.size (HO2.out.lt b (by rw [Nat.zero_add];exact hb)).1),((two HB1.out HB2.out).setCell (p:=⟨w.heap.size,0,none⟩) (Nat.le_refl _) _).setCell (p:=⟨w.heap.size,1,none⟩) (Nat.le_refl _) _⟩
end
theorem yK0 {α:Type}{K:Nat}{enc:α→List Value}{w w' :World}{v:Value}{l:List α}{L:Nat→Dk}{lb sb:Nat→Nat}(hK:0<K)(h:∀i,i<3→RdF (stF (L i) (lb i) (sb i)) K enc w v l){k:Nat}(hk:k<3){L' :Dk}{lb' sb' :Nat}(ho:Off (stF (L k) (lb k) (sb k)) w w')
 (hg:∀x,stF L' lb' sb' x→stF (L k) (lb k) (sb k) x∨w.heap.size≤x):∀i,i<3→RdF (stF (upd L k L' i) (upd lb k lb' i) (upd sb k sb' i)) K enc w' v l:=fun i hi=>by
 refine ⟨((h k hk).off ho).rd,?_⟩
 by_cases e:i=k
 · subst e
   simp only [zA9]
   exact yJ7 (h i hi).far (xU5 (h i hi).rd hK) hg
 · simp only [zD0 _ _ e]
   exact (h i hi).far
theorem xN6 {α:Type}(f g:Nat→α)(k:Nat):upd (fun i=>if i<k then f i else g i) k (f k)=fun i=>if i<k+1 then f i else g i:=by
 funext i
 by_cases e:i=k
 · subst e
   rw [zA9,if_pos (by omega)]
 · rw [zD0 _ _ e]
   by_cases h:i<k
   · rw [if_pos h,if_pos (by omega)]
   · rw [if_neg h,if_neg (by omega)]
theorem PreT.asD {P:Nat→Prop}{B:Nat}{b:Nat→Nat}{w:World}{tb:Nat}{L:Nat→Dk}{D D' :Nat→DiskS}{lb sb:Nat→Nat}{rv:Nat→Value}{sp:Nat→Option Addr}{v:Value}{q:Quilt}(h:PreT P B b w tb L D lb sb rv sp v q)(e:∀k,k<3→D k=D' k):PreT P B b w tb L D' lb sb rv sp v q:=
 { h with ds:=h.ds.as e,st:=fun k hk hp S q' hc=>h.st k hk hp S q' (by rw [e k hk];exact hc) }
open Go.RowKit Go.Sort
@[go_sem] theorem index_s0 (x0 x1 x2 : Value) (w : World) : (Instr.index 79 (.agg #[x0, x1, x2]) (.int .i64 0)).run Tryz.prog w = .ok x0 w := by kernel_rfl
@[go_sem] theorem index_s1 (x0 x1 x2 : Value) (w : World) : (Instr.index 79 (.agg #[x0, x1, x2]) (.int .i64 1)).run Tryz.prog w = .ok x1 w := by kernel_rfl
@[go_sem] theorem index_s2 (x0 x1 x2 : Value) (w : World) : (Instr.index 79 (.agg #[x0, x1, x2]) (.int .i64 2)).run Tryz.prog w = .ok x2 w := by kernel_rfl
def zF7 (q q' :Quilt):List Change:=zH9 (zE7 q) (zE7 q')
def zL1 (S:Nat→StS)(c:List Change)(D:Nat→DiskS)(k:Nat):DiskS × StS × Nat:=zH2 34 (S k) c (D k)
structure DoR (w0 w:World) (b:Nat→Nat) (tb:Nat) (L:Nat→Dk) (lb:Nat→Nat) (D:Nat→DiskS) (S:Nat→StS) (sb:Nat→Nat) (q q' :Quilt) (e:Ending) (w' :World):Prop where
 all:(∀k,k<3→(zL1 S (zF7 q q') D k).2.2=0)→e= .returned .nilIface∧∃L' lb' rv' v',PreT (fun _=>True) w0.heap.size b w' tb L' (fun k=>(zL1 S (zF7 q q') D k).1) lb' sb rv' (fun k=>some ⟨sb k,0,none⟩) v' q' ∧Steps (TF tb L lb sb) w w' (TF tb L' lb' sb)
 some:∀m,m<3→(∀k,k<m→(zL1 S (zF7 q q') D k).2.2=0)→(zL1 S (zF7 q q') D m).2.2≠0→e= .returned (zE6 (zL1 S (zF7 q q') D m).2.2)∧∃L',Disks3 w0.heap.size b w' L' (fun i=>if i<m+1 then (zL1 S (zF7 q q') D i).1 else D i)∧Steps (TF tb L lb sb) w w' (DF L')
 low:Below w0.heap.size w0 w'
theorem deed_ok {q q' :Quilt}(h:zB2 q=0)(h' :zB2 q' =0):∀x∈zF7 q q',x.ok:=by
 obtain ⟨r1,f1,_⟩:=zG5 h
 obtain ⟨r2,f2,_⟩:=zG5 h'
 exact fun x hx=>vE2 (xL5 r1 r2 f1 f2 x hx)
end Go.Proofs.YtggpodlecljcbabGreatDoor
