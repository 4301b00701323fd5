/- The walks of the console's four functions that are done to a quilt. Printed by wip/mk_con.py. -/
import Derived.Deep.RegionWith
import Derived.Test.YtggpodlecljcbabGreatDoorKC4
namespace Go.Proofs.YtggpodlecljcbabGreatDoor
set_option linter.unusedSimpArgs false
set_option linter.unusedVariables false
set_option maxRecDepth 100000
set_option maxHeartbeats 64000000
open Lib (hid)
open Go.RowKit Go.Sort
structure WordsAt (w:World) (ab:Nat) (l:List ByteArray):Prop where
 box:∃wb wo wc,w.heap[ab]?=some (.cells #[.slice (some ⟨wb,wo,none⟩) l.length wc] 56 (0,0))∧Texts w (.slice (some ⟨wb,wo,none⟩) l.length wc) l
theorem WordsAt.below {w w' :World}{ab:Nat}{l:List ByteArray}(h:WordsAt w ab l)(hb:Below w.heap.size w w'):WordsAt w' ab l:=by
 obtain ⟨wb,wo,wc,h1,h2⟩:=h.box
 exact ⟨wb,wo,wc,by rw [hb.block _ (Array.getElem?_eq_some_iff.1 h1).1];exact h1,h2.below hb⟩
theorem say_fn1 (B:Nat)(qv:Value)(q:Quilt)(a0 x:ByteArray)(ab:Nat)(w:World)(hB:B≤w.heap.size)(hq:zT6 B w qv q)(hg:Good q)(hab:WordsAt w ab [a0,x])(hx:x.size≤maxLen):
 Calls Tryz.prog 79 #[qv, .pointer (some ⟨ab,0,none⟩)] w (yE6 B (zF5 q x) w):=by
 obtain ⟨v,rfl,hf,hfr⟩:=hq
 obtain ⟨vo,vc,rfl,hvc,hvc'⟩:=hf.parts
 obtain ⟨W2,hW2⟩:∃W2,W2=(w.alloc (.cells #[.slice vo q.files.length vc, .int .i64 q.turn] 32)).alloc (.cells #[.slice none 0 0, .int .i64 0] 32):=⟨_,rfl⟩
 have HW2:=hid hW2
 have hb2:Below w.heap.size w W2:=by rw [hW2];exact two (zA0 _ _) (zA0 _ _)
 have hbx:W2.heap[w.heap.size+1]?=some (.cells #[.slice none 0 0, .int .i64 0] 32 (0,0)):=by rw [hW2];show ((w.heap.push _).push _)[w.heap.size+1]?=_;simp [Array.getElem?_push,Array.getElem_push]
 have hqx:W2.heap[w.heap.size]?=some (.cells #[.slice vo q.files.length vc, .int .i64 q.turn] 32 (0,0)):=by rw [hW2];show ((w.heap.push _).push _)[w.heap.size]?=_;simp [Array.getElem?_push,Array.getElem_push]
 have hz:W2.heap.size=w.heap.size+2:=by rw [hW2];simp
 have HBX:=hid hbx
 have HZ:=hid hz
 obtain ⟨wb,wo,wc,hab0,htx0⟩:=hab.box
 have hal:ab<w.heap.size:=(Array.getElem?_eq_some_iff.1 hab0).1
 have hab1:=(hb2.block _ hal).trans hab0
 obtain ⟨wb1,wo1,e1,hwl,x1⟩:=Texts.cell htx0 1 (by simp)
 cases e1
 replace x1:=zA1 hb2 x1
 have HK1:Hid (∀W,Below (w.heap.size+1) W2 W→(W.cell? ⟨w.heap.size,0,none⟩=some (.slice vo q.files.length vc)∧W.cell? ⟨w.heap.size,1,none⟩=some (.int .i64 q.turn))∧W.cell? ⟨ab,0,none⟩=some (.slice (some ⟨wb,wo,none⟩) 2 wc)∧W.cell? ⟨wb,wo+1,none⟩=some (.string x)):=hid (fun W hW=>by
  have kc:∀b o,b<w.heap.size+1→W.cell? ⟨b,o,none⟩=W2.cell? ⟨b,o,none⟩:=fun b o h=>hW.cell (p:=⟨b,o,none⟩) h
  exact ⟨⟨(kc _ _ (Nat.lt_succ_self _)).trans (by simp [World.cell?,hqx]),(kc _ _ (Nat.lt_succ_self _)).trans (by simp [World.cell?,hqx])⟩,(kc _ _ (by omega)).trans (by simp [World.cell?,hab1]),(kc _ _ (by omega)).trans x1⟩)
 have HK:Hid (∀W,Below W2.heap.size W2 W→(W.cell? ⟨w.heap.size,0,none⟩=some (.slice vo q.files.length vc)∧W.cell? ⟨w.heap.size,1,none⟩=some (.int .i64 q.turn))∧W.cell? ⟨ab,0,none⟩=some (.slice (some ⟨wb,wo,none⟩) 2 wc)∧W.cell? ⟨wb,wo+1,none⟩=some (.string x)):=hid (fun W hW=>HK1.out W (hW.mono (show w.heap.size+1≤W2.heap.size by omega)))
 have HKS:Hid (∀W u1 u2,Below W2.heap.size W2 W→(fun W:World=>(W.cell? ⟨w.heap.size,0,none⟩=some (.slice vo q.files.length vc)∧W.cell? ⟨w.heap.size,1,none⟩=some (.int .i64 q.turn))∧W.cell? ⟨ab,0,none⟩=some (.slice (some ⟨wb,wo,none⟩) 2 wc)∧W.cell? ⟨wb,wo+1,none⟩=some (.string x)) ((W.setCell ⟨w.heap.size+1,0,none⟩ u1).setCell ⟨w.heap.size+1,1,none⟩ u2)):=hid (fun W u1 u2 hW=>HK1.out _ (((hW.mono (show w.heap.size+1≤W2.heap.size by omega)).setCell (p:=⟨w.heap.size+1,0,none⟩) (Nat.le_refl _) u1).setCell (p:=⟨w.heap.size+1,1,none⟩) (Nat.le_refl _) u2))
 have HC:Hid (∀W,Below W2.heap.size W2 W→Calls Tryz.prog 67 #[(.agg #[.slice vo q.files.length vc, .int .i64 q.turn]), .string x] W (yE6 B (zF5 q x) W)):=hid (fun W hb=>xU7 B (.agg #[.slice vo q.files.length vc, .int .i64 q.turn]) q x W ⟨_,rfl,(hf.below hb2).below hb⟩ hg (Nat.le_trans hB (Nat.le_trans hb2.size hb.size)))
 have HB2:=hid hb2
 obtain ⟨p,hp⟩:∃p,p=zF5 q x:=⟨_,rfl⟩
 rw [←hp] at HC ⊢
 clear hp hb2 hW2 hbx hqx hz hab hab0 hab1 htx0 hal hwl hg hf hfr hB
 obtain ⟨⟨k0,k1⟩,k2,k3⟩:=HK.out W2 (Below.refl _ _)
 go_enter Tryz.func79, Tryz.ntmps79
 go_wp2_with fail
 rw [←HW2.out]
 go_region_held3 (fun W=>(W.cell? ⟨w.heap.size,0,none⟩=some (.slice vo q.files.length vc)∧W.cell? ⟨w.heap.size,1,none⟩=some (.int .i64 q.turn))∧W.cell? ⟨ab,0,none⟩=some (.slice (some ⟨wb,wo,none⟩) 2 wc)∧W.cell? ⟨wb,wo+1,none⟩=some (.string x))
  (first
   | exact HK.out _ (Below.refl _ _).drew
   | exact HK.out _ (HBD:Hid _).out
   | exact HK.out _ (HB3:Hid _).out
   | exact HKS.out _ _ _ (HB3:Hid _).out)
  (first
   | (go_at_call 67;refine (HC.out _ (Below.refl _ _).drew).mono ?_;rintro e w3 ⟨qv',rfl,⟨v',rfl,hf',hfr'⟩,hb3⟩;obtain ⟨vo',vc',rfl,_,_⟩:=hf'.parts;have HB3:Hid (Below W2.heap.size W2 w3):=hid (two (Below.refl _ _).drew hb3);have hbx3:w3.heap[w.heap.size+1]?=some (.cells #[.slice none 0 0, .int .i64 0] 32 (0,0)):=((HB3:Hid _).out.block _ (by rw [HZ.out];omega)).trans HBX.out;have z2:w3.cell? ⟨w.heap.size+1,0,none⟩=some (.slice none 0 0):=(by simp [World.cell?,hbx3]);have z3:w3.cell? ⟨w.heap.size+1,1,none⟩=some (.int .i64 0):=(by simp [World.cell?,hbx3]);have z4:w3.frozen? ⟨w.heap.size+1,0,none⟩=false:=(by simp [World.frozen?,hbx3]);have z5:w3.frozen? ⟨w.heap.size+1,1,none⟩=false:=(by simp [World.frozen?,hbx3]);have HF' :=hid (And.intro hf' (And.intro hfr' (yG4 hbx3)));clear hf' hfr' hb3 hbx3))
 all_goals
  go_wp2_with fail
  have HBF:=((two HB2.out HB3.out).setCell (p:=⟨w.heap.size+1,0,none⟩) (Nat.le_succ _) (.slice vo' p.1.files.length vc')).setCell (p:=⟨w.heap.size+1,1,none⟩) (Nat.le_succ _) (.int .i64 p.1.turn)
  refine bodyPost_ret (v:= .tuple #[.agg #[.slice vo' p.1.files.length vc', .int .i64 p.1.turn],zE6 p.2]) (by simp [results, Tryz.results79,go_sem,z2,z3,z4,z5]) rfl ?_
  exact ⟨_,rfl,zI8 HF'.out.1 HF'.out.2.2 (zD9 HF'.out.1) HF'.out.2.1,HBF⟩
theorem say_fn2 (B:Nat)(qv:Value)(q:Quilt)(a0 x y:ByteArray)(ab:Nat)(w:World)(hB:B≤w.heap.size)(hq:zT6 B w qv q)(hg:Good q)(hab:WordsAt w ab [a0,x,y])(hx:x.size≤maxLen)(hy:y.size≤maxLen):
 Calls Tryz.prog 80 #[qv, .pointer (some ⟨ab,0,none⟩)] w (yE6 B (zE5 q x (zU8 y)) w):=by
 obtain ⟨v,rfl,hf,hfr⟩:=hq
 obtain ⟨vo,vc,rfl,hvc,hvc'⟩:=hf.parts
 obtain ⟨W2,hW2⟩:∃W2,W2=(w.alloc (.cells #[.slice vo q.files.length vc, .int .i64 q.turn] 32)).alloc (.cells #[.slice none 0 0, .int .i64 0] 32):=⟨_,rfl⟩
 have HW2:=hid hW2
 have hb2:Below w.heap.size w W2:=by rw [hW2];exact two (zA0 _ _) (zA0 _ _)
 have hbx:W2.heap[w.heap.size+1]?=some (.cells #[.slice none 0 0, .int .i64 0] 32 (0,0)):=by rw [hW2];show ((w.heap.push _).push _)[w.heap.size+1]?=_;simp [Array.getElem?_push,Array.getElem_push]
 have hqx:W2.heap[w.heap.size]?=some (.cells #[.slice vo q.files.length vc, .int .i64 q.turn] 32 (0,0)):=by rw [hW2];show ((w.heap.push _).push _)[w.heap.size]?=_;simp [Array.getElem?_push,Array.getElem_push]
 have hz:W2.heap.size=w.heap.size+2:=by rw [hW2];simp
 have HBX:=hid hbx
 have HZ:=hid hz
 obtain ⟨wb,wo,wc,hab0,htx0⟩:=hab.box
 have hal:ab<w.heap.size:=(Array.getElem?_eq_some_iff.1 hab0).1
 have hab1:=(hb2.block _ hal).trans hab0
 obtain ⟨wb1,wo1,e1,hwl,x1⟩:=Texts.cell htx0 1 (by simp)
 cases e1
 replace x1:=zA1 hb2 x1
 obtain ⟨wb2,wo2,e2,_,x2⟩:=Texts.cell htx0 2 (by simp)
 cases e2
 replace x2:=zA1 hb2 x2
 have HK1:Hid (∀W,Below (w.heap.size+1) W2 W→(W.cell? ⟨w.heap.size,0,none⟩=some (.slice vo q.files.length vc)∧W.cell? ⟨w.heap.size,1,none⟩=some (.int .i64 q.turn))∧W.cell? ⟨ab,0,none⟩=some (.slice (some ⟨wb,wo,none⟩) 3 wc)∧W.cell? ⟨wb,wo+1,none⟩=some (.string x)∧W.cell? ⟨wb,wo+2,none⟩=some (.string y)):=hid (fun W hW=>by
  have kc:∀b o,b<w.heap.size+1→W.cell? ⟨b,o,none⟩=W2.cell? ⟨b,o,none⟩:=fun b o h=>hW.cell (p:=⟨b,o,none⟩) h
  exact ⟨⟨(kc _ _ (Nat.lt_succ_self _)).trans (by simp [World.cell?,hqx]),(kc _ _ (Nat.lt_succ_self _)).trans (by simp [World.cell?,hqx])⟩,(kc _ _ (by omega)).trans (by simp [World.cell?,hab1]),(kc _ _ (by omega)).trans x1,(kc _ _ (by omega)).trans x2⟩)
 have HK:Hid (∀W,Below W2.heap.size W2 W→(W.cell? ⟨w.heap.size,0,none⟩=some (.slice vo q.files.length vc)∧W.cell? ⟨w.heap.size,1,none⟩=some (.int .i64 q.turn))∧W.cell? ⟨ab,0,none⟩=some (.slice (some ⟨wb,wo,none⟩) 3 wc)∧W.cell? ⟨wb,wo+1,none⟩=some (.string x)∧W.cell? ⟨wb,wo+2,none⟩=some (.string y)):=hid (fun W hW=>HK1.out W (hW.mono (show w.heap.size+1≤W2.heap.size by omega)))
 have HKS:Hid (∀W u1 u2,Below W2.heap.size W2 W→(fun W:World=>(W.cell? ⟨w.heap.size,0,none⟩=some (.slice vo q.files.length vc)∧W.cell? ⟨w.heap.size,1,none⟩=some (.int .i64 q.turn))∧W.cell? ⟨ab,0,none⟩=some (.slice (some ⟨wb,wo,none⟩) 3 wc)∧W.cell? ⟨wb,wo+1,none⟩=some (.string x)∧W.cell? ⟨wb,wo+2,none⟩=some (.string y)) ((W.setCell ⟨w.heap.size+1,0,none⟩ u1).setCell ⟨w.heap.size+1,1,none⟩ u2)):=hid (fun W u1 u2 hW=>HK1.out _ (((hW.mono (show w.heap.size+1≤W2.heap.size by omega)).setCell (p:=⟨w.heap.size+1,0,none⟩) (Nat.le_refl _) u1).setCell (p:=⟨w.heap.size+1,1,none⟩) (Nat.le_refl _) u2))
 have hd:(zU8 y).size≤maxLen:=by unfold zU8;split;exact (by decide:(0:Nat)≤maxLen);exact hy
 have HCD:Hid (∀W,Below W2.heap.size W2 W→Calls Tryz.prog 81 #[.string y] W fun e w' =>e= .returned (.string (zU8 y))∧Below W.heap.size W w'):=hid (fun W _=>(uQ8 y W).mono (by rintro e w' ⟨rfl,rfl⟩;exact ⟨rfl,Below.refl _ _⟩))
 have HC:Hid (∀W,Below W2.heap.size W2 W→Calls Tryz.prog 66 #[(.agg #[.slice vo q.files.length vc, .int .i64 q.turn]), .string x, .string (zU8 y)] W (yE6 B (zE5 q x (zU8 y)) W)):=hid (fun W hb=>xO7 B (.agg #[.slice vo q.files.length vc, .int .i64 q.turn]) q x (zU8 y) W ⟨_,rfl,(hf.below hb2).below hb⟩ hg hx hd (Nat.le_trans hB (Nat.le_trans hb2.size hb.size)))
 have HB2:=hid hb2
 obtain ⟨p,hp⟩:∃p,p=zE5 q x (zU8 y):=⟨_,rfl⟩
 rw [←hp] at HC ⊢
 clear hp hb2 hW2 hbx hqx hz hab hab0 hab1 htx0 hal hwl hg hf hfr hB
 obtain ⟨⟨k0,k1⟩,k2,k3,k4⟩:=HK.out W2 (Below.refl _ _)
 go_enter Tryz.func80, Tryz.ntmps80
 go_wp2_with fail
 rw [←HW2.out]
 go_region_held3 (fun W=>(W.cell? ⟨w.heap.size,0,none⟩=some (.slice vo q.files.length vc)∧W.cell? ⟨w.heap.size,1,none⟩=some (.int .i64 q.turn))∧W.cell? ⟨ab,0,none⟩=some (.slice (some ⟨wb,wo,none⟩) 3 wc)∧W.cell? ⟨wb,wo+1,none⟩=some (.string x)∧W.cell? ⟨wb,wo+2,none⟩=some (.string y))
  (first
   | exact HK.out _ (Below.refl _ _).drew
   | exact HK.out _ (HBD:Hid _).out
   | exact HK.out _ (HB3:Hid _).out
   | exact HKS.out _ _ _ (HB3:Hid _).out)
  (first
   | (go_at_call 81;refine (HCD.out _ (Below.refl _ _).drew).mono ?_;rintro e wd ⟨rfl,hbd⟩;have HBD:Hid (Below W2.heap.size W2 wd):=hid (two (Below.refl _ _).drew hbd);clear hbd)
   | (go_at_call 66;refine (HC.out _ (HBD:Hid _).out).mono ?_;rintro e w3 ⟨qv',rfl,⟨v',rfl,hf',hfr'⟩,hb3⟩;obtain ⟨vo',vc',rfl,_,_⟩:=hf'.parts;have HB3:Hid (Below W2.heap.size W2 w3):=hid (two (HBD:Hid _).out hb3);have hbx3:w3.heap[w.heap.size+1]?=some (.cells #[.slice none 0 0, .int .i64 0] 32 (0,0)):=((HB3:Hid _).out.block _ (by rw [HZ.out];omega)).trans HBX.out;have z2:w3.cell? ⟨w.heap.size+1,0,none⟩=some (.slice none 0 0):=(by simp [World.cell?,hbx3]);have z3:w3.cell? ⟨w.heap.size+1,1,none⟩=some (.int .i64 0):=(by simp [World.cell?,hbx3]);have z4:w3.frozen? ⟨w.heap.size+1,0,none⟩=false:=(by simp [World.frozen?,hbx3]);have z5:w3.frozen? ⟨w.heap.size+1,1,none⟩=false:=(by simp [World.frozen?,hbx3]);have HF' :=hid (And.intro hf' (And.intro hfr' (yG4 hbx3)));clear hf' hfr' hb3 hbx3))
 all_goals
  go_wp2_with fail
  have HBF:=((two HB2.out HB3.out).setCell (p:=⟨w.heap.size+1,0,none⟩) (Nat.le_succ _) (.slice vo' p.1.files.length vc')).setCell (p:=⟨w.heap.size+1,1,none⟩) (Nat.le_succ _) (.int .i64 p.1.turn)
  refine bodyPost_ret (v:= .tuple #[.agg #[.slice vo' p.1.files.length vc', .int .i64 p.1.turn],zE6 p.2]) (by simp [results, Tryz.results80,go_sem,z2,z3,z4,z5]) rfl ?_
  exact ⟨_,rfl,zI8 HF'.out.1 HF'.out.2.2 (zD9 HF'.out.1) HF'.out.2.1,HBF⟩
theorem say_fn3 (B:Nat)(qv:Value)(q:Quilt)(a0 x y:ByteArray)(ab:Nat)(w:World)(hB:B≤w.heap.size)(hq:zT6 B w qv q)(hg:Good q)(hab:WordsAt w ab [a0,x,y])(hx:x.size≤maxLen)(hy:y.size≤maxLen):
 Calls Tryz.prog 82 #[qv, .pointer (some ⟨ab,0,none⟩)] w (yE6 B (zC3 q x y) w):=by
 obtain ⟨v,rfl,hf,hfr⟩:=hq
 obtain ⟨vo,vc,rfl,hvc,hvc'⟩:=hf.parts
 obtain ⟨W2,hW2⟩:∃W2,W2=(w.alloc (.cells #[.slice vo q.files.length vc, .int .i64 q.turn] 32)).alloc (.cells #[.slice none 0 0, .int .i64 0] 32):=⟨_,rfl⟩
 have HW2:=hid hW2
 have hb2:Below w.heap.size w W2:=by rw [hW2];exact two (zA0 _ _) (zA0 _ _)
 have hbx:W2.heap[w.heap.size+1]?=some (.cells #[.slice none 0 0, .int .i64 0] 32 (0,0)):=by rw [hW2];show ((w.heap.push _).push _)[w.heap.size+1]?=_;simp [Array.getElem?_push,Array.getElem_push]
 have hqx:W2.heap[w.heap.size]?=some (.cells #[.slice vo q.files.length vc, .int .i64 q.turn] 32 (0,0)):=by rw [hW2];show ((w.heap.push _).push _)[w.heap.size]?=_;simp [Array.getElem?_push,Array.getElem_push]
 have hz:W2.heap.size=w.heap.size+2:=by rw [hW2];simp
 have HBX:=hid hbx
 have HZ:=hid hz
 obtain ⟨wb,wo,wc,hab0,htx0⟩:=hab.box
 have hal:ab<w.heap.size:=(Array.getElem?_eq_some_iff.1 hab0).1
 have hab1:=(hb2.block _ hal).trans hab0
 obtain ⟨wb1,wo1,e1,hwl,x1⟩:=Texts.cell htx0 1 (by simp)
 cases e1
 replace x1:=zA1 hb2 x1
 obtain ⟨wb2,wo2,e2,_,x2⟩:=Texts.cell htx0 2 (by simp)
 cases e2
 replace x2:=zA1 hb2 x2
 have HK1:Hid (∀W,Below (w.heap.size+1) W2 W→(W.cell? ⟨w.heap.size,0,none⟩=some (.slice vo q.files.length vc)∧W.cell? ⟨w.heap.size,1,none⟩=some (.int .i64 q.turn))∧W.cell? ⟨ab,0,none⟩=some (.slice (some ⟨wb,wo,none⟩) 3 wc)∧W.cell? ⟨wb,wo+1,none⟩=some (.string x)∧W.cell? ⟨wb,wo+2,none⟩=some (.string y)):=hid (fun W hW=>by
  have kc:∀b o,b<w.heap.size+1→W.cell? ⟨b,o,none⟩=W2.cell? ⟨b,o,none⟩:=fun b o h=>hW.cell (p:=⟨b,o,none⟩) h
  exact ⟨⟨(kc _ _ (Nat.lt_succ_self _)).trans (by simp [World.cell?,hqx]),(kc _ _ (Nat.lt_succ_self _)).trans (by simp [World.cell?,hqx])⟩,(kc _ _ (by omega)).trans (by simp [World.cell?,hab1]),(kc _ _ (by omega)).trans x1,(kc _ _ (by omega)).trans x2⟩)
 have HK:Hid (∀W,Below W2.heap.size W2 W→(W.cell? ⟨w.heap.size,0,none⟩=some (.slice vo q.files.length vc)∧W.cell? ⟨w.heap.size,1,none⟩=some (.int .i64 q.turn))∧W.cell? ⟨ab,0,none⟩=some (.slice (some ⟨wb,wo,none⟩) 3 wc)∧W.cell? ⟨wb,wo+1,none⟩=some (.string x)∧W.cell? ⟨wb,wo+2,none⟩=some (.string y)):=hid (fun W hW=>HK1.out W (hW.mono (show w.heap.size+1≤W2.heap.size by omega)))
 have HKS:Hid (∀W u1 u2,Below W2.heap.size W2 W→(fun W:World=>(W.cell? ⟨w.heap.size,0,none⟩=some (.slice vo q.files.length vc)∧W.cell? ⟨w.heap.size,1,none⟩=some (.int .i64 q.turn))∧W.cell? ⟨ab,0,none⟩=some (.slice (some ⟨wb,wo,none⟩) 3 wc)∧W.cell? ⟨wb,wo+1,none⟩=some (.string x)∧W.cell? ⟨wb,wo+2,none⟩=some (.string y)) ((W.setCell ⟨w.heap.size+1,0,none⟩ u1).setCell ⟨w.heap.size+1,1,none⟩ u2)):=hid (fun W u1 u2 hW=>HK1.out _ (((hW.mono (show w.heap.size+1≤W2.heap.size by omega)).setCell (p:=⟨w.heap.size+1,0,none⟩) (Nat.le_refl _) u1).setCell (p:=⟨w.heap.size+1,1,none⟩) (Nat.le_refl _) u2))
 have HC:Hid (∀W,Below W2.heap.size W2 W→Calls Tryz.prog 68 #[(.agg #[.slice vo q.files.length vc, .int .i64 q.turn]), .string x, .string y] W (yE6 B (zC3 q x y) W)):=hid (fun W hb=>xI4 B (.agg #[.slice vo q.files.length vc, .int .i64 q.turn]) q x y W ⟨_,rfl,(hf.below hb2).below hb⟩ hg hy (Nat.le_trans hB (Nat.le_trans hb2.size hb.size)))
 have HB2:=hid hb2
 obtain ⟨p,hp⟩:∃p,p=zC3 q x y:=⟨_,rfl⟩
 rw [←hp] at HC ⊢
 clear hp hb2 hW2 hbx hqx hz hab hab0 hab1 htx0 hal hwl hg hf hfr hB
 obtain ⟨⟨k0,k1⟩,k2,k3,k4⟩:=HK.out W2 (Below.refl _ _)
 go_enter Tryz.func82, Tryz.ntmps82
 go_wp2_with fail
 rw [←HW2.out]
 go_region_held3 (fun W=>(W.cell? ⟨w.heap.size,0,none⟩=some (.slice vo q.files.length vc)∧W.cell? ⟨w.heap.size,1,none⟩=some (.int .i64 q.turn))∧W.cell? ⟨ab,0,none⟩=some (.slice (some ⟨wb,wo,none⟩) 3 wc)∧W.cell? ⟨wb,wo+1,none⟩=some (.string x)∧W.cell? ⟨wb,wo+2,none⟩=some (.string y))
  (first
   | exact HK.out _ (Below.refl _ _).drew
   | exact HK.out _ (HBD:Hid _).out
   | exact HK.out _ (HB3:Hid _).out
   | exact HKS.out _ _ _ (HB3:Hid _).out)
  (first
   | (go_at_call 68;refine (HC.out _ (Below.refl _ _).drew).mono ?_;rintro e w3 ⟨qv',rfl,⟨v',rfl,hf',hfr'⟩,hb3⟩;obtain ⟨vo',vc',rfl,_,_⟩:=hf'.parts;have HB3:Hid (Below W2.heap.size W2 w3):=hid (two (Below.refl _ _).drew hb3);have hbx3:w3.heap[w.heap.size+1]?=some (.cells #[.slice none 0 0, .int .i64 0] 32 (0,0)):=((HB3:Hid _).out.block _ (by rw [HZ.out];omega)).trans HBX.out;have z2:w3.cell? ⟨w.heap.size+1,0,none⟩=some (.slice none 0 0):=(by simp [World.cell?,hbx3]);have z3:w3.cell? ⟨w.heap.size+1,1,none⟩=some (.int .i64 0):=(by simp [World.cell?,hbx3]);have z4:w3.frozen? ⟨w.heap.size+1,0,none⟩=false:=(by simp [World.frozen?,hbx3]);have z5:w3.frozen? ⟨w.heap.size+1,1,none⟩=false:=(by simp [World.frozen?,hbx3]);have HF' :=hid (And.intro hf' (And.intro hfr' (yG4 hbx3)));clear hf' hfr' hb3 hbx3))
 all_goals
  go_wp2_with fail
  have HBF:=((two HB2.out HB3.out).setCell (p:=⟨w.heap.size+1,0,none⟩) (Nat.le_succ _) (.slice vo' p.1.files.length vc')).setCell (p:=⟨w.heap.size+1,1,none⟩) (Nat.le_succ _) (.int .i64 p.1.turn)
  refine bodyPost_ret (v:= .tuple #[.agg #[.slice vo' p.1.files.length vc', .int .i64 p.1.turn],zE6 p.2]) (by simp [results, Tryz.results82,go_sem,z2,z3,z4,z5]) rfl ?_
  exact ⟨_,rfl,zI8 HF'.out.1 HF'.out.2.2 (zD9 HF'.out.1) HF'.out.2.1,HBF⟩
theorem say_fn4 (B:Nat)(qv:Value)(q:Quilt)(a0 x y:ByteArray)(ab:Nat)(w:World)(hB:B≤w.heap.size)(hq:zT6 B w qv q)(hg:Good q)(hab:WordsAt w ab [a0,x,y])(hx:x.size≤maxLen)(hy:y.size≤maxLen):
 Calls Tryz.prog 83 #[qv, .pointer (some ⟨ab,0,none⟩)] w (yE6 B (zC0 q x y) w):=by
 obtain ⟨v,rfl,hf,hfr⟩:=hq
 obtain ⟨vo,vc,rfl,hvc,hvc'⟩:=hf.parts
 obtain ⟨W2,hW2⟩:∃W2,W2=(w.alloc (.cells #[.slice vo q.files.length vc, .int .i64 q.turn] 32)).alloc (.cells #[.slice none 0 0, .int .i64 0] 32):=⟨_,rfl⟩
 have HW2:=hid hW2
 have hb2:Below w.heap.size w W2:=by rw [hW2];exact two (zA0 _ _) (zA0 _ _)
 have hbx:W2.heap[w.heap.size+1]?=some (.cells #[.slice none 0 0, .int .i64 0] 32 (0,0)):=by rw [hW2];show ((w.heap.push _).push _)[w.heap.size+1]?=_;simp [Array.getElem?_push,Array.getElem_push]
 have hqx:W2.heap[w.heap.size]?=some (.cells #[.slice vo q.files.length vc, .int .i64 q.turn] 32 (0,0)):=by rw [hW2];show ((w.heap.push _).push _)[w.heap.size]?=_;simp [Array.getElem?_push,Array.getElem_push]
 have hz:W2.heap.size=w.heap.size+2:=by rw [hW2];simp
 have HBX:=hid hbx
 have HZ:=hid hz
 obtain ⟨wb,wo,wc,hab0,htx0⟩:=hab.box
 have hal:ab<w.heap.size:=(Array.getElem?_eq_some_iff.1 hab0).1
 have hab1:=(hb2.block _ hal).trans hab0
 obtain ⟨wb1,wo1,e1,hwl,x1⟩:=Texts.cell htx0 1 (by simp)
 cases e1
 replace x1:=zA1 hb2 x1
 obtain ⟨wb2,wo2,e2,_,x2⟩:=Texts.cell htx0 2 (by simp)
 cases e2
 replace x2:=zA1 hb2 x2
 have HK1:Hid (∀W,Below (w.heap.size+1) W2 W→(W.cell? ⟨w.heap.size,0,none⟩=some (.slice vo q.files.length vc)∧W.cell? ⟨w.heap.size,1,none⟩=some (.int .i64 q.turn))∧W.cell? ⟨ab,0,none⟩=some (.slice (some ⟨wb,wo,none⟩) 3 wc)∧W.cell? ⟨wb,wo+1,none⟩=some (.string x)∧W.cell? ⟨wb,wo+2,none⟩=some (.string y)):=hid (fun W hW=>by
  have kc:∀b o,b<w.heap.size+1→W.cell? ⟨b,o,none⟩=W2.cell? ⟨b,o,none⟩:=fun b o h=>hW.cell (p:=⟨b,o,none⟩) h
  exact ⟨⟨(kc _ _ (Nat.lt_succ_self _)).trans (by simp [World.cell?,hqx]),(kc _ _ (Nat.lt_succ_self _)).trans (by simp [World.cell?,hqx])⟩,(kc _ _ (by omega)).trans (by simp [World.cell?,hab1]),(kc _ _ (by omega)).trans x1,(kc _ _ (by omega)).trans x2⟩)
 have HK:Hid (∀W,Below W2.heap.size W2 W→(W.cell? ⟨w.heap.size,0,none⟩=some (.slice vo q.files.length vc)∧W.cell? ⟨w.heap.size,1,none⟩=some (.int .i64 q.turn))∧W.cell? ⟨ab,0,none⟩=some (.slice (some ⟨wb,wo,none⟩) 3 wc)∧W.cell? ⟨wb,wo+1,none⟩=some (.string x)∧W.cell? ⟨wb,wo+2,none⟩=some (.string y)):=hid (fun W hW=>HK1.out W (hW.mono (show w.heap.size+1≤W2.heap.size by omega)))
 have HKS:Hid (∀W u1 u2,Below W2.heap.size W2 W→(fun W:World=>(W.cell? ⟨w.heap.size,0,none⟩=some (.slice vo q.files.length vc)∧W.cell? ⟨w.heap.size,1,none⟩=some (.int .i64 q.turn))∧W.cell? ⟨ab,0,none⟩=some (.slice (some ⟨wb,wo,none⟩) 3 wc)∧W.cell? ⟨wb,wo+1,none⟩=some (.string x)∧W.cell? ⟨wb,wo+2,none⟩=some (.string y)) ((W.setCell ⟨w.heap.size+1,0,none⟩ u1).setCell ⟨w.heap.size+1,1,none⟩ u2)):=hid (fun W u1 u2 hW=>HK1.out _ (((hW.mono (show w.heap.size+1≤W2.heap.size by omega)).setCell (p:=⟨w.heap.size+1,0,none⟩) (Nat.le_refl _) u1).setCell (p:=⟨w.heap.size+1,1,none⟩) (Nat.le_refl _) u2))
 have HC:Hid (∀W,Below W2.heap.size W2 W→Calls Tryz.prog 69 #[(.agg #[.slice vo q.files.length vc, .int .i64 q.turn]), .string x, .string y] W (yE6 B (zC0 q x y) W)):=hid (fun W hb=>xU6 B (.agg #[.slice vo q.files.length vc, .int .i64 q.turn]) q x y W ⟨_,rfl,(hf.below hb2).below hb⟩ hg (Nat.le_trans hB (Nat.le_trans hb2.size hb.size)))
 have HB2:=hid hb2
 obtain ⟨p,hp⟩:∃p,p=zC0 q x y:=⟨_,rfl⟩
 rw [←hp] at HC ⊢
 clear hp hb2 hW2 hbx hqx hz hab hab0 hab1 htx0 hal hwl hg hf hfr hB
 obtain ⟨⟨k0,k1⟩,k2,k3,k4⟩:=HK.out W2 (Below.refl _ _)
 go_enter Tryz.func83, Tryz.ntmps83
 go_wp2_with fail
 rw [←HW2.out]
 go_region_held3 (fun W=>(W.cell? ⟨w.heap.size,0,none⟩=some (.slice vo q.files.length vc)∧W.cell? ⟨w.heap.size,1,none⟩=some (.int .i64 q.turn))∧W.cell? ⟨ab,0,none⟩=some (.slice (some ⟨wb,wo,none⟩) 3 wc)∧W.cell? ⟨wb,wo+1,none⟩=some (.string x)∧W.cell? ⟨wb,wo+2,none⟩=some (.string y))
  (first
   | exact HK.out _ (Below.refl _ _).drew
   | exact HK.out _ (HBD:Hid _).out
   | exact HK.out _ (HB3:Hid _).out
   | exact HKS.out _ _ _ (HB3:Hid _).out)
  (first
   | (go_at_call 69;refine (HC.out _ (Below.refl _ _).drew).mono ?_;rintro e w3 ⟨qv',rfl,⟨v',rfl,hf',hfr'⟩,hb3⟩;obtain ⟨vo',vc',rfl,_,_⟩:=hf'.parts;have HB3:Hid (Below W2.heap.size W2 w3):=hid (two (Below.refl _ _).drew hb3);have hbx3:w3.heap[w.heap.size+1]?=some (.cells #[.slice none 0 0, .int .i64 0] 32 (0,0)):=((HB3:Hid _).out.block _ (by rw [HZ.out];omega)).trans HBX.out;have z2:w3.cell? ⟨w.heap.size+1,0,none⟩=some (.slice none 0 0):=(by simp [World.cell?,hbx3]);have z3:w3.cell? ⟨w.heap.size+1,1,none⟩=some (.int .i64 0):=(by simp [World.cell?,hbx3]);have z4:w3.frozen? ⟨w.heap.size+1,0,none⟩=false:=(by simp [World.frozen?,hbx3]);have z5:w3.frozen? ⟨w.heap.size+1,1,none⟩=false:=(by simp [World.frozen?,hbx3]);have HF' :=hid (And.intro hf' (And.intro hfr' (yG4 hbx3)));clear hf' hfr' hb3 hbx3))
 all_goals
  go_wp2_with fail
  have HBF:=((two HB2.out HB3.out).setCell (p:=⟨w.heap.size+1,0,none⟩) (Nat.le_succ _) (.slice vo' p.1.files.length vc')).setCell (p:=⟨w.heap.size+1,1,none⟩) (Nat.le_succ _) (.int .i64 p.1.turn)
  refine bodyPost_ret (v:= .tuple #[.agg #[.slice vo' p.1.files.length vc', .int .i64 p.1.turn],zE6 p.2]) (by simp [results, Tryz.results83,go_sem,z2,z3,z4,z5]) rfl ?_
  exact ⟨_,rfl,zI8 HF'.out.1 HF'.out.2.2 (zD9 HF'.out.1) HF'.out.2.1,HBF⟩
open Go.RowKit Go.Sort
theorem yY6 {sx tb tb' :Nat}{L L' :Nat→Dk}{lb sb lb' sb' :Nat→Nat}{w w' :World}(h:Steps (TF tb L lb sb) w w' (TF tb' L' lb' sb')):Steps (SF sx tb L lb sb) w w' (SF sx tb' L' lb' sb'):=
 ⟨h.off.mono (fun x hx=>Or.inr hx),fun x hx=>by
  rcases hx with hx | hx
  · exact Or.inl (Or.inl hx)
  · exact (h.grow x hx).imp Or.inr id⟩
def uI7 (m B:Nat)(W0:World)(b:Nat→Nat)(sx:Nat)(q:Quilt)(F:Nat→Prop)(p:Quilt × Nat)(w:World)(e:Ending)(w' :World):Prop:=e= .returned (zE6 p.2)∧∃F',Sess m B W0 b sx (yK3 q p).1 F' w' ∧Steps F w w' F'
section
variable {m B:Nat} {W0 X:World} {b:Nat→Nat} {w w' :World} {sx tb:Nat} {q:Quilt} {L:Nat→Dk} {D:Nat→DiskS} {S:Nat→StS} {lb sb:Nat→Nat} {rv:Nat→Value} {v:Value}
theorem yI5 (h:SessT m B W0 b w sx tb q L D S lb sb rv v)(hm:m≤20000)(hXs:X.heap.size=B)(hX0:Below W0.heap.size W0 X){p:Quilt × Nat}(hp:p.2=0→Good p.1∧(zF7 q p.1).length≤14){e:Ending}
 (hr:(p.2≠0∧e= .returned (zE6 p.2)∧Below w.heap.size w w')∨(p.2=0∧DoR X w b tb L lb D S sb q p.1 e w')):uI7 (m+1) B W0 b sx q (SF sx tb L lb sb) p w e w' :=by
 rcases hr with ⟨h0,rfl,hb⟩ | ⟨h0,hd⟩
 · have e1:(yK3 q p).1=q:=by unfold yK3;rw [if_neg h0]
   refine ⟨rfl,SF sx tb L lb sb,?_,(Steps.refl _ _).below hb⟩
   rw [e1]
   exact ((h.below hb).up (Nat.le_succ m)).sess
 · have e1:(yK3 q p).1=p.1:=by unfold yK3;rw [if_pos h0]
   obtain ⟨hg,hl⟩:=hp h0
   have hk:∀k,k<3→∃S',(zL1 S (zF7 q p.1) D k).2.2=0∧HasQ (zL1 S (zF7 q p.1) D k).1 S' p.1∧S'.h.epoch≤m+1:=fun k hk=>by
    obtain ⟨E,S',c1,c2,c3⟩:=uQ1 (h.t.has k hk) (zJ0 hg) hl (by have:=h.t.ep k hk;omega)
    have c4:zL1 S (zF7 q p.1) D k=(E,S',0):=c1
    rw [c4]
    exact ⟨S',rfl,c2,by have:=h.t.ep k hk;omega⟩
   obtain ⟨S',hS'⟩:=pick3 hk
   obtain ⟨rfl,L',lb',rv',v',hpre,hst⟩:=hd.all (fun k hk=>(hS' k hk).1)
   have hkp:=hst.keep h.lt h.nt
   have hlow:=hd.low
   rw [hXs] at hpre
   refine ⟨by rw [h0,zD2],SF sx tb L' lb' sb,?_,yY6 hst⟩
   rw [e1]
   exact ⟨tb,L',_,S',lb',sb,rv',v',⟨⟨hpre,fun k hk=>(hS' k hk).2.1,fun k hk=>(hS' k hk).2.2,hg⟩,hkp.1.trans h.box,h.lo,h.hi,two hX0 hlow⟩,rfl⟩
end
theorem xA0 {q:Quilt}(h:Good q){p:Quilt × Nat}(a:Act)(e:yN0 q a=p)(h0:p.2=0):Good p.1∧(zF7 q p.1).length≤14:=by
 rw [←e] at h0 ⊢
 exact ⟨uG8 h a h0,uI5 h a h0⟩
theorem xG4 {q:Quilt}(h:Good q)(x:ByteArray)(h0:(zF5 q x).2=0):Good (zF5 q x).1∧(zF7 q (zF5 q x).1).length≤14:=
 xA0 h ⟨vC8,x,⟨#[]⟩,0,0, []⟩ (by unfold yN0;dsimp only;rw [if_neg (show ¬(vC8.toList== [119,114,105,116,101])=true by decide +kernel),if_pos (show (vC8.toList== [100,114,111,112])=true by decide +kernel)]) h0
theorem yU3 {q:Quilt}(h:Good q)(x y:ByteArray)(h0:(zE5 q x y).2=0):Good (zE5 q x y).1∧(zF7 q (zE5 q x y).1).length≤14:=
 xA0 h ⟨xK2,x,y,0,0, []⟩ (by unfold yN0;dsimp only;rw [if_pos (show (xK2.toList== [119,114,105,116,101])=true by decide +kernel)]) h0
theorem xG3 {q:Quilt}(h:Good q)(x y:ByteArray)(h0:(zC3 q x y).2=0):Good (zC3 q x y).1∧(zF7 q (zC3 q x y).1).length≤14:=
 xA0 h ⟨xT4,x,y,0,0, []⟩ (by unfold yN0;dsimp only;rw [if_neg (show ¬(xT4.toList== [119,114,105,116,101])=true by decide +kernel),if_neg (show ¬(xT4.toList== [100,114,111,112])=true by decide +kernel),if_pos (show (xT4.toList== [110,97,109,101])=true by decide +kernel)]) h0
theorem xG2 {q:Quilt}(h:Good q)(x y:ByteArray)(h0:(zC0 q x y).2=0):Good (zC0 q x y).1∧(zF7 q (zC0 q x y).1).length≤14:=
 xA0 h ⟨xO2,x,y,0,0, []⟩ (by unfold yN0;dsimp only;rw [if_neg (show ¬(xO2.toList== [119,114,105,116,101])=true by decide +kernel),if_neg (show ¬(xO2.toList== [100,114,111,112])=true by decide +kernel),if_neg (show ¬(xO2.toList== [110,97,109,101])=true by decide +kernel),if_pos (show (xO2.toList== [115,119,97,112])=true by decide +kernel)]) h0
theorem uK7 (m B:Nat)(W0:World)(b:Nat→Nat)(w:World)(sx tb:Nat)(q:Quilt)(L:Nat→Dk)(D:Nat→DiskS)(S:Nat→StS)(lb sb:Nat→Nat)(rv:Nat→Value)(v:Value)(a0 x:ByteArray)(ab:Nat)
 (h:SessT m B W0 b w sx tb q L D S lb sb rv v) (hm:m≤20000) (hg:GlobI W0) (hab:WordsAt w ab [a0,x]) (hx:x.size≤maxLen):
 Calls Tryz.prog 35 #[.pointer (some ⟨tb,0,none⟩), .func (.func 79) #[] #[.pointer (some ⟨ab,0,none⟩)]] w (uI7 (m+1) B W0 b sx q (SF sx tb L lb sb) (zF5 q x) w):=by
 obtain ⟨X,hXs,hXg,hXw,hX0⟩:=h.base hg
 have hgood:=h.t.good
 refine (yY5 _ (Or.inl rfl) X w b tb L D lb sb rv v q S (zF5 q x) ab (by rw [hXs];exact h.t.pre) (fun k hk=>(h.t.has k hk).i) (fun k hk=>Nat.le_trans (h.t.ep k hk) hm) hXg hXw (zJ0 hgood) (fun W qv hb hq=>(say_fn1 w.heap.size qv q a0 x ab W hb.size hq hgood (hab.below hb) hx)) (fun h0=>⟨zJ0 (xG4 hgood x h0).1,(xG4 hgood x h0).2⟩)).mono ?_
 intro e w' hr
 exact yI5 h hm hXs hX0 (fun h0=>xG4 hgood x h0) hr
theorem uK6 (m B:Nat)(W0:World)(b:Nat→Nat)(w:World)(sx tb:Nat)(q:Quilt)(L:Nat→Dk)(D:Nat→DiskS)(S:Nat→StS)(lb sb:Nat→Nat)(rv:Nat→Value)(v:Value)(a0 x y:ByteArray)(ab:Nat)
 (h:SessT m B W0 b w sx tb q L D S lb sb rv v) (hm:m≤20000) (hg:GlobI W0) (hab:WordsAt w ab [a0,x,y]) (hx:x.size≤maxLen) (hy:y.size≤maxLen):
 Calls Tryz.prog 35 #[.pointer (some ⟨tb,0,none⟩), .func (.func 80) #[] #[.pointer (some ⟨ab,0,none⟩)]] w (uI7 (m+1) B W0 b sx q (SF sx tb L lb sb) (zE5 q x (zU8 y)) w):=by
 obtain ⟨X,hXs,hXg,hXw,hX0⟩:=h.base hg
 have hgood:=h.t.good
 refine (yY5 _ (Or.inr (Or.inl rfl)) X w b tb L D lb sb rv v q S (zE5 q x (zU8 y)) ab (by rw [hXs];exact h.t.pre) (fun k hk=>(h.t.has k hk).i) (fun k hk=>Nat.le_trans (h.t.ep k hk) hm) hXg hXw (zJ0 hgood) (fun W qv hb hq=>(say_fn2 w.heap.size qv q a0 x y ab W hb.size hq hgood (hab.below hb) hx hy)) (fun h0=>⟨zJ0 (yU3 hgood x (zU8 y) h0).1,(yU3 hgood x (zU8 y) h0).2⟩)).mono ?_
 intro e w' hr
 exact yI5 h hm hXs hX0 (fun h0=>yU3 hgood x (zU8 y) h0) hr
theorem uK5 (m B:Nat)(W0:World)(b:Nat→Nat)(w:World)(sx tb:Nat)(q:Quilt)(L:Nat→Dk)(D:Nat→DiskS)(S:Nat→StS)(lb sb:Nat→Nat)(rv:Nat→Value)(v:Value)(a0 x y:ByteArray)(ab:Nat)
 (h:SessT m B W0 b w sx tb q L D S lb sb rv v) (hm:m≤20000) (hg:GlobI W0) (hab:WordsAt w ab [a0,x,y]) (hx:x.size≤maxLen) (hy:y.size≤maxLen):
 Calls Tryz.prog 35 #[.pointer (some ⟨tb,0,none⟩), .func (.func 82) #[] #[.pointer (some ⟨ab,0,none⟩)]] w (uI7 (m+1) B W0 b sx q (SF sx tb L lb sb) (zC3 q x y) w):=by
 obtain ⟨X,hXs,hXg,hXw,hX0⟩:=h.base hg
 have hgood:=h.t.good
 refine (yY5 _ (Or.inr (Or.inr (Or.inl rfl))) X w b tb L D lb sb rv v q S (zC3 q x y) ab (by rw [hXs];exact h.t.pre) (fun k hk=>(h.t.has k hk).i) (fun k hk=>Nat.le_trans (h.t.ep k hk) hm) hXg hXw (zJ0 hgood) (fun W qv hb hq=>(say_fn3 w.heap.size qv q a0 x y ab W hb.size hq hgood (hab.below hb) hx hy)) (fun h0=>⟨zJ0 (xG3 hgood x y h0).1,(xG3 hgood x y h0).2⟩)).mono ?_
 intro e w' hr
 exact yI5 h hm hXs hX0 (fun h0=>xG3 hgood x y h0) hr
theorem uK4 (m B:Nat)(W0:World)(b:Nat→Nat)(w:World)(sx tb:Nat)(q:Quilt)(L:Nat→Dk)(D:Nat→DiskS)(S:Nat→StS)(lb sb:Nat→Nat)(rv:Nat→Value)(v:Value)(a0 x y:ByteArray)(ab:Nat)
 (h:SessT m B W0 b w sx tb q L D S lb sb rv v) (hm:m≤20000) (hg:GlobI W0) (hab:WordsAt w ab [a0,x,y]) (hx:x.size≤maxLen) (hy:y.size≤maxLen):
 Calls Tryz.prog 35 #[.pointer (some ⟨tb,0,none⟩), .func (.func 83) #[] #[.pointer (some ⟨ab,0,none⟩)]] w (uI7 (m+1) B W0 b sx q (SF sx tb L lb sb) (zC0 q x y) w):=by
 obtain ⟨X,hXs,hXg,hXw,hX0⟩:=h.base hg
 have hgood:=h.t.good
 refine (yY5 _ (Or.inr (Or.inr (Or.inr rfl))) X w b tb L D lb sb rv v q S (zC0 q x y) ab (by rw [hXs];exact h.t.pre) (fun k hk=>(h.t.has k hk).i) (fun k hk=>Nat.le_trans (h.t.ep k hk) hm) hXg hXw (zJ0 hgood) (fun W qv hb hq=>(say_fn4 w.heap.size qv q a0 x y ab W hb.size hq hgood (hab.below hb) hx hy)) (fun h0=>⟨zJ0 (xG2 hgood x y h0).1,(xG2 hgood x y h0).2⟩)).mono ?_
 intro e w' hr
 exact yI5 h hm hXs hX0 (fun h0=>xG2 hgood x y h0) hr
open Go.RowKit Go.Sort
structure SessB (k m B:Nat) (W0:World) (b:Nat→Nat) (w:World) (sx tb:Nat) (q:Quilt) (L:Nat→Dk) (D:Nat→DiskS) (S:Nat→StS) (lb sb:Nat→Nat) (rv:Nat→Value) (sp:Nat→Option Addr) (v:Value):Prop where
 pre:PreT (fun i=>i≠k) B b w tb L D lb sb rv sp v q
 has:∀i,i<3→i≠k→HasQ (D i) (S i) q∧(S i).h.epoch≤m
 snd:Sound (D k)
 good:Good q
 box:w.heap[sx]?=some (SBox b tb)
 lo:W0.heap.size≤sx
 hi:sx<B
 bel:Below W0.heap.size W0 w
theorem SessT.bad {m B:Nat}{W0:World}{b:Nat→Nat}{w:World}{sx tb:Nat}{q:Quilt}{L:Nat→Dk}{D:Nat→DiskS}{S:Nat→StS}{lb sb:Nat→Nat}{rv:Nat→Value}{v:Value}(h:SessT m B W0 b w sx tb q L D S lb sb rv v){k:Nat}(hk:k<3):SessB k m B W0 b w sx tb q L D S lb sb rv (fun k=>some ⟨sb k,0,none⟩) v:=
 ⟨h.t.pre.mono (fun _ _ _=>trivial),fun i hi _=>⟨h.t.has i hi,h.t.ep i hi⟩,(h.t.has k hk).sound,h.t.good,h.box,h.lo,h.hi,h.bel⟩
section
variable {k m B:Nat} {W0:World} {b:Nat→Nat} {w w' :World} {sx tb:Nat} {q:Quilt} {L:Nat→Dk} {D:Nat→DiskS} {S:Nat→StS} {lb sb:Nat→Nat} {rv:Nat→Value} {sp:Nat→Option Addr} {v:Value}
theorem SessB.lt (h:SessB k m B W0 b w sx tb q L D S lb sb rv sp v):sx<w.heap.size:=(Array.getElem?_eq_some_iff.1 h.box).1
theorem SessB.below (h:SessB k m B W0 b w sx tb q L D S lb sb rv sp v)(hb:Below w.heap.size w w'):SessB k m B W0 b w' sx tb q L D S lb sb rv sp v:=
 ⟨h.pre.below hb,h.has,h.snd,h.good,by rw [hb.block _ h.lt];exact h.box,h.lo,h.hi,two h.bel hb⟩
theorem SessB.tlt (h:SessB k m B W0 b w sx tb q L D S lb sb rv sp v){x:Nat}(hx:TF tb L lb sb x):x<w.heap.size∧B≤x:=by
 rcases hx with rfl | ⟨k,hk,hx⟩
 · exact ⟨h.pre.tlt,h.pre.tB⟩
 · exact h.pre.lt k hk x hx
theorem SessB.nt (h:SessB k m B W0 b w sx tb q L D S lb sb rv sp v):¬TF tb L lb sb sx:=fun hx=>by have:=(h.tlt hx).2;have:=h.hi;omega
theorem SessB.Blo (h:SessB k m B W0 b w sx tb q L D S lb sb rv sp v):B≤w.heap.size:=by have h1:=h.pre.tlt;have h2:=h.pre.tB;omega
theorem SessB.base (h:SessB k m B W0 b w sx tb q L D S lb sb rv sp v)(hg:GlobI W0):∃X,X.heap.size=B∧GlobI X∧Below X.heap.size X w∧Below W0.heap.size W0 X:=xA2 h.bel (by have:=h.lo;have:=h.hi;omega) h.Blo hg
theorem SessB.sound (h:SessB k m B W0 b w sx tb q L D S lb sb rv sp v):∀i,i<3→Sound (D i):=fun i hi=>by
 by_cases e:i=k
 · rw [e];exact h.snd
 · exact (h.has i hi e).1.sound
theorem SessB.turn (h:SessB k m B W0 b w sx tb q L D S lb sb rv sp v)(hk:k<3){D' :DiskS}(ht:Turned 72 75 w (L k) D' w')(hs:Sound D'):∃L',SessB k m B W0 b w' sx tb q (upd L k L') (upd D k D') S lb sb rv sp v∧Steps (SF sx tb L lb sb) w w' (SF sx tb (upd L k L') lb sb):=by
 obtain ⟨L',e,hd,ho,hg⟩:=ht
 have hB:=h.Blo
 have ho2:Off (stF (L k) (lb k) (sb k)) w w' :=ho.mono (fun x hx=>Or.inl hx)
 have hg2:∀x,stF L' (lb k) (sb k) x→stF (L k) (lb k) (sb k) x∨w.heap.size≤x:=fun x hx=>by
  rcases hx with hx | hx | hx
  · exact (hg x hx).imp Or.inl id
  · exact Or.inl (Or.inr (Or.inl hx))
  · exact Or.inl (Or.inr (Or.inr hx))
 have hl2:∀x,stF L' (lb k) (sb k) x→x<w'.heap.size:=fun x hx=>by
  rcases hx with hx | hx
  · exact hd.lt _ hx
  · have:=(h.pre.lt k hk x (Or.inr hx)).1
    have:=ho.size
    omega
 have hput:=h.pre.put hk hB (L' :=L') (D' :=D') (lb' :=lb k) (sb' :=sb k) (rv' :=rv k) e hd ho2 hg2 hl2 (Or.inl rfl) (fun a n c e hn hx=>h.pre.rl k hk a n c e hn (Nat.le_trans ho.size hx))
 rw [zF9,zF9,zF9] at hput
 have hst:=zM5 (tb:=tb) (lb' :=lb k) (sb' :=sb k) hk ho2 hg2
 rw [zF9,zF9] at hst
 have hkp:=hst.keep h.lt h.nt
 have hW:W0.heap.size≤w.heap.size:=h.bel.size
 refine ⟨L',⟨hput.mono (fun i _ hi=>⟨hi,hi⟩),fun i hi hne=>?_,?_,h.good,hkp.1.trans h.box,h.lo,h.hi,h.bel.trans (ho.below _ hW (fun x hx=>?_))⟩,yY6 hst⟩
 · rw [zD0 _ _ hne];exact h.has i hi hne
 · rw [zA9];exact hs
 · have h1:=(h.pre.lt k hk x (Or.inl hx)).2
   have:=h.lo
   have:=h.hi
   omega
end
theorem SessT.restart {m B:Nat}{W0:World}{b:Nat→Nat}{w w' :World}{sx tb:Nat}{q:Quilt}{L:Nat→Dk}{D:Nat→DiskS}{S:Nat→StS}{lb sb:Nat→Nat}{rv:Nat→Value}{v:Value}(h:SessT m B W0 b w sx tb q L D S lb sb rv v){k:Nat}(hk:k<3){keep:Int}(ht:Turned 72 75 w (L k) (zC1 (D k) keep) w'):∃L',SessT m B W0 b w' sx tb q (upd L k L') (upd D k (zC1 (D k) keep)) S lb sb rv v∧Steps (SF sx tb L lb sb) w w' (SF sx tb (upd L k L') lb sb):=by
 have hq:=(h.t.has k hk).i.restart keep
 have hst:=(h.t.pre.st k hk trivial (S k) q (h.t.has k hk).copy).2
 obtain ⟨L',e,hd,ho,hg⟩:=ht
 have hst' :StAt w' (sb k) (lb k) L' (S k) 34 (rv k):=hst.turned ho e hg
 have ho2:Off (stF (L k) (lb k) (sb k)) w w' :=ho.mono (fun x hx=>Or.inl hx)
 have hg2:∀x,stF L' (lb k) (sb k) x→stF (L k) (lb k) (sb k) x∨w.heap.size≤x:=fun x hx=>by
  rcases hx with hx | hx | hx
  · exact (hg x hx).imp Or.inl id
  · exact Or.inl (Or.inr (Or.inl hx))
  · exact Or.inl (Or.inr (Or.inr hx))
 have hput:=h.t.pre.put hk h.t.lo (L' :=L') (D' :=zC1 (D k) keep) (lb' :=lb k) (sb' :=sb k) (rv' :=rv k) e hd ho2 hg2 (hst'.flt hd) (Or.inl rfl) hst'.rl
 rw [zF9,zF9,zF9] at hput
 have hso:=zM5 (tb:=tb) (lb' :=lb k) (sb' :=sb k) hk ho2 hg2
 rw [zF9,zF9] at hso
 have hkp:=hso.keep h.lt h.nt
 have hW:W0.heap.size≤w.heap.size:=h.bel.size
 refine ⟨L',⟨⟨(hput.has (fun S1 q1 hc=>?_)).mono (fun i hi _=>?_),fun i hi=>?_,h.t.ep,h.t.good⟩,hkp.1.trans h.box,h.lo,h.hi,h.bel.trans (ho.below _ hW (fun x hx=>?_))⟩,yY6 hso⟩
 · rw [zA9,hq.copy] at hc
   simp only [Option.some.injEq,Prod.mk.injEq] at hc
   rw [←hc.1,zA9]
   exact ⟨rfl,hst'⟩
 · exact Or.inl trivial
 · by_cases e:i=k
   · rw [e,zA9];exact hq
   · rw [zD0 _ _ e];exact h.t.has i hi
 · have h1:=(h.t.pre.lt k hk x (Or.inl hx)).2
   have:=h.lo
   have:=h.hi
   omega
end Go.Proofs.YtggpodlecljcbabGreatDoor
