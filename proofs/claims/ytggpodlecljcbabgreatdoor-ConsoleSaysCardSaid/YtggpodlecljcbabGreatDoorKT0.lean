/- Three disks and a trio on them, for a statement. -/
import Derived.Test.YtggpodlecljcbabGreatDoorKT7
import Derived.Test.YtggpodlecljcbabGreatDoorKT8
import Derived.Test.YtggpodlecljcbabGreatDoorKK4
namespace Go.Proofs.YtggpodlecljcbabGreatDoor
set_option linter.unusedSimpArgs false
set_option linter.unusedVariables false
set_option maxRecDepth 100000
set_option maxHeartbeats 64000000
open Go.RowKit Go.Sort
theorem pick3 {α:Type}{P:Nat→α→Prop}(h:∀k,k<3→∃x,P k x):∃f:Nat→α,∀k,k<3→P k (f k):=by
 obtain ⟨x0,h0⟩:=h 0 (by decide)
 obtain ⟨x1,h1⟩:=h 1 (by decide)
 obtain ⟨x2,h2⟩:=h 2 (by decide)
 refine ⟨fun k=>match k with | 0=>x0 | 1=>x1 | _=>x2,fun k hk=>?_⟩
 match k,hk with
 | 0,_=>exact h0
 | 1,_=>exact h1
 | 2,_=>exact h2
theorem OpenR.trio {w0 w' :World}{b:Nat→Nat}{D D' :Nat→DiskS}{q:Quilt}{tb n:Nat}{L' :Nat→Dk}{lb sb:Nat→Nat}{rv:Nat→Value}{sp:Nat→Option Addr}{v:Value}(h:OpenR w0 b D q w' tb L' D' lb sb rv sp v)(hg:Good q){S:Nat→StS}(hs:∀k,k<3→HasQ (D' k) (S k) q∧(S k).h.epoch≤n):
 TrioQ n w0.heap.size b w' tb q L' D' S lb sb rv v:=
 ⟨h.pre.resp (fun k hk=>(h.pre.st k hk trivial _ _ (hs k hk).1.copy).1),fun k hk=>(hs k hk).1,fun k hk=>(hs k hk).2,hg⟩
structure NewTo (B:Nat) (b:Nat→Nat) (w:World) (L:Nat→Dk) (n:Nat):Prop where
 d:∀k,k<n→DiskAt w (L k) (xI7 60)
 eq:∀k,k<n→(L k).b=b k
 low:∀k,k<n→∀x,(L k).foot x→B≤x
 ap:∀i j,i<n→j<n→i≠j→∀x,(L i).foot x→¬(L j).foot x
theorem NewTo.next {B n:Nat}{b:Nat→Nat}{w w' w2:World}{L:Nat→Dk}{Ln:Dk}(h:NewTo B b w L n)(hb:Below w.heap.size w w')(hB:B≤w.heap.size)(hd:DiskAt w' Ln (xI7 60))(hf:∀k,Ln.foot k→w.heap.size≤k)(ho:Off (fun x=>x<B) w' w2):NewTo B (upd b n Ln.b) w2 (upd L n Ln) (n+1):=by
 have hlt:∀k,k<n→∀x,(L k).foot x→x<w.heap.size:=fun k hk x hx=>(h.d k hk).lt x hx
 refine ⟨fun k hk=>?_,fun k hk=>?_,fun k hk x hx=>?_,fun i j hi hj hij x hx hx' =>?_⟩
 · by_cases e:k=n
   · subst e;rw [zA9];exact hd.off ho (fun x hx h1=>by have h2:=hf x hx;have h3:x<B:=h1;omega)
   · rw [zD0 _ _ e];exact ((h.d k (by omega)).below hb).off ho (fun x hx h1=>by have h2:=h.low k (by omega) x hx;have h3:x<B:=h1;omega)
 · by_cases e:k=n
   · subst e;rw [zA9,zA9]
   · rw [zD0 _ _ e,zD0 _ _ e];exact h.eq k (by omega)
 · by_cases e:k=n
   · subst e;rw [zA9] at hx;exact Nat.le_trans hB (hf x hx)
   · rw [zD0 _ _ e] at hx;exact h.low k (by omega) x hx
 · by_cases ei:i=n
   · subst ei
     rw [zA9] at hx
     rw [zD0 _ _ (fun e=>hij e.symm)] at hx'
     have h1:=hf x hx
     have h2:=hlt j (by omega) x hx'
     omega
   · rw [zD0 _ _ ei] at hx
     by_cases ej:j=n
     · subst ej
       rw [zA9] at hx'
       have h1:=hf x hx'
       have h2:=hlt i (by omega) x hx
       omega
     · rw [zD0 _ _ ej] at hx'
       exact h.ap i j (by omega) (by omega) hij x hx hx'
theorem uC4 :Sound (xI7 60):=⟨newD_ok (by decide) (by decide),uC7 60,newD_40 60,uN4 60,by decide⟩
theorem vA1 {D:Nat→DiskS}{q:Quilt}(h:∀k,k<3→copyC (D k)=⟨true,q⟩):yA7 (zQ4 D)=q∧yA8 (zQ4 D)=0∧zS5 (zQ4 D) q= []:=by
 obtain ⟨h1,h2,h3⟩:=xR7 (t:=zQ4 D) (q:=q) (k:=0) (by decide) (fun i hi _=>by rw [yI4 D i hi];exact h i hi)
 rw [yI4 D 0 (by decide),h 0 (by decide),if_pos (yT0 _)] at h3
 exact ⟨h1,h2,h3⟩
open Go.RowKit Go.Sort
def ptrTo (b:Nat→Nat)(n k:Nat):Value:=if k<n then .pointer (some ⟨b k,0,none⟩) else .pointer none
open Go.RowKit Go.Sort
section
variable {n B:Nat} {b:Nat→Nat} {w w' :World} {tb:Nat} {q:Quilt} {L:Nat→Dk} {D:Nat→DiskS} {S:Nat→StS} {lb sb:Nat→Nat} {rv:Nat→Value} {v:Value}
theorem TrioQ.below (h:TrioQ n B b w tb q L D S lb sb rv v)(hb:Below w.heap.size w w'):TrioQ n B b w' tb q L D S lb sb rv v:=⟨h.pre.below hb,h.has,h.ep,h.good⟩
theorem TrioQ.lt (h:TrioQ n B b w tb q L D S lb sb rv v){x:Nat}(hx:TF tb L lb sb x):x<w.heap.size∧B≤x:=by
 rcases hx with rfl | ⟨k,hk,hx⟩
 · exact ⟨h.pre.tlt,h.pre.tB⟩
 · exact h.pre.lt k hk x hx
theorem TrioQ.few (h:TrioQ n B b w tb q L D S lb sb rv v):q.files.length≤1000:=by
 have:=h.good.fine.len
 omega
theorem TrioQ.lo (h:TrioQ n B b w tb q L D S lb sb rv v):B≤w.heap.size:=by have h1:=h.pre.tlt;have h2:=h.pre.tB;omega
theorem TrioQ.up (h:TrioQ n B b w tb q L D S lb sb rv v){m:Nat}(hm:n≤m):TrioQ m B b w tb q L D S lb sb rv v:=⟨h.pre,h.has,fun k hk=>Nat.le_trans (h.ep k hk) hm,h.good⟩
end
theorem vK1 (X:World)(b:Nat→Nat)(L:Nat→Dk)(D:Nat→DiskS)(S:Nat→StS)(n:Nat)(q:Quilt)(w:World)(h:Disks3 X.heap.size b w L D)(hs:∀k,k<3→HasQ (D k) (S k) q∧(S k).h.epoch≤n)(hg:GlobI X)(hbw:Below X.heap.size X w)(hgood:Good q):
 Calls Tryz.prog 11 #[.agg #[.pointer (some ⟨b 0,0,none⟩), .pointer (some ⟨b 1,0,none⟩), .pointer (some ⟨b 2,0,none⟩)]] w fun e w' =>∃tb L' lb sb rv v,e= .returned (.tuple #[.pointer (some ⟨tb,0,none⟩), .int .i64 0, .nilIface])∧TrioQ n X.heap.size b w' tb q L' D S lb sb rv v∧Steps (DF L) w w' (TF tb L' lb sb)∧Below X.heap.size X w' :=by
 obtain ⟨h1,h2,h3⟩:=vA1 (D:=D) (q:=q) (fun k hk=>(hs k hk).1.copyC)
 refine (vW2 X b L D q w h (fun k hk=>(hs k hk).1.sound) hg hbw h1 h2 (zJ0 hgood)).mono ?_
 rintro e w' ⟨tb,L',D',lb,sb,rv,sp,v,rfl,ho,_,hst⟩
 have he:∀k,k<3→D' k=D k:=fun k hk=>ho.right k hk (hs k hk).1.copyC
 have ht:=ho.trio hgood (S:=S) (n:=n) (fun k hk=>by rw [he k hk];exact hs k hk)
 exact ⟨tb,L',lb,sb,rv,v,by rw [h3];rfl,⟨ht.pre.asD he,fun k hk=>(hs k hk).1,fun k hk=>(hs k hk).2,hgood⟩,hst,ho.low⟩
@[go_sem] theorem field_files (x y : Value) (w : World) : (Instr.field 32 (.agg #[x, y]) 0).run Tryz.prog w = .ok x w := by kernel_rfl
end Go.Proofs.YtggpodlecljcbabGreatDoor
