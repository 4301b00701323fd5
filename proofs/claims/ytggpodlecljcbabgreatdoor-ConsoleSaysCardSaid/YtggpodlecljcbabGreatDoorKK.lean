/- Plain: disks, and how a disk lies in memory. -/
import Derived.Test.YtggpodlecljcbabGreatDoorProg
import Derived.Deep.OwnRows
import Derived.Laws.IdiomStrings
import Derived.Test.YtggpodlecljcbabGreatDoorKBase
namespace Go.Proofs.YtggpodlecljcbabGreatDoor
set_option linter.unusedSimpArgs false
set_option linter.unusedVariables false
set_option maxRecDepth 100000
set_option maxHeartbeats 64000000
open Lib (hid)
open Go.RowKit Go.Sort
structure Turn where
 pos:Nat
 data:ByteArray
def Turn.cells (t:Turn):List Value:= [.int .i64 t.pos, .string t.data]
theorem Turn.cells_len (t:Turn):t.cells.length=2:=rfl
structure DiskS where
 kept:List ByteArray
 now:List ByteArray
 wait:List Turn
 fuse:Int
 down:Bool
def zI3 (n:Nat):ByteArray:=⟨Array.replicate n 0⟩
def zD1 (s:ByteArray):ByteArray:=s++zI3 (40 - s.size)
theorem yA5 (n:Nat):(zI3 n).size=n:=by simp [zI3,ByteArray.size]
theorem zN0 (s:ByteArray)(h:s.size≤40):(zD1 s).size=40:=by
 unfold zD1
 rw [ByteArray.size_append,yA5]
 omega
def xI7 (n:Nat):DiskS:=⟨List.replicate n (zI3 40),List.replicate n (zI3 40), [], -1,false⟩
def zI5 (d:DiskS):DiskS × Nat:=
 if d.down then (d,8) else if d.fuse=0 then ({ d with down:=true,fuse:= -1 },8) else ({ d with fuse:=if 0<d.fuse then d.fuse - 1 else d.fuse },0)
def zB9 (d:DiskS)(pos:Int)(s:ByteArray):DiskS × Nat:=
 if pos<0∨(d.now.length:Int)≤pos∨40<s.size then (d,1)
 else if (zI5 d).2≠0 then zI5 d
 else ({ (zI5 d).1 with now:=d.now.set pos.toNat (zD1 s),wait:=d.wait++ [⟨pos.toNat,zD1 s⟩] },0)
def xU4 (d:DiskS)(pos:Int):ByteArray × Nat:=
 if d.down then (ByteArray.empty,8) else if pos<0∨(d.now.length:Int)≤pos then (ByteArray.empty,1) else ((d.now[pos.toNat]?).getD ByteArray.empty,0)
def zC5 (d:DiskS):DiskS × Nat:=
 if (zI5 d).2≠0 then zI5 d else ({ (zI5 d).1 with kept:=d.now,wait:= [] },0)
def zZ9 (keep:Int)(i:Nat):Bool:=bits BinOp.and IntKind.u64 (keep / 2 ^ (i % 64)) 1==1
def zE1 (keep:Int)(wait:List Turn)(k:Nat)(kept:List ByteArray):List ByteArray:=
 ((wait.take k).zipIdx).foldl (fun l p=>if zZ9 keep p.2 then l.set p.1.pos p.1.data else l) kept
def zC1 (d:DiskS)(keep:Int):DiskS:=⟨zE1 keep d.wait d.wait.length d.kept,zE1 keep d.wait d.wait.length d.kept, [], -1,false⟩
structure DiskS.ok (d:DiskS):Prop where
 same:d.kept.length=d.now.length
 some:1≤d.now.length
 few:d.now.length≤60
 pos:∀t∈d.wait,t.pos<d.now.length
 low: -1≤d.fuse
 high:d.fuse≤9223372036854775807
theorem zR5 (keep:Int)(wait:List Turn)(kept:List ByteArray):zE1 keep wait 0 kept=kept:=by simp [zE1]
theorem zW2 (keep:Int)(wait:List Turn)(k:Nat)(kept:List ByteArray)(h:k<wait.length):
 zE1 keep wait (k+1) kept=if zZ9 keep k then (zE1 keep wait k kept).set wait[k].pos wait[k].data else zE1 keep wait k kept:=by
 unfold zE1
 rw [List.take_succ_eq_append_getElem h,List.zipIdx_append,List.foldl_append]
 simp only [List.zipIdx_cons,List.zipIdx_nil,List.foldl_cons,List.foldl_nil,List.length_take,Nat.zero_add]
 rw [Nat.min_eq_left (by omega)]
theorem zG1 (keep:Int)(wait:List Turn)(kept:List ByteArray):∀k,k≤wait.length→(zE1 keep wait k kept).length=kept.length
 | 0,_=>by rw [zR5]
 | k+1,h=>by
  rw [zW2 keep wait k kept (by omega)]
  split
  · rw [List.length_set];exact zG1 keep wait kept k (by omega)
  · exact zG1 keep wait kept k (by omega)
theorem newD_ok {n:Nat}(h1:1≤n)(h2:n≤60):(xI7 n).ok:=⟨by simp [xI7],by simpa [xI7] using h1,by simpa [xI7] using h2,fun t ht=>by simp [xI7] at ht,by simp [xI7],by simp [xI7]⟩
theorem zG3 (d:DiskS):(zI5 d).1.kept=d.kept∧(zI5 d).1.now=d.now∧(zI5 d).1.wait=d.wait:=by
 unfold zI5;split
 · exact ⟨rfl,rfl,rfl⟩
 · split <;> exact ⟨rfl,rfl,rfl⟩
theorem DiskS.ok.step {d:DiskS}(h:d.ok):(zI5 d).1.ok:=by
 obtain ⟨h1,h2,h3⟩:=zG3 d
 refine ⟨by rw [h1,h2];exact h.same,by rw [h2];exact h.some,by rw [h2];exact h.few,by rw [h2,h3];exact h.pos,?_,?_⟩
 · have:=h.low;unfold zI5;split
   · exact h.low
   · split
     · exact Int.le_refl _
     · show -1≤(if 0<d.fuse then d.fuse - 1 else d.fuse);split <;> omega
 · have:=h.high;unfold zI5;split
   · exact h.high
   · split
     · show (-1:Int)≤_;omega
     · show (if 0<d.fuse then d.fuse - 1 else d.fuse)≤_;split <;> omega
theorem DiskS.ok.write {d:DiskS}(h:d.ok)(pos:Int)(s:ByteArray):(zB9 d pos s).1.ok:=by
 unfold zB9;split
 · exact h
 · rename_i h0
   split
   · exact h.step
   · have h5:=h.step
     refine ⟨by rw [List.length_set];exact (zG3 d).1 ▸ h.same,by rw [List.length_set];exact h.some,by rw [List.length_set];exact h.few,fun t ht=>?_,h5.low,h5.high⟩
     rw [List.length_set]
     rcases List.mem_append.mp ht with ht | ht
     · exact h.pos t ht
     · simp at ht;subst ht;simp;omega
theorem DiskS.ok.flush {d:DiskS}(h:d.ok):(zC5 d).1.ok:=by
 unfold zC5;split
 · exact h.step
 · have h5:=h.step
   have h2:=(zG3 d).2.1
   exact ⟨by rw [h2],by rw [h2];exact h.some,by rw [h2];exact h.few,fun t ht=>by simp at ht,h5.low,h5.high⟩
theorem DiskS.ok.restart {d:DiskS}(h:d.ok)(keep:Int):(zC1 d keep).ok:=by
 have hl:(zE1 keep d.wait d.wait.length d.kept).length=d.now.length:=by rw [zG1 keep d.wait d.kept _ (Nat.le_refl _)];exact h.same
 exact ⟨rfl,by show 1≤(zE1 _ _ _ _).length;rw [hl];exact h.some,by show (zE1 _ _ _ _).length≤60;rw [hl];exact h.few,fun t ht=>by simp [zC1] at ht,by simp [zC1],by simp [zC1]⟩

structure Dk where
 b:Nat
 gk:Nat
 gn:Nat
 ck:Nat
 cn:Nat
 wv:Value
def Dk.foot (L:Dk)(k:Nat):Prop:=k=L.b∨k=L.gk∨k=L.gn∨L.wv.ownBlock=some k
structure DAt (ty tt:TypeId) (w:World) (L:Dk) (D:DiskS):Prop where
 box:w.heap[L.b]?=some (.cells #[.slice (some ⟨L.gk,0,none⟩) D.kept.length L.ck, .slice (some ⟨L.gn,0,none⟩) D.now.length L.cn,L.wv, .int .i64 D.fuse, .bool D.down] ty (0,0))
 kept:w.ownsRow 0 9 1 (.slice (some ⟨L.gk,0,none⟩) D.kept.length L.ck) D.kept.length (D.kept.map .string)
 now:w.ownsRow 0 9 1 (.slice (some ⟨L.gn,0,none⟩) D.now.length L.cn) D.now.length (D.now.map .string)
 wait:w.ownsRow 0 tt 2 L.wv D.wait.length (D.wait.flatMap Turn.cells)
 kb:L.gk≠L.b
 nb:L.gn≠L.b
 kn:L.gk≠L.gn
 wb:L.wv.ownBlock≠some L.b
 wk:L.wv.ownBlock≠some L.gk
 wn:L.wv.ownBlock≠some L.gn
section
variable {ty tt:TypeId} {w w' :World} {L:Dk} {D:DiskS}
theorem DAt.lt (h:DAt ty tt w L D):∀k,L.foot k→k<w.heap.size:=by
 rintro k (rfl | rfl | rfl | hk)
 · exact (Array.getElem?_eq_some_iff.1 h.box).1
 · exact (h.kept.lt _ rfl).2
 · exact (h.now.lt _ rfl).2
 · exact (h.wait.lt _ hk).2
theorem DAt.keep (h:DAt ty tt w L D)(hb:∀k,L.foot k→w'.heap[k]?=w.heap[k]?):DAt ty tt w' L D:=
 ⟨by rw [hb _ (Or.inl rfl)];exact h.box,zF4 h.kept (fun g hg=>by cases hg;exact hb _ (Or.inr (Or.inl rfl))),zF4 h.now (fun g hg=>by cases hg;exact hb _ (Or.inr (Or.inr (Or.inl rfl)))),
  zF4 h.wait (fun g hg=>hb _ (Or.inr (Or.inr (Or.inr hg)))),h.kb,h.nb,h.kn,h.wb,h.wk,h.wn⟩
theorem DAt.off {G:Nat→Prop}(h:DAt ty tt w L D)(hO:Off G w w')(hG:∀k,L.foot k→¬G k):DAt ty tt w' L D:=h.keep fun k hk=>hO.block k (h.lt k hk) (hG k hk)
theorem DAt.below (h:DAt ty tt w L D)(hb:Below w.heap.size w w'):DAt ty tt w' L D:=h.keep fun k hk=>hb.block k (h.lt k hk)
theorem DAt.c0 (h:DAt ty tt w L D):w.cell? ⟨L.b,0,none⟩=some (.slice (some ⟨L.gk,0,none⟩) D.kept.length L.ck):=by simp [World.cell?,h.box]
theorem DAt.c1 (h:DAt ty tt w L D):w.cell? ⟨L.b,1,none⟩=some (.slice (some ⟨L.gn,0,none⟩) D.now.length L.cn):=by simp [World.cell?,h.box]
theorem DAt.c2 (h:DAt ty tt w L D):w.cell? ⟨L.b,2,none⟩=some L.wv:=by simp [World.cell?,h.box]
theorem DAt.c3 (h:DAt ty tt w L D):w.cell? ⟨L.b,3,none⟩=some (.int .i64 D.fuse):=by simp [World.cell?,h.box]
theorem DAt.c4 (h:DAt ty tt w L D):w.cell? ⟨L.b,4,none⟩=some (.bool D.down):=by simp [World.cell?,h.box]
theorem DAt.f (h:DAt ty tt w L D)(o:Nat):w.frozen? ⟨L.b,o,none⟩=false:=by simp [World.frozen?,h.box]
theorem DAt.ncell (h:DAt ty tt w L D)(i:Nat)(hi:i<D.now.length):w.cell? ⟨L.gn,i,none⟩=some (.string D.now[i]):=by
 have:=yP4 h.now i (by simpa using hi);simpa using this
theorem DAt.kcell (h:DAt ty tt w L D)(i:Nat)(hi:i<D.kept.length):w.cell? ⟨L.gk,i,none⟩=some (.string D.kept[i]):=by
 have:=yP4 h.kept i (by simpa using hi);simpa using this
theorem DAt.fn (h:DAt ty tt w L D)(o:Nat):w.frozen? ⟨L.gn,o,none⟩=false:=yD0 h.now o
theorem DAt.fk (h:DAt ty tt w L D)(o:Nat):w.frozen? ⟨L.gk,o,none⟩=false:=yD0 h.kept o
theorem zE3 {base n size:Nat}{e:TypeId}{v:Value}{xs:List Value}(h:w.ownsRow base e size v n xs){a:Addr}(ha:v.ownBlock≠some a.block)(u:Value):(w.setCell a u).ownsRow base e size v n xs:=
 zF4 h fun g hg=>Below.heap_setCell _ _ _ _ (fun e=>ha (by rw [hg,e]))
theorem zU2 {base n size:Nat}{e:TypeId}{v:Value}{xs:List Value}(h:w.ownsRow base e size v n xs){b:Nat}(hb:v.ownBlock≠some b)(o:Nat)(us:List Value):(w.setCells b o us).ownsRow base e size v n xs:=
 zF4 h fun g hg=>zP8 _ _ _ _ _ (fun e=>hb (by rw [hg,e]))
theorem zT8 {a b n c:Nat}(h:a≠b):(Value.slice (some ⟨a,0,none⟩) n c).ownBlock≠some b:=fun e=>h (by simpa [Value.ownBlock] using e)
theorem DAt.set_fuse (h:DAt ty tt w L D)(f:Int):DAt ty tt (w.setCell ⟨L.b,3,none⟩ (.int .i64 f)) L { D with fuse:=f }:=
 ⟨by rw [zA3 _ _ _ _ h.box];rfl,zE3 h.kept (zT8 h.kb) _,zE3 h.now (zT8 h.nb) _,zE3 h.wait h.wb _,h.kb,h.nb,h.kn,h.wb,h.wk,h.wn⟩
theorem DAt.set_down (h:DAt ty tt w L D)(f:Bool):DAt ty tt (w.setCell ⟨L.b,4,none⟩ (.bool f)) L { D with down:=f }:=
 ⟨by rw [zA3 _ _ _ _ h.box];rfl,zE3 h.kept (zT8 h.kb) _,zE3 h.now (zT8 h.nb) _,zE3 h.wait h.wb _,h.kb,h.nb,h.kn,h.wb,h.wk,h.wn⟩
theorem DAt.set_wait (h:DAt ty tt w L D)(v:Value)(l:List Turn)(hv:w.ownsRow 0 tt 2 v l.length (l.flatMap Turn.cells))(h1:v.ownBlock≠some L.b)(h2:v.ownBlock≠some L.gk)(h3:v.ownBlock≠some L.gn):
 DAt ty tt (w.setCell ⟨L.b,2,none⟩ v) { L with wv:=v } { D with wait:=l }:=
 ⟨by rw [zA3 _ _ _ _ h.box];rfl,zE3 h.kept (zT8 h.kb) _,zE3 h.now (zT8 h.nb) _,zE3 hv h1 _,h.kb,h.nb,h.kn,h1,h2,h3⟩
theorem DAt.now_at (h:DAt ty tt w L D)(i:Nat)(hi:i<D.now.length)(s:ByteArray):DAt ty tt (w.setCell ⟨L.gn,i,none⟩ (.string s)) L { D with now:=D.now.set i s }:=by
 have h1:=vJ9 h.now i (by simpa using hi) (.string s)
 refine ⟨by rw [Below.heap_setCell _ _ _ _ (fun e=>h.nb e.symm),h.box];simp,zE3 h.kept (zT8 h.kn) _,?_,zE3 h.wait h.wn _,h.kb,h.nb,h.kn,h.wb,h.wk,h.wn⟩
 simpa using h1
theorem DAt.kept_at (h:DAt ty tt w L D)(i:Nat)(hi:i<D.kept.length)(s:ByteArray):DAt ty tt (w.setCell ⟨L.gk,i,none⟩ (.string s)) L { D with kept:=D.kept.set i s }:=by
 have h1:=vJ9 h.kept i (by simpa using hi) (.string s)
 refine ⟨by rw [Below.heap_setCell _ _ _ _ (fun e=>h.kb e.symm),h.box];simp,?_,zE3 h.now (zT8 h.kn.symm) _,zE3 h.wait h.wk _,h.kb,h.nb,h.kn,h.wb,h.wk,h.wn⟩
 simpa using h1
theorem DAt.now_all (h:DAt ty tt w L D)(l:List ByteArray)(hl:l.length=D.now.length):DAt ty tt (w.setCells L.gn 0 (l.map .string)) L { D with now:=l }:=by
 have h1:=yP3 h.now (l.map .string) (by simpa using hl)
 refine ⟨by rw [zP8 _ _ _ _ _ (fun e=>h.nb e.symm),h.box];simp [hl],zU2 h.kept (zT8 h.kn) _ _,?_,zU2 h.wait h.wn _ _,h.kb,h.nb,h.kn,h.wb,h.wk,h.wn⟩
 simpa [hl] using h1
theorem DAt.kept_all (h:DAt ty tt w L D)(l:List ByteArray)(hl:l.length=D.kept.length):DAt ty tt (w.setCells L.gk 0 (l.map .string)) L { D with kept:=l }:=by
 have h1:=yP3 h.kept (l.map .string) (by simpa using hl)
 refine ⟨by rw [zP8 _ _ _ _ _ (fun e=>h.kb e.symm),h.box];simp [hl],?_,zU2 h.now (zT8 h.kn.symm) _ _,zU2 h.wait h.wk _ _,h.kb,h.nb,h.kn,h.wb,h.wk,h.wn⟩
 simpa [hl] using h1
def Turned (ty tt:TypeId)(w:World)(L:Dk)(D' :DiskS)(w' :World):Prop:=∃L',L'.b=L.b∧DAt ty tt w' L' D' ∧Off L.foot w w' ∧(∀k,L'.foot k→L.foot k∨w.heap.size≤k)
theorem Turned.refl (h:DAt ty tt w L D):Turned ty tt w L D w:=⟨L,rfl,h,Off.refl _ _,fun _ hk=>Or.inl hk⟩
end
open Go.RowKit Go.Sort
abbrev DiskAt :=DAt 72 75
def Stepped (ty tt:TypeId)(w:World)(L:Dk)(D' :DiskS)(w' :World):Prop:=DAt ty tt w' L D' ∧Off (fun k=>k=L.b) w w' ∧w'.heap.size=w.heap.size
theorem yC5 (w:World)(a:Addr)(v:Value):(w.setCell a v).heap.size=w.heap.size:=by simp [World.setCell]
theorem vC1 {ty tt:TypeId}{w:World}{L:Dk}{D:DiskS}(h:DAt ty tt w L D)(f:Int)(d:Bool):Stepped ty tt w L { D with fuse:=f,down:=d } ((w.setCell ⟨L.b,4,none⟩ (.bool d)).setCell ⟨L.b,3,none⟩ (.int .i64 f)):=
 ⟨(h.set_down d).set_fuse f,(zA7 (F:=fun k=>k=L.b) w ⟨L.b,4,none⟩ rfl _).trans (zA7 (F:=fun k=>k=L.b) _ ⟨L.b,3,none⟩ rfl _) (fun _ _ h=>h),by rw [yC5,yC5]⟩
theorem yV1 {ty tt:TypeId}{w:World}{L:Dk}{D:DiskS}(h:DAt ty tt w L D)(f:Int):Stepped ty tt w L { D with fuse:=f } (w.setCell ⟨L.b,3,none⟩ (.int .i64 f)):=
 ⟨h.set_fuse f,zA7 (F:=fun k=>k=L.b) w ⟨L.b,3,none⟩ rfl _,by rw [yC5]⟩
theorem xS7 {ty tt:TypeId}{w:World}{L:Dk}{D:DiskS}(h:DAt ty tt w L D):Stepped ty tt w L D w:=⟨h,Off.refl _ _,rfl⟩

theorem xY1 (L:Dk)(D:DiskS)(w:World)(h:DiskAt w L D)(hok:D.ok):
 Calls Tryz.prog 25 #[.pointer (some ⟨L.b,0,none⟩)] w fun e w' =>e= .returned (zE6 (zI5 D).2)∧Stepped 72 75 w L (zI5 D).1 w' :=by
 have c3:=h.c3
 have c4:=h.c4
 have f3:=h.f 3
 have f4:=h.f 4
 have l1:=hok.low
 have l2:=hok.high
 have H:=hid h
 obtain ⟨b,gk,gn,ck,cn,wv⟩:=L
 obtain ⟨kept,now,wait,fuse,down⟩:=D
 simp only at c3 c4 f3 f4 l1 l2
 cases down
 · by_cases hf:fuse=0
   · subst hf
     have S:=hid (vC1 H.out (-1) true)
     have E:Hid (zI5 ⟨kept,now,wait,0,false⟩=(⟨kept,now,wait, -1,true⟩,8)):=hid (by simp [zI5])
     clear h hok
     go_enter Tryz.func25, Tryz.ntmps25
     go_wp2_with fail
     go_ret
     exact ⟨by rw [E.out];rfl,by rw [E.out];exact S.out⟩
   · by_cases hn:fuse= -1
     · subst hn
       have E:Hid (zI5 ⟨kept,now,wait, -1,false⟩=(⟨kept,now,wait, -1,false⟩,0)):=hid (by simp [zI5])
       have S:=hid (yV1 H.out (-1))
       clear h hok hf
       go_enter Tryz.func25, Tryz.ntmps25
       go_wp2_with fail
       go_ret
       exact ⟨by rw [E.out];rfl,by rw [E.out];exact S.out⟩
     · have E:Hid (zI5 ⟨kept,now,wait,fuse,false⟩=(⟨kept,now,wait,fuse - 1,false⟩,0)):=hid (by
        have:0<fuse:=by omega
        simp [zI5,hf,this])
       have S:=hid (yV1 H.out (fuse - 1))
       have hp:0<fuse:=by omega
       clear h hok hn
       go_enter Tryz.func25, Tryz.ntmps25
       go_wp2_with fail
       go_ret
       exact ⟨by rw [E.out];rfl,by rw [E.out];exact S.out⟩
 · have E:Hid (zI5 ⟨kept,now,wait,fuse,true⟩=(⟨kept,now,wait,fuse,true⟩,8)):=hid (by simp [zI5])
   clear h hok
   go_enter Tryz.func25, Tryz.ntmps25
   go_wp2_with fail
   go_ret
   exact ⟨by rw [E.out];rfl,by rw [E.out];exact xS7 H.out⟩

theorem xY4 (L:Dk)(D:DiskS)(w:World)(h:DiskAt w L D):
 Calls Tryz.prog 89 #[.pointer (some ⟨L.b,0,none⟩)] w fun e w' =>e= .returned (.bool D.down)∧w' =w:=by
 have c4:=h.c4
 have H:=hid h
 clear h
 go_enter Tryz.func89, Tryz.ntmps89
 go_wp2_with fail
 go_ret
 exact ⟨rfl,rfl⟩
theorem zM8 (L:Dk)(D:DiskS)(w:World)(h:DiskAt w L D):
 Calls Tryz.prog 87 #[.pointer (some ⟨L.b,0,none⟩)] w fun e w' =>e= .returned (.int .i64 D.now.length)∧w' =w:=by
 have c1:=h.c1
 have hc:=(zU3 h.now).1
 have hm:=(zU3 h.now).2
 have H:=hid h
 clear h
 unfold maxLen at hm
 go_enter Tryz.func87, Tryz.ntmps87
 go_wp2_with fail
 go_ret
 exact ⟨rfl,rfl⟩
open Go.RowKit Go.Sort
theorem vQ2 {D:DiskS}(h:D.down=true)(p:Int):xU4 D p=(ByteArray.empty,8):=by unfold xU4;rw [if_pos h]
theorem vZ7 {D:DiskS}(h:D.down=false){p:Int}(hp:p<0∨(D.now.length:Int)≤p):xU4 D p=(ByteArray.empty,1):=by unfold xU4;rw [if_neg (by simp [h]),if_pos hp]
theorem yY9 {D:DiskS}(h:D.down=false)(i:Nat)(hi:i<D.now.length):xU4 D i=(D.now[i],0):=by
 unfold xU4;rw [if_neg (by simp [h]),if_neg (by omega)];simp [hi]
theorem xG0 (L:Dk)(D:DiskS)(p:Int)(w:World)(h:DiskAt w L D):
 Calls Tryz.prog 90 #[.pointer (some ⟨L.b,0,none⟩), .int .i64 p] w fun e w' =>e= .returned (.tuple #[.string (xU4 D p).1,zE6 (xU4 D p).2])∧w' =w:=by
 have c1:=h.c1
 have c4:=h.c4
 have hc:=(zU3 h.now).1
 have hm:=(zU3 h.now).2
 unfold maxLen at hm
 cases hd:D.down
 · rw [hd] at c4
   by_cases hp:p<0∨(D.now.length:Int)≤p
   · have E:=hid (vZ7 hd hp)
     rw [E.out]
     clear h hd E
     rcases hp with hp | hp
     · go_enter Tryz.func90, Tryz.ntmps90
       go_wp2_with fail
       refine bodyPost_ret (v:= .tuple #[.string ByteArray.empty,zE6 1]) (by simp [results, Tryz.results90,go_sem,zE6];rfl) rfl ?_
       exact ⟨rfl,rfl⟩
     · have hp' :¬p<0:=by omega
       go_enter Tryz.func90, Tryz.ntmps90
       go_wp2_with fail
       refine bodyPost_ret (v:= .tuple #[.string ByteArray.empty,zE6 1]) (by simp [results, Tryz.results90,go_sem,zE6];rfl) rfl ?_
       exact ⟨rfl,rfl⟩
   · obtain ⟨i,rfl⟩:∃i:Nat,p=i:=⟨p.toNat,by omega⟩
     have hi:i<D.now.length:=by omega
     have cn:=h.ncell i hi
     have E:=hid (yY9 hd i hi)
     obtain ⟨s,hs⟩:∃s,s=D.now[i]:=⟨_,rfl⟩
     rw [←hs] at cn E
     rw [E.out]
     clear h hd E hs hp
     go_enter Tryz.func90, Tryz.ntmps90
     go_wp2_with fail
     refine bodyPost_ret (v:= .tuple #[.string s,zE6 0]) (by simp [results, Tryz.results90,go_sem,zE6]) rfl ?_
     exact ⟨rfl,rfl⟩
 · rw [hd] at c4
   have E:=hid (vQ2 hd p)
   rw [E.out]
   clear h hd E
   go_enter Tryz.func90, Tryz.ntmps90
   go_wp2_with fail
   refine bodyPost_ret (v:= .tuple #[.string ByteArray.empty,zE6 8]) (by simp [results, Tryz.results90,go_sem,zE6];rfl) rfl ?_
   exact ⟨rfl,rfl⟩
open Go.RowKit Go.Sort
theorem vU8 :(Tryz.prog.info? 5).map (fun i=>(i.zero,i.size,i.bytes))=some (some (.int .u8 0),1,1):=by kernel_rfl
theorem vR8 (n:Nat)(hn:n≤1000)(w:World):(Instr.makeSlice 112 (.int .i64 (n:Int)) (.int .i64 (n:Int))).run Tryz.prog w= .ok (.slice (some ⟨w.heap.size,0,none⟩) n n) (w.alloc (.cells (madeCells #[.int .u8 0] n) 5)):=
 run_make_row' (P:= Tryz.prog) 112 5 (.int .u8 0) 1 Tryz.underlying112 vU8 rfl .i64 .i64 n (by omega) (by omega) w
theorem vT9 (n:Nat)(w:World):(convert 112 9 (.slice (some ⟨w.heap.size,0,none⟩) n n)).run Tryz.prog (w.alloc (.cells (madeCells #[.int .u8 0] n) 5))= .ok (.string (zI3 n)) (w.alloc (.cells (madeCells #[.int .u8 0] n) 5)):=by
 have h:=run_convert_bytes_back (P:= Tryz.prog) (w.alloc (.cells (madeCells #[.int .u8 0] n) 5)) 112 9 5 ⟨w.heap.size,0,none⟩ n (List.replicate n 0) Tryz.underlying112 Tryz.underlying5 Tryz.underlying9 (fun j hj=>by
  rw [Addr.add_lit]
  have hj' :j<n:=by simpa using hj
  simp [madeCells,hj',Nat.mod_one])
 simp only [List.length_replicate] at h
 rw [h]
 simp [zI3]
theorem xY2 (s:ByteArray)(hs:s.size≤40)(w:World):
 Calls Tryz.prog 26 #[.string s] w fun e w' =>e= .returned (.string (zD1 s))∧Below w.heap.size w w' :=by
 obtain ⟨n,hn⟩:∃n,n=40 - s.size:=⟨_,rfl⟩
 have q:(40:Int) - (s.size:Int)=(n:Int):=by omega
 have hmk:=vR8 n (by omega)
 have hcv:=vT9 n
 have HB:=hid (zA0 w (.cells (madeCells #[.int .u8 0] n) 5))
 have HN:=hid hn
 have hz:¬9223372036854775807<s.size+(zI3 n).size:=by rw [yA5];omega
 clear hn
 go_enter Tryz.func26, Tryz.ntmps26
 go_wp2_with fail
 go_ret
 exact ⟨by unfold zD1;rw [HN.out];rfl,HB.out⟩
end Go.Proofs.YtggpodlecljcbabGreatDoor
