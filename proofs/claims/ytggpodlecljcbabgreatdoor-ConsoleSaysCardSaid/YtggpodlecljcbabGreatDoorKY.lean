/- Plain: chapter 8: four bytes of a number, a sector of a log, the deeds that are closed. The walk of (*log.Log).look. Deeds, in memory: slices of slices that grow. -/
import Derived.Test.YtggpodlecljcbabGreatDoorKX7
import Derived.Test.YtggpodlecljcbabGreatDoorKK
namespace Go.Proofs.YtggpodlecljcbabGreatDoor
set_option linter.unusedSimpArgs false
set_option linter.unusedVariables false
set_option maxRecDepth 100000
set_option maxHeartbeats 64000000
open Lib (hid)
open Go.RowKit Go.Sort
def zH0 (n:Nat):ByteArray:=⟨#[n.toUInt8,(n / 256).toUInt8,(n / 65536).toUInt8,(n / 16777216).toUInt8]⟩
theorem zO9 (n:Nat):(zH0 n).size=4:=rfl
theorem xY8 (n:Nat)(x0 x1 x2 x3:Int)(h0:x0=(n % 256:Nat))(h1:x1=(n / 256 % 256:Nat))(h2:x2=(n / 65536 % 256:Nat))(h3:x3=(n / 16777216 % 256:Nat))(w:World):(convert 112 9 (.slice (some ⟨w.heap.size,0,none⟩) 4 4)).run Tryz.prog (w.alloc (.cells #[.int .u8 x0, .int .u8 x1, .int .u8 x2, .int .u8 x3] 5))= .ok (.string (zH0 n)) (w.alloc (.cells #[.int .u8 x0, .int .u8 x1, .int .u8 x2, .int .u8 x3] 5)):=by
 subst h0 h1 h2 h3
 refine run_convert_bytes_back (P:= Tryz.prog) _ 112 9 5 ⟨w.heap.size,0,none⟩ 4 [n.toUInt8,(n / 256).toUInt8,(n / 65536).toUInt8,(n / 16777216).toUInt8] Tryz.underlying112 Tryz.underlying5 Tryz.underlying9 (fun j hj=>?_)
 rw [Addr.add_lit]
 match j,hj with
 | 0,_=>simp
 | 1,_=>simp
 | 2,_=>simp
 | 3,_=>simp
theorem yZ2 (n:Nat)(w:World)(hn:n≤8000000000):
 Calls Tryz.prog 131 #[.int .i64 n] w fun e w' =>e= .returned (.string (zH0 n))∧Below w.heap.size w w' :=by
 have hcv:=xY8 n ((n:Int) % 256) ((n:Int) / 256 % 256) ((n:Int) / 65536 % 256) ((n:Int) / 16777216 % 256) (by omega) (by omega) (by omega) (by omega) w
 have hb:=zA0 w (.cells #[.int .u8 ((n:Int) % 256), .int .u8 ((n:Int) / 256 % 256), .int .u8 ((n:Int) / 65536 % 256), .int .u8 ((n:Int) / 16777216 % 256)] 5)
 go_enter Tryz.func131, Tryz.ntmps131
 go_wp2_with fail
 go_ret
 exact ⟨rfl,hb⟩
open Go.RowKit Go.Sort
def yY0 :UInt8 × ByteArray × Bool:=(0,⟨#[]⟩,false)
def zM4 (s:ByteArray)(num:Nat)(k x y:UInt8):UInt8 × ByteArray × Bool:=
 if ((s.extract 1 5).toList==(zH0 num).toList)=false then yY0
 else if ((k.toNat:Int)==111)=false∧((k.toNat:Int)==99)=false then yY0
 else if 33<x.toNat+256 * y.toNat then yY0
 else (k,s.extract 7 (7+(x.toNat+256 * y.toNat)),true)
def zP2 (s:ByteArray)(num:Nat):UInt8 × ByteArray × Bool:=if h:s.size=40 then zM4 s num (s[0]'(by omega)) (s[5]'(by omega)) (s[6]'(by omega)) else yY0
structure LogAt (w:World) (lb:Nat) (L:Dk) (fr many first next:Nat):Prop where
 box:w.heap[lb]?=some (.cells #[.pointer (some ⟨L.b,0,none⟩), .int .i64 fr, .int .i64 many, .int .i64 first, .int .i64 next] 182 (0,0))
section
variable {w:World} {lb:Nat} {L:Dk} {fr many first next:Nat}
theorem LogAt.c0 (h:LogAt w lb L fr many first next):w.cell? ⟨lb,0,none⟩=some (.pointer (some ⟨L.b,0,none⟩)):=by simp [World.cell?,h.box]
theorem LogAt.c1 (h:LogAt w lb L fr many first next):w.cell? ⟨lb,1,none⟩=some (.int .i64 fr):=by simp [World.cell?,h.box]
theorem LogAt.c2 (h:LogAt w lb L fr many first next):w.cell? ⟨lb,2,none⟩=some (.int .i64 many):=by simp [World.cell?,h.box]
theorem LogAt.c3 (h:LogAt w lb L fr many first next):w.cell? ⟨lb,3,none⟩=some (.int .i64 first):=by simp [World.cell?,h.box]
theorem LogAt.c4 (h:LogAt w lb L fr many first next):w.cell? ⟨lb,4,none⟩=some (.int .i64 next):=by simp [World.cell?,h.box]
theorem LogAt.below {w' :World}(h:LogAt w lb L fr many first next)(hb:Below w.heap.size w w'):LogAt w' lb L fr many first next:=⟨by rw [hb.block _ (Array.getElem?_eq_some_iff.1 h.box).1];exact h.box⟩
end
theorem uO0 (lb:Nat)(L:Dk)(D:DiskS)(fr many first next i:Nat)(s:ByteArray)(w:World)(hl:LogAt w lb L fr many first next)(h:DiskAt w L D)(hd:D.down=false)(hi:fr+i<D.now.length)(hs:D.now[fr+i]=s)(h40:s.size=40)(hN:D.now.length≤60)(hf:first≤5000000000):
 Calls Tryz.prog 130 #[.pointer (some ⟨lb,0,none⟩), .int .i64 i] w fun e w' =>e= .returned (.tuple #[.int .u8 (zP2 s (first+i)).1.toNat, .string (zP2 s (first+i)).2.1, .bool (zP2 s (first+i)).2.2])∧Below w.heap.size w w' :=by
 have CR:Hid (∀W,Below w.heap.size w W→Calls Tryz.prog 90 #[.pointer (some ⟨L.b,0,none⟩), .int .i64 ((fr:Int)+i)] W fun e w' =>e= .returned (.tuple #[.string s, .nilIface])∧Below W.heap.size W w'):=hid fun W hb=>by
  have:=xG0 L D ((fr+i:Nat):Int) W (h.below hb)
  rw [yY9 hd _ hi,hs] at this
  refine Calls.mono (by simpa [zE6] using this) ?_
  rintro e w' ⟨h1,rfl⟩
  exact ⟨h1,Below.refl _ _⟩
 have CF:∀W,Calls Tryz.prog 131 #[.int .i64 ((first:Int)+i)] W fun e w' =>e= .returned (.string (zH0 (first+i)))∧Below W.heap.size W w' :=fun W=>by
  have:=yZ2 (first+i) W (by omega)
  simpa using this
 replace CF:=hid CF
 have l0:=hl.c0
 have l1:=hl.c1
 have l3:=hl.c3
 have hi2:fr+i≤60:=by omega
 have HL:=hid hl
 clear h hd hs hi hN hl
 obtain ⟨k,hk⟩:∃k,k=s[0]'(by omega):=⟨_,rfl⟩
 obtain ⟨x,hx⟩:∃k,k=s[5]'(by omega):=⟨_,rfl⟩
 obtain ⟨y,hy⟩:∃k,k=s[6]'(by omega):=⟨_,rfl⟩
 have hL:zP2 s (first+i)=zM4 s (first+i) k x y:=by unfold zP2;rw [dif_pos h40,hk,hx,hy]
 have HK:=hid hk
 have HX:=hid hx
 have HY:=hid hy
 clear hk hx hy
 have hxb:x.toNat≤255:=by have:=x.toNat_lt;omega
 have hyb:y.toNat≤255:=by have:=y.toNat_lt;omega
 have hkb:k.toNat≤255:=by have:=k.toNat_lt;omega
 rw [hL]
 clear hL
 obtain ⟨R,hR⟩:∃R,R=zM4 s (first+i) k x y:=⟨_,rfl⟩
 rw [←hR]
 have HR:=hid hR
 clear hR
 have l0r:=zA4 (w:=w) l0
 have l1r:=zA4 (w:=w) l1
 have l3r:=zA4 (w:=w) l3
 go_enter Tryz.func130, Tryz.ntmps130
 go_wp2_with fail
 refine zA6 (by kernel_rfl) (by kernel_rfl) ?_
 repeat (go_big_quiet_step (first
  | (go_at_call 90;exact Calls.regrown_of (CR.out _ (below_regrown _ _ _)))))
 refine wpQuiet_nil ?_
 intro w1 hb1
 have HB1:=hid hb1
 have m3:=zA4 (HL.out.below hb1).c3
 clear hb1 l0 l1 l3 l0r l1r l3r
 have b0:s[0].toNat≤255:=by rw [←HK.out];exact hkb
 have b5:s[5].toNat≤255:=by rw [←HX.out];exact hxb
 have b6:s[6].toNat≤255:=by rw [←HY.out];exact hyb
 cases hA:((s.extract 1 5).toList==(zH0 (first+i)).toList)
 · go_wp2_with fail
   refine zA6 (by kernel_rfl) (by kernel_rfl) ?_
   repeat (go_big_quiet_step (first
    | (go_at_call 131;exact Calls.regrown_of (CF.out _))))
   refine wpQuiet_nil ?_
   intro w2 hb2
   have HB2:=hid (two HB1.out hb2)
   clear hb2 m3
   go_wp2_with fail
   refine bodyPost_ret (v:= .tuple #[.int .u8 0, .string ⟨#[]⟩, .bool false]) (by simp [results, Tryz.results130,go_sem]) rfl ?_
   exact ⟨by rw [HR.out,zM4,if_pos hA];rfl,HB2.out⟩
 cases hk1:((k.toNat:Int)==111)
 · cases hk2:((k.toNat:Int)==99)
   · have hk3:((s[0].toNat:Int) != 111)=true:=by rw [←HK.out,bne,hk1];rfl
     have hk4:((s[0].toNat:Int) != 99)=true:=by rw [←HK.out,bne,hk2];rfl
     go_wp2_with fail
     refine zA6 (by kernel_rfl) (by kernel_rfl) ?_
     repeat (go_big_quiet_step (first
      | (go_at_call 131;exact Calls.regrown_of (CF.out _))))
     refine wpQuiet_nil ?_
     intro w2 hb2
     have HB2:=hid (two HB1.out hb2)
     clear hb2 m3
     go_wp2_with fail
     refine bodyPost_ret (v:= .tuple #[.int .u8 0, .string ⟨#[]⟩, .bool false]) (by simp [results, Tryz.results130,go_sem]) rfl ?_
     exact ⟨by rw [HR.out,zM4,if_neg (by simp [hA]),if_pos ⟨hk1,hk2⟩];rfl,HB2.out⟩
   · have hk3:((s[0].toNat:Int) != 111)=true:=by rw [←HK.out,bne,hk1];rfl
     have hk4:((s[0].toNat:Int) != 99)=false:=by rw [←HK.out,bne,hk2];rfl
     go_wp2_with fail
     refine zA6 (by kernel_rfl) (by kernel_rfl) ?_
     repeat (go_big_quiet_step (first
      | (go_at_call 131;exact Calls.regrown_of (CF.out _))))
     refine wpQuiet_nil ?_
     intro w2 hb2
     have HB2:=hid (two HB1.out hb2)
     clear hb2 m3
     go_wp2_with fail
     go_region
     have HB3:=hid HB2.out.drew
     obtain ⟨W3,hW3⟩:∃W3,W3=w2.drew:=⟨_,rfl⟩
     rw [←hW3] at HB3 ⊢
     clear hW3
     by_cases hn:33<x.toNat+256 * y.toNat
     · have hn1:(33:Int)<((s[5].toNat:Int)+256 * (s[6].toNat:Int)):=by rw [←HX.out,←HY.out];omega
       go_wp2_with fail
       refine bodyPost_ret (v:= .tuple #[.int .u8 0, .string ⟨#[]⟩, .bool false]) (by simp [results, Tryz.results130,go_sem]) rfl ?_
       exact ⟨by rw [HR.out,zM4,if_neg (by simp [hA]),if_neg (by simp [hk1,hk2]),if_pos hn];rfl,HB3.out⟩
     · have hn1:¬(33:Int)<((s[5].toNat:Int)+256 * (s[6].toNat:Int)):=by rw [←HX.out,←HY.out];omega
       go_wp2_with fail
       go_region
       have hN:zM4 s (first+i) k x y=(k,s.extract 7 (7+(x.toNat+256 * y.toNat)),true):=by rw [zM4,if_neg (by simp [hA]),if_neg (by simp [hk1,hk2]),if_neg hn]
       have HB4:=hid HB3.out.drew
       go_wp2_with fail
       refine bodyPost_ret (v:= .tuple #[.int .u8 k.toNat, .string (s.extract 7 (7+(x.toNat+256 * y.toNat))), .bool true]) (by simp [results, Tryz.results130,go_sem,HK.out,HX.out,HY.out]) rfl ?_
       exact ⟨by rw [HR.out,hN],HB4.out⟩
 · have hk3:((s[0].toNat:Int) != 111)=false:=by rw [←HK.out,bne,hk1];rfl
   go_wp2_with fail
   refine zA6 (by kernel_rfl) (by kernel_rfl) ?_
   repeat (go_big_quiet_step (first
    | (go_at_call 131;exact Calls.regrown_of (CF.out _))))
   refine wpQuiet_nil ?_
   intro w2 hb2
   have HB2:=hid (two HB1.out hb2)
   clear hb2 m3
   go_wp2_with fail
   go_region
   have HB3:=hid HB2.out.drew
   obtain ⟨W3,hW3⟩:∃W3,W3=w2.drew:=⟨_,rfl⟩
   rw [←hW3] at HB3 ⊢
   clear hW3
   by_cases hn:33<x.toNat+256 * y.toNat
   · have hn1:(33:Int)<((s[5].toNat:Int)+256 * (s[6].toNat:Int)):=by rw [←HX.out,←HY.out];omega
     go_wp2_with fail
     refine bodyPost_ret (v:= .tuple #[.int .u8 0, .string ⟨#[]⟩, .bool false]) (by simp [results, Tryz.results130,go_sem]) rfl ?_
     exact ⟨by rw [HR.out,zM4,if_neg (by simp [hA]),if_neg (by simp [hk1]),if_pos hn];rfl,HB3.out⟩
   · have hn1:¬(33:Int)<((s[5].toNat:Int)+256 * (s[6].toNat:Int)):=by rw [←HX.out,←HY.out];omega
     go_wp2_with fail
     go_region
     have hN:zM4 s (first+i) k x y=(k,s.extract 7 (7+(x.toNat+256 * y.toNat)),true):=by rw [zM4,if_neg (by simp [hA]),if_neg (by simp [hk1]),if_neg hn]
     have HB4:=hid HB3.out.drew
     go_wp2_with fail
     refine bodyPost_ret (v:= .tuple #[.int .u8 k.toNat, .string (s.extract 7 (7+(x.toNat+256 * y.toNat))), .bool true]) (by simp [results, Tryz.results130,go_sem,HK.out,HX.out,HY.out]) rfl ?_
     exact ⟨by rw [HR.out,hN],HB4.out⟩
open Go.RowKit Go.Sort
def zX1 (first i:Nat)(s:ByteArray)(out:List (List Change))(deed:List Change)(used:Nat):Option (List (List Change) × List Change × Nat):=
 if (zP2 s (first+i)).2.2=false then none
 else if ((zP2 s (first+i)).1.toNat:Int)==99 then (if ((zP2 s (first+i)).2.1.toList==(zH0 deed.length).toList) then some (out++ [deed], [],i+1) else none)
 else if (zH4 (zP2 s (first+i)).2.1).2≠0 then none else some (out,deed++ [(zH4 (zP2 s (first+i)).2.1).1],used)
def zC4 (first:Nat):List ByteArray→Nat→List (List Change)→List Change→Nat→List (List Change) × Nat
 | [],_,out,_,used=>(out,used)
 | s::r,i,out,deed,used=>match zX1 first i s out deed used with
  | none=>(out,used)
  | some (o,d,u)=>zC4 first r (i+1) o d u
theorem vH5 (first:Nat)(l:List ByteArray)(k:Nat)(o d u)(h:¬k<l.length):zC4 first (l.drop k) k o d u=(o,u):=by
 rw [List.drop_eq_nil_of_le (by omega)];rfl
theorem yI2 (first:Nat)(l:List ByteArray)(k:Nat)(o d u)(h:k<l.length)(hs:zX1 first k l[k] o d u=none):zC4 first (l.drop k) k o d u=(o,u):=by
 rw [List.drop_eq_getElem_cons h,zC4,hs]
theorem yW8 (first:Nat)(l:List ByteArray)(k:Nat)(o d u)(o' d' u')(h:k<l.length)(hs:zX1 first k l[k] o d u=some (o',d',u')):zC4 first (l.drop k) k o d u=zC4 first (l.drop (k+1)) (k+1) o' d' u' :=by
 rw [List.drop_eq_getElem_cons h,zC4,hs]
theorem xD2 {w:World}{b1 b2 k1 k2 n1 n2:Nat}{e1 e2:TypeId}{v1 v2:Value}{x1 x2:List Value}(h1:w.ownsRow b1 e1 k1 v1 n1 x1)(h2:w.ownsRow b2 e2 k2 v2 n2 x2)(he:e1≠e2):v1.ownBlock=none∨v1.ownBlock≠v2.ownBlock:=by
 rcases h1.2 with ⟨rfl,_⟩ | ⟨g,c,cur,rfl,_,hg,_⟩
 · exact Or.inl rfl
 · right
   rcases h2.2 with ⟨rfl,_⟩ | ⟨g',c',cur',rfl,_,hg',_⟩
   · simp [Value.ownBlock]
   · intro e
     simp [Value.ownBlock] at e
     rw [e,hg'] at hg
     simp at hg
     exact he hg.2.symm
theorem I_deeds :zQ3 Tryz.prog 149 34 1 24:=zO4 (z:= .slice none 0 0) Tryz.underlying149 (by kernel_rfl) rfl (by decide) (by decide)
structure OutAt (base b:Nat) (w:World) (ov:Value) (vs:List Value) (ds:List (List Change)):Prop where
 own:w.ownsRow base 34 1 ov vs.length vs
 len:vs.length=ds.length
 each:∀i (h:i<vs.length) (h' :i<ds.length),w.ownsRow base 109 3 vs[i] ds[i].length (ds[i].flatMap Change.cells)
 low:∀v∈vs,∀p,v.ownBlock=some p→p<b
section
variable {base b:Nat} {w w' :World} {ov:Value} {vs:List Value} {ds:List (List Change)}
theorem OutAt.nil (base b:Nat)(w:World):OutAt base b w (.slice none 0 0) [] []:=⟨World.ownsRow_nil _ _ _ _,rfl,fun i h=>by simp at h,fun v h=>by simp at h⟩
theorem OutAt.quiet (h:OutAt base b w ov vs ds)(hg:w.grownBy w' none):OutAt base b w' ov vs ds:=
 ⟨h.own.kept hg (by cases ov.ownBlock <;> simp),h.len,fun i a c=>(h.each i a c).kept hg (by cases Value.ownBlock _ <;> simp),h.low⟩
theorem OutAt.add {dv:Value}{n:Nat}{xs:List Value}(h:OutAt base b w ov vs ds)(hd:w.ownsRow b 109 3 dv n xs)(hg:w.grownBy w' dv.ownBlock):OutAt base b w' ov vs ds:=by
 refine ⟨h.own.kept hg (xD2 h.own hd (by decide)),h.len,fun i a c=>(h.each i a c).kept hg ?_,h.low⟩
 by_cases hn:vs[i].ownBlock=none
 · exact Or.inl hn
 · right
   intro e
   obtain ⟨p,hp⟩:=Option.ne_none_iff_exists'.1 hn
   have h1:=h.low _ (List.getElem_mem a) p hp
   have h2:=(hd.lt p (by rw [←e,hp])).1
   omega
theorem OutAt.push {dv ov' :Value}{d:List Change}(h:OutAt base b w ov vs ds)(hb:base≤b)(hd:w.ownsRow b 109 3 dv d.length (d.flatMap Change.cells))(ho:w'.ownsRow base 34 1 ov' (vs.length+1) (vs++ [dv]))(hg:w.grownBy w' ov.ownBlock):OutAt base w'.heap.size w' ov' (vs++ [dv]) (ds++ [d]):=by
 have hk:w'.ownsRow b 109 3 dv d.length (d.flatMap Change.cells):=hd.kept hg (xD2 hd h.own (by decide))
 refine ⟨by simpa using ho,by simp [h.len],fun i a c=>?_,fun v hv p hp=>?_⟩
 · by_cases hi:i<vs.length
   · have hi' :i<ds.length:=by have:=h.len;omega
     rw [List.getElem_append_left hi,List.getElem_append_left hi']
     exact (h.each i hi hi').kept hg (xD2 (h.each i hi hi') h.own (by decide))
   · have e1:i=vs.length:=by simp at a;omega
     have e2:i=ds.length:=by have:=h.len;omega
     have g1:(vs++ [dv])[i]=dv:=by simp [e1]
     have g2:(ds++ [d])[i]=d:=by simp [e2]
     rw [g1,g2]
     refine ⟨hk.1,?_⟩
     rcases hk.2 with hz | ⟨g,cap,cur,r1,r2,r3⟩
     · exact Or.inl hz
     · exact Or.inr ⟨g,cap,cur,r1,by omega,r3⟩
 · rw [List.mem_append] at hv
   rcases hv with hv | hv
   · obtain ⟨i,hi,rfl⟩:=List.getElem_of_mem hv
     have hi' :i<ds.length:=by have:=h.len;omega
     have:=((h.each i hi hi').lt p hp).2
     have:=hg.size
     omega
   · simp at hv
     subst hv
     exact (hk.lt p hp).2
end
def far (F:Nat→Prop)(v:Value):Prop:=∀a n c,v= .slice (some a) n c→0<n→¬F a.block
structure RdF {α:Type} (F:Nat→Prop) (k:Nat) (enc:α→List Value) (w:World) (v:Value) (l:List α):Prop where
 rd:Rd k enc w v l
 far:far F v
section
variable {α:Type} {F G:Nat→Prop} {k:Nat} {enc:α→List Value} {w w' :World} {v:Value} {l:List α}
theorem RdF.off (h:RdF F k enc w v l)(hO:Off F w w'):RdF F k enc w' v l:=by
 obtain ⟨⟨h1,ao,cap,h2,h3,h4,h5,h6⟩,hf⟩:=h
 refine ⟨⟨h1,ao,cap,h2,h3,h4,h5,fun j u hj=>?_⟩,hf⟩
 obtain ⟨b,off,e,hc⟩:=h6 j u hj
 have hn:0<l.length:=by
  have:=(List.getElem?_eq_some_iff.1 hj).1
  rw [h1] at this
  exact Nat.pos_of_ne_zero (fun e=>by rw [e] at this;simp at this)
 exact ⟨b,off,e,hO.cell hc (hf _ _ _ (by rw [h2,e]) hn)⟩
theorem RdF.below (h:RdF F k enc w v l)(hb:Below w.heap.size w w'):RdF F k enc w' v l:=⟨h.rd.below hb,h.far⟩
theorem RdF.moved (h:RdF F k enc w v l)(hk:0<k)(hG:∀x,G x→F x∨w.heap.size≤x):RdF G k enc w v l:=by
 refine ⟨h.rd,fun a n c hv hn hg=>?_⟩
 obtain ⟨h1,ao,cap,h2,h3,h4,h5,h6⟩:=h.rd
 rw [h2] at hv
 simp only [Value.slice.injEq] at hv
 obtain ⟨rfl,rfl,rfl⟩:=hv
 have hc:0<(l.flatMap enc).length:=by rw [h1];exact Nat.mul_pos hn hk
 obtain ⟨b,off,e,hcell⟩:=h6 0 _ (List.getElem?_eq_getElem hc)
 have hlt:=World.block_lt_of_cell? w _ hcell
 simp only [Option.some.injEq] at e
 subst e
 rcases hG _ hg with h' | h'
 · exact h.far _ _ _ h2 hn h'
 · have:b<w.heap.size:=hlt
   have h'' :w.heap.size≤b:=h'
   omega
theorem RdF.turned (h:RdF F k enc w v l)(hk:0<k)(hO:Off F w w')(hG:∀x,G x→F x∨w.heap.size≤x):RdF G k enc w' v l:=⟨(h.off hO).rd,(h.moved hk hG).far⟩
theorem Rd.outside (h:Rd k enc w v l)(hk:0<k)(hF:∀x,F x→w.heap.size≤x):RdF F k enc w v l:=
 RdF.moved (F:=fun _=>False) ⟨h,fun _ _ _ _ _ h=>h⟩ hk (fun x hx=>Or.inr (hF x hx))
end
abbrev ChangesF (F:Nat→Prop):=RdF F 3 Change.cells
def Deeds (F:Nat→Prop)(w:World)(v:Value)(ds:List (List Change)):Prop:=∃vs:List Value,RdF F 1 (fun x:Value=> [x]) w v vs∧vs.length=ds.length∧∀i (h:i<vs.length) (h' :i<ds.length),ChangesF F w vs[i] ds[i]
theorem Deeds.below {F:Nat→Prop}{w w' :World}{v:Value}{ds:List (List Change)}(h:Deeds F w v ds)(hb:Below w.heap.size w w'):Deeds F w' v ds:=by
 obtain ⟨vs,h1,h2,h3⟩:=h
 exact ⟨vs,h1.below hb,h2,fun i a c=>(h3 i a c).below hb⟩
theorem Deeds.turned {F G:Nat→Prop}{w w' :World}{v:Value}{ds:List (List Change)}(h:Deeds F w v ds)(hO:Off F w w')(hG:∀x,G x→F x∨w.heap.size≤x):Deeds G w' v ds:=by
 obtain ⟨vs,h1,h2,h3⟩:=h
 exact ⟨vs,h1.turned (by decide) hO hG,h2,fun i a c=>(h3 i a c).turned (by decide) hO hG⟩
theorem yM8 {w:World}{base e k n:Nat}{v:Value}{xs:List Value}(h:w.ownsRow base e k v n xs):far (fun x=>x<base) v:=by
 intro a m c hv _ hlt
 have:=(h.lt a.block (by rw [hv];rfl)).1
 have h2:a.block<base:=hlt
 omega
theorem vG1 (vs:List Value):vs.flatMap (fun x=> [x])=vs:=by induction vs with | nil=>rfl | cons a r ih=>simp [List.flatMap_cons,ih]
open Go.RowKit Go.Sort
theorem vS0 (s:ByteArray)(num:Nat):(zP2 s num).2.1.size≤40:=by
 unfold zP2
 split
 · unfold zM4
   split
   · exact (by decide:yY0.2.1.size≤40)
   · split
     · exact (by decide:yY0.2.1.size≤40)
     · split
       · exact (by decide:yY0.2.1.size≤40)
       · dsimp only
         rw [ByteArray.size_extract]
         omega
 · exact (by decide:yY0.2.1.size≤40)
def zB1 (D:DiskS)(fr many:Nat):List ByteArray:=(D.now.drop fr).take many
theorem zJ7 {D:DiskS}{fr many:Nat}(h:fr+many≤D.now.length):(zB1 D fr many).length=many:=by simp [zB1];omega
theorem xB7 {D:DiskS}{fr many:Nat}(h:fr+many≤D.now.length)(k:Nat)(hk:k<(zB1 D fr many).length):(zB1 D fr many)[k]=D.now[fr+k]'(by rw [zJ7 h] at hk;omega):=by simp [zB1]
theorem vX6 {dv:Value}{w:World}{b e k n:Nat}{xs:List Value}(h:w.ownsRow b e k dv n xs):dv.oneCell' =true:=by
 rcases h.2 with ⟨rfl,_⟩ | ⟨g,c,cur,rfl,_⟩ <;> rfl
theorem zD4 {dv:Value}{w:World}{b e k n:Nat}{xs:List Value}(h:w.ownsRow b e k dv n xs):∃a c,dv= .slice a n c∧n≤c∧c≤9223372036854775807:=by
 rcases h.2 with ⟨rfl,rfl⟩ | ⟨g,c,cur,rfl,_,_,h1,h2,_⟩
 · exact ⟨none,0,rfl,Nat.le_refl _,by decide⟩
 · exact ⟨_,c,rfl,h1,h2⟩
theorem LogAt.store {w:World}{lb:Nat}{L:Dk}{fr many first next:Nat}(h:LogAt w lb L fr many first next)(n:Nat):LogAt (w.setCell ⟨lb,4,none⟩ (.int .i64 n)) lb L fr many first n:=⟨by rw [zA3 _ _ _ _ h.box];rfl⟩
theorem LogAt.f4 {w:World}{lb:Nat}{L:Dk}{fr many first next:Nat}(h:LogAt w lb L fr many first next):w.frozen? ⟨lb,4,none⟩=false:=by simp [World.frozen?,h.box]
theorem LogAt.grown {w w' :World}{lb:Nat}{L:Dk}{fr many first next base e k n:Nat}{v:Value}{xs:List Value}(h:LogAt w lb L fr many first next)(ho:w.ownsRow base e k v n xs)(he: 182≠e)(hg:w.grownBy w' v.ownBlock):LogAt w' lb L fr many first next:=⟨by
 have hb:=h.box
 have hlt:=(Array.getElem?_eq_some_iff.1 hb).1
 rw [hg.block lb hlt ?_]
 · exact hb
 · rcases ho.2 with ⟨rfl,_⟩ | ⟨g,c,cur,rfl,_,hgg,_⟩
   · simp [Value.ownBlock]
   · intro e2
     simp [Value.ownBlock] at e2
     rw [←e2,hb] at hgg
     simp at hgg
     exact he hgg.2⟩
theorem xW6 (w:World)(b o:Nat)(u:Value):w.grownBy (w.setCell ⟨b,o,none⟩ u) (some b):=
 ⟨rfl,rfl,rfl,by simp,fun k hk hne=>heap_setCell_other w _ k _ (fun e=>hne (by rw [e]))⟩
theorem yD1 {w:World}{lb:Nat}{L:Dk}{fr many first next base e k n:Nat}{v:Value}{xs:List Value}(h:LogAt w lb L fr many first next)(ho:w.ownsRow base e k v n xs)(he: 182≠e):v.ownBlock=none∨v.ownBlock≠some lb:=by
 rcases ho.2 with ⟨rfl,_⟩ | ⟨g,c,cur,rfl,_,hgg,_⟩
 · exact Or.inl rfl
 · right
   intro e2
   simp [Value.ownBlock] at e2
   rw [e2,h.box] at hgg
   simp at hgg
   exact he hgg.2
theorem OutAt.stored {base b:Nat}{w:World}{ov:Value}{vs:List Value}{ds:List (List Change)}{lb:Nat}{L:Dk}{fr many first next:Nat}(h:OutAt base b w ov vs ds)(hl:LogAt w lb L fr many first next)(u:Value):OutAt base b (w.setCell ⟨lb,4,none⟩ u) ov vs ds:=
 ⟨h.own.kept (xW6 w lb 4 u) (yD1 hl h.own (by decide)),h.len,fun i a c=>(h.each i a c).kept (xW6 w lb 4 u) (yD1 hl (h.each i a c) (by decide)),h.low⟩
theorem far_or {base lb:Nat}{v:Value}(h:far (fun x=>x<base) v)(h2:v.ownBlock=none∨v.ownBlock≠some lb):far (fun x=>x<base∨x=lb) v:=by
 intro a n c hv hn hf
 rcases hf with hf | hf
 · exact h a n c hv hn hf
 · subst hv
   rcases h2 with h2 | h2
   · simp [Value.ownBlock] at h2
   · exact h2 (by rw [←hf];rfl)
theorem OutAt.deedsL {base b:Nat}{w:World}{ov:Value}{vs:List Value}{ds:List (List Change)}{lb:Nat}{L:Dk}{fr many first next:Nat}(h:OutAt base b w ov vs ds)(hl:LogAt w lb L fr many first next):Deeds (fun x=>x<base∨x=lb) w ov ds:=
 ⟨vs,⟨by have:=SL.of_own h.own;rwa [Rd,vG1],far_or (yM8 h.own) (yD1 hl h.own (by decide))⟩,h.len,fun i a c=>⟨SL.of_own (h.each i a c),far_or (yM8 (h.each i a c)) (yD1 hl (h.each i a c) (by decide))⟩⟩
theorem vL1 (L:Dk)(D:DiskS)(fr many first:Nat)(w:World)(h:DiskAt w L D)(hd:D.down=false)(hok:D.ok)(h40:∀s∈D.now,s.size=40)(hm:1≤many)(hfm:fr+many≤D.now.length)(hf1:1≤first)(hf:first≤5000000000):
 Calls Tryz.prog 93 #[.pointer (some ⟨L.b,0,none⟩), .int .i64 fr, .int .i64 many, .int .i64 first] w fun e w' =>∃lb v,e= .returned (.tuple #[.pointer (some ⟨lb,0,none⟩),v, .nilIface])∧LogAt w' lb L fr many first (zC4 first (zB1 D fr many) 0 [] [] 0).2∧w.heap.size≤lb∧Deeds (fun x=>x<w.heap.size∨x=lb) w' v (zC4 first (zB1 D fr many) 0 [] [] 0).1∧Below w.heap.size w w' :=by
 have hN:=hok.few
 have CS:=hid (zM8 L D w h)
 have CD:=hid (xY4 L D w h)
 rw [hd] at CD
 obtain ⟨S,hS⟩:∃S,S=zB1 D fr many:=⟨_,rfl⟩
 have hSl:S.length=many:=by rw [hS];exact zJ7 hfm
 have CLK:Hid (∀(W:World) (lb next k:Nat) (hk:k<S.length),LogAt W lb L fr many first next→Below w.heap.size w W→Calls Tryz.prog 130 #[.pointer (some ⟨lb,0,none⟩), .int .i64 k] W fun e w' =>e= .returned (.tuple #[.int .u8 (zP2 S[k] (first+k)).1.toNat, .string (zP2 S[k] (first+k)).2.1, .bool (zP2 S[k] (first+k)).2.2])∧Below W.heap.size W w'):=hid fun W lb next k hk hlg hb=>by
  subst hS
  have hk2:k<many:=by rw [hSl] at hk;exact hk
  refine uO0 lb L D fr many first next k _ W hlg (h.below hb) hd (by omega) (xB7 hfm k hk).symm ?_ hN hf
  rw [xB7 hfm k hk]
  exact h40 _ (List.getElem_mem _)
 rw [←hS]
 have HS:=hid hSl
 clear h hd hok h40 hS hSl
 have hmany:many≤60:=by omega
 have hsub:((D.now.length:Int) - many)=((D.now.length - many:Nat):Int):=by omega
 obtain ⟨N,hNN⟩:∃N,N=D.now.length:=⟨_,rfl⟩
 rw [←hNN] at CS hN hfm hsub
 clear hNN
 obtain ⟨W1,hW1⟩:∃W1,W1=w.alloc (.cells #[.pointer (some ⟨L.b,0,none⟩), .int .i64 fr, .int .i64 many, .int .i64 first, .int .i64 0] 182):=⟨_,rfl⟩
 have HL1:Hid (LogAt W1 w.heap.size L fr many first 0):=hid (by rw [hW1];exact ⟨heap_alloc_new w _⟩)
 have HB1:Hid (Below w.heap.size w W1):=hid (by rw [hW1];exact zA0 w _)
 have HW1:=hid hW1
 have hz1:w.heap.size+1=W1.heap.size:=by rw [hW1];simp
 have HZ1:=hid hz1
 clear hW1 hz1
 go_enter Tryz.func93, Tryz.ntmps93
 go_wp2_with fail
 refine CS.out.mono ?_
 rintro e wa ⟨rfl,hwa⟩
 replace hwa:=hwa.symm
 subst hwa
 go_wp2_with fail
 refine CS.out.mono ?_
 rintro e wa ⟨rfl,hwa⟩
 replace hwa:=hwa.symm
 subst hwa
 go_wp2_with fail
 refine CD.out.mono ?_
 rintro e wa ⟨rfl,hwa⟩
 replace hwa:=hwa.symm
 subst hwa
 go_wp2_with fail
 rw [←HW1.out]
 go_loopw [12,13,55] (fun ov dv iv wr=>∃(k b:Nat) (o:List (List Change)) (d:List Change) (u:Nat) (vs:List Value),k≤many∧iv= .int .i64 k∧zC4 first (S.drop k) k o d u=zC4 first S 0 [] [] 0∧OutAt w.heap.size b wr ov vs o∧wr.ownsRow b 109 3 dv d.length (d.flatMap Change.cells)∧w.heap.size≤b∧b≤wr.heap.size∧LogAt wr w.heap.size L fr many first u∧Below w.heap.size w wr∧o.length≤k∧d.length≤k) (fun _ _ iv _=>many - (intOf iv).toNat)
 case atStart=>exact ⟨0,W1.heap.size, [], [],0, [],Nat.zero_le _,rfl,rfl,OutAt.nil _ _ _,World.ownsRow_nil _ _ _ _,by have:=HB1.out.size;omega,Nat.le_refl _,HL1.out,HB1.out,by simp,by simp⟩
 case round=>
  obtain ⟨k,b,o,d,u,vs,hk,rfl,hclo,hout,hdv,hb1,hb2,hlog,hbw,hol,hdl⟩:=hrel
  have hov:=zD4 hout.own
  obtain ⟨oa,oc,rfl,hoc,hoc'⟩:=hov
  obtain ⟨da,dc,rfl,hdc,hdc'⟩:=zD4 hdv
  have hvl:vs.length=o.length:=hout.len
  have HVL:=hid hvl
  have HCLO:=hid hclo
  have HOUT:=hid hout
  have HDV:=hid hdv
  have HLOG:=hid hlog
  have HBW:=hid hbw
  have HB12:Hid (w.heap.size≤b∧b≤wr.heap.size):=hid ⟨hb1,hb2⟩
  clear hclo hout hdv hlog hbw hvl hb1 hb2
  by_cases hlt:k<many
  · have hkS:k<S.length:=by rw [HS.out];exact hlt
    obtain ⟨s,hs⟩:∃s,s=S[k]:=⟨_,rfl⟩
    have CL:=CLK.out wr w.heap.size u k hkS HLOG.out HBW.out
    rw [←hs] at CL
    obtain ⟨⟨kd,t,is⟩,hr⟩:∃r,r=zP2 s (first+k):=⟨_,rfl⟩
    rw [←hr] at CL
    dsimp only at CL
    have ht40:t.size≤40:=by have:=vS0 s (first+k);rw [←hr] at this;exact this
    have hkd:kd.toNat≤255:=by have:=kd.toNat_lt;omega
    have HSTEP:Hid (zX1 first k S[k] o d u=if is=false then none else if ((kd.toNat:Int)==99) then (if (t.toList==(zH0 d.length).toList) then some (o++ [d], [],k+1) else none) else if (zH4 t).2≠0 then none else some (o,d++ [(zH4 t).1],u)):=hid (by rw [←hs,zX1,←hr])
    replace CL:=hid CL
    have CF:=hid fun W=>yZ2 d.length W (by omega)
    have CP:=fun W=>vZ2 t W (by omega)
    clear hs hr
    go_wp2_with fail
    refine CL.out.mono ?_
    rintro e w2 ⟨rfl,hb2⟩
    have HG2:Hid (wr.grownBy w2 none):=hid (⟨hb2.os,hb2.tape,hb2.output,hb2.size,fun j hj _=>hb2.block j hj⟩)
    have HOUT2:=hid (HOUT.out.quiet HG2.out)
    have HDV2:=hid (HDV.out.kept HG2.out (by cases Value.ownBlock _ <;> simp))
    have HLOG2:=hid (HLOG.out.below hb2)
    have HBW2:=hid (two HBW.out hb2)
    have HZ2:Hid (wr.heap.size≤w2.heap.size):=hid hb2.size
    clear hb2
    cases is
    · have HE:Hid (zC4 first S 0 [] [] 0=(o,u)):=hid (by rw [←HCLO.out];exact yI2 first S k o d u hkS (by rw [HSTEP.out];rfl))
      go_wp2_with fail
      refine bodyPost_ret (v:= .tuple #[.pointer (some ⟨w.heap.size,0,none⟩), .slice oa vs.length oc, .nilIface]) (by simp [results, Tryz.results93,go_sem]) rfl ?_
      exact ⟨w.heap.size,_,rfl,by rw [HE.out];exact HLOG2.out,Nat.le_refl _,by rw [HE.out];exact HOUT2.out.deedsL HLOG2.out,HBW2.out⟩
    cases hk9:((kd.toNat:Int)==99)
    · obtain ⟨⟨⟨xk,xv,xg⟩,n2⟩,hp2⟩:∃p,p=zH4 t:=⟨_,rfl⟩
      have HP2:=hid hp2
      simp only [←hp2,Change.val'] at CP
      clear hp2
      replace CP:=hid CP
      go_wp2_with fail
      refine (CP.out _).mono ?_
      rintro e w3 ⟨rfl,hb3⟩
      have HG3:Hid (w2.grownBy w3 none):=hid (⟨hb3.os,hb3.tape,hb3.output,hb3.size,fun j hj _=>hb3.block j hj⟩)
      have HOUT3:=hid (HOUT2.out.quiet HG3.out)
      have HDV3:=hid (HDV2.out.kept HG3.out (by cases Value.ownBlock _ <;> simp))
      have HLOG3:=hid (HLOG2.out.below hb3)
      have HBW3:=hid (two HBW2.out hb3)
      have HZ3:Hid (w2.heap.size≤w3.heap.size):=hid hb3.size
      clear hb3
      obtain ⟨W4,hW4⟩:∃W4,W4=w3.alloc (.cells #[.string xk, .string xv, .bool xg] 109):=⟨_,rfl⟩
      have hb4:Below w3.heap.size w3 W4:=by rw [hW4];exact zA0 _ _
      have HX4:Hid (QXAt W4 w3.heap.size ⟨xk,xv,xg⟩):=hid (by rw [hW4];exact QXAt.new w3 ⟨xk,xv,xg⟩)
      have HW4:=hid hW4
      clear hW4
      have HG4:Hid (w3.grownBy W4 none):=hid (⟨hb4.os,hb4.tape,hb4.output,hb4.size,fun j hj _=>hb4.block j hj⟩)
      have HOUT4:=hid (HOUT3.out.quiet HG4.out)
      have HDV4:=hid (HDV3.out.kept HG4.out (by cases Value.ownBlock _ <;> simp))
      have HLOG4:=hid (HLOG3.out.below hb4)
      have HBW4:=hid (two HBW3.out hb4)
      have HZ4:Hid (w3.heap.size≤W4.heap.size):=hid hb4.size
      clear hb4
      obtain ⟨xb,hxb⟩:∃xb,xb=w3.heap.size:=⟨_,rfl⟩
      have HXB:=hid hxb
      rw [←hxb] at HX4
      clear hxb
      have x0:=HX4.out.c0
      have x1:=HX4.out.c1
      have x2:=HX4.out.c2
      dsimp only at x0 x1 x2
      by_cases hn2:n2=0
      · have he:zE6 n2= .nilIface:=by rw [hn2];rfl
        have HNX:Hid (zX1 first k S[k] o d u=some (o,d++ [⟨xk,xv,xg⟩],u)):=hid (by rw [HSTEP.out,if_neg (by simp),hk9,←HP2.out];simp [hn2])
        clear hn2
        have HOW3:=hid ((HDV3.out.alloc (.cells #[.string xk, .string xv, .bool xg] 109)).alloc (.cells #[.string xk, .string xv, .bool xg] 109))
        go_wp2_with (at_builtin;refine zB8 zN6 rfl _ _ rfl b _ _ _ rfl HOW3.out ⟨w3.heap.size+1,0,none⟩ 1 1 [.string xk, .string xv, .bool xg] rfl rfl ?c1 ?c2 ?c3 ?c4 ?_)
        case c1=>
         intro j u hj
         have h3:=zK5 (w:=w3.alloc (.cells #[.string xk, .string xv, .bool xg] 109)) (t:= 109) j u hj
         rwa [show (w3.alloc (.cells #[.string xk, .string xv, .bool xg] 109)).heap.size=w3.heap.size+1 by simp] at h3
        case c2=>exact zR8 ⟨xk,xv,xg⟩
        case c3=>omega
        case c4=>have:=HB12.out;have:=HZ2.out;have:=HZ3.out;simp;omega
        intro v6 w6 hown6 hg6
        have HOUT6:=hid (((HOUT3.out.quiet (World.grownBy_alloc _ (.cells #[.string xk, .string xv, .bool xg] 109) none)).quiet (World.grownBy_alloc _ (.cells #[.string xk, .string xv, .bool xg] 109) none)).add HOW3.out hg6)
        have HLOG6:=hid (((HLOG3.out.below (zA0 _ (.cells #[.string xk, .string xv, .bool xg] 109))).below (zA0 _ (.cells #[.string xk, .string xv, .bool xg] 109))).grown HOW3.out (by decide) hg6)
        have HBW6:=hid (zB0 (two (two HBW3.out (zA0 _ (.cells #[.string xk, .string xv, .bool xg] 109))) (zA0 _ (.cells #[.string xk, .string xv, .bool xg] 109))) HOW3.out hg6 HB12.out.1)
        have HD6:Hid (w6.ownsRow b 109 3 v6 (d++ [(⟨xk,xv,xg⟩:Change)]).length ((d++ [(⟨xk,xv,xg⟩:Change)]).flatMap Change.cells)):=hid (by simp only [List.flatMap_append,List.length_append,List.flatMap_cons,List.flatMap_nil,List.append_nil,List.length_cons,List.length_nil];exact hown6)
        have HZ6:Hid (b≤w6.heap.size):=hid (by have h1:=hg6.size;have:=HB12.out;have:=HZ2.out;have:=HZ3.out;simp at h1;omega)
        clear hown6 hg6 x0 x1 x2
        go_wp2_with fail
        go_roundw
        case rel=>exact ⟨k+1,b,o,d++ [⟨xk,xv,xg⟩],u,vs,by omega,by go_num,by rw [←HCLO.out];exact (yW8 first S k o d u _ _ _ hkS HNX.out).symm,HOUT6.out,HD6.out,HB12.out.1,HZ6.out,HLOG6.out,HBW6.out,by omega,by simp;omega⟩
        case measure=>simp [intOf];omega
      · have he:zE6 n2= .iface 73 (.int .i64 n2):=zA5 hn2
        have HE:Hid (zC4 first S 0 [] [] 0=(o,u)):=hid (by rw [←HCLO.out];exact yI2 first S k o d u hkS (by rw [HSTEP.out,if_neg (by simp),hk9,←HP2.out];simp [hn2]))
        clear hn2
        go_wp2_with fail
        rw [←HW4.out]
        go_wp2_with fail
        refine bodyPost_ret (v:= .tuple #[.pointer (some ⟨w.heap.size,0,none⟩), .slice oa vs.length oc, .nilIface]) (by simp [results, Tryz.results93,go_sem]) rfl ?_
        exact ⟨w.heap.size,_,rfl,by rw [HE.out];exact HLOG4.out,Nat.le_refl _,by rw [HE.out];exact HOUT4.out.deedsL HLOG4.out,HBW4.out⟩
    · cases hf4:(t.toList==(zH0 d.length).toList)
      · have HE:Hid (zC4 first S 0 [] [] 0=(o,u)):=hid (by rw [←HCLO.out];exact yI2 first S k o d u hkS (by rw [HSTEP.out,if_neg (by simp),hk9,hf4];rfl))
        go_wp2_with fail
        refine (CF.out _).mono ?_
        rintro e w3 ⟨rfl,hb3⟩
        have HG3:Hid (w2.grownBy w3 none):=hid (⟨hb3.os,hb3.tape,hb3.output,hb3.size,fun j hj _=>hb3.block j hj⟩)
        have HOUT3:=hid (HOUT2.out.quiet HG3.out)
        have HDV3:=hid (HDV2.out.kept HG3.out (by cases Value.ownBlock _ <;> simp))
        have HLOG3:=hid (HLOG2.out.below hb3)
        have HBW3:=hid (two HBW2.out hb3)
        have HZ3:Hid (w2.heap.size≤w3.heap.size):=hid hb3.size
        clear hb3
        go_wp2_with fail
        refine bodyPost_ret (v:= .tuple #[.pointer (some ⟨w.heap.size,0,none⟩), .slice oa vs.length oc, .nilIface]) (by simp [results, Tryz.results93,go_sem]) rfl ?_
        exact ⟨w.heap.size,_,rfl,by rw [HE.out];exact HLOG3.out,Nat.le_refl _,by rw [HE.out];exact HOUT3.out.deedsL HLOG3.out,HBW3.out⟩
      · have HNX:Hid (zX1 first k S[k] o d u=some (o++ [d], [],k+1)):=hid (by rw [HSTEP.out,if_neg (by simp),hk9,hf4];rfl)
        go_wp2_with fail
        refine (CF.out _).mono ?_
        rintro e w3 ⟨rfl,hb3⟩
        have HG3:Hid (w2.grownBy w3 none):=hid (⟨hb3.os,hb3.tape,hb3.output,hb3.size,fun j hj _=>hb3.block j hj⟩)
        have HOUT3:=hid (HOUT2.out.quiet HG3.out)
        have HDV3:=hid (HDV2.out.kept HG3.out (by cases Value.ownBlock _ <;> simp))
        have HLOG3:=hid (HLOG2.out.below hb3)
        have HBW3:=hid (two HBW2.out hb3)
        have HZ3:Hid (w2.heap.size≤w3.heap.size):=hid hb3.size
        clear hb3
        go_wp2_with (at_builtin;refine zB8 I_deeds rfl _ _ rfl w.heap.size _ _ _ rfl (HOUT3.out.own.alloc _) ⟨w3.heap.size,0,none⟩ 1 1 [.slice da d.length dc] rfl rfl ?c1 ?c2 ?c3 ?c4 ?_)
        case c1=>exact zL0
        case c2=>intro u hu;simp at hu;subst hu;exact vX6 HDV3.out
        case c3=>have:=HVL.out;omega
        case c4=>have:=HB12.out;have:=HZ2.out;have:=HZ3.out;simp;omega
        intro v6 w6 hown6 hg6
        have HOA:=hid (HOUT3.out.own.alloc (.cells #[.slice da d.length dc] 34))
        have HOUT6:=hid ((HOUT3.out.quiet (World.grownBy_alloc _ (.cells #[.slice da d.length dc] 34) none)).push HB12.out.1 (HDV3.out.alloc (.cells #[.slice da d.length dc] 34)) hown6 hg6)
        have HLOG6:=hid ((HLOG3.out.below (zA0 _ (.cells #[.slice da d.length dc] 34))).grown HOA.out (by decide) hg6)
        have HBW6:=hid (zB0 (two HBW3.out (zA0 _ (.cells #[.slice da d.length dc] 34))) HOA.out hg6 (Nat.le_refl _))
        have l4:=HLOG6.out.c4
        have f4:=HLOG6.out.f4
        clear hown6 hg6
        go_wp2_with fail
        go_roundw
        case rel=>exact ⟨k+1,w6.heap.size,o++ [d], [],k+1,vs++ [.slice da d.length dc],by omega,by go_num,by rw [←HCLO.out];exact (yW8 first S k o d u _ _ _ hkS HNX.out).symm,HOUT6.out.stored HLOG6.out _,World.ownsRow_nil _ _ _ _,by have:=HBW6.out.size;omega,by simp,by have:=HLOG6.out.store (k+1);simpa using this,HBW6.out.setCell (p:=⟨w.heap.size,4,none⟩) (Nat.le_refl _) _,by simp;omega,by simp⟩
        case measure=>simp [intOf];omega
  · have HE:Hid (zC4 first S 0 [] [] 0=(o,u)):=hid (by rw [←HCLO.out];exact vH5 first S k o d u (by rw [HS.out];exact hlt))
    go_wp2_with fail
    refine bodyPost_ret (v:= .tuple #[.pointer (some ⟨w.heap.size,0,none⟩), .slice oa vs.length oc, .nilIface]) (by simp [results, Tryz.results93,go_sem]) rfl ?_
    exact ⟨w.heap.size,_,rfl,by rw [HE.out];exact HLOG.out,Nat.le_refl _,by rw [HE.out];exact HOUT.out.deedsL HLOG.out,HBW.out⟩
open Go.RowKit Go.Sort
end Go.Proofs.YtggpodlecljcbabGreatDoor
