/- The walks of chapter 3 once more: the files that come out of an act lie in new memory, or where those lie that went in. -/
import Derived.Test.YtggpodlecljcbabGreatDoorKR
import Derived.Test.YtggpodlecljcbabGreatDoorKD
namespace Go.Proofs.YtggpodlecljcbabGreatDoor
set_option linter.unusedSimpArgs false
set_option linter.unusedVariables false
set_option maxRecDepth 100000
set_option maxHeartbeats 64000000
open Lib (hid)
open Go.RowKit Go.Sort
def zT6 (B:Nat)(w:World)(qv:Value)(q:Quilt):Prop:=∃v,qv= .agg #[v, .int .i64 q.turn]∧Files w v q.files∧Fresh B v
def yE6 (B:Nat)(p:Quilt × Nat)(w:World)(e:Ending)(w' :World):Prop:=∃qv,e= .returned (.tuple #[qv,zE6 p.2])∧zT6 B w' qv p.1∧Below w.heap.size w w'
theorem zI8 {B:Nat}{W:World}{b:Nat}{v:Value}{q:Quilt}(hv:Files W v q.files)(hb:NoStr W b)(hns:∀s,v≠ .string s)(hf:Fresh B v):zT6 B ((W.setCell ⟨b,0,none⟩ v).setCell ⟨b,1,none⟩ (.int .i64 q.turn)) (.agg #[v, .int .i64 q.turn]) q:=
 ⟨v,rfl,yC0 (yC0 hv hb 0 v) (hb.set 0 v hns) 1 _,hf⟩

theorem yC6 (va:Value)(l:List File)(f:File)(w:World)(ha:Files w va l)(hf:f.ok)(hl:l.length≤8)(hr:Rises l):
 Calls Tryz.prog 112 #[va,f.val] w (zX0 (zM0 l f) w):=by
 have CF:=fun W=>xM2 f W hf
 have CC:=hid fun W hb=>yM6 va l W (Rd.below ha hb) hl
 have CS:=hid fun v W h=>yS9 v l f.name W h hl hr
 obtain ⟨ao,ca,rfl,hca,hca'⟩:=ha.parts
 unfold File.val at CF ⊢
 obtain ⟨W1,hW1⟩:∃W1,W1=w.alloc (.cells #[.string f.name, .string f.text, .int .i64 f.times] 102):=⟨_,rfl⟩
 have B1:Below w.heap.size w W1:=by rw [hW1];exact zA0 w _
 have hz:W1.heap.size=w.heap.size+1:=by rw [hW1];simp
 have c0:W1.cell? ⟨w.heap.size,0,none⟩=some (.string f.name):=by rw [hW1];simp
 have c1:W1.cell? ⟨w.heap.size,1,none⟩=some (.string f.text):=by rw [hW1];simp
 have c2:W1.cell? ⟨w.heap.size,2,none⟩=some (.int .i64 f.times):=by rw [hW1];simp
 have CB:Hid (∀W,Below W1.heap.size W1 W→W.cell? ⟨w.heap.size,0,none⟩=some (.string f.name)∧W.cell? ⟨w.heap.size,1,none⟩=some (.string f.text)∧W.cell? ⟨w.heap.size,2,none⟩=some (.int .i64 f.times)):=by
  refine hid fun W hb=>?_
  obtain ⟨hc,_⟩:=zN2 hb
  exact ⟨(hc _ _ (by omega)).trans c0,(hc _ _ (by omega)).trans c1,(hc _ _ (by omega)).trans c2⟩
 have HW1:=hid hW1
 have HB1:=hid B1
 have HR:=hid hr
 clear hW1 hz B1 ha hr
 by_cases hff:zA8 f=0
 · have HFF:=hid hff
   rw [hff,zD2] at CF
   replace CF:=hid CF
   clear hff
   obtain ⟨k,hkk⟩:∃k,k=zR1 l f.name:=⟨_,rfl⟩
   unfold yU8 at CS
   rw [←hkk] at CS
   cases hi:yS3 l f.name k
   · rw [hi] at CS
     have HI:=hid hi
     have hkl:k≤l.length:=by rw [hkk];exact vD3 _ _
     have HK:=hid hkk
     clear hi hkk
     by_cases h8:8≤l.length
     · have HD:Hid (zM0 l f=([],7)):=hid (uM6 l f HFF.out HR.out (by rw [←HK.out];exact HI.out) h8)
       go_enter Tryz.func112, Tryz.ntmps112
       go_wp2_with fail
       rw [←HW1.out]
       refine (CF.out _).mono ?_
       rintro e w2 ⟨rfl,hb2⟩
       have HB2:=hid hb2
       clear hb2
       go_wp2_with fail
       refine (CC.out _ (two HB1.out HB2.out)).mono ?_
       rintro e w3 ⟨v,rfl,ho,hb3⟩
       have HO:=hid ho
       have HB3:=hid (two HB2.out hb3)
       have HS3:=hid hb3.size
       obtain ⟨d0,d1,d2⟩:=CB.out w3 HB3.out
       clear ho hb3 c0 c1 c2
       go_wp2_with fail
       refine (CS.out _ _ (SL.of_own HO.out)).mono ?_
       rintro e w4 ⟨rfl,hb4⟩
       have HS4:=hid (Nat.le_trans HS3.out hb4.size)
       have HB4:=hid (two HB3.out hb4)
       have HO4:=hid (yP5 HO.out hb4)
       obtain ⟨g0,g1,g2⟩:=CB.out w4 HB4.out
       clear hb4 d0 d1 d2 HO
       obtain ⟨a,cap,rfl,_,_⟩:=Rd.parts (SL.of_own HO4.out:Rd 3 File.cells w4 v l)
       go_wp2_with fail
       refine bodyPost_ret (v:= .tuple #[.slice none 0 0,zE6 7]) (by simp [results, Tryz.results112,go_sem,zE6]) rfl ?_
       exact ⟨_,by rw [HD.out],by rw [HD.out];exact Rd.nil _,two HB1.out HB4.out,zH5 _⟩
     · have HD:Hid (zM0 l f=(l.take k++f::l.drop k,0)):=hid (put_new l f HFF.out HR.out k HK.out HI.out h8)
       go_enter Tryz.func112, Tryz.ntmps112
       go_wp2_with fail
       rw [←HW1.out]
       refine (CF.out _).mono ?_
       rintro e w2 ⟨rfl,hb2⟩
       have HB2:=hid hb2
       clear hb2
       go_wp2_with fail
       refine (CC.out _ (two HB1.out HB2.out)).mono ?_
       rintro e w3 ⟨v,rfl,ho,hb3⟩
       have HO:=hid ho
       have HB3:=hid (two HB2.out hb3)
       have HS3:=hid hb3.size
       obtain ⟨d0,d1,d2⟩:=CB.out w3 HB3.out
       clear ho hb3 c0 c1 c2
       go_wp2_with fail
       refine (CS.out _ _ (SL.of_own HO.out)).mono ?_
       rintro e w4 ⟨rfl,hb4⟩
       have HS4:=hid (Nat.le_trans HS3.out hb4.size)
       have HB4:=hid (two HB3.out hb4)
       have HO4:=hid (yP5 HO.out hb4)
       obtain ⟨g0,g1,g2⟩:=CB.out w4 HB4.out
       clear hb4 d0 d1 d2 HO
       have HBO:Hid (v.ownBlock≠some w4.heap.size):=hid fun h=>by have:=(HO4.out.lt _ h).2;omega
       obtain ⟨a,cap,rfl,_,_⟩:=Rd.parts (SL.of_own HO4.out:Rd 3 File.cells w4 v l)
       go_wp2_with fail
       refine (xX5 w2.heap.size _ l f k w4.heap.size 102 _ (HO4.out.alloc _) hl hkl ?_ HBO.out ?_).mono ?_
       · have:=HS4.out;simp;omega
       · exact xP7 w4 _
       rintro e w5 ⟨v',rfl,hf5,hb5,hfr5⟩
       have HFR5:=hid (hfr5.mono (Nat.le_trans HB1.out.size HB2.out.size))
       clear hfr5
       have HF5:=hid hf5
       have HB5:=hid (two HB1.out (HB4.out.trans (((zA0 w4 _).mono HB4.out.size).trans (hb5.mono HB2.out.size))))
       clear hf5 hb5 g0 g1 g2
       go_wp2_with fail
       refine bodyPost_ret (v:= .tuple #[v',zE6 0]) (by simp [results, Tryz.results112,go_sem,zE6]) rfl ?_
       exact ⟨_,by rw [HD.out],by rw [HD.out];exact HF5.out,HB5.out,HFR5.out⟩
   · rw [hi] at CS
     have hkl:k<l.length:=zY3 hi
     have HD:Hid (zM0 l f=(l.take k++f::l.drop (k+1),0)):=hid (put_is l f HFF.out HR.out k hkk hi)
     clear hi hkk
     go_enter Tryz.func112, Tryz.ntmps112
     go_wp2_with fail
     rw [←HW1.out]
     refine (CF.out _).mono ?_
     rintro e w2 ⟨rfl,hb2⟩
     have HB2:=hid hb2
     clear hb2
     go_wp2_with fail
     refine (CC.out _ (two HB1.out HB2.out)).mono ?_
     rintro e w3 ⟨v,rfl,ho,hb3⟩
     have HO:=hid ho
     have HB3:=hid (two HB2.out hb3)
     have HS3:=hid hb3.size
     obtain ⟨d0,d1,d2⟩:=CB.out w3 HB3.out
     clear ho hb3 c0 c1 c2
     go_wp2_with fail
     refine (CS.out _ _ (SL.of_own HO.out)).mono ?_
     rintro e w4 ⟨rfl,hb4⟩
     have HS4:=hid (Nat.le_trans HS3.out hb4.size)
     have HB4:=hid (two HB3.out hb4)
     have HO4:=hid (yP5 HO.out hb4)
     obtain ⟨g0,g1,g2⟩:=CB.out w4 HB4.out
     clear hb4 d0 d1 d2 HO
     obtain ⟨g,cap,rfl⟩:∃g cap,v= .slice (some ⟨g,0,none⟩) l.length cap:=by
      rcases HO4.out.2 with ⟨_,h⟩ | ⟨g,cap,_,h,_⟩
      · omega
      · exact ⟨g,cap,h⟩
     obtain ⟨hbg,hgw,hnc,hc63,hlen,hcell,hsome,hfro,hsh⟩:=zK9 HO4.out
     obtain ⟨b,off,eb,_,y0,y1,y2⟩:=Files.cell (SL.of_own HO4.out:Rd 3 File.cells w4 _ l) k hkl
     simp only [Option.some.injEq,Addr.mk.injEq,and_true] at eb
     obtain ⟨rfl,rfl⟩:=eb
     simp only [Nat.zero_add] at y0 y1 y2
     have z0:=hfro (k * 3)
     have z1:=hfro (k * 3+1)
     have z2:=hfro (k * 3+2)
     have HFIN:=hid (own_put f k hkl rfl HO4.out)
     have HGW:=hid (Nat.le_trans HB2.out.size hbg)
     have HFR5:Hid (Fresh w.heap.size (.slice (some ⟨g,0,none⟩) l.length cap)):=hid ((yH5 HO4.out).mono (Nat.le_trans HB1.out.size HB2.out.size))
     clear hlen hcell hsome hfro hsh hbg hgw
     go_wp2_with fail
     have HB5:=hid (two HB1.out (((HB4.out.setCell (p:=⟨g,k * 3,none⟩) HGW.out (.string f.name)).setCell (p:=⟨g,k * 3+1,none⟩) HGW.out (.string f.text)).setCell (p:=⟨g,k * 3+2,none⟩) HGW.out (.int .i64 f.times)))
     refine bodyPost_ret (v:= .tuple #[.slice (some ⟨g,0,none⟩) l.length cap,zE6 0]) (by simp [results, Tryz.results112,go_sem,zE6]) rfl ?_
     exact ⟨_,by rw [HD.out],by rw [HD.out];exact HFIN.out,HB5.out,HFR5.out⟩
 · have HD:Hid (zM0 l f=([],zA8 f)):=hid (uA5 l f hff)
   rw [zA5 hff] at CF
   replace CF:=hid CF
   have HFF:=hid hff
   clear hff
   go_enter Tryz.func112, Tryz.ntmps112
   go_wp2_with fail
   rw [←HW1.out]
   refine (CF.out _).mono ?_
   rintro e w2 ⟨rfl,hb2⟩
   have HB2:=hid (two HB1.out hb2)
   clear hb2
   go_wp2_with fail
   refine bodyPost_ret (v:= .tuple #[.slice none 0 0,zE6 (zA8 f)]) (by rw [zA5 HFF.out];simp [results, Tryz.results112,go_sem]) rfl ?_
   exact ⟨_,by rw [HD.out],by rw [HD.out];exact Rd.nil _,HB2.out,zH5 _⟩

theorem zT0 (B:Nat)(qv:Value)(q:Quilt)(lv:Value)(l:List File)(n:Nat)(w:World)(hq:Quilts w qv q)(hl:Files w lv l)(h1:1≤q.turn)(h2:q.turn≤9999)(hfr:Fresh B lv):
 Calls Tryz.prog 113 #[qv,lv,zE6 n] w (yE6 B (zD5 q (l,n)) w):=by
 obtain ⟨v,rfl,hf⟩:=hq
 obtain ⟨W2,hW2⟩:∃W2,W2=qw w v q.turn:=⟨_,rfl⟩
 have BX:=yK8 w v q.turn
 have HB2:=hid (zS2 w v q.turn)
 rw [←hW2] at BX HB2
 obtain ⟨z0,z1,z2,z3,z4,z5,hns⟩:=BX.now
 have HNS:=hid hns
 unfold qw at hW2
 have HW2:=hid hW2
 obtain ⟨lao,lca,rfl,_,_⟩:=hl.parts
 have HL:=hid hl
 have HFR:=hid hfr
 clear hfr hf BX hns hW2 hl
 by_cases hn:n=0
 · subst hn
   rw [zD2]
   by_cases h9:9999≤q.turn
   · have HD:Hid (zD5 q (l,0)=(zD6,7)):=hid (by unfold zD5;rw [if_neg (by simp),if_pos h9])
     go_enter Tryz.func113, Tryz.ntmps113
     go_wp2_with fail
     rw [←HW2.out]
     refine bodyPost_ret (v:= .tuple #[.agg #[.slice none 0 0, .int .i64 0],zE6 7]) (by simp [zE6,results, Tryz.results113,go_sem,z0,z1,z2,z3,z4,z5]) rfl ?_
     exact ⟨_,by rw [HD.out];try rfl,by rw [HD.out];exact ⟨_,rfl,Rd.nil _,zH5 _⟩,HB2.out⟩
   · have HD:Hid (zD5 q (l,0)=(⟨l,q.turn+1⟩,0)):=hid (by unfold zD5;rw [if_neg (by simp),if_neg h9])
     have h9' :q.turn<9999:=by omega
     go_enter Tryz.func113, Tryz.ntmps113
     go_wp2_with fail
     have HBF:=two (zA0 w (.cells #[v, .int .i64 q.turn] 32)) (zA0 _ (.cells #[.slice lao l.length lca, .int .i64 (q.turn+1)] 32))
     refine bodyPost_ret (v:= .tuple #[.agg #[.slice lao l.length lca, .int .i64 (q.turn+1)],zE6 0]) (by simp [zE6,results, Tryz.results113,go_sem,z0,z1,z2,z3,z4,z5]) rfl ?_
     exact ⟨_,by rw [HD.out];try rfl,by rw [HD.out];exact ⟨_,rfl,HL.out.below HBF,HFR.out⟩,HBF⟩
 · have HD:Hid (zD5 q (l,n)=(zD6,n)):=hid (by unfold zD5;rw [if_pos (by simpa using hn)])
   have HN:=hid hn
   rw [zA5 hn]
   clear hn
   go_enter Tryz.func113, Tryz.ntmps113
   go_wp2_with fail
   rw [←HW2.out]
   refine bodyPost_ret (v:= .tuple #[.agg #[.slice none 0 0, .int .i64 0],zE6 n]) (by rw [zA5 HN.out];simp [results, Tryz.results113,go_sem,z0,z1,z2,z3,z4,z5]) rfl ?_
   exact ⟨_,by rw [HD.out];try rfl,by rw [HD.out];exact ⟨_,rfl,Rd.nil _,zH5 _⟩,HB2.out⟩

theorem xO7 (B:Nat)(qv:Value)(q:Quilt)(name text:ByteArray)(w:World)(hq:Quilts w qv q)(hg:Good q)(hn:name.size≤maxLen)(ht:text.size≤maxLen)(hB:B≤w.heap.size):
 Calls Tryz.prog 66 #[qv, .string name, .string text] w (yE6 B (zE5 q name text) w):=by
 obtain ⟨v,rfl,hf⟩:=hq
 have HBW:=hid hB
 clear hB
 obtain ⟨W2,hW2⟩:∃W2,W2=qw w v q.turn:=⟨_,rfl⟩
 have BX:=yK8 w v q.turn
 have HB2:=hid (zS2 w v q.turn)
 rw [←hW2] at BX HB2
 have HBX:=hid BX
 have HF:=hid hf
 obtain ⟨ao,ca,rfl,hca,hca'⟩:=hf.parts
 unfold qw at hW2
 have HW2:=hid hW2
 have HG:=hid hg
 have CG:=fun W hb=>zS6 _ q.files name W (hf.below hb) hg.fine.len hg.fine.rises
 have CP:=fun W hb=>yC6 _ q.files ⟨name,text,zZ4 q name+1⟩ W (hf.below hb) ⟨hn,ht⟩ hg.fine.len hg.fine.rises
 obtain ⟨p,hp⟩:∃p,p=zM0 q.files ⟨name,text,zZ4 q name+1⟩:=⟨_,rfl⟩
 have HD:Hid (zE5 q name text=zD5 q p):=hid (by rw [hp];rfl)
 rw [←hp] at CP
 have CN:=hid fun W lv (hb:Below w.heap.size w W) h hfr=>zT0 B (.agg #[.slice ao q.files.length ca, .int .i64 q.turn]) q lv p.1 p.2 W ⟨_,rfl,HF.out.below hb⟩ h HG.out.lo HG.out.hi hfr
 have ht1:=xB1 HG.out name
 obtain ⟨g,hgg⟩:∃g,g=zT2 (zC6 q.files name):=⟨_,rfl⟩
 have htt:zZ4 q name=g.times:=by rw [hgg];rfl
 unfold zO5 File.val at CG
 rw [←hgg] at CG
 obtain ⟨b,hbb⟩:∃b,b=(zC6 q.files name).isSome:=⟨_,rfl⟩
 rw [←hbb] at CG
 unfold zX0 File.val at CP
 rw [htt] at CP ht1
 unfold yE6 at CN
 obtain ⟨hg0,hg1⟩:=ht1
 have hg1' :g.times+1≤10000:=by omega
 replace CG:=hid CG
 replace CP:=hid CP
 clear hp hbb htt hgg
 clear BX hW2 hf hg
 go_enter Tryz.func66, Tryz.ntmps66
 go_wp2_with fail
 rw [←HW2.out]
 refine (CG.out _ HB2.out).mono ?_
 rintro e w3 ⟨rfl,hb3⟩
 have BF:=hid (zF0 w3 g)
 have HB3:=hid (two hb3 (zA0 w3 (.cells #[.string g.name, .string g.text, .int .i64 g.times] 102)))
 obtain ⟨z0,z1,z2,z3,z4,z5,hns⟩:=HBX.out _ HB3.out
 clear hb3 hns
 go_wp2_with fail
 refine (CP.out _ (two HB2.out HB3.out)).mono ?_
 rintro e w4 ⟨lv,rfl,hl,hb4,hfr4⟩
 have HFR:=hid (hfr4.mono (Nat.le_trans HBW.out (two HB2.out HB3.out).size))
 clear hfr4
 have HL:=hid hl
 have HB4:=hid (two HB3.out hb4)
 clear hl hb4 z0 z1 z2 z3 z4 z5
 obtain ⟨z0,z1,z2,z3,z4,z5,hns⟩:=HBX.out _ HB4.out
 clear hns
 go_wp2_with fail
 refine (CN.out _ _ (two HB2.out HB4.out) HL.out HFR.out).mono ?_
 rintro e w5 ⟨qv',rfl,⟨v',rfl,hf',hfr'⟩,hb5⟩
 obtain ⟨ao',ca',rfl,_,_⟩:=hf'.parts
 have HFR2:=hid hfr'
 clear hfr'
 have HF' :=hid hf'
 have HB5:=hid (two HB4.out hb5)
 clear hf' hb5 z0 z1 z2 z3 z4 z5
 obtain ⟨z0,z1,z2,z3,z4,z5,hns⟩:=HBX.out _ HB5.out
 have HNS:=hid hns
 clear hns
 go_wp2_with fail
 have HBF:=((two HB2.out HB5.out).setCell (p:=⟨w.heap.size+1,0,none⟩) (by simp) (.slice ao' (zD5 q p).1.files.length ca')).setCell (p:=⟨w.heap.size+1,1,none⟩) (by simp) (.int .i64 (zD5 q p).1.turn)
 refine bodyPost_ret (v:= .tuple #[.agg #[.slice ao' (zD5 q p).1.files.length ca', .int .i64 (zD5 q p).1.turn],zE6 (zD5 q p).2]) (by simp [results, Tryz.results66,go_sem,z0,z1,z2,z3,z4,z5]) rfl ?_
 exact ⟨_,by rw [HD.out],by rw [HD.out];exact zI8 HF'.out HNS.out (zD9 HF'.out) HFR2.out,HBF⟩

theorem xU7 (B:Nat)(qv:Value)(q:Quilt)(name:ByteArray)(w:World)(hq:Quilts w qv q)(hg:Good q)(hB:B≤w.heap.size):
 Calls Tryz.prog 67 #[qv, .string name] w (yE6 B (zF5 q name) w):=by
 obtain ⟨v,rfl,hf⟩:=hq
 have HBW:=hid hB
 clear hB
 obtain ⟨W2,hW2⟩:∃W2,W2=qw w v q.turn:=⟨_,rfl⟩
 have BX:=yK8 w v q.turn
 have HB2:=hid (zS2 w v q.turn)
 rw [←hW2] at BX HB2
 have HBX:=hid BX
 have HF:=hid hf
 obtain ⟨ao,ca,rfl,hca,hca'⟩:=hf.parts
 unfold qw at hW2
 have HW2:=hid hW2
 have HG:=hid hg
 have CP:=fun W hb=>yV3 _ q.files name W (hf.below hb) hg.fine.len hg.fine.rises
 obtain ⟨p,hp⟩:∃p,p=zK4 q.files name:=⟨_,rfl⟩
 have HD:Hid (zF5 q name=zD5 q p):=hid (by rw [hp];rfl)
 rw [←hp] at CP
 have CN:=hid fun W lv (hb:Below w.heap.size w W) h hfr=>zT0 B (.agg #[.slice ao q.files.length ca, .int .i64 q.turn]) q lv p.1 p.2 W ⟨_,rfl,HF.out.below hb⟩ h HG.out.lo HG.out.hi hfr
 unfold zX0 at CP
 unfold yE6 at CN
 replace CP:=hid CP
 clear hp
 clear BX hW2 hf hg
 go_enter Tryz.func67, Tryz.ntmps67
 go_wp2_with fail
 rw [←HW2.out]
 refine (CP.out _ HB2.out).mono ?_
 rintro e w4 ⟨lv,rfl,hl,hb4,hfr4⟩
 have HFR:=hid (hfr4.mono (Nat.le_trans HBW.out HB2.out.size))
 clear hfr4
 have HL:=hid hl
 have HB4:=hid hb4
 clear hl hb4
 obtain ⟨z0,z1,z2,z3,z4,z5,hns⟩:=HBX.out _ HB4.out
 clear hns
 go_wp2_with fail
 refine (CN.out _ _ (two HB2.out HB4.out) HL.out HFR.out).mono ?_
 rintro e w5 ⟨qv',rfl,⟨v',rfl,hf',hfr'⟩,hb5⟩
 obtain ⟨ao',ca',rfl,_,_⟩:=hf'.parts
 have HFR2:=hid hfr'
 clear hfr'
 have HF' :=hid hf'
 have HB5:=hid (two HB4.out hb5)
 clear hf' hb5 z0 z1 z2 z3 z4 z5
 obtain ⟨z0,z1,z2,z3,z4,z5,hns⟩:=HBX.out _ HB5.out
 have HNS:=hid hns
 clear hns
 go_wp2_with fail
 have HBF:=((two HB2.out HB5.out).setCell (p:=⟨w.heap.size+1,0,none⟩) (by simp) (.slice ao' (zD5 q p).1.files.length ca')).setCell (p:=⟨w.heap.size+1,1,none⟩) (by simp) (.int .i64 (zD5 q p).1.turn)
 refine bodyPost_ret (v:= .tuple #[.agg #[.slice ao' (zD5 q p).1.files.length ca', .int .i64 (zD5 q p).1.turn],zE6 (zD5 q p).2]) (by simp [results, Tryz.results67,go_sem,z0,z1,z2,z3,z4,z5]) rfl ?_
 exact ⟨_,by rw [HD.out],by rw [HD.out];exact zI8 HF'.out HNS.out (zD9 HF'.out) HFR2.out,HBF⟩

theorem xI4 (B:Nat)(qv:Value)(q:Quilt)(name tn:ByteArray)(w:World)(hq:Quilts w qv q)(hg:Good q)(hto:tn.size≤maxLen)(hB:B≤w.heap.size):
 Calls Tryz.prog 68 #[qv, .string name, .string tn] w (yE6 B (zC3 q name tn) w):=by
 obtain ⟨v,rfl,hf⟩:=hq
 have HBW:=hid hB
 clear hB
 obtain ⟨W2,hW2⟩:∃W2,W2=qw w v q.turn:=⟨_,rfl⟩
 have BX:=yK8 w v q.turn
 have HB2:=hid (zS2 w v q.turn)
 rw [←hW2] at BX HB2
 have HBX:=hid BX
 have HF:=hid hf
 obtain ⟨ao,ca,rfl,hca,hca'⟩:=hf.parts
 unfold qw at hW2
 have HW2:=hid hW2
 have HG:=hid hg
 have HSZ:Hid (W2.heap.size=w.heap.size+2):=hid (by rw [HW2.out];simp)
 have CG:=fun W hb=>zS6 _ q.files name W (hf.below hb) hg.fine.len hg.fine.rises
 have CH:=fun W hb=>zS6 _ q.files tn W (hf.below hb) hg.fine.len hg.fine.rises
 have CF:=fun W=>xX7 tn W hto
 unfold zO5 zT2 File.val at CG CH
 cases hgn:zC6 q.files name with
 | none=>
  have HD:Hid (zC3 q name tn=(zD6,5)):=hid (by unfold zC3;rw [hgn])
  rw [hgn] at CG
  simp only [Option.getD_none,Option.isSome_none] at CG
  replace CG:=hid CG
  clear BX hW2 hf hg CH CF
  go_enter Tryz.func68, Tryz.ntmps68
  go_wp2_with fail
  rw [←HW2.out]
  refine (CG.out _ HB2.out).mono ?_
  rintro e w3 ⟨rfl,hb3⟩
  have HB3:=hid (two hb3 (zA0 w3 (.cells #[.string yB6.name, .string yB6.text, .int .i64 yB6.times] 102)))
  obtain ⟨z0,z1,z2,z3,z4,z5,hns⟩:=HBX.out _ HB3.out
  clear hb3 hns
  go_wp2_with fail
  refine bodyPost_ret (v:= .tuple #[.agg #[.slice none 0 0, .int .i64 0],zE6 5]) (by simp [zE6,results, Tryz.results68,go_sem,z0,z1,z2,z3,z4,z5]) rfl ?_
  exact ⟨_,by rw [HD.out];try rfl,by rw [HD.out];exact ⟨_,rfl,Rd.nil _,zH5 _⟩,((two HB2.out HB3.out).setCell (p:=⟨w.heap.size+1,0,none⟩) (by simp) (.slice none 0 0)).setCell (p:=⟨w.heap.size+1,1,none⟩) (by simp) (.int .i64 0)⟩
 | some f=>
  obtain ⟨mf,ef⟩:=hg.fine.mem hgn
  have hft:f.text.size≤maxLen:=by
   have:=(zK0 (hg.fine.each f mf)).2.1
   unfold maxLen;omega
  rw [hgn] at CG
  simp only [Option.getD_some,Option.isSome_some] at CG
  replace CG:=hid CG
  by_cases hnf:zB6 tn.data.toList=0
  · rw [hnf,zD2] at CF
    replace CF:=hid CF
    cases hgt:zC6 q.files tn with
    | some h=>
     have HD:Hid (zC3 q name tn=(zD6,6)):=hid (by unfold zC3;rw [hgn];dsimp only;rw [if_neg (by simp [hnf]),if_pos (by rw [hgt];rfl)])
     rw [hgt] at CH
     simp only [Option.getD_some,Option.isSome_some] at CH
     replace CH:=hid CH
     clear BX hW2 hf hg hnf hgn hgt ef
     go_enter Tryz.func68, Tryz.ntmps68
     go_wp2_with fail
     rw [←HW2.out]
     refine (CG.out _ HB2.out).mono ?_
     rintro e w3 ⟨rfl,hb3⟩
     have BF:=hid (zF0 w3 f)
     have FZ:=hid (zJ4 w3 f)
     have HS3:=hid hb3.size
     have HB3:=hid (two hb3 (zA0 w3 (.cells #[.string f.name, .string f.text, .int .i64 f.times] 102)))
     obtain ⟨z0,z1,z2,z3,z4,z5,hns⟩:=HBX.out _ HB3.out
     clear hb3 hns
     go_wp2_with fail
     clear z0 z1 z2 z3 z4 z5
     refine (CF.out _).mono ?_
     rintro e w4 ⟨rfl,hb4⟩
     have HB4:=hid (two HB3.out hb4)
     clear hb4
     obtain ⟨z0,z1,z2,z3,z4,z5,hns⟩:=HBX.out _ HB4.out
     clear hns
     go_wp2_with fail
     refine (CH.out _ (two HB2.out HB4.out)).mono ?_
     rintro e w5 ⟨rfl,hb5⟩
     have HB5:=hid (two HB4.out hb5)
     clear z0 z1 z2 z3 z4 z5
     obtain ⟨z0,z1,z2,z3,z4,z5,hns⟩:=HBX.out _ HB5.out
     clear hb5 hns
     go_wp2_with fail
     refine bodyPost_ret (v:= .tuple #[.agg #[.slice none 0 0, .int .i64 0],zE6 6]) (by simp [zE6,results, Tryz.results68,go_sem,z0,z1,z2,z3,z4,z5]) rfl ?_
     exact ⟨_,by rw [HD.out];try rfl,by rw [HD.out];exact ⟨_,rfl,Rd.nil _,zH5 _⟩,((two HB2.out HB5.out).setCell (p:=⟨w.heap.size+1,0,none⟩) (by simp) (.slice none 0 0)).setCell (p:=⟨w.heap.size+1,1,none⟩) (by simp) (.int .i64 0)⟩
    | none=>
     rw [hgt] at CH
     simp only [Option.getD_none,Option.isSome_none] at CH
     replace CH:=hid CH
     obtain ⟨d,hdd⟩:∃d,d=(zK4 q.files name).1:=⟨_,rfl⟩
     have hd0:zK4 q.files name=(d,0):=by
      rw [hdd];unfold zK4;rw [hgn];rfl
     have hd:Fine d:=by rw [hdd];exact yH9 hg.fine name
     obtain ⟨p,hp⟩:∃p,p=zM0 d ⟨tn,f.text,f.times⟩:=⟨_,rfl⟩
     have HD:Hid (zC3 q name tn=zD5 q p):=hid (by unfold zC3;rw [hgn];dsimp only;rw [if_neg (by simp [hnf]),if_neg (by rw [hgt];simp),hp,hdd])
     have CD:=fun W hb=>yV3 _ q.files name W (hf.below hb) hg.fine.len hg.fine.rises
     have CP:=fun lv W h=>yC6 lv d ⟨tn,f.text,f.times⟩ W h ⟨hto,hft⟩ hd.len hd.rises
     rw [←hp] at CP
     rw [hd0] at CD
     unfold zX0 at CD
     unfold zX0 File.val at CP
     simp only [zD2] at CD
     have CN:=hid fun W lv (hb:Below w.heap.size w W) h hfr=>zT0 B (.agg #[.slice ao q.files.length ca, .int .i64 q.turn]) q lv p.1 p.2 W ⟨_,rfl,HF.out.below hb⟩ h HG.out.lo HG.out.hi hfr
     unfold yE6 at CN
     replace CD:=hid CD
     replace CP:=hid CP
     clear BX hW2 hf hg hnf hgn hgt ef hp hdd hd0 hd
     go_enter Tryz.func68, Tryz.ntmps68
     go_wp2_with fail
     rw [←HW2.out]
     refine (CG.out _ HB2.out).mono ?_
     rintro e w3 ⟨rfl,hb3⟩
     have BF:=hid (zF0 w3 f)
     have FZ:=hid (zJ4 w3 f)
     have HS3:=hid hb3.size
     have HB3:=hid (two hb3 (zA0 w3 (.cells #[.string f.name, .string f.text, .int .i64 f.times] 102)))
     obtain ⟨z0,z1,z2,z3,z4,z5,hns⟩:=HBX.out _ HB3.out
     clear hb3 hns
     go_wp2_with fail
     clear z0 z1 z2 z3 z4 z5
     refine (CF.out _).mono ?_
     rintro e w4 ⟨rfl,hb4⟩
     have HB4:=hid (two HB3.out hb4)
     have HC4:=hid hb4
     clear hb4
     obtain ⟨z0,z1,z2,z3,z4,z5,hns⟩:=HBX.out _ HB4.out
     clear hns
     go_wp2_with fail
     refine (CH.out _ (two HB2.out HB4.out)).mono ?_
     rintro e w5 ⟨rfl,hb5⟩
     have HB5:=hid (two HB4.out hb5)
     have HC5:=hid (two HC4.out hb5)
     clear z0 z1 z2 z3 z4 z5
     obtain ⟨z0,z1,z2,z3,z4,z5,hns⟩:=HBX.out _ HB5.out
     clear hb5 hns
     go_wp2_with fail
     refine (CD.out _ (two HB2.out HB5.out)).mono ?_
     rintro e w6 ⟨lv,rfl,hl,hb6,hfr⟩
     have HS5:Hid (w3.heap.size<w5.heap.size):=hid (by have:=HC5.out.size;simp at this;omega)
     have HL6:=hid (zW5 hl hfr HS5.out 0 (.string tn))
     have HB6:=hid (two HB5.out hb6)
     obtain ⟨x0,x1,x2⟩:=BF.out _ (two HC5.out hb6)
     have y0:=FZ.out _ (two HC5.out hb6) 0
     clear z0 z1 z2 z3 z4 z5
     obtain ⟨z0,z1,z2,z3,z4,z5,hns⟩:=HBX.out _ HB6.out
     have HB7:=hid (HB6.out.setCell (p:=⟨w3.heap.size,0,none⟩) HS3.out (.string tn))
     have HNE:Hid (w.heap.size≠w3.heap.size∧w.heap.size+1≠w3.heap.size):=hid (by have:=HS3.out;have:=HSZ.out;constructor <;> omega)
     clear hl hb6 hfr hns z0 z1 z2 z3 z4 z5
     go_wp2_with fail
     refine (CP.out _ _ HL6.out).mono ?_
     rintro e w8 ⟨lv2,rfl,hl,hb8,hfr8⟩
     have HFR:=hid (hfr8.mono (Nat.le_trans HBW.out (two HB2.out HB7.out).size))
     clear hfr8
     have HL:=hid hl
     have HB8:=hid (two HB7.out hb8)
     clear hl hb8 x0 x1 x2 y0
     obtain ⟨z0,z1,z2,z3,z4,z5,hns⟩:=HBX.out _ HB8.out
     clear hns
     go_wp2_with fail
     refine (CN.out _ _ (two HB2.out HB8.out) HL.out HFR.out).mono ?_
     rintro e w9 ⟨qv',rfl,⟨v',rfl,hf',hfr'⟩,hb9⟩
     obtain ⟨ao',ca',rfl,_,_⟩:=hf'.parts
     have HFR2:=hid hfr'
     clear hfr'
     have HF' :=hid hf'
     have HB9:=hid (two HB8.out hb9)
     clear hf' hb9 z0 z1 z2 z3 z4 z5
     obtain ⟨z0,z1,z2,z3,z4,z5,hns⟩:=HBX.out _ HB9.out
     have HNS:=hid hns
     clear hns
     go_wp2_with fail
     have HBF:=((two HB2.out HB9.out).setCell (p:=⟨w.heap.size+1,0,none⟩) (by simp) (.slice ao' (zD5 q p).1.files.length ca')).setCell (p:=⟨w.heap.size+1,1,none⟩) (by simp) (.int .i64 (zD5 q p).1.turn)
     refine bodyPost_ret (v:= .tuple #[.agg #[.slice ao' (zD5 q p).1.files.length ca', .int .i64 (zD5 q p).1.turn],zE6 (zD5 q p).2]) (by simp [results, Tryz.results68,go_sem,z0,z1,z2,z3,z4,z5]) rfl ?_
     exact ⟨_,by rw [HD.out],by rw [HD.out];exact zI8 HF'.out HNS.out (zD9 HF'.out) HFR2.out,HBF⟩
  · have HD:Hid (zC3 q name tn=(zD6,zB6 tn.data.toList)):=hid (by unfold zC3;rw [hgn];dsimp only;rw [if_pos hnf])
    have HN:=hid hnf
    rw [zA5 hnf] at CF
    replace CF:=hid CF
    clear BX hW2 hf hg hnf hgn ef CH
    go_enter Tryz.func68, Tryz.ntmps68
    go_wp2_with fail
    rw [←HW2.out]
    refine (CG.out _ HB2.out).mono ?_
    rintro e w3 ⟨rfl,hb3⟩
    have BF:=hid (zF0 w3 f)
    have FZ:=hid (zJ4 w3 f)
    have HS3:=hid hb3.size
    have HB3:=hid (two hb3 (zA0 w3 (.cells #[.string f.name, .string f.text, .int .i64 f.times] 102)))
    obtain ⟨z0,z1,z2,z3,z4,z5,hns⟩:=HBX.out _ HB3.out
    clear hb3 hns
    go_wp2_with fail
    clear z0 z1 z2 z3 z4 z5
    refine (CF.out _).mono ?_
    rintro e w4 ⟨rfl,hb4⟩
    have HB4:=hid (two HB3.out hb4)
    clear hb4
    obtain ⟨z0,z1,z2,z3,z4,z5,hns⟩:=HBX.out _ HB4.out
    clear hns
    go_wp2_with fail
    refine bodyPost_ret (v:= .tuple #[.agg #[.slice none 0 0, .int .i64 0],zE6 (zB6 tn.data.toList)]) (by rw [zA5 HN.out];simp [zE6,results, Tryz.results68,go_sem,z0,z1,z2,z3,z4,z5]) rfl ?_
    exact ⟨_,by rw [HD.out];try rfl,by rw [HD.out];exact ⟨_,rfl,Rd.nil _,zH5 _⟩,((two HB2.out HB4.out).setCell (p:=⟨w.heap.size+1,0,none⟩) (by simp) (.slice none 0 0)).setCell (p:=⟨w.heap.size+1,1,none⟩) (by simp) (.int .i64 0)⟩

theorem xU6 (B:Nat)(qv:Value)(q:Quilt)(a b:ByteArray)(w:World)(hq:Quilts w qv q)(hg:Good q)(hB:B≤w.heap.size):
 Calls Tryz.prog 69 #[qv, .string a, .string b] w (yE6 B (zC0 q a b) w):=by
 obtain ⟨v,rfl,hf⟩:=hq
 have HBW:=hid hB
 clear hB
 obtain ⟨W2,hW2⟩:∃W2,W2=qw w v q.turn:=⟨_,rfl⟩
 have BX:=yK8 w v q.turn
 have HB2:=hid (zS2 w v q.turn)
 rw [←hW2] at BX HB2
 have HBX:=hid BX
 have HF:=hid hf
 obtain ⟨ao,ca,rfl,hca,hca'⟩:=hf.parts
 unfold qw at hW2
 have HW2:=hid hW2
 have HG:=hid hg
 have CG:=fun W hb=>zS6 _ q.files a W (hf.below hb) hg.fine.len hg.fine.rises
 have CH:=fun W hb=>zS6 _ q.files b W (hf.below hb) hg.fine.len hg.fine.rises
 unfold zO5 File.val at CG CH
 have HSZ:Hid (W2.heap.size=w.heap.size+2):=hid (by rw [HW2.out];simp)
 clear BX hW2 hf hg
 obtain ⟨x,hx⟩:∃x,x=zT2 (zC6 q.files a):=⟨_,rfl⟩
 obtain ⟨y,hy⟩:∃y,y=zT2 (zC6 q.files b):=⟨_,rfl⟩
 rw [←hx] at CG
 rw [←hy] at CH
 cases hga:zC6 q.files a with
 | none=>
  have HD:Hid (zC0 q a b=(zD6,5)):=hid (by unfold zC0;rw [hga])
  rw [hga,Option.isSome_none] at CG
  replace CG:=hid CG
  obtain ⟨bb,hbb⟩:∃bb,bb=(zC6 q.files b).isSome:=⟨_,rfl⟩
  rw [←hbb] at CH
  replace CH:=hid CH
  clear hga hx hy hbb
  go_enter Tryz.func69, Tryz.ntmps69
  go_wp2_with fail
  rw [←HW2.out]
  refine (CG.out _ HB2.out).mono ?_
  rintro e w3 ⟨rfl,hb3⟩
  have BF:=hid (zF0 w3 x)
  have FZ:=hid (zJ4 w3 x)
  have HS3:=hid hb3.size
  have HB3:=hid (two hb3 (zA0 w3 (.cells #[.string x.name, .string x.text, .int .i64 x.times] 102)))
  obtain ⟨z0,z1,z2,z3,z4,z5,hns⟩:=HBX.out _ HB3.out
  clear hb3 hns
  go_wp2_with fail
  refine (CH.out _ (two HB2.out HB3.out)).mono ?_
  rintro e w4 ⟨rfl,hb4⟩
  have BG:=hid (zF0 w4 y)
  have GZ:=hid (zJ4 w4 y)
  have HC4:=hid (two hb4 (zA0 w4 (.cells #[.string y.name, .string y.text, .int .i64 y.times] 102)))
  have HS4:Hid (w3.heap.size<w4.heap.size):=hid (by have:=hb4.size;simp at this;omega)
  have HB4:=hid (two HB3.out HC4.out)
  clear hb4 z0 z1 z2 z3 z4 z5
  obtain ⟨z0,z1,z2,z3,z4,z5,hns⟩:=HBX.out _ HB4.out
  obtain ⟨x0,x1,x2⟩:=BF.out _ HC4.out
  obtain ⟨y0,y1,y2⟩:=BG.out _ (Below.refl _ _)
  clear hns
  go_wp2_with fail
  refine bodyPost_ret (v:= .tuple #[.agg #[.slice none 0 0, .int .i64 0],zE6 5]) (by simp [zE6,results, Tryz.results69,go_sem,z0,z1,z2,z3,z4,z5]) rfl ?_
  exact ⟨_,by rw [HD.out];try rfl,by rw [HD.out];exact ⟨_,rfl,Rd.nil _,zH5 _⟩,((two HB2.out HB4.out).setCell (p:=⟨w.heap.size+1,0,none⟩) (by simp) (.slice none 0 0)).setCell (p:=⟨w.heap.size+1,1,none⟩) (by simp) (.int .i64 0)⟩
 | some x' =>
  rw [hga,Option.isSome_some] at CG
  replace CG:=hid CG
  cases hgb:zC6 q.files b with
  | none=>
   have HD:Hid (zC0 q a b=(zD6,5)):=hid (by unfold zC0;rw [hga,hgb])
   rw [hgb,Option.isSome_none] at CH
   replace CH:=hid CH
   clear hga hgb hx hy
   go_enter Tryz.func69, Tryz.ntmps69
   go_wp2_with fail
   rw [←HW2.out]
   refine (CG.out _ HB2.out).mono ?_
   rintro e w3 ⟨rfl,hb3⟩
   have BF:=hid (zF0 w3 x)
   have FZ:=hid (zJ4 w3 x)
   have HS3:=hid hb3.size
   have HB3:=hid (two hb3 (zA0 w3 (.cells #[.string x.name, .string x.text, .int .i64 x.times] 102)))
   obtain ⟨z0,z1,z2,z3,z4,z5,hns⟩:=HBX.out _ HB3.out
   clear hb3 hns
   go_wp2_with fail
   refine (CH.out _ (two HB2.out HB3.out)).mono ?_
   rintro e w4 ⟨rfl,hb4⟩
   have BG:=hid (zF0 w4 y)
   have GZ:=hid (zJ4 w4 y)
   have HC4:=hid (two hb4 (zA0 w4 (.cells #[.string y.name, .string y.text, .int .i64 y.times] 102)))
   have HS4:Hid (w3.heap.size<w4.heap.size):=hid (by have:=hb4.size;simp at this;omega)
   have HB4:=hid (two HB3.out HC4.out)
   clear hb4 z0 z1 z2 z3 z4 z5
   obtain ⟨z0,z1,z2,z3,z4,z5,hns⟩:=HBX.out _ HB4.out
   obtain ⟨x0,x1,x2⟩:=BF.out _ HC4.out
   obtain ⟨y0,y1,y2⟩:=BG.out _ (Below.refl _ _)
   clear hns
   go_wp2_with fail
   refine bodyPost_ret (v:= .tuple #[.agg #[.slice none 0 0, .int .i64 0],zE6 5]) (by simp [zE6,results, Tryz.results69,go_sem,z0,z1,z2,z3,z4,z5]) rfl ?_
   exact ⟨_,by rw [HD.out];try rfl,by rw [HD.out];exact ⟨_,rfl,Rd.nil _,zH5 _⟩,((two HB2.out HB4.out).setCell (p:=⟨w.heap.size+1,0,none⟩) (by simp) (.slice none 0 0)).setCell (p:=⟨w.heap.size+1,1,none⟩) (by simp) (.int .i64 0)⟩
  | some y' =>
   rw [hgb,Option.isSome_some] at CH
   replace CH:=hid CH
   obtain rfl:x=x' :=by rw [hx,hga];rfl
   obtain rfl:y=y' :=by rw [hy,hgb];rfl
   clear hx hy
   obtain ⟨mx,ex⟩:=HG.out.fine.mem hga
   obtain ⟨my,ey⟩:=HG.out.fine.mem hgb
   have fx:=zK0 (HG.out.fine.each x mx)
   have fy:=zK0 (HG.out.fine.each y my)
   have hxn:x.name.size≤maxLen:=by have:=yG6 fx.1;rw [show x.name.data.toList.length=x.name.size from rfl] at this;unfold maxLen;omega
   have hyn:y.name.size≤maxLen:=by have:=yG6 fy.1;rw [show y.name.data.toList.length=y.name.size from rfl] at this;unfold maxLen;omega
   have hxt:x.text.size≤maxLen:=by have:=fx.2.1;unfold maxLen;omega
   have hyt:y.text.size≤maxLen:=by have:=fy.2.1;unfold maxLen;omega
   have rx1:=fx.2.2.1
   have rx2:=fx.2.2.2
   have ry1:=fy.2.2.1
   have ry2:=fy.2.2.2
   clear ex my ey fx fy
   by_cases h9:x.times=9999∨y.times=9999
   · have HD:Hid (zC0 q a b=(zD6,7)):=hid (by unfold zC0;rw [hga,hgb];dsimp only;rw [if_pos h9])
     clear hga hgb
     by_cases h9x:x.times=9999
     · have hbx:(x.times==9999)=true:=by simpa using h9x
       clear h9 h9x
       go_enter Tryz.func69, Tryz.ntmps69
       go_wp2_with fail
       rw [←HW2.out]
       refine (CG.out _ HB2.out).mono ?_
       rintro e w3 ⟨rfl,hb3⟩
       have BF:=hid (zF0 w3 x)
       have FZ:=hid (zJ4 w3 x)
       have HS3:=hid hb3.size
       have HB3:=hid (two hb3 (zA0 w3 (.cells #[.string x.name, .string x.text, .int .i64 x.times] 102)))
       obtain ⟨z0,z1,z2,z3,z4,z5,hns⟩:=HBX.out _ HB3.out
       clear hb3 hns
       go_wp2_with fail
       refine (CH.out _ (two HB2.out HB3.out)).mono ?_
       rintro e w4 ⟨rfl,hb4⟩
       have BG:=hid (zF0 w4 y)
       have GZ:=hid (zJ4 w4 y)
       have HC4:=hid (two hb4 (zA0 w4 (.cells #[.string y.name, .string y.text, .int .i64 y.times] 102)))
       have HS4:Hid (w3.heap.size<w4.heap.size):=hid (by have:=hb4.size;simp at this;omega)
       have HB4:=hid (two HB3.out HC4.out)
       clear hb4 z0 z1 z2 z3 z4 z5
       obtain ⟨z0,z1,z2,z3,z4,z5,hns⟩:=HBX.out _ HB4.out
       obtain ⟨x0,x1,x2⟩:=BF.out _ HC4.out
       obtain ⟨y0,y1,y2⟩:=BG.out _ (Below.refl _ _)
       clear hns
       go_wp2_with fail
       refine bodyPost_ret (v:= .tuple #[.agg #[.slice none 0 0, .int .i64 0],zE6 7]) (by simp [zE6,results, Tryz.results69,go_sem,z0,z1,z2,z3,z4,z5]) rfl ?_
       exact ⟨_,by rw [HD.out];try rfl,by rw [HD.out];exact ⟨_,rfl,Rd.nil _,zH5 _⟩,((two HB2.out HB4.out).setCell (p:=⟨w.heap.size+1,0,none⟩) (by simp) (.slice none 0 0)).setCell (p:=⟨w.heap.size+1,1,none⟩) (by simp) (.int .i64 0)⟩
     · have hbx:(x.times==9999)=false:=by simpa using h9x
       have hby:(y.times==9999)=true:=by simp;omega
       clear h9 h9x
       go_enter Tryz.func69, Tryz.ntmps69
       go_wp2_with fail
       rw [←HW2.out]
       refine (CG.out _ HB2.out).mono ?_
       rintro e w3 ⟨rfl,hb3⟩
       have BF:=hid (zF0 w3 x)
       have FZ:=hid (zJ4 w3 x)
       have HS3:=hid hb3.size
       have HB3:=hid (two hb3 (zA0 w3 (.cells #[.string x.name, .string x.text, .int .i64 x.times] 102)))
       obtain ⟨z0,z1,z2,z3,z4,z5,hns⟩:=HBX.out _ HB3.out
       clear hb3 hns
       go_wp2_with fail
       refine (CH.out _ (two HB2.out HB3.out)).mono ?_
       rintro e w4 ⟨rfl,hb4⟩
       have BG:=hid (zF0 w4 y)
       have GZ:=hid (zJ4 w4 y)
       have HC4:=hid (two hb4 (zA0 w4 (.cells #[.string y.name, .string y.text, .int .i64 y.times] 102)))
       have HS4:Hid (w3.heap.size<w4.heap.size):=hid (by have:=hb4.size;simp at this;omega)
       have HB4:=hid (two HB3.out HC4.out)
       clear hb4 z0 z1 z2 z3 z4 z5
       obtain ⟨z0,z1,z2,z3,z4,z5,hns⟩:=HBX.out _ HB4.out
       obtain ⟨x0,x1,x2⟩:=BF.out _ HC4.out
       obtain ⟨y0,y1,y2⟩:=BG.out _ (Below.refl _ _)
       clear hns
       go_wp2_with fail
       refine bodyPost_ret (v:= .tuple #[.agg #[.slice none 0 0, .int .i64 0],zE6 7]) (by simp [zE6,results, Tryz.results69,go_sem,z0,z1,z2,z3,z4,z5]) rfl ?_
       exact ⟨_,by rw [HD.out];try rfl,by rw [HD.out];exact ⟨_,rfl,Rd.nil _,zH5 _⟩,((two HB2.out HB4.out).setCell (p:=⟨w.heap.size+1,0,none⟩) (by simp) (.slice none 0 0)).setCell (p:=⟨w.heap.size+1,1,none⟩) (by simp) (.int .i64 0)⟩
   · have hbx:(x.times==9999)=false:=by simp;omega
     have hby:(y.times==9999)=false:=by simp;omega
     cases hab:(a.toList==b.toList)
     · have HD:Hid (zC0 q a b=zD5 q (q.files.map (zN3 a b x y),0)):=hid (by unfold zC0;rw [hga,hgb];dsimp only;rw [if_neg h9,if_neg (by simp [hab])])
       have hxm:x.times+1≤10000:=by omega
       have hym:y.times+1≤10000:=by omega
       obtain ⟨l1,hp1,hl1,hp2⟩:=xS1 HG.out.fine hga hgb hab h9
       have CP:=fun W hb=>yC6 _ q.files ⟨x.name,y.text,x.times+1⟩ W (HF.out.below hb) ⟨hxn,hyt⟩ HG.out.fine.len HG.out.fine.rises
       have CR:=fun lv W h=>yC6 lv l1 ⟨y.name,x.text,y.times+1⟩ W h ⟨hyn,hxt⟩ hl1.len hl1.rises
       rw [hp1] at CP
       rw [hp2] at CR
       unfold zX0 File.val at CP CR
       rw [show zE6 (((l1,0):List File × Nat).2)=Value.nilIface from rfl] at CP
       replace CP:=hid CP
       replace CR:=hid CR
       clear hp1 hp2 hl1
       have CN:=hid fun W lv (hb:Below w.heap.size w W) h hfr=>zT0 B (.agg #[.slice ao q.files.length ca, .int .i64 q.turn]) q lv (q.files.map (zN3 a b x y)) 0 W ⟨_,rfl,HF.out.below hb⟩ h HG.out.lo HG.out.hi hfr
       unfold yE6 at CN
       clear hga hgb h9
       go_enter Tryz.func69, Tryz.ntmps69
       go_wp2_with fail
       rw [←HW2.out]
       refine (CG.out _ HB2.out).mono ?_
       rintro e w3 ⟨rfl,hb3⟩
       have BF:=hid (zF0 w3 x)
       have FZ:=hid (zJ4 w3 x)
       have HS3:=hid hb3.size
       have HB3:=hid (two hb3 (zA0 w3 (.cells #[.string x.name, .string x.text, .int .i64 x.times] 102)))
       obtain ⟨z0,z1,z2,z3,z4,z5,hns⟩:=HBX.out _ HB3.out
       clear hb3 hns
       go_wp2_with fail
       refine (CH.out _ (two HB2.out HB3.out)).mono ?_
       rintro e w4 ⟨rfl,hb4⟩
       have BG:=hid (zF0 w4 y)
       have GZ:=hid (zJ4 w4 y)
       have HC4:=hid (two hb4 (zA0 w4 (.cells #[.string y.name, .string y.text, .int .i64 y.times] 102)))
       have HS4:Hid (w3.heap.size<w4.heap.size):=hid (by have:=hb4.size;simp at this;omega)
       have HB4:=hid (two HB3.out HC4.out)
       clear hb4 z0 z1 z2 z3 z4 z5
       obtain ⟨z0,z1,z2,z3,z4,z5,hns⟩:=HBX.out _ HB4.out
       obtain ⟨x0,x1,x2⟩:=BF.out _ HC4.out
       obtain ⟨y0,y1,y2⟩:=BG.out _ (Below.refl _ _)
       clear hns
       have u0:=FZ.out _ HC4.out 1
       have u1:=FZ.out _ HC4.out 2
       have u2:=GZ.out _ (Below.refl _ _) 1
       have u3:=GZ.out _ (Below.refl _ _) 2
       have hne:=Nat.ne_of_lt HS4.out
       go_wp2_with fail
       go_region
       go_wp2_with fail
       obtain ⟨W5,hW5⟩:∃W5,W5=(((((w4.alloc (.cells #[.string y.name, .string y.text, .int .i64 y.times] 102)).setCell ⟨w3.heap.size,1,none⟩ (.string y.text)).setCell ⟨w4.heap.size,1,none⟩ (.string x.text)).setCell ⟨w3.heap.size,2,none⟩ (.int .i64 (x.times+1))).setCell ⟨w4.heap.size,2,none⟩ (.int .i64 (y.times+1))).drew:=⟨_,rfl⟩
       rw [←hW5]
       have hs34:=Nat.le_trans HS3.out (Nat.le_of_lt HS4.out)
       have HB5:=hid (show Below W2.heap.size W2 W5 by rw [hW5];exact ((((HB4.out.setCell (p:=⟨w3.heap.size,1,none⟩) HS3.out _).setCell (p:=⟨w4.heap.size,1,none⟩) hs34 _).setCell (p:=⟨w3.heap.size,2,none⟩) HS3.out _).setCell (p:=⟨w4.heap.size,2,none⟩) hs34 _).drew)
       have HE5:Hid (W5.heap.size=w4.heap.size+1):=hid (by rw [hW5];simp [World.drew,World.setCell])
       have hne' :¬w4.heap.size=w3.heap.size:=fun h=>hne h.symm
       have k0:W5.cell? ⟨w4.heap.size,0,none⟩=some (.string y.name):=by rw [hW5];simp [go_sem,y0,y1,y2,hne,hne']
       have k1:W5.cell? ⟨w4.heap.size,1,none⟩=some (.string x.text):=by rw [hW5];simp [go_sem,y0,y1,y2,hne,hne']
       have k2:W5.cell? ⟨w4.heap.size,2,none⟩=some (.int .i64 (y.times+1)):=by rw [hW5];simp [go_sem,y0,y1,y2,hne,hne']
       have BY5:Hid (BoxF w4.heap.size ⟨y.name,x.text,y.times+1⟩ W5):=hid (box_of (by rw [HE5.out];omega) k0 k1 k2)
       clear hW5 hs34 hne' k0 k1 k2 x0 x1 x2 y0 y1 y2 u0 u1 u2 u3 hne z0 z1 z2 z3 z4 z5
       refine (CP.out _ (two HB2.out HB5.out)).mono ?_
       rintro e w6 ⟨lv1,rfl,hl1,hb6,_⟩
       have HL1:=hid hl1
       have HB6:=hid (two HB5.out hb6)
       obtain ⟨y0,y1,y2⟩:=BY5.out _ hb6
       clear hl1 hb6
       go_wp2_with fail
       refine (CR.out _ _ HL1.out).mono ?_
       rintro e w7 ⟨lv2,rfl,hl2,hb7,hfr7⟩
       have HFR:=hid (hfr7.mono (Nat.le_trans HBW.out (two HB2.out HB6.out).size))
       clear hfr7
       have HL:=hid hl2
       have HB7:=hid (two HB6.out hb7)
       clear hl2 hb7 y0 y1 y2
       obtain ⟨z0,z1,z2,z3,z4,z5,hns⟩:=HBX.out _ HB7.out
       clear hns
       go_wp2_with fail
       refine (CN.out _ _ (two HB2.out HB7.out) HL.out HFR.out).mono ?_
       rintro e w8 ⟨qv',rfl,⟨v',rfl,hf',hfr'⟩,hb8⟩
       obtain ⟨ao',ca',rfl,_,_⟩:=hf'.parts
       have HFR2:=hid hfr'
       clear hfr'
       have HF' :=hid hf'
       have HB8:=hid (two HB7.out hb8)
       clear hf' hb8 z0 z1 z2 z3 z4 z5
       obtain ⟨z0,z1,z2,z3,z4,z5,hns⟩:=HBX.out _ HB8.out
       have HNS:=hid hns
       clear hns
       go_wp2_with fail
       have HBF:=((two HB2.out HB8.out).setCell (p:=⟨w.heap.size+1,0,none⟩) (by simp) (.slice ao' (zD5 q (q.files.map (zN3 a b x y),0)).1.files.length ca')).setCell (p:=⟨w.heap.size+1,1,none⟩) (by simp) (.int .i64 (zD5 q (q.files.map (zN3 a b x y),0)).1.turn)
       refine bodyPost_ret (v:= .tuple #[.agg #[.slice ao' (zD5 q (q.files.map (zN3 a b x y),0)).1.files.length ca', .int .i64 (zD5 q (q.files.map (zN3 a b x y),0)).1.turn],zE6 (zD5 q (q.files.map (zN3 a b x y),0)).2]) (by simp [results, Tryz.results69,go_sem,z0,z1,z2,z3,z4,z5]) rfl ?_
       exact ⟨_,by rw [HD.out],by rw [HD.out];exact zI8 HF'.out HNS.out (zD9 HF'.out) HFR2.out,HBF⟩
     · have HD:Hid (zC0 q a b=zD5 q (q.files,0)):=hid (by unfold zC0;rw [hga,hgb];dsimp only;rw [if_neg h9,if_pos hab])
       clear hga hgb h9
       obtain ⟨p,hp⟩:∃p:List File × Nat,p=(q.files,0):=⟨_,rfl⟩
       rw [←hp] at HD
       have CN:=hid fun W lv (hb:Below w.heap.size w W) h hfr=>zT0 B (.agg #[.slice ao q.files.length ca, .int .i64 q.turn]) q lv p.1 p.2 W ⟨_,rfl,HF.out.below hb⟩ h HG.out.lo HG.out.hi hfr
       unfold yE6 at CN
       have CC:=hid fun W hb=>yM6 _ q.files W (HF.out.below hb) HG.out.fine.len
       have hp1:p.1=q.files:=by rw [hp]
       have hp2:p.2=0:=by rw [hp]
       rw [hp1,hp2] at CN
       rw [show (q.files,0)=p from hp.symm,zD2] at CN
       replace CN:=CN
       have HSK:Hid (∀W,Below W2.heap.size W2 W→W.cell? ⟨w.heap.size,0,none⟩=some (.slice ao q.files.length ca)∧W.cell? ⟨w.heap.size,1,none⟩=some (.int .i64 q.turn)∧W.cell? ⟨w.heap.size+1,0,none⟩=some (.slice none 0 0)∧W.cell? ⟨w.heap.size+1,1,none⟩=some (.int .i64 0)∧W.frozen? ⟨w.heap.size+1,0,none⟩=false∧W.frozen? ⟨w.heap.size+1,1,none⟩=false):=hid fun W hb=>by
        obtain ⟨z0,z1,z2,z3,z4,z5,_⟩:=HBX.out W hb
        exact ⟨z0,z1,z2,z3,z4,z5⟩
       clear hp hp1 hp2
       go_enter Tryz.func69, Tryz.ntmps69
       go_wp2_with fail
       rw [←HW2.out]
       refine (CG.out _ HB2.out).mono ?_
       rintro e w3 ⟨rfl,hb3⟩
       have BF:=hid (zF0 w3 x)
       have FZ:=hid (zJ4 w3 x)
       have HS3:=hid hb3.size
       have HB3:=hid (two hb3 (zA0 w3 (.cells #[.string x.name, .string x.text, .int .i64 x.times] 102)))
       obtain ⟨z0,z1,z2,z3,z4,z5,hns⟩:=HBX.out _ HB3.out
       clear hb3 hns
       go_wp2_with fail
       refine (CH.out _ (two HB2.out HB3.out)).mono ?_
       rintro e w4 ⟨rfl,hb4⟩
       have BG:=hid (zF0 w4 y)
       have GZ:=hid (zJ4 w4 y)
       have HC4:=hid (two hb4 (zA0 w4 (.cells #[.string y.name, .string y.text, .int .i64 y.times] 102)))
       have HS4:Hid (w3.heap.size<w4.heap.size):=hid (by have:=hb4.size;simp at this;omega)
       have HB4:=hid (two HB3.out HC4.out)
       clear hb4 z0 z1 z2 z3 z4 z5
       obtain ⟨z0,z1,z2,z3,z4,z5,hns⟩:=HBX.out _ HB4.out
       obtain ⟨x0,x1,x2⟩:=BF.out _ HC4.out
       obtain ⟨y0,y1,y2⟩:=BG.out _ (Below.refl _ _)
       clear hns
       have hgo:True:=trivial
       go_wp2_with fail
       clear x0 x1 x2 y0 y1 y2
       have ED:=hid HB4.out.drew
       clear BF FZ BG GZ HC4 HB3 CG CH
       go_region_held3 (fun W=>W.cell? ⟨w.heap.size,0,none⟩=some (.slice ao q.files.length ca)∧W.cell? ⟨w.heap.size,1,none⟩=some (.int .i64 q.turn))
        (first
         | exact ⟨(HSK.out _ ED.out).1,(HSK.out _ ED.out).2.1⟩
         | exact ⟨(HSK.out _ (HE1:Hid _).out).1,(HSK.out _ (HE1:Hid _).out).2.1⟩
         | (have h:=HSK.out _ (HE1:Hid _).out;simp [go_sem,h.1,h.2.1]))
        (first
         | (go_at_call 116;refine (CC.out _ (two HB2.out ED.out)).mono ?_;rintro e wA ⟨va,rfl,hoa,hba⟩;have HE1:=hid (two ED.out hba);have HVA:=hid (SL.of_own hoa:Files wA va q.files);have HFR:=hid ((yH5 hoa).mono (Nat.le_trans HBW.out (two HB2.out ED.out).size));clear hoa hba)
         | (go_at_call 113;refine (CN.out _ _ (two HB2.out HE1.out) HVA.out HFR.out).mono ?_;rintro e wB ⟨qv',rfl,⟨v',rfl,hf',hfr'⟩,hbb⟩;obtain ⟨ao',ca',rfl,_,_⟩:=hf'.parts;have HFR2:=hid hfr';clear hfr';have HF' :=hid hf';have HE0:=HE1;clear HE1;have HE1:=hid (two HE0.out hbb);clear HE0 hf' hbb z0 z1 z2 z3 z4 z5;obtain ⟨z0,z1,z2,z3,z4,z5⟩:=HSK.out _ HE1.out))
       all_goals
        have HNS:=hid ((HBX.out _ HE1.out).2.2.2.2.2.2)
        go_wp2_with fail
        have HBF:=((two HB2.out HE1.out).setCell (p:=⟨w.heap.size+1,0,none⟩) (by simp) (.slice ao' (zD5 q p).1.files.length ca')).setCell (p:=⟨w.heap.size+1,1,none⟩) (by simp) (.int .i64 (zD5 q p).1.turn)
        refine bodyPost_ret (v:= .tuple #[.agg #[.slice ao' (zD5 q p).1.files.length ca', .int .i64 (zD5 q p).1.turn],zE6 (zD5 q p).2]) (by simp [results, Tryz.results69,go_sem,z0,z1,z2,z3,z4,z5]) rfl ?_
        exact ⟨_,by rw [HD.out],by rw [HD.out];exact zI8 HF'.out HNS.out (zD9 HF'.out) HFR2.out,HBF⟩

open Go.RowKit Go.Sort
def RetQV (B:Nat)(W0:World)(q:Quilt)(n:Nat)(w:World)(e:Ending)(w' :World):Prop:=∃qv,e= .returned (.tuple #[qv,zE6 n])∧zT6 B W0 qv q∧Below w.heap.size w w'
theorem vV8 (B:Nat)(W0:World)(tv:TrioV)(t:Trio)(w:World)(ht:IsTrio W0 tv t)(hb0:Below W0.heap.size W0 w)(hfr:Fresh B tv.a.v∧Fresh B tv.b.v∧Fresh B tv.c.v):
 Calls Tryz.prog 29 #[tv.val] w (RetQV B W0 (yA7 t) (yA8 t) w):=by
 have HT:=hid (ht.below hb0)
 have HT0:=hid ht
 clear hb0
 have hidx:∀(k:Nat) (h:k<tv.list.length) (W:World),(Instr.index 53 tv.val (.int .i64 k)).run Tryz.prog W= .ok (.agg #[.bool tv.list[k].is,tv.list[k].v, .int .i64 tv.list[k].turn]) W:=by
  intro k h W
  match k,h with
  | 0,_=>exact index_trio0 ..
  | 1,_=>exact index_trio1 ..
  | 2,_=>exact index_trio2 ..
 clear ht
 obtain ⟨W2,hW2⟩:∃W2,W2=(w.alloc (.cells tv.arr 53)).alloc (.cells #[.slice none 0 0, .int .i64 0] 32):=⟨_,rfl⟩
 have B2:Below w.heap.size w W2:=by rw [hW2];exact two (zA0 w _) (zA0 _ _)
 have hrd:CopyVs W2 (.slice (some ⟨w.heap.size,0,none⟩) 3 3) tv.list:=trio_rd tv fun j u hj=>by
  rw [hW2]
  simp only [TrioV.arr] at hj ⊢
  match j,hj with
  | 0,hj | 1,hj | 2,hj | 3,hj | 4,hj | 5,hj | 6,hj | 7,hj | 8,hj=>simp at hj;subst hj;simp
 have g0:W2.cell? ⟨w.heap.size+1,0,none⟩=some (.slice none 0 0):=by rw [hW2];simp
 have g1:W2.cell? ⟨w.heap.size+1,1,none⟩=some (.int .i64 0):=by rw [hW2];simp
 have g2:W2.frozen? ⟨w.heap.size+1,0,none⟩=false:=by rw [hW2];simp
 have g3:W2.frozen? ⟨w.heap.size+1,1,none⟩=false:=by rw [hW2];simp
 have hz:W2.heap.size=w.heap.size+2:=by rw [hW2];simp
 have HL:=hid ((HT.out.list.below B2))
 have hlen:tv.list.length=3:=rfl
 have hlen2:t.list.length=3:=rfl
 obtain ⟨⟨a0,a1,a2⟩,⟨b0,b1,b2⟩,⟨d0,d1,d2⟩⟩:=tv
 unfold TrioV.val TrioV.arr at *
 obtain ⟨L,hL⟩:∃L,L=TrioV.list ⟨⟨a0,a1,a2⟩,⟨b0,b1,b2⟩,⟨d0,d1,d2⟩⟩:=⟨_,rfl⟩
 have HL0:IsCopies W0 L t.list:=by rw [hL];exact HT0.out.list
 have HP0:∀i (h:i<L.length),Fresh B L[i].v:=by
  rw [hL]
  intro i h
  match i,h with
  | 0,_=>exact hfr.1
  | 1,_=>exact hfr.2.1
  | 2,_=>exact hfr.2.2
 clear hfr
 replace HP0:=hid HP0
 rw [←hL] at hidx HL hrd hlen
 replace HL0:=hid HL0
 have PA:=HT.out.1.2.2.parts
 have PB:=HT.out.2.1.2.2.parts
 have PD:=HT.out.2.2.2.2.parts
 have HIDX:=hid hidx
 have HRD:=hid hrd
 have HW2:=hid hW2
 have HZ:=hid hz
 have HLEN:=hid hlen
 have HLEN2:=hid hlen2
 replace g0:=hid g0
 replace g1:=hid g1
 replace g2:=hid g2
 replace g3:=hid g3
 replace B2:=hid B2
 clear HT0
 dsimp only at PA PB PD
 obtain ⟨a3,a4,rfl,_,_⟩:=PA
 obtain ⟨b3,b4,rfl,_,_⟩:=PB
 obtain ⟨d3,d4,rfl,_,_⟩:=PD
 generalize t.a.quilt.files.length=a5,t.b.quilt.files.length=b5,t.c.quilt.files.length=d5 at *
 clear hL hidx hrd hW2 hz hlen hlen2
 go_enter Tryz.func29, Tryz.ntmps29
 go_wp2_with fail
 rw [←HW2.out]
 go_loopw [4,8] (fun o i wr=>∃k:Nat,k≤3∧i= .int .i64 k∧o= .int .i64 (zM9 t k)∧(∀i,i<k→yK6 t i=false)∧Below W2.heap.size W2 wr) (fun _ i _=>3 - (intOf i).toNat)
 case atStart=>exact ⟨0,Nat.zero_le _,rfl,rfl,fun _ h=>by omega,Below.refl _ _⟩
 case round=>
  obtain ⟨k,hk,rfl,rfl,htw,hbw⟩:=hrel
  obtain ⟨hc,hfz⟩:=zN2 hbw
  have r0:=(hc (w.heap.size+1) 0 (by rw [HZ.out];omega)).trans g0.out
  have r1:=(hc (w.heap.size+1) 1 (by rw [HZ.out];omega)).trans g1.out
  have r2:=(hfz (w.heap.size+1) 0 (by rw [HZ.out];omega)).trans g2.out
  have r3:=(hfz (w.heap.size+1) 1 (by rw [HZ.out];omega)).trans g3.out
  have hzr:w.heap.size+1<wr.heap.size:=by have:=hbw.size;rw [HZ.out] at this;omega
  have HTW:=hid htw
  have HW:=hid hbw
  have hbr:=yX3 t k
  clear htw hbw hc hfz
  by_cases hlt:k<3
  · have hk1:k<L.length:=by rw [HLEN.out];exact hlt
    have hk2:k<t.list.length:=hlt
    have hi:=HIDX.out k hk1
    have HC:Hid (IsCopy wr L[k] (t.at k)):=by rw [←Trio.list_at t k hk2];exact (HL.out.below HW.out).2 k hk1 hk2
    have HC0:Hid (IsCopy W0 L[k] (t.at k)):=by rw [←Trio.list_at t k hk2];exact HL0.out.2 k hk1 hk2
    have HCP:Hid (Fresh B L[k].v):=hid (HP0.out k hk1)
    generalize hcv:L[k]=cv at hi HC HC0 HCP
    obtain ⟨is,v,turn⟩:=cv
    obtain ⟨ao,n,hv,_,_⟩:=HC.out.2.2.parts
    dsimp only at hv hi
    subst hv
    have HCV:=hid hcv
    clear hcv
    have Bc:=zA0 wr (.cells #[.bool is, .slice ao (t.at k).quilt.files.length n, .int .i64 turn] 52)
    generalize (t.at k).quilt.files.length=len at *
    cases is
    · have HF:Hid ((t.at k).is=false):=HC.out.1.symm
      have HBN:=hid (uH8 t k _ rfl (vV0 t _ k HF.out))
      replace Bc:=hid Bc
      go_wp2_with fail
      go_roundw
      case rel=>exact ⟨k+1,by omega,by go_num,by rw [HBN.out],(fun i hi=>by rcases Nat.lt_succ_iff_lt_or_eq.1 hi with h | rfl;exact HTW.out i h;exact uJ6 t _ HF.out),two HW.out Bc.out⟩
      case measure=>simp [intOf];omega
    · have HF:Hid ((t.at k).is=true):=HC.out.1.symm
      have HTE:=hid (uJ7 t k hlt HF.out)
      have hst:=vP1 k hlt w.heap.size
      have HSL:=hid (vW0 HLEN.out ((HRD.out.below HW.out).below Bc) k hlt)
      have C:=yM0 (.slice (some ⟨w.heap.size,xN8 k,none⟩) (2 - k) (2 - k)) (L.drop (k+1)) (t.list.drop (k+1)) ⟨true, .slice ao len n,turn⟩ (t.at k) wr.heap.size (wr.alloc (.cells #[.bool true, .slice ao len n, .int .i64 turn] 52))
       HSL.out (((HL.out.below HW.out).below Bc).drop (k+1)) (HC.out.below Bc) (by simp) (by simp) (by simp)
      rw [←HTE.out] at C
      have HBc:=hid Bc
      obtain ⟨hBc,hBf⟩:=zN2 Bc
      have s0:=(hBc (w.heap.size+1) 0 hzr).trans r0
      have s1:=(hBc (w.heap.size+1) 1 hzr).trans r1
      have s2:=(hBf (w.heap.size+1) 0 hzr).trans r2
      have s3:=(hBf (w.heap.size+1) 1 hzr).trans r3
      clear Bc hBc hBf r0 r1 r2 r3
      by_cases htn:yK6 t k=true
      · rw [htn] at C
        have V:=hid (vN4 t k hlt HTW.out htn)
        replace C:=hid C
        clear htn
        go_wp2_with fail
        refine C.out.mono ?_
        rintro e w2 ⟨rfl,hb2⟩
        obtain ⟨hc2,hf2⟩:=zN2 hb2
        have z0:=hc2 wr.heap.size 1 (by simp)
        have z1:=hc2 wr.heap.size 2 (by simp)
        have z2:=(hc2 (w.heap.size+1) 0 (by simp;omega)).trans s0
        have z3:=(hc2 (w.heap.size+1) 1 (by simp;omega)).trans s1
        have z4:=(hf2 (w.heap.size+1) 0 (by simp;omega)).trans s2
        have z5:=(hf2 (w.heap.size+1) 1 (by simp;omega)).trans s3
        simp at z0 z1
        have HB2:=hid hb2
        clear hb2 hc2 hf2 s0 s1 s2 s3 hi
        go_wp2_with fail
        have HBF:=((two B2.out (two HW.out (two HBc.out HB2.out))).setCell (p:=⟨w.heap.size+1,0,none⟩) (by simp) (.slice ao len n)).setCell (p:=⟨w.heap.size+1,1,none⟩) (by simp) (.int .i64 turn)
        exact bodyPost_ret (v:= .tuple #[.agg #[.slice ao len n, .int .i64 turn], .nilIface]) (by simp [results, Tryz.results29,go_sem,z2,z3,z4,z5]) rfl
         ⟨_,by rw [V.out.2];rfl,by rw [V.out.1];exact ⟨_,by rw [←HC.out.2.1],HC0.out.2.2,HCP.out⟩,HBF⟩
      · have htn' :yK6 t k=false:=by simpa using htn
        rw [htn'] at C
        have HTN:=hid htn'
        replace C:=hid C
        clear htn htn' s0 s1 s2 s3
        by_cases hneg:zM9 t k<0
        · have HBY:=hid (vM9 t k _ rfl (vV1 t _ k HF.out hneg))
          go_wp2_with fail
          refine C.out.mono ?_
          rintro e w2 ⟨rfl,hb2⟩
          have HB2:=hid hb2
          clear hb2
          go_wp2_with fail
          refine zA6 (by kernel_rfl) (by kernel_rfl) ?_
          repeat (go_big_quiet_step (fail))
          refine wpQuiet_nil ?_
          intro w3 hb3
          have HB3:=hid hb3
          clear hb3
          go_wp2_with fail
          go_roundw
          case rel=>exact ⟨k+1,by omega,by go_num,by rw [HBY.out],(fun i hi=>by rcases Nat.lt_succ_iff_lt_or_eq.1 hi with h | rfl;exact HTW.out i h;exact HTN.out),two HW.out (two HBc.out (two HB2.out HB3.out))⟩
          case measure=>simp [intOf];omega
        · obtain ⟨m,hm⟩:∃m:Nat,zM9 t k=m:=⟨(zM9 t k).toNat,by omega⟩
          have hm1:m<L.length:=by rw [HLEN.out];omega
          have hm2:m<t.list.length:=by show m<3;omega
          obtain ⟨bm,om,em,_,m0,m1,m2⟩:=CopyVs.cell ((HRD.out.below HW.out).below HBc.out) m hm1
          simp only [Option.some.injEq,Addr.mk.injEq,and_true] at em
          obtain ⟨rfl,rfl⟩:=em
          have hdn:decide ((m:Int)<0)=false:=by simp
          have HM:=hid ((HL0.out).2 m hm1 hm2)
          have htm:L[m].turn=(t.at m).quilt.turn:=by rw [←Trio.list_at t m hm2];exact HM.out.2.1
          have htk:turn=(t.at k).quilt.turn:=HC.out.2.1
          rw [htm] at m2
          rw [Nat.zero_add] at m2
          rw [hm]
          rw [hm] at hneg hbr
          by_cases hgt:(t.at m).quilt.turn<turn
          · have HBY:=hid (vM9 t k m hm (by rw [xN2 t m k HF.out,←htk];simpa using hgt))
            clear hm htm htk m0 m1
            go_wp2_with fail
            refine C.out.mono ?_
            rintro e w2 ⟨rfl,hb2⟩
            obtain ⟨hc2,_⟩:=zN2 hb2
            have z1:=hc2 wr.heap.size 2 (by simp)
            simp at z1
            replace z1:=zA4 z1
            have z2:=zA4 ((hc2 w.heap.size (m * 3+2) (by simp;omega)).trans m2)
            have HB2:=hid hb2
            clear hb2 hc2 m2
            go_wp2_with fail
            refine zA6 (by kernel_rfl) (by kernel_rfl) ?_
            repeat (go_big_quiet_step (fail))
            refine wpQuiet_nil ?_
            intro w3 hb3
            have HB3:=hid hb3
            clear hb3
            go_wp2_with fail
            go_roundw
            case rel=>exact ⟨k+1,by omega,by go_num,by rw [HBY.out],(fun i hi=>by rcases Nat.lt_succ_iff_lt_or_eq.1 hi with h | rfl;exact HTW.out i h;exact HTN.out),two HW.out (two HBc.out (two HB2.out HB3.out))⟩
            case measure=>simp [intOf];omega
          · have HBY:=hid (uH8 t k m hm (by rw [xN2 t m k HF.out,←htk];simpa using hgt))
            clear hm htm htk m0 m1
            go_wp2_with fail
            refine C.out.mono ?_
            rintro e w2 ⟨rfl,hb2⟩
            obtain ⟨hc2,_⟩:=zN2 hb2
            have z1:=hc2 wr.heap.size 2 (by simp)
            simp at z1
            replace z1:=zA4 z1
            have z2:=zA4 ((hc2 w.heap.size (m * 3+2) (by simp;omega)).trans m2)
            have HB2:=hid hb2
            clear hb2 hc2 m2
            go_wp2_with fail
            refine zA6 (by kernel_rfl) (by kernel_rfl) ?_
            repeat (go_big_quiet_step (fail))
            refine wpQuiet_nil ?_
            intro w3 hb3
            have HB3:=hid hb3
            clear hb3
            go_wp2_with fail
            go_roundw
            case rel=>exact ⟨k+1,by omega,by go_num,by rw [HBY.out],(fun i hi=>by rcases Nat.lt_succ_iff_lt_or_eq.1 hi with h | rfl;exact HTW.out i h;exact HTN.out),two HW.out (two HBc.out (two HB2.out HB3.out))⟩
            case measure=>simp [intOf];omega
  · obtain rfl:k=3:=by omega
    have H0:=hid (HTW.out 0 (by omega))
    have H1:=hid (HTW.out 1 (by omega))
    by_cases hneg:zM9 t 3<0
    · have V:=hid (votedN t H0.out H1.out (by omega))
      go_wp2_with fail
      have HBF:=((two B2.out HW.out).setCell (p:=⟨w.heap.size+1,0,none⟩) (by simp) (.slice none 0 0)).setCell (p:=⟨w.heap.size+1,1,none⟩) (by simp) (.int .i64 0)
      exact bodyPost_ret (v:= .tuple #[.agg #[.slice none 0 0, .int .i64 0], .iface 73 (.int .i64 4)]) (by simp [results, Tryz.results29,go_sem,r0,r1,r2,r3]) rfl
       ⟨_,by rw [V.out.2];rfl,by rw [V.out.1];exact ⟨_,rfl,uC2 _,zH5 _⟩,HBF⟩
    · obtain ⟨m,hm⟩:∃m:Nat,zM9 t 3=m:=⟨(zM9 t 3).toNat,by omega⟩
      have hm1:m<L.length:=by rw [HLEN.out];omega
      have hm2:m<t.list.length:=by show m<3;omega
      have V:=hid (votedB t m H0.out H1.out hm)
      obtain ⟨bm,om,em,_,m0,m1,m2⟩:=CopyVs.cell (HRD.out.below HW.out) m hm1
      simp only [Option.some.injEq,Addr.mk.injEq,and_true] at em
      obtain ⟨rfl,rfl⟩:=em
      have HM:Hid (IsCopy W0 L[m] (t.at m)):=by rw [←Trio.list_at t m hm2];exact (HL0.out).2 m hm1 hm2
      rw [Nat.zero_add] at m1 m2
      have HMP:Hid (Fresh B L[m].v):=hid (HP0.out m hm1)
      generalize hcv:L[m]=cv at m1 m2 HM HMP
      obtain ⟨is,v,turn⟩:=cv
      obtain ⟨ao,n,hv,_,_⟩:=HM.out.2.2.parts
      dsimp only at hv m1 m2
      subst hv
      have HCV:=hid hcv
      clear hcv m0
      generalize (t.at m).quilt.files.length=len at *
      rw [hm]
      rw [hm] at hneg hbr
      clear hm
      go_wp2_with fail
      have HBF:=((two B2.out HW.out).setCell (p:=⟨w.heap.size+1,0,none⟩) (by simp) (.slice ao len n)).setCell (p:=⟨w.heap.size+1,1,none⟩) (by simp) (.int .i64 turn)
      exact bodyPost_ret (v:= .tuple #[.agg #[.slice ao len n, .int .i64 turn], .nilIface]) (by simp [results, Tryz.results29,go_sem,r0,r1,r2,r3]) rfl
       ⟨_,by rw [V.out.2];rfl,by rw [V.out.1];exact ⟨_,by rw [←HM.out.2.1],HM.out.2.2,HMP.out⟩,HBF⟩
end Go.Proofs.YtggpodlecljcbabGreatDoor
