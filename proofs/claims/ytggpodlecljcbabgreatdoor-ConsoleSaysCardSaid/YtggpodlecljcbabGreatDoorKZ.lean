/- (*strings.Builder).WriteString at this dump. -/
import Derived.Shelf.Strings.Builder1
import Derived.Shelf.Small.Strs
import Derived.Test.YtggpodlecljcbabGreatDoorShelf
import Derived.Test.YtggpodlecljcbabGreatDoorProg
import Derived.Deep.CutRange
import Derived.Test.YtggpodlecljcbabGreatDoorKSY
import Derived.Test.YtggpodlecljcbabGreatDoorKY7
namespace Go.Proofs
open Go.Shelf
def Tryz.laysB240_ren :Go.Shelf.Ren:=⟨fun | 166=> 165 | 240=> 202 | 276=> 233 | n=>n,fun | 0=> 0 | 3=> 3 | 4=> 4 | 9=> 9 | 20=> 20 | 37=> 112 | 5=> 5 | 70=> 212 | 72=> 214 | 75=> 38 | 80=> 98 | 164=> 267 | n=>n,fun | n=>n⟩
theorem Tryz.laysB240 :Go.Proofs.Lays.n240 Tryz.prog Tryz.laysB240_ren:= {
 mixed:=by kernel_rfl
 f240:= Tryz.func202.trans (congrArg some (by kernel_rfl))
 f276:= Tryz.func233.trans (congrArg some (by kernel_rfl))
 t0:= Tryz.underlying0
 a0:= Tryz.isAgg0
 z0:= Tryz.sizeOf0
 v0:= Tryz.zeroValue0
 t4:= Tryz.underlying4
 a4:= Tryz.isAgg4
 z4:= Tryz.sizeOf4
 v4:= Tryz.zeroValue4
 t9:= Tryz.underlying9
 a9:= Tryz.isAgg9
 z9:= Tryz.sizeOf9
 v9:= Tryz.zeroValue9
 t20:= Tryz.underlying20
 a20:= Tryz.isAgg20
 z20:= Tryz.sizeOf20
 v20:= Tryz.zeroValue20
 t70:= Tryz.underlying212
 a70:= Tryz.isAgg212
 z70:= Tryz.sizeOf212
 v70:= Tryz.zeroValue212
 t72:= Tryz.underlying214
 a72:= Tryz.isAgg214
 z72:= Tryz.sizeOf214
 v72:= Tryz.zeroValue214
 t164:= Tryz.underlying267
 a164:= Tryz.isAgg267
 z164:= Tryz.sizeOf267
 v164:= Tryz.zeroValue267 }
def Tryz.laysB166_ren :Go.Shelf.Ren:=⟨fun | 166=> 165 | 240=> 202 | 276=> 233 | n=>n,fun | 0=> 0 | 3=> 3 | 4=> 4 | 9=> 9 | 20=> 20 | 37=> 112 | 5=> 5 | 70=> 212 | 72=> 214 | 75=> 38 | 80=> 98 | 164=> 267 | n=>n,fun | n=>n⟩
theorem Tryz.laysB166 :Go.Proofs.Lays.n166 Tryz.prog Tryz.laysB166_ren:= {
 mixed:=by kernel_rfl
 f166:= Tryz.func165.trans (congrArg some (by kernel_rfl))
 f240:= Tryz.func202.trans (congrArg some (by kernel_rfl))
 f276:= Tryz.func233.trans (congrArg some (by kernel_rfl))
 t0:= Tryz.underlying0
 a0:= Tryz.isAgg0
 z0:= Tryz.sizeOf0
 v0:= Tryz.zeroValue0
 t3:= Tryz.underlying3
 a3:= Tryz.isAgg3
 z3:= Tryz.sizeOf3
 v3:= Tryz.zeroValue3
 t4:= Tryz.underlying4
 a4:= Tryz.isAgg4
 z4:= Tryz.sizeOf4
 v4:= Tryz.zeroValue4
 t9:= Tryz.underlying9
 a9:= Tryz.isAgg9
 z9:= Tryz.sizeOf9
 v9:= Tryz.zeroValue9
 t20:= Tryz.underlying20
 a20:= Tryz.isAgg20
 z20:= Tryz.sizeOf20
 v20:= Tryz.zeroValue20
 t37:= Tryz.underlying112
 a37:= Tryz.isAgg112
 z37:= Tryz.sizeOf112
 v37:= Tryz.zeroValue112
 t70:= Tryz.underlying212
 a70:= Tryz.isAgg212
 z70:= Tryz.sizeOf212
 v70:= Tryz.zeroValue212
 t72:= Tryz.underlying214
 a72:= Tryz.isAgg214
 z72:= Tryz.sizeOf214
 v72:= Tryz.zeroValue214
 t75:= Tryz.underlying38
 a75:= Tryz.isAgg38
 z75:= Tryz.sizeOf38
 v75:= Tryz.zeroValue38
 t164:= Tryz.underlying267
 a164:= Tryz.isAgg267
 z164:= Tryz.sizeOf267
 v164:= Tryz.zeroValue267 }
theorem Tryz.Builder_ExtraB :Builder.Extra Tryz.prog Tryz.laysB166_ren:= {
 sizeBuilder:=by kernel_rfl
 liesBuilder:=by kernel_rfl
 t5:= Tryz.underlying5
 a5:= Tryz.isAgg5
 z5:= Tryz.sizeOf5
 v5:= Tryz.zeroValue5
 infoByte:=by kernel_rfl
 cellsByte:=by kernel_rfl
 sizeByte:=by kernel_rfl
 neB5:=by decide }
open Go.RowKit in
theorem Tryz.Builder_WriteString (B b:Nat)(bs:List Value)(s:ByteArray)(w:World)(h:Lib.IsBuilder 214 5 B b bs w)(hlen:bs.length+s.size≤140737488355328)(hBw:B≤w.heap.size):
 Calls Tryz.prog 165 #[.pointer (some ⟨b,0,none⟩), .string s] w fun e w' =>e= .returned (.tuple #[.int .i64 s.size, .nilIface])∧(Lib.BuilderAt 214 5 B b (.pointer (some ⟨b,0,none⟩)) (bs++Lib.strCells s) w' ∧Below B w w'):=Any.Builder_WriteString Tryz.laysB166 Tryz.Builder_ExtraB B b bs s w h hlen hBw
end Go.Proofs
namespace Go.Proofs.YtggpodlecljcbabGreatDoor
set_option linter.unusedSimpArgs false
set_option linter.unusedVariables false
set_option maxRecDepth 100000
set_option maxHeartbeats 64000000
open Lib (hid)
open Go.RowKit Go.Sort
theorem vO3 (n:Nat)(w:World)(hn:n≤4000000000):
 Calls Tryz.prog 128 #[.int .i64 n] w fun e w' =>e= .returned (.string (zH0 n))∧Below w.heap.size w w' :=by
 have hcv:=xY8 n ((n:Int) % 256) ((n:Int) / 256 % 256) ((n:Int) / 65536 % 256) ((n:Int) / 16777216) (by omega) (by omega) (by omega) (by omega) w
 have hb:=zA0 w (.cells #[.int .u8 ((n:Int) % 256), .int .u8 ((n:Int) / 256 % 256), .int .u8 ((n:Int) / 65536 % 256), .int .u8 ((n:Int) / 16777216)] 5)
 go_enter Tryz.func128, Tryz.ntmps128
 go_wp2_with fail
 go_ret
 exact ⟨rfl,hb⟩
theorem wrap_i64 (n:Nat)(h:n<9223372036854775808):IntKind.i64.wrap (n:Int)=n:=by
 have h2:(n:Int) % 2 ^ 64=n:=by omega
 simp only [IntKind.wrap,IntKind.signed,IntKind.bits,h2]
 rw [if_neg (by simp;omega)]
theorem yN4 (a b:Nat)(ha:a<4294967296)(hb:b<4294967296):bits .or .i64 (a:Int) (b:Int)=((a ||| b:Nat):Int):=by
 have hx:a ||| b<2 ^ 32:=Nat.or_lt_two_pow (by omega) (by omega)
 have h1:(BitVec.ofInt 64 (a:Int)).toNat=a:=by
  rw [BitVec.ofInt_natCast,BitVec.toNat_ofNat];exact Nat.mod_eq_of_lt (by omega)
 have h2:(BitVec.ofInt 64 (b:Int)).toNat=b:=by
  rw [BitVec.ofInt_natCast,BitVec.toNat_ofNat];exact Nat.mod_eq_of_lt (by omega)
 show IntKind.i64.wrap ((BitVec.ofInt 64 (a:Int) ||| BitVec.ofInt 64 (b:Int)).toNat:Int)=_
 rw [BitVec.toNat_or,h1,h2]
 exact wrap_i64 _ (by omega)
theorem vD9 (a b k:Nat)(ha:a<2 ^ k):a ||| b * 2 ^ k=a+b * 2 ^ k:=by
 have:=Nat.two_pow_add_eq_or_of_lt ha b
 rw [Nat.or_comm,Nat.mul_comm b,←this,Nat.add_comm]
theorem or_four (a b c d:UInt8):bits .or .i64 (a.toNat:Int) ((b.toNat:Int) * 256)=(a.toNat:Int)+256 * (b.toNat:Int)∧bits .or .i64 ((a.toNat:Int)+256 * (b.toNat:Int)) ((c.toNat:Int) * 65536)=(a.toNat:Int)+256 * (b.toNat:Int)+65536 * (c.toNat:Int)
 ∧bits .or .i64 ((a.toNat:Int)+256 * (b.toNat:Int)+65536 * (c.toNat:Int)) ((d.toNat:Int) * 16777216)=(u4 a b c d:Int):=by
 have ha:=a.toNat_lt
 have hb:=b.toNat_lt
 have hc:=c.toNat_lt
 have hd:=d.toNat_lt
 refine ⟨?_,?_,?_⟩
 · have e:=vD9 a.toNat b.toNat 8 (by omega)
   rw [show ((b.toNat:Int) * 256)=((b.toNat * 2 ^ 8:Nat):Int) by omega,yN4 _ _ (by omega) (by omega),e]
   omega
 · have e:=vD9 (a.toNat+256 * b.toNat) c.toNat 16 (by omega)
   rw [show ((c.toNat:Int) * 65536)=((c.toNat * 2 ^ 16:Nat):Int) by omega,show (a.toNat:Int)+256 * (b.toNat:Int)=((a.toNat+256 * b.toNat:Nat):Int) by omega,yN4 _ _ (by omega) (by omega),e]
   omega
 · have e:=vD9 (a.toNat+256 * b.toNat+65536 * c.toNat) d.toNat 24 (by omega)
   rw [show ((d.toNat:Int) * 16777216)=((d.toNat * 2 ^ 24:Nat):Int) by omega,show (a.toNat:Int)+256 * (b.toNat:Int)+65536 * (c.toNat:Int)=((a.toNat+256 * b.toNat+65536 * c.toNat:Nat):Int) by omega,yN4 _ _ (by omega) (by omega),e]
   unfold u4
   omega
theorem xS4 (s:ByteArray)(hs:s.size=4)(w:World):
 Calls Tryz.prog 129 #[.string s] w fun e w' =>e= .returned (.int .i64 (u4 (s[0]'(by omega)) (s[1]'(by omega)) (s[2]'(by omega)) (s[3]'(by omega))))∧w' =w.drew:=by
 obtain ⟨o1,o2,o3⟩:=or_four (s[0]'(by omega)) (s[1]'(by omega)) (s[2]'(by omega)) (s[3]'(by omega))
 obtain ⟨U,hU⟩:∃U,U=u4 (s[0]'(by omega)) (s[1]'(by omega)) (s[2]'(by omega)) (s[3]'(by omega)):=⟨_,rfl⟩
 have a1:(s[0]'(by omega)).toNat≤255:=by have:=(s[0]'(by omega)).toNat_lt;omega
 have b1:(s[1]'(by omega)).toNat≤255:=by have:=(s[1]'(by omega)).toNat_lt;omega
 have c1:(s[2]'(by omega)).toNat≤255:=by have:=(s[2]'(by omega)).toNat_lt;omega
 have d1:(s[3]'(by omega)).toNat≤255:=by have:=(s[3]'(by omega)).toNat_lt;omega
 rw [←hU] at o3 ⊢
 clear hU
 go_enter Tryz.func129, Tryz.ntmps129
 go_wp2_with fail
 go_region
 go_wp2_with fail
 go_ret
 exact ⟨rfl,rfl⟩
theorem yJ8 (s:ByteArray)(i j k:Nat)(h:i+k<s.size)(h2:i+k<j)(h3:k<(s.extract i j).size):(s.extract i j)[k]=s[i+k]:=by
 rw [zU5,zU5 s]
 simp only [zH6]
 rw [List.getElem_drop,List.getElem_take]
def xH5 (t:ByteArray):Nat:=if h:t.size=4 then u4 (t[0]'(by omega)) (t[1]'(by omega)) (t[2]'(by omega)) (t[3]'(by omega)) else 0
theorem vW9 (t:ByteArray)(h:t.size=4)(w:World):Calls Tryz.prog 129 #[.string t] w fun e w' =>e= .returned (.int .i64 (xH5 t))∧w' =w.drew:=by
 have:=xS4 t h w
 unfold xH5
 rw [dif_pos h]
 exact this
theorem vI8 (s:ByteArray)(i j:Nat)(hj:j=i+4)(hs:i+4≤s.size):xH5 (s.extract i j)=u4 (s[i]'(by omega)) (s[i+1]'(by omega)) (s[i+2]'(by omega)) (s[i+3]'(by omega)):=by
 subst hj
 have hz:(s.extract i (i+4)).size=4:=by rw [ByteArray.size_extract];omega
 unfold xH5
 rw [dif_pos hz,yJ8 s i (i+4) 0 (by omega) (by omega) (by omega),yJ8 s i (i+4) 1 (by omega) (by omega) (by omega),yJ8 s i (i+4) 2 (by omega) (by omega) (by omega),yJ8 s i (i+4) 3 (by omega) (by omega) (by omega)]
 rfl
theorem vI7 (t:ByteArray):xH5 t<4294967296:=by
 unfold xH5
 split
 · exact u4_lt _ _ _ _
 · decide
theorem head_at (s:ByteArray)(hs:s.size=40):headOf s.data.toList=zY5 (s[0]'(by omega)) ⟨u4 (s[1]'(by omega)) (s[2]'(by omega)) (s[3]'(by omega)) (s[4]'(by omega)),u4 (s[5]'(by omega)) (s[6]'(by omega)) (s[7]'(by omega)) (s[8]'(by omega)),u4 (s[9]'(by omega)) (s[10]'(by omega)) (s[11]'(by omega)) (s[12]'(by omega)),u4 (s[13]'(by omega)) (s[14]'(by omega)) (s[15]'(by omega)) (s[16]'(by omega))⟩:=by
 have hl:=zI7 s
 rw [hs] at hl
 have hx:∀(l:List UInt8) (h:l.length=40),headOf l=zY5 (l[0]'(by omega)) ⟨u4 (l[1]'(by omega)) (l[2]'(by omega)) (l[3]'(by omega)) (l[4]'(by omega)),u4 (l[5]'(by omega)) (l[6]'(by omega)) (l[7]'(by omega)) (l[8]'(by omega)),u4 (l[9]'(by omega)) (l[10]'(by omega)) (l[11]'(by omega)) (l[12]'(by omega)),u4 (l[13]'(by omega)) (l[14]'(by omega)) (l[15]'(by omega)) (l[16]'(by omega))⟩:=fun l h=>by
  match l,h with
  | x::a0::a1::a2::a3::b0::b1::b2::b3::c0::c1::c2::c3::d0::d1::d2::d3::r,_=>rfl
 rw [hx _ hl]
 simp only [zU5]
def Hd.val (h:Hd):Value:= .agg #[.int .i64 h.epoch, .int .i64 h.side, .int .i64 h.size, .int .i64 h.first]
theorem xS5 (s:ByteArray)(hs:s.size=40)(w:World):
 Calls Tryz.prog 91 #[.string s] w fun e w' =>e= .returned (headOf s.data.toList).val∧Below w.heap.size w w' :=by
 have hh:=head_at s hs
 rw [←vI8 s 1 5 rfl (by omega),←vI8 s 5 9 rfl (by omega),←vI8 s 9 13 rfl (by omega),←vI8 s 13 17 rfl (by omega)] at hh
 have U:=hid vW9
 have z1:(s.extract 1 5).size=4:=by rw [ByteArray.size_extract];omega
 have z2:(s.extract 5 9).size=4:=by rw [ByteArray.size_extract];omega
 have z3:(s.extract 9 13).size=4:=by rw [ByteArray.size_extract];omega
 have z4:(s.extract 13 17).size=4:=by rw [ByteArray.size_extract];omega
 have a1:=vI7 (s.extract 1 5)
 have b1:=vI7 (s.extract 5 9)
 have c1:=vI7 (s.extract 9 13)
 have d1:=vI7 (s.extract 13 17)
 obtain ⟨x,hx⟩:∃x,x=s[0]'(by omega):=⟨_,rfl⟩
 rw [←hx] at hh
 rw [hh]
 obtain ⟨R,hR⟩:∃R,R=zY5 x ⟨xH5 (s.extract 1 5),xH5 (s.extract 5 9),xH5 (s.extract 9 13),xH5 (s.extract 13 17)⟩:=⟨_,rfl⟩
 rw [←hR]
 have HR:=hid hR
 have HX:=hid hx
 have hx1:(s[0]'(by omega)).toNat≤255:=by have:=(s[0]'(by omega)).toNat_lt;omega
 clear hh hR hx
 go_enter Tryz.func91, Tryz.ntmps91
 go_upto_region 1 with fail
 go_cut [3] from 4 (fun s3 wx=>s3= .pointer (some ⟨w.heap.size+1,0,none⟩)∧wx=((w.alloc (.cells #[.int .i64 0, .int .i64 0, .int .i64 0, .int .i64 0] 140)).alloc (.cells #[.int .i64 (xH5 (s.extract 1 5)), .int .i64 (xH5 (s.extract 5 9)), .int .i64 (xH5 (s.extract 9 13)), .int .i64 (xH5 (s.extract 13 17))] 140)).drew.drew.drew.drew.drew)
 case first=>
  go_region_law (first
   | (go_simp;go_at_call 129;refine (U.out _ (by assumption) _).mono ?_;rintro e wA ⟨rfl,rfl⟩))
  all_goals (go_wp2_with fail;go_meet;exact ⟨rfl,rfl⟩)
 case rest=>
 obtain ⟨rfl,rfl⟩:=hcut
 have hbb:Below w.heap.size w ((w.alloc (.cells #[.int .i64 0, .int .i64 0, .int .i64 0, .int .i64 0] 140)).alloc (.cells #[.int .i64 (xH5 (s.extract 1 5)), .int .i64 (xH5 (s.extract 5 9)), .int .i64 (xH5 (s.extract 9 13)), .int .i64 (xH5 (s.extract 13 17))] 140)).drew.drew.drew.drew.drew:=(two (zA0 _ _) (zA0 _ _)).drew.drew.drew.drew.drew
 have HBB:=hid hbb
 clear hbb
 generalize xH5 (s.extract 1 5)=a at *
 generalize xH5 (s.extract 5 9)=b at *
 generalize xH5 (s.extract 9 13)=c at *
 generalize xH5 (s.extract 13 17)=d at *
 clear z1 z2 z3 z4 U
 by_cases h1:x.toNat=72
 rotate_left
 · have k1:((s[0].toNat:Int) != 72)=true:=by rw [←HX.out];simp;omega
   have hz:R=zV3:=by rw [HR.out,zY5,if_pos (Or.inl h1)]
   subst hz
   go_wp2_with fail
   refine bodyPost_ret (v:=zV3.val) (by simp [results, Tryz.results91,go_sem,Hd.val,zV3]) rfl ?_
   exact ⟨rfl,HBB.out⟩
 have k1:((s[0].toNat:Int) != 72)=false:=by rw [←HX.out];simp;omega
 by_cases h2:1<b
 · have hz:R=zV3:=by rw [HR.out,zY5,if_pos (Or.inr (Or.inl h2))]
   have h2' :(1:Int)<(b:Int):=by omega
   subst hz
   go_wp2_with fail
   refine bodyPost_ret (v:=zV3.val) (by simp [results, Tryz.results91,go_sem,Hd.val,zV3]) rfl ?_
   exact ⟨rfl,HBB.out⟩
 by_cases h3:480<c
 · have hz:R=zV3:=by rw [HR.out,zY5,if_pos (Or.inr (Or.inr (Or.inl h3)))]
   have h2' :¬(1:Int)<(b:Int):=by omega
   have h3' :(480:Int)<(c:Int):=by omega
   subst hz
   go_wp2_with fail
   refine bodyPost_ret (v:=zV3.val) (by simp [results, Tryz.results91,go_sem,Hd.val,zV3]) rfl ?_
   exact ⟨rfl,HBB.out⟩
 by_cases h4:d<1
 · have hz:R=zV3:=by rw [HR.out,zY5,if_pos (Or.inr (Or.inr (Or.inr h4)))]
   have h2' :¬(1:Int)<(b:Int):=by omega
   have h3' :¬(480:Int)<(c:Int):=by omega
   have h4' :(d:Int)<1:=by omega
   subst hz
   go_wp2_with fail
   refine bodyPost_ret (v:=zV3.val) (by simp [results, Tryz.results91,go_sem,Hd.val,zV3]) rfl ?_
   exact ⟨rfl,HBB.out⟩
 have hz:R=⟨a,b,c,d⟩:=by rw [HR.out,zY5,if_neg (by simp only [not_or,Nat.not_lt];exact ⟨by simpa using h1,by omega,by omega,by omega⟩)]
 have h2' :¬(1:Int)<(b:Int):=by omega
 have h3' :¬(480:Int)<(c:Int):=by omega
 have h4' :¬(d:Int)<1:=by omega
 subst hz
 go_wp2_with fail
 refine bodyPost_ret (v:=(⟨a,b,c,d⟩:Hd).val) (by simp [results, Tryz.results91,go_sem,Hd.val]) rfl ?_
 exact ⟨rfl,(two (zA0 _ _) (zA0 _ _)).drew.drew.drew.drew.drew⟩
theorem xJ9 (h:Hd)(w:World)(h1:h.epoch≤4000000000)(h2:h.side≤1)(h3:h.size≤480)(h4:h.first≤4000000000):
 Calls Tryz.prog 88 #[h.val] w fun e w' =>e= .returned (.string (zD8 h))∧Below w.heap.size w w' :=by
 obtain ⟨a,b,c,d⟩:=h
 simp only at h1 h2 h3 h4
 have g2:b≤4000000000:=by omega
 have g3:c≤4000000000:=by omega
 obtain ⟨fB,hfB⟩:∃f,f=zH0:=⟨_,rfl⟩
 have CF:Hid (∀(n:Nat) W,n≤4000000000→Calls Tryz.prog 128 #[.int .i64 (n:Int)] W fun e w' =>e= .returned (.string (fB n))∧Below W.heap.size W w'):=hid (fun n W hn=>by rw [hfB];exact vO3 n W hn)
 have z0:∀n,(fB n).size=4:=fun n=>by rw [hfB];rfl
 have HR:Hid (zD8 ⟨a,b,c,d⟩=(⟨#[72]⟩:ByteArray)++fB a++fB b++fB c++fB d):=hid (by rw [hfB];rfl)
 rw [HR.out]
 have y0:((⟨#[72]⟩:ByteArray)++fB a).size=5:=by rw [ByteArray.size_append,z0];rfl
 have y1:((⟨#[72]⟩:ByteArray)++fB a++fB b).size=9:=by rw [ByteArray.size_append,y0,z0]
 have y2:((⟨#[72]⟩:ByteArray)++fB a++fB b++fB c).size=13:=by rw [ByteArray.size_append,y1,z0]
 have y3:((⟨#[72]⟩:ByteArray)++fB a++fB b++fB c++fB d).size=17:=by rw [ByteArray.size_append,y2,z0]
 clear hfB
 unfold Hd.val
 go_enter Tryz.func88, Tryz.ntmps88
 go_wp2_with fail
 obtain ⟨W0,hW0⟩:∃W0,W0=w.alloc (.cells #[.int .i64 a, .int .i64 b, .int .i64 c, .int .i64 d] 140):=⟨_,rfl⟩
 have q0:W0.cell? ⟨w.heap.size,0,none⟩=some (.int .i64 a):=by rw [hW0];simp
 have q1:W0.cell? ⟨w.heap.size,1,none⟩=some (.int .i64 b):=by rw [hW0];simp
 have q2:W0.cell? ⟨w.heap.size,2,none⟩=some (.int .i64 c):=by rw [hW0];simp
 have q3:W0.cell? ⟨w.heap.size,3,none⟩=some (.int .i64 d):=by rw [hW0];simp
 have HB0:Hid (Below w.heap.size w W0):=hid (by rw [hW0];exact zA0 _ _)
 rw [←hW0]
 clear hW0
 have q0r:=zA4 (w:=W0) q0
 have q1r:=zA4 (w:=W0) q1
 have q2r:=zA4 (w:=W0) q2
 have q3r:=zA4 (w:=W0) q3
 refine zA6 (by kernel_rfl) (by kernel_rfl) ?_
 repeat (go_big_quiet_step (first
  | (go_at_call 128;exact Calls.regrown_of (CF.out _ _ (by assumption)))))
 refine wpQuiet_nil ?_
 intro w1 hb1
 have HB1:=hid (two HB0.out hb1)
 clear hb1
 go_wp2_with fail
 go_ret
 exact ⟨rfl,HB1.out⟩
open Go.RowKit Go.Sort
theorem uI3 (l:List Change)(k:Nat)(h:k<l.length):(zC8 (l.take (k+1))).data.toList=(zC8 (l.take k)).data.toList++(zV7 l[k]).data.toList:=by
 have hh:∀(a:List Change) (c:Change),(zC8 (a++ [c])).data.toList=(zC8 a).data.toList++(zV7 c).data.toList:=fun a c=>by
  induction a with
  | nil=>simp [zC8,ByteArray.append_eq,ByteArray.data_append]
  | cons x r ih=>
   have e:∀y z,(zC8 (y::z)).data.toList=(zV7 y).data.toList++(zC8 z).data.toList:=fun y z=>by simp [zC8,ByteArray.append_eq,ByteArray.data_append]
   rw [List.cons_append,e,ih,e,List.append_assoc]
 rw [List.take_succ_eq_append_getElem h,hh]
theorem vI1 (w:World):Lib.BuilderAt 214 5 w.heap.size w.heap.size (.pointer none) [] (w.alloc (.cells #[.pointer none, .slice none 0 0] 214)):=
 ⟨Nat.le_refl _, .slice none 0 0,by show (w.heap.push _)[w.heap.size]?=_;simp,World.ownsRow_nil _ _ _ _,by simp [Value.ownBlock]⟩
theorem xQ8 {T e:TypeId}{B b:Nat}{bs:List Value}{w w' :World}(h:Lib.IsBuilder T e B b bs w)(hb:Below w.heap.size w w'):Lib.IsBuilder T e B b bs w' :=by
 have one:∀p,Lib.BuilderAt T e B b p bs w→Lib.BuilderAt T e B b p bs w' :=fun p hp=>by
  have hlt:=hp.lt
  obtain ⟨hB,v,hv,ho,hn⟩:=hp
  exact ⟨hB,v,by rw [hb.block _ hlt];exact hv,zF4 ho (fun g hg=>hb.block g (ho.lt g hg).2),hn⟩
 rcases h with h | h
 · exact Or.inl (one _ h)
 · exact Or.inr (one _ h)
theorem vU0 (k v:Nat)(hk:k≤255)(hv:v≤255)(W:World):(convert 112 9 (.slice (some ⟨W.heap.size,0,none⟩) 3 3)).run Tryz.prog (W.alloc (.cells #[.int .u8 (k:Int), .int .u8 (v:Int), .int .u8 ((v:Int) / 256)] 5))= .ok (.string ⟨#[k.toUInt8,v.toUInt8,(v / 256).toUInt8]⟩) (W.alloc (.cells #[.int .u8 (k:Int), .int .u8 (v:Int), .int .u8 ((v:Int) / 256)] 5)):=by
 refine run_convert_bytes_back (P:= Tryz.prog) _ 112 9 5 ⟨W.heap.size,0,none⟩ 3 [k.toUInt8,v.toUInt8,(v / 256).toUInt8] Tryz.underlying112 Tryz.underlying5 Tryz.underlying9 (fun j hj=>?_)
 rw [Addr.add_lit]
 have e1:k.toUInt8.toNat=k:=by simp;omega
 have e2:v.toUInt8.toNat=v:=by simp;omega
 have e3:(v / 256).toUInt8.toNat=v / 256:=by simp;omega
 match j,hj with
 | 0,_=>simp [e1]
 | 1,_=>simp [e2]
 | 2,_=>simp [e3]
theorem vX0 (va:Value)(l:List Change)(w:World)(ha:Changes w va l)(hc:∀c∈l,zA2 c=0)(hl:l.length≤1000):
 Calls Tryz.prog 136 #[va] w fun e w' =>e= .returned (.string (zC8 l))∧Below w.heap.size w w' :=by
 obtain ⟨ao,ca,rfl,hca,hca'⟩:=ha.parts
 have HA:=hid ha
 have HC:=hid hc
 have HN:Hid (Lib.IsBuilder 214 5 w.heap.size w.heap.size (Lib.byteCells (zC8 (l.take 0)).data.toList) (w.alloc (.cells #[.pointer none, .slice none 0 0] 214))):=hid (Or.inl (vI1 w))
 have HZ:Hid ((zC8 (l.take 0)).data.toList.length≤27 * 0):=hid (by simp [zC8])
 clear ha hc
 go_enter Tryz.func136, Tryz.ntmps136
 go_wp2_with fail
 go_loopw [8] (fun i wr=>∃k:Nat,k≤l.length∧i= .int .i64 k∧Lib.IsBuilder 214 5 w.heap.size w.heap.size (Lib.byteCells (zC8 (l.take k)).data.toList) wr∧(zC8 (l.take k)).data.toList.length≤27 * k∧Below w.heap.size w wr) (fun i _=>l.length - (intOf i).toNat)
 case atStart=>exact ⟨0,Nat.zero_le _,rfl,HN.out,HZ.out,zA0 _ _⟩
 case round=>
  obtain ⟨k,hk,rfl,hib,hzl,hbw⟩:=hrel
  have HIB:=hid hib
  have HZL:=hid hzl
  have HBW:=hid hbw
  clear hib hzl hbw
  by_cases hlt:k<l.length
  · obtain ⟨cb,cof,rfl,hlb,x0,x1,x2⟩:=Changes.cell (HA.out.below HBW.out) k hlt
    have hnx:=uI3 l k hlt
    have hfc:=HC.out _ (List.getElem_mem hlt)
    obtain ⟨c,hcd⟩:∃c,c=l[k]:=⟨_,rfl⟩
    rw [←hcd] at x0 x1 x2 hnx hfc
    obtain ⟨hk8,hv16⟩:=zY7 hfc
    obtain ⟨ky,vl,g⟩:=c
    dsimp only at hk8 hv16 x0 x1 x2
    have HNX:=hid hnx
    clear hfc hcd hnx
    obtain ⟨W1,hW1⟩:∃W1,W1=wr.alloc (.cells #[.string ky, .string vl, .bool g] 109):=⟨_,rfl⟩
    have B1:Hid (Below wr.heap.size wr W1):=hid (by rw [hW1];exact zA0 wr _)
    have CE:Hid (∀W,Below W1.heap.size W1 W→W.cell? ⟨wr.heap.size,0,none⟩=some (.string ky)∧W.cell? ⟨wr.heap.size,1,none⟩=some (.string vl)∧W.cell? ⟨wr.heap.size,2,none⟩=some (.bool g)):=hid fun W hb=>⟨zA1 hb (by rw [hW1];simp),zA1 hb (by rw [hW1];simp),zA1 hb (by rw [hW1];simp)⟩
    have HW1:=hid hW1
    clear hW1
    obtain ⟨c0,c1,c2⟩:=CE.out _ (Below.refl _ _)
    obtain ⟨W2,hW2⟩:∃W2,W2=W1.alloc (.cells #[.int .u8 (ky.size:Int), .int .u8 (vl.size:Int), .int .u8 ((vl.size:Int) / 256)] 5):=⟨_,rfl⟩
    have B2:Hid (Below wr.heap.size wr W2):=hid (by rw [hW2];exact two B1.out (zA0 _ _))
    obtain ⟨e0,e1,e2⟩:=CE.out W2 (by rw [hW2];exact zA0 _ _)
    have hcv:=vU0 ky.size vl.size (by omega) (by omega) W1
    obtain ⟨tb,htb⟩:∃tb,tb=(⟨#[ky.size.toUInt8,vl.size.toUInt8,(vl.size / 256).toUInt8]⟩:ByteArray):=⟨_,rfl⟩
    rw [←hW2,←htb] at hcv
    have z1:tb.size=3:=by rw [htb];rfl
    have z2:(tb++ky).size=3+ky.size:=by rw [ByteArray.size_append,z1]
    have z3:(tb++ky++vl).size=3+ky.size+vl.size:=by rw [ByteArray.size_append,z2]
    have HRT:Hid (zV7 ⟨ky,vl,g⟩=tb++ky++vl):=hid (by rw [htb];rfl)
    have HTB:=hid htb
    have HW2:=hid hW2
    have CW:=hid (Tryz.Builder_WriteString w.heap.size w.heap.size _ (tb++ky++vl) W2 (xQ8 HIB.out B2.out) (by rw [Lib.byteCells_length,z3];have:=HZL.out;omega) (by have:=HBW.out.size;have:=B2.out.size;omega))
    clear htb hW2
    rw [HW2.out,HW1.out] at hcv
    clear c0 c1 c2 e0 e1 e2
    have hsz:(wr.alloc (.cells #[.string ky, .string vl, .bool g] 109)).heap.size=wr.heap.size+1:=by simp
    rw [hsz] at hcv
    clear hsz
    go_wp2_with fail
    rw [show (wr.alloc (.cells #[.string ky, .string vl, .bool g] 109)).alloc (.cells #[.int .u8 (ky.size:Int), .int .u8 (vl.size:Int), .int .u8 ((vl.size:Int) / 256)] 5)=W2 by rw [HW2.out,HW1.out]]
    refine CW.out.mono ?_
    rintro e w3 ⟨rfl,hb3,hbe⟩
    have HIB3:Hid (Lib.IsBuilder 214 5 w.heap.size w.heap.size (Lib.byteCells (zC8 (l.take (k+1))).data.toList) w3):=hid (Or.inr (by rw [HNX.out,HRT.out,Lib.byteCells_append,←Lib.strCells_eq];exact hb3))
    have HZ3:Hid ((zC8 (l.take (k+1))).data.toList.length≤27 * (k+1)):=hid (by have h7:=zI7 (tb++ky++vl);rw [z3] at h7;have:=HZL.out;rw [HNX.out,List.length_append,HRT.out,h7];omega)
    have HB3:=hid ((HBW.out.trans (B2.out.mono HBW.out.size)).trans hbe)
    clear hb3 hbe
    go_wp2_with fail
    go_roundw
    case rel=>exact ⟨k+1,by omega,by go_num,HIB3.out,HZ3.out,HB3.out⟩
    case measure=>simp [intOf];omega
  · obtain rfl:l.length=k:=by omega
    have CST:=hid (Tryz.Builder_String_any w.heap.size w.heap.size _ wr HIB.out HBW.out.size)
    go_wp2_with fail
    refine CST.out.mono ?_
    rintro e wS ⟨rfl,hb⟩
    have HB:=hid (HBW.out.trans hb)
    clear hb
    go_wp2_with fail
    go_ret
    exact ⟨rfl,HB.out⟩
open Go.RowKit Go.Sort
def yH1 (s:ByteArray)(k m:Nat):Change:=⟨s.extract 3 (3+k),s.extract (3+k) (3+k+m),false⟩
theorem vR0 (s:ByteArray)(h:3≤s.size)(f:Nat)(acc:List Change):
 zJ2 (f+1) s.data.toList acc=if s.size<3+(s[0]'(by omega)).toNat+(s[1]'(by omega)).toNat+256 * (s[2]'(by omega)).toNat then none
  else if zA2 (yH1 s (s[0]'(by omega)).toNat ((s[1]'(by omega)).toNat+256 * (s[2]'(by omega)).toNat))≠0 then none
  else zJ2 f (s.extract (3+(s[0]'(by omega)).toNat+(s[1]'(by omega)).toNat+256 * (s[2]'(by omega)).toNat) s.size).data.toList (yE5 acc (yH1 s (s[0]'(by omega)).toNat ((s[1]'(by omega)).toNat+256 * (s[2]'(by omega)).toNat))):=by
 have hl:=zI7 s
 simp only [zU5]
 have hx:∀(l:List UInt8) (hl:l.length=s.size) (hd:s.data.toList=l) (h3:3≤l.length),zJ2 (f+1) l acc=if s.size<3+(l[0]'(by omega)).toNat+(l[1]'(by omega)).toNat+256 * (l[2]'(by omega)).toNat then none
     else if zA2 (yH1 s (l[0]'(by omega)).toNat ((l[1]'(by omega)).toNat+256 * (l[2]'(by omega)).toNat))≠0 then none
     else zJ2 f (s.extract (3+(l[0]'(by omega)).toNat+(l[1]'(by omega)).toNat+256 * (l[2]'(by omega)).toNat) s.size).data.toList (yE5 acc (yH1 s (l[0]'(by omega)).toNat ((l[1]'(by omega)).toNat+256 * (l[2]'(by omega)).toNat))):=fun l hl hd h3=>by
  match l,h3 with
  | k::v::u::r,_=>
   simp only [List.length_cons] at hl
   have e1:(⟨⟨(r.take k.toNat).toArray⟩,⟨((r.drop k.toNat).take (v.toNat+256 * u.toNat)).toArray⟩,false⟩:Change)=yH1 s k.toNat (v.toNat+256 * u.toNat):=by
    unfold yH1
    have q1:(⟨(r.take k.toNat).toArray⟩:ByteArray)=s.extract 3 (3+k.toNat):=xH1 (by rw [zH6,hd,Nat.add_comm 3 k.toNat];simp [List.drop_take])
    have q2:(⟨((r.drop k.toNat).take (v.toNat+256 * u.toNat)).toArray⟩:ByteArray)=s.extract (3+k.toNat) (3+k.toNat+(v.toNat+256 * u.toNat)):=xH1 (by
     rw [zH6,hd,List.drop_take,show 3+k.toNat+(v.toNat+256 * u.toNat) - (3+k.toNat)=v.toNat+256 * u.toNat by omega,Nat.add_comm 3 k.toNat]
     simp)
    rw [q1,q2]
   have e2:(s.extract (3+k.toNat+v.toNat+256 * u.toNat) s.size).data.toList=r.drop (k.toNat+v.toNat+256 * u.toNat):=by
    rw [zH6,hd,List.take_of_length_le (by simp;omega),show 3+k.toNat+v.toNat+256 * u.toNat=(k.toNat+v.toNat+256 * u.toNat)+3 by omega]
    simp
   simp only [List.getElem_cons_zero,List.getElem_cons_succ]
   rw [e2]
   simp only [zJ2]
   rw [e1]
   by_cases hc:r.length<k.toNat+v.toNat+256 * u.toNat
   · rw [if_pos hc,if_pos (by omega)]
   · have hn:¬s.size<3+k.toNat+v.toNat+256 * u.toNat:=by omega
     rw [if_neg hc,if_neg hn]
 exact hx _ hl rfl (by omega)
theorem vD8 (s:ByteArray)(h:s.size<3)(h0:s.size≠0)(f:Nat)(acc:List Change):zJ2 (f+1) s.data.toList acc=none:=by
 have hl:=zI7 s
 generalize s.data.toList=l at hl
 match l,hl with
 | [],hl=>simp at hl;omega
 | [a],_=>rfl
 | [a,b],_=>rfl
 | a::b::c::r,hl=>simp at hl;omega
theorem uA8 (s:ByteArray)(h:s.size=0)(f:Nat)(acc:List Change):zJ2 (f+1) s.data.toList acc=some acc:=by
 have hl:=zI7 s
 rw [h] at hl
 rw [List.eq_nil_of_length_eq_zero hl]
 rfl
theorem vE1 {w:World}{b:Nat}(f:Change)(h0:w.cell? ⟨b,0,none⟩=some (.string f.key))(h1:w.cell? ⟨b,1,none⟩=some (.string f.val))(h2:w.cell? ⟨b,2,none⟩=some (.bool f.gone)):Changes w (.slice (some ⟨b,0,none⟩) 1 1) [f]:=by
 refine ⟨rfl,some ⟨b,0,none⟩,1,rfl,Nat.le_refl _,by decide,(fun _ h=>by cases h),fun j u hj=>⟨b,0,rfl,?_⟩⟩
 rw [Nat.zero_add]
 match j,hj with
 | 0,hj=>simp [Change.cells] at hj;subst hj;exact h0
 | 1,hj=>simp [Change.cells] at hj;subst hj;exact h1
 | 2,hj=>simp [Change.cells] at hj;subst hj;exact h2
 | j+3,hj=>simp [Change.cells] at hj
theorem xZ7 {w:World}{base B:Nat}{v:Value}{l:List Change}(h:w.ownsRow base 109 3 v l.length (l.flatMap Change.cells))(hB:B≤base):ChangesF (fun x=>x<B) w v l:=
 ⟨SL.of_own h,fun a n c e hn hf=>yM8 h a n c e hn (Nat.lt_of_lt_of_le hf hB)⟩
theorem yW5 (s:ByteArray):(s.toList== [])=decide (s.size=0):=by
 have e:(⟨#[]⟩:ByteArray).toList= []:=by decide +kernel
 by_cases h:s.size=0
 · have hs:s=⟨#[]⟩:=xH1 (List.eq_nil_of_length_eq_zero ((zI7 s).trans h))
   subst hs
   decide +kernel
 · rw [decide_eq_false h]
   cases hb:(s.toList== [])
   · rfl
   · exfalso
     have h1:s.toList=(⟨#[]⟩:ByteArray).toList:=by rw [e];simpa using hb
     have h2:=(zG7 _ _).1 h1
     exact h (by rw [h2];rfl)
theorem vC0 (t:ByteArray)(w:World)(ht:t.size≤480):
 Calls Tryz.prog 92 #[.string t] w fun e w' =>(zJ2 481 t.data.toList []=none∧e= .returned (.tuple #[.slice none 0 0, .bool false])∨∃l v,zJ2 481 t.data.toList []=some l∧e= .returned (.tuple #[v, .bool true])∧ChangesF (fun x=>x<w.heap.size) w' v l∧RisesX l∧l.length≤160)∧Below w.heap.size w w' :=by
 obtain ⟨R,hR⟩:∃R,R=zJ2 481 t.data.toList []:=⟨_,rfl⟩
 have HR:=hid hR.symm
 rw [←hR]
 clear hR
 go_enter Tryz.func92, Tryz.ntmps92
 go_wp2_with fail
 go_loopw [0,4] (fun tv lv wr=>∃(s:ByteArray) (f:Nat) (acc:List Change),tv= .string s∧ChangesF (fun x=>x<w.heap.size) wr lv acc∧RisesX acc∧3 * acc.length+s.size≤480∧s.size<f∧zJ2 f s.data.toList acc=R∧Below w.heap.size w wr) (fun tv _ _=>match tv with | .string s=>s.size | _=>0)
 case atStart=>exact ⟨t,481, [],rfl,⟨Rd.nil _,fun a n c h=>by simp at h⟩,List.Pairwise.nil,by simpa using ht,by omega,HR.out,Below.refl _ _⟩
 case round=>
  obtain ⟨s,f,acc,rfl,hca,hri,hln,hf,hp,hbw⟩:=hrel
  obtain ⟨ao,ac,rfl,hac,hac'⟩:=hca.rd.parts
  have HCA:=hid hca
  have HRI:=hid hri
  have HP:=hid hp
  have HBW:=hid hbw
  clear hca hri hp hbw
  obtain ⟨f,rfl⟩:∃g,f=g+1:=⟨f - 1,by omega⟩
  by_cases h0:s.size=0
  · have e0:(s.toList== [])=true:=by rw [yW5,decide_eq_true h0]
    have e1:(s.toList != [])=false:=by rw [bne,e0];rfl
    have hr:R=some acc:=by rw [←HP.out];exact uA8 s h0 f acc
    have HRS:=hid hr
    clear hr
    go_wp2_with fail
    refine bodyPost_ret (v:= .tuple #[.slice ao acc.length ac, .bool true]) (by simp [results, Tryz.results92,go_sem]) rfl ?_
    exact ⟨Or.inr ⟨acc,_,HRS.out,rfl,HCA.out,HRI.out,by omega⟩,HBW.out⟩
  have e0:(s.toList== [])=false:=by rw [yW5,decide_eq_false h0]
  have e1:(s.toList != [])=true:=by rw [bne,e0];rfl
  by_cases h3:s.size<3
  · have hr:R=none:=by rw [←HP.out];exact vD8 s h3 h0 f acc
    have HRS:=hid hr
    have h3' :(s.size:Int)<3:=by omega
    clear hr
    go_wp2_with fail
    go_region
    go_wp2_with fail
    refine bodyPost_ret (v:= .tuple #[.slice none 0 0, .bool false]) (by simp [results, Tryz.results92,go_sem]) rfl ?_
    exact ⟨Or.inl ⟨HRS.out,rfl⟩,HBW.out.drew⟩
  have h3' :¬(s.size:Int)<3:=by omega
  have h3d:decide ((s.size:Int)<3)=false:=decide_eq_false h3'
  have i0:0<s.size:=by omega
  have i1:(1:Int)<(s.size:Int):=by omega
  have i2:(2:Int)<(s.size:Int):=by omega
  have hps:=vR0 s (by omega) f acc
  have b0:s[0].toNat≤255:=by have:=(s[0]'(by omega)).toNat_lt;omega
  have b1:s[1].toNat≤255:=by have:=(s[1]'(by omega)).toNat_lt;omega
  have b2:s[2].toNat≤255:=by have:=(s[2]'(by omega)).toNat_lt;omega
  have HPS:=hid hps
  clear hps
  by_cases hs:s.size<3+s[0].toNat+s[1].toNat+256 * s[2].toNat
  · have hr:R=none:=by rw [←HP.out,HPS.out,if_pos hs]
    have HRS:=hid hr
    have hs' :(s.size:Int)<3+(s[0].toNat:Int)+(s[1].toNat:Int)+256 * (s[2].toNat:Int):=by omega
    clear hr
    go_wp2_with fail
    refine zA6 (by kernel_rfl) (by kernel_rfl) ?_
    repeat (go_big_quiet_step (fail))
    refine wpQuiet_nil ?_
    intro w2 hb2
    have HB2:=hid (two HBW.out hb2)
    clear hb2
    go_wp2_with fail
    refine bodyPost_ret (v:= .tuple #[.slice none 0 0, .bool false]) (by simp [results, Tryz.results92,go_sem]) rfl ?_
    exact ⟨Or.inl ⟨HRS.out,rfl⟩,HB2.out⟩
  have hs' :¬(s.size:Int)<3+(s[0].toNat:Int)+(s[1].toNat:Int)+256 * (s[2].toNat:Int):=by omega
  go_wp2_with fail
  refine zA6 (by kernel_rfl) (by kernel_rfl) ?_
  repeat (go_big_quiet_step (fail))
  refine wpQuiet_nil ?_
  intro w2 hb2
  have HB2:=hid (two HBW.out hb2)
  have HCA2:=hid (HCA.out.below hb2)
  clear hb2
  go_wp2_with fail
  go_region
  go_wp2_with fail
  go_region
  go_wp2_with fail
  obtain ⟨KY,hKY⟩:∃x,x=s.extract 3 (3+s[0].toNat):=⟨_,rfl⟩
  obtain ⟨VL,hVL⟩:∃x,x=s.extract (3+s[0].toNat) (3+s[0].toNat+s[1].toNat+256 * s[2].toNat):=⟨_,rfl⟩
  have hk1:KY.size≤480:=by rw [hKY,ByteArray.size_extract];omega
  have hv1:VL.size≤480:=by rw [hVL,ByteArray.size_extract];omega
  have hHR:yH1 s s[0].toNat (s[1].toNat+256 * s[2].toNat)=⟨KY,VL,false⟩:=by unfold yH1;rw [hKY,hVL,←Nat.add_assoc]
  rw [←hKY,←hVL]
  clear hKY hVL
  obtain ⟨W1,hW1⟩:∃W1,W1=(w2.alloc (.cells #[.string KY, .string VL, .bool false] 109)).drew.drew:=⟨_,rfl⟩
  have B1:Hid (Below w2.heap.size w2 W1):=hid (by rw [hW1];exact (zA0 w2 _).drew.drew)
  have CE:Hid (∀W,Below W1.heap.size W1 W→W.cell? ⟨w2.heap.size,0,none⟩=some (.string KY)∧W.cell? ⟨w2.heap.size,1,none⟩=some (.string VL)∧W.cell? ⟨w2.heap.size,2,none⟩=some (.bool false)):=hid fun W hb=>⟨zA1 hb (by rw [hW1];simp),zA1 hb (by rw [hW1];simp),zA1 hb (by rw [hW1];simp)⟩
  rw [←hW1]
  have CC:=hid (yG2 KY VL false W1 (by unfold maxLen;omega) (by unfold maxLen;omega))
  have HHR:=hid hHR
  clear hW1 hHR
  refine CC.out.mono ?_
  rintro e w3 ⟨rfl,hb3⟩
  have HB3:=hid (two HB2.out (two B1.out hb3))
  have HCA3:=hid (HCA2.out.below (two B1.out hb3))
  obtain ⟨q0,q1,q2⟩:=CE.out _ hb3
  clear hb3
  by_cases hcf:zA2 ⟨KY,VL,false⟩=0
  rotate_left
  · have he:zE6 (zA2 ⟨KY,VL,false⟩)= .iface 73 (.int .i64 (zA2 ⟨KY,VL,false⟩)):=zA5 hcf
    have hr:R=none:=by rw [←HP.out,HPS.out,if_neg hs,HHR.out,if_pos hcf]
    have HRS:=hid hr
    clear hr hcf
    go_wp2_with fail
    refine bodyPost_ret (v:= .tuple #[.slice none 0 0, .bool false]) (by simp [results, Tryz.results92,go_sem]) rfl ?_
    exact ⟨Or.inl ⟨HRS.out,rfl⟩,HB3.out⟩
  have he:zE6 (zA2 ⟨KY,VL,false⟩)= .nilIface:=by rw [hcf];rfl
  obtain ⟨NX,hNX⟩:∃x,x=s.extract (3+s[0].toNat+s[1].toNat+256 * s[2].toNat) s.size:=⟨_,rfl⟩
  have hnx1:NX.size=s.size - (3+s[0].toNat+s[1].toNat+256 * s[2].toNat):=by rw [hNX,ByteArray.size_extract];omega
  have hpn:zJ2 f NX.data.toList (yE5 acc ⟨KY,VL,false⟩)=R:=by rw [←HP.out,HPS.out,if_neg hs,HHR.out,if_neg (by simp [hcf]),hNX]
  have HPN:=hid hpn
  have HNX:=hid hNX
  clear hpn hcf hNX
  obtain ⟨W4,hW4⟩:∃W4,W4=w3.alloc (.cells #[.string KY, .string VL, .bool false] 109):=⟨_,rfl⟩
  have hone:Changes W4 (.slice (some ⟨w3.heap.size,0,none⟩) 1 1) [⟨KY,VL,false⟩]:=vE1 (b:=w3.heap.size) ⟨KY,VL,false⟩ (by rw [hW4];simp) (by rw [hW4];simp) (by rw [hW4];simp)
  have HB4:Hid (Below w.heap.size w W4):=hid (by rw [hW4];exact two HB3.out (zA0 _ _))
  have CA:=hid (yT1 _ _ acc [⟨KY,VL,false⟩] W4 (by rw [hW4];exact (HCA3.out.below (zA0 _ _)).rd) hone HRI.out (by omega) (by simp))
  have HW4:=hid hW4
  clear hone hW4
  go_wp2_with fail
  rw [show w3.alloc (.cells #[.string KY, .string VL, .bool false] 109)=W4 from HW4.out.symm]
  refine CA.out.mono ?_
  rintro e w5 ⟨v5,rfl,hch5,hb5⟩
  have HCH5:Hid (ChangesF (fun x=>x<w.heap.size) w5 v5 (yE5 acc ⟨KY,VL,false⟩)):=hid (xZ7 (l:=yE5 acc ⟨KY,VL,false⟩) hch5 HB4.out.size)
  have HB5:=hid (two HB4.out hb5)
  clear hch5 hb5
  have hln2:=xQ9 acc ⟨KY,VL,false⟩
  have HRI2:=hid (yS0 (⟨KY,VL,false⟩:Change) HRI.out)
  go_wp2_with fail
  rw [←HNX.out]
  go_roundw
  case rel=>exact ⟨NX,f,yE5 acc ⟨KY,VL,false⟩,rfl,HCH5.out,HRI2.out,by omega,by omega,HPN.out,HB5.out⟩
  case measure=>simp;omega
open Go.RowKit Go.Sort
theorem zZ5 (E:DiskS)(f:DiskS→DiskS × Nat):zE8 (E,0) f=f E:=rfl
theorem zM2 (E:DiskS)(n:Nat)(f:DiskS→DiskS × Nat)(h:n≠0):zE8 (E,n) f=(E,n):=zE0 (p:=(E,n)) h
structure TurnedTo (w:World) (L:Dk) (L' :Dk) (D' :DiskS) (w' :World):Prop where
 eq:L'.b=L.b
 d:DiskAt w' L' D'
 off:Off L.foot w w'
 grow:∀k,L'.foot k→L.foot k∨w.heap.size≤k
theorem TurnedTo.turned {w w' :World}{L L' :Dk}{D' :DiskS}(h:TurnedTo w L L' D' w'):Turned 72 75 w L D' w' :=⟨L',h.eq,h.d,h.off,h.grow⟩
theorem TurnedTo.next {w w1 w2:World}{L L1:Dk}{D1 D2:DiskS}(h:TurnedTo w L L1 D1 w1)(ht:Turned 72 75 w1 L1 D2 w2):∃L2,TurnedTo w L L2 D2 w2:=by
 obtain ⟨L2,e,d,o,g⟩:=Turned.trans h.eq h.off h.grow ht
 exact ⟨L2,e,d,o,g⟩
theorem TurnedTo.refl {w:World}{L:Dk}{D:DiskS}(h:DiskAt w L D):TurnedTo w L L D w:=⟨rfl,h,Off.refl _ _,fun _ h=>Or.inl h⟩
theorem TurnedTo.of {w w' :World}{L:Dk}{D' :DiskS}(ht:Turned 72 75 w L D' w'):∃L',TurnedTo w L L' D' w' :=by
 obtain ⟨L2,e,d,o,g⟩:=ht
 exact ⟨L2,e,d,o,g⟩
theorem TurnedTo.below {w w1 w2:World}{L L1:Dk}{D1:DiskS}(h:TurnedTo w L L1 D1 w1)(hb:Below w1.heap.size w1 w2):TurnedTo w L L1 D1 w2:=
 ⟨h.eq,h.d.below hb,h.off.trans (zB7 hb L.foot) (fun _ _ h=>h),h.grow⟩
theorem xS6 (L:Dk)(D:DiskS)(w:World)(h:DiskAt w L D)(hok:D.ok)(hwl:D.wait.length≤900000):
 Calls Tryz.prog 53 #[.pointer (some ⟨L.b,0,none⟩)] w fun e w' =>e= .returned (zE6 (zT4 D).2)∧Turned 72 75 w L (zT4 D).1 w' :=by
 have hn60:=hok.few
 have CS:=hid (zM8 L D w h)
 have HD:=hid h
 have HOK:=hid hok
 obtain ⟨b,hb⟩:∃b,b=L.b:=⟨_,rfl⟩
 by_cases h42:D.now.length<42
 · have hR:zT4 D=(D,7):=by unfold zT4;rw [if_pos h42]
   have h42' :(D.now.length:Int)<42:=by omega
   rw [hR]
   rw [←hb] at CS ⊢
   have HB:=hid hb
   clear h hok hb hR
   go_enter Tryz.func53, Tryz.ntmps53
   go_wp2_with fail
   refine CS.out.mono ?_
   rintro e w1 ⟨rfl,rfl⟩
   go_wp2_with fail
   go_ret
   exact ⟨rfl,(TurnedTo.refl HD.out).turned⟩
 have h42' :¬(D.now.length:Int)<42:=by omega
 obtain ⟨T1,hT1⟩:∃T,T=zE8 (zB9 D ((0:Nat):Int) ⟨#[]⟩) (zS0 26 (D.now.length - 26)):=⟨_,rfl⟩
 have hR:zT4 D=zE8 (zE8 (zE8 T1 zC5) (fun E=>zB9 E ((1:Nat):Int) (zD8 ⟨1,0,0,1⟩))) zC5:=by rw [hT1];unfold zT4;rw [if_neg h42]
 have CW:=zN1 L D ((0:Nat):Int) ⟨#[]⟩ w h hok (by omega)
 have hw1:=hok.write ((0:Nat):Int) ⟨#[]⟩
 have hw2:=xA6 D ((0:Nat):Int) ⟨#[]⟩
 have hw3:=zO6 D ((0:Nat):Int) ⟨#[]⟩
 obtain ⟨⟨E0,f0⟩,hp⟩:∃p,p=zB9 D ((0:Nat):Int) ⟨#[]⟩:=⟨_,rfl⟩
 rw [←hp] at CW hw1 hw2 hw3 hT1
 have CW0:=hid CW
 have HE0:Hid (E0.ok∧E0.now.length=D.now.length∧E0.wait.length≤900001):=hid ⟨hw1,hw2,by show E0.wait.length≤_;have h5:E0.wait.length≤D.wait.length+1:=hw3;omega⟩
 have HT1:=hid hT1
 rw [hR]
 obtain ⟨FR,hFR⟩:∃x,x=zE8 (zE8 (zE8 T1 zC5) (fun E=>zB9 E ((1:Nat):Int) (zD8 ⟨1,0,0,1⟩))) zC5:=⟨_,rfl⟩
 rw [←hFR]
 have HFR:=hid hFR
 clear hFR
 rw [←hb] at CS CW0 ⊢
 have HB:=hid hb
 clear h hok hb hR CW hw1 hw2 hw3 hp hT1
 go_enter Tryz.func53, Tryz.ntmps53
 go_wp2_with fail
 refine CS.out.mono ?_
 rintro e w1 ⟨rfl,rfl⟩
 go_wp2_with fail
 refine CW0.out.mono ?_
 rintro e w2 ⟨rfl,ht⟩
 have HT:=hid ht
 clear ht
 go_wp2_with fail
 go_loopw [3,4] (fun ev iv wr=>∃(i:Nat) (E:DiskS) (f:Nat) (L' :Dk),26≤i∧i≤D.now.length∧iv= .int .i64 i∧ev=zE6 f∧zE8 (E,f) (zS0 i (D.now.length - i))=T1∧TurnedTo w1 L L' E wr∧E.ok∧E.now.length=D.now.length∧E.wait.length≤900001+i) (fun _ iv _=>D.now.length - (intOf iv).toNat)
 case atStart=>
  obtain ⟨L',hL'⟩:=TurnedTo.of HT.out
  exact ⟨26,E0,f0,L',Nat.le_refl _,by omega,rfl,rfl,HT1.out.symm,hL',HE0.out.1,HE0.out.2.1,by have:=HE0.out.2.2;omega⟩
 case round=>
  obtain ⟨i,E,f,L',hi26,hil,rfl,rfl,hth,htt,hEok,hEl,hEw⟩:=hrel
  have HTH:=hid hth
  have HTT:=hid htt
  have HEK:Hid (E.ok∧E.now.length=D.now.length∧E.wait.length≤900001+i):=hid ⟨hEok,hEl,hEw⟩
  have CS2:=zM8 L' E wr htt.d
  rw [htt.eq,←HB.out,hEl] at CS2
  have HCS2:=hid CS2
  clear hth htt hEok hEl hEw CS2
  by_cases hf:f=0
  rotate_left
  · have hT:T1=(E,f):=by rw [←HTH.out,zM2 _ _ _ hf]
    have hA:FR=(E,f):=by rw [HFR.out,hT,zM2 _ _ _ hf,zM2 _ _ _ hf,zM2 _ _ _ hf]
    clear HFR hT
    subst hA
    rw [zA5 hf]
    by_cases hlt:i<D.now.length
    · go_wp2_with fail
      refine HCS2.out.mono ?_
      rintro e w3 ⟨rfl,rfl⟩
      go_wp2_with fail
      go_ret
      exact ⟨(congrArg Ending.returned (zA5 hf)).symm,HTT.out.turned⟩
    · go_wp2_with fail
      refine HCS2.out.mono ?_
      rintro e w3 ⟨rfl,rfl⟩
      go_wp2_with fail
      go_ret
      exact ⟨(congrArg Ending.returned (zA5 hf)).symm,HTT.out.turned⟩
  subst hf
  rw [zD2]
  by_cases hlt:i<D.now.length
  · have hb2:zS0 i (D.now.length - i) E=zE8 (zB9 E (i:Int) ⟨#[]⟩) (zS0 (i+1) (D.now.length - (i+1))):=by
     rw [show D.now.length - i=(D.now.length - (i+1))+1 by omega];rfl
    have CW:=zN1 L' E (i:Int) ⟨#[]⟩ wr HTT.out.d HEK.out.1 (by have:=HEK.out.2.2;omega)
    have hw1:=HEK.out.1.write (i:Int) ⟨#[]⟩
    have hw2:=xA6 E (i:Int) ⟨#[]⟩
    have hw3:=zO6 E (i:Int) ⟨#[]⟩
    have hth2:=HTH.out
    rw [zZ5,hb2] at hth2
    obtain ⟨⟨E2,f2⟩,hp⟩:∃p,p=zB9 E (i:Int) ⟨#[]⟩:=⟨_,rfl⟩
    rw [←hp] at CW hw1 hw2 hw3 hth2
    rw [HTT.out.eq,←HB.out] at CW
    have HCW:=hid CW
    have HTH2:=hid hth2
    have HEK2:Hid (E2.ok∧E2.now.length=D.now.length∧E2.wait.length≤900001+(i+1)):=hid ⟨hw1,hw2.trans HEK.out.2.1,by have h5:E2.wait.length≤E.wait.length+1:=hw3;have:=HEK.out.2.2;omega⟩
    clear CW hw1 hw2 hw3 hth2 hp hb2
    go_wp2_with fail
    refine HCS2.out.mono ?_
    rintro e w3 ⟨rfl,rfl⟩
    go_wp2_with fail
    refine HCW.out.mono ?_
    rintro e w4 ⟨rfl,ht4⟩
    obtain ⟨L4,hL4⟩:=HTT.out.next ht4
    have HL4:=hid hL4
    clear ht4 hL4
    go_wp2_with fail
    go_roundw
    case rel=>exact ⟨i+1,E2,f2,L4,by omega,by omega,by go_num,rfl,HTH2.out,HL4.out,HEK2.out.1,HEK2.out.2.1,HEK2.out.2.2⟩
    case measure=>simp [intOf];omega
  obtain rfl:i=D.now.length:=by omega
  have hT:T1=(E,0):=by rw [←HTH.out,zZ5,Nat.sub_self];rfl
  have hS0:FR=zE8 (zE8 (zC5 E) (fun E=>zB9 E ((1:Nat):Int) (zD8 ⟨1,0,0,1⟩))) zC5:=by rw [HFR.out,hT,zZ5]
  have CF:=zR7 L' E wr HTT.out.d HEK.out.1
  have hw1:=HEK.out.1.flush
  have hw2:=xF2 E
  have hw3:=yU0 E
  obtain ⟨⟨E2,f2⟩,hp⟩:∃p,p=zC5 E:=⟨_,rfl⟩
  rw [←hp] at CF hw1 hw2 hw3 hS0
  have HS0:=hid hS0
  rw [HTT.out.eq,←HB.out] at CF
  have HCF:=hid CF
  have HEK2:Hid (E2.ok∧E2.wait.length≤900100):=hid ⟨hw1,by have h5:E2.wait.length≤E.wait.length:=hw3;have:=HEK.out.2.2;omega⟩
  clear CF hw1 hw2 hw3 hp hS0 hT
  go_wp2_with fail
  refine HCS2.out.mono ?_
  rintro e w3 ⟨rfl,rfl⟩
  go_wp2_with fail
  refine HCF.out.mono ?_
  rintro e w4 ⟨rfl,ht4⟩
  obtain ⟨L4,hL4⟩:=HTT.out.next ht4
  have HL4:=hid hL4
  clear ht4 hL4
  by_cases hf2:f2=0
  rotate_left
  · have hA:FR=(E2,f2):=by rw [HS0.out,zM2 _ _ _ hf2,zM2 _ _ _ hf2]
    clear HFR HS0
    subst hA
    rw [zA5 hf2]
    go_wp2_with fail
    go_ret
    exact ⟨(congrArg Ending.returned (zA5 hf2)).symm,HL4.out.turned⟩
  subst hf2
  have hS1:=HS0.out
  rw [zZ5] at hS1
  rw [zD2]
  have CT:=xJ9 ⟨1,0,0,1⟩ w4 (by decide) (by decide) (by decide) (by decide)
  obtain ⟨tx,htx⟩:∃x,x=zD8 ⟨1,0,0,1⟩:=⟨_,rfl⟩
  rw [←htx] at CT hS1
  have HS1:=hid hS1
  have HCT:Hid (Calls Tryz.prog 88 #[.agg #[.int .i64 1, .int .i64 0, .int .i64 0, .int .i64 1]] w4 fun e w' =>e= .returned (.string tx)∧Below w4.heap.size w4 w'):=hid CT
  clear CT htx hS1
  go_wp2_with fail
  refine HCT.out.mono ?_
  rintro e w5 ⟨rfl,hb5⟩
  have HL5:=hid (HL4.out.below hb5)
  clear hb5
  have CW:=zN1 L4 E2 ((1:Nat):Int) tx w5 HL5.out.d HEK2.out.1 (by have:=HEK2.out.2;omega)
  have hw1:=HEK2.out.1.write ((1:Nat):Int) tx
  obtain ⟨⟨E3,f3⟩,hp⟩:∃p,p=zB9 E2 ((1:Nat):Int) tx:=⟨_,rfl⟩
  have hS2:=HS1.out
  rw [←hp] at CW hw1 hS2
  have HS2:=hid hS2
  clear hS2
  rw [HL5.out.eq,←HB.out] at CW
  have HCW:Hid (Calls Tryz.prog 8 #[.pointer (some ⟨b,0,none⟩), .int .i64 1, .string tx] w5 _):=hid CW
  have HE3:Hid E3.ok:=hid hw1
  clear CW hw1 hp
  go_wp2_with fail
  refine HCW.out.mono ?_
  rintro e w6 ⟨rfl,ht6⟩
  obtain ⟨L6,hL6⟩:=HL5.out.next ht6
  have HL6:=hid hL6
  clear ht6 hL6
  by_cases hf3:f3=0
  rotate_left
  · have hA:FR=(E3,f3):=by rw [HS2.out,zM2 _ _ _ hf3]
    clear HFR HS0 HS1 HS2
    subst hA
    rw [zA5 hf3]
    go_wp2_with fail
    go_ret
    exact ⟨(congrArg Ending.returned (zA5 hf3)).symm,HL6.out.turned⟩
  subst hf3
  have hS3:=HS2.out
  rw [zZ5] at hS3
  rw [zD2]
  have CF:=zR7 L6 E3 w6 HL6.out.d HE3.out
  obtain ⟨⟨E4,f4⟩,hp⟩:∃p,p=zC5 E3:=⟨_,rfl⟩
  rw [←hp] at CF hS3
  clear HFR HS0 HS1 HS2
  subst hS3
  rw [HL6.out.eq,←HB.out] at CF
  have HCF2:=hid CF
  clear CF hp
  go_wp2_with fail
  refine HCF2.out.mono ?_
  rintro e w7 ⟨rfl,ht7⟩
  obtain ⟨L7,hL7⟩:=HL6.out.next ht7
  have HL7:=hid hL7
  clear ht7 hL7
  go_wp2_with fail
  go_ret
  exact ⟨rfl,HL7.out.turned⟩
end Go.Proofs.YtggpodlecljcbabGreatDoor
