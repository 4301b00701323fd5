/- The walk of the console's say: lines of one word. Printed by wip/mk_con.py. -/
import Derived.Test.YtggpodlecljcbabGreatDoorKCB
import Derived.Test.YtggpodlecljcbabGreatDoorKC9
namespace Go.Proofs.YtggpodlecljcbabGreatDoor
set_option linter.unusedSimpArgs false
set_option linter.unusedVariables false
set_option maxRecDepth 100000
set_option maxHeartbeats 64000000
open Lib (hid)
open Go.RowKit Go.Sort
theorem zG8 (line:ByteArray)(w:World)(hg:GlobC w)(hs:line.size≤1000):Calls Tryz.prog 72 #[.string line, .string ⟨#[32]⟩] w fun e w' =>e= .returned (.slice (some ⟨w.heap.size,0,none⟩) (zB5 line).length (zB5 line).length)∧w' =w.alloc (.cells ((zB5 line).map Value.string).toArray 9):=by
 obtain ⟨m,hm⟩:=hg.len
 have h:= Tryz.strings_Split line ⟨#[32]⟩ m w (by omega) hm (by decide)
 rw [vJ2,vP0] at h
 exact h
theorem zV6 (w:World)(l:List ByteArray)(hl:l.length≤1000):Texts (w.alloc (.cells (l.map Value.string).toArray 9)) (.slice (some ⟨w.heap.size,0,none⟩) l.length l.length) l:=by
 have hf:l.flatMap zD3=l.map Value.string:=by
  induction l with
  | nil=>rfl
  | cons x r ih=>rw [List.flatMap_cons,List.map_cons,ih (by simp only [List.length_cons] at hl;omega)];rfl
 refine ⟨by rw [hf,List.length_map,Nat.mul_one],_,_,rfl,Nat.le_refl _,by unfold maxLen;omega,fun _ h=>(by cases h),fun j u hj=>⟨w.heap.size,0,rfl,?_⟩⟩
 rw [hf] at hj
 have hx:(w.alloc (.cells (l.map Value.string).toArray 9)).heap[w.heap.size]?=some (.cells (l.map Value.string).toArray 9 (0,0)):=by show (w.heap.push _)[w.heap.size]?=_;simp
 rw [Nat.zero_add]
 simp only [World.cell?,hx]
 simpa using hj
theorem yF6 (w:World)(a:ByteArray):WordsAt ((w.alloc (.cells #[.string a] 9)).alloc (.cells #[.slice (some ⟨w.heap.size,0,none⟩) 1 1] 56)) (w.heap.size+1) [a]:=
 ⟨⟨w.heap.size,0,1,by show ((w.heap.push _).push _)[w.heap.size+1]?=_;simp [Array.getElem?_push,Array.getElem_push],Rd.below (zV6 w [a] (by simp)) (zA0 _ _)⟩⟩
theorem yF5 (w:World)(a b:ByteArray):WordsAt ((w.alloc (.cells #[.string a, .string b] 9)).alloc (.cells #[.slice (some ⟨w.heap.size,0,none⟩) 2 2] 56)) (w.heap.size+1) [a,b]:=
 ⟨⟨w.heap.size,0,2,by show ((w.heap.push _).push _)[w.heap.size+1]?=_;simp [Array.getElem?_push,Array.getElem_push],Rd.below (zV6 w [a,b] (by simp)) (zA0 _ _)⟩⟩
theorem zV5 (w:World)(a b c:ByteArray):WordsAt ((w.alloc (.cells #[.string a, .string b, .string c] 9)).alloc (.cells #[.slice (some ⟨w.heap.size,0,none⟩) 3 3] 56)) (w.heap.size+1) [a,b,c]:=
 ⟨⟨w.heap.size,0,3,by show ((w.heap.push _).push _)[w.heap.size+1]?=_;simp [Array.getElem?_push,Array.getElem_push],Rd.below (zV6 w [a,b,c] (by simp)) (zA0 _ _)⟩⟩
theorem uL1 (w:World)(sx:Nat)(line a:ByteArray)(hg:GlobC w)(hsz:line.size≤50)(hw:zB5 line= [a])(h0:(line.toList== [111,112,101,110])=true)(R:ByteArray→World→World→Prop)(C:∀W,Below w.heap.size w W→Calls Tryz.prog 39 #[.pointer (some ⟨sx,0,none⟩)] W fun e w' =>∃s,e= .returned (.string s)∧R s W w'):
 Calls Tryz.prog 40 #[.pointer (some ⟨sx,0,none⟩), .string line] w (fun e w' =>∃s W,Below w.heap.size w W∧e= .returned (.string s)∧R s W w'):=by
 have CS:=zG8 line w hg (by omega)
 rw [hw] at CS
 change Calls Tryz.prog 72 _ _ (fun e w' =>e= .returned (.slice (some ⟨w.heap.size,0,none⟩) 1 1)∧w' =w.alloc (.cells #[.string a] 9)) at CS
 have HCS:=hid CS
 have HCC:=hid C
 obtain ⟨W2,hW2⟩:∃W2,W2=(w.alloc (.cells #[.string a] 9)).alloc (.cells #[.slice (some ⟨w.heap.size,0,none⟩) 1 1] 56):=⟨_,rfl⟩
 have HW2:=hid hW2
 have HB2:Hid (Below w.heap.size w W2):=hid (by rw [hW2];exact two (zA0 _ _) (zA0 _ _))
 have HK:Hid (∀W,Below W2.heap.size W2 W→W.cell? ⟨w.heap.size+1,0,none⟩=some (.slice (some ⟨w.heap.size,0,none⟩) 1 1)∧W.cell? ⟨w.heap.size,0,none⟩=some (.string a)):=hid (fun W hb=>⟨zA1 hb (by rw [hW2];simp),zA1 hb (by rw [hW2];exact zA1 (zA0 _ _) (by simp))⟩)
 have HWA:Hid (∀W,Below W2.heap.size W2 W→WordsAt W (w.heap.size+1) [a]):=hid (fun W hb=>(yF6 w a).below (by rw [←hW2];exact hb))
 obtain ⟨k0,k1⟩:=HK.out W2 (Below.refl _ _)
 rw [hW2] at k0 k1
 have hz:¬(50:Int)<(line.size:Int):=by omega
 clear CS C hw hg hW2 hsz
 go_enter Tryz.func40, Tryz.ntmps40
 go_wp2_with fail
 refine HCS.out.mono ?_
 rintro e w1 ⟨rfl,rfl⟩
 go_wp2_with fail
 rw [←HW2.out]
 refine (HCC.out _ HB2.out).mono ?_
 rintro e w3 ⟨s,rfl,hr⟩
 have HR:=hid hr
 have HBZ:=HB2
 clear hr
 go_wp2_with fail
 go_ret
 exact ⟨_,_,HBZ.out,rfl,HR.out⟩
theorem xT1 (w:World)(sx:Nat)(line a:ByteArray)(hg:GlobC w)(hsz:line.size≤50)(hw:zB5 line= [a])(h0:(line.toList== [111,112,101,110])=false)(h1:(line.toList== [115,99,114,117,98])=true)(R:ByteArray→World→World→Prop)(C:∀W,Below w.heap.size w W→Calls Tryz.prog 73 #[.pointer (some ⟨sx,0,none⟩)] W fun e w' =>∃s,e= .returned (.string s)∧R s W w'):
 Calls Tryz.prog 40 #[.pointer (some ⟨sx,0,none⟩), .string line] w (fun e w' =>∃s W,Below w.heap.size w W∧e= .returned (.string s)∧R s W w'):=by
 have CS:=zG8 line w hg (by omega)
 rw [hw] at CS
 change Calls Tryz.prog 72 _ _ (fun e w' =>e= .returned (.slice (some ⟨w.heap.size,0,none⟩) 1 1)∧w' =w.alloc (.cells #[.string a] 9)) at CS
 have HCS:=hid CS
 have HCC:=hid C
 obtain ⟨W2,hW2⟩:∃W2,W2=(w.alloc (.cells #[.string a] 9)).alloc (.cells #[.slice (some ⟨w.heap.size,0,none⟩) 1 1] 56):=⟨_,rfl⟩
 have HW2:=hid hW2
 have HB2:Hid (Below w.heap.size w W2):=hid (by rw [hW2];exact two (zA0 _ _) (zA0 _ _))
 have HK:Hid (∀W,Below W2.heap.size W2 W→W.cell? ⟨w.heap.size+1,0,none⟩=some (.slice (some ⟨w.heap.size,0,none⟩) 1 1)∧W.cell? ⟨w.heap.size,0,none⟩=some (.string a)):=hid (fun W hb=>⟨zA1 hb (by rw [hW2];simp),zA1 hb (by rw [hW2];exact zA1 (zA0 _ _) (by simp))⟩)
 have HWA:Hid (∀W,Below W2.heap.size W2 W→WordsAt W (w.heap.size+1) [a]):=hid (fun W hb=>(yF6 w a).below (by rw [←hW2];exact hb))
 obtain ⟨k0,k1⟩:=HK.out W2 (Below.refl _ _)
 rw [hW2] at k0 k1
 have hz:¬(50:Int)<(line.size:Int):=by omega
 clear CS C hw hg hW2 hsz
 go_enter Tryz.func40, Tryz.ntmps40
 go_wp2_with fail
 refine HCS.out.mono ?_
 rintro e w1 ⟨rfl,rfl⟩
 go_wp2_with fail
 rw [←HW2.out]
 refine (HCC.out _ HB2.out).mono ?_
 rintro e w3 ⟨s,rfl,hr⟩
 have HR:=hid hr
 have HBZ:=HB2
 clear hr
 go_wp2_with fail
 go_ret
 exact ⟨_,_,HBZ.out,rfl,HR.out⟩
theorem say_all (w:World)(sx:Nat)(line a:ByteArray)(hg:GlobC w)(hsz:line.size≤50)(hw:zB5 line= [a])(h0:(line.toList== [111,112,101,110])=false)(h1:(line.toList== [115,99,114,117,98])=false)(h2:(line.toList== [97,108,108])=true)(R:ByteArray→World→World→Prop)(C:∀W,Below w.heap.size w W→Calls Tryz.prog 74 #[.pointer (some ⟨sx,0,none⟩)] W fun e w' =>∃s,e= .returned (.string s)∧R s W w'):
 Calls Tryz.prog 40 #[.pointer (some ⟨sx,0,none⟩), .string line] w (fun e w' =>∃s W,Below w.heap.size w W∧e= .returned (.string s)∧R s W w'):=by
 have CS:=zG8 line w hg (by omega)
 rw [hw] at CS
 change Calls Tryz.prog 72 _ _ (fun e w' =>e= .returned (.slice (some ⟨w.heap.size,0,none⟩) 1 1)∧w' =w.alloc (.cells #[.string a] 9)) at CS
 have HCS:=hid CS
 have HCC:=hid C
 obtain ⟨W2,hW2⟩:∃W2,W2=(w.alloc (.cells #[.string a] 9)).alloc (.cells #[.slice (some ⟨w.heap.size,0,none⟩) 1 1] 56):=⟨_,rfl⟩
 have HW2:=hid hW2
 have HB2:Hid (Below w.heap.size w W2):=hid (by rw [hW2];exact two (zA0 _ _) (zA0 _ _))
 have HK:Hid (∀W,Below W2.heap.size W2 W→W.cell? ⟨w.heap.size+1,0,none⟩=some (.slice (some ⟨w.heap.size,0,none⟩) 1 1)∧W.cell? ⟨w.heap.size,0,none⟩=some (.string a)):=hid (fun W hb=>⟨zA1 hb (by rw [hW2];simp),zA1 hb (by rw [hW2];exact zA1 (zA0 _ _) (by simp))⟩)
 have HWA:Hid (∀W,Below W2.heap.size W2 W→WordsAt W (w.heap.size+1) [a]):=hid (fun W hb=>(yF6 w a).below (by rw [←hW2];exact hb))
 obtain ⟨k0,k1⟩:=HK.out W2 (Below.refl _ _)
 rw [hW2] at k0 k1
 have hz:¬(50:Int)<(line.size:Int):=by omega
 clear CS C hw hg hW2 hsz
 go_enter Tryz.func40, Tryz.ntmps40
 go_wp2_with fail
 refine HCS.out.mono ?_
 rintro e w1 ⟨rfl,rfl⟩
 go_wp2_with fail
 rw [←HW2.out]
 refine (HCC.out _ HB2.out).mono ?_
 rintro e w3 ⟨s,rfl,hr⟩
 have HR:=hid hr
 have HBZ:=HB2
 clear hr
 go_wp2_with fail
 go_ret
 exact ⟨_,_,HBZ.out,rfl,HR.out⟩
open Go.RowKit Go.Sort
def xY0 (n:Nat):ByteArray:=if n=0 then okT else zP3 n
def onT (s:ByteArray)(ok:Bool):ByteArray:=if ok=true then s else zP3 4
theorem yR3 (n:Nat)(h9:n<100)(w:World):Calls Tryz.prog 78 #[zE6 n] w fun e w' =>e= .returned (.string (xY0 n))∧w' =w:=vM6 n h9 w
theorem uL4 (w:World)(sx:Nat)(line:ByteArray)(hsz:50<line.size):Calls Tryz.prog 40 #[.pointer (some ⟨sx,0,none⟩), .string line] w fun e w' =>e= .returned (.string (zP3 4))∧Below w.heap.size w w' :=by
 have CFL:=zH7 4 (by decide) (by decide)
 rw [zA5 (by decide)] at CFL
 have HCF:=hid CFL
 clear CFL
 have hz:(50:Int)<(line.size:Int):=by omega
 clear hsz
 go_enter Tryz.func40, Tryz.ntmps40
 go_wp2_with fail
 refine (HCF.out _).mono ?_
 rintro e w3 ⟨rfl,rfl⟩
 go_wp2_with fail
 go_ret
 exact ⟨rfl,Below.refl _ _⟩
theorem uL3 (w:World)(sx:Nat)(line:ByteArray)(hg:GlobC w)(hsz:line.size≤50)(hn:4≤(zB5 line).length)(h0:(line.toList== [111,112,101,110])=false)(h1:(line.toList== [115,99,114,117,98])=false)(h2:(line.toList== [97,108,108])=false)(h3:(line.toList== [116,117,114,110])=false):Calls Tryz.prog 40 #[.pointer (some ⟨sx,0,none⟩), .string line] w fun e w' =>e= .returned (.string (zP3 4))∧Below w.heap.size w w' :=by
 have CFL:=zH7 4 (by decide) (by decide)
 rw [zA5 (by decide)] at CFL
 have HCF:=hid CFL
 clear CFL
 have CS:=hid (zG8 line w hg (by omega))
 obtain ⟨n,hnn⟩:∃n,n=(zB5 line).length:=⟨_,rfl⟩
 obtain ⟨l,hl⟩:∃l,l=zB5 line:=⟨_,rfl⟩
 rw [←hnn] at hn CS
 rw [←hl] at CS
 have hn2:¬(n:Int)=2:=by omega
 have hn3:¬(n:Int)=3:=by omega
 have hz:¬(50:Int)<(line.size:Int):=by omega
 obtain ⟨W2,hW2⟩:∃W2,W2=(w.alloc (.cells (l.map Value.string).toArray 9)).alloc (.cells #[.slice (some ⟨w.heap.size,0,none⟩) n n] 56):=⟨_,rfl⟩
 have HW2:=hid hW2
 have HB2:Hid (Below w.heap.size w W2):=hid (by rw [hW2];exact two (zA0 _ _) (zA0 _ _))
 have k0:W2.cell? ⟨w.heap.size+1,0,none⟩=some (.slice (some ⟨w.heap.size,0,none⟩) n n):=by rw [hW2];simp
 rw [hW2] at k0
 clear hsz hg hnn hl hW2
 go_enter Tryz.func40, Tryz.ntmps40
 go_wp2_with fail
 refine CS.out.mono ?_
 rintro e w1 ⟨rfl,rfl⟩
 go_wp2_with fail
 rw [←HW2.out]
 refine (HCF.out _).mono ?_
 rintro e w3 ⟨rfl,rfl⟩
 go_wp2_with fail
 go_ret
 exact ⟨rfl,HB2.out⟩
theorem vY0 (w:World)(sx:Nat)(line a:ByteArray)(hg:GlobC w)(hsz:line.size≤50)(hw:zB5 line= [a])(h0:(line.toList== [111,112,101,110])=false)(h1:(line.toList== [115,99,114,117,98])=false)(h2:(line.toList== [97,108,108])=false)(h3:(line.toList== [116,117,114,110])=false):
 Calls Tryz.prog 40 #[.pointer (some ⟨sx,0,none⟩), .string line] w fun e w' =>e= .returned (.string (zP3 4))∧Below w.heap.size w w' :=by
 have CFL:=zH7 4 (by decide) (by decide)
 rw [zA5 (by decide)] at CFL
 have HCF:=hid CFL
 clear CFL
 have CS:=zG8 line w hg (by omega)
 rw [hw] at CS
 change Calls Tryz.prog 72 _ _ (fun e w' =>e= .returned (.slice (some ⟨w.heap.size,0,none⟩) 1 1)∧w' =w.alloc (.cells #[.string a] 9)) at CS
 have HCS:=hid CS
 obtain ⟨W2,hW2⟩:∃W2,W2=(w.alloc (.cells #[.string a] 9)).alloc (.cells #[.slice (some ⟨w.heap.size,0,none⟩) 1 1] 56):=⟨_,rfl⟩
 have HW2:=hid hW2
 have HB2:Hid (Below w.heap.size w W2):=hid (by rw [hW2];exact two (zA0 _ _) (zA0 _ _))
 have HK:Hid (∀W,Below W2.heap.size W2 W→W.cell? ⟨w.heap.size+1,0,none⟩=some (.slice (some ⟨w.heap.size,0,none⟩) 1 1)∧W.cell? ⟨w.heap.size,0,none⟩=some (.string a)):=hid (fun W hb=>⟨zA1 hb (by rw [hW2];simp),zA1 hb (by rw [hW2];exact zA1 (zA0 _ _) (by simp))⟩)
 have HWA:Hid (∀W,Below W2.heap.size W2 W→WordsAt W (w.heap.size+1) [a]):=hid (fun W hb=>(yF6 w a).below (by rw [←hW2];exact hb))
 obtain ⟨k0,k1⟩:=HK.out W2 (Below.refl _ _)
 rw [hW2] at k0 k1
 have hz:¬(50:Int)<(line.size:Int):=by omega
 clear CS hw hg hW2 hsz
 go_enter Tryz.func40, Tryz.ntmps40
 go_wp2_with fail
 refine HCS.out.mono ?_
 rintro e w1 ⟨rfl,rfl⟩
 go_wp2_with fail
 rw [←HW2.out]
 refine (HCF.out _).mono ?_
 rintro e w3 ⟨rfl,rfl⟩
 go_wp2_with fail
 go_ret
 exact ⟨rfl,HB2.out⟩
theorem vX9 (w:World)(sx:Nat)(line a b:ByteArray)(hg:GlobC w)(hsz:line.size≤50)(hw:zB5 line= [a,b])(h0:(line.toList== [111,112,101,110])=false)(h1:(line.toList== [115,99,114,117,98])=false)(h2:(line.toList== [97,108,108])=false)(h3:(line.toList== [116,117,114,110])=false)(g0:(a.toList== [114,101,97,100])=false)(g1:(a.toList== [100,105,102,102])=false)(g2:(a.toList== [100,114,111,112])=false):
 Calls Tryz.prog 40 #[.pointer (some ⟨sx,0,none⟩), .string line] w fun e w' =>e= .returned (.string (zP3 4))∧Below w.heap.size w w' :=by
 have CFL:=zH7 4 (by decide) (by decide)
 rw [zA5 (by decide)] at CFL
 have HCF:=hid CFL
 clear CFL
 have CS:=zG8 line w hg (by omega)
 rw [hw] at CS
 change Calls Tryz.prog 72 _ _ (fun e w' =>e= .returned (.slice (some ⟨w.heap.size,0,none⟩) 2 2)∧w' =w.alloc (.cells #[.string a, .string b] 9)) at CS
 have HCS:=hid CS
 obtain ⟨W2,hW2⟩:∃W2,W2=(w.alloc (.cells #[.string a, .string b] 9)).alloc (.cells #[.slice (some ⟨w.heap.size,0,none⟩) 2 2] 56):=⟨_,rfl⟩
 have HW2:=hid hW2
 have HB2:Hid (Below w.heap.size w W2):=hid (by rw [hW2];exact two (zA0 _ _) (zA0 _ _))
 have HK:Hid (∀W,Below W2.heap.size W2 W→W.cell? ⟨w.heap.size+1,0,none⟩=some (.slice (some ⟨w.heap.size,0,none⟩) 2 2)∧W.cell? ⟨w.heap.size,0,none⟩=some (.string a)∧W.cell? ⟨w.heap.size,1,none⟩=some (.string b)):=hid (fun W hb=>⟨zA1 hb (by rw [hW2];simp),zA1 hb (by rw [hW2];exact zA1 (zA0 _ _) (by simp)),zA1 hb (by rw [hW2];exact zA1 (zA0 _ _) (by simp))⟩)
 have HWA:Hid (∀W,Below W2.heap.size W2 W→WordsAt W (w.heap.size+1) [a,b]):=hid (fun W hb=>(yF5 w a b).below (by rw [←hW2];exact hb))
 obtain ⟨k0,k1,k2⟩:=HK.out W2 (Below.refl _ _)
 rw [hW2] at k0 k1 k2
 have hz:¬(50:Int)<(line.size:Int):=by omega
 clear CS hw hg hW2 hsz
 go_enter Tryz.func40, Tryz.ntmps40
 go_wp2_with fail
 refine HCS.out.mono ?_
 rintro e w1 ⟨rfl,rfl⟩
 go_wp2_with fail
 rw [←HW2.out]
 refine (HCF.out _).mono ?_
 rintro e w3 ⟨rfl,rfl⟩
 go_wp2_with fail
 go_ret
 exact ⟨rfl,HB2.out⟩
theorem vX8 (w:World)(sx:Nat)(line a b c:ByteArray)(hg:GlobC w)(hsz:line.size≤50)(hw:zB5 line= [a,b,c])(h0:(line.toList== [111,112,101,110])=false)(h1:(line.toList== [115,99,114,117,98])=false)(h2:(line.toList== [97,108,108])=false)(h3:(line.toList== [116,117,114,110])=false)(g0:(a.toList== [119,114,105,116,101])=false)(g1:(a.toList== [110,97,109,101])=false)(g2:(a.toList== [115,119,97,112])=false)(g3:(a.toList== [97,114,109])=false)(g4:(a.toList== [114,101,115,116,97,114,116])=false)(g5:(a.toList== [115,112,111,105,108])=false):
 Calls Tryz.prog 40 #[.pointer (some ⟨sx,0,none⟩), .string line] w fun e w' =>e= .returned (.string (zP3 4))∧Below w.heap.size w w' :=by
 have CFL:=zH7 4 (by decide) (by decide)
 rw [zA5 (by decide)] at CFL
 have HCF:=hid CFL
 clear CFL
 have CS:=zG8 line w hg (by omega)
 rw [hw] at CS
 change Calls Tryz.prog 72 _ _ (fun e w' =>e= .returned (.slice (some ⟨w.heap.size,0,none⟩) 3 3)∧w' =w.alloc (.cells #[.string a, .string b, .string c] 9)) at CS
 have HCS:=hid CS
 obtain ⟨W2,hW2⟩:∃W2,W2=(w.alloc (.cells #[.string a, .string b, .string c] 9)).alloc (.cells #[.slice (some ⟨w.heap.size,0,none⟩) 3 3] 56):=⟨_,rfl⟩
 have HW2:=hid hW2
 have HB2:Hid (Below w.heap.size w W2):=hid (by rw [hW2];exact two (zA0 _ _) (zA0 _ _))
 have HK:Hid (∀W,Below W2.heap.size W2 W→W.cell? ⟨w.heap.size+1,0,none⟩=some (.slice (some ⟨w.heap.size,0,none⟩) 3 3)∧W.cell? ⟨w.heap.size,0,none⟩=some (.string a)∧W.cell? ⟨w.heap.size,1,none⟩=some (.string b)∧W.cell? ⟨w.heap.size,2,none⟩=some (.string c)):=hid (fun W hb=>⟨zA1 hb (by rw [hW2];simp),zA1 hb (by rw [hW2];exact zA1 (zA0 _ _) (by simp)),zA1 hb (by rw [hW2];exact zA1 (zA0 _ _) (by simp)),zA1 hb (by rw [hW2];exact zA1 (zA0 _ _) (by simp))⟩)
 have HWA:Hid (∀W,Below W2.heap.size W2 W→WordsAt W (w.heap.size+1) [a,b,c]):=hid (fun W hb=>(zV5 w a b c).below (by rw [←hW2];exact hb))
 obtain ⟨k0,k1,k2,k3⟩:=HK.out W2 (Below.refl _ _)
 rw [hW2] at k0 k1 k2 k3
 have hz:¬(50:Int)<(line.size:Int):=by omega
 clear CS hw hg hW2 hsz
 go_enter Tryz.func40, Tryz.ntmps40
 go_wp2_with fail
 refine HCS.out.mono ?_
 rintro e w1 ⟨rfl,rfl⟩
 go_wp2_with fail
 rw [←HW2.out]
 refine (HCF.out _).mono ?_
 rintro e w3 ⟨rfl,rfl⟩
 go_wp2_with fail
 go_ret
 exact ⟨rfl,HB2.out⟩
theorem vP2 (w:World)(sx:Nat)(line a b c:ByteArray)(hg:GlobC w)(hsz:line.size≤50)(hw:zB5 line= [a,b,c])(h0:(line.toList== [111,112,101,110])=false)(h1:(line.toList== [115,99,114,117,98])=false)(h2:(line.toList== [97,108,108])=false)(h3:(line.toList== [116,117,114,110])=false)(g0:(a.toList== [119,114,105,116,101])=true)(gc:c.toList.isEmpty=true)(g1:(a.toList== [110,97,109,101])=false)(g2:(a.toList== [115,119,97,112])=false)(g3:(a.toList== [97,114,109])=false)(g4:(a.toList== [114,101,115,116,97,114,116])=false)(g5:(a.toList== [115,112,111,105,108])=false):
 Calls Tryz.prog 40 #[.pointer (some ⟨sx,0,none⟩), .string line] w fun e w' =>e= .returned (.string (zP3 4))∧Below w.heap.size w w' :=by
 have CFL:=zH7 4 (by decide) (by decide)
 rw [zA5 (by decide)] at CFL
 have HCF:=hid CFL
 clear CFL
 have CS:=zG8 line w hg (by omega)
 rw [hw] at CS
 change Calls Tryz.prog 72 _ _ (fun e w' =>e= .returned (.slice (some ⟨w.heap.size,0,none⟩) 3 3)∧w' =w.alloc (.cells #[.string a, .string b, .string c] 9)) at CS
 have HCS:=hid CS
 obtain ⟨W2,hW2⟩:∃W2,W2=(w.alloc (.cells #[.string a, .string b, .string c] 9)).alloc (.cells #[.slice (some ⟨w.heap.size,0,none⟩) 3 3] 56):=⟨_,rfl⟩
 have HW2:=hid hW2
 have HB2:Hid (Below w.heap.size w W2):=hid (by rw [hW2];exact two (zA0 _ _) (zA0 _ _))
 have HK:Hid (∀W,Below W2.heap.size W2 W→W.cell? ⟨w.heap.size+1,0,none⟩=some (.slice (some ⟨w.heap.size,0,none⟩) 3 3)∧W.cell? ⟨w.heap.size,0,none⟩=some (.string a)∧W.cell? ⟨w.heap.size,1,none⟩=some (.string b)∧W.cell? ⟨w.heap.size,2,none⟩=some (.string c)):=hid (fun W hb=>⟨zA1 hb (by rw [hW2];simp),zA1 hb (by rw [hW2];exact zA1 (zA0 _ _) (by simp)),zA1 hb (by rw [hW2];exact zA1 (zA0 _ _) (by simp)),zA1 hb (by rw [hW2];exact zA1 (zA0 _ _) (by simp))⟩)
 have HWA:Hid (∀W,Below W2.heap.size W2 W→WordsAt W (w.heap.size+1) [a,b,c]):=hid (fun W hb=>(zV5 w a b c).below (by rw [←hW2];exact hb))
 obtain ⟨k0,k1,k2,k3⟩:=HK.out W2 (Below.refl _ _)
 rw [hW2] at k0 k1 k2 k3
 have hz:¬(50:Int)<(line.size:Int):=by omega
 clear CS hw hg hW2 hsz
 go_enter Tryz.func40, Tryz.ntmps40
 go_wp2_with fail
 refine HCS.out.mono ?_
 rintro e w1 ⟨rfl,rfl⟩
 go_wp2_with fail
 rw [←HW2.out]
 refine (HCF.out _).mono ?_
 rintro e w3 ⟨rfl,rfl⟩
 go_wp2_with fail
 go_ret
 exact ⟨rfl,HB2.out⟩
theorem uK8 (w:World)(sx:Nat)(line a:ByteArray)(hg:GlobC w)(hsz:line.size≤50)(hw:zB5 line= [a])(h0:(line.toList== [111,112,101,110])=false)(h1:(line.toList== [115,99,114,117,98])=false)(h2:(line.toList== [97,108,108])=false)(h3:(line.toList== [116,117,114,110])=true)(tb:Nat)(t:Int)(s:ByteArray)(HTB:Hid (∀W,Below w.heap.size w W→W.cell? ⟨sx,3,none⟩=some (.pointer (some ⟨tb,0,none⟩))))(C:∀W,Below w.heap.size w W→Calls Tryz.prog 16 #[.pointer (some ⟨tb,0,none⟩)] W fun e w' =>∃v,e= .returned (.agg #[v, .int .i64 t])∧Below W.heap.size W w')(CI:Hid (∀W,Below w.heap.size w W→Calls Tryz.prog 71 #[.int .i64 t] W fun e w' =>e= .returned (.string s)∧Below W.heap.size W w')):
 Calls Tryz.prog 40 #[.pointer (some ⟨sx,0,none⟩), .string line] w fun e w' =>e= .returned (.string s)∧Below w.heap.size w w' :=by
 have CS:=zG8 line w hg (by omega)
 rw [hw] at CS
 change Calls Tryz.prog 72 _ _ (fun e w' =>e= .returned (.slice (some ⟨w.heap.size,0,none⟩) 1 1)∧w' =w.alloc (.cells #[.string a] 9)) at CS
 have HCS:=hid CS
 have HCC:=hid C
 obtain ⟨W2,hW2⟩:∃W2,W2=(w.alloc (.cells #[.string a] 9)).alloc (.cells #[.slice (some ⟨w.heap.size,0,none⟩) 1 1] 56):=⟨_,rfl⟩
 have HW2:=hid hW2
 have HB2:Hid (Below w.heap.size w W2):=hid (by rw [hW2];exact two (zA0 _ _) (zA0 _ _))
 have HK:Hid (∀W,Below W2.heap.size W2 W→W.cell? ⟨w.heap.size+1,0,none⟩=some (.slice (some ⟨w.heap.size,0,none⟩) 1 1)∧W.cell? ⟨w.heap.size,0,none⟩=some (.string a)):=hid (fun W hb=>⟨zA1 hb (by rw [hW2];simp),zA1 hb (by rw [hW2];exact zA1 (zA0 _ _) (by simp))⟩)
 have HWA:Hid (∀W,Below W2.heap.size W2 W→WordsAt W (w.heap.size+1) [a]):=hid (fun W hb=>(yF6 w a).below (by rw [←hW2];exact hb))
 obtain ⟨k0,k1⟩:=HK.out W2 (Below.refl _ _)
 have kt:=HTB.out W2 HB2.out
 rw [hW2] at k0 k1 kt
 have hz:¬(50:Int)<(line.size:Int):=by omega
 clear CS C hw hg hW2 hsz
 go_enter Tryz.func40, Tryz.ntmps40
 go_wp2_with fail
 refine HCS.out.mono ?_
 rintro e w1 ⟨rfl,rfl⟩
 go_wp2_with fail
 rw [←HW2.out]
 refine (HCC.out _ HB2.out).mono ?_
 rintro e w3 ⟨v,rfl,hb3⟩
 have HB3:=hid (two HB2.out hb3)
 clear hb3
 go_wp2_with fail
 refine (CI.out _ HB3.out).mono ?_
 rintro e w4 ⟨rfl,hb4⟩
 have HB4:=hid (two HB3.out hb4)
 clear hb4
 go_wp2_with fail
 go_ret
 exact ⟨rfl,HB4.out⟩
theorem uL0 (w:World)(sx:Nat)(line a b:ByteArray)(hg:GlobC w)(hsz:line.size≤50)(hw:zB5 line= [a,b])(h0:(line.toList== [111,112,101,110])=false)(h1:(line.toList== [115,99,114,117,98])=false)(h2:(line.toList== [97,108,108])=false)(h3:(line.toList== [116,117,114,110])=false)(g0:(a.toList== [114,101,97,100])=true)(R:ByteArray→World→World→Prop)(C:∀W,Below w.heap.size w W→Calls Tryz.prog 75 #[.pointer (some ⟨sx,0,none⟩), .string b] W fun e w' =>∃s,e= .returned (.string s)∧R s W w'):
 Calls Tryz.prog 40 #[.pointer (some ⟨sx,0,none⟩), .string line] w (fun e w' =>∃s W,Below w.heap.size w W∧e= .returned (.string s)∧R s W w'):=by
 have CS:=zG8 line w hg (by omega)
 rw [hw] at CS
 change Calls Tryz.prog 72 _ _ (fun e w' =>e= .returned (.slice (some ⟨w.heap.size,0,none⟩) 2 2)∧w' =w.alloc (.cells #[.string a, .string b] 9)) at CS
 have HCS:=hid CS
 have HCC:=hid C
 obtain ⟨W2,hW2⟩:∃W2,W2=(w.alloc (.cells #[.string a, .string b] 9)).alloc (.cells #[.slice (some ⟨w.heap.size,0,none⟩) 2 2] 56):=⟨_,rfl⟩
 have HW2:=hid hW2
 have HB2:Hid (Below w.heap.size w W2):=hid (by rw [hW2];exact two (zA0 _ _) (zA0 _ _))
 have HK:Hid (∀W,Below W2.heap.size W2 W→W.cell? ⟨w.heap.size+1,0,none⟩=some (.slice (some ⟨w.heap.size,0,none⟩) 2 2)∧W.cell? ⟨w.heap.size,0,none⟩=some (.string a)∧W.cell? ⟨w.heap.size,1,none⟩=some (.string b)):=hid (fun W hb=>⟨zA1 hb (by rw [hW2];simp),zA1 hb (by rw [hW2];exact zA1 (zA0 _ _) (by simp)),zA1 hb (by rw [hW2];exact zA1 (zA0 _ _) (by simp))⟩)
 have HWA:Hid (∀W,Below W2.heap.size W2 W→WordsAt W (w.heap.size+1) [a,b]):=hid (fun W hb=>(yF5 w a b).below (by rw [←hW2];exact hb))
 obtain ⟨k0,k1,k2⟩:=HK.out W2 (Below.refl _ _)
 rw [hW2] at k0 k1 k2
 have hz:¬(50:Int)<(line.size:Int):=by omega
 clear CS C hw hg hW2 hsz
 go_enter Tryz.func40, Tryz.ntmps40
 go_wp2_with fail
 refine HCS.out.mono ?_
 rintro e w1 ⟨rfl,rfl⟩
 go_wp2_with fail
 rw [←HW2.out]
 refine (HCC.out _ HB2.out).mono ?_
 rintro e w3 ⟨s,rfl,hr⟩
 have HR:=hid hr
 have HBZ:=HB2
 clear hr
 go_wp2_with fail
 go_ret
 exact ⟨_,_,HBZ.out,rfl,HR.out⟩
theorem yY7 (w:World)(sx:Nat)(line a b:ByteArray)(hg:GlobC w)(hsz:line.size≤50)(hw:zB5 line= [a,b])(h0:(line.toList== [111,112,101,110])=false)(h1:(line.toList== [115,99,114,117,98])=false)(h2:(line.toList== [97,108,108])=false)(h3:(line.toList== [116,117,114,110])=false)(g0:(a.toList== [114,101,97,100])=false)(g1:(a.toList== [100,105,102,102])=true)(n:Int)(CN:Hid (∀W,Below w.heap.size w W→Calls Tryz.prog 76 #[.string b] W fun e w' =>e= .returned (.int .i64 n)∧Below W.heap.size W w'))(hn:0≤n)(R:ByteArray→World→World→Prop)(C:∀W,Below w.heap.size w W→Calls Tryz.prog 77 #[.pointer (some ⟨sx,0,none⟩), .int .i64 n] W fun e w' =>∃s,e= .returned (.string s)∧R s W w'):
 Calls Tryz.prog 40 #[.pointer (some ⟨sx,0,none⟩), .string line] w (fun e w' =>∃s W,Below w.heap.size w W∧e= .returned (.string s)∧R s W w'):=by
 have CS:=zG8 line w hg (by omega)
 rw [hw] at CS
 change Calls Tryz.prog 72 _ _ (fun e w' =>e= .returned (.slice (some ⟨w.heap.size,0,none⟩) 2 2)∧w' =w.alloc (.cells #[.string a, .string b] 9)) at CS
 have HCS:=hid CS
 have HCC:=hid C
 obtain ⟨W2,hW2⟩:∃W2,W2=(w.alloc (.cells #[.string a, .string b] 9)).alloc (.cells #[.slice (some ⟨w.heap.size,0,none⟩) 2 2] 56):=⟨_,rfl⟩
 have HW2:=hid hW2
 have HB2:Hid (Below w.heap.size w W2):=hid (by rw [hW2];exact two (zA0 _ _) (zA0 _ _))
 have HK:Hid (∀W,Below W2.heap.size W2 W→W.cell? ⟨w.heap.size+1,0,none⟩=some (.slice (some ⟨w.heap.size,0,none⟩) 2 2)∧W.cell? ⟨w.heap.size,0,none⟩=some (.string a)∧W.cell? ⟨w.heap.size,1,none⟩=some (.string b)):=hid (fun W hb=>⟨zA1 hb (by rw [hW2];simp),zA1 hb (by rw [hW2];exact zA1 (zA0 _ _) (by simp)),zA1 hb (by rw [hW2];exact zA1 (zA0 _ _) (by simp))⟩)
 have HWA:Hid (∀W,Below W2.heap.size W2 W→WordsAt W (w.heap.size+1) [a,b]):=hid (fun W hb=>(yF5 w a b).below (by rw [←hW2];exact hb))
 obtain ⟨k0,k1,k2⟩:=HK.out W2 (Below.refl _ _)
 rw [hW2] at k0 k1 k2
 have hz:¬(50:Int)<(line.size:Int):=by omega
 clear CS C hw hg hW2 hsz
 go_enter Tryz.func40, Tryz.ntmps40
 go_wp2_with fail
 refine HCS.out.mono ?_
 rintro e w1 ⟨rfl,rfl⟩
 go_wp2_with fail
 rw [←HW2.out]
 refine (CN.out _ HB2.out).mono ?_
 rintro e w3 ⟨rfl,hb3⟩
 have HB3:=hid (two HB2.out hb3)
 have HX3:=hid hb3
 obtain ⟨j0,j1,j2⟩:=HK.out w3 hb3
 clear hb3 k0 k1 k2
 go_wp2_with fail
 refine (CN.out _ HB3.out).mono ?_
 rintro e w4 ⟨rfl,hb4⟩
 have HB4:=hid (two HB3.out hb4)
 clear hb4 j0 j1 j2
 go_wp2_with fail
 refine (HCC.out _ HB4.out).mono ?_
 rintro e w5 ⟨s,rfl,hr⟩
 have HR:=hid hr
 have HBZ:=HB4
 clear hr
 go_wp2_with fail
 go_ret
 exact ⟨_,_,HBZ.out,rfl,HR.out⟩
theorem vP3 (w:World)(sx:Nat)(line a b:ByteArray)(hg:GlobC w)(hsz:line.size≤50)(hw:zB5 line= [a,b])(h0:(line.toList== [111,112,101,110])=false)(h1:(line.toList== [115,99,114,117,98])=false)(h2:(line.toList== [97,108,108])=false)(h3:(line.toList== [116,117,114,110])=false)(g0:(a.toList== [114,101,97,100])=false)(g1:(a.toList== [100,105,102,102])=true)(g2:(a.toList== [100,114,111,112])=false)(n:Int)(CN:Hid (∀W,Below w.heap.size w W→Calls Tryz.prog 76 #[.string b] W fun e w' =>e= .returned (.int .i64 n)∧Below W.heap.size W w'))(hn:n<0):
 Calls Tryz.prog 40 #[.pointer (some ⟨sx,0,none⟩), .string line] w fun e w' =>e= .returned (.string (zP3 4))∧Below w.heap.size w w' :=by
 have CFL:=zH7 4 (by decide) (by decide)
 rw [zA5 (by decide)] at CFL
 have HCF:=hid CFL
 clear CFL
 have CS:=zG8 line w hg (by omega)
 rw [hw] at CS
 change Calls Tryz.prog 72 _ _ (fun e w' =>e= .returned (.slice (some ⟨w.heap.size,0,none⟩) 2 2)∧w' =w.alloc (.cells #[.string a, .string b] 9)) at CS
 have HCS:=hid CS
 obtain ⟨W2,hW2⟩:∃W2,W2=(w.alloc (.cells #[.string a, .string b] 9)).alloc (.cells #[.slice (some ⟨w.heap.size,0,none⟩) 2 2] 56):=⟨_,rfl⟩
 have HW2:=hid hW2
 have HB2:Hid (Below w.heap.size w W2):=hid (by rw [hW2];exact two (zA0 _ _) (zA0 _ _))
 have HK:Hid (∀W,Below W2.heap.size W2 W→W.cell? ⟨w.heap.size+1,0,none⟩=some (.slice (some ⟨w.heap.size,0,none⟩) 2 2)∧W.cell? ⟨w.heap.size,0,none⟩=some (.string a)∧W.cell? ⟨w.heap.size,1,none⟩=some (.string b)):=hid (fun W hb=>⟨zA1 hb (by rw [hW2];simp),zA1 hb (by rw [hW2];exact zA1 (zA0 _ _) (by simp)),zA1 hb (by rw [hW2];exact zA1 (zA0 _ _) (by simp))⟩)
 have HWA:Hid (∀W,Below W2.heap.size W2 W→WordsAt W (w.heap.size+1) [a,b]):=hid (fun W hb=>(yF5 w a b).below (by rw [←hW2];exact hb))
 obtain ⟨k0,k1,k2⟩:=HK.out W2 (Below.refl _ _)
 rw [hW2] at k0 k1 k2
 have hz:¬(50:Int)<(line.size:Int):=by omega
 clear CS hw hg hW2 hsz
 go_enter Tryz.func40, Tryz.ntmps40
 go_wp2_with fail
 refine HCS.out.mono ?_
 rintro e w1 ⟨rfl,rfl⟩
 go_wp2_with fail
 rw [←HW2.out]
 refine (CN.out _ HB2.out).mono ?_
 rintro e w3 ⟨rfl,hb3⟩
 have HB3:=hid (two HB2.out hb3)
 obtain ⟨j0,j1,j2⟩:=HK.out w3 hb3
 clear hb3 k0 k1 k2
 go_wp2_with fail
 refine (HCF.out _).mono ?_
 rintro e w4 ⟨rfl,rfl⟩
 go_wp2_with fail
 go_ret
 exact ⟨rfl,HB3.out⟩
theorem uL6 (w:World)(sx:Nat)(line a b:ByteArray)(hg:GlobC w)(hsz:line.size≤50)(hw:zB5 line= [a,b])(h0:(line.toList== [111,112,101,110])=false)(h1:(line.toList== [115,99,114,117,98])=false)(h2:(line.toList== [97,108,108])=false)(h3:(line.toList== [116,117,114,110])=false)(g0:(a.toList== [114,101,97,100])=false)(g1:(a.toList== [100,105,102,102])=false)(g2:(a.toList== [100,114,111,112])=true)(tb:Nat)(HTB:Hid (∀W,Below w.heap.size w W→W.cell? ⟨sx,3,none⟩=some (.pointer (some ⟨tb,0,none⟩))))(R:Nat→World→World→Prop)(C:∀W ab,Below w.heap.size w W→WordsAt W ab [a,b]→Calls Tryz.prog 35 #[.pointer (some ⟨tb,0,none⟩), .func (.func 79) #[] #[.pointer (some ⟨ab,0,none⟩)]] W fun e w' =>∃n,n<100∧e= .returned (zE6 n)∧R n W w'):
 Calls Tryz.prog 40 #[.pointer (some ⟨sx,0,none⟩), .string line] w fun e w' =>∃n W,Below w.heap.size w W∧e= .returned (.string (xY0 n))∧R n W w' :=by
 have CS:=zG8 line w hg (by omega)
 rw [hw] at CS
 change Calls Tryz.prog 72 _ _ (fun e w' =>e= .returned (.slice (some ⟨w.heap.size,0,none⟩) 2 2)∧w' =w.alloc (.cells #[.string a, .string b] 9)) at CS
 have HCS:=hid CS
 have HCC:=hid C
 obtain ⟨W2,hW2⟩:∃W2,W2=(w.alloc (.cells #[.string a, .string b] 9)).alloc (.cells #[.slice (some ⟨w.heap.size,0,none⟩) 2 2] 56):=⟨_,rfl⟩
 have HW2:=hid hW2
 have HB2:Hid (Below w.heap.size w W2):=hid (by rw [hW2];exact two (zA0 _ _) (zA0 _ _))
 have HK:Hid (∀W,Below W2.heap.size W2 W→W.cell? ⟨w.heap.size+1,0,none⟩=some (.slice (some ⟨w.heap.size,0,none⟩) 2 2)∧W.cell? ⟨w.heap.size,0,none⟩=some (.string a)∧W.cell? ⟨w.heap.size,1,none⟩=some (.string b)):=hid (fun W hb=>⟨zA1 hb (by rw [hW2];simp),zA1 hb (by rw [hW2];exact zA1 (zA0 _ _) (by simp)),zA1 hb (by rw [hW2];exact zA1 (zA0 _ _) (by simp))⟩)
 have HWA:Hid (∀W,Below W2.heap.size W2 W→WordsAt W (w.heap.size+1) [a,b]):=hid (fun W hb=>(yF5 w a b).below (by rw [←hW2];exact hb))
 obtain ⟨k0,k1,k2⟩:=HK.out W2 (Below.refl _ _)
 have kt:=HTB.out W2 HB2.out
 rw [hW2] at k0 k1 k2 kt
 have hz:¬(50:Int)<(line.size:Int):=by omega
 clear CS C hw hg hW2 hsz
 go_enter Tryz.func40, Tryz.ntmps40
 go_wp2_with fail
 refine HCS.out.mono ?_
 rintro e w1 ⟨rfl,rfl⟩
 go_wp2_with fail
 rw [←HW2.out]
 refine (HCC.out _ _ HB2.out (HWA.out _ (Below.refl _ _))).mono ?_
 rintro e w3 ⟨n,hn,rfl,hr⟩
 have HR:=hid hr
 have CDN:=hid (yR3 n hn w3)
 obtain ⟨ev,hev⟩:∃ev,ev=zE6 n:=⟨_,rfl⟩
 rw [←hev] at CDN ⊢
 clear hr hn hev
 go_wp2_with fail
 refine CDN.out.mono ?_
 rintro e w4 ⟨rfl,rfl⟩
 go_wp2_with fail
 go_ret
 exact ⟨n,W2,HB2.out,rfl,HR.out⟩
theorem vX7 (w:World)(sx:Nat)(line a b c:ByteArray)(hg:GlobC w)(hsz:line.size≤50)(hw:zB5 line= [a,b,c])(h0:(line.toList== [111,112,101,110])=false)(h1:(line.toList== [115,99,114,117,98])=false)(h2:(line.toList== [97,108,108])=false)(h3:(line.toList== [116,117,114,110])=false)(g0:(a.toList== [119,114,105,116,101])=true)(gc:c.toList.isEmpty=false)(tb:Nat)(HTB:Hid (∀W,Below w.heap.size w W→W.cell? ⟨sx,3,none⟩=some (.pointer (some ⟨tb,0,none⟩))))(R:Nat→World→World→Prop)(C:∀W ab,Below w.heap.size w W→WordsAt W ab [a,b,c]→Calls Tryz.prog 35 #[.pointer (some ⟨tb,0,none⟩), .func (.func 80) #[] #[.pointer (some ⟨ab,0,none⟩)]] W fun e w' =>∃n,n<100∧e= .returned (zE6 n)∧R n W w'):
 Calls Tryz.prog 40 #[.pointer (some ⟨sx,0,none⟩), .string line] w fun e w' =>∃n W,Below w.heap.size w W∧e= .returned (.string (xY0 n))∧R n W w' :=by
 have CS:=zG8 line w hg (by omega)
 rw [hw] at CS
 change Calls Tryz.prog 72 _ _ (fun e w' =>e= .returned (.slice (some ⟨w.heap.size,0,none⟩) 3 3)∧w' =w.alloc (.cells #[.string a, .string b, .string c] 9)) at CS
 have HCS:=hid CS
 have HCC:=hid C
 obtain ⟨W2,hW2⟩:∃W2,W2=(w.alloc (.cells #[.string a, .string b, .string c] 9)).alloc (.cells #[.slice (some ⟨w.heap.size,0,none⟩) 3 3] 56):=⟨_,rfl⟩
 have HW2:=hid hW2
 have HB2:Hid (Below w.heap.size w W2):=hid (by rw [hW2];exact two (zA0 _ _) (zA0 _ _))
 have HK:Hid (∀W,Below W2.heap.size W2 W→W.cell? ⟨w.heap.size+1,0,none⟩=some (.slice (some ⟨w.heap.size,0,none⟩) 3 3)∧W.cell? ⟨w.heap.size,0,none⟩=some (.string a)∧W.cell? ⟨w.heap.size,1,none⟩=some (.string b)∧W.cell? ⟨w.heap.size,2,none⟩=some (.string c)):=hid (fun W hb=>⟨zA1 hb (by rw [hW2];simp),zA1 hb (by rw [hW2];exact zA1 (zA0 _ _) (by simp)),zA1 hb (by rw [hW2];exact zA1 (zA0 _ _) (by simp)),zA1 hb (by rw [hW2];exact zA1 (zA0 _ _) (by simp))⟩)
 have HWA:Hid (∀W,Below W2.heap.size W2 W→WordsAt W (w.heap.size+1) [a,b,c]):=hid (fun W hb=>(zV5 w a b c).below (by rw [←hW2];exact hb))
 obtain ⟨k0,k1,k2,k3⟩:=HK.out W2 (Below.refl _ _)
 have kt:=HTB.out W2 HB2.out
 rw [hW2] at k0 k1 k2 k3 kt
 have hz:¬(50:Int)<(line.size:Int):=by omega
 clear CS C hw hg hW2 hsz
 go_enter Tryz.func40, Tryz.ntmps40
 go_wp2_with fail
 refine HCS.out.mono ?_
 rintro e w1 ⟨rfl,rfl⟩
 go_wp2_with fail
 rw [←HW2.out]
 refine (HCC.out _ _ HB2.out (HWA.out _ (Below.refl _ _))).mono ?_
 rintro e w3 ⟨n,hn,rfl,hr⟩
 have HR:=hid hr
 have CDN:=hid (yR3 n hn w3)
 obtain ⟨ev,hev⟩:∃ev,ev=zE6 n:=⟨_,rfl⟩
 rw [←hev] at CDN ⊢
 clear hr hn hev
 go_wp2_with fail
 refine CDN.out.mono ?_
 rintro e w4 ⟨rfl,rfl⟩
 go_wp2_with fail
 go_ret
 exact ⟨n,W2,HB2.out,rfl,HR.out⟩
theorem uL2 (w:World)(sx:Nat)(line a b c:ByteArray)(hg:GlobC w)(hsz:line.size≤50)(hw:zB5 line= [a,b,c])(h0:(line.toList== [111,112,101,110])=false)(h1:(line.toList== [115,99,114,117,98])=false)(h2:(line.toList== [97,108,108])=false)(h3:(line.toList== [116,117,114,110])=false)(g0:(a.toList== [119,114,105,116,101])=false)(g1:(a.toList== [110,97,109,101])=true)(tb:Nat)(HTB:Hid (∀W,Below w.heap.size w W→W.cell? ⟨sx,3,none⟩=some (.pointer (some ⟨tb,0,none⟩))))(R:Nat→World→World→Prop)(C:∀W ab,Below w.heap.size w W→WordsAt W ab [a,b,c]→Calls Tryz.prog 35 #[.pointer (some ⟨tb,0,none⟩), .func (.func 82) #[] #[.pointer (some ⟨ab,0,none⟩)]] W fun e w' =>∃n,n<100∧e= .returned (zE6 n)∧R n W w'):
 Calls Tryz.prog 40 #[.pointer (some ⟨sx,0,none⟩), .string line] w fun e w' =>∃n W,Below w.heap.size w W∧e= .returned (.string (xY0 n))∧R n W w' :=by
 have CS:=zG8 line w hg (by omega)
 rw [hw] at CS
 change Calls Tryz.prog 72 _ _ (fun e w' =>e= .returned (.slice (some ⟨w.heap.size,0,none⟩) 3 3)∧w' =w.alloc (.cells #[.string a, .string b, .string c] 9)) at CS
 have HCS:=hid CS
 have HCC:=hid C
 obtain ⟨W2,hW2⟩:∃W2,W2=(w.alloc (.cells #[.string a, .string b, .string c] 9)).alloc (.cells #[.slice (some ⟨w.heap.size,0,none⟩) 3 3] 56):=⟨_,rfl⟩
 have HW2:=hid hW2
 have HB2:Hid (Below w.heap.size w W2):=hid (by rw [hW2];exact two (zA0 _ _) (zA0 _ _))
 have HK:Hid (∀W,Below W2.heap.size W2 W→W.cell? ⟨w.heap.size+1,0,none⟩=some (.slice (some ⟨w.heap.size,0,none⟩) 3 3)∧W.cell? ⟨w.heap.size,0,none⟩=some (.string a)∧W.cell? ⟨w.heap.size,1,none⟩=some (.string b)∧W.cell? ⟨w.heap.size,2,none⟩=some (.string c)):=hid (fun W hb=>⟨zA1 hb (by rw [hW2];simp),zA1 hb (by rw [hW2];exact zA1 (zA0 _ _) (by simp)),zA1 hb (by rw [hW2];exact zA1 (zA0 _ _) (by simp)),zA1 hb (by rw [hW2];exact zA1 (zA0 _ _) (by simp))⟩)
 have HWA:Hid (∀W,Below W2.heap.size W2 W→WordsAt W (w.heap.size+1) [a,b,c]):=hid (fun W hb=>(zV5 w a b c).below (by rw [←hW2];exact hb))
 obtain ⟨k0,k1,k2,k3⟩:=HK.out W2 (Below.refl _ _)
 have kt:=HTB.out W2 HB2.out
 rw [hW2] at k0 k1 k2 k3 kt
 have hz:¬(50:Int)<(line.size:Int):=by omega
 clear CS C hw hg hW2 hsz
 go_enter Tryz.func40, Tryz.ntmps40
 go_wp2_with fail
 refine HCS.out.mono ?_
 rintro e w1 ⟨rfl,rfl⟩
 go_wp2_with fail
 rw [←HW2.out]
 refine (HCC.out _ _ HB2.out (HWA.out _ (Below.refl _ _))).mono ?_
 rintro e w3 ⟨n,hn,rfl,hr⟩
 have HR:=hid hr
 have CDN:=hid (yR3 n hn w3)
 obtain ⟨ev,hev⟩:∃ev,ev=zE6 n:=⟨_,rfl⟩
 rw [←hev] at CDN ⊢
 clear hr hn hev
 go_wp2_with fail
 refine CDN.out.mono ?_
 rintro e w4 ⟨rfl,rfl⟩
 go_wp2_with fail
 go_ret
 exact ⟨n,W2,HB2.out,rfl,HR.out⟩
theorem uK9 (w:World)(sx:Nat)(line a b c:ByteArray)(hg:GlobC w)(hsz:line.size≤50)(hw:zB5 line= [a,b,c])(h0:(line.toList== [111,112,101,110])=false)(h1:(line.toList== [115,99,114,117,98])=false)(h2:(line.toList== [97,108,108])=false)(h3:(line.toList== [116,117,114,110])=false)(g0:(a.toList== [119,114,105,116,101])=false)(g1:(a.toList== [110,97,109,101])=false)(g2:(a.toList== [115,119,97,112])=true)(tb:Nat)(HTB:Hid (∀W,Below w.heap.size w W→W.cell? ⟨sx,3,none⟩=some (.pointer (some ⟨tb,0,none⟩))))(R:Nat→World→World→Prop)(C:∀W ab,Below w.heap.size w W→WordsAt W ab [a,b,c]→Calls Tryz.prog 35 #[.pointer (some ⟨tb,0,none⟩), .func (.func 83) #[] #[.pointer (some ⟨ab,0,none⟩)]] W fun e w' =>∃n,n<100∧e= .returned (zE6 n)∧R n W w'):
 Calls Tryz.prog 40 #[.pointer (some ⟨sx,0,none⟩), .string line] w fun e w' =>∃n W,Below w.heap.size w W∧e= .returned (.string (xY0 n))∧R n W w' :=by
 have CS:=zG8 line w hg (by omega)
 rw [hw] at CS
 change Calls Tryz.prog 72 _ _ (fun e w' =>e= .returned (.slice (some ⟨w.heap.size,0,none⟩) 3 3)∧w' =w.alloc (.cells #[.string a, .string b, .string c] 9)) at CS
 have HCS:=hid CS
 have HCC:=hid C
 obtain ⟨W2,hW2⟩:∃W2,W2=(w.alloc (.cells #[.string a, .string b, .string c] 9)).alloc (.cells #[.slice (some ⟨w.heap.size,0,none⟩) 3 3] 56):=⟨_,rfl⟩
 have HW2:=hid hW2
 have HB2:Hid (Below w.heap.size w W2):=hid (by rw [hW2];exact two (zA0 _ _) (zA0 _ _))
 have HK:Hid (∀W,Below W2.heap.size W2 W→W.cell? ⟨w.heap.size+1,0,none⟩=some (.slice (some ⟨w.heap.size,0,none⟩) 3 3)∧W.cell? ⟨w.heap.size,0,none⟩=some (.string a)∧W.cell? ⟨w.heap.size,1,none⟩=some (.string b)∧W.cell? ⟨w.heap.size,2,none⟩=some (.string c)):=hid (fun W hb=>⟨zA1 hb (by rw [hW2];simp),zA1 hb (by rw [hW2];exact zA1 (zA0 _ _) (by simp)),zA1 hb (by rw [hW2];exact zA1 (zA0 _ _) (by simp)),zA1 hb (by rw [hW2];exact zA1 (zA0 _ _) (by simp))⟩)
 have HWA:Hid (∀W,Below W2.heap.size W2 W→WordsAt W (w.heap.size+1) [a,b,c]):=hid (fun W hb=>(zV5 w a b c).below (by rw [←hW2];exact hb))
 obtain ⟨k0,k1,k2,k3⟩:=HK.out W2 (Below.refl _ _)
 have kt:=HTB.out W2 HB2.out
 rw [hW2] at k0 k1 k2 k3 kt
 have hz:¬(50:Int)<(line.size:Int):=by omega
 clear CS C hw hg hW2 hsz
 go_enter Tryz.func40, Tryz.ntmps40
 go_wp2_with fail
 refine HCS.out.mono ?_
 rintro e w1 ⟨rfl,rfl⟩
 go_wp2_with fail
 rw [←HW2.out]
 refine (HCC.out _ _ HB2.out (HWA.out _ (Below.refl _ _))).mono ?_
 rintro e w3 ⟨n,hn,rfl,hr⟩
 have HR:=hid hr
 have CDN:=hid (yR3 n hn w3)
 obtain ⟨ev,hev⟩:∃ev,ev=zE6 n:=⟨_,rfl⟩
 rw [←hev] at CDN ⊢
 clear hr hn hev
 go_wp2_with fail
 refine CDN.out.mono ?_
 rintro e w4 ⟨rfl,rfl⟩
 go_wp2_with fail
 go_ret
 exact ⟨n,W2,HB2.out,rfl,HR.out⟩
theorem xH9 (w:World)(sx:Nat)(line a b c:ByteArray)(hg:GlobC w)(hsz:line.size≤50)(hw:zB5 line= [a,b,c])(h0:(line.toList== [111,112,101,110])=false)(h1:(line.toList== [115,99,114,117,98])=false)(h2:(line.toList== [97,108,108])=false)(h3:(line.toList== [116,117,114,110])=false)(g0:(a.toList== [119,114,105,116,101])=false)(g1:(a.toList== [110,97,109,101])=false)(g2:(a.toList== [115,119,97,112])=false)(g3:(a.toList== [97,114,109])=false)(g4:(a.toList== [114,101,115,116,97,114,116])=true)(R:ByteArray→Bool→World→World→Prop)(C:∀W wb wo wc,Below w.heap.size w W→Texts W (.slice (some ⟨wb,wo,none⟩) 3 wc) [a,b,c]→Calls Tryz.prog 84 #[.pointer (some ⟨sx,0,none⟩), .slice (some ⟨wb,wo,none⟩) 3 wc] W fun e w' =>∃s ok,e= .returned (.tuple #[.string s, .bool ok])∧R s ok W w'):
 Calls Tryz.prog 40 #[.pointer (some ⟨sx,0,none⟩), .string line] w fun e w' =>∃s ok W,Below w.heap.size w W∧e= .returned (.string (onT s ok))∧R s ok W w' :=by
 have CFL:=zH7 4 (by decide) (by decide)
 rw [zA5 (by decide)] at CFL
 have HCF:=hid CFL
 clear CFL
 have CS:=zG8 line w hg (by omega)
 rw [hw] at CS
 change Calls Tryz.prog 72 _ _ (fun e w' =>e= .returned (.slice (some ⟨w.heap.size,0,none⟩) 3 3)∧w' =w.alloc (.cells #[.string a, .string b, .string c] 9)) at CS
 have HCS:=hid CS
 have HCC:=hid C
 obtain ⟨W2,hW2⟩:∃W2,W2=(w.alloc (.cells #[.string a, .string b, .string c] 9)).alloc (.cells #[.slice (some ⟨w.heap.size,0,none⟩) 3 3] 56):=⟨_,rfl⟩
 have HW2:=hid hW2
 have HB2:Hid (Below w.heap.size w W2):=hid (by rw [hW2];exact two (zA0 _ _) (zA0 _ _))
 have HK:Hid (∀W,Below W2.heap.size W2 W→W.cell? ⟨w.heap.size+1,0,none⟩=some (.slice (some ⟨w.heap.size,0,none⟩) 3 3)∧W.cell? ⟨w.heap.size,0,none⟩=some (.string a)∧W.cell? ⟨w.heap.size,1,none⟩=some (.string b)∧W.cell? ⟨w.heap.size,2,none⟩=some (.string c)):=hid (fun W hb=>⟨zA1 hb (by rw [hW2];simp),zA1 hb (by rw [hW2];exact zA1 (zA0 _ _) (by simp)),zA1 hb (by rw [hW2];exact zA1 (zA0 _ _) (by simp)),zA1 hb (by rw [hW2];exact zA1 (zA0 _ _) (by simp))⟩)
 have HWA:Hid (∀W,Below W2.heap.size W2 W→WordsAt W (w.heap.size+1) [a,b,c]):=hid (fun W hb=>(zV5 w a b c).below (by rw [←hW2];exact hb))
 obtain ⟨k0,k1,k2,k3⟩:=HK.out W2 (Below.refl _ _)
 rw [hW2] at k0 k1 k2 k3
 have hz:¬(50:Int)<(line.size:Int):=by omega
 clear CS C hw hg hW2 hsz
 go_enter Tryz.func40, Tryz.ntmps40
 go_wp2_with fail
 refine HCS.out.mono ?_
 rintro e w1 ⟨rfl,rfl⟩
 go_wp2_with fail
 rw [←HW2.out]
 have htx:Texts W2 (.slice (some ⟨w.heap.size,0,none⟩) 3 3) [a,b,c]:=by
  rw [HW2.out]
  exact Rd.below (zV6 w [a,b,c] (by simp)) (zA0 _ _)
 have HCO:=hid (HCC.out _ _ _ _ HB2.out htx)
 clear htx
 refine HCO.out.mono ?_
 rintro e w3 ⟨s,ok,rfl,hr⟩
 have HR:=hid hr
 clear hr
 cases ok
 · go_wp2_with fail
   refine (HCF.out _).mono ?_
   rintro e w4 ⟨rfl,rfl⟩
   go_wp2_with fail
   go_ret
   exact ⟨s,false,W2,HB2.out,rfl,HR.out⟩
 · go_wp2_with fail
   go_ret
   exact ⟨s,true,W2,HB2.out,rfl,HR.out⟩
theorem xT2 (w:World)(sx:Nat)(line a b c:ByteArray)(hg:GlobC w)(hsz:line.size≤50)(hw:zB5 line= [a,b,c])(h0:(line.toList== [111,112,101,110])=false)(h1:(line.toList== [115,99,114,117,98])=false)(h2:(line.toList== [97,108,108])=false)(h3:(line.toList== [116,117,114,110])=false)(g0:(a.toList== [119,114,105,116,101])=false)(g1:(a.toList== [110,97,109,101])=false)(g2:(a.toList== [115,119,97,112])=false)(g3:(a.toList== [97,114,109])=false)(g4:(a.toList== [114,101,115,116,97,114,116])=false)(g5:(a.toList== [115,112,111,105,108])=true)(R:ByteArray→Bool→World→World→Prop)(C:∀W wb wo wc,Below w.heap.size w W→Texts W (.slice (some ⟨wb,wo,none⟩) 3 wc) [a,b,c]→Calls Tryz.prog 84 #[.pointer (some ⟨sx,0,none⟩), .slice (some ⟨wb,wo,none⟩) 3 wc] W fun e w' =>∃s ok,e= .returned (.tuple #[.string s, .bool ok])∧R s ok W w'):
 Calls Tryz.prog 40 #[.pointer (some ⟨sx,0,none⟩), .string line] w fun e w' =>∃s ok W,Below w.heap.size w W∧e= .returned (.string (onT s ok))∧R s ok W w' :=by
 have CFL:=zH7 4 (by decide) (by decide)
 rw [zA5 (by decide)] at CFL
 have HCF:=hid CFL
 clear CFL
 have CS:=zG8 line w hg (by omega)
 rw [hw] at CS
 change Calls Tryz.prog 72 _ _ (fun e w' =>e= .returned (.slice (some ⟨w.heap.size,0,none⟩) 3 3)∧w' =w.alloc (.cells #[.string a, .string b, .string c] 9)) at CS
 have HCS:=hid CS
 have HCC:=hid C
 obtain ⟨W2,hW2⟩:∃W2,W2=(w.alloc (.cells #[.string a, .string b, .string c] 9)).alloc (.cells #[.slice (some ⟨w.heap.size,0,none⟩) 3 3] 56):=⟨_,rfl⟩
 have HW2:=hid hW2
 have HB2:Hid (Below w.heap.size w W2):=hid (by rw [hW2];exact two (zA0 _ _) (zA0 _ _))
 have HK:Hid (∀W,Below W2.heap.size W2 W→W.cell? ⟨w.heap.size+1,0,none⟩=some (.slice (some ⟨w.heap.size,0,none⟩) 3 3)∧W.cell? ⟨w.heap.size,0,none⟩=some (.string a)∧W.cell? ⟨w.heap.size,1,none⟩=some (.string b)∧W.cell? ⟨w.heap.size,2,none⟩=some (.string c)):=hid (fun W hb=>⟨zA1 hb (by rw [hW2];simp),zA1 hb (by rw [hW2];exact zA1 (zA0 _ _) (by simp)),zA1 hb (by rw [hW2];exact zA1 (zA0 _ _) (by simp)),zA1 hb (by rw [hW2];exact zA1 (zA0 _ _) (by simp))⟩)
 have HWA:Hid (∀W,Below W2.heap.size W2 W→WordsAt W (w.heap.size+1) [a,b,c]):=hid (fun W hb=>(zV5 w a b c).below (by rw [←hW2];exact hb))
 obtain ⟨k0,k1,k2,k3⟩:=HK.out W2 (Below.refl _ _)
 rw [hW2] at k0 k1 k2 k3
 have hz:¬(50:Int)<(line.size:Int):=by omega
 clear CS C hw hg hW2 hsz
 go_enter Tryz.func40, Tryz.ntmps40
 go_wp2_with fail
 refine HCS.out.mono ?_
 rintro e w1 ⟨rfl,rfl⟩
 go_wp2_with fail
 rw [←HW2.out]
 have htx:Texts W2 (.slice (some ⟨w.heap.size,0,none⟩) 3 3) [a,b,c]:=by
  rw [HW2.out]
  exact Rd.below (zV6 w [a,b,c] (by simp)) (zA0 _ _)
 have HCO:=hid (HCC.out _ _ _ _ HB2.out htx)
 clear htx
 refine HCO.out.mono ?_
 rintro e w3 ⟨s,ok,rfl,hr⟩
 have HR:=hid hr
 clear hr
 cases ok
 · go_wp2_with fail
   refine (HCF.out _).mono ?_
   rintro e w4 ⟨rfl,rfl⟩
   go_wp2_with fail
   go_ret
   exact ⟨s,false,W2,HB2.out,rfl,HR.out⟩
 · go_wp2_with fail
   go_ret
   exact ⟨s,true,W2,HB2.out,rfl,HR.out⟩
open Go.RowKit Go.Sort
theorem yV9 (s:List UInt8):zB6 s<100:=by
 unfold zB6
 split
 · decide
 · split <;> decide
theorem xX8 (f:File):zA8 f<100:=by
 unfold zA8
 split
 · exact yV9 _
 · split
   · decide
   · split <;> decide
theorem xD4 {q:Quilt}{p:List File × Nat}(h:p.2<100):(zD5 q p).2<100:=by
 unfold zD5
 split
 · exact h
 · split
   · exact (by decide:(7:Nat)<100)
   · exact (by decide:(0:Nat)<100)
theorem vJ8 (l:List File)(f:File):(zM0 l f).2<100:=by
 unfold zM0
 split
 · exact xX8 f
 · split
   · exact (by decide:(7:Nat)<100)
   · exact (by decide:(0:Nat)<100)
theorem uG7 (l:List File)(n:ByteArray):(zK4 l n).2<100:=by
 unfold zK4
 split
 · exact (by decide:(0:Nat)<100)
 · exact (by decide:(5:Nat)<100)
theorem xM5 (q:Quilt)(x:ByteArray):(zF5 q x).2<100:=xD4 (uG7 _ _)
theorem yS5 (q:Quilt)(x y:ByteArray):(zE5 q x y).2<100:=xD4 (vJ8 _ _)
theorem xK6 (q:Quilt)(x y:ByteArray):(zC3 q x y).2<100:=by
 unfold zC3
 split
 · decide
 · split
   · exact yV9 _
   · split
     · decide
     · exact xD4 (vJ8 _ _)
theorem xJ7 (q:Quilt)(x y:ByteArray):(zC0 q x y).2<100:=by
 unfold zC0
 split
 · split
   · decide
   · split
     · exact xD4 (show (0:Nat)<100 by decide)
     · exact xD4 (show (0:Nat)<100 by decide)
 · decide
theorem xD9 {line:ByteArray}(hn:(zB5 line).length≠1):(line.toList== [111,112,101,110])=false∧(line.toList== [115,99,114,117,98])=false∧(line.toList== [97,108,108])=false∧(line.toList== [116,117,114,110])=false:=
 ⟨zB4 (fun e=>hn (by rw [e];decide +kernel)),zB4 (fun e=>hn (by rw [e];decide +kernel)),zB4 (fun e=>hn (by rw [e];decide +kernel)),zB4 (fun e=>hn (by rw [e];decide +kernel))⟩
theorem zE4 {s:ByteArray}{l:List UInt8}(h:s=⟨l.toArray⟩):(s.toList==l)=true:=by
 rw [h,ByteArray.toList_eq]
 simp
section
variable {m B:Nat} {W0:World} {b:Nat→Nat} {w:World} {sx tb:Nat} {q:Quilt} {L:Nat→Dk} {D:Nat→DiskS} {S:Nat→StS} {lb sb:Nat→Nat} {rv:Nat→Value} {v:Value} {line s:ByteArray} {f:Nat} {args:Array Value}
theorem zP4 (h:SessT m B W0 b w sx tb q L D S lb sb rv v)(hq:zS7 q line=(q,s))(C:Calls Tryz.prog f args w fun e w' =>e= .returned (.string s)∧Below w.heap.size w w'):
 Calls Tryz.prog f args w (uS4 (m+1) B W0 b sx (zS7 q line).1 (SF sx tb L lb sb) w (zS7 q line).2):=by
 rw [hq]
 exact C.mono (by rintro e w' ⟨rfl,hb⟩;exact h.said hb s)
theorem yB3 (h:SessT m B W0 b w sx tb q L D S lb sb rv v)(hq:zS7 q line=(q,s))(C:Calls Tryz.prog f args w fun e w' =>∃s' W,Below w.heap.size w W∧e= .returned (.string s')∧(s' =s∧Below W.heap.size W w')):
 Calls Tryz.prog f args w (uS4 (m+1) B W0 b sx (zS7 q line).1 (SF sx tb L lb sb) w (zS7 q line).2):=
 zP4 h hq (C.mono (by rintro e w' ⟨s',W,hb,rfl,rfl,hb2⟩;exact ⟨rfl,two hb hb2⟩))
theorem vK8 {q' :Quilt}(hq:zS7 q line=(q',s))(C:Calls Tryz.prog f args w fun e w' =>∃s' W,Below w.heap.size w W∧e= .returned (.string s')∧(s' =s∧∃F',Sess (m+1) B W0 b sx q' F' w' ∧Steps (SF sx tb L lb sb) W w' F')):
 Calls Tryz.prog f args w (uS4 (m+1) B W0 b sx (zS7 q line).1 (SF sx tb L lb sb) w (zS7 q line).2):=by
 rw [hq]
 exact C.mono (by rintro e w' ⟨s',W,hb,rfl,rfl,F',h1,h2⟩;exact ⟨rfl,F',h1,Steps.after hb h2⟩)
theorem yZ7 {p:Quilt × Nat}(hq:zS7 q line=yK3 q p)(C:Calls Tryz.prog f args w fun e w' =>∃n W,Below w.heap.size w W∧e= .returned (.string (xY0 n))∧(n=p.2∧∃F',Sess (m+1) B W0 b sx (yK3 q p).1 F' w' ∧Steps (SF sx tb L lb sb) W w' F')):
 Calls Tryz.prog f args w (uS4 (m+1) B W0 b sx (zS7 q line).1 (SF sx tb L lb sb) w (zS7 q line).2):=by
 have e2:(yK3 q p).2=xY0 p.2:=by
  unfold yK3 xY0
  split <;> rfl
 rw [hq,e2]
 exact C.mono (by rintro e w' ⟨n,W,hb,rfl,rfl,F',h1,h2⟩;exact ⟨rfl,F',h1,Steps.after hb h2⟩)
end
theorem vG6 (m B:Nat)(W0:World)(b:Nat→Nat)(w:World)(sx:Nat)(q:Quilt)(F:Nat→Prop)(hS:Sess m B W0 b sx q F w)(hm:m≤20000)(hg:GlobC W0)(line:ByteArray)(hna:∀x y,zB5 line≠ [vY2,x,y])(hns:∀x y,zB5 line≠ [zQ5,x,y]):
 Calls Tryz.prog 40 #[.pointer (some ⟨sx,0,none⟩), .string line] w (uS4 (m+1) B W0 b sx (zS7 q line).1 F w (zS7 q line).2):=by
 obtain ⟨tb,L,D,S,lb,sb,rv,v,h,rfl⟩:=hS
 have hgw:GlobC w:=hg.below h.bel
 have hgW:∀W,Below w.heap.size w W→GlobC W:=fun W hb=>hgw.below hb
 by_cases h50:50<line.size
 · exact zP4 h (by unfold zS7;rw [if_pos h50]) (uL4 w sx line h50)
 have hsz:line.size≤50:=by omega
 have hword:∀x∈zB5 line,x.size≤50:=fun x hx=>Nat.le_trans (yA6 hx) hsz
 have hml:∀x:ByteArray,x.size≤50→x.size≤maxLen:=fun x hx=>by unfold maxLen;omega
 have htb:Hid (∀W,Below w.heap.size w W→W.cell? ⟨sx,3,none⟩=some (.pointer (some ⟨tb,0,none⟩))):=hid (fun W hb=>(zG4 (h.below hb).box).2.2.2.1)
 have hst:∀x y:Quilt × ByteArray,¬50<line.size:=fun _ _=>h50
 match hw:zB5 line,hword with
 | [],_=>
  exfalso
  have h1:=xJ6 line
  rw [hw] at h1
  exact yN8 _ (List.length_eq_zero_iff.1 h1.symm)
 | [a],_=>
  by_cases h1:line=sOpen
  · exact vK8 (q' :=q) (s:=yK1) (by unfold zS7;rw [if_neg h50,hw];dsimp only;rw [if_pos (Or.inl h1)])
     (uL1 w sx line a hgw hsz hw (zE4 h1) (fun s W w' =>s=yK1∧∃F',Sess (m+1) B W0 b sx q F' w' ∧Steps (SF sx tb L lb sb) W w' F')
      (fun W hb=>(uQ7 m B W0 b W sx tb q L D S lb sb rv v (h.below hb) hg.i).mono (fun e w' ⟨he,hr⟩=>⟨yK1,he,rfl,hr⟩)))
  by_cases h2:line=vJ3
  · exact yB3 h (s:=yK1) (by unfold zS7;rw [if_neg h50,hw];dsimp only;rw [if_pos (Or.inr h2)])
     (xT1 w sx line a hgw hsz hw (zB4 h1) (zE4 h2) (fun s W w' =>s=yK1∧Below W.heap.size W w')
      (fun W hb=>(vU4 m B W0 b W sx tb q L D S lb sb rv v (h.below hb) hg.i).mono (fun e w' ⟨he,hr⟩=>⟨yK1,he,rfl,hr⟩)))
  by_cases h4:line=sTurn
  · have hall:line≠sAll:=fun e=>by rw [h4] at e;revert e;decide
    have hgt:=h.t.good
    obtain ⟨t,ht⟩:∃t:Nat,q.turn=t:=⟨q.turn.toNat,by have:=hgt.lo;omega⟩
    refine zP4 h (s:=zP7 q.turn) (by unfold zS7;rw [if_neg h50,hw];dsimp only;rw [if_neg (fun e=>e.elim h1 h2),if_pos h4])
     (uK8 w sx line a hgw hsz hw (zB4 h1) (zB4 h2) (zB4 hall) (zE4 h4) tb q.turn (zP7 q.turn) htb (fun W hb=>(zQ8 (h.below hb).t.pre h.t.few).mono (fun e w' ⟨qv,he,hq,hb2⟩=>?_)) (hid fun W hb=>by rw [ht];exact vM7 t W (hgW W hb).i (by have:=hgt.hi;omega)))
    obtain ⟨v',rfl,_⟩:=hq
    exact ⟨v',he,hb2⟩
  by_cases h3:line=sAll
  · exact yB3 h (s:=vV5 q) (by unfold zS7;rw [if_neg h50,hw];dsimp only;rw [if_neg (fun e=>e.elim h1 h2),if_neg h4,if_pos h3])
     (say_all w sx line a hgw hsz hw (zB4 h1) (zB4 h2) (zE4 h3) (fun s W w' =>s=vV5 q∧Below W.heap.size W w')
      (fun W hb=>(con_all m B W0 b W sx tb q L D S lb sb rv v (h.below hb)).mono (fun e w' ⟨he,hr⟩=>⟨_,he,rfl,hr⟩)))
  exact zP4 h (s:=zP3 4) (by unfold zS7;rw [if_neg h50,hw];dsimp only;rw [if_neg (fun e=>e.elim h1 h2),if_neg h4,if_neg h3])
   (vY0 w sx line a hgw hsz hw (zB4 h1) (zB4 h2) (zB4 h3) (zB4 h4))
 | [a,x],hword=>
  obtain ⟨n0,n1,n2,n3⟩:=xD9 (line:=line) (by rw [hw];simp)
  have hx:=hword x (by simp)
  by_cases h1:a=sRead
  · exact yB3 h (s:=yP2 q x) (by unfold zS7;rw [if_neg h50,hw];dsimp only;rw [if_pos h1])
     (uL0 w sx line a x hgw hsz hw n0 n1 n2 n3 (zE4 h1) (fun s W w' =>s=yP2 q x∧Below W.heap.size W w')
      (fun W hb=>(uQ6 m B W0 b W sx tb q L D S lb sb rv v x (h.below hb) hg.i).mono (fun e w' ⟨he,hr⟩=>⟨_,he,rfl,hr⟩)))
  have CN:Hid (∀W,Below w.heap.size w W→Calls Tryz.prog 76 #[.string x] W fun e w' =>e= .returned (.int .i64 (zT9 x))∧Below W.heap.size W w'):=hid (fun W hb=>zP0 x W (hgW W hb) (by omega))
  by_cases h2:a=vC9
  · have hdr:(a.toList== [100,114,111,112])=false:=zB4 (fun e=>by rw [h2] at e;revert e;decide)
    rcases vE4 x with ⟨g1,g2⟩ | ⟨g1,g2,g3⟩
    · refine zP4 h (s:=zP3 4) (by unfold zS7;rw [if_neg h50,hw];dsimp only;rw [if_neg h1,if_neg (fun e=>by have:=e.2;omega),if_neg (fun e=>by rw [h2] at e;revert e;decide)]) (vP3 w sx line a x hgw hsz hw n0 n1 n2 n3 (zB4 h1) (zE4 h2) hdr (zT9 x) CN g1)
    · by_cases hf:2<zO8 x
      · refine yB3 h (s:=zP3 5) (by unfold zS7;rw [if_neg h50,hw];dsimp only;rw [if_neg h1,if_pos ⟨h2,g2⟩,if_pos hf]) (yY7 w sx line a x hgw hsz hw n0 n1 n2 n3 (zB4 h1) (zE4 h2) (zT9 x) CN (by omega) (fun s W w' =>s=zP3 5∧Below W.heap.size W w') (fun W hb=>?_))
        obtain ⟨n,hn⟩:∃n:Nat,zT9 x=n:=⟨(zT9 x).toNat,by omega⟩
        rw [hn]
        exact (xJ0 W sx n (by omega)).mono (fun e w' ⟨he,hr⟩=>⟨_,he,rfl,hr⟩)
      · refine yB3 h (s:=yE1) (by unfold zS7;rw [if_neg h50,hw];dsimp only;rw [if_neg h1,if_pos ⟨h2,g2⟩,if_neg hf]) (yY7 w sx line a x hgw hsz hw n0 n1 n2 n3 (zB4 h1) (zE4 h2) (zT9 x) CN (by omega) (fun s W w' =>s=yE1∧Below W.heap.size W w') (fun W hb=>?_))
        have hb0:=(h.below hb).bad (k:=0) (by decide)
        have hc:∀k,k<3→copyC (D k)=⟨true,q⟩:=fun k hk=>(h.t.has k hk).copyC
        have h3:zT9 x=0∨zT9 x=1∨zT9 x=2:=by omega
        rcases h3 with e | e | e
        · rw [e];exact (yY3 0 m B W0 b W sx tb q L D S lb sb rv _ v hb0 hg.i (hc 0 (by decide))).mono (fun e w' ⟨he,hr⟩=>⟨_,he,rfl,hr⟩)
        · rw [e];exact (yY2 0 m B W0 b W sx tb q L D S lb sb rv _ v hb0 hg.i (hc 1 (by decide))).mono (fun e w' ⟨he,hr⟩=>⟨_,he,rfl,hr⟩)
        · rw [e];exact (yE9 0 m B W0 b W sx tb q L D S lb sb rv _ v hb0 hg.i (hc 2 (by decide))).mono (fun e w' ⟨he,hr⟩=>⟨_,he,rfl,hr⟩)
  by_cases h3:a=vC8
  · refine yZ7 (p:=zF5 q x) (by unfold zS7;rw [if_neg h50,hw];dsimp only;rw [if_neg h1,if_neg (fun e=>h2 e.1),if_pos h3]) (uL6 w sx line a x hgw hsz hw n0 n1 n2 n3 (zB4 h1) (zB4 h2) (zE4 h3) tb htb (fun n W w' =>n=(zF5 q x).2∧∃F',Sess (m+1) B W0 b sx (yK3 q (zF5 q x)).1 F' w' ∧Steps (SF sx tb L lb sb) W w' F') (fun W ab hb hwa=>?_))
    exact (uK7 m B W0 b W sx tb q L D S lb sb rv v a x ab (h.below hb) hm hg.i hwa (hml x hx)).mono (fun e w' ⟨he,hr⟩=>⟨_,xM5 q x,he,rfl,hr⟩)
  exact zP4 h (s:=zP3 4) (by unfold zS7;rw [if_neg h50,hw];dsimp only;rw [if_neg h1,if_neg (fun e=>h2 e.1),if_neg h3])
   (vX9 w sx line a x hgw hsz hw n0 n1 n2 n3 (zB4 h1) (zB4 h2) (zB4 h3))
 | [a,x,y],hword=>
  obtain ⟨n0,n1,n2,n3⟩:=xD9 (line:=line) (by rw [hw];simp)
  have hx:=hword x (by simp)
  have hy:=hword y (by simp)
  by_cases h1:a=xK2
  · by_cases he:y=⟨#[]⟩
    · refine zP4 h (s:=zP3 4) (by unfold zS7;rw [if_neg h50,hw];dsimp only;rw [if_pos h1,if_pos he]) (vP2 w sx line a x y hgw hsz hw n0 n1 n2 n3 (zE4 h1) (by rw [he];decide +kernel) (zB4 (fun e=>by rw [h1] at e;revert e;decide)) (zB4 (fun e=>by rw [h1] at e;revert e;decide)) (zB4 (fun e=>by rw [h1] at e;revert e;decide)) (zB4 (fun e=>by rw [h1] at e;revert e;decide)) (zB4 (fun e=>by rw [h1] at e;revert e;decide)))
    · refine yZ7 (p:=zE5 q x (zU8 y)) (by unfold zS7;rw [if_neg h50,hw];dsimp only;rw [if_pos h1,if_neg he]) (vX7 w sx line a x y hgw hsz hw n0 n1 n2 n3 (zE4 h1) (yQ4 he) tb htb (fun n W w' =>n=(zE5 q x (zU8 y)).2∧∃F',Sess (m+1) B W0 b sx (yK3 q (zE5 q x (zU8 y))).1 F' w' ∧Steps (SF sx tb L lb sb) W w' F') (fun W ab hb hwa=>?_))
      exact (uK6 m B W0 b W sx tb q L D S lb sb rv v a x y ab (h.below hb) hm hg.i hwa (hml x hx) (hml y hy)).mono (fun e w' ⟨he,hr⟩=>⟨_,yS5 q x _,he,rfl,hr⟩)
  by_cases h2:a=xT4
  · refine yZ7 (p:=zC3 q x y) (by unfold zS7;rw [if_neg h50,hw];dsimp only;rw [if_neg h1,if_pos h2]) (uL2 w sx line a x y hgw hsz hw n0 n1 n2 n3 (zB4 h1) (zE4 h2) tb htb (fun n W w' =>n=(zC3 q x y).2∧∃F',Sess (m+1) B W0 b sx (yK3 q (zC3 q x y)).1 F' w' ∧Steps (SF sx tb L lb sb) W w' F') (fun W ab hb hwa=>?_))
    exact (uK5 m B W0 b W sx tb q L D S lb sb rv v a x y ab (h.below hb) hm hg.i hwa (hml x hx) (hml y hy)).mono (fun e w' ⟨he,hr⟩=>⟨_,xK6 q x y,he,rfl,hr⟩)
  by_cases h3:a=xO2
  · refine yZ7 (p:=zC0 q x y) (by unfold zS7;rw [if_neg h50,hw];dsimp only;rw [if_neg h1,if_neg h2,if_pos h3]) (uK9 w sx line a x y hgw hsz hw n0 n1 n2 n3 (zB4 h1) (zB4 h2) (zE4 h3) tb htb (fun n W w' =>n=(zC0 q x y).2∧∃F',Sess (m+1) B W0 b sx (yK3 q (zC0 q x y)).1 F' w' ∧Steps (SF sx tb L lb sb) W w' F') (fun W ab hb hwa=>?_))
    exact (uK4 m B W0 b W sx tb q L D S lb sb rv v a x y ab (h.below hb) hm hg.i hwa (hml x hx) (hml y hy)).mono (fun e w' ⟨he,hr⟩=>⟨_,xJ7 q x y,he,rfl,hr⟩)
  have harm:a≠vY2:=fun e=>hna x y (by rw [hw,e])
  have hspo:a≠zQ5:=fun e=>hns x y (by rw [hw,e])
  by_cases h4:a=zX8
  · have hS1:∀W w',Below w.heap.size w W→Below W.heap.size W w' →∃F',Sess (m+1) B W0 b sx q F' w' ∧Steps (SF sx tb L lb sb) W w' F' :=fun W w' hb hb2=>⟨_,((h.below (two hb hb2)).up (Nat.le_succ m)).sess,(Steps.refl _ _).below hb2⟩
    have key:∀s0,zS7 q line=(q,s0)→(∀W wb wo wc,Below w.heap.size w W→Texts W (.slice (some ⟨wb,wo,none⟩) 3 wc) [a,x,y]→Calls Tryz.prog 84 #[.pointer (some ⟨sx,0,none⟩), .slice (some ⟨wb,wo,none⟩) 3 wc] W fun e w' =>∃s ok,e= .returned (.tuple #[.string s, .bool ok])∧(onT s ok=s0∧∃F',Sess (m+1) B W0 b sx q F' w' ∧Steps (SF sx tb L lb sb) W w' F'))→Calls Tryz.prog 40 #[.pointer (some ⟨sx,0,none⟩), .string line] w (uS4 (m+1) B W0 b sx (zS7 q line).1 (SF sx tb L lb sb) w (zS7 q line).2):=fun s0 hq C=>
     vK8 (q' :=q) (s:=s0) hq ((xH9 w sx line a x y hgw hsz hw n0 n1 n2 n3 (zB4 h1) (zB4 h2) (zB4 h3) (zB4 harm) (zE4 h4) (fun s ok W w' =>onT s ok=s0∧∃F',Sess (m+1) B W0 b sx q F' w' ∧Steps (SF sx tb L lb sb) W w' F') C).mono (by
      rintro e w' ⟨s,ok,W,hb,rfl,hr⟩
      exact ⟨_,W,hb,rfl,hr⟩))
    rcases vE4 x with ⟨g1,g2⟩ | ⟨g1,g2,g3⟩
    · refine key (zP3 4) (by unfold zS7;rw [if_neg h50,hw];dsimp only;rw [if_neg h1,if_neg h2,if_neg h3,if_pos h4,if_neg (fun e=>by have:=e.1;omega)]) (fun W wb wo wc hb htx=>?_)
      exact (vG9 m B W0 b W sx tb q L D S lb sb rv v a x y wb wo wc (zT9 x) (zT9 y) (h.below hb) hg htx (by omega) (by omega) rfl rfl g1).mono (fun e w' ⟨he,hb2⟩=>⟨_,false,he,rfl,hS1 W w' hb hb2⟩)
    rcases vE4 y with ⟨k1,k2⟩ | ⟨k1,k2,k3⟩
    · refine key (zP3 4) (by unfold zS7;rw [if_neg h50,hw];dsimp only;rw [if_neg h1,if_neg h2,if_neg h3,if_pos h4,if_neg (fun e=>by have:=e.2;omega)]) (fun W wb wo wc hb htx=>?_)
      exact (vG8 m B W0 b W sx tb q L D S lb sb rv v a x y wb wo wc (zT9 x) (zT9 y) (h.below hb) hg htx (by omega) (by omega) rfl rfl (by omega) k1).mono (fun e w' ⟨he,hb2⟩=>⟨_,false,he,rfl,hS1 W w' hb hb2⟩)
    obtain ⟨kx,hkx⟩:∃kx:Nat,zT9 x=kx:=⟨(zT9 x).toNat,by omega⟩
    obtain ⟨ky,hky⟩:∃ky:Nat,zT9 y=ky:=⟨(zT9 y).toNat,by omega⟩
    by_cases hf:2<zO8 x
    · refine key (zP3 5) (by unfold zS7;rw [if_neg h50,hw];dsimp only;rw [if_neg h1,if_neg h2,if_neg h3,if_pos h4,if_pos ⟨g2,k2⟩,if_pos hf]) (fun W wb wo wc hb htx=>?_)
      exact (vG7 m B W0 b W sx tb q L D S lb sb rv v a x y wb wo wc kx ky (h.below hb) hg htx (by omega) (by omega) hkx hky (by omega)).mono (fun e w' ⟨he,hb2⟩=>⟨_,true,he,rfl,hS1 W w' hb hb2⟩)
    · refine key okT (by unfold zS7;rw [if_neg h50,hw];dsimp only;rw [if_neg h1,if_neg h2,if_neg h3,if_pos h4,if_pos ⟨g2,k2⟩,if_neg hf]) (fun W wb wo wc hb htx=>?_)
      rw [h4] at htx
      exact (xI9 m B W0 b W sx tb q L D S lb sb rv v x y wb wo wc kx ky (h.below hb) hg htx (by omega) (by omega) hkx hky (by omega) (by omega)).mono (fun e w' ⟨he,L',hs',hst⟩=>⟨_,true,he,rfl,_,(hs'.up (Nat.le_succ m)).sess,hst⟩)
  exact zP4 h (s:=zP3 4) (by unfold zS7;rw [if_neg h50,hw];dsimp only;rw [if_neg h1,if_neg h2,if_neg h3,if_neg h4])
   (vX8 w sx line a x y hgw hsz hw n0 n1 n2 n3 (zB4 h1) (zB4 h2) (zB4 h3) (zB4 harm) (zB4 h4) (zB4 hspo))
 | a::x::y::z::r,_=>
  obtain ⟨n0,n1,n2,n3⟩:=xD9 (line:=line) (by rw [hw];simp)
  exact zP4 h (s:=zP3 4) (by unfold zS7;rw [if_neg h50,hw]) (uL3 w sx line hgw hsz (by rw [hw];simp) n0 n1 n2 n3)
end Go.Proofs.YtggpodlecljcbabGreatDoor
