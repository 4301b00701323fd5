/- Plain definitions: what chapter 1 of the document computes (names, files); no program. Plain: a string holds a rune that is neither a small letter nor a digit just if it holds such a byte. -/
import Derived.WalkKit
import Derived.Shelf.GgClosure.StringsRunes
import Derived.Test.YtggpodlecljcbabGreatDoorProg
import Derived.Test.YtggpodlecljcbabGreatDoorShelf
import Derived.Test.YtggpodlecljcbabGreatDoorKBase
namespace Go.Proofs.YtggpodlecljcbabGreatDoor
set_option linter.unusedSimpArgs false
set_option linter.unusedVariables false
set_option maxRecDepth 100000
set_option maxHeartbeats 64000000
open Lib (hid)

def zO7 (c:UInt8):Bool:=(97≤c.toNat && c.toNat≤122) || (48≤c.toNat && c.toNat≤57)
def yU5 (s:List UInt8):Bool:=s.any (fun c=> !zO7 c) || s.isEmpty
def zB6 (s:List UInt8):Nat:=if yU5 s then 3 else if 6<s.length then 2 else 0
structure File where
 name:ByteArray
 text:ByteArray
 times:Int
 deriving DecidableEq
def zA8 (f:File):Nat:=if zB6 f.name.data.toList≠0 then zB6 f.name.data.toList else if 12<f.text.size then 2 else if f.times<1∨9999<f.times then 1 else 0
theorem any_at (s:ByteArray)(k:Nat)(h:k<s.size)(p:UInt8→Bool)(hp:p s[k]=true):s.data.toList.any p=true:=by
 rw [List.any_eq_true]
 exact ⟨s[k],by rw [List.mem_iff_getElem];exact ⟨k,by simpa using h,rfl⟩,hp⟩
theorem uS1 (s:ByteArray)(k:Nat)(h:k<s.size)(p:UInt8→Bool):(s.data.toList.take (k+1)).any p=((s.data.toList.take k).any p || p s[k]):=by
 rw [List.take_succ_eq_append_getElem (by simpa using h),List.any_append]
 simp
 rfl
theorem any_all (s:ByteArray)(k:Nat)(h:¬k<s.size)(p:UInt8→Bool):(s.data.toList.take k).any p=s.data.toList.any p:=by
 rw [List.take_of_length_le (by simp;omega)]
theorem xP1 (s:ByteArray)(k:Nat)(h:k<s.size)(hb:¬zO7 s[k]=true):zB6 s.data.toList=3:=by
 have:=any_at s k h (fun c=> !zO7 c) (by simpa using hb)
 simp [zB6,yU5,this]
theorem yG7 (s:List UInt8)(h:s.isEmpty=true):zB6 s=3:=by simp [zB6,yU5,h]
theorem yK9 (s:List UInt8)(h:s.any (fun c=> !zO7 c)=false)(he:s.isEmpty=false)(h6:6<s.length):zB6 s=2:=by
 simp only [zB6,yU5,h,he,Bool.or_self,Bool.false_eq_true,if_false,if_pos h6]
theorem yL0 (s:List UInt8)(h:s.any (fun c=> !zO7 c)=false)(he:s.isEmpty=false)(h6:s.length≤6):zB6 s=0:=by
 simp only [zB6,yU5,h,he,Bool.or_self,Bool.false_eq_true,if_false,if_neg (show ¬6<s.length by omega)]
def yP7 (x:Nat):Bool:=(97≤x && x≤122) || (48≤x && x≤57)
theorem uH3 (s:ByteArray)(i:Nat)(h:(s.get! i).toNat<128):Utf8.decode s i=((s.get! i).toNat,1):=by
 simp [Utf8.decode,h]
theorem uH4 (s:ByteArray)(i:Nat)(h:¬(s.get! i).toNat<128):128≤(Utf8.decode s i).1:=by
 unfold Utf8.decode
 simp only [Nat.add_zero,h,if_false,Utf8.runeError]
 repeat' split
 all_goals simp_all
 all_goals omega
theorem uB7 {x:Nat}(h:128≤x):yP7 x=false:=by
 simp [yP7];omega
theorem uB8 {x:UInt8}(h:¬x.toNat<128):zO7 x=false:=by
 simp [zO7];omega
theorem uE3 (s:ByteArray):∀(f pos:Nat),s.size≤pos+f→
 decide (0≤Lib.idxFuncFrom (fun x=> !yP7 x) true s f pos)=(s.data.toList.drop pos).any (fun c=> !zO7 c)
 | 0,pos,h=>by
  rw [List.drop_of_length_le (by simp;omega)]
  simp [Lib.idxFuncFrom]
 | f+1,pos,h=>by
  unfold Lib.idxFuncFrom
  by_cases hp:pos<s.size
  · have hb:s.get! pos=s[pos]:=by
     show s.data[pos]! =s.data[pos]
     rw [getElem!_pos]
    rw [if_pos hp,List.drop_eq_getElem_cons (by simpa using hp),List.any_cons]
    have hg:s.data.toList[pos]'(by simpa using hp)=s[pos]:=rfl
    rw [hg]
    by_cases h1:(s.get! pos).toNat<128
    · rw [uH3 s pos h1,hb]
      have hok:yP7 s[pos].toNat=zO7 s[pos]:=rfl
      simp only [hok]
      cases hk:zO7 s[pos]
      · simp
      · simp only [Bool.not_true,Bool.false_eq_true,if_false,Bool.false_or]
        exact uE3 s f (pos+1) (by omega)
    · have h2:=uB7 (uH4 s pos h1)
      have h3:=uB8 (x:=s[pos]) (by rw [←hb];exact h1)
      simp [h2,h3]
  · rw [if_neg hp,List.drop_of_length_le (by simp;omega)]
    simp
theorem xZ0 (s:ByteArray):decide (0≤Lib.idxFunc (fun x=> !yP7 x) true s)=s.data.toList.any (fun c=> !zO7 c):=by
 have:=uE3 s s.size 0 (by omega)
 rw [List.drop_zero] at this
 exact this
open Go.RowKit



theorem yP0 (s:ByteArray)(w:World)(hs:s.size≤maxLen):
 Calls Tryz.prog 64 #[.string s] w fun e w' =>e= .returned (.int .i64 (zB6 s.data.toList))∧w=w' :=by
 unfold maxLen at hs
 go_enter Tryz.func64, Tryz.ntmps64
 go_wp2
 go_loop [3] (fun i=>∃k:Nat,k≤s.size∧i= .int .i64 k∧(s.data.toList.take k).any (fun c=> !zO7 c)=false) (fun i=>s.size - (intOf i).toNat)
 case atStart=>exact ⟨0,Nat.zero_le _,rfl,rfl⟩
 case round=>
  obtain ⟨k,hk,rfl,hall⟩:=hrel
  have H:=hid hall
  clear hall
  by_cases hlt:k<s.size
  · by_cases hb:zO7 s[k]=true
    · have H1:=hid hb
      have hb' :(97≤s[k].toNat∧s[k].toNat≤122)∨(48≤s[k].toNat∧s[k].toNat≤57):=by simpa [zO7] using hb
      clear hb
      have hsn:=hid (uS1 s k hlt (fun c=> !zO7 c))
      go_wp2
      all_goals
       go_round
       case rel=>exact ⟨k+1,by omega,by go_num,by rw [hsn.out,H.out,H1.out];rfl⟩
       case measure=>simp [intOf];omega
    · have hb' :¬((97≤s[k].toNat∧s[k].toNat≤122)∨(48≤s[k].toNat∧s[k].toNat≤57)):=by simpa [zO7] using hb
      have H1:=hid (xP1 s k hlt hb)
      clear hb
      go_wp2
      all_goals
       go_ret
       exact ⟨by rw [H1.out];rfl,rfl⟩
  · have H1:=hid (any_all s k hlt (fun c=> !zO7 c))
    rw [H1.out] at H
    by_cases he:s.toList.isEmpty=true
    · have H2:=hid (yG7 s.data.toList (by rw [←ByteArray.toList_eq s];exact he))
      go_wp2
      go_ret
      exact ⟨by rw [H2.out];rfl,rfl⟩
    · have he' :s.toList.isEmpty=false:=by simpa using he
      have h2:s.data.toList.isEmpty=false:=by rw [←ByteArray.toList_eq s];exact he'
      clear he
      by_cases h6:6<s.size
      · have H2:=hid (yK9 _ H.out h2 (by simp;omega))
        clear h2
        go_wp2
        go_ret
        exact ⟨by rw [H2.out];rfl,rfl⟩
      · have H2:=hid (yL0 _ H.out h2 (by simp;omega))
        clear h2
        go_wp2
        go_ret
        exact ⟨by rw [H2.out];rfl,rfl⟩

theorem name_fn (x:Nat)(hx:x≤1114111)(w:World):
 Calls Tryz.prog 154 #[encR x] w fun e w' =>e= .returned (.bool (!yP7 x))∧w=w' :=by
 go_enter Tryz.func154, Tryz.ntmps154
 go_wp2
 all_goals
  go_ret
  refine ⟨zJ8 ?_,rfl⟩
  rw [Bool.eq_iff_iff]
  simp [yP7]
  omega
theorem uC8 (w:World):PredAtRunes Tryz.prog 154 #[] (fun x=> !yP7 x) w:=by
 intro W x hx _
 unfold FnGives
 exact (name_fn x hx W).mono fun e w' ⟨h1,h2⟩=>⟨h1,0,h2.symm⟩

theorem vG5 (s:ByteArray)(w:World):
 Calls Tryz.prog 153 #[.string s, .func (.func 154) #[] #[]] w fun e w' =>e= .returned (.bool (s.data.toList.any fun c=> !zO7 c))∧Below w.heap.size w w' :=by
 refine (Tryz.strings_ContainsFunc_runes 154 #[] (fun _ _=>by kernel_rfl) (fun x=> !yP7 x) s w (uC8 w)).mono fun e w' ⟨h1,h2⟩=>⟨?_,h2⟩
 rw [h1,xZ0]

theorem xX7 (s:ByteArray)(w:World)(hs:s.size≤maxLen):
 Calls Tryz.prog 115 #[.string s] w fun e w' =>e= .returned (zE6 (zB6 s.data.toList))∧Below w.heap.size w w' :=by
 unfold maxLen at hs
 have hc:=vG5 s w
 by_cases hb:(s.data.toList.any fun c=> !zO7 c)=true
 · have H1:Hid (zB6 s.data.toList=3):=by simp [Hid,zB6,yU5,hb]
   rw [hb] at hc
   have HC:=hid hc
   clear hc hb
   go_enter Tryz.func115, Tryz.ntmps115
   go_wp2_with (go_at_call 153;refine HC.out.mono ?_;rintro e w1 ⟨rfl,hb1⟩)
   go_ret
   exact ⟨by rw [H1.out];rfl,hb1⟩
 · have hb' :(s.data.toList.any fun c=> !zO7 c)=false:=by simpa using hb
   rw [hb'] at hc
   have HC:=hid hc
   have H:=hid hb'
   clear hc hb hb'
   by_cases he:s.toList.isEmpty=true
   · have H2:=hid (yG7 s.data.toList (by rw [←ByteArray.toList_eq s];exact he))
     go_enter Tryz.func115, Tryz.ntmps115
     go_wp2_with (go_at_call 153;refine HC.out.mono ?_;rintro e w1 ⟨rfl,hb1⟩)
     go_ret
     exact ⟨by rw [H2.out];rfl,hb1⟩
   · have he' :s.toList.isEmpty=false:=by simpa using he
     have h2:s.data.toList.isEmpty=false:=by rw [←ByteArray.toList_eq s];exact he'
     clear he
     by_cases h6:6<s.size
     · have H2:=hid (yK9 _ H.out h2 (by simp;omega))
       clear h2
       go_enter Tryz.func115, Tryz.ntmps115
       go_wp2_with (go_at_call 153;refine HC.out.mono ?_;rintro e w1 ⟨rfl,hb1⟩)
       go_ret
       exact ⟨by rw [H2.out];rfl,hb1⟩
     · have H2:=hid (yL0 _ H.out h2 (by simp;omega))
       clear h2
       go_enter Tryz.func115, Tryz.ntmps115
       go_wp2_with (go_at_call 153;refine HC.out.mono ?_;rintro e w1 ⟨rfl,hb1⟩)
       go_ret
       exact ⟨by rw [H2.out];rfl,hb1⟩
open Go.RowKit

def File.val (f:File):Value:= .agg #[.string f.name, .string f.text, .int .i64 f.times]
def File.ok (f:File):Prop:=f.name.size≤maxLen∧f.text.size≤maxLen

@[go_sem] theorem ta_errno (m : Int) (w : World) : (Instr.typeAssert (.iface 73 (.int .i64 m)) 38 73 true).run Tryz.prog w = .ok (.tuple #[.int .i64 m, .bool true]) w := by kernel_rfl

theorem vL2 (n:Nat)(f:Int)(w:World):
 Calls Tryz.prog 13 #[zE6 n, .int .i64 f] w fun e w' =>e= .returned (.bool (decide ((n:Int)=f)))∧w=w' :=by
 by_cases h:n=0
 · subst h
   rw [zD2]
   go_enter Tryz.func13, Tryz.ntmps13
   go_wp2
   go_ret
   exact ⟨zJ8 (by rw [Bool.eq_iff_iff];simp;omega),rfl⟩
 · rw [zA5 h]
   go_enter Tryz.func13, Tryz.ntmps13
   go_wp2
   · go_ret
     exact ⟨zJ8 (by rw [Bool.eq_iff_iff];simp),rfl⟩
   · go_ret
     exact ⟨zJ8 (by simp;omega),rfl⟩

theorem ff_bad (f:File)(h:zB6 f.name.data.toList≠0):zA8 f=zB6 f.name.data.toList:=if_pos h
theorem uG2 (f:File)(h:zB6 f.name.data.toList=0)(h2:12<f.text.size):zA8 f=2:=by
 unfold zA8;rw [if_neg (by simp [h]),if_pos h2]
theorem vM3 (f:File)(h:zB6 f.name.data.toList=0)(h2:¬12<f.text.size)(h3:f.times<1∨9999<f.times):zA8 f=1:=by
 unfold zA8;rw [if_neg (by simp [h]),if_neg h2,if_pos h3]
theorem uG3 (f:File)(h:zB6 f.name.data.toList=0)(h2:¬12<f.text.size)(h3:¬(f.times<1∨9999<f.times)):zA8 f=0:=by
 unfold zA8;rw [if_neg (by simp [h]),if_neg h2,if_neg h3]

theorem xM2 (f:File)(w:World)(hf:f.ok):
 Calls Tryz.prog 150 #[f.val] w fun e w' =>e= .returned (zE6 (zA8 f))∧Below w.heap.size w w' :=by
 obtain ⟨h1,h2⟩:=hf
 have hN:=fun w=>xX7 f.name w h1
 unfold maxLen at h2
 clear h1
 by_cases hn:zB6 f.name.data.toList=0
 · rw [hn,zD2] at hN
   have HN:=hid hN
   clear hN
   by_cases ht:12<f.text.size
   · have H:=hid (uG2 f hn ht)
     clear hn
     go_enter Tryz.func150, Tryz.ntmps150
     unfold File.val
     go_wp2_with (go_at_call 115;refine (HN.out _).mono ?_;rintro e w1 ⟨rfl,hb⟩;obtain ⟨hc,_⟩:=zN2 hb;replace hb:=hid hb)
     go_ret
     exact ⟨by rw [H.out];rfl,((Below.refl _ _).alloc (Nat.le_refl _) _).trans (hb.out.mono (by simp))⟩
   · by_cases hz:f.times<1∨9999<f.times
     · have H:=hid (vM3 f hn ht hz)
       clear hn
       go_enter Tryz.func150, Tryz.ntmps150
       unfold File.val
       go_wp2_with (go_at_call 115;refine (HN.out _).mono ?_;rintro e w1 ⟨rfl,hb⟩;obtain ⟨hc,_⟩:=zN2 hb;replace hb:=hid hb)
       all_goals
        go_ret
        exact ⟨by rw [H.out];rfl,((Below.refl _ _).alloc (Nat.le_refl _) _).trans (hb.out.mono (by simp))⟩
     · have H:=hid (uG3 f hn ht hz)
       clear hn
       go_enter Tryz.func150, Tryz.ntmps150
       unfold File.val
       go_wp2_with (go_at_call 115;refine (HN.out _).mono ?_;rintro e w1 ⟨rfl,hb⟩;obtain ⟨hc,_⟩:=zN2 hb;replace hb:=hid hb)
       all_goals
        go_ret
        exact ⟨by rw [H.out];rfl,((Below.refl _ _).alloc (Nat.le_refl _) _).trans (hb.out.mono (by simp))⟩
 · rw [zA5 hn] at hN
   have HN:=hid hN
   have H:=hid (ff_bad f hn)
   have H2:=hid (zA5 hn)
   have hn' :(zB6 f.name.data.toList:Int)≠0:=by omega
   clear hN hn
   go_enter Tryz.func150, Tryz.ntmps150
   unfold File.val
   go_wp2_with (go_at_call 115;refine (HN.out _).mono ?_;rintro e w1 ⟨rfl,hb⟩;obtain ⟨hc,_⟩:=zN2 hb;replace hb:=hid hb)
   go_ret
   exact ⟨by rw [H.out,H2.out];rfl,((Below.refl _ _).alloc (Nat.le_refl _) _).trans (hb.out.mono (by simp))⟩

theorem xO5 (f:File)(w:World)(hf:f.ok):
 Calls Tryz.prog 105 #[f.val] w fun e w' =>e= .returned (.int .i64 (zA8 f))∧Below w.heap.size w w' :=by
 obtain ⟨h1,h2⟩:=hf
 have hN:=fun w=>yP0 f.name w h1
 unfold maxLen at h2
 clear h1
 by_cases hn:zB6 f.name.data.toList=0
 · rw [hn] at hN
   have HN:=hid hN
   clear hN
   by_cases ht:12<f.text.size
   · have H:=hid (uG2 f hn ht)
     clear hn
     go_enter Tryz.func105, Tryz.ntmps105
     unfold File.val
     go_wp2_with (go_at_call 64;refine (HN.out _).mono ?_;rintro e w1 ⟨rfl,rfl⟩)
     go_ret
     exact ⟨by rw [H.out];rfl,((Below.refl _ _).alloc (Nat.le_refl _) _)⟩
   · by_cases hz:f.times<1∨9999<f.times
     · have H:=hid (vM3 f hn ht hz)
       clear hn
       go_enter Tryz.func105, Tryz.ntmps105
       unfold File.val
       go_wp2_with (go_at_call 64;refine (HN.out _).mono ?_;rintro e w1 ⟨rfl,rfl⟩)
       all_goals
        go_ret
        exact ⟨by rw [H.out];rfl,((Below.refl _ _).alloc (Nat.le_refl _) _)⟩
     · have H:=hid (uG3 f hn ht hz)
       clear hn
       go_enter Tryz.func105, Tryz.ntmps105
       unfold File.val
       go_wp2_with (go_at_call 64;refine (HN.out _).mono ?_;rintro e w1 ⟨rfl,rfl⟩)
       all_goals
        go_ret
        exact ⟨by rw [H.out];rfl,((Below.refl _ _).alloc (Nat.le_refl _) _)⟩
 · have HN:=hid hN
   have H:=hid (ff_bad f hn)
   have hn' :0<(zB6 f.name.data.toList:Int):=by omega
   clear hN hn
   go_enter Tryz.func105, Tryz.ntmps105
   unfold File.val
   go_wp2_with (go_at_call 64;refine (HN.out _).mono ?_;rintro e w1 ⟨rfl,rfl⟩)
   go_ret
   exact ⟨by rw [H.out];rfl,((Below.refl _ _).alloc (Nat.le_refl _) _)⟩
open Go.RowKit Go.Sort

structure Change where
 key:ByteArray
 val:ByteArray
 gone:Bool
 deriving DecidableEq
def File.cells (f:File):List Value:= [.string f.name, .string f.text, .int .i64 f.times]
def Change.cells (c:Change):List Value:= [.string c.key, .string c.val, .bool c.gone]
def Change.val' (c:Change):Value:= .agg #[.string c.key, .string c.val, .bool c.gone]
def zD3 (s:ByteArray):List Value:= [.string s]
def zI0 (n:Int):List Value:= [.int .i64 n]
theorem File.cells_len (f:File):f.cells.length=3:=rfl
theorem Change.cells_len (f:Change):f.cells.length=3:=rfl
theorem yF9 (s:ByteArray):(zD3 s).length=1:=rfl
abbrev Files :=Rd 3 File.cells
abbrev Changes :=Rd 3 Change.cells
abbrev Texts :=Rd 1 zD3
abbrev Nums :=Rd 1 zI0
section
variable {w:World} {ao:Option Addr} {n cap:Nat}
theorem Files.cell {l:List File}(h:Files w (.slice ao n cap) l)(i:Nat)(hi:i<l.length):
 ∃b off,ao=some ⟨b,off,none⟩∧b<w.heap.size∧w.cell? ⟨b,off+i * 3,none⟩=some (.string l[i].name)∧w.cell? ⟨b,off+i * 3+1,none⟩=some (.string l[i].text)∧w.cell? ⟨b,off+i * 3+2,none⟩=some (.int .i64 l[i].times):=by
 obtain ⟨b,off,e,hb,hc⟩:=Rd.at File.cells_len (by decide) h i hi
 exact ⟨b,off,e,hb,hc 0 _ rfl,hc 1 _ rfl,hc 2 _ rfl⟩
theorem Changes.cell {l:List Change}(h:Changes w (.slice ao n cap) l)(i:Nat)(hi:i<l.length):
 ∃b off,ao=some ⟨b,off,none⟩∧b<w.heap.size∧w.cell? ⟨b,off+i * 3,none⟩=some (.string l[i].key)∧w.cell? ⟨b,off+i * 3+1,none⟩=some (.string l[i].val)∧w.cell? ⟨b,off+i * 3+2,none⟩=some (.bool l[i].gone):=by
 obtain ⟨b,off,e,hb,hc⟩:=Rd.at Change.cells_len (by decide) h i hi
 exact ⟨b,off,e,hb,hc 0 _ rfl,hc 1 _ rfl,hc 2 _ rfl⟩
theorem Texts.cell {l:List ByteArray}(h:Texts w (.slice ao n cap) l)(i:Nat)(hi:i<l.length):
 ∃b off,ao=some ⟨b,off,none⟩∧b<w.heap.size∧w.cell? ⟨b,off+i,none⟩=some (.string l[i]):=by
 obtain ⟨b,off,e,hb,hc⟩:=Rd.at yF9 (by decide) h i hi
 exact ⟨b,off,e,hb,by have:=hc 0 _ rfl;simpa using this⟩
end
def zS4 (n1 t1:ByteArray)(k1:Int)(n2 t2:ByteArray)(k2:Int):Bool:=decide ((⟨n1,t1,k1⟩:File)=⟨n2,t2,k2⟩)
theorem yW2 (f g:File):zS4 f.name f.text f.times g.name g.text g.times=decide (f=g):=rfl
def zV2 (n1 t1:ByteArray)(k1:Bool)(n2 t2:ByteArray)(k2:Bool):Bool:=decide ((⟨n1,t1,k1⟩:Change)=⟨n2,t2,k2⟩)
@[go_sem] theorem eqGuard_file : Tryz.prog.eqGuardType Tryz.prog.depth 102 = false := by kernel_rfl
@[go_sem high] theorem neq_file (n1 t1 n2 t2 : ByteArray) (k1 k2 : Int) (w : World) : (binOp .neq 102 (.agg #[.string n1, .string t1, .int .i64 k1]) (.agg #[.string n2, .string t2, .int .i64 k2])).run Tryz.prog w = .ok (.bool (!zS4 n1 t1 k1 n2 t2 k2)) w := by
 have hf: Tryz.prog.underlying 102=some (.struct (Tryz.prog.fieldsOf 102)):=by kernel_rfl
 have hp: Tryz.prog.stoodInHeld 102=false:=by kernel_rfl
 have h0:=run_equalIn_struct (P:= Tryz.prog) w 9999 102 #[.string n1, .string t1, .int .i64 k1] #[.string n2, .string t2, .int .i64 k2] hf hp
 simp only [binOp]
 simp only [zS4,File.mk.injEq]
 simp [Op.equal,Op.maxDepth,h0,Program.fieldsOf, Tryz.underlying102,go_sem]
 by_cases h1:n1=n2 <;> by_cases h2:t1=t2 <;> by_cases h3:k1=k2 <;>
  simp [h1,h2,h3,zG7]
@[go_sem high] theorem eql_file (n1 t1 n2 t2 : ByteArray) (k1 k2 : Int) (w : World) : (binOp .eql 102 (.agg #[.string n1, .string t1, .int .i64 k1]) (.agg #[.string n2, .string t2, .int .i64 k2])).run Tryz.prog w = .ok (.bool (zS4 n1 t1 k1 n2 t2 k2)) w := by
 have hf: Tryz.prog.underlying 102=some (.struct (Tryz.prog.fieldsOf 102)):=by kernel_rfl
 have hp: Tryz.prog.stoodInHeld 102=false:=by kernel_rfl
 have h0:=run_equalIn_struct (P:= Tryz.prog) w 9999 102 #[.string n1, .string t1, .int .i64 k1] #[.string n2, .string t2, .int .i64 k2] hf hp
 simp only [binOp]
 simp only [zS4,File.mk.injEq]
 simp [Op.equal,Op.maxDepth,h0,Program.fieldsOf, Tryz.underlying102,go_sem]
 by_cases h1:n1=n2 <;> by_cases h2:t1=t2 <;> by_cases h3:k1=k2 <;>
  simp [h1,h2,h3,zG7]
@[go_sem] theorem eqGuard_change : Tryz.prog.eqGuardType Tryz.prog.depth 109 = false := by kernel_rfl
@[go_sem high] theorem neq_change (n1 t1 n2 t2 : ByteArray) (k1 k2 : Bool) (w : World) : (binOp .neq 109 (.agg #[.string n1, .string t1, .bool k1]) (.agg #[.string n2, .string t2, .bool k2])).run Tryz.prog w = .ok (.bool (!zV2 n1 t1 k1 n2 t2 k2)) w := by
 have hf: Tryz.prog.underlying 109=some (.struct (Tryz.prog.fieldsOf 109)):=by kernel_rfl
 have hp: Tryz.prog.stoodInHeld 109=false:=by kernel_rfl
 have h0:=run_equalIn_struct (P:= Tryz.prog) w 9999 109 #[.string n1, .string t1, .bool k1] #[.string n2, .string t2, .bool k2] hf hp
 simp only [binOp]
 simp only [zV2,Change.mk.injEq]
 simp [Op.equal,Op.maxDepth,h0,Program.fieldsOf, Tryz.underlying109,go_sem]
 by_cases h1:n1=n2 <;> by_cases h2:t1=t2 <;> by_cases h3:k1=k2 <;>
  simp [h1,h2,h3,zG7]
@[go_sem high] theorem eql_change (n1 t1 n2 t2 : ByteArray) (k1 k2 : Bool) (w : World) : (binOp .eql 109 (.agg #[.string n1, .string t1, .bool k1]) (.agg #[.string n2, .string t2, .bool k2])).run Tryz.prog w = .ok (.bool (zV2 n1 t1 k1 n2 t2 k2)) w := by
 have hf: Tryz.prog.underlying 109=some (.struct (Tryz.prog.fieldsOf 109)):=by kernel_rfl
 have hp: Tryz.prog.stoodInHeld 109=false:=by kernel_rfl
 have h0:=run_equalIn_struct (P:= Tryz.prog) w 9999 109 #[.string n1, .string t1, .bool k1] #[.string n2, .string t2, .bool k2] hf hp
 simp only [binOp]
 simp only [zV2,Change.mk.injEq]
 simp [Op.equal,Op.maxDepth,h0,Program.fieldsOf, Tryz.underlying109,go_sem]
 by_cases h1:n1=n2 <;> by_cases h2:t1=t2 <;> by_cases h3:k1=k2 <;>
  simp [h1,h2,h3,zG7]

theorem yN9 (va vb:Value)(a b:List File)(w:World)(ha:Files w va a)(hb:Files w vb b):
 Calls Tryz.prog 127 #[va,vb] w fun e w' =>e= .returned (.bool (decide (a=b)))∧Below w.heap.size w w' :=by
 obtain ⟨ao,ca,rfl,hca,hca'⟩:=ha.parts
 obtain ⟨bo,cb,rfl,hcb,hcb'⟩:=hb.parts
 have HA:=hid ha
 have HB:=hid hb
 clear ha hb
 by_cases hl:a.length=b.length
 · have HL:=hid hl
   have e1:((a.length:Int) != (b.length:Int))=false:=by simp [hl]
   clear hl
   go_enter Tryz.func127, Tryz.ntmps127
   go_wp2
   go_loopw [13] (fun i wr=>∃k:Nat,k≤a.length∧i= .int .i64 k∧a.take k=b.take k∧Below w.heap.size w wr) (fun i _=>a.length - (intOf i).toNat)
   case atStart=>exact ⟨0,Nat.zero_le _,rfl,rfl,Below.refl _ _⟩
   case round=>
    obtain ⟨k,hk,rfl,htk,hbw⟩:=hrel
    have HT:=hid htk
    clear htk
    by_cases hlt:k<a.length
    · have hlt2:k<b.length:=by have:=HL.out;omega
      obtain ⟨ba,oa,rfl,_,x0,x1,x2⟩:=Files.cell (HA.out.below hbw) k hlt
      obtain ⟨bb,ob,rfl,_,y0,y1,y2⟩:=Files.cell (HB.out.below hbw) k hlt2
      have HW:=hid hbw
      replace x0:=zA4 x0
      replace y0:=zA4 y0
      replace x1:=zA4 x1
      replace y1:=zA4 y1
      replace x2:=zA4 x2
      replace y2:=zA4 y2
      clear hbw
      by_cases hf:a[k]=b[k]
      · have hs:zS4 a[k].name a[k].text a[k].times b[k].name b[k].text b[k].times=true:=by rw [yW2];simp [hf]
        have HF:=hid hf
        clear hf
        go_wp2
        refine zA6 (by kernel_rfl) (by kernel_rfl) ?_
        repeat (quiet_step (fail))
        refine wpQuiet_nil ?_
        intro w2 hb2
        have HW2:=hid hb2
        clear hb2
        go_wp2
        go_roundw
        case rel=>exact ⟨k+1,by omega,by go_num,xS0 _ _ _ HT.out hlt hlt2 HF.out,HW.out.trans (HW2.out.mono HW.out.size)⟩
        case measure=>simp [intOf];omega
      · have hs:zS4 a[k].name a[k].text a[k].times b[k].name b[k].text b[k].times=false:=by rw [yW2];simp [hf]
        have HF:=hid hf
        clear hf
        go_wp2
        refine zA6 (by kernel_rfl) (by kernel_rfl) ?_
        repeat (quiet_step (fail))
        refine wpQuiet_nil ?_
        intro w2 hb2
        have HW2:=hid hb2
        clear hb2
        go_wp2
        go_ret
        exact ⟨zJ8 (by simp [vK2 a b k hlt hlt2 HF.out]),HW.out.trans (HW2.out.mono HW.out.size)⟩
    · have HW:=hid hbw
      clear hbw
      go_wp2
      go_ret
      exact ⟨zJ8 (by simp [xM4 a b k HT.out hlt HL.out]),HW.out⟩
 · have HL:=hid hl
   have e1:((a.length:Int) != (b.length:Int))=true:=by simpa using (by omega:¬(a.length:Int)=b.length)
   clear hl
   go_enter Tryz.func127, Tryz.ntmps127
   go_wp2
   go_ret
   exact ⟨zJ8 (by simp [yV8 HL.out]),Below.refl _ _⟩

theorem yO9 (va vb:Value)(a b:List ByteArray)(w:World)(ha:Texts w va a)(hb:Texts w vb b):
 Calls Tryz.prog 21 #[va,vb] w fun e w' =>e= .returned (.bool (decide (a=b)))∧Below w.heap.size w w' :=by
 obtain ⟨ao,ca,rfl,hca,hca'⟩:=ha.parts
 obtain ⟨bo,cb,rfl,hcb,hcb'⟩:=hb.parts
 have HA:=hid ha
 have HB:=hid hb
 clear ha hb
 by_cases hl:a.length=b.length
 · have HL:=hid hl
   have e1:((a.length:Int) != (b.length:Int))=false:=by simp [hl]
   clear hl
   go_enter Tryz.func21, Tryz.ntmps21
   go_wp2
   go_loopw [5] (fun i wr=>∃k:Nat,k≤a.length∧i= .int .i64 k∧a.take k=b.take k∧Below w.heap.size w wr) (fun i _=>a.length - (intOf i).toNat)
   case atStart=>exact ⟨0,Nat.zero_le _,rfl,rfl,Below.refl _ _⟩
   case round=>
    obtain ⟨k,hk,rfl,htk,hbw⟩:=hrel
    have HT:=hid htk
    clear htk
    by_cases hlt:k<a.length
    · have hlt2:k<b.length:=by have:=HL.out;omega
      obtain ⟨ba,oa,rfl,_,x0⟩:=Texts.cell (HA.out.below hbw) k hlt
      obtain ⟨bb,ob,rfl,_,y0⟩:=Texts.cell (HB.out.below hbw) k hlt2
      have HW:=hid hbw
      replace x0:=zA4 x0
      replace y0:=zA4 y0
      clear hbw
      by_cases hf:a[k]=b[k]
      · have hs:(a[k].toList==b[k].toList)=true:=by simp [hf]
        have HF:=hid hf
        clear hf
        go_wp2
        refine zA6 (by kernel_rfl) (by kernel_rfl) ?_
        repeat (quiet_step (fail))
        refine wpQuiet_nil ?_
        intro w2 hb2
        have HW2:=hid hb2
        clear hb2
        go_wp2
        go_roundw
        case rel=>exact ⟨k+1,by omega,by go_num,xS0 _ _ _ HT.out hlt hlt2 HF.out,HW.out.trans (HW2.out.mono HW.out.size)⟩
        case measure=>simp [intOf];omega
      · have hs:(a[k].toList==b[k].toList)=false:=by simp [zG7,hf]
        have HF:=hid hf
        clear hf
        go_wp2
        refine zA6 (by kernel_rfl) (by kernel_rfl) ?_
        repeat (quiet_step (fail))
        refine wpQuiet_nil ?_
        intro w2 hb2
        have HW2:=hid hb2
        clear hb2
        go_wp2
        go_ret
        exact ⟨zJ8 (by simp [vK2 a b k hlt hlt2 HF.out]),HW.out.trans (HW2.out.mono HW.out.size)⟩
    · have HW:=hid hbw
      clear hbw
      go_wp2
      go_ret
      exact ⟨zJ8 (by simp [xM4 a b k HT.out hlt HL.out]),HW.out⟩
 · have HL:=hid hl
   have e1:((a.length:Int) != (b.length:Int))=true:=by simpa using (by omega:¬(a.length:Int)=b.length)
   clear hl
   go_enter Tryz.func21, Tryz.ntmps21
   go_wp2
   go_ret
   exact ⟨zJ8 (by simp [yV8 HL.out]),Below.refl _ _⟩

open Go.RowKit Go.Sort

structure Quilt where
 files:List File
 turn:Int
 deriving DecidableEq
def Quilts (w:World)(qv:Value)(q:Quilt):Prop:=∃v,qv= .agg #[v, .int .i64 q.turn]∧Files w v q.files
structure Copy where
 is:Bool
 quilt:Quilt
def Copies (w:World)(cv:Value)(c:Copy):Prop:=∃v,cv= .agg #[.bool c.is,v, .int .i64 c.quilt.turn]∧Files w v c.quilt.files
def zC7 (a b:Copy):Bool:=a.is==b.is && (!a.is || decide (a.quilt=b.quilt))

theorem vJ7 (a b:Quilt):a=b↔a.turn=b.turn∧a.files=b.files:=by
 obtain ⟨x,y⟩:=a;obtain ⟨z,t⟩:=b;simp;exact and_comm

theorem vQ5 (va vb:Value)(a b:Quilt)(w:World)(ha:Quilts w va a)(hb:Quilts w vb b):
 Calls Tryz.prog 86 #[va,vb] w fun e w' =>e= .returned (.bool (decide (a=b)))∧Below w.heap.size w w' :=by
 obtain ⟨va,rfl,ha⟩:=ha
 obtain ⟨vb,rfl,hb⟩:=hb
 obtain ⟨ao,ca,rfl,hca,hca'⟩:=ha.parts
 obtain ⟨bo,cb,rfl,hcb,hcb'⟩:=hb.parts
 have HA:=hid ha
 have HB:=hid hb
 clear ha hb
 by_cases ht:a.turn=b.turn
 · have e1:(a.turn==b.turn)=true:=by simp [ht]
   have HT:=hid ht
   clear ht
   go_enter Tryz.func86, Tryz.ntmps86
   go_wp2_with fail
   have B2:=hid (two (zA0 w (.cells #[.slice ao a.files.length ca, .int .i64 a.turn] 32)) (zA0 _ (.cells #[.slice bo b.files.length cb, .int .i64 b.turn] 32)))
   refine (yN9 _ _ _ _ _ (HA.out.below B2.out) (HB.out.below B2.out)).mono ?_
   rintro e w1 ⟨rfl,hb1⟩
   have HB1:=hid hb1
   clear hb1
   go_wp2_with fail
   go_ret
   exact ⟨zJ8 (by rw [Bool.eq_iff_iff];simp [vJ7,HT.out]),two B2.out HB1.out⟩
 · have e1:(a.turn==b.turn)=false:=by simp [ht]
   have HT:=hid ht
   clear ht
   go_enter Tryz.func86, Tryz.ntmps86
   go_wp2_with fail
   go_ret
   exact ⟨zJ8 (by simp [vJ7,HT.out]),two (zA0 w _) (zA0 _ _)⟩

theorem sc_is {a b:Copy}(h:a.is≠b.is):zC7 a b=false:=by simp [zC7,h]
theorem sc_none {a b:Copy}(h:a.is=b.is)(ha:a.is=false):zC7 a b=true:=by simp [zC7,ha,←h]
theorem sc_both {a b:Copy}(ha:a.is=true)(hb:b.is=true):zC7 a b=decide (a.quilt=b.quilt):=by simp [zC7,ha,hb]

theorem yN7 (va vb:Value)(a b:Copy)(w:World)(ha:Copies w va a)(hb:Copies w vb b):
 Calls Tryz.prog 52 #[va,vb] w fun e w' =>e= .returned (.bool (zC7 a b))∧Below w.heap.size w w' :=by
 obtain ⟨va,rfl,ha⟩:=ha
 obtain ⟨vb,rfl,hb⟩:=hb
 obtain ⟨ao,ca,rfl,hca,hca'⟩:=ha.parts
 obtain ⟨bo,cb,rfl,hcb,hcb'⟩:=hb.parts
 have HA:=hid ha
 have HB:=hid hb
 clear ha hb
 have B2:=hid (two (zA0 w (.cells #[.bool a.is, .slice ao a.quilt.files.length ca, .int .i64 a.quilt.turn] 52)) (zA0 _ (.cells #[.bool b.is, .slice bo b.quilt.files.length cb, .int .i64 b.quilt.turn] 52)))
 cases hia:a.is <;> cases hib:b.is
 · have H:=hid (sc_none (a:=a) (b:=b) (by rw [hia,hib]) hia)
   rw [hia,hib] at B2
   clear hia hib
   go_enter Tryz.func52, Tryz.ntmps52
   go_wp2_with fail
   go_ret
   exact ⟨zJ8 (by rw [H.out]),B2.out⟩
 · have H:=hid (sc_is (a:=a) (b:=b) (by rw [hia,hib];decide))
   rw [hia,hib] at B2
   clear hia hib
   go_enter Tryz.func52, Tryz.ntmps52
   go_wp2_with fail
   go_ret
   exact ⟨zJ8 (by rw [H.out]),B2.out⟩
 · have H:=hid (sc_is (a:=a) (b:=b) (by rw [hia,hib];decide))
   rw [hia,hib] at B2
   clear hia hib
   go_enter Tryz.func52, Tryz.ntmps52
   go_wp2_with fail
   go_ret
   exact ⟨zJ8 (by rw [H.out]),B2.out⟩
 · have H:=hid (sc_both hia hib)
   rw [hia,hib] at B2
   clear hia hib
   go_enter Tryz.func52, Tryz.ntmps52
   go_wp2_with fail
   refine (vQ5 _ _ a.quilt b.quilt _ ⟨_,rfl,HA.out.below B2.out⟩ ⟨_,rfl,HB.out.below B2.out⟩).mono ?_
   rintro e w1 ⟨rfl,hb1⟩
   have HB1:=hid hb1
   clear hb1
   go_wp2_with fail
   go_ret
   exact ⟨zJ8 (by rw [H.out]),two B2.out HB1.out⟩

open Go.RowKit Go.Sort

end Go.Proofs.YtggpodlecljcbabGreatDoor
