/- What the row's condition on the library's tables gives the walks. -/
import Derived.LaidMore
import Derived.LaidSub
import Derived.Lib.LaidTab
import Derived.MakeChecks
import Derived.HandedShaped
import Derived.Shelf.Vars
import Derived.Test.YtggpodlecljcbabGreatDoorKI
import Derived.Test.YtggpodlecljcbabGreatDoorKC1
namespace Go.Proofs.YtggpodlecljcbabGreatDoor
set_option linter.unusedSimpArgs false
set_option linter.unusedVariables false
set_option maxRecDepth 100000
set_option maxHeartbeats 64000000
open Go.RowKit Go.Sort
theorem yL4 {H:Type}{enc:TypeId × Value→H}{P:Program}{w:World}{base:Nat}{sp:Nat→Bool}{held:Bool}{fuel:Nat}{t:TypeId}{ms:Array (String × TypeId)}{cs:List Value}{d:DataW H}{p:List MemPlace}
 (ht:P.underlying t=some (.interface ms)) (h:DataW.trod enc P w base sp held fuel t cs=some (d,p)):cs= [.nilIface]∨∃u v,cs= [.iface u v]:=by
 cases fuel with
 | zero=>simp [DataW.trod] at h
 | succ fuel=>
  unfold DataW.trod at h
  rw [ht] at h
  split at h
  all_goals first
   | (exact Or.inl rfl)
   | (exact Or.inr ⟨_,_,rfl⟩)
   | (simp_all;done)
   | contradiction
theorem glob_of {W:World}{l:List (String × DataW Unit)}{d:DataW Unit}(h:laidMetH Tryz.prog l W)
 (h1 : (l.filter fun x => x.1 == "internal/strconv.uint64pow10") = [("internal/strconv.uint64pow10", Lib.tabData .u64 Lib.pow10Tab)])
 (h2 : (l.filter fun x => x.1 == "strconv.ErrSyntax") = [("strconv.ErrSyntax", d)]) (h3 : d.handleName? = none) : GlobI W := by
 have g1 := h.filter (fun x => x.1 == "internal/strconv.uint64pow10")
 rw [h1,MakeChecks.laidMetH_plain _ _ _ rfl] at g1
 have g2 := h.filter (fun x => x.1 == "strconv.ErrSyntax")
 rw [h2,MakeChecks.laidMetH_plain _ _ _ (by simp [h3])] at g2
 refine ⟨Lib.tabIs_of_head (g:= 1) (t:= 254) (e:= 33) (n:=20) (by kernel_rfl) (by kernel_rfl) Tryz.underlying254 Tryz.underlying33 (by kernel_rfl) (by kernel_rfl) g1,?_⟩
 obtain ⟨ps,⟨g',t',cs,fuel,p,q,hg',ht',hvar,hd,_,_⟩,_⟩:=g2
 have hg : Tryz.prog.globalNamed "strconv.ErrSyntax" = some 2 := by kernel_rfl
 obtain rfl:=Option.some.inj (hg.symm.trans hg')
 have hty:(Tryz.prog.globals[2]?).map (·.type)=some 38:=by kernel_rfl
 obtain rfl:=Option.some.inj (hty.symm.trans ht')
 have hu:= Tryz.underlying38
 rcases yL4 hu hd with hc | ⟨u,v,hc⟩
 · refine ⟨.nilIface,?_,Or.inl rfl⟩
   have:=World.var?_cell hg hvar 0
   rw [Array.eq_one_of_toList hc] at this
   simpa using this
 · refine ⟨.iface u v,?_,Or.inr ⟨u,v,rfl⟩⟩
   have:=World.var?_cell hg hvar 0
   rw [Array.eq_one_of_toList hc] at this
   simpa using this
open Go Go.RowKit Go.Sort
theorem handed_and_shaped {H:Type}{enc:TypeId × Value→H}{a:Assume}{C:Checked}{os:Os}{f:FuncId}{fn:Func}{s:ChangeSpec}{conds:List PathCond}{apart fresh handsOn again:Bool}{X:World→Array Value→Prop}
 (hX:∀(w w' :World) (args:Array Value),w.heap=w'.heap→X w args→X w' args)
 (own:ownKnob C.prog.godebug=none) (started:os.Started) (noInit:C.prog.inits.idxOf? f=none) (hfn:C.prog.funcs[f]?=some fn)
 (witness:∃(w:World) (tape:Tape) (i:Input),w.os=os∧(w.forCall tape i).Shaped C.prog∧i.vars= []∧Input.okWide C.prog (w.forCall tape i) .any w.heap.size f i∧
  ((s.pre enc C.prog fn conds apart (w.forCall tape i).memory i.args∧X (w.forCall tape i).memory i.args)∧sizedMet enc C.prog fn (OpenSpec.ofChange s) apart (w.forCall tape i).memory i.args)∧a.holds C.prog (lone (Frame.enter C.prog f i.args .normal) [] (w.forCall tape i)))
 (contract:∀(W:World) (base:Nat) (args:Array Value) (ds gs:List (DataW H)) (before:List MemPlace),
  (∀(j:Nat) t v,fn.params[j]?=some t→args[j]?=some v→Value.okWide C.prog W .any base t v)→
  DataW.Whole enc C.prog fn.params.toList s.vars apart W args.toList ds gs before→X W args→W.ShapedOpen C.prog→
  Calls C.prog f args W fun e W' =>∃v,e= .returned v∧s.post enc C.prog fn apart fresh handsOn again W args v W'):
 ReturnsInHanded a C os f .any (fun w args=>(s.pre enc C.prog fn conds apart w args∧X w args)∧sizedMet enc C.prog fn (OpenSpec.ofChange s) apart w args) (s.post enc C.prog fn apart fresh handsOn again):=by
 refine returnsInHanded_of_calls own started noInit witness ?_
 intro w tape i _ hsh _ hok hpre hholds
 obtain ⟨_,_,_,fn',hfn',_,_,_,_,hval⟩:=hok
 have e:fn' =fn:=Option.some.inj (hfn'.symm.trans hfn)
 subst e
 obtain ⟨⟨⟨ds,gs,before,hw,hc⟩,hx⟩,hz⟩:=hpre
 have hw' :=DataW.Whole.of_heap (w' :=w.forCall tape i) (by rfl) hw
 refine (contract (w.forCall tape i) w.heap.size i.args ds gs before hval hw' (hX _ _ _ (by rfl) hx) hsh).mono fun e W' ⟨v,he,hp⟩=>?_
 subst he
 exact ChangeSpec.post_blind hp
theorem globC_of {W:World}{l:List (String × DataW Unit)}{d e:DataW Unit}(h:laidMetH Tryz.prog l W)(hsh:W.ShapedOpen Tryz.prog)
 (h1 : (l.filter fun x => x.1 == "internal/strconv.uint64pow10") = [("internal/strconv.uint64pow10", Lib.tabData .u64 Lib.pow10Tab)])
 (h2 : (l.filter fun x => x.1 == "strconv.ErrSyntax") = [("strconv.ErrSyntax", d)]) (h3 : d.handleName? = none)
 (h4 : (l.filter fun x => x.1 == "strconv.ErrRange") = [("strconv.ErrRange", e)]) (h5 : e.handleName? = none) : GlobC W := by
 refine ⟨glob_of h h1 h2 h3,?_,Go.Proofs.cell_of_shapedOpen_int (g:= 0) (t:= 3) (zero:= #[.int .i64 0]) hsh (of_decide_eq_true (by kernel_rfl)) (by kernel_rfl) rfl (by kernel_rfl) (by kernel_rfl) Tryz.underlying3⟩
 have g2 := h.filter (fun x => x.1 == "strconv.ErrRange")
 rw [h4,MakeChecks.laidMetH_plain _ _ _ (by simp [h5])] at g2
 obtain ⟨ps,⟨g',t',cs,fuel,p,q,hg',ht',hvar,hd,_,_⟩,_⟩:=g2
 have hg : Tryz.prog.globalNamed "strconv.ErrRange" = some 3 := by kernel_rfl
 obtain rfl:=Option.some.inj (hg.symm.trans hg')
 have hty:(Tryz.prog.globals[3]?).map (·.type)=some 38:=by kernel_rfl
 obtain rfl:=Option.some.inj (hty.symm.trans ht')
 have hu:= Tryz.underlying38
 rcases yL4 hu hd with hc | ⟨u,v,hc⟩
 · refine ⟨.nilIface,?_,Or.inl rfl⟩
   have:=World.var?_cell hg hvar 0
   rw [Array.eq_one_of_toList hc] at this
   simpa using this
 · refine ⟨.iface u v,?_,Or.inr ⟨u,v,rfl⟩⟩
   have:=World.var?_cell hg hvar 0
   rw [Array.eq_one_of_toList hc] at this
   simpa using this
end Go.Proofs.YtggpodlecljcbabGreatDoor
