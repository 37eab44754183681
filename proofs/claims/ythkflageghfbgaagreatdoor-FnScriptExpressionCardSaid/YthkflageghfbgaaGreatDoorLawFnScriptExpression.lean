/- The law FnScriptExpression holds for the given program: its row, out of the pure statement and what is told of its functions. -/
import Derived.Test.YthkflageghfbgaaGreatDoorRows
import Derived.Test.YthkflageghfbgaaGreatDoorJ
import Derived.Test.YthkflageghfbgaaGreatDoorPuFnScriptExpression
import Derived.WalkKit
import Derived.ProofKit
import Derived.OpenShut
import Derived.ShutString
import Derived.ChangeOld
import Derived.Below
import Derived.SizedLaws
import Derived.HandedShaped
import Derived.Shelf.Vars
import Derived.Lay
import Derived.LaidMore
import Derived.MakeChecks
import Derived.Stop.LaidErr
import Derived.SevenTiedAt
import Derived.Test.YthkflageghfbgaaGreatDoorTie
import Derived.Test.YthkflageghfbgaaGreatDoorCards
set_option linter.unusedVariables false
set_option linter.unusedSimpArgs false
namespace Go.Proofs.YthkflageghfbgaaGreatDoor.fnScriptExpression
open Go.ChangeShapes Go.WideShapes Go.ChangeAt Go.RowKit Go.Proofs.YthkflageghfbgaaGreatDoor Go.Proofs.YthkflageghfbgaaGreatDoor.Am
open Go.ChangeMaps (open_string shut_string)
theorem own:ownKnob Tryz.prog.godebug=none:=by kernel_rfl
theorem laidOut:laidOutB Tryz.prog=true:=by kernel_rfl
theorem walk(x0:(List Int))(w:World)(v0:Value)(r0:RepV w noWr (.sl (.int .u8)) x0 v0)(tab:TabW Tryz.prog w)(h:laws_FnScriptExpression x0=some true):
    Calls Tryz.prog 3 #[v0] w fun e w'=>e=.returned (.bool true)∧Below w.heap.size w w':=by
  have:=A3_ok (x0,()) true h w noWr [v0] ⟨fun _ _ h=>h.elim,tab⟩ (by simp only[A3,RepPs];exact⟨v0,_,rfl,r0,rfl⟩);refine this.mono ?_;rintro e w' ⟨us,rfl,hb,bs,ho,_⟩;simp only[A3,OwnOuts] at ho;obtain⟨v,rfl,cs,⟨h1,_⟩,rfl⟩:=ho;simp only[RepC] at h1;subst h1;exact⟨rfl,hb.to⟩
/-- the wrap that keeps what is listed and the world's shape -/
theorem wrap{H:Type}{enc:TypeId×Value→H}{a:Assume}{C:Checked}{os:Os}{f:FuncId}{fn:Func}{s:ChangeSpec}{conds:List PathCond}{apart fresh handsOn again:Bool}{X:World→Array Value→Prop}
    (hX:∀(w w':World) (args:Array Value),w.heap=w'.heap→X w args→X w' args)
    (own:ownKnob C.prog.godebug=none) (started:os.Started) (noInit:C.prog.inits.idxOf? f=none) (hfn:C.prog.funcs[f]?=some fn)
    (witness:∃(w:World) (tape:Tape) (i:Input),w.os=os∧(w.forCall tape i).Shaped C.prog∧i.vars=[]∧Input.okWide C.prog (w.forCall tape i) .any w.heap.size f i∧
      ((s.pre enc C.prog fn conds apart (w.forCall tape i).memory i.args∧X (w.forCall tape i).memory i.args)∧sizedMet enc C.prog fn (OpenSpec.ofChange s) apart (w.forCall tape i).memory i.args)∧a.holds C.prog (lone (Frame.enter C.prog f i.args .normal) [] (w.forCall tape i)))
    (contract:∀(W:World) (base:Nat) (args:Array Value) (ds gs:List (DataW H)) (before:List MemPlace),
      (∀(j:Nat) t v,fn.params[j]?=some t→args[j]?=some v→Value.okWide C.prog W .any base t v)→
      DataW.Whole enc C.prog fn.params.toList s.vars apart W args.toList ds gs before→
      X W args→W.ShapedOpen C.prog→
      Calls C.prog f args W fun e W'=>∃v,e=.returned v∧s.post enc C.prog fn apart fresh handsOn again W args v W'):
    ReturnsInHanded a C os f .any (fun w args=>(s.pre enc C.prog fn conds apart w args∧X w args)∧sizedMet enc C.prog fn (OpenSpec.ofChange s) apart w args) (s.post enc C.prog fn apart fresh handsOn again):=by
  refine returnsInHanded_of_calls own started noInit witness ?_;intro w tape i _ hsh _ hok hpre _;obtain⟨_,_,_,fn',hfn',_,_,_,_,hval⟩:=hok;obtain rfl:fn'=fn:=Option.some.inj (hfn'.symm.trans hfn);obtain⟨⟨⟨ds,gs,before,hw,hc⟩,hx⟩,hz⟩:=hpre;refine(contract (w.forCall tape i) w.heap.size i.args ds gs before hval (DataW.Whole.of_heap (w':=w.forCall tape i) (by rfl) hw) (hX _ _ _ (by rfl) hx) hsh).mono fun e W' ⟨v,he,hp⟩=> ?_;subst he;exact ChangeSpec.post_blind hp
theorem gA:Tryz.prog.globalNamed "internal/strconv.uint64pow10" =some 3:=by kernel_rfl
theorem gB:Tryz.prog.globalNamed "strings.asciiSpace" =some 0:=by kernel_rfl
theorem gM:Tryz.prog.globalNamed "internal/bytealg.MaxLen" =some 2:=by kernel_rfl
theorem gAy:(Tryz.prog.globals[3]?).map (·.type)=some 241:=by kernel_rfl
theorem gBy:(Tryz.prog.globals[0]?).map (·.type)=some 161:=by kernel_rfl
theorem cA:Tryz.prog.cellsOf 241=20:=by kernel_rfl
theorem cB:Tryz.prog.cellsOf 161=256:=by kernel_rfl
theorem eA:Tryz.prog.cellsOf 206=1:=by kernel_rfl
theorem eB:Tryz.prog.cellsOf 5=1:=by kernel_rfl
theorem dA:(Rows.laid_internal_strconv_uint64pow10:DataW Unit)=Lib.tabData .u64 Lib.pow10Tab:=by kernel_rfl
theorem dB:(Rows.laid_strings_asciiSpace:DataW Unit)=Lib.tabData .u8 Lib.asciiSpaceTab:=by kernel_rfl
/-- the heap where what is listed is laid meets what the row asks -/
theorem met(os:Os)(args:Array Value):laidMetH Tryz.prog Rows.fnScriptExpressionRow.laid ((World.laidAll Tryz.prog os Rows.fnScriptExpressionRow.laid).forCall (fun _ _=>0) ⟨#[],args,[]⟩).memory:=by
  rw[MakeChecks.laidMetH_plain _ _ _ (by kernel_rfl)];exact laidMet_laidAll _ (by kernel_rfl) (by kernel_rfl)
theorem tabIs{W:World}(h:laidMetH Tryz.prog Rows.fnScriptExpressionRow.laid W)(hsh:W.ShapedOpen Tryz.prog):TabW Tryz.prog W:=by
  rw[MakeChecks.laidMetH_plain _ _ _ (by kernel_rfl)] at h;have ha:laidMet Tryz.prog (("internal/strconv.uint64pow10",Rows.laid_internal_strconv_uint64pow10)::[("unicode/utf8.acceptRanges",Rows.laid_unicode_utf8_acceptRanges),("strconv.ErrRange",Rows.laid_strconv_ErrRange),("strconv.ErrSyntax",Rows.laid_strconv_ErrSyntax),("unicode.White_Space",Rows.laid_unicode_White_Space),("strings.asciiSpace",Rows.laid_strings_asciiSpace),("unicode/utf8.first",Rows.laid_unicode_utf8_first)]) W:=h.tail.tail;have hb:laidMet Tryz.prog (("strings.asciiSpace",Rows.laid_strings_asciiSpace)::[("unicode/utf8.first",Rows.laid_unicode_utf8_first)]) W:=h.tail.tail.tail.tail.tail.tail.tail;rw[dA] at ha;rw[dB] at hb;obtain⟨m,hm⟩:=cell_of_shapedOpen_int (P:=Tryz.prog) (g:=2) (zero:=#[.int .i64 0]) (t:=3) hsh (of_decide_eq_true (by kernel_rfl)) (by kernel_rfl) rfl (by kernel_rfl) (by kernel_rfl) Tryz.underlying3;exact⟨Lib.tabIs_of_head gA gAy Tryz.underlying241 Tryz.underlying206 eA cA ha,Lib.tabIs_of_head gB gBy Tryz.underlying161 Tryz.underlying5 eB cB hb,2,m,gM,hm⟩
set_option maxRecDepth 100000 in
theorem lifted(os:Os)(started:os.Started)(H:Type)(enc:TypeId×Value→H):
    ReturnsInHanded {} Tryz.checked os 3 .any (fun w args=>(Rows.fnScriptExpressionSpec.pre enc Tryz.prog Tryz.f3 [] false w args∧laidMetH Tryz.prog Rows.fnScriptExpressionRow.laid w)∧sizedMet enc Tryz.prog Tryz.f3 (OpenSpec.ofChange Rows.fnScriptExpressionSpec) false w args) (Rows.fnScriptExpressionSpec.post enc Tryz.prog Tryz.f3 false true false false):=by
  refine wrap (C:=Tryz.checked) (X:=fun w _=>laidMetH Tryz.prog Rows.fnScriptExpressionRow.laid w) (fun _ _ _ hh h=>h.of_heap hh) own started (by kernel_rfl) Tryz.func3
    (ChangeSpec.witness_shaped (enc:=enc) (C:=Tryz.checked) (os:=os) (X:=fun w _=>laidMetH Tryz.prog Rows.fnScriptExpressionRow.laid w) false (World.laidAll Tryz.prog os Rows.fnScriptExpressionRow.laid) #[.slice none 0 0] 8 (World.laidAll_os _ _ _) (World.shaped_of_ZipB (by kernel_rfl) (by kernel_rfl)) (by kernel_rfl) (by kernel_rfl) (by kernel_rfl) (met os _)) ?_
  intro W base args ds gs before hval0 hW hL hsh;have hval:∀(j:Nat) t v,Tryz.f3.params[j]?=some t→args[j]?=some v→Value.okWide Tryz.prog W .any base t v:=hval0;have hW':=hW;obtain⟨p,q,hA0,hV,rfl,hfz,hnd⟩:=hW;have hA:DataW.TrodAll enc Tryz.prog W 0 (fun _=>true) true Tryz.f3.params.toList args.toList ds p:=hA0;rw[Tryz.params3] at hA hval;obtain⟨v0,vs0,d0,ds0,p0,q0,hargs,rfl,rfl,h0,r0⟩:=trodAll_cons hA;obtain⟨rfl,rfl,rfl⟩:=trodAll_nil r0;obtain rfl:args=#[v0]:=by cases args;simp_all
  obtain⟨rfl,rfl⟩:=trodVars_none hV;have lt0:∀x∈p0,x.block<W.heap.size:=by obtain⟨m,hm⟩:=h0;exact DataW.trod_lt m _ _ _ hm
  obtain⟨x0,rep0,fit0⟩:=trod_repV (P:=Tryz.prog) (n:=12) (k:=.sl (.int .u8)) (by kernel_rfl) (hval 0 22 v0 rfl rfl) h0;refine(walk x0 W v0 rep0 (tabIs hL hsh) (pure_FnScriptExpression x0 fit0)).mono fun e W' ⟨he,bel⟩=> ?_;subst he;exact⟨_,rfl,_,_,_,[],_,[],hW',trodAll_mk1 (shut_bool Tryz.underlying4 _),(trodAll_cons_mk (Below.trod laidOut (by kernel_rfl) (of_decide_eq_true (by kernel_rfl)) h0 bel lt0) trodAll_mk0),rfl,bel.frame _,fun h=>by cases h⟩
theorem k0:(Rows.fnScriptExpressionRow.wf (OpenSpec.ofChange Rows.fnScriptExpressionSpec)&&laidOutB Tryz.pinned.checked.prog&&mapsRowed Tryz.pinned.checked.prog&&Tryz.f3.params.all (Tryz.pinned.checked.prog.readableRec ·)&&namedTie Tryz.pinned.checked.prog Rows.fnScriptExpressionRow.named Rows.fnScriptExpressionSpec.vars&&(Rows.fnScriptExpressionRow.stops==[])&&(Tryz.pinned.checked.prog.stops==[])&&(Rows.fnScriptExpressionRow.knobs==[])&&(Tryz.pinned.checked.prog.stopKnobs==[]))=true:=by kernel_rfl
theorem k1:((Rows.fnScriptExpressionRow.inPlace==Tryz.pinned.checked.prog.inPlace 3))=true:=by kernel_rfl
theorem k2:((Rows.fnScriptExpressionRow.unfollowed==Tryz.pinned.checked.prog.unfollowed 3))=true:=by kernel_rfl
theorem k3:((Rows.fnScriptExpressionRow.recurses==Tryz.pinned.checked.prog.recurses 3))=true:=by kernel_rfl
theorem k4:((Rows.fnScriptExpressionRow.named==Tryz.pinned.checked.prog.varsNamed 3))=true:=by kernel_rfl
theorem k5:((Rows.fnScriptExpressionRow.maps==(Tryz.f3.params.toList++Rows.fnScriptExpressionSpec.plain.varTypes Tryz.pinned.checked.prog).any (Tryz.pinned.checked.prog.mapsRec ·))&&(Rows.fnScriptExpressionRow.ifaces==(Tryz.f3.params.toList++Rows.fnScriptExpressionSpec.plain.varTypes Tryz.pinned.checked.prog).any (Tryz.pinned.checked.prog.ifacesRec ·))&&(Rows.fnScriptExpressionRow.mapsOut==Tryz.pinned.checked.prog.mapsAmong Tryz.f3.resultTypes.toList)&&(Rows.fnScriptExpressionRow.loops==(Tryz.f3.params.toList++Rows.fnScriptExpressionSpec.plain.varTypes Tryz.pinned.checked.prog).any (Tryz.pinned.checked.prog.loopsFrom ·))&&(Rows.fnScriptExpressionRow.wideKeys==(Tryz.f3.params.toList++Rows.fnScriptExpressionSpec.plain.varTypes Tryz.pinned.checked.prog++Tryz.f3.resultTypes.toList).any (Tryz.pinned.checked.prog.wideKeysFrom ·))&&Rows.fnScriptExpressionSpec.vars.all (Tryz.pinned.checked.prog.varReadable ·)&&Tryz.f3.resultTypes.all (fun t=>Tryz.pinned.checked.prog.readableRec t&&decide (t<Tryz.pinned.checked.prog.types.size))&&(Rows.fnScriptExpressionRow.ifacesOut==Tryz.f3.resultTypes.toList.any (Tryz.pinned.checked.prog.ifacesRec ·))&&(Rows.fnScriptExpressionRow.loopsOut==Tryz.f3.resultTypes.toList.any (Tryz.pinned.checked.prog.loopsFrom ·))&&(Rows.fnScriptExpressionRow.plainKeys==Tryz.pinned.checked.prog.plainKeys)&&Rows.fnScriptExpressionRow.shortTexts.isNone)=true:=by kernel_rfl
theorem k10:((Rows.fnScriptExpressionRow.pinned==Rows.fnScriptExpressionRow.pinnedBy)&&(Rows.fnScriptExpressionRow.veiled==(Tryz.f3.params.toList++Rows.fnScriptExpressionSpec.plain.varTypes Tryz.pinned.checked.prog++Tryz.f3.resultTypes.toList).any (Tryz.pinned.checked.prog.veiledRec ·))&&Rows.fnScriptExpressionRow.veiledFits Tryz.pinned.checked.prog Tryz.f3.params.toList (Tryz.f3.params.toList++Rows.fnScriptExpressionSpec.plain.varTypes Tryz.pinned.checked.prog++Tryz.f3.resultTypes.toList))=true:=by kernel_rfl
theorem k6:(Tryz.pinned.checked.prog.stopsHeard)=true:=joined6
theorem k7:(Tryz.pinned.checked.prog.mayEnter)=true:=joined7
theorem k8:((Rows.fnScriptExpressionRow.lifted==Tryz.pinned.checked.prog.liftsFinal))=true:=joined8
theorem k9:((Tryz.pinned.checked.prog.make==some Rows.fnScriptExpressionRow.make))=true:=joined9
theorem closed:joinedFacts Tryz.pinned.checked.prog 3 Tryz.f3 Rows.fnScriptExpressionSpec Rows.fnScriptExpressionRow=true:=by
  have h:=(And.intro k0 (And.intro k1 (And.intro k2 (And.intro k3 (And.intro k4 (And.intro k5 (And.intro k6 (And.intro k7 (And.intro k8 (And.intro k9 k10))))))))));unfold joinedFacts;simp only[Bool.and_eq_true] at h⊢;simp only[h,and_self,and_true,true_and];exact of_decide_eq_true (by kernel_rfl)
theorem named:Tryz.pinned.checked.prog.funcNamed Rows.fnScriptExpressionRow.func=some 3:=by kernel_rfl
theorem over:Rows.fnScriptExpressionRow.holds Tryz.pinned (OpenSpec.ofChange Rows.fnScriptExpressionSpec):=
  OpenClaim.holds_of_wide 3 Tryz.f3 rfl rfl rfl rfl rfl rfl rfl ⟨rfl,rfl,rfl,rfl,rfl⟩ rfl rfl rfl rfl rfl named Tryz.func3 closed
    (of_decide_eq_true (by kernel_rfl)) (by unfold Func.isWrapper;first|(rw[if_pos (by decide+kernel)];kernel_rfl)|(rw[if_neg (by decide+kernel)];exact⟨rfl,rfl⟩))
    (fun os started H enc _=>lifted os started H enc)
theorem proved:Rows.FnScriptExpressionCardSaid:=
  Claim7.holds_tied_plain_at .later [] [.data,.data,.data,.data,.sentinel,.sentinel,.listed,.data,.pinned] true (true, "b345f41d154a1c406a05c755367b7bfcafd52051b2079a4c9dd0b6857b0dc413") true
    over (fun _ h=>by cases h) (by kernel_rfl) (fun _ h=>by cases h) fnScriptExpression_row_tie rfl ⟨rfl,rfl⟩ (by kernel_rfl) rfl
    (fun f fn hf hfn=>by
      obtain rfl:f=3:=Option.some.inj ((show Tryz.prog.funcNamed "loop.example/distanceautomata/laws.FnScriptExpression" =some 3 by kernel_rfl).symm.trans hf) |>.symm;obtain rfl:fn=Tryz.f3:=(Option.some.inj (Tryz.func3.symm.trans hfn)).symm;exact⟨by kernel_rfl,fun j t ht=>by
        rw[Tryz.params3] at ht;have hm:t∈[22]:=by simpa using Array.mem_of_getElem? ht
        have hall:([22].all fun u=> !Tryz.prog.wantsStandIn u)=true:=by kernel_rfl
        exact(show Tryz.prog.wantsStandIn t=false by simpa using List.all_eq_true.1 hall t hm)⟩)
    (by kernel_rfl)
#print axioms proved
end Go.Proofs.YthkflageghfbgaaGreatDoor.fnScriptExpression
namespace Go.Proofs.YthkflageghfbgaaGreatDoor
/-- The row, under a short name, for the claim. -/
theorem fnScriptExpression_holds : Rows.FnScriptExpressionCardSaid := fnScriptExpression.proved
end Go.Proofs.YthkflageghfbgaaGreatDoor
