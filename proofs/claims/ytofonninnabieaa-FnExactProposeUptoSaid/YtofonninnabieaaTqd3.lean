/- The law of FnExactPropose answers true at all arguments of bulk at most 1048576,and leaves them as they were. No condition beyond those of the given statement. -/
import Derived.Test.YtofonninnabieaaTqc14
namespace Go.Proofs.Ytofonninnabieaa.Tq
namespace L3
open Go Go.Am Go.ChangeShapes Go.WideShapes Go.ChangeAt Go.RowKit
set_option linter.unusedVariables false
set_option linter.unusedSimpArgs false
theorem own:ownKnob Try.prog.godebug=none:=by kernel_rfl
theorem laidOut:laidOutB Try.prog=true:=by kernel_rfl
theorem lawRead:(Try.f3.params.toList.all fun t=>Try.prog.readableRec t && decide (t < Try.prog.types.size))=true:=by kernel_rfl
abbrev W0:Input:=⟨#[],#[.agg #[.int .i64 0,.int .i64 0,.int .i64 0,.int .i64 0,.int .i64 0,.slice none 0 0,.int .i64 0,.int .i64 0,.slice none 0 0,.int .i64 0,.int .i64 0,.int .i64 0,.slice none 0 0,.slice none 0 0],.int .i64 0,.string ⟨#[]⟩],[]⟩
set_option maxRecDepth 100000 in
theorem lifted (os:Os) (started:os.Started) (H:Type) (enc:TypeId×Value→H) (F:Stop.Interp) :
    ReturnsInHanded {} Try.checked os 3 .any ((Rows.OpenSpec.upto Rows.fnExactProposeSpec).pre6 enc Try.prog Try.f3 Rows.fnExactProposeUptoRow.domain false) (((Rows.OpenSpec.upto Rows.fnExactProposeSpec).at F).post enc Try.prog Try.f3 false true false false):=by
  refine returnsInHanded_of_cond (C:=Try.checked) (s:=Rows.OpenSpec.upto Rows.fnExactProposeSpec) (k:=Rows.uptoSmall) rfl own started (by kernel_rfl) Try.func3
    (OpenSpec.witness (enc:=enc) (C:=Try.checked) (s:=Rows.OpenSpec.upto Rows.fnExactProposeSpec) (k:=Rows.uptoSmall) rfl false W0 40 (by kernel_rfl) (by kernel_rfl) (by kernel_rfl)
      (x:=([.agg [.lit (.int .i64 0),.lit (.int .i64 0),.lit (.int .i64 0),.lit (.int .i64 0),.lit (.int .i64 0),.nil,.agg [.lit (.int .i64 0),.lit (.int .i64 0),.nil],.lit (.int .i64 0),.lit (.int .i64 0),.lit (.int .i64 0),.nil,.nil],.lit (.int .i64 0),.lit (.string [])],[],[])) (by kernel_rfl) rfl (by kernel_rfl)) ?_
  intro W base args ds gs before hval hW _ hk _
  refine law_rowM tabOK inlOK (fn:=Try.f3) (s:=Rows.fnExactProposeSpec) (tb:=4) (n:=12) (tys:=lawTys3) (F:=F3) laidOut (by kernel_rfl) Try.underlying4 rfl lawTys3_ok lawRead ?_ (by kernel_rfl) en3 law3 W base args ds gs before hval hW hk
  intro ds hds
  match ds,hds with
  | [d0,d1,d2],_=>rfl

abbrev ss:ChangeSpec:=(Rows.OpenSpec.upto Rows.fnExactProposeSpec).bare
abbrev cc:OpenClaim:=Rows.fnExactProposeUptoRow
theorem fact0:(cc.wf (OpenSpec.ofChange ss))=true:=by kernel_rfl
theorem fact1:(laidOutB Try.prog)=true:=by kernel_rfl
theorem fact2:(mapsRowed Try.prog)=true:=by kernel_rfl
theorem fact3:(Try.f3.params.all (Try.prog.readableRec ·))=true:=by kernel_rfl
theorem fact4:(namedTie Try.prog cc.named ss.vars)=true:=by kernel_rfl
theorem fact5:((cc.stops == []))=true:=by kernel_rfl
theorem fact6:((Try.prog.stops == []))=true:=by kernel_rfl
theorem fact7:((cc.knobs == []))=true:=by kernel_rfl
theorem fact8:((Try.prog.stopKnobs == []))=true:=by kernel_rfl
theorem fact9:((cc.inPlace == Try.prog.inPlace 3))=true:=by kernel_rfl
theorem fact10:((cc.unfollowed == Try.prog.unfollowed 3))=true:=by kernel_rfl
theorem fact11:((cc.recurses == Try.prog.recurses 3))=true:=by kernel_rfl
theorem fact12:((cc.named == Try.prog.varsNamed 3))=true:=by kernel_rfl
theorem fact13:((cc.maps == (Try.f3.params.toList++ss.plain.varTypes Try.prog).any (Try.prog.mapsRec ·)))=true:=by kernel_rfl
theorem fact14:((cc.ifaces == (Try.f3.params.toList++ss.plain.varTypes Try.prog).any (Try.prog.ifacesRec ·)))=true:=by kernel_rfl
theorem fact15:((cc.mapsOut == Try.prog.mapsAmong Try.f3.resultTypes.toList))=true:=by kernel_rfl
theorem fact16:((cc.loops == (Try.f3.params.toList++ss.plain.varTypes Try.prog).any (Try.prog.loopsFrom ·)))=true:=by kernel_rfl
theorem fact17:((cc.wideKeys == (Try.f3.params.toList++ss.plain.varTypes Try.prog++Try.f3.resultTypes.toList).any (Try.prog.wideKeysFrom ·)))=true:=by kernel_rfl
theorem fact18:(ss.vars.all (Try.prog.varReadable ·))=true:=by kernel_rfl
theorem fact19:(Try.f3.resultTypes.all (fun t=>Try.prog.readableRec t && decide (t < Try.prog.types.size)))=true:=by kernel_rfl
theorem fact20:((cc.ifacesOut == Try.f3.resultTypes.toList.any (Try.prog.ifacesRec ·)))=true:=by kernel_rfl
theorem fact21:((cc.loopsOut == Try.f3.resultTypes.toList.any (Try.prog.loopsFrom ·)))=true:=by kernel_rfl
theorem fact22:((cc.plainKeys == Try.prog.plainKeys))=true:=by kernel_rfl
theorem fact23:(cc.shortTexts.isNone)=true:=by kernel_rfl
theorem fact24:(Try.prog.stopsHeard)=true:=by kernel_rfl
theorem fact25:(Try.prog.mayEnter)=true:=by kernel_rfl
theorem fact26:((cc.lifted == Try.prog.liftsFinal))=true:=by kernel_rfl
theorem fact27:((Try.prog.make == some cc.make))=true:=by kernel_rfl
theorem fact28:((cc.kinds == (if cc.domain.isEmpty then [] else Try.f3.params.toList.map fun t=>match Try.prog.underlying t with | some (.int k)=>some k | _=>none)))=true:=by kernel_rfl
theorem fact29:((cc.pinned == cc.pinnedBy))=true:=by kernel_rfl
theorem fact30:((cc.veiled == (Try.f3.params.toList++ss.plain.varTypes Try.prog++Try.f3.resultTypes.toList).any (Try.prog.veiledRec ·)))=true:=by kernel_rfl
theorem fact31:(cc.veiledFits Try.prog Try.f3.params.toList (Try.f3.params.toList++ss.plain.varTypes Try.prog++Try.f3.resultTypes.toList))=true:=by kernel_rfl
set_option maxRecDepth 100000 in
theorem over:Rows.fnExactProposeUptoRow.holds Try.pinned (Rows.OpenSpec.upto Rows.fnExactProposeSpec):=
  OpenClaim.holds_of_cond 3 Try.f3 rfl rfl rfl rfl rfl rfl rfl ⟨rfl,rfl,rfl,rfl,rfl⟩ rfl rfl rfl rfl rfl (by kernel_rfl) Try.func3 (facts_of fact0 fact1 fact2 fact3 fact4 fact5 fact6 fact7 fact8 fact9 fact10 fact11 fact12 fact13 fact14 fact15 fact16 fact17 fact18 fact19 fact20 fact21 fact22 fact23 fact24 fact25 fact26 fact27 fact28 fact29 fact30 fact31)
    (of_decide_eq_true (by kernel_rfl)) (by unfold Func.isWrapper; first | (rw [if_pos (by decide +kernel)]; kernel_rfl) | (rw [if_neg (by decide +kernel)]; exact ⟨rfl,rfl⟩))
    (fun os started H enc _ F=>lifted os started H enc F)
end L3
end Go.Proofs.Ytofonninnabieaa.Tq
namespace Go.Proofs.Ytofonninnabieaa
/-- The row,under a short name,for the claim. -/
theorem fnExactPropose_upto:Rows.FnExactProposeUptoSaid:=Tq.L3.over
end Go.Proofs.Ytofonninnabieaa
