/- The law of FnExactFormatDisk answers true at all arguments of bulk at most 1048576, and leaves them as they were. No condition beyond those of the given statement. -/
import Derived.Test.YtlnehfgjfmamjaaGreatDoorFde1
namespace Go.Proofs.YtlnehfgjfmamjaaGreatDoor.Fd
open Go Go.Am Go.ChangeShapes Go.WideShapes Go.ChangeAt Go.RowKit
set_option linter.unusedVariables false
set_option linter.unusedSimpArgs false
abbrev ss : ChangeSpec := (Rows.OpenSpec.upto Rows.fnExactFormatDiskSpec).bare
abbrev cc : OpenClaim := Rows.fnExactFormatDiskUptoRow
theorem fact0 : (cc.wf (OpenSpec.ofChange ss)) = true := by kernel_rfl
theorem fact1 : (laidOutB Tryz.prog) = true := by kernel_rfl
theorem fact2 : (mapsRowed Tryz.prog) = true := by kernel_rfl
theorem fact3 : (Tryz.f3.params.all (Tryz.prog.readableRec ·)) = true := by kernel_rfl
theorem fact4 : (namedTie Tryz.prog cc.named ss.vars) = true := by kernel_rfl
theorem fact5 : ((cc.stops == [])) = true := by kernel_rfl
theorem fact6 : ((Tryz.prog.stops == [])) = true := by kernel_rfl
theorem fact7 : ((cc.knobs == [])) = true := by kernel_rfl
theorem fact8 : ((Tryz.prog.stopKnobs == [])) = true := by kernel_rfl
theorem fact9 : ((cc.inPlace == Tryz.prog.inPlace 3)) = true := by kernel_rfl
theorem fact10 : ((cc.unfollowed == Tryz.prog.unfollowed 3)) = true := by kernel_rfl
theorem fact11 : ((cc.recurses == Tryz.prog.recurses 3)) = true := by kernel_rfl
theorem fact12 : ((cc.named == Tryz.prog.varsNamed 3)) = true := by kernel_rfl
theorem fact13 : ((cc.maps == (Tryz.f3.params.toList ++ ss.plain.varTypes Tryz.prog).any (Tryz.prog.mapsRec ·))) = true := by kernel_rfl
theorem fact14 : ((cc.ifaces == (Tryz.f3.params.toList ++ ss.plain.varTypes Tryz.prog).any (Tryz.prog.ifacesRec ·))) = true := by kernel_rfl
theorem fact15 : ((cc.mapsOut == Tryz.prog.mapsAmong Tryz.f3.resultTypes.toList)) = true := by kernel_rfl
theorem fact16 : ((cc.loops == (Tryz.f3.params.toList ++ ss.plain.varTypes Tryz.prog).any (Tryz.prog.loopsFrom ·))) = true := by kernel_rfl
theorem fact17 : ((cc.wideKeys == (Tryz.f3.params.toList ++ ss.plain.varTypes Tryz.prog ++ Tryz.f3.resultTypes.toList).any (Tryz.prog.wideKeysFrom ·))) = true := by kernel_rfl
theorem fact18 : (ss.vars.all (Tryz.prog.varReadable ·)) = true := by kernel_rfl
theorem fact19 : (Tryz.f3.resultTypes.all (fun t => Tryz.prog.readableRec t && decide (t < Tryz.prog.types.size))) = true := by kernel_rfl
theorem fact20 : ((cc.ifacesOut == Tryz.f3.resultTypes.toList.any (Tryz.prog.ifacesRec ·))) = true := by kernel_rfl
theorem fact21 : ((cc.loopsOut == Tryz.f3.resultTypes.toList.any (Tryz.prog.loopsFrom ·))) = true := by kernel_rfl
theorem fact22 : ((cc.plainKeys == Tryz.prog.plainKeys)) = true := by kernel_rfl
theorem fact23 : (cc.shortTexts.isNone) = true := by kernel_rfl
theorem fact24 : (Tryz.prog.stopsHeard) = true := by kernel_rfl
theorem fact25 : (Tryz.prog.mayEnter) = true := by kernel_rfl
theorem fact26 : ((cc.lifted == Tryz.prog.liftsFinal)) = true := by kernel_rfl
theorem fact27 : ((Tryz.prog.make == some cc.make)) = true := by kernel_rfl
theorem fact28 : ((cc.kinds == (if cc.domain.isEmpty then [] else Tryz.f3.params.toList.map fun t => match Tryz.prog.underlying t with | some (.int k) => some k | _ => none))) = true := by kernel_rfl
theorem fact29 : ((cc.pinned == cc.pinnedBy)) = true := by kernel_rfl
theorem fact30 : ((cc.veiled == (Tryz.f3.params.toList ++ ss.plain.varTypes Tryz.prog ++ Tryz.f3.resultTypes.toList).any (Tryz.prog.veiledRec ·))) = true := by kernel_rfl
theorem fact31 : (cc.veiledFits Tryz.prog Tryz.f3.params.toList (Tryz.f3.params.toList ++ ss.plain.varTypes Tryz.prog ++ Tryz.f3.resultTypes.toList)) = true := by kernel_rfl
set_option maxRecDepth 100000 in
theorem over : Rows.fnExactFormatDiskUptoRow.holds Tryz.pinned (Rows.OpenSpec.upto Rows.fnExactFormatDiskSpec) :=
  OpenClaim.holds_of_cond 3 Tryz.f3 rfl rfl rfl rfl rfl rfl rfl ⟨rfl, rfl, rfl, rfl, rfl⟩ rfl rfl rfl rfl rfl (by kernel_rfl) Tryz.func3 (facts_of fact0 fact1 fact2 fact3 fact4 fact5 fact6 fact7 fact8 fact9 fact10 fact11 fact12 fact13 fact14 fact15 fact16 fact17 fact18 fact19 fact20 fact21 fact22 fact23 fact24 fact25 fact26 fact27 fact28 fact29 fact30 fact31)
    (of_decide_eq_true (by kernel_rfl)) (by unfold Func.isWrapper; first | (rw [if_pos (by decide +kernel)]; kernel_rfl) | (rw [if_neg (by decide +kernel)]; exact ⟨rfl, rfl⟩))
    (fun os started H enc _ F => by rw [OpenClaim.pre_eq_preRow]; exact lifted os started H enc F)
theorem plainOnes (f : FuncId) (fn : Func) (hf : Tryz.pinned.checked.prog.funcNamed Rows.fnExactFormatDiskUptoRow.func = some f) (hfn : Tryz.pinned.checked.prog.funcs[f]? = some fn) :
    true = Tryz.pinned.checked.prog.looks [] ∧ ∀ (j : Nat) t, fn.params[j]? = some t → Tryz.pinned.checked.prog.wantsStandIn t = false := by
  obtain rfl : f = 3 := (Option.some.inj ((show Tryz.prog.funcNamed Rows.fnExactFormatDiskUptoRow.func = some 3 by kernel_rfl).symm.trans hf)).symm
  obtain rfl : fn = Tryz.f3 := (Option.some.inj (Tryz.func3.symm.trans hfn)).symm
  refine ⟨by kernel_rfl, fun j t ht => ?_⟩
  have h : (Tryz.f3.params.toList.all fun t => !Tryz.prog.wantsStandIn t) = true := by kernel_rfl
  have := List.all_eq_true.1 h t (by simpa using Array.mem_of_getElem? ht)
  exact (show Tryz.prog.wantsStandIn t = false by simpa using this)
theorem card : Rows.FnExactFormatDiskUptoCardSaid :=
  Claim7.holds_tied_plain_at .later [] _ _ _ _ over (fun _ h => by cases h) (by kernel_rfl) (fun _ h => by cases h) fnExactFormatDiskUpto_row_tie rfl ⟨rfl, rfl⟩ (by kernel_rfl) rfl plainOnes (by kernel_rfl)
end Go.Proofs.YtlnehfgjfmamjaaGreatDoor.Fd
namespace Go.Proofs.YtlnehfgjfmamjaaGreatDoor
/-- The row, under a short name, for the claim. -/
theorem fnExactFormatDisk_upto : Rows.FnExactFormatDiskUptoCardSaid := Fd.card
end Go.Proofs.YtlnehfgjfmamjaaGreatDoor
