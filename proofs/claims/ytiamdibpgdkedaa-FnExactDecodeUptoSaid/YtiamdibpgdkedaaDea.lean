/- The code of the functions that FnExactDecode reaches, as the small machine runs it. -/
import Derived.Test.YtiamdibpgdkedaaG10
import Derived.Test.YtiamdibpgdkedaaChecked
namespace Go.Proofs.Ytiamdibpgdkedaa.De
set_option linter.unusedVariables false
set_option linter.unusedSimpArgs false
set_option maxRecDepth 100000
open Go Go.Am

abbrev I : Kd := .int .i64
abbrev KReader : Kd := (.st [.str, I, .bool])
abbrev KEntry : Kd := (.st [I, I, .str])
abbrev KMessage : Kd := (.st [I, I, I, I, I, I, I, .bool, (.sl 3 KEntry), (.sl 1 I), .str, .bool])
abbrev TReader := List UInt8 × Int × Bool × Unit
abbrev TEntry := Int × Int × List UInt8 × Unit
abbrev TMessage := Int × Int × Int × Int × Int × Int × Int × Bool × List TEntry × List Int × List UInt8 × Bool × Unit
theorem ofG {o : Option AFn} (h : o.isSome = true) : o = some (o.getD ⟨0, 0, [], .skip⟩) := by
  cases o with
  | none => cases h
  | some x => rfl
noncomputable def fn129 : AFn := (fnOf Try.prog Try.f129).getD ⟨0, 0, [], .skip⟩
theorem of129 : fnOf Try.prog Try.f129 = some fn129 := ofG (by kernel_rfl)
noncomputable def fn83 : AFn := (fnOf Try.prog Try.f83).getD ⟨0, 0, [], .skip⟩
theorem of83 : fnOf Try.prog Try.f83 = some fn83 := ofG (by kernel_rfl)
noncomputable def fn185 : AFn := (fnOf Try.prog Try.f185).getD ⟨0, 0, [], .skip⟩
theorem of185 : fnOf Try.prog Try.f185 = some fn185 := ofG (by kernel_rfl)
noncomputable def fn182 : AFn := (fnOf Try.prog Try.f182).getD ⟨0, 0, [], .skip⟩
theorem of182 : fnOf Try.prog Try.f182 = some fn182 := ofG (by kernel_rfl)
noncomputable def fn130 : AFn := (fnOf Try.prog Try.f130).getD ⟨0, 0, [], .skip⟩
theorem of130 : fnOf Try.prog Try.f130 = some fn130 := ofG (by kernel_rfl)
noncomputable def fn117 : AFn := (fnOf Try.prog Try.f117).getD ⟨0, 0, [], .skip⟩
theorem of117 : fnOf Try.prog Try.f117 = some fn117 := ofG (by kernel_rfl)
noncomputable def fn85 : AFn := (fnOf Try.prog Try.f85).getD ⟨0, 0, [], .skip⟩
theorem of85 : fnOf Try.prog Try.f85 = some fn85 := ofG (by kernel_rfl)
noncomputable def fn133 : AFn := (fnOf Try.prog Try.f133).getD ⟨0, 0, [], .skip⟩
theorem of133 : fnOf Try.prog Try.f133 = some fn133 := ofG (by kernel_rfl)
noncomputable def fn146 : AFn := (fnOf Try.prog Try.f146).getD ⟨0, 0, [], .skip⟩
theorem of146 : fnOf Try.prog Try.f146 = some fn146 := ofG (by kernel_rfl)
noncomputable def fn183 : AFn := (fnOf Try.prog Try.f183).getD ⟨0, 0, [], .skip⟩
theorem of183 : fnOf Try.prog Try.f183 = some fn183 := ofG (by kernel_rfl)
noncomputable def fn131 : AFn := (fnOf Try.prog Try.f131).getD ⟨0, 0, [], .skip⟩
theorem of131 : fnOf Try.prog Try.f131 = some fn131 := ofG (by kernel_rfl)
noncomputable def fn132 : AFn := (fnOf Try.prog Try.f132).getD ⟨0, 0, [], .skip⟩
theorem of132 : fnOf Try.prog Try.f132 = some fn132 := ofG (by kernel_rfl)
noncomputable def fn184 : AFn := (fnOf Try.prog Try.f184).getD ⟨0, 0, [], .skip⟩
theorem of184 : fnOf Try.prog Try.f184 = some fn184 := ofG (by kernel_rfl)
noncomputable def fn186 : AFn := (fnOf Try.prog Try.f186).getD ⟨0, 0, [], .skip⟩
theorem of186 : fnOf Try.prog Try.f186 = some fn186 := ofG (by kernel_rfl)
noncomputable def fn187 : AFn := (fnOf Try.prog Try.f187).getD ⟨0, 0, [], .skip⟩
theorem of187 : fnOf Try.prog Try.f187 = some fn187 := ofG (by kernel_rfl)
noncomputable def fn40 : AFn := (fnOf Try.prog Try.f40).getD ⟨0, 0, [], .skip⟩
theorem of40 : fnOf Try.prog Try.f40 = some fn40 := ofG (by kernel_rfl)
noncomputable def fn134 : AFn := (fnOf Try.prog Try.f134).getD ⟨0, 0, [], .skip⟩
theorem of134 : fnOf Try.prog Try.f134 = some fn134 := ofG (by kernel_rfl)
noncomputable def fn56 : AFn := (fnOf Try.prog Try.f56).getD ⟨0, 0, [], .skip⟩
theorem of56 : fnOf Try.prog Try.f56 = some fn56 := ofG (by kernel_rfl)
noncomputable def fn87 : AFn := (fnOf Try.prog Try.f87).getD ⟨0, 0, [], .skip⟩
theorem of87 : fnOf Try.prog Try.f87 = some fn87 := ofG (by kernel_rfl)
noncomputable def fn192 : AFn := (fnOf Try.prog Try.f192).getD ⟨0, 0, [], .skip⟩
theorem of192 : fnOf Try.prog Try.f192 = some fn192 := ofG (by kernel_rfl)
noncomputable def fn188 : AFn := (fnOf Try.prog Try.f188).getD ⟨0, 0, [], .skip⟩
theorem of188 : fnOf Try.prog Try.f188 = some fn188 := ofG (by kernel_rfl)
noncomputable def fn136 : AFn := (fnOf Try.prog Try.f136).getD ⟨0, 0, [], .skip⟩
theorem of136 : fnOf Try.prog Try.f136 = some fn136 := ofG (by kernel_rfl)
noncomputable def fn135 : AFn := (fnOf Try.prog Try.f135).getD ⟨0, 0, [], .skip⟩
theorem of135 : fnOf Try.prog Try.f135 = some fn135 := ofG (by kernel_rfl)
noncomputable def fn137 : AFn := (fnOf Try.prog Try.f137).getD ⟨0, 0, [], .skip⟩
theorem of137 : fnOf Try.prog Try.f137 = some fn137 := ofG (by kernel_rfl)
noncomputable def fn189 : AFn := (fnOf Try.prog Try.f189).getD ⟨0, 0, [], .skip⟩
theorem of189 : fnOf Try.prog Try.f189 = some fn189 := ofG (by kernel_rfl)
noncomputable def fn140 : AFn := (fnOf Try.prog Try.f140).getD ⟨0, 0, [], .skip⟩
theorem of140 : fnOf Try.prog Try.f140 = some fn140 := ofG (by kernel_rfl)
noncomputable def fn89 : AFn := (fnOf Try.prog Try.f89).getD ⟨0, 0, [], .skip⟩
theorem of89 : fnOf Try.prog Try.f89 = some fn89 := ofG (by kernel_rfl)
noncomputable def fn110 : AFn := (fnOf Try.prog Try.f110).getD ⟨0, 0, [], .skip⟩
theorem of110 : fnOf Try.prog Try.f110 = some fn110 := ofG (by kernel_rfl)
noncomputable def fn103 : AFn := (fnOf Try.prog Try.f103).getD ⟨0, 0, [], .skip⟩
theorem of103 : fnOf Try.prog Try.f103 = some fn103 := ofG (by kernel_rfl)
noncomputable def fn190 : AFn := (fnOf Try.prog Try.f190).getD ⟨0, 0, [], .skip⟩
theorem of190 : fnOf Try.prog Try.f190 = some fn190 := ofG (by kernel_rfl)
noncomputable def fn191 : AFn := (fnOf Try.prog Try.f191).getD ⟨0, 0, [], .skip⟩
theorem of191 : fnOf Try.prog Try.f191 = some fn191 := ofG (by kernel_rfl)
noncomputable def fn193 : AFn := (fnOf Try.prog Try.f193).getD ⟨0, 0, [], .skip⟩
theorem of193 : fnOf Try.prog Try.f193 = some fn193 := ofG (by kernel_rfl)
noncomputable def fn194 : AFn := (fnOf Try.prog Try.f194).getD ⟨0, 0, [], .skip⟩
theorem of194 : fnOf Try.prog Try.f194 = some fn194 := ofG (by kernel_rfl)
noncomputable def fn195 : AFn := (fnOf Try.prog Try.f195).getD ⟨0, 0, [], .skip⟩
theorem of195 : fnOf Try.prog Try.f195 = some fn195 := ofG (by kernel_rfl)
noncomputable def fn141 : AFn := (fnOf Try.prog Try.f141).getD ⟨0, 0, [], .skip⟩
theorem of141 : fnOf Try.prog Try.f141 = some fn141 := ofG (by kernel_rfl)
noncomputable def fn139 : AFn := (fnOf Try.prog Try.f139).getD ⟨0, 0, [], .skip⟩
theorem of139 : fnOf Try.prog Try.f139 = some fn139 := ofG (by kernel_rfl)
noncomputable def fn138 : AFn := (fnOf Try.prog Try.f138).getD ⟨0, 0, [], .skip⟩
theorem of138 : fnOf Try.prog Try.f138 = some fn138 := ofG (by kernel_rfl)
noncomputable def fn57 : AFn := (fnOf Try.prog Try.f57).getD ⟨0, 0, [], .skip⟩
theorem of57 : fnOf Try.prog Try.f57 = some fn57 := ofG (by kernel_rfl)
noncomputable def fn76 : AFn := (fnOf Try.prog Try.f76).getD ⟨0, 0, [], .skip⟩
theorem of76 : fnOf Try.prog Try.f76 = some fn76 := ofG (by kernel_rfl)
noncomputable def fn23 : AFn := (fnOf Try.prog Try.f23).getD ⟨0, 0, [], .skip⟩
theorem of23 : fnOf Try.prog Try.f23 = some fn23 := ofG (by kernel_rfl)
noncomputable def fn52 : AFn := (fnOf Try.prog Try.f52).getD ⟨0, 0, [], .skip⟩
theorem of52 : fnOf Try.prog Try.f52 = some fn52 := ofG (by kernel_rfl)
noncomputable def fn58 : AFn := (fnOf Try.prog Try.f58).getD ⟨0, 0, [], .skip⟩
theorem of58 : fnOf Try.prog Try.f58 = some fn58 := ofG (by kernel_rfl)
noncomputable def fn78 : AFn := (fnOf Try.prog Try.f78).getD ⟨0, 0, [], .skip⟩
theorem of78 : fnOf Try.prog Try.f78 = some fn78 := ofG (by kernel_rfl)
noncomputable def fn26 : AFn := (fnOf Try.prog Try.f26).getD ⟨0, 0, [], .skip⟩
theorem of26 : fnOf Try.prog Try.f26 = some fn26 := ofG (by kernel_rfl)
noncomputable def fn53 : AFn := (fnOf Try.prog Try.f53).getD ⟨0, 0, [], .skip⟩
theorem of53 : fnOf Try.prog Try.f53 = some fn53 := ofG (by kernel_rfl)
noncomputable def fn59 : AFn := (fnOf Try.prog Try.f59).getD ⟨0, 0, [], .skip⟩
theorem of59 : fnOf Try.prog Try.f59 = some fn59 := ofG (by kernel_rfl)
noncomputable def fn27 : AFn := (fnOf Try.prog Try.f27).getD ⟨0, 0, [], .skip⟩
theorem of27 : fnOf Try.prog Try.f27 = some fn27 := ofG (by kernel_rfl)
noncomputable def fn126 : AFn := (fnOf Try.prog Try.f126).getD ⟨0, 0, [], .skip⟩
theorem of126 : fnOf Try.prog Try.f126 = some fn126 := ofG (by kernel_rfl)
noncomputable def fn60 : AFn := (fnOf Try.prog Try.f60).getD ⟨0, 0, [], .skip⟩
theorem of60 : fnOf Try.prog Try.f60 = some fn60 := ofG (by kernel_rfl)
noncomputable def fn10 : AFn := (fnOf Try.prog Try.f10).getD ⟨0, 0, [], .skip⟩
theorem of10 : fnOf Try.prog Try.f10 = some fn10 := ofG (by kernel_rfl)
noncomputable def tabL : List (Nat × AFn) := [(129, fn129), (83, fn83), (185, fn185), (182, fn182), (130, fn130), (117, fn117), (85, fn85), (133, fn133), (146, fn146), (183, fn183), (131, fn131), (132, fn132), (184, fn184), (186, fn186), (187, fn187), (40, fn40), (134, fn134), (56, fn56), (87, fn87), (192, fn192), (188, fn188), (136, fn136), (135, fn135), (137, fn137), (189, fn189), (140, fn140), (89, fn89), (110, fn110), (103, fn103), (190, fn190), (191, fn191), (193, fn193), (194, fn194), (195, fn195), (141, fn141), (139, fn139), (138, fn138), (57, fn57), (76, fn76), (23, fn23), (52, fn52), (58, fn58), (78, fn78), (26, fn26), (53, fn53), (59, fn59), (27, fn27), (126, fn126), (60, fn60), (10, fn10)]
def modeM : List (Nat × List Bool) := [(129, [false, false]), (130, [false]), (133, [false]), (132, [false]), (56, [false]), (136, [false]), (135, [false]), (140, [false]), (110, [false]), (57, [false]), (26, [true, false]), (53, [true, false])]
def MM : List Nat := [137, 138, 59]
noncomputable abbrev XX : InlX := inlX MM tabL
noncomputable abbrev TT : Tab := tabOf (inlT XX tabL) modeM
noncomputable abbrev T0 : Tab := tabM tabL modeM MM
theorem inlOK : InlOK XX T0 TT := inl_ok (by kernel_rfl) (by kernel_rfl)
def Good (p : Nat × AFn) : Prop := ∃ fn, Try.prog.funcs[p.1]? = some fn ∧ fn.name ≠ "runtime.NumGoroutine" ∧ fnOf Try.prog fn = some p.2
theorem good : ∀ p ∈ tabL, Good p := by
  unfold tabL
  simp only [List.forall_mem_cons]
  refine ⟨⟨_, Try.func129, of_decide_eq_true (by kernel_rfl), of129⟩, ⟨_, Try.func83, of_decide_eq_true (by kernel_rfl), of83⟩, ⟨_, Try.func185, of_decide_eq_true (by kernel_rfl), of185⟩, ⟨_, Try.func182, of_decide_eq_true (by kernel_rfl), of182⟩, ⟨_, Try.func130, of_decide_eq_true (by kernel_rfl), of130⟩, ⟨_, Try.func117, of_decide_eq_true (by kernel_rfl), of117⟩, ⟨_, Try.func85, of_decide_eq_true (by kernel_rfl), of85⟩, ⟨_, Try.func133, of_decide_eq_true (by kernel_rfl), of133⟩, ⟨_, Try.func146, of_decide_eq_true (by kernel_rfl), of146⟩, ⟨_, Try.func183, of_decide_eq_true (by kernel_rfl), of183⟩, ⟨_, Try.func131, of_decide_eq_true (by kernel_rfl), of131⟩, ⟨_, Try.func132, of_decide_eq_true (by kernel_rfl), of132⟩, ⟨_, Try.func184, of_decide_eq_true (by kernel_rfl), of184⟩, ⟨_, Try.func186, of_decide_eq_true (by kernel_rfl), of186⟩, ⟨_, Try.func187, of_decide_eq_true (by kernel_rfl), of187⟩, ⟨_, Try.func40, of_decide_eq_true (by kernel_rfl), of40⟩, ⟨_, Try.func134, of_decide_eq_true (by kernel_rfl), of134⟩, ⟨_, Try.func56, of_decide_eq_true (by kernel_rfl), of56⟩, ⟨_, Try.func87, of_decide_eq_true (by kernel_rfl), of87⟩, ⟨_, Try.func192, of_decide_eq_true (by kernel_rfl), of192⟩, ⟨_, Try.func188, of_decide_eq_true (by kernel_rfl), of188⟩, ⟨_, Try.func136, of_decide_eq_true (by kernel_rfl), of136⟩, ⟨_, Try.func135, of_decide_eq_true (by kernel_rfl), of135⟩, ⟨_, Try.func137, of_decide_eq_true (by kernel_rfl), of137⟩, ⟨_, Try.func189, of_decide_eq_true (by kernel_rfl), of189⟩, ⟨_, Try.func140, of_decide_eq_true (by kernel_rfl), of140⟩, ⟨_, Try.func89, of_decide_eq_true (by kernel_rfl), of89⟩, ⟨_, Try.func110, of_decide_eq_true (by kernel_rfl), of110⟩, ⟨_, Try.func103, of_decide_eq_true (by kernel_rfl), of103⟩, ⟨_, Try.func190, of_decide_eq_true (by kernel_rfl), of190⟩, ⟨_, Try.func191, of_decide_eq_true (by kernel_rfl), of191⟩, ⟨_, Try.func193, of_decide_eq_true (by kernel_rfl), of193⟩, ⟨_, Try.func194, of_decide_eq_true (by kernel_rfl), of194⟩, ⟨_, Try.func195, of_decide_eq_true (by kernel_rfl), of195⟩, ⟨_, Try.func141, of_decide_eq_true (by kernel_rfl), of141⟩, ⟨_, Try.func139, of_decide_eq_true (by kernel_rfl), of139⟩, ⟨_, Try.func138, of_decide_eq_true (by kernel_rfl), of138⟩, ⟨_, Try.func57, of_decide_eq_true (by kernel_rfl), of57⟩, ⟨_, Try.func76, of_decide_eq_true (by kernel_rfl), of76⟩, ⟨_, Try.func23, of_decide_eq_true (by kernel_rfl), of23⟩, ⟨_, Try.func52, of_decide_eq_true (by kernel_rfl), of52⟩, ⟨_, Try.func58, of_decide_eq_true (by kernel_rfl), of58⟩, ⟨_, Try.func78, of_decide_eq_true (by kernel_rfl), of78⟩, ⟨_, Try.func26, of_decide_eq_true (by kernel_rfl), of26⟩, ⟨_, Try.func53, of_decide_eq_true (by kernel_rfl), of53⟩, ⟨_, Try.func59, of_decide_eq_true (by kernel_rfl), of59⟩, ⟨_, Try.func27, of_decide_eq_true (by kernel_rfl), of27⟩, ⟨_, Try.func126, of_decide_eq_true (by kernel_rfl), of126⟩, ⟨_, Try.func60, of_decide_eq_true (by kernel_rfl), of60⟩, ⟨_, Try.func10, of_decide_eq_true (by kernel_rfl), of10⟩, fun x hx => (by cases hx)⟩
theorem tabOK : TabOK Try.prog T0 := ⟨by kernel_rfl, fun f F h => good _ (fnL_mem h), fun f g h => (by cases h)⟩
abbrev lawTys : List Ty := [.str]
theorem lawTys_ok : mapMO (tyOf Try.prog 12) Try.f10.params.toList = some lawTys := by kernel_rfl
end Go.Proofs.Ytiamdibpgdkedaa.De
