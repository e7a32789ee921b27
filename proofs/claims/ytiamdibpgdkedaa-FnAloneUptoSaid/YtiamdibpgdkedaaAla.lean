/- The code of the functions that FnAlone reaches, as the small machine runs it. -/
import Derived.Test.YtiamdibpgdkedaaG10
import Derived.Test.YtiamdibpgdkedaaChecked
namespace Go.Proofs.Ytiamdibpgdkedaa.Al
set_option linter.unusedVariables false
set_option linter.unusedSimpArgs false
set_option maxRecDepth 100000
open Go Go.Am

abbrev I : Kd := .int .i64
abbrev KX0 : Kd := (.st [(.sl 1 (.int .u8)), I, I])
abbrev KEntry : Kd := (.st [I, I, .str])
abbrev KLog : Kd := (.st [I, I, (.sl 3 KEntry)])
abbrev KPeer : Kd := (.st [I, I, I, I])
abbrev KNode : Kd := (.st [I, I, I, I, I, (.sl 1 I), I, I, (.sl 3 KEntry), I, I, I, (.sl 1 I), (.sl 4 KPeer)])
abbrev KMessage : Kd := (.st [I, I, I, I, I, I, I, .bool, (.sl 3 KEntry), (.sl 1 I), .str, .bool])
abbrev KCore : Kd := (.st [I, I, I, I, I, (.sl 1 I), I, I, (.sl 3 KEntry), I, I, I, (.sl 1 I), (.sl 4 KPeer), (.sl 12 KMessage)])
abbrev TX0 := List Int × Int × Int × Unit
abbrev TEntry := Int × Int × List UInt8 × Unit
abbrev TLog := Int × Int × List TEntry × Unit
abbrev TPeer := Int × Int × Int × Int × Unit
abbrev TNode := Int × Int × Int × Int × Int × List Int × Int × Int × List TEntry × Int × Int × Int × List Int × List TPeer × Unit
abbrev TMessage := Int × Int × Int × Int × Int × Int × Int × Bool × List TEntry × List Int × List UInt8 × Bool × Unit
abbrev TCore := Int × Int × Int × Int × Int × List Int × Int × Int × List TEntry × Int × Int × Int × List Int × List TPeer × List TMessage × Unit
theorem ofG {o : Option AFn} (h : o.isSome = true) : o = some (o.getD ⟨0, 0, [], .skip⟩) := by
  cases o with
  | none => cases h
  | some x => rfl
noncomputable def fn35 : AFn := (fnOf Try.prog Try.f35).getD ⟨0, 0, [], .skip⟩
theorem of35 : fnOf Try.prog Try.f35 = some fn35 := ofG (by kernel_rfl)
noncomputable def fn91 : AFn := (fnOf Try.prog Try.f91).getD ⟨0, 0, [], .skip⟩
theorem of91 : fnOf Try.prog Try.f91 = some fn91 := ofG (by kernel_rfl)
noncomputable def fn92 : AFn := (fnOf Try.prog Try.f92).getD ⟨0, 0, [], .skip⟩
theorem of92 : fnOf Try.prog Try.f92 = some fn92 := ofG (by kernel_rfl)
noncomputable def fn93 : AFn := (fnOf Try.prog Try.f93).getD ⟨0, 0, [], .skip⟩
theorem of93 : fnOf Try.prog Try.f93 = some fn93 := ofG (by kernel_rfl)
noncomputable def fn36 : AFn := (fnOf Try.prog Try.f36).getD ⟨0, 0, [], .skip⟩
theorem of36 : fnOf Try.prog Try.f36 = some fn36 := ofG (by kernel_rfl)
noncomputable def fn87 : AFn := (fnOf Try.prog Try.f87).getD ⟨0, 0, [], .skip⟩
theorem of87 : fnOf Try.prog Try.f87 = some fn87 := ofG (by kernel_rfl)
noncomputable def fn89 : AFn := (fnOf Try.prog Try.f89).getD ⟨0, 0, [], .skip⟩
theorem of89 : fnOf Try.prog Try.f89 = some fn89 := ofG (by kernel_rfl)
noncomputable def fn110 : AFn := (fnOf Try.prog Try.f110).getD ⟨0, 0, [], .skip⟩
theorem of110 : fnOf Try.prog Try.f110 = some fn110 := ofG (by kernel_rfl)
noncomputable def fn103 : AFn := (fnOf Try.prog Try.f103).getD ⟨0, 0, [], .skip⟩
theorem of103 : fnOf Try.prog Try.f103 = some fn103 := ofG (by kernel_rfl)
noncomputable def fn111 : AFn := (fnOf Try.prog Try.f111).getD ⟨0, 0, [], .skip⟩
theorem of111 : fnOf Try.prog Try.f111 = some fn111 := ofG (by kernel_rfl)
noncomputable def fn99 : AFn := (fnOf Try.prog Try.f99).getD ⟨0, 0, [], .skip⟩
theorem of99 : fnOf Try.prog Try.f99 = some fn99 := ofG (by kernel_rfl)
noncomputable def fn102 : AFn := (fnOf Try.prog Try.f102).getD ⟨0, 0, [], .skip⟩
theorem of102 : fnOf Try.prog Try.f102 = some fn102 := ofG (by kernel_rfl)
noncomputable def fn177 : AFn := (fnOf Try.prog Try.f177).getD ⟨0, 0, [], .skip⟩
theorem of177 : fnOf Try.prog Try.f177 = some fn177 := ofG (by kernel_rfl)
noncomputable def fn203 : AFn := (fnOf Try.prog Try.f203).getD ⟨0, 0, [], .skip⟩
theorem of203 : fnOf Try.prog Try.f203 = some fn203 := ofG (by kernel_rfl)
noncomputable def fn171 : AFn := (fnOf Try.prog Try.f171).getD ⟨0, 0, [], .skip⟩
theorem of171 : fnOf Try.prog Try.f171 = some fn171 := ofG (by kernel_rfl)
noncomputable def fn44 : AFn := (fnOf Try.prog Try.f44).getD ⟨0, 0, [], .skip⟩
theorem of44 : fnOf Try.prog Try.f44 = some fn44 := ofG (by kernel_rfl)
noncomputable def fn43 : AFn := (fnOf Try.prog Try.f43).getD ⟨0, 0, [], .skip⟩
theorem of43 : fnOf Try.prog Try.f43 = some fn43 := ofG (by kernel_rfl)
noncomputable def fn172 : AFn := (fnOf Try.prog Try.f172).getD ⟨0, 0, [], .skip⟩
theorem of172 : fnOf Try.prog Try.f172 = some fn172 := ofG (by kernel_rfl)
noncomputable def fn100 : AFn := (fnOf Try.prog Try.f100).getD ⟨0, 0, [], .skip⟩
theorem of100 : fnOf Try.prog Try.f100 = some fn100 := ofG (by kernel_rfl)
noncomputable def fn112 : AFn := (fnOf Try.prog Try.f112).getD ⟨0, 0, [], .skip⟩
theorem of112 : fnOf Try.prog Try.f112 = some fn112 := ofG (by kernel_rfl)
noncomputable def fn45 : AFn := (fnOf Try.prog Try.f45).getD ⟨0, 0, [], .skip⟩
theorem of45 : fnOf Try.prog Try.f45 = some fn45 := ofG (by kernel_rfl)
noncomputable def fn37 : AFn := (fnOf Try.prog Try.f37).getD ⟨0, 0, [], .skip⟩
theorem of37 : fnOf Try.prog Try.f37 = some fn37 := ofG (by kernel_rfl)
noncomputable def fn168 : AFn := (fnOf Try.prog Try.f168).getD ⟨0, 0, [], .skip⟩
theorem of168 : fnOf Try.prog Try.f168 = some fn168 := ofG (by kernel_rfl)
noncomputable def fn94 : AFn := (fnOf Try.prog Try.f94).getD ⟨0, 0, [], .skip⟩
theorem of94 : fnOf Try.prog Try.f94 = some fn94 := ofG (by kernel_rfl)
noncomputable def fn101 : AFn := (fnOf Try.prog Try.f101).getD ⟨0, 0, [], .skip⟩
theorem of101 : fnOf Try.prog Try.f101 = some fn101 := ofG (by kernel_rfl)
noncomputable def fn176 : AFn := (fnOf Try.prog Try.f176).getD ⟨0, 0, [], .skip⟩
theorem of176 : fnOf Try.prog Try.f176 = some fn176 := ofG (by kernel_rfl)
noncomputable def fn109 : AFn := (fnOf Try.prog Try.f109).getD ⟨0, 0, [], .skip⟩
theorem of109 : fnOf Try.prog Try.f109 = some fn109 := ofG (by kernel_rfl)
noncomputable def fn169 : AFn := (fnOf Try.prog Try.f169).getD ⟨0, 0, [], .skip⟩
theorem of169 : fnOf Try.prog Try.f169 = some fn169 := ofG (by kernel_rfl)
noncomputable def fn95 : AFn := (fnOf Try.prog Try.f95).getD ⟨0, 0, [], .skip⟩
theorem of95 : fnOf Try.prog Try.f95 = some fn95 := ofG (by kernel_rfl)
noncomputable def fn170 : AFn := (fnOf Try.prog Try.f170).getD ⟨0, 0, [], .skip⟩
theorem of170 : fnOf Try.prog Try.f170 = some fn170 := ofG (by kernel_rfl)
noncomputable def fn96 : AFn := (fnOf Try.prog Try.f96).getD ⟨0, 0, [], .skip⟩
theorem of96 : fnOf Try.prog Try.f96 = some fn96 := ofG (by kernel_rfl)
noncomputable def fn97 : AFn := (fnOf Try.prog Try.f97).getD ⟨0, 0, [], .skip⟩
theorem of97 : fnOf Try.prog Try.f97 = some fn97 := ofG (by kernel_rfl)
noncomputable def fn173 : AFn := (fnOf Try.prog Try.f173).getD ⟨0, 0, [], .skip⟩
theorem of173 : fnOf Try.prog Try.f173 = some fn173 := ofG (by kernel_rfl)
noncomputable def fn107 : AFn := (fnOf Try.prog Try.f107).getD ⟨0, 0, [], .skip⟩
theorem of107 : fnOf Try.prog Try.f107 = some fn107 := ofG (by kernel_rfl)
noncomputable def fn98 : AFn := (fnOf Try.prog Try.f98).getD ⟨0, 0, [], .skip⟩
theorem of98 : fnOf Try.prog Try.f98 = some fn98 := ofG (by kernel_rfl)
noncomputable def fn38 : AFn := (fnOf Try.prog Try.f38).getD ⟨0, 0, [], .skip⟩
theorem of38 : fnOf Try.prog Try.f38 = some fn38 := ofG (by kernel_rfl)
noncomputable def fn174 : AFn := (fnOf Try.prog Try.f174).getD ⟨0, 0, [], .skip⟩
theorem of174 : fnOf Try.prog Try.f174 = some fn174 := ofG (by kernel_rfl)
noncomputable def fn175 : AFn := (fnOf Try.prog Try.f175).getD ⟨0, 0, [], .skip⟩
theorem of175 : fnOf Try.prog Try.f175 = some fn175 := ofG (by kernel_rfl)
noncomputable def fn104 : AFn := (fnOf Try.prog Try.f104).getD ⟨0, 0, [], .skip⟩
theorem of104 : fnOf Try.prog Try.f104 = some fn104 := ofG (by kernel_rfl)
noncomputable def fn105 : AFn := (fnOf Try.prog Try.f105).getD ⟨0, 0, [], .skip⟩
theorem of105 : fnOf Try.prog Try.f105 = some fn105 := ofG (by kernel_rfl)
noncomputable def fn106 : AFn := (fnOf Try.prog Try.f106).getD ⟨0, 0, [], .skip⟩
theorem of106 : fnOf Try.prog Try.f106 = some fn106 := ofG (by kernel_rfl)
noncomputable def fn39 : AFn := (fnOf Try.prog Try.f39).getD ⟨0, 0, [], .skip⟩
theorem of39 : fnOf Try.prog Try.f39 = some fn39 := ofG (by kernel_rfl)
noncomputable def fn83 : AFn := (fnOf Try.prog Try.f83).getD ⟨0, 0, [], .skip⟩
theorem of83 : fnOf Try.prog Try.f83 = some fn83 := ofG (by kernel_rfl)
noncomputable def fn117 : AFn := (fnOf Try.prog Try.f117).getD ⟨0, 0, [], .skip⟩
theorem of117 : fnOf Try.prog Try.f117 = some fn117 := ofG (by kernel_rfl)
noncomputable def fn85 : AFn := (fnOf Try.prog Try.f85).getD ⟨0, 0, [], .skip⟩
theorem of85 : fnOf Try.prog Try.f85 = some fn85 := ofG (by kernel_rfl)
noncomputable def fn40 : AFn := (fnOf Try.prog Try.f40).getD ⟨0, 0, [], .skip⟩
theorem of40 : fnOf Try.prog Try.f40 = some fn40 := ofG (by kernel_rfl)
noncomputable def fn108 : AFn := (fnOf Try.prog Try.f108).getD ⟨0, 0, [], .skip⟩
theorem of108 : fnOf Try.prog Try.f108 = some fn108 := ofG (by kernel_rfl)
noncomputable def fn41 : AFn := (fnOf Try.prog Try.f41).getD ⟨0, 0, [], .skip⟩
theorem of41 : fnOf Try.prog Try.f41 = some fn41 := ofG (by kernel_rfl)
noncomputable def fn42 : AFn := (fnOf Try.prog Try.f42).getD ⟨0, 0, [], .skip⟩
theorem of42 : fnOf Try.prog Try.f42 = some fn42 := ofG (by kernel_rfl)
noncomputable def fn7 : AFn := (fnOf Try.prog Try.f7).getD ⟨0, 0, [], .skip⟩
theorem of7 : fnOf Try.prog Try.f7 = some fn7 := ofG (by kernel_rfl)
noncomputable def tabL : List (Nat × AFn) := [(35, fn35), (91, fn91), (92, fn92), (93, fn93), (36, fn36), (87, fn87), (89, fn89), (110, fn110), (103, fn103), (111, fn111), (99, fn99), (102, fn102), (177, fn177), (203, fn203), (171, fn171), (44, fn44), (43, fn43), (172, fn172), (100, fn100), (112, fn112), (45, fn45), (37, fn37), (168, fn168), (94, fn94), (101, fn101), (176, fn176), (109, fn109), (169, fn169), (95, fn95), (170, fn170), (96, fn96), (97, fn97), (173, fn173), (107, fn107), (98, fn98), (38, fn38), (174, fn174), (175, fn175), (104, fn104), (105, fn105), (106, fn106), (39, fn39), (83, fn83), (117, fn117), (85, fn85), (40, fn40), (108, fn108), (41, fn41), (42, fn42), (7, fn7)]
def modeM : List (Nat × List Bool) := [(36, [false]), (110, [false]), (44, [false, false]), (43, [false]), (100, [false]), (37, [false, false]), (168, [false]), (94, [false]), (101, [false, true]), (169, [false, false]), (95, [false]), (107, [false]), (98, [false]), (38, [false, false]), (39, [false, false, false]), (108, [false, false, false]), (41, [false, false])]
def MM : List Nat := [91, 92, 93, 171]
noncomputable abbrev XX : InlX := inlX MM tabL
noncomputable abbrev TT : Tab := tabOf (inlT XX tabL) modeM
noncomputable abbrev T0 : Tab := tabM tabL modeM MM
theorem inlOK : InlOK XX T0 TT := inl_ok (by kernel_rfl) (by kernel_rfl)
def Good (p : Nat × AFn) : Prop := ∃ fn, Try.prog.funcs[p.1]? = some fn ∧ fn.name ≠ "runtime.NumGoroutine" ∧ fnOf Try.prog fn = some p.2
theorem good : ∀ p ∈ tabL, Good p := by
  unfold tabL
  simp only [List.forall_mem_cons]
  refine ⟨⟨_, Try.func35, of_decide_eq_true (by kernel_rfl), of35⟩, ⟨_, Try.func91, of_decide_eq_true (by kernel_rfl), of91⟩, ⟨_, Try.func92, of_decide_eq_true (by kernel_rfl), of92⟩, ⟨_, Try.func93, of_decide_eq_true (by kernel_rfl), of93⟩, ⟨_, Try.func36, of_decide_eq_true (by kernel_rfl), of36⟩, ⟨_, Try.func87, of_decide_eq_true (by kernel_rfl), of87⟩, ⟨_, Try.func89, of_decide_eq_true (by kernel_rfl), of89⟩, ⟨_, Try.func110, of_decide_eq_true (by kernel_rfl), of110⟩, ⟨_, Try.func103, of_decide_eq_true (by kernel_rfl), of103⟩, ⟨_, Try.func111, of_decide_eq_true (by kernel_rfl), of111⟩, ⟨_, Try.func99, of_decide_eq_true (by kernel_rfl), of99⟩, ⟨_, Try.func102, of_decide_eq_true (by kernel_rfl), of102⟩, ⟨_, Try.func177, of_decide_eq_true (by kernel_rfl), of177⟩, ⟨_, Try.func203, of_decide_eq_true (by kernel_rfl), of203⟩, ⟨_, Try.func171, of_decide_eq_true (by kernel_rfl), of171⟩, ⟨_, Try.func44, of_decide_eq_true (by kernel_rfl), of44⟩, ⟨_, Try.func43, of_decide_eq_true (by kernel_rfl), of43⟩, ⟨_, Try.func172, of_decide_eq_true (by kernel_rfl), of172⟩, ⟨_, Try.func100, of_decide_eq_true (by kernel_rfl), of100⟩, ⟨_, Try.func112, of_decide_eq_true (by kernel_rfl), of112⟩, ⟨_, Try.func45, of_decide_eq_true (by kernel_rfl), of45⟩, ⟨_, Try.func37, of_decide_eq_true (by kernel_rfl), of37⟩, ⟨_, Try.func168, of_decide_eq_true (by kernel_rfl), of168⟩, ⟨_, Try.func94, of_decide_eq_true (by kernel_rfl), of94⟩, ⟨_, Try.func101, of_decide_eq_true (by kernel_rfl), of101⟩, ⟨_, Try.func176, of_decide_eq_true (by kernel_rfl), of176⟩, ⟨_, Try.func109, of_decide_eq_true (by kernel_rfl), of109⟩, ⟨_, Try.func169, of_decide_eq_true (by kernel_rfl), of169⟩, ⟨_, Try.func95, of_decide_eq_true (by kernel_rfl), of95⟩, ⟨_, Try.func170, of_decide_eq_true (by kernel_rfl), of170⟩, ⟨_, Try.func96, of_decide_eq_true (by kernel_rfl), of96⟩, ⟨_, Try.func97, of_decide_eq_true (by kernel_rfl), of97⟩, ⟨_, Try.func173, of_decide_eq_true (by kernel_rfl), of173⟩, ⟨_, Try.func107, of_decide_eq_true (by kernel_rfl), of107⟩, ⟨_, Try.func98, of_decide_eq_true (by kernel_rfl), of98⟩, ⟨_, Try.func38, of_decide_eq_true (by kernel_rfl), of38⟩, ⟨_, Try.func174, of_decide_eq_true (by kernel_rfl), of174⟩, ⟨_, Try.func175, of_decide_eq_true (by kernel_rfl), of175⟩, ⟨_, Try.func104, of_decide_eq_true (by kernel_rfl), of104⟩, ⟨_, Try.func105, of_decide_eq_true (by kernel_rfl), of105⟩, ⟨_, Try.func106, of_decide_eq_true (by kernel_rfl), of106⟩, ⟨_, Try.func39, of_decide_eq_true (by kernel_rfl), of39⟩, ⟨_, Try.func83, of_decide_eq_true (by kernel_rfl), of83⟩, ⟨_, Try.func117, of_decide_eq_true (by kernel_rfl), of117⟩, ⟨_, Try.func85, of_decide_eq_true (by kernel_rfl), of85⟩, ⟨_, Try.func40, of_decide_eq_true (by kernel_rfl), of40⟩, ⟨_, Try.func108, of_decide_eq_true (by kernel_rfl), of108⟩, ⟨_, Try.func41, of_decide_eq_true (by kernel_rfl), of41⟩, ⟨_, Try.func42, of_decide_eq_true (by kernel_rfl), of42⟩, ⟨_, Try.func7, of_decide_eq_true (by kernel_rfl), of7⟩, fun x hx => (by cases hx)⟩
theorem tabOK : TabOK Try.prog T0 := ⟨by kernel_rfl, fun f F h => good _ (fnL_mem h), fun f g h => (by cases h)⟩
abbrev lawTys : List Ty := [.sl 1 (.int .u8)]
theorem lawTys_ok : mapMO (tyOf Try.prog 12) Try.f7.params.toList = some lawTys := by kernel_rfl
end Go.Proofs.Ytiamdibpgdkedaa.Al
