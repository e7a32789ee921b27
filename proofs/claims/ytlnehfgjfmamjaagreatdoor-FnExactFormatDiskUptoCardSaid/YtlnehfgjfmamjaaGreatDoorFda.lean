/- The code of the functions that FnExactFormatDisk reaches, as the small machine runs it. -/
import Derived.Test.YtlnehfgjfmamjaaGreatDoorG10
import Derived.Test.YtlnehfgjfmamjaaGreatDoorChecked
namespace Go.Proofs.YtlnehfgjfmamjaaGreatDoor.Fd
set_option linter.unusedVariables false
set_option linter.unusedSimpArgs false
set_option maxRecDepth 100000
open Go Go.Am

abbrev I : Kd := .int .i64
abbrev KEntry : Kd := (.st [I, I, .str])
abbrev KLog : Kd := (.st [I, I, (.sl 3 KEntry)])
abbrev KJournal : Kd := (.st [I, I, I, I, I, (.sl 3 KEntry)])
abbrev KSnap : Kd := (.st [I, I, (.sl 1 I), .str])
abbrev KEvent : Kd := (.st [I, I, I, I, I, (.sl 1 I), .str, (.sl 1 I), I])
abbrev KItem : Kd := (.st [I, I])
abbrev KRoom : Kd := (.st [(.sl 9 KEvent), (.sl 1 (.sl 2 KItem)), (.sl 1 .bool)])
abbrev KOut : Kd := (.st [I, I, (.sl 1 I)])
abbrev KHall : Kd := (.st [(.sl 3 KEntry), (.sl 9 KEvent), (.sl 1 (.sl 2 KItem)), (.sl 1 .bool), (.sl 3 KOut)])
abbrev KFile : Kd := (.st [.str, .str, I])
abbrev KDisk : Kd := (.st [(.sl 3 KFile)])
abbrev TEntry := Int × Int × List UInt8 × Unit
abbrev TLog := Int × Int × List TEntry × Unit
abbrev TJournal := Int × Int × Int × Int × Int × List TEntry × Unit
abbrev TSnap := Int × Int × List Int × List UInt8 × Unit
abbrev TEvent := Int × Int × Int × Int × Int × List Int × List UInt8 × List Int × Int × Unit
abbrev TItem := Int × Int × Unit
abbrev TRoom := List TEvent × List (List TItem) × List Bool × Unit
abbrev TOut := Int × Int × List Int × Unit
abbrev THall := List TEntry × List TEvent × List (List TItem) × List Bool × List TOut × Unit
abbrev TFile := List UInt8 × List UInt8 × Int × Unit
abbrev TDisk := List TFile × Unit
theorem ofG {o : Option AFn} (h : o.isSome = true) : o = some (o.getD ⟨0, 0, [], .skip⟩) := by
  cases o with
  | none => cases h
  | some x => rfl
noncomputable def fn37 : AFn := (fnOf Tryz.prog Tryz.f37).getD ⟨0, 0, [], .skip⟩
theorem of37 : fnOf Tryz.prog Tryz.f37 = some fn37 := ofG (by kernel_rfl)
noncomputable def fn116 : AFn := (fnOf Tryz.prog Tryz.f116).getD ⟨0, 0, [], .skip⟩
theorem of116 : fnOf Tryz.prog Tryz.f116 = some fn116 := ofG (by kernel_rfl)
noncomputable def fn56 : AFn := (fnOf Tryz.prog Tryz.f56).getD ⟨0, 0, [], .skip⟩
theorem of56 : fnOf Tryz.prog Tryz.f56 = some fn56 := ofG (by kernel_rfl)
noncomputable def fn117 : AFn := (fnOf Tryz.prog Tryz.f117).getD ⟨0, 0, [], .skip⟩
theorem of117 : fnOf Tryz.prog Tryz.f117 = some fn117 := ofG (by kernel_rfl)
noncomputable def fn165 : AFn := (fnOf Tryz.prog Tryz.f165).getD ⟨0, 0, [], .skip⟩
theorem of165 : fnOf Tryz.prog Tryz.f165 = some fn165 := ofG (by kernel_rfl)
noncomputable def fn118 : AFn := (fnOf Tryz.prog Tryz.f118).getD ⟨0, 0, [], .skip⟩
theorem of118 : fnOf Tryz.prog Tryz.f118 = some fn118 := ofG (by kernel_rfl)
noncomputable def fn58 : AFn := (fnOf Tryz.prog Tryz.f58).getD ⟨0, 0, [], .skip⟩
theorem of58 : fnOf Tryz.prog Tryz.f58 = some fn58 := ofG (by kernel_rfl)
noncomputable def fn57 : AFn := (fnOf Tryz.prog Tryz.f57).getD ⟨0, 0, [], .skip⟩
theorem of57 : fnOf Tryz.prog Tryz.f57 = some fn57 := ofG (by kernel_rfl)
noncomputable def fn60 : AFn := (fnOf Tryz.prog Tryz.f60).getD ⟨0, 0, [], .skip⟩
theorem of60 : fnOf Tryz.prog Tryz.f60 = some fn60 := ofG (by kernel_rfl)
noncomputable def fn59 : AFn := (fnOf Tryz.prog Tryz.f59).getD ⟨0, 0, [], .skip⟩
theorem of59 : fnOf Tryz.prog Tryz.f59 = some fn59 := ofG (by kernel_rfl)
noncomputable def fn20 : AFn := (fnOf Tryz.prog Tryz.f20).getD ⟨0, 0, [], .skip⟩
theorem of20 : fnOf Tryz.prog Tryz.f20 = some fn20 := ofG (by kernel_rfl)
noncomputable def fn38 : AFn := (fnOf Tryz.prog Tryz.f38).getD ⟨0, 0, [], .skip⟩
theorem of38 : fnOf Tryz.prog Tryz.f38 = some fn38 := ofG (by kernel_rfl)
noncomputable def fn15 : AFn := (fnOf Tryz.prog Tryz.f15).getD ⟨0, 0, [], .skip⟩
theorem of15 : fnOf Tryz.prog Tryz.f15 = some fn15 := ofG (by kernel_rfl)
noncomputable def fn61 : AFn := (fnOf Tryz.prog Tryz.f61).getD ⟨0, 0, [], .skip⟩
theorem of61 : fnOf Tryz.prog Tryz.f61 = some fn61 := ofG (by kernel_rfl)
noncomputable def fn62 : AFn := (fnOf Tryz.prog Tryz.f62).getD ⟨0, 0, [], .skip⟩
theorem of62 : fnOf Tryz.prog Tryz.f62 = some fn62 := ofG (by kernel_rfl)
noncomputable def fn63 : AFn := (fnOf Tryz.prog Tryz.f63).getD ⟨0, 0, [], .skip⟩
theorem of63 : fnOf Tryz.prog Tryz.f63 = some fn63 := ofG (by kernel_rfl)
noncomputable def fn21 : AFn := (fnOf Tryz.prog Tryz.f21).getD ⟨0, 0, [], .skip⟩
theorem of21 : fnOf Tryz.prog Tryz.f21 = some fn21 := ofG (by kernel_rfl)
noncomputable def fn201 : AFn := (fnOf Tryz.prog Tryz.f201).getD ⟨0, 0, [], .skip⟩
theorem of201 : fnOf Tryz.prog Tryz.f201 = some fn201 := ofG (by kernel_rfl)
noncomputable def fn166 : AFn := (fnOf Tryz.prog Tryz.f166).getD ⟨0, 0, [], .skip⟩
theorem of166 : fnOf Tryz.prog Tryz.f166 = some fn166 := ofG (by kernel_rfl)
noncomputable def fn167 : AFn := (fnOf Tryz.prog Tryz.f167).getD ⟨0, 0, [], .skip⟩
theorem of167 : fnOf Tryz.prog Tryz.f167 = some fn167 := ofG (by kernel_rfl)
noncomputable def fn168 : AFn := (fnOf Tryz.prog Tryz.f168).getD ⟨0, 0, [], .skip⟩
theorem of168 : fnOf Tryz.prog Tryz.f168 = some fn168 := ofG (by kernel_rfl)
noncomputable def fn120 : AFn := (fnOf Tryz.prog Tryz.f120).getD ⟨0, 0, [], .skip⟩
theorem of120 : fnOf Tryz.prog Tryz.f120 = some fn120 := ofG (by kernel_rfl)
noncomputable def fn64 : AFn := (fnOf Tryz.prog Tryz.f64).getD ⟨0, 0, [], .skip⟩
theorem of64 : fnOf Tryz.prog Tryz.f64 = some fn64 := ofG (by kernel_rfl)
noncomputable def fn65 : AFn := (fnOf Tryz.prog Tryz.f65).getD ⟨0, 0, [], .skip⟩
theorem of65 : fnOf Tryz.prog Tryz.f65 = some fn65 := ofG (by kernel_rfl)
noncomputable def fn22 : AFn := (fnOf Tryz.prog Tryz.f22).getD ⟨0, 0, [], .skip⟩
theorem of22 : fnOf Tryz.prog Tryz.f22 = some fn22 := ofG (by kernel_rfl)
noncomputable def fn66 : AFn := (fnOf Tryz.prog Tryz.f66).getD ⟨0, 0, [], .skip⟩
theorem of66 : fnOf Tryz.prog Tryz.f66 = some fn66 := ofG (by kernel_rfl)
noncomputable def fn24 : AFn := (fnOf Tryz.prog Tryz.f24).getD ⟨0, 0, [], .skip⟩
theorem of24 : fnOf Tryz.prog Tryz.f24 = some fn24 := ofG (by kernel_rfl)
noncomputable def fn23 : AFn := (fnOf Tryz.prog Tryz.f23).getD ⟨0, 0, [], .skip⟩
theorem of23 : fnOf Tryz.prog Tryz.f23 = some fn23 := ofG (by kernel_rfl)
noncomputable def fn5 : AFn := (fnOf Tryz.prog Tryz.f5).getD ⟨0, 0, [], .skip⟩
theorem of5 : fnOf Tryz.prog Tryz.f5 = some fn5 := ofG (by kernel_rfl)
noncomputable def fn6 : AFn := (fnOf Tryz.prog Tryz.f6).getD ⟨0, 0, [], .skip⟩
theorem of6 : fnOf Tryz.prog Tryz.f6 = some fn6 := ofG (by kernel_rfl)
noncomputable def fn52 : AFn := (fnOf Tryz.prog Tryz.f52).getD ⟨0, 0, [], .skip⟩
theorem of52 : fnOf Tryz.prog Tryz.f52 = some fn52 := ofG (by kernel_rfl)
noncomputable def fn25 : AFn := (fnOf Tryz.prog Tryz.f25).getD ⟨0, 0, [], .skip⟩
theorem of25 : fnOf Tryz.prog Tryz.f25 = some fn25 := ofG (by kernel_rfl)
noncomputable def fn92 : AFn := (fnOf Tryz.prog Tryz.f92).getD ⟨0, 0, [], .skip⟩
theorem of92 : fnOf Tryz.prog Tryz.f92 = some fn92 := ofG (by kernel_rfl)
noncomputable def fn163 : AFn := (fnOf Tryz.prog Tryz.f163).getD ⟨0, 0, [], .skip⟩
theorem of163 : fnOf Tryz.prog Tryz.f163 = some fn163 := ofG (by kernel_rfl)
noncomputable def fn162 : AFn := (fnOf Tryz.prog Tryz.f162).getD ⟨0, 0, [], .skip⟩
theorem of162 : fnOf Tryz.prog Tryz.f162 = some fn162 := ofG (by kernel_rfl)
noncomputable def fn160 : AFn := (fnOf Tryz.prog Tryz.f160).getD ⟨0, 0, [], .skip⟩
theorem of160 : fnOf Tryz.prog Tryz.f160 = some fn160 := ofG (by kernel_rfl)
noncomputable def fn159 : AFn := (fnOf Tryz.prog Tryz.f159).getD ⟨0, 0, [], .skip⟩
theorem of159 : fnOf Tryz.prog Tryz.f159 = some fn159 := ofG (by kernel_rfl)
noncomputable def fn158 : AFn := (fnOf Tryz.prog Tryz.f158).getD ⟨0, 0, [], .skip⟩
theorem of158 : fnOf Tryz.prog Tryz.f158 = some fn158 := ofG (by kernel_rfl)
noncomputable def fn113 : AFn := (fnOf Tryz.prog Tryz.f113).getD ⟨0, 0, [], .skip⟩
theorem of113 : fnOf Tryz.prog Tryz.f113 = some fn113 := ofG (by kernel_rfl)
noncomputable def fn123 : AFn := (fnOf Tryz.prog Tryz.f123).getD ⟨0, 0, [], .skip⟩
theorem of123 : fnOf Tryz.prog Tryz.f123 = some fn123 := ofG (by kernel_rfl)
noncomputable def fn93 : AFn := (fnOf Tryz.prog Tryz.f93).getD ⟨0, 0, [], .skip⟩
theorem of93 : fnOf Tryz.prog Tryz.f93 = some fn93 := ofG (by kernel_rfl)
noncomputable def fn51 : AFn := (fnOf Tryz.prog Tryz.f51).getD ⟨0, 0, [], .skip⟩
theorem of51 : fnOf Tryz.prog Tryz.f51 = some fn51 := ofG (by kernel_rfl)
noncomputable def fn67 : AFn := (fnOf Tryz.prog Tryz.f67).getD ⟨0, 0, [], .skip⟩
theorem of67 : fnOf Tryz.prog Tryz.f67 = some fn67 := ofG (by kernel_rfl)
noncomputable def fn68 : AFn := (fnOf Tryz.prog Tryz.f68).getD ⟨0, 0, [], .skip⟩
theorem of68 : fnOf Tryz.prog Tryz.f68 = some fn68 := ofG (by kernel_rfl)
noncomputable def fn69 : AFn := (fnOf Tryz.prog Tryz.f69).getD ⟨0, 0, [], .skip⟩
theorem of69 : fnOf Tryz.prog Tryz.f69 = some fn69 := ofG (by kernel_rfl)
noncomputable def fn70 : AFn := (fnOf Tryz.prog Tryz.f70).getD ⟨0, 0, [], .skip⟩
theorem of70 : fnOf Tryz.prog Tryz.f70 = some fn70 := ofG (by kernel_rfl)
noncomputable def fn26 : AFn := (fnOf Tryz.prog Tryz.f26).getD ⟨0, 0, [], .skip⟩
theorem of26 : fnOf Tryz.prog Tryz.f26 = some fn26 := ofG (by kernel_rfl)
noncomputable def fn27 : AFn := (fnOf Tryz.prog Tryz.f27).getD ⟨0, 0, [], .skip⟩
theorem of27 : fnOf Tryz.prog Tryz.f27 = some fn27 := ofG (by kernel_rfl)
noncomputable def fn102 : AFn := (fnOf Tryz.prog Tryz.f102).getD ⟨0, 0, [], .skip⟩
theorem of102 : fnOf Tryz.prog Tryz.f102 = some fn102 := ofG (by kernel_rfl)
noncomputable def fn72 : AFn := (fnOf Tryz.prog Tryz.f72).getD ⟨0, 0, [], .skip⟩
theorem of72 : fnOf Tryz.prog Tryz.f72 = some fn72 := ofG (by kernel_rfl)
noncomputable def fn174 : AFn := (fnOf Tryz.prog Tryz.f174).getD ⟨0, 0, [], .skip⟩
theorem of174 : fnOf Tryz.prog Tryz.f174 = some fn174 := ofG (by kernel_rfl)
noncomputable def fn128 : AFn := (fnOf Tryz.prog Tryz.f128).getD ⟨0, 0, [], .skip⟩
theorem of128 : fnOf Tryz.prog Tryz.f128 = some fn128 := ofG (by kernel_rfl)
noncomputable def fn126 : AFn := (fnOf Tryz.prog Tryz.f126).getD ⟨0, 0, [], .skip⟩
theorem of126 : fnOf Tryz.prog Tryz.f126 = some fn126 := ofG (by kernel_rfl)
noncomputable def fn74 : AFn := (fnOf Tryz.prog Tryz.f74).getD ⟨0, 0, [], .skip⟩
theorem of74 : fnOf Tryz.prog Tryz.f74 = some fn74 := ofG (by kernel_rfl)
noncomputable def fn73 : AFn := (fnOf Tryz.prog Tryz.f73).getD ⟨0, 0, [], .skip⟩
theorem of73 : fnOf Tryz.prog Tryz.f73 = some fn73 := ofG (by kernel_rfl)
noncomputable def fn28 : AFn := (fnOf Tryz.prog Tryz.f28).getD ⟨0, 0, [], .skip⟩
theorem of28 : fnOf Tryz.prog Tryz.f28 = some fn28 := ofG (by kernel_rfl)
noncomputable def fn75 : AFn := (fnOf Tryz.prog Tryz.f75).getD ⟨0, 0, [], .skip⟩
theorem of75 : fnOf Tryz.prog Tryz.f75 = some fn75 := ofG (by kernel_rfl)
noncomputable def fn76 : AFn := (fnOf Tryz.prog Tryz.f76).getD ⟨0, 0, [], .skip⟩
theorem of76 : fnOf Tryz.prog Tryz.f76 = some fn76 := ofG (by kernel_rfl)
noncomputable def fn29 : AFn := (fnOf Tryz.prog Tryz.f29).getD ⟨0, 0, [], .skip⟩
theorem of29 : fnOf Tryz.prog Tryz.f29 = some fn29 := ofG (by kernel_rfl)
noncomputable def fn234 : AFn := (fnOf Tryz.prog Tryz.f234).getD ⟨0, 0, [], .skip⟩
theorem of234 : fnOf Tryz.prog Tryz.f234 = some fn234 := ofG (by kernel_rfl)
noncomputable def fn204 : AFn := (fnOf Tryz.prog Tryz.f204).getD ⟨0, 0, [], .skip⟩
theorem of204 : fnOf Tryz.prog Tryz.f204 = some fn204 := ofG (by kernel_rfl)
noncomputable def fn175 : AFn := (fnOf Tryz.prog Tryz.f175).getD ⟨0, 0, [], .skip⟩
theorem of175 : fnOf Tryz.prog Tryz.f175 = some fn175 := ofG (by kernel_rfl)
noncomputable def fn129 : AFn := (fnOf Tryz.prog Tryz.f129).getD ⟨0, 0, [], .skip⟩
theorem of129 : fnOf Tryz.prog Tryz.f129 = some fn129 := ofG (by kernel_rfl)
noncomputable def fn77 : AFn := (fnOf Tryz.prog Tryz.f77).getD ⟨0, 0, [], .skip⟩
theorem of77 : fnOf Tryz.prog Tryz.f77 = some fn77 := ofG (by kernel_rfl)
noncomputable def fn31 : AFn := (fnOf Tryz.prog Tryz.f31).getD ⟨0, 0, [], .skip⟩
theorem of31 : fnOf Tryz.prog Tryz.f31 = some fn31 := ofG (by kernel_rfl)
noncomputable def fn30 : AFn := (fnOf Tryz.prog Tryz.f30).getD ⟨0, 0, [], .skip⟩
theorem of30 : fnOf Tryz.prog Tryz.f30 = some fn30 := ofG (by kernel_rfl)
noncomputable def fn7 : AFn := (fnOf Tryz.prog Tryz.f7).getD ⟨0, 0, [], .skip⟩
theorem of7 : fnOf Tryz.prog Tryz.f7 = some fn7 := ofG (by kernel_rfl)
noncomputable def fn78 : AFn := (fnOf Tryz.prog Tryz.f78).getD ⟨0, 0, [], .skip⟩
theorem of78 : fnOf Tryz.prog Tryz.f78 = some fn78 := ofG (by kernel_rfl)
noncomputable def fn32 : AFn := (fnOf Tryz.prog Tryz.f32).getD ⟨0, 0, [], .skip⟩
theorem of32 : fnOf Tryz.prog Tryz.f32 = some fn32 := ofG (by kernel_rfl)
noncomputable def fn8 : AFn := (fnOf Tryz.prog Tryz.f8).getD ⟨0, 0, [], .skip⟩
theorem of8 : fnOf Tryz.prog Tryz.f8 = some fn8 := ofG (by kernel_rfl)
noncomputable def fn9 : AFn := (fnOf Tryz.prog Tryz.f9).getD ⟨0, 0, [], .skip⟩
theorem of9 : fnOf Tryz.prog Tryz.f9 = some fn9 := ofG (by kernel_rfl)
noncomputable def fn10 : AFn := (fnOf Tryz.prog Tryz.f10).getD ⟨0, 0, [], .skip⟩
theorem of10 : fnOf Tryz.prog Tryz.f10 = some fn10 := ofG (by kernel_rfl)
noncomputable def fn79 : AFn := (fnOf Tryz.prog Tryz.f79).getD ⟨0, 0, [], .skip⟩
theorem of79 : fnOf Tryz.prog Tryz.f79 = some fn79 := ofG (by kernel_rfl)
noncomputable def fn33 : AFn := (fnOf Tryz.prog Tryz.f33).getD ⟨0, 0, [], .skip⟩
theorem of33 : fnOf Tryz.prog Tryz.f33 = some fn33 := ofG (by kernel_rfl)
noncomputable def fn11 : AFn := (fnOf Tryz.prog Tryz.f11).getD ⟨0, 0, [], .skip⟩
theorem of11 : fnOf Tryz.prog Tryz.f11 = some fn11 := ofG (by kernel_rfl)
noncomputable def fn34 : AFn := (fnOf Tryz.prog Tryz.f34).getD ⟨0, 0, [], .skip⟩
theorem of34 : fnOf Tryz.prog Tryz.f34 = some fn34 := ofG (by kernel_rfl)
noncomputable def fn12 : AFn := (fnOf Tryz.prog Tryz.f12).getD ⟨0, 0, [], .skip⟩
theorem of12 : fnOf Tryz.prog Tryz.f12 = some fn12 := ofG (by kernel_rfl)
noncomputable def fn3 : AFn := (fnOf Tryz.prog Tryz.f3).getD ⟨0, 0, [], .skip⟩
theorem of3 : fnOf Tryz.prog Tryz.f3 = some fn3 := ofG (by kernel_rfl)
noncomputable def tabL : List (Nat × AFn) := [(37, fn37), (116, fn116), (56, fn56), (117, fn117), (165, fn165), (118, fn118), (58, fn58), (57, fn57), (60, fn60), (59, fn59), (20, fn20), (38, fn38), (15, fn15), (61, fn61), (62, fn62), (63, fn63), (21, fn21), (201, fn201), (166, fn166), (167, fn167), (168, fn168), (120, fn120), (64, fn64), (65, fn65), (22, fn22), (66, fn66), (24, fn24), (23, fn23), (5, fn5), (6, fn6), (52, fn52), (25, fn25), (92, fn92), (163, fn163), (162, fn162), (160, fn160), (159, fn159), (158, fn158), (113, fn113), (123, fn123), (93, fn93), (51, fn51), (67, fn67), (68, fn68), (69, fn69), (70, fn70), (26, fn26), (27, fn27), (102, fn102), (72, fn72), (174, fn174), (128, fn128), (126, fn126), (74, fn74), (73, fn73), (28, fn28), (75, fn75), (76, fn76), (29, fn29), (234, fn234), (204, fn204), (175, fn175), (129, fn129), (77, fn77), (31, fn31), (30, fn30), (7, fn7), (78, fn78), (32, fn32), (8, fn8), (9, fn9), (10, fn10), (79, fn79), (33, fn33), (11, fn11), (34, fn34), (12, fn12), (3, fn3)]
def modeM : List (Nat × List Bool) := [(200, [false, false]), (167, [false]), (65, []), (5, [false]), (6, [false]), (140, [false, false]), (92, [false]), (93, [false]), (27, []), (237, [false, false, false, false, false]), (7, [false]), (10, [true, false]), (33, [true, false])]
def MM : List Nat := [11]
noncomputable abbrev XX : InlX := inlX MM tabL
noncomputable abbrev TT : Tab := tabOf (inlT XX tabL) modeM
noncomputable abbrev T0 : Tab := tabM tabL modeM MM
theorem inlOK : InlOK XX T0 TT := inl_ok (by kernel_rfl) (by kernel_rfl)
def Good (p : Nat × AFn) : Prop := ∃ fn, Tryz.prog.funcs[p.1]? = some fn ∧ fn.name ≠ "runtime.NumGoroutine" ∧ fnOf Tryz.prog fn = some p.2
theorem good : ∀ p ∈ tabL, Good p := by
  unfold tabL
  simp only [List.forall_mem_cons]
  refine ⟨⟨_, Tryz.func37, of_decide_eq_true (by kernel_rfl), of37⟩, ⟨_, Tryz.func116, of_decide_eq_true (by kernel_rfl), of116⟩, ⟨_, Tryz.func56, of_decide_eq_true (by kernel_rfl), of56⟩, ⟨_, Tryz.func117, of_decide_eq_true (by kernel_rfl), of117⟩, ⟨_, Tryz.func165, of_decide_eq_true (by kernel_rfl), of165⟩, ⟨_, Tryz.func118, of_decide_eq_true (by kernel_rfl), of118⟩, ⟨_, Tryz.func58, of_decide_eq_true (by kernel_rfl), of58⟩, ⟨_, Tryz.func57, of_decide_eq_true (by kernel_rfl), of57⟩, ⟨_, Tryz.func60, of_decide_eq_true (by kernel_rfl), of60⟩, ⟨_, Tryz.func59, of_decide_eq_true (by kernel_rfl), of59⟩, ⟨_, Tryz.func20, of_decide_eq_true (by kernel_rfl), of20⟩, ⟨_, Tryz.func38, of_decide_eq_true (by kernel_rfl), of38⟩, ⟨_, Tryz.func15, of_decide_eq_true (by kernel_rfl), of15⟩, ⟨_, Tryz.func61, of_decide_eq_true (by kernel_rfl), of61⟩, ⟨_, Tryz.func62, of_decide_eq_true (by kernel_rfl), of62⟩, ⟨_, Tryz.func63, of_decide_eq_true (by kernel_rfl), of63⟩, ⟨_, Tryz.func21, of_decide_eq_true (by kernel_rfl), of21⟩, ⟨_, Tryz.func201, of_decide_eq_true (by kernel_rfl), of201⟩, ⟨_, Tryz.func166, of_decide_eq_true (by kernel_rfl), of166⟩, ⟨_, Tryz.func167, of_decide_eq_true (by kernel_rfl), of167⟩, ⟨_, Tryz.func168, of_decide_eq_true (by kernel_rfl), of168⟩, ⟨_, Tryz.func120, of_decide_eq_true (by kernel_rfl), of120⟩, ⟨_, Tryz.func64, of_decide_eq_true (by kernel_rfl), of64⟩, ⟨_, Tryz.func65, of_decide_eq_true (by kernel_rfl), of65⟩, ⟨_, Tryz.func22, of_decide_eq_true (by kernel_rfl), of22⟩, ⟨_, Tryz.func66, of_decide_eq_true (by kernel_rfl), of66⟩, ⟨_, Tryz.func24, of_decide_eq_true (by kernel_rfl), of24⟩, ⟨_, Tryz.func23, of_decide_eq_true (by kernel_rfl), of23⟩, ⟨_, Tryz.func5, of_decide_eq_true (by kernel_rfl), of5⟩, ⟨_, Tryz.func6, of_decide_eq_true (by kernel_rfl), of6⟩, ⟨_, Tryz.func52, of_decide_eq_true (by kernel_rfl), of52⟩, ⟨_, Tryz.func25, of_decide_eq_true (by kernel_rfl), of25⟩, ⟨_, Tryz.func92, of_decide_eq_true (by kernel_rfl), of92⟩, ⟨_, Tryz.func163, of_decide_eq_true (by kernel_rfl), of163⟩, ⟨_, Tryz.func162, of_decide_eq_true (by kernel_rfl), of162⟩, ⟨_, Tryz.func160, of_decide_eq_true (by kernel_rfl), of160⟩, ⟨_, Tryz.func159, of_decide_eq_true (by kernel_rfl), of159⟩, ⟨_, Tryz.func158, of_decide_eq_true (by kernel_rfl), of158⟩, ⟨_, Tryz.func113, of_decide_eq_true (by kernel_rfl), of113⟩, ⟨_, Tryz.func123, of_decide_eq_true (by kernel_rfl), of123⟩, ⟨_, Tryz.func93, of_decide_eq_true (by kernel_rfl), of93⟩, ⟨_, Tryz.func51, of_decide_eq_true (by kernel_rfl), of51⟩, ⟨_, Tryz.func67, of_decide_eq_true (by kernel_rfl), of67⟩, ⟨_, Tryz.func68, of_decide_eq_true (by kernel_rfl), of68⟩, ⟨_, Tryz.func69, of_decide_eq_true (by kernel_rfl), of69⟩, ⟨_, Tryz.func70, of_decide_eq_true (by kernel_rfl), of70⟩, ⟨_, Tryz.func26, of_decide_eq_true (by kernel_rfl), of26⟩, ⟨_, Tryz.func27, of_decide_eq_true (by kernel_rfl), of27⟩, ⟨_, Tryz.func102, of_decide_eq_true (by kernel_rfl), of102⟩, ⟨_, Tryz.func72, of_decide_eq_true (by kernel_rfl), of72⟩, ⟨_, Tryz.func174, of_decide_eq_true (by kernel_rfl), of174⟩, ⟨_, Tryz.func128, of_decide_eq_true (by kernel_rfl), of128⟩, ⟨_, Tryz.func126, of_decide_eq_true (by kernel_rfl), of126⟩, ⟨_, Tryz.func74, of_decide_eq_true (by kernel_rfl), of74⟩, ⟨_, Tryz.func73, of_decide_eq_true (by kernel_rfl), of73⟩, ⟨_, Tryz.func28, of_decide_eq_true (by kernel_rfl), of28⟩, ⟨_, Tryz.func75, of_decide_eq_true (by kernel_rfl), of75⟩, ⟨_, Tryz.func76, of_decide_eq_true (by kernel_rfl), of76⟩, ⟨_, Tryz.func29, of_decide_eq_true (by kernel_rfl), of29⟩, ⟨_, Tryz.func234, of_decide_eq_true (by kernel_rfl), of234⟩, ⟨_, Tryz.func204, of_decide_eq_true (by kernel_rfl), of204⟩, ⟨_, Tryz.func175, of_decide_eq_true (by kernel_rfl), of175⟩, ⟨_, Tryz.func129, of_decide_eq_true (by kernel_rfl), of129⟩, ⟨_, Tryz.func77, of_decide_eq_true (by kernel_rfl), of77⟩, ⟨_, Tryz.func31, of_decide_eq_true (by kernel_rfl), of31⟩, ⟨_, Tryz.func30, of_decide_eq_true (by kernel_rfl), of30⟩, ⟨_, Tryz.func7, of_decide_eq_true (by kernel_rfl), of7⟩, ⟨_, Tryz.func78, of_decide_eq_true (by kernel_rfl), of78⟩, ⟨_, Tryz.func32, of_decide_eq_true (by kernel_rfl), of32⟩, ⟨_, Tryz.func8, of_decide_eq_true (by kernel_rfl), of8⟩, ⟨_, Tryz.func9, of_decide_eq_true (by kernel_rfl), of9⟩, ⟨_, Tryz.func10, of_decide_eq_true (by kernel_rfl), of10⟩, ⟨_, Tryz.func79, of_decide_eq_true (by kernel_rfl), of79⟩, ⟨_, Tryz.func33, of_decide_eq_true (by kernel_rfl), of33⟩, ⟨_, Tryz.func11, of_decide_eq_true (by kernel_rfl), of11⟩, ⟨_, Tryz.func34, of_decide_eq_true (by kernel_rfl), of34⟩, ⟨_, Tryz.func12, of_decide_eq_true (by kernel_rfl), of12⟩, ⟨_, Tryz.func3, of_decide_eq_true (by kernel_rfl), of3⟩, fun x hx => (by cases hx)⟩
theorem tabOK : TabOK Tryz.prog T0 := ⟨by kernel_rfl, fun f F h => good _ (fnL_mem h), fun f g h => (by cases h)⟩
abbrev lawTys : List Ty := [.sl 1 (.int .i64)]
theorem lawTys_ok : mapMO (tyOf Tryz.prog 12) Tryz.f3.params.toList = some lawTys := by kernel_rfl
end Go.Proofs.YtlnehfgjfmamjaaGreatDoor.Fd
