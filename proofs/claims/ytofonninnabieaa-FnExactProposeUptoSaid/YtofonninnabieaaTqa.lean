/- The code of the functions that FnExactPropose,FnExactTick reaches, as the small machine runs it. -/
import Derived.Test.YtofonninnabieaaG10
import Derived.Test.YtofonninnabieaaChecked
namespace Go.Proofs.Ytofonninnabieaa.Tq
set_option linter.unusedVariables false
set_option linter.unusedSimpArgs false
set_option maxRecDepth 100000
open Go Go.Am

abbrev I : Kd := .int .i64
abbrev KEntry : Kd := (.st [I, I, .str])
abbrev KLog : Kd := (.st [I, I, (.sl 3 KEntry)])
abbrev KPeer : Kd := (.st [I, I, I, I])
abbrev KNode : Kd := (.st [I, I, I, I, I, (.sl 1 I), I, I, (.sl 3 KEntry), I, I, I, (.sl 1 I), (.sl 4 KPeer)])
abbrev KMessage : Kd := (.st [I, I, I, I, I, I, I, .bool, (.sl 3 KEntry), (.sl 1 I), .str, .bool])
abbrev KCore : Kd := (.st [I, I, I, I, I, (.sl 1 I), I, I, (.sl 3 KEntry), I, I, I, (.sl 1 I), (.sl 4 KPeer), (.sl 12 KMessage)])
abbrev TEntry := Int × Int × List UInt8 × Unit
abbrev TLog := Int × Int × List TEntry × Unit
abbrev TPeer := Int × Int × Int × Int × Unit
abbrev TNode := Int × Int × Int × Int × Int × List Int × Int × Int × List TEntry × Int × Int × Int × List Int × List TPeer × Unit
abbrev TMessage := Int × Int × Int × Int × Int × Int × Int × Bool × List TEntry × List Int × List UInt8 × Bool × Unit
abbrev TCore := Int × Int × Int × Int × Int × List Int × Int × Int × List TEntry × Int × Int × Int × List Int × List TPeer × List TMessage × Unit
theorem ofG {o : Option AFn} (h : o.isSome = true) : o = some (o.getD ⟨0, 0, [], .skip⟩) := by
  cases o with
  | none => cases h
  | some x => rfl
noncomputable def fn17 : AFn := (fnOf Try.prog Try.f17).getD ⟨0, 0, [], .skip⟩
theorem of17 : fnOf Try.prog Try.f17 = some fn17 := ofG (by kernel_rfl)
noncomputable def fn98 : AFn := (fnOf Try.prog Try.f98).getD ⟨0, 0, [], .skip⟩
theorem of98 : fnOf Try.prog Try.f98 = some fn98 := ofG (by kernel_rfl)
noncomputable def fn72 : AFn := (fnOf Try.prog Try.f72).getD ⟨0, 0, [], .skip⟩
theorem of72 : fnOf Try.prog Try.f72 = some fn72 := ofG (by kernel_rfl)
noncomputable def fn18 : AFn := (fnOf Try.prog Try.f18).getD ⟨0, 0, [], .skip⟩
theorem of18 : fnOf Try.prog Try.f18 = some fn18 := ofG (by kernel_rfl)
noncomputable def fn19 : AFn := (fnOf Try.prog Try.f19).getD ⟨0, 0, [], .skip⟩
theorem of19 : fnOf Try.prog Try.f19 = some fn19 := ofG (by kernel_rfl)
noncomputable def fn5 : AFn := (fnOf Try.prog Try.f5).getD ⟨0, 0, [], .skip⟩
theorem of5 : fnOf Try.prog Try.f5 = some fn5 := ofG (by kernel_rfl)
noncomputable def fn29 : AFn := (fnOf Try.prog Try.f29).getD ⟨0, 0, [], .skip⟩
theorem of29 : fnOf Try.prog Try.f29 = some fn29 := ofG (by kernel_rfl)
noncomputable def fn22 : AFn := (fnOf Try.prog Try.f22).getD ⟨0, 0, [], .skip⟩
theorem of22 : fnOf Try.prog Try.f22 = some fn22 := ofG (by kernel_rfl)
noncomputable def fn59 : AFn := (fnOf Try.prog Try.f59).getD ⟨0, 0, [], .skip⟩
theorem of59 : fnOf Try.prog Try.f59 = some fn59 := ofG (by kernel_rfl)
noncomputable def fn75 : AFn := (fnOf Try.prog Try.f75).getD ⟨0, 0, [], .skip⟩
theorem of75 : fnOf Try.prog Try.f75 = some fn75 := ofG (by kernel_rfl)
noncomputable def fn73 : AFn := (fnOf Try.prog Try.f73).getD ⟨0, 0, [], .skip⟩
theorem of73 : fnOf Try.prog Try.f73 = some fn73 := ofG (by kernel_rfl)
noncomputable def fn23 : AFn := (fnOf Try.prog Try.f23).getD ⟨0, 0, [], .skip⟩
theorem of23 : fnOf Try.prog Try.f23 = some fn23 := ofG (by kernel_rfl)
noncomputable def fn21 : AFn := (fnOf Try.prog Try.f21).getD ⟨0, 0, [], .skip⟩
theorem of21 : fnOf Try.prog Try.f21 = some fn21 := ofG (by kernel_rfl)
noncomputable def fn74 : AFn := (fnOf Try.prog Try.f74).getD ⟨0, 0, [], .skip⟩
theorem of74 : fnOf Try.prog Try.f74 = some fn74 := ofG (by kernel_rfl)
noncomputable def fn63 : AFn := (fnOf Try.prog Try.f63).getD ⟨0, 0, [], .skip⟩
theorem of63 : fnOf Try.prog Try.f63 = some fn63 := ofG (by kernel_rfl)
noncomputable def fn30 : AFn := (fnOf Try.prog Try.f30).getD ⟨0, 0, [], .skip⟩
theorem of30 : fnOf Try.prog Try.f30 = some fn30 := ofG (by kernel_rfl)
noncomputable def fn76 : AFn := (fnOf Try.prog Try.f76).getD ⟨0, 0, [], .skip⟩
theorem of76 : fnOf Try.prog Try.f76 = some fn76 := ofG (by kernel_rfl)
noncomputable def fn27 : AFn := (fnOf Try.prog Try.f27).getD ⟨0, 0, [], .skip⟩
theorem of27 : fnOf Try.prog Try.f27 = some fn27 := ofG (by kernel_rfl)
noncomputable def fn20 : AFn := (fnOf Try.prog Try.f20).getD ⟨0, 0, [], .skip⟩
theorem of20 : fnOf Try.prog Try.f20 = some fn20 := ofG (by kernel_rfl)
noncomputable def fn60 : AFn := (fnOf Try.prog Try.f60).getD ⟨0, 0, [], .skip⟩
theorem of60 : fnOf Try.prog Try.f60 = some fn60 := ofG (by kernel_rfl)
noncomputable def fn26 : AFn := (fnOf Try.prog Try.f26).getD ⟨0, 0, [], .skip⟩
theorem of26 : fnOf Try.prog Try.f26 = some fn26 := ofG (by kernel_rfl)
noncomputable def fn25 : AFn := (fnOf Try.prog Try.f25).getD ⟨0, 0, [], .skip⟩
theorem of25 : fnOf Try.prog Try.f25 = some fn25 := ofG (by kernel_rfl)
noncomputable def fn24 : AFn := (fnOf Try.prog Try.f24).getD ⟨0, 0, [], .skip⟩
theorem of24 : fnOf Try.prog Try.f24 = some fn24 := ofG (by kernel_rfl)
noncomputable def fn28 : AFn := (fnOf Try.prog Try.f28).getD ⟨0, 0, [], .skip⟩
theorem of28 : fnOf Try.prog Try.f28 = some fn28 := ofG (by kernel_rfl)
noncomputable def fn77 : AFn := (fnOf Try.prog Try.f77).getD ⟨0, 0, [], .skip⟩
theorem of77 : fnOf Try.prog Try.f77 = some fn77 := ofG (by kernel_rfl)
noncomputable def fn78 : AFn := (fnOf Try.prog Try.f78).getD ⟨0, 0, [], .skip⟩
theorem of78 : fnOf Try.prog Try.f78 = some fn78 := ofG (by kernel_rfl)
noncomputable def fn31 : AFn := (fnOf Try.prog Try.f31).getD ⟨0, 0, [], .skip⟩
theorem of31 : fnOf Try.prog Try.f31 = some fn31 := ofG (by kernel_rfl)
noncomputable def fn64 : AFn := (fnOf Try.prog Try.f64).getD ⟨0, 0, [], .skip⟩
theorem of64 : fnOf Try.prog Try.f64 = some fn64 := ofG (by kernel_rfl)
noncomputable def fn79 : AFn := (fnOf Try.prog Try.f79).getD ⟨0, 0, [], .skip⟩
theorem of79 : fnOf Try.prog Try.f79 = some fn79 := ofG (by kernel_rfl)
noncomputable def fn32 : AFn := (fnOf Try.prog Try.f32).getD ⟨0, 0, [], .skip⟩
theorem of32 : fnOf Try.prog Try.f32 = some fn32 := ofG (by kernel_rfl)
noncomputable def fn6 : AFn := (fnOf Try.prog Try.f6).getD ⟨0, 0, [], .skip⟩
theorem of6 : fnOf Try.prog Try.f6 = some fn6 := ofG (by kernel_rfl)
noncomputable def fn33 : AFn := (fnOf Try.prog Try.f33).getD ⟨0, 0, [], .skip⟩
theorem of33 : fnOf Try.prog Try.f33 = some fn33 := ofG (by kernel_rfl)
noncomputable def fn99 : AFn := (fnOf Try.prog Try.f99).getD ⟨0, 0, [], .skip⟩
theorem of99 : fnOf Try.prog Try.f99 = some fn99 := ofG (by kernel_rfl)
noncomputable def fn80 : AFn := (fnOf Try.prog Try.f80).getD ⟨0, 0, [], .skip⟩
theorem of80 : fnOf Try.prog Try.f80 = some fn80 := ofG (by kernel_rfl)
noncomputable def fn34 : AFn := (fnOf Try.prog Try.f34).getD ⟨0, 0, [], .skip⟩
theorem of34 : fnOf Try.prog Try.f34 = some fn34 := ofG (by kernel_rfl)
noncomputable def fn81 : AFn := (fnOf Try.prog Try.f81).getD ⟨0, 0, [], .skip⟩
theorem of81 : fnOf Try.prog Try.f81 = some fn81 := ofG (by kernel_rfl)
noncomputable def fn35 : AFn := (fnOf Try.prog Try.f35).getD ⟨0, 0, [], .skip⟩
theorem of35 : fnOf Try.prog Try.f35 = some fn35 := ofG (by kernel_rfl)
noncomputable def fn7 : AFn := (fnOf Try.prog Try.f7).getD ⟨0, 0, [], .skip⟩
theorem of7 : fnOf Try.prog Try.f7 = some fn7 := ofG (by kernel_rfl)
noncomputable def fn37 : AFn := (fnOf Try.prog Try.f37).getD ⟨0, 0, [], .skip⟩
theorem of37 : fnOf Try.prog Try.f37 = some fn37 := ofG (by kernel_rfl)
noncomputable def fn65 : AFn := (fnOf Try.prog Try.f65).getD ⟨0, 0, [], .skip⟩
theorem of65 : fnOf Try.prog Try.f65 = some fn65 := ofG (by kernel_rfl)
noncomputable def fn82 : AFn := (fnOf Try.prog Try.f82).getD ⟨0, 0, [], .skip⟩
theorem of82 : fnOf Try.prog Try.f82 = some fn82 := ofG (by kernel_rfl)
noncomputable def fn85 : AFn := (fnOf Try.prog Try.f85).getD ⟨0, 0, [], .skip⟩
theorem of85 : fnOf Try.prog Try.f85 = some fn85 := ofG (by kernel_rfl)
noncomputable def fn38 : AFn := (fnOf Try.prog Try.f38).getD ⟨0, 0, [], .skip⟩
theorem of38 : fnOf Try.prog Try.f38 = some fn38 := ofG (by kernel_rfl)
noncomputable def fn83 : AFn := (fnOf Try.prog Try.f83).getD ⟨0, 0, [], .skip⟩
theorem of83 : fnOf Try.prog Try.f83 = some fn83 := ofG (by kernel_rfl)
noncomputable def fn70 : AFn := (fnOf Try.prog Try.f70).getD ⟨0, 0, [], .skip⟩
theorem of70 : fnOf Try.prog Try.f70 = some fn70 := ofG (by kernel_rfl)
noncomputable def fn100 : AFn := (fnOf Try.prog Try.f100).getD ⟨0, 0, [], .skip⟩
theorem of100 : fnOf Try.prog Try.f100 = some fn100 := ofG (by kernel_rfl)
noncomputable def fn102 : AFn := (fnOf Try.prog Try.f102).getD ⟨0, 0, [], .skip⟩
theorem of102 : fnOf Try.prog Try.f102 = some fn102 := ofG (by kernel_rfl)
noncomputable def fn91 : AFn := (fnOf Try.prog Try.f91).getD ⟨0, 0, [], .skip⟩
theorem of91 : fnOf Try.prog Try.f91 = some fn91 := ofG (by kernel_rfl)
noncomputable def fn96 : AFn := (fnOf Try.prog Try.f96).getD ⟨0, 0, [], .skip⟩
theorem of96 : fnOf Try.prog Try.f96 = some fn96 := ofG (by kernel_rfl)
noncomputable def fn66 : AFn := (fnOf Try.prog Try.f66).getD ⟨0, 0, [], .skip⟩
theorem of66 : fnOf Try.prog Try.f66 = some fn66 := ofG (by kernel_rfl)
noncomputable def fn92 : AFn := (fnOf Try.prog Try.f92).getD ⟨0, 0, [], .skip⟩
theorem of92 : fnOf Try.prog Try.f92 = some fn92 := ofG (by kernel_rfl)
noncomputable def fn41 : AFn := (fnOf Try.prog Try.f41).getD ⟨0, 0, [], .skip⟩
theorem of41 : fnOf Try.prog Try.f41 = some fn41 := ofG (by kernel_rfl)
noncomputable def fn84 : AFn := (fnOf Try.prog Try.f84).getD ⟨0, 0, [], .skip⟩
theorem of84 : fnOf Try.prog Try.f84 = some fn84 := ofG (by kernel_rfl)
noncomputable def fn36 : AFn := (fnOf Try.prog Try.f36).getD ⟨0, 0, [], .skip⟩
theorem of36 : fnOf Try.prog Try.f36 = some fn36 := ofG (by kernel_rfl)
noncomputable def fn87 : AFn := (fnOf Try.prog Try.f87).getD ⟨0, 0, [], .skip⟩
theorem of87 : fnOf Try.prog Try.f87 = some fn87 := ofG (by kernel_rfl)
noncomputable def fn101 : AFn := (fnOf Try.prog Try.f101).getD ⟨0, 0, [], .skip⟩
theorem of101 : fnOf Try.prog Try.f101 = some fn101 := ofG (by kernel_rfl)
noncomputable def fn86 : AFn := (fnOf Try.prog Try.f86).getD ⟨0, 0, [], .skip⟩
theorem of86 : fnOf Try.prog Try.f86 = some fn86 := ofG (by kernel_rfl)
noncomputable def fn88 : AFn := (fnOf Try.prog Try.f88).getD ⟨0, 0, [], .skip⟩
theorem of88 : fnOf Try.prog Try.f88 = some fn88 := ofG (by kernel_rfl)
noncomputable def fn97 : AFn := (fnOf Try.prog Try.f97).getD ⟨0, 0, [], .skip⟩
theorem of97 : fnOf Try.prog Try.f97 = some fn97 := ofG (by kernel_rfl)
noncomputable def fn67 : AFn := (fnOf Try.prog Try.f67).getD ⟨0, 0, [], .skip⟩
theorem of67 : fnOf Try.prog Try.f67 = some fn67 := ofG (by kernel_rfl)
noncomputable def fn89 : AFn := (fnOf Try.prog Try.f89).getD ⟨0, 0, [], .skip⟩
theorem of89 : fnOf Try.prog Try.f89 = some fn89 := ofG (by kernel_rfl)
noncomputable def fn39 : AFn := (fnOf Try.prog Try.f39).getD ⟨0, 0, [], .skip⟩
theorem of39 : fnOf Try.prog Try.f39 = some fn39 := ofG (by kernel_rfl)
noncomputable def fn90 : AFn := (fnOf Try.prog Try.f90).getD ⟨0, 0, [], .skip⟩
theorem of90 : fnOf Try.prog Try.f90 = some fn90 := ofG (by kernel_rfl)
noncomputable def fn40 : AFn := (fnOf Try.prog Try.f40).getD ⟨0, 0, [], .skip⟩
theorem of40 : fnOf Try.prog Try.f40 = some fn40 := ofG (by kernel_rfl)
noncomputable def fn42 : AFn := (fnOf Try.prog Try.f42).getD ⟨0, 0, [], .skip⟩
theorem of42 : fnOf Try.prog Try.f42 = some fn42 := ofG (by kernel_rfl)
noncomputable def fn68 : AFn := (fnOf Try.prog Try.f68).getD ⟨0, 0, [], .skip⟩
theorem of68 : fnOf Try.prog Try.f68 = some fn68 := ofG (by kernel_rfl)
noncomputable def fn44 : AFn := (fnOf Try.prog Try.f44).getD ⟨0, 0, [], .skip⟩
theorem of44 : fnOf Try.prog Try.f44 = some fn44 := ofG (by kernel_rfl)
noncomputable def fn71 : AFn := (fnOf Try.prog Try.f71).getD ⟨0, 0, [], .skip⟩
theorem of71 : fnOf Try.prog Try.f71 = some fn71 := ofG (by kernel_rfl)
noncomputable def fn93 : AFn := (fnOf Try.prog Try.f93).getD ⟨0, 0, [], .skip⟩
theorem of93 : fnOf Try.prog Try.f93 = some fn93 := ofG (by kernel_rfl)
noncomputable def fn45 : AFn := (fnOf Try.prog Try.f45).getD ⟨0, 0, [], .skip⟩
theorem of45 : fnOf Try.prog Try.f45 = some fn45 := ofG (by kernel_rfl)
noncomputable def fn43 : AFn := (fnOf Try.prog Try.f43).getD ⟨0, 0, [], .skip⟩
theorem of43 : fnOf Try.prog Try.f43 = some fn43 := ofG (by kernel_rfl)
noncomputable def fn8 : AFn := (fnOf Try.prog Try.f8).getD ⟨0, 0, [], .skip⟩
theorem of8 : fnOf Try.prog Try.f8 = some fn8 := ofG (by kernel_rfl)
noncomputable def fn103 : AFn := (fnOf Try.prog Try.f103).getD ⟨0, 0, [], .skip⟩
theorem of103 : fnOf Try.prog Try.f103 = some fn103 := ofG (by kernel_rfl)
noncomputable def fn94 : AFn := (fnOf Try.prog Try.f94).getD ⟨0, 0, [], .skip⟩
theorem of94 : fnOf Try.prog Try.f94 = some fn94 := ofG (by kernel_rfl)
noncomputable def fn46 : AFn := (fnOf Try.prog Try.f46).getD ⟨0, 0, [], .skip⟩
theorem of46 : fnOf Try.prog Try.f46 = some fn46 := ofG (by kernel_rfl)
noncomputable def fn49 : AFn := (fnOf Try.prog Try.f49).getD ⟨0, 0, [], .skip⟩
theorem of49 : fnOf Try.prog Try.f49 = some fn49 := ofG (by kernel_rfl)
noncomputable def fn10 : AFn := (fnOf Try.prog Try.f10).getD ⟨0, 0, [], .skip⟩
theorem of10 : fnOf Try.prog Try.f10 = some fn10 := ofG (by kernel_rfl)
noncomputable def fn47 : AFn := (fnOf Try.prog Try.f47).getD ⟨0, 0, [], .skip⟩
theorem of47 : fnOf Try.prog Try.f47 = some fn47 := ofG (by kernel_rfl)
noncomputable def fn95 : AFn := (fnOf Try.prog Try.f95).getD ⟨0, 0, [], .skip⟩
theorem of95 : fnOf Try.prog Try.f95 = some fn95 := ofG (by kernel_rfl)
noncomputable def fn48 : AFn := (fnOf Try.prog Try.f48).getD ⟨0, 0, [], .skip⟩
theorem of48 : fnOf Try.prog Try.f48 = some fn48 := ofG (by kernel_rfl)
noncomputable def fn9 : AFn := (fnOf Try.prog Try.f9).getD ⟨0, 0, [], .skip⟩
theorem of9 : fnOf Try.prog Try.f9 = some fn9 := ofG (by kernel_rfl)
noncomputable def fn50 : AFn := (fnOf Try.prog Try.f50).getD ⟨0, 0, [], .skip⟩
theorem of50 : fnOf Try.prog Try.f50 = some fn50 := ofG (by kernel_rfl)
noncomputable def fn54 : AFn := (fnOf Try.prog Try.f54).getD ⟨0, 0, [], .skip⟩
theorem of54 : fnOf Try.prog Try.f54 = some fn54 := ofG (by kernel_rfl)
noncomputable def fn53 : AFn := (fnOf Try.prog Try.f53).getD ⟨0, 0, [], .skip⟩
theorem of53 : fnOf Try.prog Try.f53 = some fn53 := ofG (by kernel_rfl)
noncomputable def fn51 : AFn := (fnOf Try.prog Try.f51).getD ⟨0, 0, [], .skip⟩
theorem of51 : fnOf Try.prog Try.f51 = some fn51 := ofG (by kernel_rfl)
noncomputable def fn52 : AFn := (fnOf Try.prog Try.f52).getD ⟨0, 0, [], .skip⟩
theorem of52 : fnOf Try.prog Try.f52 = some fn52 := ofG (by kernel_rfl)
noncomputable def fn11 : AFn := (fnOf Try.prog Try.f11).getD ⟨0, 0, [], .skip⟩
theorem of11 : fnOf Try.prog Try.f11 = some fn11 := ofG (by kernel_rfl)
noncomputable def fn12 : AFn := (fnOf Try.prog Try.f12).getD ⟨0, 0, [], .skip⟩
theorem of12 : fnOf Try.prog Try.f12 = some fn12 := ofG (by kernel_rfl)
noncomputable def fn55 : AFn := (fnOf Try.prog Try.f55).getD ⟨0, 0, [], .skip⟩
theorem of55 : fnOf Try.prog Try.f55 = some fn55 := ofG (by kernel_rfl)
noncomputable def fn58 : AFn := (fnOf Try.prog Try.f58).getD ⟨0, 0, [], .skip⟩
theorem of58 : fnOf Try.prog Try.f58 = some fn58 := ofG (by kernel_rfl)
noncomputable def fn56 : AFn := (fnOf Try.prog Try.f56).getD ⟨0, 0, [], .skip⟩
theorem of56 : fnOf Try.prog Try.f56 = some fn56 := ofG (by kernel_rfl)
noncomputable def fn57 : AFn := (fnOf Try.prog Try.f57).getD ⟨0, 0, [], .skip⟩
theorem of57 : fnOf Try.prog Try.f57 = some fn57 := ofG (by kernel_rfl)
noncomputable def fn13 : AFn := (fnOf Try.prog Try.f13).getD ⟨0, 0, [], .skip⟩
theorem of13 : fnOf Try.prog Try.f13 = some fn13 := ofG (by kernel_rfl)
noncomputable def fn14 : AFn := (fnOf Try.prog Try.f14).getD ⟨0, 0, [], .skip⟩
theorem of14 : fnOf Try.prog Try.f14 = some fn14 := ofG (by kernel_rfl)
noncomputable def fn3 : AFn := (fnOf Try.prog Try.f3).getD ⟨0, 0, [], .skip⟩
theorem of3 : fnOf Try.prog Try.f3 = some fn3 := ofG (by kernel_rfl)
noncomputable def fn61 : AFn := (fnOf Try.prog Try.f61).getD ⟨0, 0, [], .skip⟩
theorem of61 : fnOf Try.prog Try.f61 = some fn61 := ofG (by kernel_rfl)
noncomputable def fn62 : AFn := (fnOf Try.prog Try.f62).getD ⟨0, 0, [], .skip⟩
theorem of62 : fnOf Try.prog Try.f62 = some fn62 := ofG (by kernel_rfl)
noncomputable def fn15 : AFn := (fnOf Try.prog Try.f15).getD ⟨0, 0, [], .skip⟩
theorem of15 : fnOf Try.prog Try.f15 = some fn15 := ofG (by kernel_rfl)
noncomputable def fn69 : AFn := (fnOf Try.prog Try.f69).getD ⟨0, 0, [], .skip⟩
theorem of69 : fnOf Try.prog Try.f69 = some fn69 := ofG (by kernel_rfl)
noncomputable def fn16 : AFn := (fnOf Try.prog Try.f16).getD ⟨0, 0, [], .skip⟩
theorem of16 : fnOf Try.prog Try.f16 = some fn16 := ofG (by kernel_rfl)
noncomputable def fn4 : AFn := (fnOf Try.prog Try.f4).getD ⟨0, 0, [], .skip⟩
theorem of4 : fnOf Try.prog Try.f4 = some fn4 := ofG (by kernel_rfl)
noncomputable def tabL : List (Nat × AFn) := [(17, fn17), (98, fn98), (72, fn72), (18, fn18), (19, fn19), (5, fn5), (29, fn29), (22, fn22), (59, fn59), (75, fn75), (73, fn73), (23, fn23), (21, fn21), (74, fn74), (63, fn63), (30, fn30), (76, fn76), (27, fn27), (20, fn20), (60, fn60), (26, fn26), (25, fn25), (24, fn24), (28, fn28), (77, fn77), (78, fn78), (31, fn31), (64, fn64), (79, fn79), (32, fn32), (6, fn6), (33, fn33), (99, fn99), (80, fn80), (34, fn34), (81, fn81), (35, fn35), (7, fn7), (37, fn37), (65, fn65), (82, fn82), (85, fn85), (38, fn38), (83, fn83), (70, fn70), (100, fn100), (102, fn102), (91, fn91), (96, fn96), (66, fn66), (92, fn92), (41, fn41), (84, fn84), (36, fn36), (87, fn87), (101, fn101), (86, fn86), (88, fn88), (97, fn97), (67, fn67), (89, fn89), (39, fn39), (90, fn90), (40, fn40), (42, fn42), (68, fn68), (44, fn44), (71, fn71), (93, fn93), (45, fn45), (43, fn43), (8, fn8), (103, fn103), (94, fn94), (46, fn46), (49, fn49), (10, fn10), (47, fn47), (95, fn95), (48, fn48), (9, fn9), (50, fn50), (54, fn54), (53, fn53), (51, fn51), (52, fn52), (11, fn11), (12, fn12), (55, fn55), (58, fn58), (56, fn56), (57, fn57), (13, fn13), (14, fn14), (3, fn3), (61, fn61), (62, fn62), (15, fn15), (69, fn69), (16, fn16), (4, fn4)]
def modeM : List (Nat × List Bool) := [(23, [false]), (30, [false, false]), (76, [false, false]), (27, [false]), (28, [false]), (78, [false, false]), (31, [false]), (64, [false, true]), (79, [false, false]), (32, [false]), (6, [false, false, false]), (33, [false]), (80, [false]), (34, [false]), (35, [false]), (7, [false]), (85, [false]), (96, [false, false]), (66, [false]), (41, [false]), (90, [false]), (40, [false]), (44, [false]), (71, [false, true]), (93, [false, false]), (45, [false]), (8, [false, false, false]), (50, [true, false]), (53, [true, false]), (52, [true, false]), (61, [false]), (62, [false]), (15, [false, false]), (69, [false]), (16, [false, false])]
def MM : List Nat := [91, 51, 11, 12]
noncomputable abbrev XX : InlX := inlX MM tabL
noncomputable abbrev TT : Tab := tabOf (inlT XX tabL) modeM
noncomputable abbrev T0 : Tab := tabM tabL modeM MM
theorem inlOK : InlOK XX T0 TT := inl_ok (by kernel_rfl) (by kernel_rfl)
def Good (p : Nat × AFn) : Prop := ∃ fn, Try.prog.funcs[p.1]? = some fn ∧ fn.name ≠ "runtime.NumGoroutine" ∧ fnOf Try.prog fn = some p.2
theorem good : ∀ p ∈ tabL, Good p := by
  unfold tabL
  simp only [List.forall_mem_cons]
  refine ⟨⟨_, Try.func17, of_decide_eq_true (by kernel_rfl), of17⟩, ⟨_, Try.func98, of_decide_eq_true (by kernel_rfl), of98⟩, ⟨_, Try.func72, of_decide_eq_true (by kernel_rfl), of72⟩, ⟨_, Try.func18, of_decide_eq_true (by kernel_rfl), of18⟩, ⟨_, Try.func19, of_decide_eq_true (by kernel_rfl), of19⟩, ⟨_, Try.func5, of_decide_eq_true (by kernel_rfl), of5⟩, ⟨_, Try.func29, of_decide_eq_true (by kernel_rfl), of29⟩, ⟨_, Try.func22, of_decide_eq_true (by kernel_rfl), of22⟩, ⟨_, Try.func59, of_decide_eq_true (by kernel_rfl), of59⟩, ⟨_, Try.func75, of_decide_eq_true (by kernel_rfl), of75⟩, ⟨_, Try.func73, of_decide_eq_true (by kernel_rfl), of73⟩, ⟨_, Try.func23, of_decide_eq_true (by kernel_rfl), of23⟩, ⟨_, Try.func21, of_decide_eq_true (by kernel_rfl), of21⟩, ⟨_, Try.func74, of_decide_eq_true (by kernel_rfl), of74⟩, ⟨_, Try.func63, of_decide_eq_true (by kernel_rfl), of63⟩, ⟨_, Try.func30, of_decide_eq_true (by kernel_rfl), of30⟩, ⟨_, Try.func76, of_decide_eq_true (by kernel_rfl), of76⟩, ⟨_, Try.func27, of_decide_eq_true (by kernel_rfl), of27⟩, ⟨_, Try.func20, of_decide_eq_true (by kernel_rfl), of20⟩, ⟨_, Try.func60, of_decide_eq_true (by kernel_rfl), of60⟩, ⟨_, Try.func26, of_decide_eq_true (by kernel_rfl), of26⟩, ⟨_, Try.func25, of_decide_eq_true (by kernel_rfl), of25⟩, ⟨_, Try.func24, of_decide_eq_true (by kernel_rfl), of24⟩, ⟨_, Try.func28, of_decide_eq_true (by kernel_rfl), of28⟩, ⟨_, Try.func77, of_decide_eq_true (by kernel_rfl), of77⟩, ⟨_, Try.func78, of_decide_eq_true (by kernel_rfl), of78⟩, ⟨_, Try.func31, of_decide_eq_true (by kernel_rfl), of31⟩, ⟨_, Try.func64, of_decide_eq_true (by kernel_rfl), of64⟩, ⟨_, Try.func79, of_decide_eq_true (by kernel_rfl), of79⟩, ⟨_, Try.func32, of_decide_eq_true (by kernel_rfl), of32⟩, ⟨_, Try.func6, of_decide_eq_true (by kernel_rfl), of6⟩, ⟨_, Try.func33, of_decide_eq_true (by kernel_rfl), of33⟩, ⟨_, Try.func99, of_decide_eq_true (by kernel_rfl), of99⟩, ⟨_, Try.func80, of_decide_eq_true (by kernel_rfl), of80⟩, ⟨_, Try.func34, of_decide_eq_true (by kernel_rfl), of34⟩, ⟨_, Try.func81, of_decide_eq_true (by kernel_rfl), of81⟩, ⟨_, Try.func35, of_decide_eq_true (by kernel_rfl), of35⟩, ⟨_, Try.func7, of_decide_eq_true (by kernel_rfl), of7⟩, ⟨_, Try.func37, of_decide_eq_true (by kernel_rfl), of37⟩, ⟨_, Try.func65, of_decide_eq_true (by kernel_rfl), of65⟩, ⟨_, Try.func82, of_decide_eq_true (by kernel_rfl), of82⟩, ⟨_, Try.func85, of_decide_eq_true (by kernel_rfl), of85⟩, ⟨_, Try.func38, of_decide_eq_true (by kernel_rfl), of38⟩, ⟨_, Try.func83, of_decide_eq_true (by kernel_rfl), of83⟩, ⟨_, Try.func70, of_decide_eq_true (by kernel_rfl), of70⟩, ⟨_, Try.func100, of_decide_eq_true (by kernel_rfl), of100⟩, ⟨_, Try.func102, of_decide_eq_true (by kernel_rfl), of102⟩, ⟨_, Try.func91, of_decide_eq_true (by kernel_rfl), of91⟩, ⟨_, Try.func96, of_decide_eq_true (by kernel_rfl), of96⟩, ⟨_, Try.func66, of_decide_eq_true (by kernel_rfl), of66⟩, ⟨_, Try.func92, of_decide_eq_true (by kernel_rfl), of92⟩, ⟨_, Try.func41, of_decide_eq_true (by kernel_rfl), of41⟩, ⟨_, Try.func84, of_decide_eq_true (by kernel_rfl), of84⟩, ⟨_, Try.func36, of_decide_eq_true (by kernel_rfl), of36⟩, ⟨_, Try.func87, of_decide_eq_true (by kernel_rfl), of87⟩, ⟨_, Try.func101, of_decide_eq_true (by kernel_rfl), of101⟩, ⟨_, Try.func86, of_decide_eq_true (by kernel_rfl), of86⟩, ⟨_, Try.func88, of_decide_eq_true (by kernel_rfl), of88⟩, ⟨_, Try.func97, of_decide_eq_true (by kernel_rfl), of97⟩, ⟨_, Try.func67, of_decide_eq_true (by kernel_rfl), of67⟩, ⟨_, Try.func89, of_decide_eq_true (by kernel_rfl), of89⟩, ⟨_, Try.func39, of_decide_eq_true (by kernel_rfl), of39⟩, ⟨_, Try.func90, of_decide_eq_true (by kernel_rfl), of90⟩, ⟨_, Try.func40, of_decide_eq_true (by kernel_rfl), of40⟩, ⟨_, Try.func42, of_decide_eq_true (by kernel_rfl), of42⟩, ⟨_, Try.func68, of_decide_eq_true (by kernel_rfl), of68⟩, ⟨_, Try.func44, of_decide_eq_true (by kernel_rfl), of44⟩, ⟨_, Try.func71, of_decide_eq_true (by kernel_rfl), of71⟩, ⟨_, Try.func93, of_decide_eq_true (by kernel_rfl), of93⟩, ⟨_, Try.func45, of_decide_eq_true (by kernel_rfl), of45⟩, ⟨_, Try.func43, of_decide_eq_true (by kernel_rfl), of43⟩, ⟨_, Try.func8, of_decide_eq_true (by kernel_rfl), of8⟩, ⟨_, Try.func103, of_decide_eq_true (by kernel_rfl), of103⟩, ⟨_, Try.func94, of_decide_eq_true (by kernel_rfl), of94⟩, ⟨_, Try.func46, of_decide_eq_true (by kernel_rfl), of46⟩, ⟨_, Try.func49, of_decide_eq_true (by kernel_rfl), of49⟩, ⟨_, Try.func10, of_decide_eq_true (by kernel_rfl), of10⟩, ⟨_, Try.func47, of_decide_eq_true (by kernel_rfl), of47⟩, ⟨_, Try.func95, of_decide_eq_true (by kernel_rfl), of95⟩, ⟨_, Try.func48, of_decide_eq_true (by kernel_rfl), of48⟩, ⟨_, Try.func9, of_decide_eq_true (by kernel_rfl), of9⟩, ⟨_, Try.func50, of_decide_eq_true (by kernel_rfl), of50⟩, ⟨_, Try.func54, of_decide_eq_true (by kernel_rfl), of54⟩, ⟨_, Try.func53, of_decide_eq_true (by kernel_rfl), of53⟩, ⟨_, Try.func51, of_decide_eq_true (by kernel_rfl), of51⟩, ⟨_, Try.func52, of_decide_eq_true (by kernel_rfl), of52⟩, ⟨_, Try.func11, of_decide_eq_true (by kernel_rfl), of11⟩, ⟨_, Try.func12, of_decide_eq_true (by kernel_rfl), of12⟩, ⟨_, Try.func55, of_decide_eq_true (by kernel_rfl), of55⟩, ⟨_, Try.func58, of_decide_eq_true (by kernel_rfl), of58⟩, ⟨_, Try.func56, of_decide_eq_true (by kernel_rfl), of56⟩, ⟨_, Try.func57, of_decide_eq_true (by kernel_rfl), of57⟩, ⟨_, Try.func13, of_decide_eq_true (by kernel_rfl), of13⟩, ⟨_, Try.func14, of_decide_eq_true (by kernel_rfl), of14⟩, ⟨_, Try.func3, of_decide_eq_true (by kernel_rfl), of3⟩, ⟨_, Try.func61, of_decide_eq_true (by kernel_rfl), of61⟩, ⟨_, Try.func62, of_decide_eq_true (by kernel_rfl), of62⟩, ⟨_, Try.func15, of_decide_eq_true (by kernel_rfl), of15⟩, ⟨_, Try.func69, of_decide_eq_true (by kernel_rfl), of69⟩, ⟨_, Try.func16, of_decide_eq_true (by kernel_rfl), of16⟩, ⟨_, Try.func4, of_decide_eq_true (by kernel_rfl), of4⟩, fun x hx => (by cases hx)⟩
theorem tabOK : TabOK Try.prog T0 := ⟨by kernel_rfl, fun f F h => good _ (fnL_mem h), fun f g h => (by cases h)⟩
abbrev lawTys3 : List Ty := [.st [.int .i64, .int .i64, .int .i64, .int .i64, .int .i64, .sl 1 (.int .i64), .st [.int .i64, .int .i64, .sl 3 (.st [.int .i64, .int .i64, .str])], .int .i64, .int .i64, .int .i64, .sl 1 (.int .i64), .sl 4 (.st [.int .i64, .int .i64, .int .i64, .int .i64])], .int .i64, .str]
theorem lawTys3_ok : mapMO (tyOf Try.prog 12) Try.f3.params.toList = some lawTys3 := by kernel_rfl
abbrev lawTys4 : List Ty := [.st [.int .i64, .int .i64, .int .i64, .int .i64, .int .i64, .sl 1 (.int .i64), .st [.int .i64, .int .i64, .sl 3 (.st [.int .i64, .int .i64, .str])], .int .i64, .int .i64, .int .i64, .sl 1 (.int .i64), .sl 4 (.st [.int .i64, .int .i64, .int .i64, .int .i64])], .int .i64]
theorem lawTys4_ok : mapMO (tyOf Try.prog 12) Try.f4.params.toList = some lawTys4 := by kernel_rfl
end Go.Proofs.Ytofonninnabieaa.Tq
