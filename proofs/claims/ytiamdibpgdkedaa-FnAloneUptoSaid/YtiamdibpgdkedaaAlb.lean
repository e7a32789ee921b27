/- The functions that FnAlone reaches, told as functions of data, and that the program does what they tell. -/
import Derived.Test.YtiamdibpgdkedaaAla
namespace Go.Proofs.Ytiamdibpgdkedaa.Al
set_option linter.unusedVariables false
set_option linter.unusedSimpArgs false
set_option maxRecDepth 100000
open Go Go.Am

noncomputable section
theorem ents0 : ∀ p ∈ ([] : List (Nat × CE)), EntOK TT p.1 p.2 := fun p h => by cases h
theorem ents1 {a : Nat} {v : CE} {l : List (Nat × CE)} (h : EntOK TT a v) (k : ∀ p ∈ l, EntOK TT p.1 p.2) : ∀ p ∈ (a, v) :: l, EntOK TT p.1 p.2 := fun p hp => (List.mem_cons.1 hp).elim (fun e => e ▸ h) (k p)
/- laws.big -/
def hn35 : Hints := [(3, (.sl 1 (.int .u8)), true)]
def pm35 : List Nat := []
abbrev sg35 : Sig := ⟨[.dat (.sl 1 (.int .u8))], [.bool]⟩
def F35 (W : Words) (x : List Int × Unit) : Option (Bool × Unit) :=
  some (W.iGt (W.lenI x.1) 1048576, ())
abbrev ce35 : CE := .con true sg35 (F35 WW)
theorem co35 : ConOK TT 35 sg35 (F35 WW) := con_fn (fn := inlF XX fn35) (ces := []) ents0 hn35 pm35 (by kernel_rfl) rfl rfl (fun x => by kernel_rfl)
theorem en35 : EntOK TT 35 ce35 := ent_fz co35 (by kernel_rfl) rfl rfl rfl
/- spec.DrawPlaces -/
def hn36 : Hints := [(2, (.sl 1 I), true), (3, KX0, true), (4, (.sl 1 I), true), (6, (.sl 1 (.int .u8)), true), (7, KX0, true), (8, KX0, true), (10, (.sl 1 I), true), (15, (.sl 1 I), true), (16, KX0, true), (18, (.sl 1 I), true), (19, (.sl 1 I), true), (20, (.sl 1 I), true), (65538, KX0, true), (65540, KX0, true), (65541, (.sl 1 (.int .u8)), true), (65545, (.sl 1 (.int .u8)), true), (65549, KX0, true), (65553, KX0, true), (65554, KX0, true), (65555, KX0, true), (65556, (.sl 1 (.int .u8)), true), (65557, KX0, true), (65559, KX0, true), (65561, KX0, true), (65564, (.sl 1 (.int .u8)), true), (65565, KX0, true), (65566, KX0, true), (65567, KX0, true), (65568, (.sl 1 (.int .u8)), true), (65572, KX0, true), (65575, (.sl 1 (.int .u8)), true), (65576, KX0, true), (65585, KX0, true), (65586, KX0, true), (131076, KX0, true), (131077, KX0, true), (131085, KX0, true), (131090, KX0, true), (131097, KX0, true), (131101, KX0, true), (131104, (.sl 1 (.int .u8)), true), (131108, KX0, true), (131111, (.sl 1 (.int .u8)), true), (131112, KX0, true), (131121, KX0, true), (131122, KX0, true), (1065536, KX0, true), (1131072, KX0, true)]
def pm36 : List Nat := []
abbrev sg36 : Sig := ⟨[.dat (.sl 1 (.int .u8))], [(.sl 1 I)]⟩
def F36 (W : Words) (x : List Int × Unit) : Option (List Int × Unit) :=
  W.loopF (fun rec0 (s1 : Int × Int × Unit) =>
  W.bindK (bif W.iLt s1.1 (W.lenI x.1) then some (W.iLt s1.1 4000) else some false) fun y2 =>
  bif y2 then W.idxK x.1 s1.1 fun y3 =>
  rec0 (W.iAdd .i64 s1.1 1, W.iAnd .i64 (W.iAdd .i64 (W.iAdd .i64 (W.iMul .i64 s1.2.1 131) (W.iConv .i64 y3)) 7) 1073741823, ()) else W.guardK (W.gNn 33) <|
  W.guardK (W.gNn 45) <|
  W.joinK (fun (s4 : Int × TX0 × Unit) =>
  W.loopF (fun rec5 (s6 : Int × TX0 × List Int × Unit) =>
  bif W.iLt s6.1 12 then bif W.iLe 10000 0 then W.guardK (W.gApp s6.2.2.1 [0] 1) <|
  rec5 (W.iAdd .i64 s6.1 1, s6.2.1, W.cat s6.2.2.1 [0], ()) else bif W.iLe 10000 256 then W.guardK (W.gNn 33) <|
  W.guardK (W.gNn 45) <|
  W.joinK (fun (s7 : Int × TX0 × List Int × Unit) =>
  W.guardK (W.gNz 10000) <|
  W.guardK (W.gApp s7.2.2.1 [W.iRem s7.1 10000] 1) <|
  rec5 (W.iAdd .i64 s6.1 1, s7.2.1, W.cat s7.2.2.1 [W.iRem s7.1 10000], ())) fun k8 =>
  bif W.iLt s6.2.1.2.1 (W.lenI s6.2.1.1) then W.idxK s6.2.1.1 s6.2.1.2.1 fun y9 =>
  k8 (W.iAnd .i64 (W.iAdd .i64 (W.iAnd .i64 (W.iXor .i64 (W.iShr .i64 (W.iAdd .i64 (W.iMul .i64 s6.2.1.2.2.1 6364136223846793005) 1442695040888963407) 33) (W.iShr .i64 (W.iAdd .i64 (W.iMul .i64 s6.2.1.2.2.1 6364136223846793005) 1442695040888963407) 45)) 255) (W.iConv .i64 y9)) 255, (s6.2.1.1, W.iAdd .i64 s6.2.1.2.1 1, W.iAdd .i64 (W.iMul .i64 s6.2.1.2.2.1 6364136223846793005) 1442695040888963407, ()), s6.2.2) else k8 (W.iAnd .i64 (W.iXor .i64 (W.iShr .i64 (W.iAdd .i64 (W.iMul .i64 s6.2.1.2.2.1 6364136223846793005) 1442695040888963407) 33) (W.iShr .i64 (W.iAdd .i64 (W.iMul .i64 s6.2.1.2.2.1 6364136223846793005) 1442695040888963407) 45)) 255, (s6.2.1.1, s6.2.1.2.1, W.iAdd .i64 (W.iMul .i64 s6.2.1.2.2.1 6364136223846793005) 1442695040888963407, ()), s6.2.2) else W.guardK (W.gNn 33) <|
  W.guardK (W.gNn 45) <|
  W.joinK (fun (s10 : Int × TX0 × List Int × Unit) =>
  W.guardK (W.gNn 33) <|
  W.guardK (W.gNn 45) <|
  W.joinK (fun (s11 : Int × TX0 × List Int × Unit) =>
  W.guardK (W.gNn 33) <|
  W.guardK (W.gNn 45) <|
  W.joinK (fun (s12 : Int × TX0 × List Int × Unit) =>
  W.guardK (W.gNn 33) <|
  W.guardK (W.gNn 45) <|
  W.joinK (fun (s13 : Int × TX0 × List Int × Unit) =>
  W.guardK (W.gNz 10000) <|
  W.guardK (W.gApp s13.2.2.1 [W.iRem (W.iAdd .i64 (W.iAdd .i64 (W.iAdd .i64 (W.iMul .i64 s10.1 16777216) (W.iMul .i64 s11.1 65536)) (W.iMul .i64 s12.1 256)) s13.1) 10000] 1) <|
  rec5 (W.iAdd .i64 s6.1 1, s13.2.1, W.cat s13.2.2.1 [W.iRem (W.iAdd .i64 (W.iAdd .i64 (W.iAdd .i64 (W.iMul .i64 s10.1 16777216) (W.iMul .i64 s11.1 65536)) (W.iMul .i64 s12.1 256)) s13.1) 10000], ())) fun k14 =>
  bif W.iLt s12.2.1.2.1 (W.lenI s12.2.1.1) then W.idxK s12.2.1.1 s12.2.1.2.1 fun y15 =>
  k14 (W.iAnd .i64 (W.iAdd .i64 (W.iAnd .i64 (W.iXor .i64 (W.iShr .i64 (W.iAdd .i64 (W.iMul .i64 s12.2.1.2.2.1 6364136223846793005) 1442695040888963407) 33) (W.iShr .i64 (W.iAdd .i64 (W.iMul .i64 s12.2.1.2.2.1 6364136223846793005) 1442695040888963407) 45)) 255) (W.iConv .i64 y15)) 255, (s12.2.1.1, W.iAdd .i64 s12.2.1.2.1 1, W.iAdd .i64 (W.iMul .i64 s12.2.1.2.2.1 6364136223846793005) 1442695040888963407, ()), s12.2.2) else k14 (W.iAnd .i64 (W.iXor .i64 (W.iShr .i64 (W.iAdd .i64 (W.iMul .i64 s12.2.1.2.2.1 6364136223846793005) 1442695040888963407) 33) (W.iShr .i64 (W.iAdd .i64 (W.iMul .i64 s12.2.1.2.2.1 6364136223846793005) 1442695040888963407) 45)) 255, (s12.2.1.1, s12.2.1.2.1, W.iAdd .i64 (W.iMul .i64 s12.2.1.2.2.1 6364136223846793005) 1442695040888963407, ()), s12.2.2)) fun k16 =>
  bif W.iLt s11.2.1.2.1 (W.lenI s11.2.1.1) then W.idxK s11.2.1.1 s11.2.1.2.1 fun y17 =>
  k16 (W.iAnd .i64 (W.iAdd .i64 (W.iAnd .i64 (W.iXor .i64 (W.iShr .i64 (W.iAdd .i64 (W.iMul .i64 s11.2.1.2.2.1 6364136223846793005) 1442695040888963407) 33) (W.iShr .i64 (W.iAdd .i64 (W.iMul .i64 s11.2.1.2.2.1 6364136223846793005) 1442695040888963407) 45)) 255) (W.iConv .i64 y17)) 255, (s11.2.1.1, W.iAdd .i64 s11.2.1.2.1 1, W.iAdd .i64 (W.iMul .i64 s11.2.1.2.2.1 6364136223846793005) 1442695040888963407, ()), s11.2.2) else k16 (W.iAnd .i64 (W.iXor .i64 (W.iShr .i64 (W.iAdd .i64 (W.iMul .i64 s11.2.1.2.2.1 6364136223846793005) 1442695040888963407) 33) (W.iShr .i64 (W.iAdd .i64 (W.iMul .i64 s11.2.1.2.2.1 6364136223846793005) 1442695040888963407) 45)) 255, (s11.2.1.1, s11.2.1.2.1, W.iAdd .i64 (W.iMul .i64 s11.2.1.2.2.1 6364136223846793005) 1442695040888963407, ()), s11.2.2)) fun k18 =>
  bif W.iLt s10.2.1.2.1 (W.lenI s10.2.1.1) then W.idxK s10.2.1.1 s10.2.1.2.1 fun y19 =>
  k18 (W.iAnd .i64 (W.iAdd .i64 (W.iAnd .i64 (W.iXor .i64 (W.iShr .i64 (W.iAdd .i64 (W.iMul .i64 s10.2.1.2.2.1 6364136223846793005) 1442695040888963407) 33) (W.iShr .i64 (W.iAdd .i64 (W.iMul .i64 s10.2.1.2.2.1 6364136223846793005) 1442695040888963407) 45)) 255) (W.iConv .i64 y19)) 255, (s10.2.1.1, W.iAdd .i64 s10.2.1.2.1 1, W.iAdd .i64 (W.iMul .i64 s10.2.1.2.2.1 6364136223846793005) 1442695040888963407, ()), s10.2.2) else k18 (W.iAnd .i64 (W.iXor .i64 (W.iShr .i64 (W.iAdd .i64 (W.iMul .i64 s10.2.1.2.2.1 6364136223846793005) 1442695040888963407) 33) (W.iShr .i64 (W.iAdd .i64 (W.iMul .i64 s10.2.1.2.2.1 6364136223846793005) 1442695040888963407) 45)) 255, (s10.2.1.1, s10.2.1.2.1, W.iAdd .i64 (W.iMul .i64 s10.2.1.2.2.1 6364136223846793005) 1442695040888963407, ()), s10.2.2)) fun k20 =>
  bif W.iLt s6.2.1.2.1 (W.lenI s6.2.1.1) then W.idxK s6.2.1.1 s6.2.1.2.1 fun y21 =>
  k20 (W.iAnd .i64 (W.iAdd .i64 (W.iAnd .i64 (W.iXor .i64 (W.iShr .i64 (W.iAdd .i64 (W.iMul .i64 s6.2.1.2.2.1 6364136223846793005) 1442695040888963407) 33) (W.iShr .i64 (W.iAdd .i64 (W.iMul .i64 s6.2.1.2.2.1 6364136223846793005) 1442695040888963407) 45)) 255) (W.iConv .i64 y21)) 255, (s6.2.1.1, W.iAdd .i64 s6.2.1.2.1 1, W.iAdd .i64 (W.iMul .i64 s6.2.1.2.2.1 6364136223846793005) 1442695040888963407, ()), s6.2.2) else k20 (W.iAnd .i64 (W.iXor .i64 (W.iShr .i64 (W.iAdd .i64 (W.iMul .i64 s6.2.1.2.2.1 6364136223846793005) 1442695040888963407) 33) (W.iShr .i64 (W.iAdd .i64 (W.iMul .i64 s6.2.1.2.2.1 6364136223846793005) 1442695040888963407) 45)) 255, (s6.2.1.1, s6.2.1.2.1, W.iAdd .i64 (W.iMul .i64 s6.2.1.2.2.1 6364136223846793005) 1442695040888963407, ()), s6.2.2) else some s6.2.2) NN (0, s4.2.1, [], ())) fun k22 =>
  bif W.iLt 0 (W.lenI x.1) then W.idxK x.1 0 fun y23 =>
  k22 (W.iAnd .i64 (W.iAdd .i64 (W.iAnd .i64 (W.iXor .i64 (W.iShr .i64 (W.iAdd .i64 (W.iMul .i64 s1.2.1 6364136223846793005) 1442695040888963407) 33) (W.iShr .i64 (W.iAdd .i64 (W.iMul .i64 s1.2.1 6364136223846793005) 1442695040888963407) 45)) 255) (W.iConv .i64 y23)) 255, (x.1, W.iAdd .i64 0 1, W.iAdd .i64 (W.iMul .i64 s1.2.1 6364136223846793005) 1442695040888963407, ()), ()) else k22 (W.iAnd .i64 (W.iXor .i64 (W.iShr .i64 (W.iAdd .i64 (W.iMul .i64 s1.2.1 6364136223846793005) 1442695040888963407) 33) (W.iShr .i64 (W.iAdd .i64 (W.iMul .i64 s1.2.1 6364136223846793005) 1442695040888963407) 45)) 255, (x.1, 0, W.iAdd .i64 (W.iMul .i64 s1.2.1 6364136223846793005) 1442695040888963407, ()), ())) NN (0, W.iAdd .i64 13101 (W.lenI x.1), ())
abbrev ce36 : CE := .con false sg36 (F36 WW)
theorem co36 : ConOK TT 36 sg36 (F36 WW) := con_fn (fn := inlF XX fn36) (ces := []) ents0 hn36 pm36 (by kernel_rfl) rfl rfl (fun x => by kernel_rfl)
theorem en36 : EntOK TT 36 ce36 := ent_sep co36 (by kernel_rfl) rfl
/- impl.within -/
def hn87 : Hints := []
def pm87 : List Nat := []
abbrev sg87 : Sig := ⟨[.dat I, .dat I, .dat I], [.bool]⟩
def F87 (W : Words) (x : Int × Int × Int × Unit) : Option (Bool × Unit) :=
  W.bindK (bif W.iGe x.1 x.2.1 then some (W.iLe x.1 x.2.2.1) else some false) fun y0 =>
  some (y0, ())
abbrev ce87 : CE := .con true sg87 (F87 WW)
theorem co87 : ConOK TT 87 sg87 (F87 WW) := con_fn (fn := inlF XX fn87) (ces := []) ents0 hn87 pm87 (by kernel_rfl) rfl rfl (fun x => by kernel_rfl)
theorem en87 : EntOK TT 87 ce87 := ent_fz co87 (by kernel_rfl) rfl rfl rfl
/- impl.ConfOk -/
def hn89 : Hints := [(5, (.sl 1 I), true), (19, (.sl 1 I), true), (29, (.sl 1 I), true)]
def pm89 : List Nat := []
abbrev sg89 : Sig := ⟨[.dat (.sl 1 I)], [.bool]⟩
def F89 (W : Words) (x : List Int × Unit) : Option (Bool × Unit) :=
  W.loopF (fun rec0 (s1 : Int × Unit) =>
  bif W.iLt s1.1 (W.lenI x.1) then W.idxK x.1 s1.1 fun y2 =>
  W.bindK (F87 W (y2, 1, 4, ())) fun y3 =>
  W.bindK (bif W.bNot y3.1 then some true else W.bindK (bif W.iGt s1.1 0 then W.idxK x.1 (W.iSub .i64 s1.1 1) fun y4 =>
  some (W.iGe y4 y2) else some false) fun y5 =>
  some y5) fun y6 =>
  bif y6 then some (false, ()) else rec0 (W.iAdd .i64 s1.1 1, ()) else W.bindK (F87 W (W.lenI x.1, 1, 4, ())) fun y7 =>
  some y7) NN (0, ())
abbrev ce89 : CE := .con true sg89 (F89 WW)
theorem co89 : ConOK TT 89 sg89 (F89 WW) := con_fn (fn := inlF XX fn89) (ces := [(87, ce87)]) (ents1 en87 ents0) hn89 pm89 (by kernel_rfl) rfl rfl (fun x => by kernel_rfl)
theorem en89 : EntOK TT 89 ce89 := ent_fz co89 (by kernel_rfl) rfl rfl rfl
/- impl.ReadConf -/
def hn110 : Hints := [(2, (.sl 1 I), true), (4, (.sl 1 I), true), (12, (.sl 1 I), true), (17, (.sl 1 I), true), (18, (.sl 1 I), true), (19, (.sl 1 I), true), (22, (.sl 1 I), true)]
def pm110 : List Nat := []
abbrev sg110 : Sig := ⟨[.dat .str], [(.sl 1 I), .bool]⟩
def F110 (W : Words) (x : List UInt8 × Unit) : Option (List Int × Bool × Unit) :=
  W.loopF (fun rec0 (s1 : Int × List Int × Unit) =>
  bif W.iLt s1.1 (W.lenI x.1) then W.idxK x.1 s1.1 fun y2 =>
  W.guardK (W.gApp s1.2.1 [W.iConv .i64 (W.byteI y2)] 1) <|
  rec0 (W.iAdd .i64 s1.1 1, W.cat s1.2.1 [W.iConv .i64 (W.byteI y2)], ()) else W.bindK (F89 W s1.2) fun y3 =>
  bif W.bNot y3.1 then some ([], false, ()) else some (s1.2.1, true, ())) NN (0, [], ())
abbrev ce110 : CE := .con false sg110 (F110 WW)
theorem co110 : ConOK TT 110 sg110 (F110 WW) := con_fn (fn := inlF XX fn110) (ces := [(89, ce89)]) (ents1 en89 ents0) hn110 pm110 (by kernel_rfl) rfl rfl (fun x => by kernel_rfl)
theorem en110 : EntOK TT 110 ce110 := ent_sep co110 (by kernel_rfl) rfl
/- impl.EntryOk -/
def hn103 : Hints := [(3, (.sl 1 I), true), (22, (.sl 1 I), true)]
def pm103 : List Nat := [1]
abbrev sg103 : Sig := ⟨[.dat KEntry], [.bool]⟩
def F103 (W : Words) (x : TEntry × Unit) : Option (Bool × Unit) :=
  W.bindK (F87 W (x.1.1, 0, 100000, ())) fun y0 =>
  bif W.bNot y0.1 then some (false, ()) else bif W.iEq x.1.2.1 1 then some (W.strEq x.1.2.2.1 (W.litS []), ()) else bif W.iEq x.1.2.1 2 then W.bindK (F110 W x.1.2.2) fun y1 =>
  some y1.2 else bif W.iEq x.1.2.1 3 then some (W.iLe (W.lenI x.1.2.2.1) 120, ()) else some (false, ())
abbrev ce103 : CE := .con true sg103 (F103 WW)
theorem co103 : ConOK TT 103 sg103 (F103 WW) := con_fn (fn := inlF XX fn103) (ces := [(87, ce87), (110, ce110)]) (ents1 en87 (ents1 en110 ents0)) hn103 pm103 (by kernel_rfl) rfl rfl (fun x => by kernel_rfl)
theorem en103 : EntOK TT 103 ce103 := ent_fz co103 (by kernel_rfl) rfl rfl rfl
/- impl.LogOk -/
def hn111 : Hints := [(1, KLog, true), (18, (.sl 3 KEntry), true), (26, (.sl 3 KEntry), true), (34, (.sl 3 KEntry), true)]
def pm111 : List Nat := [5, 1]
abbrev sg111 : Sig := ⟨[.dat KLog], [.bool]⟩
def F111 (W : Words) (x : TLog × Unit) : Option (Bool × Unit) :=
  W.bindK (F87 W (x.1.1, 0, 1000000, ())) fun y0 =>
  W.bindK (bif W.bNot y0.1 then some true else W.bindK (F87 W (x.1.2.1, 0, 100000, ())) fun y1 =>
  some (W.bNot y1.1)) fun y2 =>
  W.bindK (bif y2 then some true else some (W.iGt (W.lenI x.1.2.2.1) 60)) fun y3 =>
  W.bindK (bif y3 then some true else some (W.iGt (W.iAdd .i64 x.1.1 (W.lenI x.1.2.2.1)) 1000000)) fun y4 =>
  bif y4 then some (false, ()) else W.loopF (fun rec5 (s6 : Int × Int × Unit) =>
  bif W.iLt s6.2.1 (W.lenI x.1.2.2.1) then W.idxK x.1.2.2.1 s6.2.1 fun y7 =>
  W.bindK (F103 W (y7, ())) fun y8 =>
  W.bindK (bif W.bNot y8.1 then some true else some (W.iLt y7.1 s6.1)) fun y9 =>
  bif y9 then some (false, ()) else rec5 (y7.1, W.iAdd .i64 s6.2.1 1, ()) else some (true, ())) NN (x.1.2.1, 0, ())
abbrev ce111 : CE := .con true sg111 (F111 WW)
theorem co111 : ConOK TT 111 sg111 (F111 WW) := con_fn (fn := inlF XX fn111) (ces := [(87, ce87), (103, ce103)]) (ents1 en87 (ents1 en103 ents0)) hn111 pm111 (by kernel_rfl) rfl rfl (fun x => by kernel_rfl)
theorem en111 : EntOK TT 111 ce111 := ent_fz co111 (by kernel_rfl) rfl rfl rfl
/- impl.LogLast -/
def hn99 : Hints := [(1, KLog, true), (6, (.sl 3 KEntry), true), (19, (.sl 3 KEntry), true)]
def pm99 : List Nat := [1]
abbrev sg99 : Sig := ⟨[.dat KLog], [I, I]⟩
def F99 (W : Words) (x : TLog × Unit) : Option (Int × Int × Unit) :=
  bif W.iEq (W.lenI x.1.2.2.1) 0 then some (x.1.1, x.1.2.1, ()) else W.idxK x.1.2.2.1 (W.iSub .i64 (W.lenI x.1.2.2.1) 1) fun y0 =>
  some (W.iAdd .i64 x.1.1 (W.lenI x.1.2.2.1), y0.1, ())
abbrev ce99 : CE := .con true sg99 (F99 WW)
theorem co99 : ConOK TT 99 sg99 (F99 WW) := con_fn (fn := inlF XX fn99) (ces := []) ents0 hn99 pm99 (by kernel_rfl) rfl rfl (fun x => by kernel_rfl)
theorem en99 : EntOK TT 99 ce99 := ent_fz co99 (by kernel_rfl) rfl rfl rfl
/- impl.last -/
def hn102 : Hints := [(1, KLog, true), (6, (.sl 3 KEntry), true)]
def pm102 : List Nat := [1]
abbrev sg102 : Sig := ⟨[.dat KLog], [I]⟩
def F102 (W : Words) (x : TLog × Unit) : Option (Int × Unit) :=
  some (W.iAdd .i64 x.1.1 (W.lenI x.1.2.2.1), ())
abbrev ce102 : CE := .con true sg102 (F102 WW)
theorem co102 : ConOK TT 102 sg102 (F102 WW) := con_fn (fn := inlF XX fn102) (ces := []) ents0 hn102 pm102 (by kernel_rfl) rfl rfl (fun x => by kernel_rfl)
theorem en102 : EntOK TT 102 ce102 := ent_fz co102 (by kernel_rfl) rfl rfl rfl
/- slices.Equal[[]int,int] -/
def hn177 : Hints := [(6, (.sl 1 I), true), (8, (.sl 1 I), true), (11, (.sl 1 I), true), (16, (.sl 1 I), true), (20, (.sl 1 I), true)]
def pm177 : List Nat := []
abbrev sg177 : Sig := ⟨[.dat (.sl 1 I), .dat (.sl 1 I)], [.bool]⟩
def F177 (W : Words) (x : List Int × List Int × Unit) : Option (Bool × Unit) :=
  bif W.iNe (W.lenI x.1) (W.lenI x.2.1) then some (false, ()) else W.loopF (fun rec0 (s1 : Int × Unit) =>
  bif W.iLt s1.1 (W.lenI x.1) then W.idxK x.1 s1.1 fun y2 =>
  W.idxK x.2.1 s1.1 fun y3 =>
  bif W.iNe y2 y3 then some (false, ()) else rec0 (W.iAdd .i64 s1.1 1, ()) else some (true, ())) NN (0, ())
abbrev ce177 : CE := .con true sg177 (F177 WW)
theorem co177 : ConOK TT 177 sg177 (F177 WW) := con_fn (fn := inlF XX fn177) (ces := []) ents0 hn177 pm177 (by kernel_rfl) rfl rfl (fun x => by kernel_rfl)
theorem en177 : EntOK TT 177 ce177 := ent_fz co177 (by kernel_rfl) rfl rfl rfl
/- slices.IndexFunc[[]int,int] -/
def hn203 : Hints := [(6, (.sl 1 I), true), (12, (.sl 1 I), true)]
def pm203 : List Nat := []
abbrev sg203 : Sig := ⟨[.dat (.sl 1 I), .raw], [I]⟩
abbrev ce203 : CE := .inl sg203 (inlF XX fn203) hn203 pm203
theorem en203 : EntOK TT 203 ce203 := ent_inl hn203 pm203 (by kernel_rfl) (by kernel_rfl) rfl rfl rfl rfl rfl
/- impl.ConfAt -/
def hn44 : Hints := [(2, KNode, true), (4, (.sl 1 I), true), (7, (.sl 1 I), true), (11, (.sl 3 KEntry), true), (20, (.sl 3 KEntry), true), (28, (.sl 1 I), true), (46, (.sl 1 I), true), (48, (.sl 1 I), true), (49, (.sl 1 I), true)]
def pm44 : List Nat := [6, 2]
abbrev sg44 : Sig := ⟨[.dat KNode, .dat I], [(.sl 1 I)]⟩
def F44 (W : Words) (x : TNode × Int × Unit) : Option (List Int × Unit) :=
  W.loopF (fun rec0 (s1 : Int × Unit) =>
  bif W.iGe s1.1 0 then W.idxK x.1.2.2.2.2.2.2.2.2.1 s1.1 fun y2 =>
  W.bindK (F110 W y2.2.2) fun y3 =>
  W.bindK (bif y3.2.1 then some (W.iEq y2.2.1 2) else some false) fun y4 =>
  W.bindK (bif y4 then some (W.iLe (W.iAdd .i64 (W.iAdd .i64 x.1.2.2.2.2.2.2.1 s1.1) 1) x.2.1) else some false) fun y5 =>
  bif y5 then some (y3.1, ()) else rec0 (W.iSub .i64 s1.1 1, ()) else W.guardK (W.gApp [] x.1.2.2.2.2.2.1 1) <|
  some (W.cat [] x.1.2.2.2.2.2.1, ())) NN (W.iSub .i64 (W.lenI x.1.2.2.2.2.2.2.2.2.1) 1, ())
abbrev ce44 : CE := .con false sg44 (F44 WW)
theorem co44 : ConOK TT 44 sg44 (F44 WW) := con_fn (fn := inlF XX fn44) (ces := [(110, ce110)]) (ents1 en110 ents0) hn44 pm44 (by kernel_rfl) rfl rfl (fun x => by kernel_rfl)
theorem en44 : EntOK TT 44 ce44 := ent_sep co44 (by kernel_rfl) rfl
/- impl.ConfOf -/
def hn43 : Hints := [(1, KNode, true), (2, (.sl 1 I), true), (3, KNode, true), (4, (.sl 1 I), true)]
def pm43 : List Nat := [1]
abbrev sg43 : Sig := ⟨[.dat KNode], [(.sl 1 I)]⟩
def F43 (W : Words) (x : TNode × Unit) : Option (List Int × Unit) :=
  W.bindK (F44 W (x.1, 9223372036854775807, ())) fun y0 =>
  some y0
abbrev ce43 : CE := .con false sg43 (F43 WW)
theorem co43 : ConOK TT 43 sg43 (F43 WW) := con_fn (fn := inlF XX fn43) (ces := [(44, ce44)]) (ents1 en44 ents0) hn43 pm43 (by kernel_rfl) rfl rfl (fun x => by kernel_rfl)
theorem en43 : EntOK TT 43 ce43 := ent_sep co43 (by kernel_rfl) rfl
/- impl.othersOf$1 -/
def hn172 : Hints := []
def pm172 : List Nat := []
abbrev sg172 : Sig := ⟨[.dat I, .raw], [.bool]⟩
abbrev ce172 : CE := .inl sg172 (inlF XX fn172) hn172 pm172
theorem en172 : EntOK TT 172 ce172 := ent_inl hn172 pm172 (by kernel_rfl) (by kernel_rfl) rfl rfl rfl rfl rfl
/- impl.othersOf -/
def hn100 : Hints := [(1, KNode, true), (2, (.sl 1 I), true), (3, KNode, true), (4, (.sl 1 I), true), (6, (.sl 1 I), true), (65540, (.sl 1 I), true), (65544, (.sl 1 I), true), (65549, (.sl 1 I), true), (65553, (.sl 1 I), true), (65558, (.sl 1 I), true), (65566, (.sl 1 I), true), (65572, (.sl 1 I), true), (65574, (.sl 1 I), true), (65575, (.sl 1 I), true), (65577, (.sl 1 I), true)]
def pm100 : List Nat := [1]
abbrev sg100 : Sig := ⟨[.dat KNode], [(.sl 1 I)]⟩
def F100 (W : Words) (x : TNode × Unit) : Option (List Int × Unit) :=
  W.bindK (F43 W x) fun y0 =>
  W.bindK (W.loopF (fun rec1 (s2 : TNode × Int × Unit) =>
  bif W.iLt s2.2.1 (W.lenI y0.1) then W.idxK y0.1 s2.2.1 fun y3 =>
  W.bindK (some (W.iEq y3 s2.1.1, ())) fun y4 =>
  bif y4.1 then some s2.2 else rec1 (s2.1, W.iAdd .i64 s2.2.1 1, ()) else some ((-1), ())) NN (x.1, 0, ())) fun y5 =>
  bif W.iEq y5.1 (-1) then some y0 else W.loopF (fun rec6 (s7 : Int × Int × List Int × Unit) =>
  bif W.iLt s7.1 (W.lenI s7.2.2.1) then W.idxK s7.2.2.1 s7.1 fun y8 =>
  W.bindK (some (W.iEq y8 x.1.1, ())) fun y9 =>
  W.joinK (fun (s10 : Int × List Int × Unit) =>
  rec6 (W.iAdd .i64 s7.1 1, s10)) fun k11 =>
  bif W.bNot y9.1 then W.idxK s7.2.2.1 s7.2.1 fun y12 =>
  k11 (W.iAdd .i64 s7.2.1 1, W.setL s7.2.2.1 (W.toN s7.2.1) y8, ()) else k11 s7.2 else W.bndK (W.lenN s7.2.2.1) s7.2.1 (W.ofN (W.lenN s7.2.2.1)) fun l13 n14 =>
  W.bndK (W.lenN (W.cat (W.sub s7.2.2.1 0 l13) (W.cat (W.repL n14 0) (W.dropL (W.addN l13 n14) s7.2.2.1)))) 0 s7.2.1 fun l15 n16 =>
  some (W.sub (W.cat (W.sub s7.2.2.1 0 l13) (W.cat (W.repL n14 0) (W.dropL (W.addN l13 n14) s7.2.2.1))) l15 n16, ())) NN (W.iAdd .i64 y5.1 1, y5.1, y0)
abbrev ce100 : CE := .con false sg100 (F100 WW)
theorem co100 : ConOK TT 100 sg100 (F100 WW) := con_fn (fn := inlF XX fn100) (ces := [(203, ce203), (43, ce43), (172, ce172)]) (ents1 en203 (ents1 en43 (ents1 en172 ents0))) hn100 pm100 (by kernel_rfl) rfl rfl (fun x => by kernel_rfl)
theorem en100 : EntOK TT 100 ce100 := ent_sep co100 (by kernel_rfl) rfl
/- impl.peersOk -/
def hn112 : Hints := [(1, KNode, true), (3, (.sl 1 I), true), (7, (.sl 4 KPeer), true), (13, (.sl 1 I), true), (16, (.sl 1 I), true), (17, (.sl 1 I), true), (21, KLog, true), (42, (.sl 1 I), true), (43, KNode, true), (44, (.sl 1 I), true)]
def pm112 : List Nat := [5, 1]
abbrev sg112 : Sig := ⟨[.dat KNode], [.bool]⟩
def F112 (W : Words) (x : TNode × Unit) : Option (Bool × Unit) :=
  W.loopF (fun rec0 (s1 : Int × List Int × Unit) =>
  bif W.iLt s1.1 (W.lenI x.1.2.2.2.2.2.2.2.2.2.2.2.2.2.1) then W.idxK x.1.2.2.2.2.2.2.2.2.2.2.2.2.2.1 s1.1 fun y2 =>
  W.guardK (W.gApp s1.2.1 [y2.1] 1) <|
  W.bindK (F102 W ((x.1.2.2.2.2.2.2.1, x.1.2.2.2.2.2.2.2.1, x.1.2.2.2.2.2.2.2.2.1, ()), ())) fun y3 =>
  W.bindK (F87 W (y2.2.1, 1, W.iAdd .i64 y3.1 1, ())) fun y4 =>
  W.bindK (bif W.bNot y4.1 then some true else W.bindK (F87 W (y2.2.2.1, 0, W.iSub .i64 y2.2.1 1, ())) fun y5 =>
  some (W.bNot y5.1)) fun y6 =>
  W.bindK (bif y6 then some true else W.bindK (F87 W (y2.2.2.2.1, 0, 20000, ())) fun y7 =>
  some (W.bNot y7.1)) fun y8 =>
  bif y8 then some (false, ()) else rec0 (W.iAdd .i64 s1.1 1, W.cat s1.2.1 [y2.1], ()) else W.bindK (F100 W x) fun y9 =>
  W.bindK (F177 W (s1.2.1, y9)) fun y10 =>
  some y10) NN (0, [], ())
abbrev ce112 : CE := .con true sg112 (F112 WW)
theorem co112 : ConOK TT 112 sg112 (F112 WW) := con_fn (fn := inlF XX fn112) (ces := [(87, ce87), (102, ce102), (177, ce177), (100, ce100)]) (ents1 en87 (ents1 en102 (ents1 en177 (ents1 en100 ents0)))) hn112 pm112 (by kernel_rfl) rfl rfl (fun x => by kernel_rfl)
theorem en112 : EntOK TT 112 ce112 := ent_fz co112 (by kernel_rfl) rfl rfl rfl
/- impl.NodeOk -/
def hn45 : Hints := [(1, KNode, true), (13, (.sl 1 I), true), (19, KLog, true), (25, KLog, true), (75, (.sl 1 I), true), (90, (.sl 1 I), true), (105, (.sl 1 I), true), (112, KNode, true), (115, (.sl 4 KPeer), true)]
def pm45 : List Nat := [1]
abbrev sg45 : Sig := ⟨[.dat KNode], [.bool]⟩
def F45 (W : Words) (x : TNode × Unit) : Option (Bool × Unit) :=
  W.bindK (F87 W (x.1.1, 1, 4, ())) fun y0 =>
  W.bindK (bif W.bNot y0.1 then some true else W.bindK (F89 W (x.1.2.2.2.2.2.1, ())) fun y1 =>
  some (W.bNot y1.1)) fun y2 =>
  W.bindK (bif y2 then some true else W.bindK (F111 W ((x.1.2.2.2.2.2.2.1, x.1.2.2.2.2.2.2.2.1, x.1.2.2.2.2.2.2.2.2.1, ()), ())) fun y3 =>
  some (W.bNot y3.1)) fun y4 =>
  bif y4 then some (false, ()) else W.bindK (F99 W ((x.1.2.2.2.2.2.2.1, x.1.2.2.2.2.2.2.2.1, x.1.2.2.2.2.2.2.2.2.1, ()), ())) fun y5 =>
  W.bindK (F87 W (x.1.2.1, y5.2.1, 100000, ())) fun y6 =>
  W.bindK (bif W.bNot y6.1 then some true else W.bindK (F87 W (x.1.2.2.1, 0, 4, ())) fun y7 =>
  some (W.bNot y7.1)) fun y8 =>
  W.bindK (bif y8 then some true else W.bindK (F87 W (x.1.2.2.2.2.1, 0, 4, ())) fun y9 =>
  some (W.bNot y9.1)) fun y10 =>
  W.bindK (bif y10 then some true else W.bindK (F87 W (x.1.2.2.2.1, 0, 2, ())) fun y11 =>
  some (W.bNot y11.1)) fun y12 =>
  W.bindK (bif y12 then some true else W.bindK (F87 W (x.1.2.2.2.2.2.2.2.2.2.1, x.1.2.2.2.2.2.2.1, y5.1, ())) fun y13 =>
  some (W.bNot y13.1)) fun y14 =>
  W.bindK (bif y14 then some true else W.bindK (F87 W (x.1.2.2.2.2.2.2.2.2.2.2.2.1, 1, 20, ())) fun y15 =>
  some (W.bNot y15.1)) fun y16 =>
  W.bindK (bif y16 then some true else W.bindK (F87 W (x.1.2.2.2.2.2.2.2.2.2.2.1, 0, 20, ())) fun y17 =>
  some (W.bNot y17.1)) fun y18 =>
  bif y18 then some (false, ()) else W.loopF (fun rec19 (s20 : Int × Unit) =>
  bif W.iLt s20.1 (W.lenI x.1.2.2.2.2.2.2.2.2.2.2.2.2.1) then W.idxK x.1.2.2.2.2.2.2.2.2.2.2.2.2.1 s20.1 fun y21 =>
  W.bindK (F87 W (y21, 1, 4, ())) fun y22 =>
  W.bindK (bif W.bNot y22.1 then some true else W.bindK (bif W.iGt s20.1 0 then W.idxK x.1.2.2.2.2.2.2.2.2.2.2.2.2.1 (W.iSub .i64 s20.1 1) fun y23 =>
  some (W.iGe y23 y21) else some false) fun y24 =>
  some y24) fun y25 =>
  bif y25 then some (false, ()) else rec19 (W.iAdd .i64 s20.1 1, ()) else W.bindK (bif W.iNe x.1.2.2.2.1 1 then some (W.iGt (W.lenI x.1.2.2.2.2.2.2.2.2.2.2.2.2.1) 0) else some false) fun y26 =>
  bif y26 then some (false, ()) else bif W.iEq x.1.2.2.2.1 2 then W.bindK (F112 W x) fun y27 =>
  some y27 else some (W.iEq (W.lenI x.1.2.2.2.2.2.2.2.2.2.2.2.2.2.1) 0, ())) NN (0, ())
abbrev ce45 : CE := .con true sg45 (F45 WW)
theorem co45 : ConOK TT 45 sg45 (F45 WW) := con_fn (fn := inlF XX fn45) (ces := [(111, ce111), (89, ce89), (87, ce87), (99, ce99), (112, ce112)]) (ents1 en111 (ents1 en89 (ents1 en87 (ents1 en99 (ents1 en112 ents0))))) hn45 pm45 (by kernel_rfl) rfl rfl (fun x => by kernel_rfl)
theorem en45 : EntOK TT 45 ce45 := ent_fz co45 (by kernel_rfl) rfl rfl rfl
/- impl.NodeNew -/
def hn37 : Hints := [(4, KNode, true), (6, KNode, true), (8, (.sl 1 I), true), (9, (.sl 1 I), true), (10, KNode, true), (11, KNode, true), (14, KNode, true), (15, KNode, true)]
def pm37 : List Nat := [6]
abbrev sg37 : Sig := ⟨[.dat I, .dat (.sl 1 I)], [KNode, .bool]⟩
def F37 (W : Words) (x : Int × List Int × Unit) : Option (TNode × Bool × Unit) :=
  W.guardK (W.gApp [] x.2.1 1) <|
  W.bindK (F45 W ((x.1, 0, 0, 0, 0, W.cat [] x.2.1, 0, 0, [], 0, 0, 20, [], [], ()), ())) fun y0 =>
  bif W.bNot y0.1 then some ((0, 0, 0, 0, 0, [], 0, 0, [], 0, 0, 0, [], [], ()), false, ()) else some ((x.1, 0, 0, 0, 0, W.cat [] x.2.1, 0, 0, [], 0, 0, 20, [], [], ()), true, ())
abbrev ce37 : CE := .con false sg37 (F37 WW)
theorem co37 : ConOK TT 37 sg37 (F37 WW) := con_fn (fn := inlF XX fn37) (ces := [(45, ce45)]) (ents1 en45 ents0) hn37 pm37 (by kernel_rfl) rfl rfl (fun x => by kernel_rfl)
theorem en37 : EntOK TT 37 ce37 := ent_sep co37 (by kernel_rfl) rfl
/- impl.copyLog -/
def hn168 : Hints := [(1, KLog, true), (2, KLog, true), (4, (.sl 3 KEntry), true), (5, (.sl 3 KEntry), true), (7, KLog, true)]
def pm168 : List Nat := []
abbrev sg168 : Sig := ⟨[.dat KLog], [KLog]⟩
def F168 (W : Words) (x : TLog × Unit) : Option (TLog × Unit) :=
  W.guardK (W.gApp [] x.1.2.2.1 3) <|
  some ((x.1.1, x.1.2.1, W.cat [] x.1.2.2.1, ()), ())
abbrev ce168 : CE := .con false sg168 (F168 WW)
theorem co168 : ConOK TT 168 sg168 (F168 WW) := con_fn (fn := inlF XX fn168) (ces := []) ents0 hn168 pm168 (by kernel_rfl) rfl rfl (fun x => by kernel_rfl)
theorem en168 : EntOK TT 168 ce168 := ent_sep co168 (by kernel_rfl) rfl
/- impl.copyNode -/
def hn94 : Hints := [(1, KNode, true), (2, KNode, true), (4, (.sl 1 I), true), (5, (.sl 1 I), true), (8, KLog, true), (9, KLog, true), (12, (.sl 1 I), true), (13, (.sl 1 I), true), (16, (.sl 4 KPeer), true), (17, (.sl 4 KPeer), true), (19, KNode, true)]
def pm94 : List Nat := []
abbrev sg94 : Sig := ⟨[.dat KNode], [KNode]⟩
def F94 (W : Words) (x : TNode × Unit) : Option (TNode × Unit) :=
  W.guardK (W.gApp [] x.1.2.2.2.2.2.1 1) <|
  W.bindK (F168 W ((x.1.2.2.2.2.2.2.1, x.1.2.2.2.2.2.2.2.1, x.1.2.2.2.2.2.2.2.2.1, ()), ())) fun y0 =>
  W.guardK (W.gApp [] x.1.2.2.2.2.2.2.2.2.2.2.2.2.1 1) <|
  W.guardK (W.gApp [] x.1.2.2.2.2.2.2.2.2.2.2.2.2.2.1 4) <|
  some ((x.1.1, x.1.2.1, x.1.2.2.1, x.1.2.2.2.1, x.1.2.2.2.2.1, W.cat [] x.1.2.2.2.2.2.1, y0.1.1, y0.1.2.1, y0.1.2.2.1, x.1.2.2.2.2.2.2.2.2.2.1, x.1.2.2.2.2.2.2.2.2.2.2.1, x.1.2.2.2.2.2.2.2.2.2.2.2.1, W.cat [] x.1.2.2.2.2.2.2.2.2.2.2.2.2.1, W.cat [] x.1.2.2.2.2.2.2.2.2.2.2.2.2.2.1, ()), ())
abbrev ce94 : CE := .con false sg94 (F94 WW)
theorem co94 : ConOK TT 94 sg94 (F94 WW) := con_fn (fn := inlF XX fn94) (ces := [(168, ce168)]) (ents1 en168 ents0) hn94 pm94 (by kernel_rfl) rfl rfl (fun x => by kernel_rfl)
theorem en94 : EntOK TT 94 ce94 := ent_sep co94 (by kernel_rfl) rfl
/- (*impl.core).tell -/
def hn101 : Hints := [(3, KMessage, true), (4, KCore, true), (9, KCore, true), (16, KCore, true), (17, KCore, true), (20, (.sl 12 KMessage), true), (21, KMessage, true), (22, (.sl 12 KMessage), true), (23, (.sl 12 KMessage), true), (1000000, KCore, true)]
def pm101 : List Nat := []
abbrev sg101 : Sig := ⟨[.cell KCore, .own KMessage], []⟩
def F101 (W : Words) (x : TCore × TMessage × Unit) : Option (TCore × Unit) :=
  W.guardK (W.gApp x.1.2.2.2.2.2.2.2.2.2.2.2.2.2.2.1 [(x.2.1.1, x.1.1, x.2.1.2.2.1, x.1.2.1, x.2.1.2.2.2.2)] 12) <|
  some ((x.1.1, x.1.2.1, x.1.2.2.1, x.1.2.2.2.1, x.1.2.2.2.2.1, x.1.2.2.2.2.2.1, x.1.2.2.2.2.2.2.1, x.1.2.2.2.2.2.2.2.1, x.1.2.2.2.2.2.2.2.2.1, x.1.2.2.2.2.2.2.2.2.2.1, x.1.2.2.2.2.2.2.2.2.2.2.1, x.1.2.2.2.2.2.2.2.2.2.2.2.1, x.1.2.2.2.2.2.2.2.2.2.2.2.2.1, x.1.2.2.2.2.2.2.2.2.2.2.2.2.2.1, W.cat x.1.2.2.2.2.2.2.2.2.2.2.2.2.2.2.1 [(x.2.1.1, x.1.1, x.2.1.2.2.1, x.1.2.1, x.2.1.2.2.2.2)], ()), ())
abbrev ce101 : CE := .con false sg101 (F101 WW)
theorem co101 : ConOK TT 101 sg101 (F101 WW) := con_fn (fn := inlF XX fn101) (ces := []) ents0 hn101 pm101 (by kernel_rfl) rfl rfl (fun x => by kernel_rfl)
theorem en101 : EntOK TT 101 ce101 := ent_sep co101 (by kernel_rfl) rfl
/- impl.hasEntry -/
def hn176 : Hints := [(2, KLog, true), (15, (.sl 3 KEntry), true)]
def pm176 : List Nat := [2]
abbrev sg176 : Sig := ⟨[.dat KLog, .dat I], [.bool]⟩
def F176 (W : Words) (x : TLog × Int × Unit) : Option (Bool × Unit) :=
  W.bindK (bif W.iGt x.2.1 x.1.1 then W.bindK (F87 W (W.iSub .i64 x.2.1 x.1.1, 1, W.lenI x.1.2.2.1, ())) fun y0 =>
  some y0.1 else some false) fun y1 =>
  some (y1, ())
abbrev ce176 : CE := .con true sg176 (F176 WW)
theorem co176 : ConOK TT 176 sg176 (F176 WW) := con_fn (fn := inlF XX fn176) (ces := [(87, ce87)]) (ents1 en87 ents0) hn176 pm176 (by kernel_rfl) rfl rfl (fun x => by kernel_rfl)
theorem en176 : EntOK TT 176 ce176 := ent_fz co176 (by kernel_rfl) rfl rfl rfl
/- impl.LogTerm -/
def hn109 : Hints := [(2, KLog, true), (13, KLog, true), (17, (.sl 3 KEntry), true)]
def pm109 : List Nat := [2]
abbrev sg109 : Sig := ⟨[.dat KLog, .dat I], [I]⟩
def F109 (W : Words) (x : TLog × Int × Unit) : Option (Int × Unit) :=
  bif W.iEq x.2.1 x.1.1 then some (x.1.2.1, ()) else W.bindK (F176 W x) fun y0 =>
  bif y0.1 then W.idxK x.1.2.2.1 (W.iSub .i64 (W.iSub .i64 x.2.1 x.1.1) 1) fun y1 =>
  some (y1.1, ()) else some ((-1), ())
abbrev ce109 : CE := .con true sg109 (F109 WW)
theorem co109 : ConOK TT 109 sg109 (F109 WW) := con_fn (fn := inlF XX fn109) (ces := [(176, ce176)]) (ents1 en176 ents0) hn109 pm109 (by kernel_rfl) rfl rfl (fun x => by kernel_rfl)
theorem en109 : EntOK TT 109 ce109 := ent_fz co109 (by kernel_rfl) rfl rfl rfl
/- (*impl.core).send -/
def hn169 : Hints := [(5, KLog, true), (7, (.sl 3 KEntry), true), (8, KCore, true), (12, (.sl 4 KPeer), true), (15, KCore, true), (19, KLog, true), (36, (.sl 3 KEntry), true), (39, (.sl 3 KEntry), true), (44, (.sl 3 KEntry), true), (45, (.sl 3 KEntry), true), (46, KCore, true), (56, KLog, true), (63, KCore, true), (68, (.sl 3 KEntry), true), (69, KMessage, true), (71, KCore, true), (84, KCore, true), (88, (.sl 1 I), true), (89, (.sl 1 I), true), (90, KMessage, true), (1000000, KCore, true)]
def pm169 : List Nat := [5]
abbrev sg169 : Sig := ⟨[.cell KCore, .dat I], []⟩
def F169 (W : Words) (x : TCore × Int × Unit) : Option (TCore × Unit) :=
  W.idxK x.1.2.2.2.2.2.2.2.2.2.2.2.2.2.1 x.2.1 fun y0 =>
  bif W.iGt y0.2.1 x.1.2.2.2.2.2.2.1 then W.bndK (W.lenN x.1.2.2.2.2.2.2.2.2.1) (W.iSub .i64 (W.iSub .i64 y0.2.1 x.1.2.2.2.2.2.2.1) 1) (W.iMin (W.lenI x.1.2.2.2.2.2.2.2.2.1) (W.iAdd .i64 (W.iSub .i64 (W.iSub .i64 y0.2.1 x.1.2.2.2.2.2.2.1) 1) 4)) fun l1 n2 =>
  W.guardK (W.gApp [] (W.sub x.1.2.2.2.2.2.2.2.2.1 l1 n2) 3) <|
  W.bindK (F109 W ((x.1.2.2.2.2.2.2.1, x.1.2.2.2.2.2.2.2.1, x.1.2.2.2.2.2.2.2.2.1, ()), W.iSub .i64 y0.2.1 1, ())) fun y3 =>
  W.bindK (F101 W (x.1, (3, 0, y0.1, 0, W.iSub .i64 y0.2.1 1, y3.1, x.1.2.2.2.2.2.2.2.2.2.1, false, W.cat [] (W.sub x.1.2.2.2.2.2.2.2.2.1 l1 n2), [], W.litS [], false, ()), ())) fun y4 =>
  some y4 else W.guardK (W.gApp [] x.1.2.2.2.2.2.1 1) <|
  W.bindK (F101 W (x.1, (5, 0, y0.1, 0, x.1.2.2.2.2.2.2.1, x.1.2.2.2.2.2.2.2.1, y0.2.2.2.1, false, [], W.cat [] x.1.2.2.2.2.2.1, W.litS [], false, ()), ())) fun y5 =>
  some y5
abbrev ce169 : CE := .con false sg169 (F169 WW)
theorem co169 : ConOK TT 169 sg169 (F169 WW) := con_fn (fn := inlF XX fn169) (ces := [(101, ce101), (109, ce109)]) (ents1 en101 (ents1 en109 ents0)) hn169 pm169 (by kernel_rfl) rfl rfl (fun x => by kernel_rfl)
theorem en169 : EntOK TT 169 ce169 := ent_sep co169 (by kernel_rfl) rfl
/- (*impl.core).sendAll -/
def hn95 : Hints := [(3, KCore, true), (7, (.sl 4 KPeer), true), (12, KCore, true), (1000000, KCore, true)]
def pm95 : List Nat := []
abbrev sg95 : Sig := ⟨[.cell KCore], []⟩
def F95 (W : Words) (x : TCore × Unit) : Option (TCore × Unit) :=
  W.loopF (fun rec0 (s1 : Int × TCore × Unit) =>
  bif W.iLt s1.1 (W.lenI x.1.2.2.2.2.2.2.2.2.2.2.2.2.2.1) then W.bindK (F169 W (s1.2.1, s1.1, ())) fun y2 =>
  rec0 (W.iAdd .i64 s1.1 1, y2) else some s1.2) NN (0, x)
abbrev ce95 : CE := .con false sg95 (F95 WW)
theorem co95 : ConOK TT 95 sg95 (F95 WW) := con_fn (fn := inlF XX fn95) (ces := [(169, ce169)]) (ents1 en169 ents0) hn95 pm95 (by kernel_rfl) rfl rfl (fun x => by kernel_rfl)
theorem en95 : EntOK TT 95 ce95 := ent_sep co95 (by kernel_rfl) rfl
/- slices.Index[[]int,int] -/
def hn170 : Hints := [(6, (.sl 1 I), true), (12, (.sl 1 I), true)]
def pm170 : List Nat := []
abbrev sg170 : Sig := ⟨[.dat (.sl 1 I), .dat I], [I]⟩
def F170 (W : Words) (x : List Int × Int × Unit) : Option (Int × Unit) :=
  W.loopF (fun rec0 (s1 : Int × Unit) =>
  bif W.iLt s1.1 (W.lenI x.1) then W.idxK x.1 s1.1 fun y2 =>
  bif W.iEq x.2.1 y2 then some s1 else rec0 (W.iAdd .i64 s1.1 1, ()) else some ((-1), ())) NN (0, ())
abbrev ce170 : CE := .con true sg170 (F170 WW)
theorem co170 : ConOK TT 170 sg170 (F170 WW) := con_fn (fn := inlF XX fn170) (ces := []) ents0 hn170 pm170 (by kernel_rfl) rfl rfl (fun x => by kernel_rfl)
theorem en170 : EntOK TT 170 ce170 := ent_fz co170 (by kernel_rfl) rfl rfl rfl
/- slices.Contains[[]int,int] -/
def hn96 : Hints := [(5, (.sl 1 I), true)]
def pm96 : List Nat := []
abbrev sg96 : Sig := ⟨[.dat (.sl 1 I), .dat I], [.bool]⟩
def F96 (W : Words) (x : List Int × Int × Unit) : Option (Bool × Unit) :=
  W.bindK (F170 W x) fun y0 =>
  some (W.iGe y0.1 0, ())
abbrev ce96 : CE := .con true sg96 (F96 WW)
theorem co96 : ConOK TT 96 sg96 (F96 WW) := con_fn (fn := inlF XX fn96) (ces := [(170, ce170)]) (ents1 en170 ents0) hn96 pm96 (by kernel_rfl) rfl rfl (fun x => by kernel_rfl)
theorem en96 : EntOK TT 96 ce96 := ent_fz co96 (by kernel_rfl) rfl rfl rfl
/- impl.Most -/
def hn97 : Hints := [(8, (.sl 1 I), true), (14, (.sl 1 I), true), (20, (.sl 1 I), true), (25, (.sl 1 I), true)]
def pm97 : List Nat := []
abbrev sg97 : Sig := ⟨[.dat (.sl 1 I), .dat (.sl 1 I)], [.bool]⟩
def F97 (W : Words) (x : List Int × List Int × Unit) : Option (Bool × Unit) :=
  W.loopF (fun rec0 (s1 : Int × Int × Unit) =>
  bif W.iLt s1.1 (W.lenI x.1) then W.idxK x.1 s1.1 fun y2 =>
  W.bindK (F96 W (x.2.1, y2, ())) fun y3 =>
  W.joinK (fun (s4 : Int × Unit) =>
  rec0 (W.iAdd .i64 s1.1 1, s4)) fun k5 =>
  bif y3.1 then k5 (W.iAdd .i64 s1.2.1 1, ()) else k5 s1.2 else W.bindK (F89 W (x.1, ())) fun y6 =>
  W.bindK (bif y6.1 then some (W.iGt (W.iMul .i64 2 s1.2.1) (W.lenI x.1)) else some false) fun y7 =>
  some (y7, ())) NN (0, 0, ())
abbrev ce97 : CE := .con true sg97 (F97 WW)
theorem co97 : ConOK TT 97 sg97 (F97 WW) := con_fn (fn := inlF XX fn97) (ces := [(96, ce96), (89, ce89)]) (ents1 en96 (ents1 en89 ents0)) hn97 pm97 (by kernel_rfl) rfl rfl (fun x => by kernel_rfl)
theorem en97 : EntOK TT 97 ce97 := ent_fz co97 (by kernel_rfl) rfl rfl rfl
/- impl.lastConf -/
def hn173 : Hints := [(1, KLog, true), (5, (.sl 3 KEntry), true), (13, (.sl 3 KEntry), true)]
def pm173 : List Nat := [1]
abbrev sg173 : Sig := ⟨[.dat KLog], [I]⟩
def F173 (W : Words) (x : TLog × Unit) : Option (Int × Unit) :=
  W.loopF (fun rec0 (s1 : Int × Unit) =>
  bif W.iGe s1.1 0 then W.idxK x.1.2.2.1 s1.1 fun y2 =>
  bif W.iEq y2.2.1 2 then some (W.iAdd .i64 (W.iAdd .i64 x.1.1 s1.1) 1, ()) else rec0 (W.iSub .i64 s1.1 1, ()) else some (0, ())) NN (W.iSub .i64 (W.lenI x.1.2.2.1) 1, ())
abbrev ce173 : CE := .con true sg173 (F173 WW)
theorem co173 : ConOK TT 173 sg173 (F173 WW) := con_fn (fn := inlF XX fn173) (ces := []) ents0 hn173 pm173 (by kernel_rfl) rfl rfl (fun x => by kernel_rfl)
theorem en173 : EntOK TT 173 ce173 := ent_fz co173 (by kernel_rfl) rfl rfl rfl
/- (*impl.core).commit -/
def hn107 : Hints := [(2, KNode, true), (4, (.sl 1 I), true), (7, KCore, true), (10, KNode, true), (13, KLog, true), (16, KNode, true), (23, KNode, true), (27, (.sl 1 I), true), (28, KNode, true), (31, (.sl 4 KPeer), true), (41, (.sl 1 I), true), (44, (.sl 1 I), true), (45, (.sl 1 I), true), (47, KNode, true), (50, KLog, true), (53, KNode, true), (59, KNode, true), (61, KNode, true), (62, (.sl 1 I), true), (63, (.sl 1 I), true), (66, KNode, true), (70, KNode, true), (76, KNode, true), (78, KNode, true), (79, (.sl 1 I), true), (80, KNode, true), (88, KNode, true), (91, KLog, true), (93, KNode, true), (99, KNode, true), (100, KNode, true), (101, KNode, true), (1000000, KCore, true)]
def pm107 : List Nat := [6]
abbrev sg107 : Sig := ⟨[.cell KCore], []⟩
def F107 (W : Words) (x : TCore × Unit) : Option (TCore × Unit) :=
  W.bindK (F102 W ((x.1.2.2.2.2.2.2.1, x.1.2.2.2.2.2.2.2.1, x.1.2.2.2.2.2.2.2.2.1, ()), ())) fun y0 =>
  W.joinK (fun (s1 : TCore × Unit) =>
  bif W.iEq s1.1.2.2.2.1 2 then W.bindK (F43 W ((s1.1.1, s1.1.2.1, s1.1.2.2.1, s1.1.2.2.2.1, s1.1.2.2.2.2.1, s1.1.2.2.2.2.2.1, s1.1.2.2.2.2.2.2.1, s1.1.2.2.2.2.2.2.2.1, s1.1.2.2.2.2.2.2.2.2.1, s1.1.2.2.2.2.2.2.2.2.2.1, s1.1.2.2.2.2.2.2.2.2.2.2.1, s1.1.2.2.2.2.2.2.2.2.2.2.2.1, s1.1.2.2.2.2.2.2.2.2.2.2.2.2.1, s1.1.2.2.2.2.2.2.2.2.2.2.2.2.2.1, ()), ())) fun y2 =>
  W.bindK (F96 W (y2.1, s1.1.1, ())) fun y3 =>
  bif W.bNot y3.1 then W.bindK (F173 W ((s1.1.2.2.2.2.2.2.1, s1.1.2.2.2.2.2.2.2.1, s1.1.2.2.2.2.2.2.2.2.1, ()), ())) fun y4 =>
  bif W.iLe y4.1 s1.1.2.2.2.2.2.2.2.2.2.1 then some ((s1.1.1, s1.1.2.1, s1.1.2.2.1, 0, 0, s1.1.2.2.2.2.2.1, s1.1.2.2.2.2.2.2.1, s1.1.2.2.2.2.2.2.2.1, s1.1.2.2.2.2.2.2.2.2.1, s1.1.2.2.2.2.2.2.2.2.2.1, s1.1.2.2.2.2.2.2.2.2.2.2.1, s1.1.2.2.2.2.2.2.2.2.2.2.2.1, s1.1.2.2.2.2.2.2.2.2.2.2.2.2.1, [], s1.1.2.2.2.2.2.2.2.2.2.2.2.2.2.2), ()) else some s1 else some s1 else some s1) fun k5 =>
  W.loopF (fun rec6 (s7 : Int × TCore × Unit) =>
  bif W.iGt s7.1 s7.2.1.2.2.2.2.2.2.2.2.2.1 then W.loopF (fun rec8 (s9 : Int × TCore × List Int × Unit) =>
  bif W.iLt s9.1 (W.lenI s7.2.1.2.2.2.2.2.2.2.2.2.2.2.2.2.1) then W.idxK s9.2.1.2.2.2.2.2.2.2.2.2.2.2.2.2.1 s9.1 fun y10 =>
  W.joinK (fun (s11 : TCore × List Int × Unit) =>
  rec8 (W.iAdd .i64 s9.1 1, s11)) fun k12 =>
  bif W.iGe y10.2.2.1 s7.1 then W.guardK (W.gApp s9.2.2.1 [y10.1] 1) <|
  k12 (s9.2.1, W.cat s9.2.2.1 [y10.1], ()) else k12 s9.2 else W.bindK (F109 W ((s9.2.1.2.2.2.2.2.2.1, s9.2.1.2.2.2.2.2.2.2.1, s9.2.1.2.2.2.2.2.2.2.2.1, ()), s7.1, ())) fun y13 =>
  W.bindK (bif W.iEq y13.1 s9.2.1.2.1 then W.bindK (F43 W ((s9.2.1.1, s9.2.1.2.1, s9.2.1.2.2.1, s9.2.1.2.2.2.1, s9.2.1.2.2.2.2.1, s9.2.1.2.2.2.2.2.1, s9.2.1.2.2.2.2.2.2.1, s9.2.1.2.2.2.2.2.2.2.1, s9.2.1.2.2.2.2.2.2.2.2.1, s9.2.1.2.2.2.2.2.2.2.2.2.1, s9.2.1.2.2.2.2.2.2.2.2.2.2.1, s9.2.1.2.2.2.2.2.2.2.2.2.2.2.1, s9.2.1.2.2.2.2.2.2.2.2.2.2.2.2.1, s9.2.1.2.2.2.2.2.2.2.2.2.2.2.2.2.1, ()), ())) fun y14 =>
  W.bindK (F97 W (y14.1, s9.2.2)) fun y15 =>
  some y15.1 else some false) fun y16 =>
  bif y16 then k5 ((s9.2.1.1, s9.2.1.2.1, s9.2.1.2.2.1, s9.2.1.2.2.2.1, s9.2.1.2.2.2.2.1, s9.2.1.2.2.2.2.2.1, s9.2.1.2.2.2.2.2.2.1, s9.2.1.2.2.2.2.2.2.2.1, s9.2.1.2.2.2.2.2.2.2.2.1, s7.1, s9.2.1.2.2.2.2.2.2.2.2.2.2), ()) else rec6 (W.iSub .i64 s7.1 1, s9.2.1, ())) NN (0, s7.2.1, [s7.2.1.1], ()) else k5 s7.2) NN (y0.1, x)
abbrev ce107 : CE := .con false sg107 (F107 WW)
theorem co107 : ConOK TT 107 sg107 (F107 WW) := con_fn (fn := inlF XX fn107) (ces := [(102, ce102), (97, ce97), (43, ce43), (109, ce109), (173, ce173), (96, ce96)]) (ents1 en102 (ents1 en97 (ents1 en43 (ents1 en109 (ents1 en173 (ents1 en96 ents0)))))) hn107 pm107 (by kernel_rfl) rfl rfl (fun x => by kernel_rfl)
theorem en107 : EntOK TT 107 ce107 := ent_sep co107 (by kernel_rfl) rfl
/- (*impl.core).lead -/
def hn98 : Hints := [(2, KNode, true), (6, KCore, true), (9, KNode, true), (10, KNode, true), (11, KNode, true), (12, KNode, true), (22, KNode, true), (25, KLog, true), (27, KNode, true), (31, (.sl 3 KEntry), true), (39, KNode, true), (40, KNode, true), (44, (.sl 3 KEntry), true), (45, KNode, true), (50, (.sl 3 KEntry), true), (51, (.sl 3 KEntry), true), (55, KNode, true), (58, KNode, true), (60, KNode, true), (61, (.sl 1 I), true), (67, KNode, true), (68, KNode, true), (71, (.sl 4 KPeer), true), (76, (.sl 4 KPeer), true), (77, (.sl 4 KPeer), true), (81, KCore, true), (83, KCore, true), (1000000, KCore, true)]
def pm98 : List Nat := []
abbrev sg98 : Sig := ⟨[.cell KCore], []⟩
def F98 (W : Words) (x : TCore × Unit) : Option (TCore × Unit) :=
  W.bindK (F102 W ((x.1.2.2.2.2.2.2.1, x.1.2.2.2.2.2.2.2.1, x.1.2.2.2.2.2.2.2.2.1, ()), ())) fun y0 =>
  W.bindK (bif W.iLt (W.lenI x.1.2.2.2.2.2.2.2.2.1) 60 then some (W.iLe (W.iAdd .i64 y0.1 1) 1000000) else some false) fun y1 =>
  W.joinK (fun (s2 : TCore × Unit) =>
  W.bindK (F100 W ((s2.1.1, s2.1.2.1, s2.1.2.2.1, s2.1.2.2.2.1, s2.1.2.2.2.2.1, s2.1.2.2.2.2.2.1, s2.1.2.2.2.2.2.2.1, s2.1.2.2.2.2.2.2.2.1, s2.1.2.2.2.2.2.2.2.2.1, s2.1.2.2.2.2.2.2.2.2.2.1, s2.1.2.2.2.2.2.2.2.2.2.2.1, s2.1.2.2.2.2.2.2.2.2.2.2.2.1, s2.1.2.2.2.2.2.2.2.2.2.2.2.2.1, [], ()), ())) fun y3 =>
  W.loopF (fun rec4 (s5 : Int × TCore × List Int × Unit) =>
  bif W.iLt s5.1 (W.lenI y3.1) then W.idxK s5.2.2.1 s5.1 fun y6 =>
  W.guardK (W.gApp s5.2.1.2.2.2.2.2.2.2.2.2.2.2.2.2.1 [(y6, W.iAdd .i64 y0.1 1, 0, 0, ())] 4) <|
  rec4 (W.iAdd .i64 s5.1 1, (s5.2.1.1, s5.2.1.2.1, s5.2.1.2.2.1, s5.2.1.2.2.2.1, s5.2.1.2.2.2.2.1, s5.2.1.2.2.2.2.2.1, s5.2.1.2.2.2.2.2.2.1, s5.2.1.2.2.2.2.2.2.2.1, s5.2.1.2.2.2.2.2.2.2.2.1, s5.2.1.2.2.2.2.2.2.2.2.2.1, s5.2.1.2.2.2.2.2.2.2.2.2.2.1, s5.2.1.2.2.2.2.2.2.2.2.2.2.2.1, s5.2.1.2.2.2.2.2.2.2.2.2.2.2.2.1, W.cat s5.2.1.2.2.2.2.2.2.2.2.2.2.2.2.2.1 [(y6, W.iAdd .i64 y0.1 1, 0, 0, ())], s5.2.1.2.2.2.2.2.2.2.2.2.2.2.2.2.2), s5.2.2) else W.bindK (F107 W (s5.2.1, ())) fun y7 =>
  W.bindK (F95 W y7) fun y8 =>
  some y8) NN (0, (s2.1.1, s2.1.2.1, s2.1.2.2.1, s2.1.2.2.2.1, s2.1.2.2.2.2.1, s2.1.2.2.2.2.2.1, s2.1.2.2.2.2.2.2.1, s2.1.2.2.2.2.2.2.2.1, s2.1.2.2.2.2.2.2.2.2.1, s2.1.2.2.2.2.2.2.2.2.2.1, s2.1.2.2.2.2.2.2.2.2.2.2.1, s2.1.2.2.2.2.2.2.2.2.2.2.2.1, s2.1.2.2.2.2.2.2.2.2.2.2.2.2.1, [], s2.1.2.2.2.2.2.2.2.2.2.2.2.2.2.2), y3)) fun k9 =>
  bif y1 then W.guardK (W.gApp x.1.2.2.2.2.2.2.2.2.1 [(x.1.2.1, 1, W.litS [], ())] 3) <|
  k9 ((x.1.1, x.1.2.1, x.1.2.2.1, 2, x.1.1, x.1.2.2.2.2.2.1, x.1.2.2.2.2.2.2.1, x.1.2.2.2.2.2.2.2.1, W.cat x.1.2.2.2.2.2.2.2.2.1 [(x.1.2.1, 1, W.litS [], ())], x.1.2.2.2.2.2.2.2.2.2.1, x.1.2.2.2.2.2.2.2.2.2.2.1, x.1.2.2.2.2.2.2.2.2.2.2.2.1, [], x.1.2.2.2.2.2.2.2.2.2.2.2.2.2), ()) else k9 ((x.1.1, x.1.2.1, x.1.2.2.1, 2, x.1.1, x.1.2.2.2.2.2.1, x.1.2.2.2.2.2.2.1, x.1.2.2.2.2.2.2.2.1, x.1.2.2.2.2.2.2.2.2.1, x.1.2.2.2.2.2.2.2.2.2.1, x.1.2.2.2.2.2.2.2.2.2.2.1, x.1.2.2.2.2.2.2.2.2.2.2.2.1, [], x.1.2.2.2.2.2.2.2.2.2.2.2.2.2), ())
abbrev ce98 : CE := .con false sg98 (F98 WW)
theorem co98 : ConOK TT 98 sg98 (F98 WW) := con_fn (fn := inlF XX fn98) (ces := [(102, ce102), (100, ce100), (107, ce107), (95, ce95)]) (ents1 en102 (ents1 en100 (ents1 en107 (ents1 en95 ents0)))) hn98 pm98 (by kernel_rfl) rfl rfl (fun x => by kernel_rfl)
theorem en98 : EntOK TT 98 ce98 := ent_sep co98 (by kernel_rfl) rfl
/- impl.Tick -/
def hn38 : Hints := [(2, KNode, true), (4, KNode, true), (5, (.sl 12 KMessage), true), (7, KCore, true), (8, (.sl 1 I), true), (13, KNode, true), (21, KNode, true), (22, KNode, true), (23, KNode, true), (24, KCore, true), (25, KCore, true), (29, KCore, true), (31, KCore, true), (34, KNode, true), (35, KCore, true), (38, (.sl 12 KMessage), true), (39, KCore, true), (48, KCore, true), (53, KCore, true), (59, KCore, true), (62, KNode, true), (63, KCore, true), (64, KCore, true), (72, KNode, true), (73, (.sl 1 I), true), (74, (.sl 1 I), true), (84, KCore, true), (87, KNode, true), (88, KCore, true), (97, KCore, true), (98, KCore, true), (99, KCore, true), (100, KCore, true), (105, (.sl 1 I), true), (118, (.sl 1 I), true), (119, KCore, true), (123, (.sl 1 I), true), (125, KCore, true), (127, KCore, true), (130, KNode, true), (131, KCore, true), (134, (.sl 12 KMessage), true), (136, KCore, true), (140, KLog, true), (144, KCore, true), (147, KNode, true), (148, (.sl 1 I), true), (154, KCore, true), (158, KMessage, true), (161, KCore, true), (164, KNode, true), (165, KCore, true), (168, (.sl 12 KMessage), true)]
def pm38 : List Nat := [2]
abbrev sg38 : Sig := ⟨[.dat KNode, .dat I], [KNode, (.sl 12 KMessage), .bool]⟩
def F38 (W : Words) (x : TNode × Int × Unit) : Option (TNode × List TMessage × Bool × Unit) :=
  W.bindK (F45 W (x.1, ())) fun y0 =>
  W.bindK (bif W.bNot y0.1 then some true else W.bindK (F87 W (x.2.1, 1, 20, ())) fun y1 =>
  some (W.bNot y1.1)) fun y2 =>
  bif y2 then some ((0, 0, 0, 0, 0, [], 0, 0, [], 0, 0, 0, [], [], ()), [], false, ()) else W.bindK (F94 W (x.1, ())) fun y3 =>
  bif W.iEq x.1.2.2.2.1 2 then W.bindK (F95 W ((y3.1.1, y3.1.2.1, y3.1.2.2.1, y3.1.2.2.2.1, y3.1.2.2.2.2.1, y3.1.2.2.2.2.2.1, y3.1.2.2.2.2.2.2.1, y3.1.2.2.2.2.2.2.2.1, y3.1.2.2.2.2.2.2.2.2.1, y3.1.2.2.2.2.2.2.2.2.2.1, y3.1.2.2.2.2.2.2.2.2.2.2.1, y3.1.2.2.2.2.2.2.2.2.2.2.2.1, y3.1.2.2.2.2.2.2.2.2.2.2.2.2.1, y3.1.2.2.2.2.2.2.2.2.2.2.2.2.2.1, [], ()), ())) fun y4 =>
  some ((y4.1.1, y4.1.2.1, y4.1.2.2.1, y4.1.2.2.2.1, y4.1.2.2.2.2.1, y4.1.2.2.2.2.2.1, y4.1.2.2.2.2.2.2.1, y4.1.2.2.2.2.2.2.2.1, y4.1.2.2.2.2.2.2.2.2.1, y4.1.2.2.2.2.2.2.2.2.2.1, y4.1.2.2.2.2.2.2.2.2.2.2.1, y4.1.2.2.2.2.2.2.2.2.2.2.2.1, y4.1.2.2.2.2.2.2.2.2.2.2.2.2.1, y4.1.2.2.2.2.2.2.2.2.2.2.2.2.2.1, ()), y4.1.2.2.2.2.2.2.2.2.2.2.2.2.2.2.1, true, ()) else bif W.iLt (W.iAdd .i64 y3.1.2.2.2.2.2.2.2.2.2.2.1 1) y3.1.2.2.2.2.2.2.2.2.2.2.2.1 then some ((y3.1.1, y3.1.2.1, y3.1.2.2.1, y3.1.2.2.2.1, y3.1.2.2.2.2.1, y3.1.2.2.2.2.2.1, y3.1.2.2.2.2.2.2.1, y3.1.2.2.2.2.2.2.2.1, y3.1.2.2.2.2.2.2.2.2.1, y3.1.2.2.2.2.2.2.2.2.2.1, W.iAdd .i64 y3.1.2.2.2.2.2.2.2.2.2.2.1 1, y3.1.2.2.2.2.2.2.2.2.2.2.2), [], true, ()) else W.bindK (F43 W (x.1, ())) fun y5 =>
  W.bindK (F96 W (y5.1, x.1.1, ())) fun y6 =>
  W.bindK (bif W.bNot y6.1 then some true else some (W.iGe x.1.2.1 100000)) fun y7 =>
  bif y7 then some ((y3.1.1, y3.1.2.1, y3.1.2.2.1, y3.1.2.2.2.1, y3.1.2.2.2.2.1, y3.1.2.2.2.2.2.1, y3.1.2.2.2.2.2.2.1, y3.1.2.2.2.2.2.2.2.1, y3.1.2.2.2.2.2.2.2.2.1, y3.1.2.2.2.2.2.2.2.2.2.1, 0, x.2.1, y3.1.2.2.2.2.2.2.2.2.2.2.2.2), [], true, ()) else W.bindK (F97 W (y5.1, [x.1.1], ())) fun y8 =>
  bif y8.1 then W.bindK (F98 W ((y3.1.1, W.iAdd .i64 y3.1.2.1 1, x.1.1, 1, 0, y3.1.2.2.2.2.2.1, y3.1.2.2.2.2.2.2.1, y3.1.2.2.2.2.2.2.2.1, y3.1.2.2.2.2.2.2.2.2.1, y3.1.2.2.2.2.2.2.2.2.2.1, 0, x.2.1, [x.1.1], y3.1.2.2.2.2.2.2.2.2.2.2.2.2.2.1, [], ()), ())) fun y9 =>
  some ((y9.1.1, y9.1.2.1, y9.1.2.2.1, y9.1.2.2.2.1, y9.1.2.2.2.2.1, y9.1.2.2.2.2.2.1, y9.1.2.2.2.2.2.2.1, y9.1.2.2.2.2.2.2.2.1, y9.1.2.2.2.2.2.2.2.2.1, y9.1.2.2.2.2.2.2.2.2.2.1, y9.1.2.2.2.2.2.2.2.2.2.2.1, y9.1.2.2.2.2.2.2.2.2.2.2.2.1, y9.1.2.2.2.2.2.2.2.2.2.2.2.2.1, y9.1.2.2.2.2.2.2.2.2.2.2.2.2.2.1, ()), y9.1.2.2.2.2.2.2.2.2.2.2.2.2.2.2.1, true, ()) else W.bindK (F99 W ((y3.1.2.2.2.2.2.2.1, y3.1.2.2.2.2.2.2.2.1, y3.1.2.2.2.2.2.2.2.2.1, ()), ())) fun y10 =>
  W.bindK (F100 W ((y3.1.1, W.iAdd .i64 y3.1.2.1 1, x.1.1, 1, 0, y3.1.2.2.2.2.2.1, y3.1.2.2.2.2.2.2.1, y3.1.2.2.2.2.2.2.2.1, y3.1.2.2.2.2.2.2.2.2.1, y3.1.2.2.2.2.2.2.2.2.2.1, 0, x.2.1, [x.1.1], y3.1.2.2.2.2.2.2.2.2.2.2.2.2.2), ())) fun y11 =>
  W.loopF (fun rec12 (s13 : Int × TCore × TNode × List Int × Unit) =>
  bif W.iLt s13.1 (W.lenI y11.1) then W.idxK s13.2.2.2.1 s13.1 fun y14 =>
  W.bindK (F101 W (s13.2.1, (1, 0, y14, 0, y10.1, y10.2.1, 0, false, [], [], W.litS [], false, ()), ())) fun y15 =>
  rec12 (W.iAdd .i64 s13.1 1, y15.1, s13.2.2) else some ((s13.2.1.1, s13.2.1.2.1, s13.2.1.2.2.1, s13.2.1.2.2.2.1, s13.2.1.2.2.2.2.1, s13.2.1.2.2.2.2.2.1, s13.2.1.2.2.2.2.2.2.1, s13.2.1.2.2.2.2.2.2.2.1, s13.2.1.2.2.2.2.2.2.2.2.1, s13.2.1.2.2.2.2.2.2.2.2.2.1, s13.2.1.2.2.2.2.2.2.2.2.2.2.1, s13.2.1.2.2.2.2.2.2.2.2.2.2.2.1, s13.2.1.2.2.2.2.2.2.2.2.2.2.2.2.1, s13.2.1.2.2.2.2.2.2.2.2.2.2.2.2.2.1, ()), s13.2.1.2.2.2.2.2.2.2.2.2.2.2.2.2.2.1, true, ())) NN (0, (y3.1.1, W.iAdd .i64 y3.1.2.1 1, x.1.1, 1, 0, y3.1.2.2.2.2.2.1, y3.1.2.2.2.2.2.2.1, y3.1.2.2.2.2.2.2.2.1, y3.1.2.2.2.2.2.2.2.2.1, y3.1.2.2.2.2.2.2.2.2.2.1, 0, x.2.1, [x.1.1], y3.1.2.2.2.2.2.2.2.2.2.2.2.2.2.1, [], ()), (0, 0, 0, 0, 0, [], 0, 0, [], 0, 0, 0, [], [], ()), y11)
abbrev ce38 : CE := .con false sg38 (F38 WW)
theorem co38 : ConOK TT 38 sg38 (F38 WW) := con_fn (fn := inlF XX fn38) (ces := [(87, ce87), (45, ce45), (94, ce94), (95, ce95), (43, ce43), (96, ce96), (97, ce97), (98, ce98), (99, ce99), (100, ce100), (101, ce101)]) (ents1 en87 (ents1 en45 (ents1 en94 (ents1 en95 (ents1 en43 (ents1 en96 (ents1 en97 (ents1 en98 (ents1 en99 (ents1 en100 (ents1 en101 ents0))))))))))) hn38 pm38 (by kernel_rfl) rfl rfl (fun x => by kernel_rfl)
theorem en38 : EntOK TT 38 ce38 := ent_sep co38 (by kernel_rfl) rfl
/- slices.ContainsFunc[[]int,int] -/
def hn174 : Hints := [(5, (.sl 1 I), true)]
def pm174 : List Nat := []
abbrev sg174 : Sig := ⟨[.dat (.sl 1 I), .raw], [.bool]⟩
abbrev ce174 : CE := .inl sg174 (inlF XX fn174) hn174 pm174
theorem en174 : EntOK TT 174 ce174 := ent_inl hn174 pm174 (by kernel_rfl) (by kernel_rfl) rfl rfl rfl rfl rfl
/- impl.confMay$1 -/
def hn175 : Hints := [(4, (.sl 1 I), true)]
def pm175 : List Nat := []
abbrev sg175 : Sig := ⟨[.dat I, .raw], [.bool]⟩
abbrev ce175 : CE := .inl sg175 (inlF XX fn175) hn175 pm175
theorem en175 : EntOK TT 175 ce175 := ent_inl hn175 pm175 (by kernel_rfl) (by kernel_rfl) rfl rfl rfl rfl rfl
/- impl.confMay -/
def hn104 : Hints := [(2, KNode, true), (5, (.sl 1 I), true), (7, (.sl 1 I), true), (8, (.sl 1 I), true), (9, (.sl 1 I), true), (14, (.sl 1 I), true), (20, KLog, true), (30, KLog, true), (36, KNode, true), (37, (.sl 1 I), true), (38, (.sl 1 I), true), (39, (.sl 1 I), true), (40, (.sl 1 I), true), (42, (.sl 1 I), true), (45, (.sl 1 I), true), (46, (.sl 1 I), true), (47, (.sl 1 I), true), (50, (.sl 1 I), true), (52, (.sl 1 I), true)]
def pm104 : List Nat := [2]
abbrev sg104 : Sig := ⟨[.dat KNode, .dat .str], [.bool]⟩
def F104 (W : Words) (x : TNode × List UInt8 × Unit) : Option (Bool × Unit) :=
  W.bindK (F110 W x.2) fun y0 =>
  W.bindK (bif W.bNot y0.2.1 then some true else W.bindK (F109 W ((x.1.2.2.2.2.2.2.1, x.1.2.2.2.2.2.2.2.1, x.1.2.2.2.2.2.2.2.2.1, ()), x.1.2.2.2.2.2.2.2.2.2.1, ())) fun y1 =>
  some (W.iNe y1.1 x.1.2.1)) fun y2 =>
  W.bindK (bif y2 then some true else W.bindK (F173 W ((x.1.2.2.2.2.2.2.1, x.1.2.2.2.2.2.2.2.1, x.1.2.2.2.2.2.2.2.2.1, ()), ())) fun y3 =>
  some (W.iGt y3.1 x.1.2.2.2.2.2.2.2.2.2.1)) fun y4 =>
  bif y4 then some (false, ()) else W.bindK (F43 W (x.1, ())) fun y5 =>
  W.joinK (fun (s6 : List Int × List Int × Unit) =>
  W.bindK (W.bindK (W.loopF (fun rec7 (s8 : Int × List Int × Unit) =>
  bif W.iLt s8.1 (W.lenI s6.1) then W.idxK s6.1 s8.1 fun y9 =>
  W.bindK (W.bindK (F96 W (s8.2.1, y9, ())) fun y10 =>
  some (W.bNot y10.1, ())) fun y11 =>
  bif y11.1 then some (s8.1, ()) else rec7 (W.iAdd .i64 s8.1 1, s8.2) else some ((-1), ())) NN (0, s6.2)) fun y12 =>
  some (W.iGe y12.1 0, ())) fun y13 =>
  W.bindK (bif W.iEq (W.lenI s6.2.1) (W.iAdd .i64 (W.lenI s6.1) 1) then some (W.bNot y13.1) else some false) fun y14 =>
  some (y14, ())) fun k15 =>
  bif W.iGt (W.lenI y0.1) (W.lenI y5.1) then k15 (y5.1, y0.1, ()) else k15 (y0.1, y5)
abbrev ce104 : CE := .con true sg104 (F104 WW)
theorem co104 : ConOK TT 104 sg104 (F104 WW) := con_fn (fn := inlF XX fn104) (ces := [(110, ce110), (173, ce173), (109, ce109), (43, ce43), (174, ce174), (203, ce203), (175, ce175), (96, ce96)]) (ents1 en110 (ents1 en173 (ents1 en109 (ents1 en43 (ents1 en174 (ents1 en203 (ents1 en175 (ents1 en96 ents0)))))))) hn104 pm104 (by kernel_rfl) rfl rfl (fun x => by kernel_rfl)
theorem en104 : EntOK TT 104 ce104 := ent_fz co104 (by kernel_rfl) rfl rfl rfl
/- slices.IndexFunc[[]impl.Peer,impl.Peer] -/
def hn105 : Hints := [(6, (.sl 4 KPeer), true), (12, (.sl 4 KPeer), true)]
def pm105 : List Nat := []
abbrev sg105 : Sig := ⟨[.dat (.sl 4 KPeer), .raw], [I]⟩
abbrev ce105 : CE := .inl sg105 (inlF XX fn105) hn105 pm105
theorem en105 : EntOK TT 105 ce105 := ent_inl hn105 pm105 (by kernel_rfl) (by kernel_rfl) rfl rfl rfl rfl rfl
/- impl.Propose$1 -/
def hn106 : Hints := []
def pm106 : List Nat := [2]
abbrev sg106 : Sig := ⟨[.dat KPeer, .raw], [.bool]⟩
abbrev ce106 : CE := .inl sg106 (inlF XX fn106) hn106 pm106
theorem en106 : EntOK TT 106 ce106 := ent_inl hn106 pm106 (by kernel_rfl) (by kernel_rfl) rfl rfl rfl rfl rfl
/- impl.Propose -/
def hn39 : Hints := [(3, KNode, true), (6, KNode, true), (7, (.sl 12 KMessage), true), (11, KCore, true), (13, (.sl 4 KPeer), true), (18, KNode, true), (29, (.sl 3 KEntry), true), (35, KLog, true), (39, KNode, true), (52, KNode, true), (58, KNode, true), (59, KNode, true), (60, KNode, true), (61, KCore, true), (62, KCore, true), (64, KLog, true), (66, KCore, true), (67, KCore, true), (72, (.sl 3 KEntry), true), (74, (.sl 3 KEntry), true), (75, (.sl 3 KEntry), true), (82, KCore, true), (85, KNode, true), (86, (.sl 1 I), true), (97, (.sl 4 KPeer), true), (103, (.sl 4 KPeer), true), (107, (.sl 4 KPeer), true), (109, (.sl 4 KPeer), true), (110, (.sl 4 KPeer), true), (112, KCore, true), (113, (.sl 4 KPeer), true), (117, KCore, true), (119, KCore, true), (121, KCore, true), (124, KNode, true), (125, KCore, true), (128, (.sl 12 KMessage), true)]
def pm39 : List Nat := [15, 3, 10]
abbrev sg39 : Sig := ⟨[.dat KNode, .dat I, .dat .str], [KNode, (.sl 12 KMessage), I, .bool]⟩
def F39 (W : Words) (x : TNode × Int × List UInt8 × Unit) : Option (TNode × List TMessage × Int × Bool × Unit) :=
  W.bindK (F45 W (x.1, ())) fun y0 =>
  W.bindK (bif W.bNot y0.1 then some true else some (W.iNe x.1.2.2.2.1 2)) fun y1 =>
  W.bindK (bif y1 then some true else some (W.iGe (W.lenI x.1.2.2.2.2.2.2.2.2.1) 60)) fun y2 =>
  W.bindK (bif y2 then some true else W.bindK (F102 W ((x.1.2.2.2.2.2.2.1, x.1.2.2.2.2.2.2.2.1, x.1.2.2.2.2.2.2.2.2.1, ()), ())) fun y3 =>
  some (W.iGe y3.1 1000000)) fun y4 =>
  bif y4 then some ((0, 0, 0, 0, 0, [], 0, 0, [], 0, 0, 0, [], [], ()), [], 0, false, ()) else W.bindK (F103 W ((x.1.2.1, x.2), ())) fun y5 =>
  W.bindK (bif W.bNot y5.1 then some true else W.bindK (bif W.iEq x.2.1 2 then W.bindK (F104 W (x.1, x.2.2)) fun y6 =>
  some (W.bNot y6.1) else some false) fun y7 =>
  some y7) fun y8 =>
  bif y8 then some ((0, 0, 0, 0, 0, [], 0, 0, [], 0, 0, 0, [], [], ()), [], 0, false, ()) else W.bindK (F94 W (x.1, ())) fun y9 =>
  W.bindK (F102 W ((x.1.2.2.2.2.2.2.1, x.1.2.2.2.2.2.2.2.1, x.1.2.2.2.2.2.2.2.2.1, ()), ())) fun y10 =>
  W.guardK (W.gApp y9.1.2.2.2.2.2.2.2.2.1 [(x.1.2.1, x.2)] 3) <|
  W.joinK (fun (s11 : TCore × TNode × Unit) =>
  W.bindK (F107 W (s11.1, ())) fun y12 =>
  W.bindK (F95 W y12) fun y13 =>
  some ((y13.1.1, y13.1.2.1, y13.1.2.2.1, y13.1.2.2.2.1, y13.1.2.2.2.2.1, y13.1.2.2.2.2.2.1, y13.1.2.2.2.2.2.2.1, y13.1.2.2.2.2.2.2.2.1, y13.1.2.2.2.2.2.2.2.2.1, y13.1.2.2.2.2.2.2.2.2.2.1, y13.1.2.2.2.2.2.2.2.2.2.2.1, y13.1.2.2.2.2.2.2.2.2.2.2.2.1, y13.1.2.2.2.2.2.2.2.2.2.2.2.2.1, y13.1.2.2.2.2.2.2.2.2.2.2.2.2.2.1, ()), y13.1.2.2.2.2.2.2.2.2.2.2.2.2.2.2.1, W.iAdd .i64 y10.1 1, true, ())) fun k14 =>
  bif W.iEq x.2.1 2 then W.bindK (F100 W ((y9.1.1, y9.1.2.1, y9.1.2.2.1, y9.1.2.2.2.1, y9.1.2.2.2.2.1, y9.1.2.2.2.2.2.1, y9.1.2.2.2.2.2.2.1, y9.1.2.2.2.2.2.2.2.1, W.cat y9.1.2.2.2.2.2.2.2.2.1 [(x.1.2.1, x.2)], y9.1.2.2.2.2.2.2.2.2.2), ())) fun y15 =>
  W.loopF (fun rec16 (s17 : Int × TCore × TNode × List Int × List TPeer × Unit) =>
  bif W.iLt s17.1 (W.lenI y15.1) then W.idxK s17.2.2.2.1 s17.1 fun y18 =>
  W.bindK (W.loopF (fun rec19 (s20 : Int × Int × Unit) =>
  bif W.iLt s20.2.1 (W.lenI x.1.2.2.2.2.2.2.2.2.2.2.2.2.2.1) then W.idxK x.1.2.2.2.2.2.2.2.2.2.2.2.2.2.1 s20.2.1 fun y21 =>
  W.bindK (some (W.iEq y21.1 s20.1, ())) fun y22 =>
  bif y22.1 then some s20.2 else rec19 (s20.1, W.iAdd .i64 s20.2.1 1, ()) else some ((-1), ())) NN (y18, 0, ())) fun y23 =>
  W.joinK (fun (s24 : TPeer × TCore × TNode × List TPeer × List Int × Unit) =>
  W.guardK (W.gApp s24.2.2.2.1 [s24.1] 4) <|
  rec16 (W.iAdd .i64 s17.1 1, s24.2.1, s24.2.2.1, s24.2.2.2.2.1, W.cat s24.2.2.2.1 [s24.1], ())) fun k25 =>
  bif W.iGe y23.1 0 then W.idxK x.1.2.2.2.2.2.2.2.2.2.2.2.2.2.1 y23.1 fun y26 =>
  k25 (y26, s17.2.1, s17.2.2.1, s17.2.2.2.2.1, s17.2.2.2.1, ()) else k25 ((y18, W.iAdd .i64 y10.1 1, 0, 0, ()), s17.2.1, s17.2.2.1, s17.2.2.2.2.1, s17.2.2.2.1, ()) else k14 ((s17.2.1.1, s17.2.1.2.1, s17.2.1.2.2.1, s17.2.1.2.2.2.1, s17.2.1.2.2.2.2.1, s17.2.1.2.2.2.2.2.1, s17.2.1.2.2.2.2.2.2.1, s17.2.1.2.2.2.2.2.2.2.1, s17.2.1.2.2.2.2.2.2.2.2.1, s17.2.1.2.2.2.2.2.2.2.2.2.1, s17.2.1.2.2.2.2.2.2.2.2.2.2.1, s17.2.1.2.2.2.2.2.2.2.2.2.2.2.1, s17.2.1.2.2.2.2.2.2.2.2.2.2.2.2.1, s17.2.2.2.2.1, s17.2.1.2.2.2.2.2.2.2.2.2.2.2.2.2.2), s17.2.2.1, ())) NN (0, (y9.1.1, y9.1.2.1, y9.1.2.2.1, y9.1.2.2.2.1, y9.1.2.2.2.2.1, y9.1.2.2.2.2.2.1, y9.1.2.2.2.2.2.2.1, y9.1.2.2.2.2.2.2.2.1, W.cat y9.1.2.2.2.2.2.2.2.2.1 [(x.1.2.1, x.2)], y9.1.2.2.2.2.2.2.2.2.2.1, y9.1.2.2.2.2.2.2.2.2.2.2.1, y9.1.2.2.2.2.2.2.2.2.2.2.2.1, y9.1.2.2.2.2.2.2.2.2.2.2.2.2.1, y9.1.2.2.2.2.2.2.2.2.2.2.2.2.2.1, [], ()), (0, 0, 0, 0, 0, [], 0, 0, [], 0, 0, 0, [], [], ()), y15.1, [], ()) else k14 ((y9.1.1, y9.1.2.1, y9.1.2.2.1, y9.1.2.2.2.1, y9.1.2.2.2.2.1, y9.1.2.2.2.2.2.1, y9.1.2.2.2.2.2.2.1, y9.1.2.2.2.2.2.2.2.1, W.cat y9.1.2.2.2.2.2.2.2.2.1 [(x.1.2.1, x.2)], y9.1.2.2.2.2.2.2.2.2.2.1, y9.1.2.2.2.2.2.2.2.2.2.2.1, y9.1.2.2.2.2.2.2.2.2.2.2.2.1, y9.1.2.2.2.2.2.2.2.2.2.2.2.2.1, y9.1.2.2.2.2.2.2.2.2.2.2.2.2.2.1, [], ()), (0, 0, 0, 0, 0, [], 0, 0, [], 0, 0, 0, [], [], ()), ())
abbrev ce39 : CE := .con false sg39 (F39 WW)
theorem co39 : ConOK TT 39 sg39 (F39 WW) := con_fn (fn := inlF XX fn39) (ces := [(102, ce102), (45, ce45), (104, ce104), (103, ce103), (94, ce94), (100, ce100), (105, ce105), (107, ce107), (95, ce95), (106, ce106)]) (ents1 en102 (ents1 en45 (ents1 en104 (ents1 en103 (ents1 en94 (ents1 en100 (ents1 en105 (ents1 en107 (ents1 en95 (ents1 en106 ents0)))))))))) hn39 pm39 (by kernel_rfl) rfl rfl (fun x => by kernel_rfl)
theorem en39 : EntOK TT 39 ce39 := ent_sep co39 (by kernel_rfl) rfl
/- spec.l01In -/
def hn83 : Hints := []
def pm83 : List Nat := []
abbrev sg83 : Sig := ⟨[.dat I, .dat I, .dat I], [.bool]⟩
def F83 (W : Words) (x : Int × Int × Int × Unit) : Option (Bool × Unit) :=
  W.bindK (bif W.iGe x.1 x.2.1 then some (W.iLe x.1 x.2.2.1) else some false) fun y0 =>
  some (y0, ())
abbrev ce83 : CE := .con true sg83 (F83 WW)
theorem co83 : ConOK TT 83 sg83 (F83 WW) := con_fn (fn := inlF XX fn83) (ces := []) ents0 hn83 pm83 (by kernel_rfl) rfl rfl (fun x => by kernel_rfl)
theorem en83 : EntOK TT 83 ce83 := ent_fz co83 (by kernel_rfl) rfl rfl rfl
/- spec.l05Rise -/
def hn117 : Hints := [(9, (.sl 1 I), true), (14, (.sl 1 I), true), (26, (.sl 1 I), true), (31, (.sl 1 I), true)]
def pm117 : List Nat := []
abbrev sg117 : Sig := ⟨[.dat (.sl 1 I), .dat I, .dat I], [.bool]⟩
def F117 (W : Words) (x : List Int × Int × Int × Unit) : Option (Bool × Unit) :=
  W.loopF (fun rec0 (s1 : Int × Unit) =>
  bif W.iLt s1.1 (W.lenI x.1) then W.idxK x.1 s1.1 fun y2 =>
  W.bindK (F83 W (y2, x.2)) fun y3 =>
  W.bindK (bif W.bNot y3.1 then some true else W.bindK (bif W.iGt s1.1 0 then W.idxK x.1 (W.iSub .i64 s1.1 1) fun y4 =>
  W.idxK x.1 s1.1 fun y5 =>
  some (W.iGe y4 y5) else some false) fun y6 =>
  some y6) fun y7 =>
  bif y7 then some (false, ()) else rec0 (W.iAdd .i64 s1.1 1, ()) else some (true, ())) NN (0, ())
abbrev ce117 : CE := .con true sg117 (F117 WW)
theorem co117 : ConOK TT 117 sg117 (F117 WW) := con_fn (fn := inlF XX fn117) (ces := [(83, ce83)]) (ents1 en83 ents0) hn117 pm117 (by kernel_rfl) rfl rfl (fun x => by kernel_rfl)
theorem en117 : EntOK TT 117 ce117 := ent_fz co117 (by kernel_rfl) rfl rfl rfl
/- spec.ConfOk -/
def hn85 : Hints := [(3, (.sl 1 I), true), (7, (.sl 1 I), true)]
def pm85 : List Nat := []
abbrev sg85 : Sig := ⟨[.dat (.sl 1 I)], [.bool]⟩
def F85 (W : Words) (x : List Int × Unit) : Option (Bool × Unit) :=
  W.bindK (F83 W (W.lenI x.1, 1, 4, ())) fun y0 =>
  W.bindK (bif y0.1 then W.bindK (F117 W (x.1, 1, 4, ())) fun y1 =>
  some y1.1 else some false) fun y2 =>
  some (y2, ())
abbrev ce85 : CE := .con true sg85 (F85 WW)
theorem co85 : ConOK TT 85 sg85 (F85 WW) := con_fn (fn := inlF XX fn85) (ces := [(117, ce117), (83, ce83)]) (ents1 en117 (ents1 en83 ents0)) hn85 pm85 (by kernel_rfl) rfl rfl (fun x => by kernel_rfl)
theorem en85 : EntOK TT 85 ce85 := ent_fz co85 (by kernel_rfl) rfl rfl rfl
/- spec.ConfText -/
def hn40 : Hints := [(4, (.sl 1 (.int .u8)), true), (6, (.sl 1 I), true), (9, (.sl 1 (.int .u8)), true), (11, (.sl 1 I), true), (16, (.sl 1 (.int .u8)), true), (17, (.sl 1 I), true), (22, (.sl 1 (.int .u8)), true), (23, (.sl 1 (.int .u8)), true), (24, (.sl 1 (.int .u8)), true)]
def pm40 : List Nat := []
abbrev sg40 : Sig := ⟨[.dat (.sl 1 I)], [.str, .bool]⟩
def F40 (W : Words) (x : List Int × Unit) : Option (List UInt8 × Bool × Unit) :=
  W.bindK (F85 W x) fun y0 =>
  bif W.bNot y0.1 then some (W.litS [], false, ()) else W.loopF (fun rec1 (s2 : Int × List Int × Unit) =>
  bif W.iLt s2.1 (W.lenI x.1) then W.idxK x.1 s2.1 fun y3 =>
  W.guardK (W.gApp s2.2.1 [W.iConv .u8 y3] 1) <|
  rec1 (W.iAdd .i64 s2.1 1, W.cat s2.2.1 [W.iConv .u8 y3], ()) else some (W.strP s2.2.1, true, ())) NN (0, [], ())
abbrev ce40 : CE := .con true sg40 (F40 WW)
theorem co40 : ConOK TT 40 sg40 (F40 WW) := con_fn (fn := inlF XX fn40) (ces := [(85, ce85)]) (ents1 en85 ents0) hn40 pm40 (by kernel_rfl) rfl rfl (fun x => by kernel_rfl)
theorem en40 : EntOK TT 40 ce40 := ent_fz co40 (by kernel_rfl) rfl rfl rfl
/- impl.LogBehind -/
def hn108 : Hints := [(3, KLog, true), (6, KLog, true), (7, KLog, true), (10, KLog, true), (11, KLog, true), (14, KLog, true), (24, KLog, true), (29, (.sl 3 KEntry), true), (31, (.sl 3 KEntry), true), (36, (.sl 3 KEntry), true), (37, (.sl 3 KEntry), true), (39, KLog, true)]
def pm108 : List Nat := [3]
abbrev sg108 : Sig := ⟨[.dat KLog, .dat I, .dat I], [KLog]⟩
def F108 (W : Words) (x : TLog × Int × Int × Unit) : Option (TLog × Unit) :=
  W.bindK (F111 W (x.1, ())) fun y0 =>
  W.bindK (bif y0.1 then W.bindK (F109 W (x.1, x.2.1, ())) fun y1 =>
  some (W.iEq y1.1 x.2.2.1) else some false) fun y2 =>
  W.bindK (bif y2 then W.bindK (F102 W (x.1, ())) fun y3 =>
  W.bindK (F87 W (x.2.1, x.1.1, y3)) fun y4 =>
  some y4.1 else some false) fun y5 =>
  W.joinK (fun (s6 : TLog × TLog × Unit) =>
  some (s6.1, ())) fun k7 =>
  bif y5 then W.bndK (W.lenN x.1.2.2.1) (W.iSub .i64 x.2.1 x.1.1) (W.ofN (W.lenN x.1.2.2.1)) fun l8 n9 =>
  W.guardK (W.gApp [] (W.sub x.1.2.2.1 l8 n9) 3) <|
  k7 ((x.2.1, x.2.2.1, W.cat [] (W.sub x.1.2.2.1 l8 n9), ()), (0, 0, [], ()), ()) else k7 ((x.2.1, x.2.2.1, [], ()), (0, 0, [], ()), ())
abbrev ce108 : CE := .con false sg108 (F108 WW)
theorem co108 : ConOK TT 108 sg108 (F108 WW) := con_fn (fn := inlF XX fn108) (ces := [(87, ce87), (102, ce102), (109, ce109), (111, ce111)]) (ents1 en87 (ents1 en102 (ents1 en109 (ents1 en111 ents0)))) hn108 pm108 (by kernel_rfl) rfl rfl (fun x => by kernel_rfl)
theorem en108 : EntOK TT 108 ce108 := ent_sep co108 (by kernel_rfl) rfl
/- impl.Settle -/
def hn41 : Hints := [(2, KNode, true), (4, KNode, true), (6, KNode, true), (7, KNode, true), (20, KNode, true), (21, KNode, true), (22, KNode, true), (23, KNode, true), (25, (.sl 1 I), true), (28, KLog, true), (31, KLog, true), (34, KLog, true), (36, KNode, true)]
def pm41 : List Nat := [2]
abbrev sg41 : Sig := ⟨[.dat KNode, .dat I], [KNode, .bool]⟩
def F41 (W : Words) (x : TNode × Int × Unit) : Option (TNode × Bool × Unit) :=
  W.bindK (F45 W (x.1, ())) fun y0 =>
  W.bindK (bif W.bNot y0.1 then some true else W.bindK (F87 W (x.2.1, x.1.2.2.2.2.2.2.1, x.1.2.2.2.2.2.2.2.2.2.1, ())) fun y1 =>
  some (W.bNot y1.1)) fun y2 =>
  bif y2 then some ((0, 0, 0, 0, 0, [], 0, 0, [], 0, 0, 0, [], [], ()), false, ()) else W.bindK (F94 W (x.1, ())) fun y3 =>
  W.bindK (F44 W x) fun y4 =>
  W.bindK (F109 W ((x.1.2.2.2.2.2.2.1, x.1.2.2.2.2.2.2.2.1, x.1.2.2.2.2.2.2.2.2.1, ()), x.2)) fun y5 =>
  W.bindK (F108 W ((x.1.2.2.2.2.2.2.1, x.1.2.2.2.2.2.2.2.1, x.1.2.2.2.2.2.2.2.2.1, ()), x.2.1, y5)) fun y6 =>
  some ((y3.1.1, y3.1.2.1, y3.1.2.2.1, y3.1.2.2.2.1, y3.1.2.2.2.2.1, y4.1, y6.1.1, y6.1.2.1, y6.1.2.2.1, y3.1.2.2.2.2.2.2.2.2.2), true, ())
abbrev ce41 : CE := .con false sg41 (F41 WW)
theorem co41 : ConOK TT 41 sg41 (F41 WW) := con_fn (fn := inlF XX fn41) (ces := [(87, ce87), (45, ce45), (94, ce94), (44, ce44), (108, ce108), (109, ce109)]) (ents1 en87 (ents1 en45 (ents1 en94 (ents1 en44 (ents1 en108 (ents1 en109 ents0)))))) hn41 pm41 (by kernel_rfl) rfl rfl (fun x => by kernel_rfl)
theorem en41 : EntOK TT 41 ce41 := ent_sep co41 (by kernel_rfl) rfl
/- laws.sameInts -/
def hn42 : Hints := [(6, (.sl 1 I), true), (8, (.sl 1 I), true), (12, (.sl 1 I), true), (17, (.sl 1 I), true), (21, (.sl 1 I), true)]
def pm42 : List Nat := []
abbrev sg42 : Sig := ⟨[.dat (.sl 1 I), .dat (.sl 1 I)], [.bool]⟩
def F42 (W : Words) (x : List Int × List Int × Unit) : Option (Bool × Unit) :=
  bif W.iNe (W.lenI x.1) (W.lenI x.2.1) then some (false, ()) else W.loopF (fun rec0 (s1 : Int × Unit) =>
  bif W.iLt s1.1 (W.lenI x.1) then W.idxK x.1 s1.1 fun y2 =>
  W.idxK x.2.1 s1.1 fun y3 =>
  bif W.iNe y2 y3 then some (false, ()) else rec0 (W.iAdd .i64 s1.1 1, ()) else some (true, ())) NN (0, ())
abbrev ce42 : CE := .con true sg42 (F42 WW)
theorem co42 : ConOK TT 42 sg42 (F42 WW) := con_fn (fn := inlF XX fn42) (ces := []) ents0 hn42 pm42 (by kernel_rfl) rfl rfl (fun x => by kernel_rfl)
theorem en42 : EntOK TT 42 ce42 := ent_fz co42 (by kernel_rfl) rfl rfl rfl
/- laws.FnAlone -/
def hn7 : Hints := [(3, (.sl 1 I), true), (5, KNode, true), (7, KNode, true), (8, (.sl 12 KMessage), true), (10, KNode, true), (11, (.sl 12 KMessage), true), (15, (.sl 1 I), true), (18, KNode, true), (19, (.sl 12 KMessage), true), (24, KNode, true), (25, (.sl 12 KMessage), true), (28, KNode, true), (30, (.sl 1 (.int .u8)), true), (32, (.sl 1 (.int .u8)), true), (33, (.sl 1 I), true), (34, (.sl 1 I), true), (42, (.sl 1 I), true), (44, KNode, true), (48, KNode, true), (50, KNode, true), (51, (.sl 12 KMessage), true), (70, (.sl 12 KMessage), true), (80, KNode, true), (82, KNode, true), (83, (.sl 12 KMessage), true), (102, (.sl 1 I), true), (108, (.sl 1 I), true), (110, (.sl 1 I), true), (115, KNode, true), (118, KNode, true), (119, (.sl 12 KMessage), true), (124, (.sl 1 I), true), (129, KNode, true), (132, KNode, true), (133, (.sl 12 KMessage), true), (137, KNode, true), (139, KNode, true), (152, (.sl 12 KMessage), true), (157, KNode, true), (158, (.sl 1 I), true), (159, (.sl 1 I), true), (163, KNode, true), (164, (.sl 1 I), true), (166, (.sl 1 I), true), (173, KNode, true)]
def pm7 : List Nat := [7, 10, 18, 24, 28]
abbrev sg7 : Sig := ⟨[.dat (.sl 1 (.int .u8))], [.bool]⟩
def F7 (W : Words) (x : List Int × Unit) : Option (Bool × Unit) :=
  W.bindK (F35 W x) fun y0 =>
  bif y0.1 then some (true, ()) else W.bindK (F36 W x) fun y1 =>
  W.idxK y1.1 0 fun y2 =>
  W.guardK (W.gNz 4) <|
  W.bindK (F37 W (W.iAdd .i64 1 (W.iRem y2 4), [W.iAdd .i64 1 (W.iRem y2 4)], ())) fun y3 =>
  W.bindK (F38 W ((y3.1.1, y3.1.2.1, y3.1.2.2.1, y3.1.2.2.2.1, y3.1.2.2.2.2.1, y3.1.2.2.2.2.2.1, y3.1.2.2.2.2.2.2.1, y3.1.2.2.2.2.2.2.2.1, y3.1.2.2.2.2.2.2.2.2.1, y3.1.2.2.2.2.2.2.2.2.2.1, y3.1.2.2.2.2.2.2.2.2.2.2.1, 1, y3.1.2.2.2.2.2.2.2.2.2.2.2.2), 5, ())) fun y4 =>
  W.bindK (bif W.bNot y3.2.1 then some true else some (W.bNot y4.2.2.1)) fun y5 =>
  W.bindK (bif y5 then some true else some (W.iNe y4.1.2.2.2.1 2)) fun y6 =>
  W.bindK (bif y6 then some true else some (W.iNe y4.1.2.1 1)) fun y7 =>
  W.bindK (bif y7 then some true else some (W.iNe (W.lenI y4.2.1) 0)) fun y8 =>
  W.bindK (bif y8 then some true else some (W.iNe y4.1.2.2.2.2.2.2.2.2.2.1 1)) fun y9 =>
  bif y9 then some (false, ()) else W.bindK (F39 W (y4.1, 3, W.litS [115, 111, 109, 101], ())) fun y10 =>
  W.bindK (bif W.bNot y10.2.2.2.1 then some true else some (W.iNe y10.2.2.1 2)) fun y11 =>
  W.bindK (bif y11 then some true else some (W.iNe y10.1.2.2.2.2.2.2.2.2.2.1 2)) fun y12 =>
  bif y12 then some (false, ()) else W.guardK (W.gNz 4) <|
  W.joinK (fun (s13 : TNode × List Int × Unit) =>
  W.bindK (F40 W s13.2) fun y14 =>
  W.bindK (F39 W (s13.1, 2, y14.1, ())) fun y15 =>
  W.bindK (F40 W ([W.iAdd .i64 1 (W.iRem y2 4)], ())) fun y16 =>
  W.bindK (F39 W (y15.1, 2, y16.1, ())) fun y17 =>
  W.bindK (F41 W (y15.1, 1, ())) fun y18 =>
  W.bindK (bif y15.2.2.2.1 then some (W.bNot y17.2.2.2.1) else some false) fun y19 =>
  W.bindK (bif y19 then some (W.iEq y15.1.2.2.2.2.2.2.2.2.2.1 2) else some false) fun y20 =>
  W.bindK (bif y20 then some (W.iEq (W.lenI y15.2.1) 1) else some false) fun y21 =>
  W.bindK (bif y21 then W.bindK (F43 W (y15.1, ())) fun y22 =>
  W.bindK (F42 W (y22.1, s13.2)) fun y23 =>
  some y23.1 else some false) fun y24 =>
  bif y24 then W.bindK (F44 W (y15.1, 2, ())) fun y25 =>
  W.bindK (W.bindK (F42 W (y25.1, [W.iAdd .i64 1 (W.iRem y2 4)], ())) fun y26 =>
  some y26.1) fun y27 =>
  W.bindK (bif y27 then some y18.2.1 else some false) fun y28 =>
  W.bindK (bif y28 then W.bindK (F45 W (y18.1, ())) fun y29 =>
  some y29.1 else some false) fun y30 =>
  W.bindK (bif y30 then some (W.iEq y18.1.2.2.2.2.2.2.1 1) else some false) fun y31 =>
  some (y31, ()) else W.bindK (some false) fun y32 =>
  W.bindK (bif y32 then some y18.2.1 else some false) fun y33 =>
  W.bindK (bif y33 then W.bindK (F45 W (y18.1, ())) fun y34 =>
  some y34.1 else some false) fun y35 =>
  W.bindK (bif y35 then some (W.iEq y18.1.2.2.2.2.2.2.1 1) else some false) fun y36 =>
  some (y36, ())) fun k37 =>
  bif W.iGt (W.iAdd .i64 1 (W.iRem y2 4)) (W.iAdd .i64 (W.iRem (W.iAdd .i64 1 (W.iRem y2 4)) 4) 1) then k37 (y10.1, [W.iAdd .i64 (W.iRem (W.iAdd .i64 1 (W.iRem y2 4)) 4) 1, W.iAdd .i64 1 (W.iRem y2 4)], ()) else k37 (y10.1, [W.iAdd .i64 1 (W.iRem y2 4), W.iAdd .i64 (W.iRem (W.iAdd .i64 1 (W.iRem y2 4)) 4) 1], ())
abbrev ce7 : CE := .con true sg7 (F7 WW)
theorem co7 : ConOK TT 7 sg7 (F7 WW) := con_fn (fn := inlF XX fn7) (ces := [(35, ce35), (36, ce36), (37, ce37), (38, ce38), (39, ce39), (40, ce40), (41, ce41), (45, ce45), (42, ce42), (44, ce44), (43, ce43)]) (ents1 en35 (ents1 en36 (ents1 en37 (ents1 en38 (ents1 en39 (ents1 en40 (ents1 en41 (ents1 en45 (ents1 en42 (ents1 en44 (ents1 en43 ents0))))))))))) hn7 pm7 (by kernel_rfl) rfl rfl (fun x => by kernel_rfl)
theorem en7 : EntOK TT 7 ce7 := ent_fz co7 (by kernel_rfl) rfl rfl rfl
end
end Go.Proofs.Ytiamdibpgdkedaa.Al
