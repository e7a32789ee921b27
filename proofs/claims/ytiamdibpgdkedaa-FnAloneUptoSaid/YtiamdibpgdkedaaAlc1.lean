/- FnAlone: what comes behind the draw, run. -/
import Derived.Test.YtiamdibpgdkedaaAlb
namespace Go.Proofs.Ytiamdibpgdkedaa.Al
open Go Go.Am
set_option linter.unusedVariables false
set_option maxRecDepth 100000

noncomputable section
def R7 (W : Words) (q : Int) : Option (Bool × Unit) :=
 W.guardK (W.gNz 4) <|
  W.bindK (F37 W (W.iAdd .i64 1 (q), [W.iAdd .i64 1 (q)], ())) fun y3 =>
  W.bindK (F38 W ((y3.1.1, y3.1.2.1, y3.1.2.2.1, y3.1.2.2.2.1, y3.1.2.2.2.2.1, y3.1.2.2.2.2.2.1, y3.1.2.2.2.2.2.2.1, y3.1.2.2.2.2.2.2.2.1, y3.1.2.2.2.2.2.2.2.2.1, y3.1.2.2.2.2.2.2.2.2.2.1, y3.1.2.2.2.2.2.2.2.2.2.2.1, 1, y3.1.2.2.2.2.2.2.2.2.2.2.2.2), 5, ())) fun y4 =>
  W.bindK (bif W.bNot y3.2.1 then some true else some (W.bNot y4.2.2.1)) fun y5 =>
  W.bindK (bif y5 then some true else some (W.iNe y4.1.2.2.2.1 2)) fun y6 =>
  W.bindK (bif y6 then some true else some (W.iNe y4.1.2.1 1)) fun y7 =>
  W.bindK (bif y7 then some true else some (W.iNe (W.lenI y4.2.1) 0)) fun y8 =>
  W.bindK (bif y8 then some true else some (W.iNe y4.1.2.2.2.2.2.2.2.2.2.1 1)) fun y9 =>
  bif y9 then some (false, ()) else W.bindK (F39 W (y4.1, 3, W.litS [115, 111, 109, 101], ())) fun y10 =>
  W.bindK (bif W.bNot y10.2.2.2.1 then some true else some (W.iNe y10.2.2.1 2)) fun y11 =>
  W.bindK (bif y11 then some true else some (W.iNe y10.1.2.2.2.2.2.2.2.2.2.1 2)) fun y12 =>
  bif y12 then some (false, ()) else W.guardK (W.gNz 4) <|
  W.joinK (fun (s13 : TNode × List Int × Unit) =>
  W.bindK (F40 W s13.2) fun y14 =>
  W.bindK (F39 W (s13.1, 2, y14.1, ())) fun y15 =>
  W.bindK (F40 W ([W.iAdd .i64 1 (q)], ())) fun y16 =>
  W.bindK (F39 W (y15.1, 2, y16.1, ())) fun y17 =>
  W.bindK (F41 W (y15.1, 1, ())) fun y18 =>
  W.bindK (bif y15.2.2.2.1 then some (W.bNot y17.2.2.2.1) else some false) fun y19 =>
  W.bindK (bif y19 then some (W.iEq y15.1.2.2.2.2.2.2.2.2.2.1 2) else some false) fun y20 =>
  W.bindK (bif y20 then some (W.iEq (W.lenI y15.2.1) 1) else some false) fun y21 =>
  W.bindK (bif y21 then W.bindK (F43 W (y15.1, ())) fun y22 =>
  W.bindK (F42 W (y22.1, s13.2)) fun y23 =>
  some y23.1 else some false) fun y24 =>
  bif y24 then W.bindK (F44 W (y15.1, 2, ())) fun y25 =>
  W.bindK (W.bindK (F42 W (y25.1, [W.iAdd .i64 1 (q)], ())) fun y26 =>
  some y26.1) fun y27 =>
  W.bindK (bif y27 then some y18.2.1 else some false) fun y28 =>
  W.bindK (bif y28 then W.bindK (F45 W (y18.1, ())) fun y29 =>
  some y29.1 else some false) fun y30 =>
  W.bindK (bif y30 then some (W.iEq y18.1.2.2.2.2.2.2.1 1) else some false) fun y31 =>
  some (y31, ()) else W.bindK (some false) fun y32 =>
  W.bindK (bif y32 then some y18.2.1 else some false) fun y33 =>
  W.bindK (bif y33 then W.bindK (F45 W (y18.1, ())) fun y34 =>
  some y34.1 else some false) fun y35 =>
  W.bindK (bif y35 then some (W.iEq y18.1.2.2.2.2.2.2.1 1) else some false) fun y36 =>
  some (y36, ())) fun k37 =>
  bif W.iGt (W.iAdd .i64 1 (q)) (W.iAdd .i64 (W.iRem (W.iAdd .i64 1 (q)) 4) 1) then k37 (y10.1, [W.iAdd .i64 (W.iRem (W.iAdd .i64 1 (q)) 4) 1, W.iAdd .i64 1 (q)], ()) else k37 (y10.1, [W.iAdd .i64 1 (q), W.iAdd .i64 (W.iRem (W.iAdd .i64 1 (q)) 4) 1], ())
theorem run0 : R7 RW 0 = some (true, ()) := by kernel_rfl
theorem run1 : R7 RW 1 = some (true, ()) := by kernel_rfl
theorem run2 : R7 RW 2 = some (true, ()) := by kernel_rfl
theorem run3 : R7 RW 3 = some (true, ()) := by kernel_rfl
end
end Go.Proofs.Ytiamdibpgdkedaa.Al
