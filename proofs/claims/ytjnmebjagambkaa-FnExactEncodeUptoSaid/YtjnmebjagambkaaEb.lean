/- The functions that FnExactEncode reaches, told as functions of data, and that the program does what they tell. -/
import Derived.Test.YtjnmebjagambkaaEa
namespace Go.Proofs.Ytjnmebjagambkaa.E
set_option linter.unusedVariables false
set_option linter.unusedSimpArgs false
set_option maxRecDepth 100000
open Go Go.Am

noncomputable section
theorem ents0 : ∀ p ∈ ([] : List (Nat × CE)), EntOK TT p.1 p.2 := fun p h => by cases h
theorem ents1 {a : Nat} {v : CE} {l : List (Nat × CE)} (h : EntOK TT a v) (k : ∀ p ∈ l, EntOK TT p.1 p.2) : ∀ p ∈ (a, v) :: l, EntOK TT p.1 p.2 := fun p hp => (List.mem_cons.1 hp).elim (fun e => e ▸ h) (k p)
/- laws.szEntry -/
def hn140 : Hints := []
def pm140 : List Nat := [2]
abbrev sg140 : Sig := ⟨[.dat KEntry, .dat I], [I]⟩
def F140 (x : TEntry × Int × Unit) : Option (Int × Unit) :=
  bif iLt (iSub .i64 x.2.1 (lenI x.1.2.2.1)) 0 then some ((-1), ()) else some (iSub .i64 x.2.1 (lenI x.1.2.2.1), ())
abbrev ce140 : CE := .con true sg140 F140
theorem co140 : ConOK TT 140 sg140 F140 := con_fn (fn := fn140) (ces := []) ents0 hn140 pm140 (by kernel_rfl) rfl rfl (fun x => by kernel_rfl)
theorem en140 : EntOK TT 140 ce140 := ent_fz co140 (by kernel_rfl) rfl rfl rfl
/- laws.szEntryS -/
def hn56 : Hints := [(7, (.sl 3 KEntry), true), (13, (.sl 3 KEntry), true), (18, (.sl 3 KEntry), true)]
def pm56 : List Nat := []
abbrev sg56 : Sig := ⟨[.dat (.sl 3 KEntry), .dat I], [I]⟩
def F56 (x : List TEntry × Int × Unit) : Option (Int × Unit) :=
  bif iLt (iSub .i64 x.2.1 (lenI x.1)) 0 then some ((-1), ()) else loopF (fun rec0 (s1 : Int × Int × Unit) =>
  bif iLt s1.1 (lenI x.1) then idxK x.1 s1.1 fun y2 =>
  bindK (F140 (y2, s1.2)) fun y3 =>
  bif iLt y3.1 0 then some ((-1), ()) else rec0 (iAdd .i64 s1.1 1, y3) else some s1.2) NN (0, iSub .i64 x.2.1 (lenI x.1), ())
abbrev ce56 : CE := .con true sg56 F56
theorem co56 : ConOK TT 56 sg56 F56 := con_fn (fn := fn56) (ces := [(140, ce140)]) (ents1 en140 ents0) hn56 pm56 (by kernel_rfl) rfl rfl (fun x => by kernel_rfl)
theorem en56 : EntOK TT 56 ce56 := ent_fz co56 (by kernel_rfl) rfl rfl rfl
/- laws.szIntS -/
def hn57 : Hints := [(6, (.sl 1 I), true)]
def pm57 : List Nat := []
abbrev sg57 : Sig := ⟨[.dat (.sl 1 I), .dat I], [I]⟩
def F57 (x : List Int × Int × Unit) : Option (Int × Unit) :=
  bif iLt (iSub .i64 x.2.1 (lenI x.1)) 0 then some ((-1), ()) else some (iSub .i64 x.2.1 (lenI x.1), ())
abbrev ce57 : CE := .con true sg57 F57
theorem co57 : ConOK TT 57 sg57 F57 := con_fn (fn := fn57) (ces := []) ents0 hn57 pm57 (by kernel_rfl) rfl rfl (fun x => by kernel_rfl)
theorem en57 : EntOK TT 57 ce57 := ent_fz co57 (by kernel_rfl) rfl rfl rfl
/- laws.szMessage -/
def hn14 : Hints := [(2, KMessage, true), (6, (.sl 3 KEntry), true), (12, (.sl 1 I), true)]
def pm14 : List Nat := [2]
abbrev sg14 : Sig := ⟨[.dat KMessage, .dat I], [I]⟩
def F14 (x : TMessage × Int × Unit) : Option (Int × Unit) :=
  bindK (F56 (x.1.2.2.2.2.2.2.2.2.1, x.2)) fun y0 =>
  bif iLt y0.1 0 then some ((-1), ()) else bindK (F57 (x.1.2.2.2.2.2.2.2.2.2.1, y0)) fun y1 =>
  bif iLt y1.1 0 then some ((-1), ()) else bif iLt (iSub .i64 y1.1 (lenI x.1.2.2.2.2.2.2.2.2.2.2.1)) 0 then some ((-1), ()) else some (iSub .i64 y1.1 (lenI x.1.2.2.2.2.2.2.2.2.2.2.1), ())
abbrev ce14 : CE := .con true sg14 F14
theorem co14 : ConOK TT 14 sg14 F14 := con_fn (fn := fn14) (ces := [(56, ce56), (57, ce57)]) (ents1 en56 (ents1 en57 ents0)) hn14 pm14 (by kernel_rfl) rfl rfl (fun x => by kernel_rfl)
theorem en14 : EntOK TT 14 ce14 := ent_fz co14 (by kernel_rfl) rfl rfl rfl
/- spec.l01In -/
def hn58 : Hints := []
def pm58 : List Nat := []
abbrev sg58 : Sig := ⟨[.dat I, .dat I, .dat I], [.bool]⟩
def F58 (x : Int × Int × Int × Unit) : Option (Bool × Unit) :=
  bindK (bif iGe x.1 x.2.1 then some (iLe x.1 x.2.2.1) else some false) fun y0 =>
  some (y0, ())
abbrev ce58 : CE := .con true sg58 F58
theorem co58 : ConOK TT 58 sg58 F58 := con_fn (fn := fn58) (ces := []) ents0 hn58 pm58 (by kernel_rfl) rfl rfl (fun x => by kernel_rfl)
theorem en58 : EntOK TT 58 ce58 := ent_fz co58 (by kernel_rfl) rfl rfl rfl
/- spec.l05Rise -/
def hn93 : Hints := [(9, (.sl 1 I), true), (14, (.sl 1 I), true), (26, (.sl 1 I), true), (31, (.sl 1 I), true)]
def pm93 : List Nat := []
abbrev sg93 : Sig := ⟨[.dat (.sl 1 I), .dat I, .dat I], [.bool]⟩
def F93 (x : List Int × Int × Int × Unit) : Option (Bool × Unit) :=
  loopF (fun rec0 (s1 : Int × Unit) =>
  bif iLt s1.1 (lenI x.1) then idxK x.1 s1.1 fun y2 =>
  bindK (F58 (y2, x.2)) fun y3 =>
  bindK (bif bNot y3.1 then some true else bindK (bif iGt s1.1 0 then idxK x.1 (iSub .i64 s1.1 1) fun y4 =>
  idxK x.1 s1.1 fun y5 =>
  some (iGe y4 y5) else some false) fun y6 =>
  some y6) fun y7 =>
  bif y7 then some (false, ()) else rec0 (iAdd .i64 s1.1 1, ()) else some (true, ())) NN (0, ())
abbrev ce93 : CE := .con true sg93 F93
theorem co93 : ConOK TT 93 sg93 F93 := con_fn (fn := fn93) (ces := [(58, ce58)]) (ents1 en58 ents0) hn93 pm93 (by kernel_rfl) rfl rfl (fun x => by kernel_rfl)
theorem en93 : EntOK TT 93 ce93 := ent_fz co93 (by kernel_rfl) rfl rfl rfl
/- spec.ConfOk -/
def hn60 : Hints := [(3, (.sl 1 I), true), (7, (.sl 1 I), true)]
def pm60 : List Nat := []
abbrev sg60 : Sig := ⟨[.dat (.sl 1 I)], [.bool]⟩
def F60 (x : List Int × Unit) : Option (Bool × Unit) :=
  bindK (F58 (lenI x.1, 1, 4, ())) fun y0 =>
  bindK (bif y0.1 then bindK (F93 (x.1, 1, 4, ())) fun y1 =>
  some y1.1 else some false) fun y2 =>
  some (y2, ())
abbrev ce60 : CE := .con true sg60 F60
theorem co60 : ConOK TT 60 sg60 F60 := con_fn (fn := fn60) (ces := [(93, ce93), (58, ce58)]) (ents1 en93 (ents1 en58 ents0)) hn60 pm60 (by kernel_rfl) rfl rfl (fun x => by kernel_rfl)
theorem en60 : EntOK TT 60 ce60 := ent_fz co60 (by kernel_rfl) rfl rfl rfl
/- spec.ReadConf -/
def hn68 : Hints := [(2, (.sl 1 I), true), (4, (.sl 1 I), true), (6, (.sl 1 I), true), (17, (.sl 1 I), true), (22, (.sl 1 I), true), (23, (.sl 1 I), true), (24, (.sl 1 I), true), (30, (.sl 1 I), true), (34, (.sl 1 I), true), (35, (.sl 1 I), true)]
def pm68 : List Nat := []
abbrev sg68 : Sig := ⟨[.dat .str], [(.sl 1 I), .bool]⟩
def F68 (x : List UInt8 × Unit) : Option (List Int × Bool × Unit) :=
  loopF (fun rec0 (s1 : Int × List Int × Unit) =>
  bindK (bif iLt s1.1 (lenI x.1) then some (iLe s1.1 4) else some false) fun y2 =>
  bif y2 then idxK x.1 s1.1 fun y3 =>
  guardK (gApp s1.2.1 [iConv .i64 (byteI y3)] 1) <|
  rec0 (iAdd .i64 s1.1 1, cat s1.2.1 [iConv .i64 (byteI y3)], ()) else bindK (bif iNe (lenI s1.2.1) (lenI x.1) then some true else bindK (F60 s1.2) fun y4 =>
  some (bNot y4.1)) fun y5 =>
  bif y5 then some ([], false, ()) else some (s1.2.1, true, ())) NN (0, [], ())
abbrev ce68 : CE := .con false sg68 F68
theorem co68 : ConOK TT 68 sg68 F68 := con_fn (fn := fn68) (ces := [(60, ce60)]) (ents1 en60 ents0) hn68 pm68 (by kernel_rfl) rfl rfl (fun x => by kernel_rfl)
theorem en68 : EntOK TT 68 ce68 := ent_sep co68 (by kernel_rfl) rfl
/- spec.EntryOk -/
def hn59 : Hints := [(3, (.sl 1 I), true), (22, (.sl 1 I), true)]
def pm59 : List Nat := [1]
abbrev sg59 : Sig := ⟨[.dat KEntry], [.bool]⟩
def F59 (x : TEntry × Unit) : Option (Bool × Unit) :=
  bindK (F58 (x.1.1, 0, 100000, ())) fun y0 =>
  bif bNot y0.1 then some (false, ()) else bif iEq x.1.2.1 1 then some (strEq x.1.2.2.1 (litS []), ()) else bif iEq x.1.2.1 2 then bindK (F68 x.1.2.2) fun y1 =>
  some y1.2 else bif iEq x.1.2.1 3 then some (iLe (lenI x.1.2.2.1) 120, ()) else some (false, ())
abbrev ce59 : CE := .con true sg59 F59
theorem co59 : ConOK TT 59 sg59 F59 := con_fn (fn := fn59) (ces := [(58, ce58), (68, ce68)]) (ents1 en58 (ents1 en68 ents0)) hn59 pm59 (by kernel_rfl) rfl rfl (fun x => by kernel_rfl)
theorem en59 : EntOK TT 59 ce59 := ent_fz co59 (by kernel_rfl) rfl rfl rfl
/- spec.MessageOk -/
def hn15 : Hints := [(1, KMessage, true), (51, (.sl 3 KEntry), true), (56, (.sl 3 KEntry), true), (69, (.sl 3 KEntry), true), (75, (.sl 3 KEntry), true), (83, (.sl 3 KEntry), true), (93, (.sl 3 KEntry), true), (103, (.sl 3 KEntry), true), (112, (.sl 1 I), true), (121, (.sl 1 I), true)]
def pm15 : List Nat := [1]
abbrev sg15 : Sig := ⟨[.dat KMessage], [.bool]⟩
def F15 (x : TMessage × Unit) : Option (Bool × Unit) :=
  bindK (F58 (x.1.1, 1, 6, ())) fun y0 =>
  bindK (bif bNot y0.1 then some true else bindK (F58 (x.1.2.1, 1, 4, ())) fun y1 =>
  some (bNot y1.1)) fun y2 =>
  bindK (bif y2 then some true else bindK (F58 (x.1.2.2.1, 1, 4, ())) fun y3 =>
  some (bNot y3.1)) fun y4 =>
  bindK (bif y4 then some true else some (iEq x.1.2.1 x.1.2.2.1)) fun y5 =>
  bif y5 then some (false, ()) else bindK (F58 (x.1.2.2.2.1, 0, 100000, ())) fun y6 =>
  bindK (bif bNot y6.1 then some true else bindK (F58 (x.1.2.2.2.2.2.1, 0, 100000, ())) fun y7 =>
  some (bNot y7.1)) fun y8 =>
  bindK (bif y8 then some true else bindK (F58 (x.1.2.2.2.2.1, 0, 1000000, ())) fun y9 =>
  some (bNot y9.1)) fun y10 =>
  bindK (bif y10 then some true else bindK (F58 (x.1.2.2.2.2.2.2.1, 0, 1000000, ())) fun y11 =>
  some (bNot y11.1)) fun y12 =>
  bif y12 then some (false, ()) else bindK (bif iGt (lenI x.1.2.2.2.2.2.2.2.2.1) 4 then some true else bindK (bif iGt (lenI x.1.2.2.2.2.2.2.2.2.1) 0 then some (iNe x.1.1 3) else some false) fun y13 =>
  some y13) fun y14 =>
  bif y14 then some (false, ()) else loopF (fun rec15 (s16 : Int × Int × Unit) =>
  bif iLt s16.2.1 (lenI x.1.2.2.2.2.2.2.2.2.1) then idxK x.1.2.2.2.2.2.2.2.2.1 s16.2.1 fun y17 =>
  bindK (F59 (y17, ())) fun y18 =>
  bindK (bif bNot y18.1 then some true else idxK x.1.2.2.2.2.2.2.2.2.1 s16.2.1 fun y19 =>
  some (iLt y19.1 s16.1)) fun y20 =>
  bindK (bif y20 then some true else idxK x.1.2.2.2.2.2.2.2.2.1 s16.2.1 fun y21 =>
  some (iGt y21.1 x.1.2.2.2.1)) fun y22 =>
  bif y22 then some (false, ()) else idxK x.1.2.2.2.2.2.2.2.2.1 s16.2.1 fun y23 =>
  rec15 (y23.1, iAdd .i64 s16.2.1 1, ()) else bif iEq x.1.1 5 then bindK (F60 (x.1.2.2.2.2.2.2.2.2.2.1, ())) fun y24 =>
  bindK (bif y24.1 then some (iLe (lenI x.1.2.2.2.2.2.2.2.2.2.2.1) 60) else some false) fun y25 =>
  some (y25, ()) else bindK (bif iEq (lenI x.1.2.2.2.2.2.2.2.2.2.1) 0 then some (strEq x.1.2.2.2.2.2.2.2.2.2.2.1 (litS [])) else some false) fun y26 =>
  bindK (bif y26 then some (bNot x.1.2.2.2.2.2.2.2.2.2.2.2.1) else some false) fun y27 =>
  some (y27, ())) NN (x.1.2.2.2.2.2.1, 0, ())
abbrev ce15 : CE := .con true sg15 F15
theorem co15 : ConOK TT 15 sg15 F15 := con_fn (fn := fn15) (ces := [(58, ce58), (59, ce59), (60, ce60)]) (ents1 en58 (ents1 en59 (ents1 en60 ents0))) hn15 pm15 (by kernel_rfl) rfl rfl (fun x => by kernel_rfl)
theorem en15 : EntOK TT 15 ce15 := ent_fz co15 (by kernel_rfl) rfl rfl rfl
/- spec.l01Var -/
def hn76 : Hints := [(3, (.sl 1 (.int .u8)), true), (4, (.sl 1 (.int .u8)), true), (7, (.sl 1 (.int .u8)), true), (12, (.sl 1 (.int .u8)), true), (13, (.sl 1 (.int .u8)), true), (16, (.sl 1 (.int .u8)), true), (19, (.sl 1 (.int .u8)), true), (20, (.sl 1 (.int .u8)), true)]
def pm76 : List Nat := []
abbrev sg76 : Sig := ⟨[.dat I], [.str]⟩
def F76 (x : Int × Unit) : Option (List UInt8 × Unit) :=
  loopF (fun rec0 (s1 : Int × List Int × Unit) =>
  bif iGt s1.1 127 then guardK (gNz 128) <|
  guardK (gApp s1.2.1 [iConv .u8 (iAdd .i64 (iRem s1.1 128) 128)] 1) <|
  guardK (gNz 128) <|
  rec0 (iQuo .i64 s1.1 128, cat s1.2.1 [iConv .u8 (iAdd .i64 (iRem s1.1 128) 128)], ()) else guardK (gApp s1.2.1 [iConv .u8 s1.1] 1) <|
  some (strP (cat s1.2.1 [iConv .u8 s1.1]), ())) NN (x.1, [], ())
abbrev ce76 : CE := .con true sg76 F76
theorem co76 : ConOK TT 76 sg76 F76 := con_fn (fn := fn76) (ces := []) ents0 hn76 pm76 (by kernel_rfl) rfl rfl (fun x => by kernel_rfl)
theorem en76 : EntOK TT 76 ce76 := ent_fz co76 (by kernel_rfl) rfl rfl rfl
/- spec.l15Flag -/
def hn77 : Hints := []
def pm77 : List Nat := []
abbrev sg77 : Sig := ⟨[.dat .bool], [.str]⟩
def F77 (x : Bool × Unit) : Option (List UInt8 × Unit) :=
  bif x.1 then some (litS [1], ()) else some (litS [0], ())
abbrev ce77 : CE := .con true sg77 F77
theorem co77 : ConOK TT 77 sg77 F77 := con_fn (fn := fn77) (ces := []) ents0 hn77 pm77 (by kernel_rfl) rfl rfl (fun x => by kernel_rfl)
theorem en77 : EntOK TT 77 ce77 := ent_fz co77 (by kernel_rfl) rfl rfl rfl
/- spec.EntryText -/
def hn78 : Hints := [(24, (.sl 1 (.int .u8)), true)]
def pm78 : List Nat := [3]
abbrev sg78 : Sig := ⟨[.dat I, .dat KEntry], [.str, .bool]⟩
def F78 (x : Int × TEntry × Unit) : Option (List UInt8 × Bool × Unit) :=
  bindK (F59 x.2) fun y0 =>
  bindK (bif bNot y0.1 then some true else bindK (F58 (x.1, 1, 1000000, ())) fun y1 =>
  some (bNot y1.1)) fun y2 =>
  bif y2 then some (litS [], false, ()) else bindK (F76 (x.1, ())) fun y3 =>
  guardK (gCat (litS [69]) y3.1) <|
  bindK (F76 (x.2.1.1, ())) fun y4 =>
  guardK (gCat (cat (litS [69]) y3.1) y4.1) <|
  guardK (gCat (cat (cat (litS [69]) y3.1) y4.1) (strP [iConv .u8 x.2.1.2.1])) <|
  guardK (gCat (cat (cat (cat (litS [69]) y3.1) y4.1) (strP [iConv .u8 x.2.1.2.1])) x.2.1.2.2.1) <|
  some (cat (cat (cat (cat (litS [69]) y3.1) y4.1) (strP [iConv .u8 x.2.1.2.1])) x.2.1.2.2.1, true, ())
abbrev ce78 : CE := .con true sg78 F78
theorem co78 : ConOK TT 78 sg78 F78 := con_fn (fn := fn78) (ces := [(58, ce58), (59, ce59), (76, ce76)]) (ents1 en58 (ents1 en59 (ents1 en76 ents0))) hn78 pm78 (by kernel_rfl) rfl rfl (fun x => by kernel_rfl)
theorem en78 : EntOK TT 78 ce78 := ent_fz co78 (by kernel_rfl) rfl rfl rfl
/- spec.l05Short -/
def hn79 : Hints := []
def pm79 : List Nat := []
abbrev sg79 : Sig := ⟨[.dat .str], [.str]⟩
def F79 (x : List UInt8 × Unit) : Option (List UInt8 × Unit) :=
  bindK (F76 (lenI x.1, ())) fun y0 =>
  guardK (gCat y0.1 x.1) <|
  some (cat y0.1 x.1, ())
abbrev ce79 : CE := .con true sg79 F79
theorem co79 : ConOK TT 79 sg79 F79 := con_fn (fn := fn79) (ces := [(76, ce76)]) (ents1 en76 ents0) hn79 pm79 (by kernel_rfl) rfl rfl (fun x => by kernel_rfl)
theorem en79 : EntOK TT 79 ce79 := ent_fz co79 (by kernel_rfl) rfl rfl rfl
/- spec.ConfText -/
def hn80 : Hints := [(4, (.sl 1 (.int .u8)), true), (6, (.sl 1 I), true), (9, (.sl 1 (.int .u8)), true), (11, (.sl 1 I), true), (16, (.sl 1 (.int .u8)), true), (17, (.sl 1 I), true), (22, (.sl 1 (.int .u8)), true), (23, (.sl 1 (.int .u8)), true), (24, (.sl 1 (.int .u8)), true)]
def pm80 : List Nat := []
abbrev sg80 : Sig := ⟨[.dat (.sl 1 I)], [.str, .bool]⟩
def F80 (x : List Int × Unit) : Option (List UInt8 × Bool × Unit) :=
  bindK (F60 x) fun y0 =>
  bif bNot y0.1 then some (litS [], false, ()) else loopF (fun rec1 (s2 : Int × List Int × Unit) =>
  bif iLt s2.1 (lenI x.1) then idxK x.1 s2.1 fun y3 =>
  guardK (gApp s2.2.1 [iConv .u8 y3] 1) <|
  rec1 (iAdd .i64 s2.1 1, cat s2.2.1 [iConv .u8 y3], ()) else some (strP s2.2.1, true, ())) NN (0, [], ())
abbrev ce80 : CE := .con true sg80 F80
theorem co80 : ConOK TT 80 sg80 F80 := con_fn (fn := fn80) (ces := [(60, ce60)]) (ents1 en60 ents0) hn80 pm80 (by kernel_rfl) rfl rfl (fun x => by kernel_rfl)
theorem en80 : EntOK TT 80 ce80 := ent_fz co80 (by kernel_rfl) rfl rfl rfl
/- spec.Encode -/
def hn30 : Hints := [(1, KMessage, true), (10, KMessage, true), (22, (.sl 1 (.int .u8)), true), (49, (.sl 3 KEntry), true), (55, (.sl 3 KEntry), true), (62, (.sl 3 KEntry), true), (75, (.sl 1 I), true)]
def pm30 : List Nat := [1]
abbrev sg30 : Sig := ⟨[.dat KMessage], [.str, .bool]⟩
def F30 (x : TMessage × Unit) : Option (List UInt8 × Bool × Unit) :=
  bindK (F15 x) fun y0 =>
  bif bNot y0.1 then some (litS [], false, ()) else bindK (F76 (x.1.2.2.2.1, ())) fun y1 =>
  guardK (gCat (strP [iConv .u8 x.1.1, iConv .u8 x.1.2.1, iConv .u8 x.1.2.2.1]) y1.1) <|
  bindK (F76 (x.1.2.2.2.2.1, ())) fun y2 =>
  guardK (gCat (cat (strP [iConv .u8 x.1.1, iConv .u8 x.1.2.1, iConv .u8 x.1.2.2.1]) y1.1) y2.1) <|
  bindK (F76 (x.1.2.2.2.2.2.1, ())) fun y3 =>
  guardK (gCat (cat (cat (strP [iConv .u8 x.1.1, iConv .u8 x.1.2.1, iConv .u8 x.1.2.2.1]) y1.1) y2.1) y3.1) <|
  bindK (F76 (x.1.2.2.2.2.2.2.1, ())) fun y4 =>
  guardK (gCat (cat (cat (cat (strP [iConv .u8 x.1.1, iConv .u8 x.1.2.1, iConv .u8 x.1.2.2.1]) y1.1) y2.1) y3.1) y4.1) <|
  bindK (F77 (x.1.2.2.2.2.2.2.2.1, ())) fun y5 =>
  guardK (gCat (cat (cat (cat (cat (strP [iConv .u8 x.1.1, iConv .u8 x.1.2.1, iConv .u8 x.1.2.2.1]) y1.1) y2.1) y3.1) y4.1) y5.1) <|
  bindK (F77 x.1.2.2.2.2.2.2.2.2.2.2.2) fun y6 =>
  guardK (gCat (cat (cat (cat (cat (cat (strP [iConv .u8 x.1.1, iConv .u8 x.1.2.1, iConv .u8 x.1.2.2.1]) y1.1) y2.1) y3.1) y4.1) y5.1) y6.1) <|
  bindK (F76 (lenI x.1.2.2.2.2.2.2.2.2.1, ())) fun y7 =>
  guardK (gCat (cat (cat (cat (cat (cat (cat (strP [iConv .u8 x.1.1, iConv .u8 x.1.2.1, iConv .u8 x.1.2.2.1]) y1.1) y2.1) y3.1) y4.1) y5.1) y6.1) y7.1) <|
  loopF (fun rec8 (s9 : Int × List UInt8 × Unit) =>
  bif iLt s9.1 (lenI x.1.2.2.2.2.2.2.2.2.1) then idxK x.1.2.2.2.2.2.2.2.2.1 s9.1 fun y10 =>
  bindK (F78 (1, y10, ())) fun y11 =>
  bindK (F79 (y11.1, ())) fun y12 =>
  guardK (gCat s9.2.1 y12.1) <|
  rec8 (iAdd .i64 s9.1 1, cat s9.2.1 y12.1, ()) else bindK (F80 (x.1.2.2.2.2.2.2.2.2.2.1, ())) fun y13 =>
  bindK (F79 (y13.1, ())) fun y14 =>
  guardK (gCat s9.2.1 y14.1) <|
  bindK (F79 (x.1.2.2.2.2.2.2.2.2.2.2.1, ())) fun y15 =>
  guardK (gCat (cat s9.2.1 y14.1) y15.1) <|
  some (cat (cat s9.2.1 y14.1) y15.1, true, ())) NN (0, cat (cat (cat (cat (cat (cat (cat (strP [iConv .u8 x.1.1, iConv .u8 x.1.2.1, iConv .u8 x.1.2.2.1]) y1.1) y2.1) y3.1) y4.1) y5.1) y6.1) y7.1, ())
abbrev ce30 : CE := .con true sg30 F30
theorem co30 : ConOK TT 30 sg30 F30 := con_fn (fn := fn30) (ces := [(15, ce15), (76, ce76), (77, ce77), (78, ce78), (79, ce79), (80, ce80)]) (ents1 en15 (ents1 en76 (ents1 en77 (ents1 en78 (ents1 en79 (ents1 en80 ents0)))))) hn30 pm30 (by kernel_rfl) rfl rfl (fun x => by kernel_rfl)
theorem en30 : EntOK TT 30 ce30 := ent_fz co30 (by kernel_rfl) rfl rfl rfl
/- laws.toEntry -/
def hn141 : Hints := []
def pm141 : List Nat := [1]
abbrev sg141 : Sig := ⟨[.dat KEntry], [KEntry]⟩
def F141 (x : TEntry × Unit) : Option (TEntry × Unit) :=
  some x
abbrev ce141 : CE := .con true sg141 F141
theorem co141 : ConOK TT 141 sg141 F141 := con_fn (fn := fn141) (ces := []) ents0 hn141 pm141 (by kernel_rfl) rfl rfl (fun x => by kernel_rfl)
theorem en141 : EntOK TT 141 ce141 := ent_fz co141 (by kernel_rfl) rfl rfl rfl
/- laws.toEntryS -/
def hn61 : Hints := [(2, (.sl 3 KEntry), true), (3, (.sl 3 KEntry), true), (5, (.sl 3 KEntry), true), (7, (.sl 3 KEntry), true), (9, (.sl 3 KEntry), true), (14, (.sl 3 KEntry), true), (16, (.sl 3 KEntry), true), (22, (.sl 3 KEntry), true)]
def pm61 : List Nat := []
abbrev sg61 : Sig := ⟨[.dat (.sl 3 KEntry)], [(.sl 3 KEntry)]⟩
def F61 (x : List TEntry × Unit) : Option (List TEntry × Unit) :=
  guardK (gMk (lenI x.1) 3) <|
  loopF (fun rec0 (s1 : Int × List TEntry × Unit) =>
  bif iLt s1.1 (lenI x.1) then idxK x.1 s1.1 fun y2 =>
  bindK (F141 (y2, ())) fun y3 =>
  idxK s1.2.1 s1.1 fun y4 =>
  rec0 (iAdd .i64 s1.1 1, setL s1.2.1 (toN s1.1) y3.1, ()) else some s1.2) NN (0, repL (toN (lenI x.1)) (0, 0, litS [], ()), ())
abbrev ce61 : CE := .con false sg61 F61
theorem co61 : ConOK TT 61 sg61 F61 := con_fn (fn := fn61) (ces := [(141, ce141)]) (ents1 en141 ents0) hn61 pm61 (by kernel_rfl) rfl rfl (fun x => by kernel_rfl)
theorem en61 : EntOK TT 61 ce61 := ent_sep co61 (by kernel_rfl) rfl
/- laws.toIntS -/
def hn40 : Hints := [(2, (.sl 1 I), true), (3, (.sl 1 I), true), (5, (.sl 1 I), true), (7, (.sl 1 I), true), (9, (.sl 1 I), true), (14, (.sl 1 I), true), (16, (.sl 1 I), true), (21, (.sl 1 I), true)]
def pm40 : List Nat := []
abbrev sg40 : Sig := ⟨[.dat (.sl 1 I)], [(.sl 1 I)]⟩
def F40 (x : List Int × Unit) : Option (List Int × Unit) :=
  guardK (gMk (lenI x.1) 1) <|
  loopF (fun rec0 (s1 : Int × List Int × Unit) =>
  bif iLt s1.1 (lenI x.1) then idxK x.1 s1.1 fun y2 =>
  idxK s1.2.1 s1.1 fun y3 =>
  rec0 (iAdd .i64 s1.1 1, setL s1.2.1 (toN s1.1) y2, ()) else some s1.2) NN (0, repL (toN (lenI x.1)) 0, ())
abbrev ce40 : CE := .con false sg40 F40
theorem co40 : ConOK TT 40 sg40 F40 := con_fn (fn := fn40) (ces := []) ents0 hn40 pm40 (by kernel_rfl) rfl rfl (fun x => by kernel_rfl)
theorem en40 : EntOK TT 40 ce40 := ent_sep co40 (by kernel_rfl) rfl
/- laws.toMessage -/
def hn16 : Hints := [(1, KMessage, true), (2, KMessage, true), (3, KMessage, true), (29, (.sl 3 KEntry), true), (30, (.sl 3 KEntry), true), (33, (.sl 1 I), true), (34, (.sl 1 I), true), (42, KMessage, true)]
def pm16 : List Nat := [1]
abbrev sg16 : Sig := ⟨[.dat KMessage], [KMessage]⟩
def F16 (x : TMessage × Unit) : Option (TMessage × Unit) :=
  bindK (F61 (x.1.2.2.2.2.2.2.2.2.1, ())) fun y0 =>
  bindK (F40 (x.1.2.2.2.2.2.2.2.2.2.1, ())) fun y1 =>
  some ((x.1.1, x.1.2.1, x.1.2.2.1, x.1.2.2.2.1, x.1.2.2.2.2.1, x.1.2.2.2.2.2.1, x.1.2.2.2.2.2.2.1, x.1.2.2.2.2.2.2.2.1, y0.1, y1.1, x.1.2.2.2.2.2.2.2.2.2.2), ())
abbrev ce16 : CE := .con false sg16 F16
theorem co16 : ConOK TT 16 sg16 F16 := con_fn (fn := fn16) (ces := [(61, ce61), (40, ce40)]) (ents1 en61 (ents1 en40 ents0)) hn16 pm16 (by kernel_rfl) rfl rfl (fun x => by kernel_rfl)
theorem en16 : EntOK TT 16 ce16 := ent_sep co16 (by kernel_rfl) rfl
/- impl.within -/
def hn62 : Hints := []
def pm62 : List Nat := []
abbrev sg62 : Sig := ⟨[.dat I, .dat I, .dat I], [.bool]⟩
def F62 (x : Int × Int × Int × Unit) : Option (Bool × Unit) :=
  bindK (bif iGe x.1 x.2.1 then some (iLe x.1 x.2.2.1) else some false) fun y0 =>
  some (y0, ())
abbrev ce62 : CE := .con true sg62 F62
theorem co62 : ConOK TT 62 sg62 F62 := con_fn (fn := fn62) (ces := []) ents0 hn62 pm62 (by kernel_rfl) rfl rfl (fun x => by kernel_rfl)
theorem en62 : EntOK TT 62 ce62 := ent_fz co62 (by kernel_rfl) rfl rfl rfl
/- impl.ConfOk -/
def hn64 : Hints := [(5, (.sl 1 I), true), (19, (.sl 1 I), true), (29, (.sl 1 I), true)]
def pm64 : List Nat := []
abbrev sg64 : Sig := ⟨[.dat (.sl 1 I)], [.bool]⟩
def F64 (x : List Int × Unit) : Option (Bool × Unit) :=
  loopF (fun rec0 (s1 : Int × Unit) =>
  bif iLt s1.1 (lenI x.1) then idxK x.1 s1.1 fun y2 =>
  bindK (F62 (y2, 1, 4, ())) fun y3 =>
  bindK (bif bNot y3.1 then some true else bindK (bif iGt s1.1 0 then idxK x.1 (iSub .i64 s1.1 1) fun y4 =>
  some (iGe y4 y2) else some false) fun y5 =>
  some y5) fun y6 =>
  bif y6 then some (false, ()) else rec0 (iAdd .i64 s1.1 1, ()) else bindK (F62 (lenI x.1, 1, 4, ())) fun y7 =>
  some y7) NN (0, ())
abbrev ce64 : CE := .con true sg64 F64
theorem co64 : ConOK TT 64 sg64 F64 := con_fn (fn := fn64) (ces := [(62, ce62)]) (ents1 en62 ents0) hn64 pm64 (by kernel_rfl) rfl rfl (fun x => by kernel_rfl)
theorem en64 : EntOK TT 64 ce64 := ent_fz co64 (by kernel_rfl) rfl rfl rfl
/- impl.ReadConf -/
def hn71 : Hints := [(2, (.sl 1 I), true), (4, (.sl 1 I), true), (12, (.sl 1 I), true), (17, (.sl 1 I), true), (18, (.sl 1 I), true), (19, (.sl 1 I), true), (22, (.sl 1 I), true)]
def pm71 : List Nat := []
abbrev sg71 : Sig := ⟨[.dat .str], [(.sl 1 I), .bool]⟩
def F71 (x : List UInt8 × Unit) : Option (List Int × Bool × Unit) :=
  loopF (fun rec0 (s1 : Int × List Int × Unit) =>
  bif iLt s1.1 (lenI x.1) then idxK x.1 s1.1 fun y2 =>
  guardK (gApp s1.2.1 [iConv .i64 (byteI y2)] 1) <|
  rec0 (iAdd .i64 s1.1 1, cat s1.2.1 [iConv .i64 (byteI y2)], ()) else bindK (F64 s1.2) fun y3 =>
  bif bNot y3.1 then some ([], false, ()) else some (s1.2.1, true, ())) NN (0, [], ())
abbrev ce71 : CE := .con false sg71 F71
theorem co71 : ConOK TT 71 sg71 F71 := con_fn (fn := fn71) (ces := [(64, ce64)]) (ents1 en64 ents0) hn71 pm71 (by kernel_rfl) rfl rfl (fun x => by kernel_rfl)
theorem en71 : EntOK TT 71 ce71 := ent_sep co71 (by kernel_rfl) rfl
/- impl.EntryOk -/
def hn63 : Hints := [(3, (.sl 1 I), true), (22, (.sl 1 I), true)]
def pm63 : List Nat := [1]
abbrev sg63 : Sig := ⟨[.dat KEntry], [.bool]⟩
def F63 (x : TEntry × Unit) : Option (Bool × Unit) :=
  bindK (F62 (x.1.1, 0, 100000, ())) fun y0 =>
  bif bNot y0.1 then some (false, ()) else bif iEq x.1.2.1 1 then some (strEq x.1.2.2.1 (litS []), ()) else bif iEq x.1.2.1 2 then bindK (F71 x.1.2.2) fun y1 =>
  some y1.2 else bif iEq x.1.2.1 3 then some (iLe (lenI x.1.2.2.1) 120, ()) else some (false, ())
abbrev ce63 : CE := .con true sg63 F63
theorem co63 : ConOK TT 63 sg63 F63 := con_fn (fn := fn63) (ces := [(62, ce62), (71, ce71)]) (ents1 en62 (ents1 en71 ents0)) hn63 pm63 (by kernel_rfl) rfl rfl (fun x => by kernel_rfl)
theorem en63 : EntOK TT 63 ce63 := ent_fz co63 (by kernel_rfl) rfl rfl rfl
/- impl.MessageOk -/
def hn17 : Hints := [(1, KMessage, true), (53, (.sl 3 KEntry), true), (66, (.sl 3 KEntry), true), (96, (.sl 1 I), true), (99, (.sl 1 I), true)]
def pm17 : List Nat := [5, 1]
abbrev sg17 : Sig := ⟨[.dat KMessage], [.bool]⟩
def F17 (x : TMessage × Unit) : Option (Bool × Unit) :=
  bindK (F62 (x.1.1, 1, 6, ())) fun y0 =>
  bindK (bif bNot y0.1 then some true else bindK (F62 (x.1.2.1, 1, 4, ())) fun y1 =>
  some (bNot y1.1)) fun y2 =>
  bindK (bif y2 then some true else bindK (F62 (x.1.2.2.1, 1, 4, ())) fun y3 =>
  some (bNot y3.1)) fun y4 =>
  bindK (bif y4 then some true else some (iEq x.1.2.1 x.1.2.2.1)) fun y5 =>
  bif y5 then some (false, ()) else bindK (F62 (x.1.2.2.2.1, 0, 100000, ())) fun y6 =>
  bindK (bif bNot y6.1 then some true else bindK (F62 (x.1.2.2.2.2.2.1, 0, 100000, ())) fun y7 =>
  some (bNot y7.1)) fun y8 =>
  bindK (bif y8 then some true else bindK (F62 (x.1.2.2.2.2.1, 0, 1000000, ())) fun y9 =>
  some (bNot y9.1)) fun y10 =>
  bindK (bif y10 then some true else bindK (F62 (x.1.2.2.2.2.2.2.1, 0, 1000000, ())) fun y11 =>
  some (bNot y11.1)) fun y12 =>
  bindK (bif y12 then some true else some (iGt (lenI x.1.2.2.2.2.2.2.2.2.1) 4)) fun y13 =>
  bindK (bif y13 then some true else some (iGt (lenI x.1.2.2.2.2.2.2.2.2.2.2.1) 60)) fun y14 =>
  bif y14 then some (false, ()) else loopF (fun rec15 (s16 : Int × Int × Unit) =>
  bif iLt s16.2.1 (lenI x.1.2.2.2.2.2.2.2.2.1) then idxK x.1.2.2.2.2.2.2.2.2.1 s16.2.1 fun y17 =>
  bindK (bif iNe x.1.1 3 then some true else bindK (F63 (y17, ())) fun y18 =>
  some (bNot y18.1)) fun y19 =>
  bindK (bif y19 then some true else bindK (F62 (y17.1, s16.1, x.1.2.2.2.1, ())) fun y20 =>
  some (bNot y20.1)) fun y21 =>
  bif y21 then some (false, ()) else rec15 (y17.1, iAdd .i64 s16.2.1 1, ()) else bif iEq x.1.1 5 then bindK (F64 (x.1.2.2.2.2.2.2.2.2.2.1, ())) fun y22 =>
  some y22 else bindK (bif iEq (lenI x.1.2.2.2.2.2.2.2.2.2.1) 0 then some (strEq x.1.2.2.2.2.2.2.2.2.2.2.1 (litS [])) else some false) fun y23 =>
  bindK (bif y23 then some (bNot x.1.2.2.2.2.2.2.2.2.2.2.2.1) else some false) fun y24 =>
  some (y24, ())) NN (x.1.2.2.2.2.2.1, 0, ())
abbrev ce17 : CE := .con true sg17 F17
theorem co17 : ConOK TT 17 sg17 F17 := con_fn (fn := fn17) (ces := [(62, ce62), (63, ce63), (64, ce64)]) (ents1 en62 (ents1 en63 (ents1 en64 ents0))) hn17 pm17 (by kernel_rfl) rfl rfl (fun x => by kernel_rfl)
theorem en17 : EntOK TT 17 ce17 := ent_fz co17 (by kernel_rfl) rfl rfl rfl
/- impl.VarText -/
def hn82 : Hints := [(4, (.sl 1 (.int .u8)), true), (10, (.sl 1 (.int .u8)), true), (15, (.sl 1 (.int .u8)), true), (16, (.sl 1 (.int .u8)), true), (19, (.sl 1 (.int .u8)), true), (22, (.sl 1 (.int .u8)), true), (23, (.sl 1 (.int .u8)), true)]
def pm82 : List Nat := []
abbrev sg82 : Sig := ⟨[.dat I], [.str, .bool]⟩
def F82 (x : Int × Unit) : Option (List UInt8 × Bool × Unit) :=
  bindK (F62 (x.1, 0, 1000000000, ())) fun y0 =>
  bif bNot y0.1 then some (litS [], false, ()) else loopF (fun rec1 (s2 : Int × List Int × Unit) =>
  bif iGt s2.1 127 then guardK (gNz 128) <|
  guardK (gApp s2.2.1 [iConv .u8 (iAdd .i64 (iRem s2.1 128) 128)] 1) <|
  guardK (gNz 128) <|
  rec1 (iQuo .i64 s2.1 128, cat s2.2.1 [iConv .u8 (iAdd .i64 (iRem s2.1 128) 128)], ()) else guardK (gApp s2.2.1 [iConv .u8 s2.1] 1) <|
  some (strP (cat s2.2.1 [iConv .u8 s2.1]), true, ())) NN (x.1, [], ())
abbrev ce82 : CE := .con true sg82 F82
theorem co82 : ConOK TT 82 sg82 F82 := con_fn (fn := fn82) (ces := [(62, ce62)]) (ents1 en62 ents0) hn82 pm82 (by kernel_rfl) rfl rfl (fun x => by kernel_rfl)
theorem en82 : EntOK TT 82 ce82 := ent_fz co82 (by kernel_rfl) rfl rfl rfl
/- impl.vars -/
def hn81 : Hints := [(4, (.sl 1 (.int .u8)), true), (9, (.sl 1 I), true), (22, (.sl 1 (.int .u8)), true), (24, (.sl 1 (.int .u8)), true), (26, (.sl 1 (.int .u8)), true)]
def pm81 : List Nat := []
abbrev sg81 : Sig := ⟨[.dat (.sl 1 I)], [.str, .bool]⟩
def F81 (x : List Int × Unit) : Option (List UInt8 × Bool × Unit) :=
  loopF (fun rec0 (s1 : Int × List Int × Unit) =>
  bif iLt s1.1 (lenI x.1) then idxK x.1 s1.1 fun y2 =>
  bindK (F82 (y2, ())) fun y3 =>
  bif bNot y3.2.1 then some (litS [], false, ()) else guardK (gApp s1.2.1 (bytesP y3.1) 1) <|
  rec0 (iAdd .i64 s1.1 1, cat s1.2.1 (bytesP y3.1), ()) else some (strP s1.2.1, true, ())) NN (0, [], ())
abbrev ce81 : CE := .con true sg81 F81
theorem co81 : ConOK TT 81 sg81 F81 := con_fn (fn := fn81) (ces := [(82, ce82)]) (ents1 en82 ents0) hn81 pm81 (by kernel_rfl) rfl rfl (fun x => by kernel_rfl)
theorem en81 : EntOK TT 81 ce81 := ent_fz co81 (by kernel_rfl) rfl rfl rfl
/- impl.flag -/
def hn83 : Hints := []
def pm83 : List Nat := []
abbrev sg83 : Sig := ⟨[.dat .bool], [(.int .u8)]⟩
def F83 (x : Bool × Unit) : Option (Int × Unit) :=
  bif x.1 then some (1, ()) else some (0, ())
abbrev ce83 : CE := .con true sg83 F83
theorem co83 : ConOK TT 83 sg83 F83 := con_fn (fn := fn83) (ces := []) ents0 hn83 pm83 (by kernel_rfl) rfl rfl (fun x => by kernel_rfl)
theorem en83 : EntOK TT 83 ce83 := ent_fz co83 (by kernel_rfl) rfl rfl rfl
/- impl.EntryText -/
def hn84 : Hints := [(20, (.sl 1 I), true), (29, (.sl 1 (.int .u8)), true)]
def pm84 : List Nat := [3]
abbrev sg84 : Sig := ⟨[.dat I, .dat KEntry], [.str, .bool]⟩
def F84 (x : Int × TEntry × Unit) : Option (List UInt8 × Bool × Unit) :=
  bindK (F63 x.2) fun y0 =>
  bindK (bif bNot y0.1 then some true else bindK (F62 (x.1, 1, 1000000, ())) fun y1 =>
  some (bNot y1.1)) fun y2 =>
  bif y2 then some (litS [], false, ()) else bindK (F81 ([x.1, x.2.1.1], ())) fun y3 =>
  guardK (gCat (litS [69]) y3.1) <|
  guardK (gCat (cat (litS [69]) y3.1) (strP [iConv .u8 x.2.1.2.1])) <|
  guardK (gCat (cat (cat (litS [69]) y3.1) (strP [iConv .u8 x.2.1.2.1])) x.2.1.2.2.1) <|
  some (cat (cat (cat (litS [69]) y3.1) (strP [iConv .u8 x.2.1.2.1])) x.2.1.2.2.1, true, ())
abbrev ce84 : CE := .con true sg84 F84
theorem co84 : ConOK TT 84 sg84 F84 := con_fn (fn := fn84) (ces := [(62, ce62), (63, ce63), (81, ce81)]) (ents1 en62 (ents1 en63 (ents1 en81 ents0))) hn84 pm84 (by kernel_rfl) rfl rfl (fun x => by kernel_rfl)
theorem en84 : EntOK TT 84 ce84 := ent_fz co84 (by kernel_rfl) rfl rfl rfl
/- impl.ShortText -/
def hn85 : Hints := []
def pm85 : List Nat := []
abbrev sg85 : Sig := ⟨[.dat .str], [.str, .bool]⟩
def F85 (x : List UInt8 × Unit) : Option (List UInt8 × Bool × Unit) :=
  bif iGt (lenI x.1) 20000 then some (litS [], false, ()) else bindK (F82 (lenI x.1, ())) fun y0 =>
  guardK (gCat y0.1 x.1) <|
  some (cat y0.1 x.1, true, ())
abbrev ce85 : CE := .con true sg85 F85
theorem co85 : ConOK TT 85 sg85 F85 := con_fn (fn := fn85) (ces := [(82, ce82)]) (ents1 en82 ents0) hn85 pm85 (by kernel_rfl) rfl rfl (fun x => by kernel_rfl)
theorem en85 : EntOK TT 85 ce85 := ent_fz co85 (by kernel_rfl) rfl rfl rfl
/- impl.Encode -/
def hn31 : Hints := [(1, KMessage, true), (15, (.sl 1 (.int .u8)), true), (22, KMessage, true), (34, (.sl 1 I), true), (40, (.sl 3 KEntry), true), (54, (.sl 1 (.int .u8)), true), (64, (.sl 1 (.int .u8)), true), (70, (.sl 3 KEntry), true), (91, (.sl 1 I), true), (97, (.sl 1 (.int .u8)), true), (100, (.sl 1 (.int .u8)), true), (101, (.sl 1 (.int .u8)), true), (104, (.sl 1 (.int .u8)), true)]
def pm31 : List Nat := [10, 1]
abbrev sg31 : Sig := ⟨[.dat KMessage], [.str, .bool]⟩
def F31 (x : TMessage × Unit) : Option (List UInt8 × Bool × Unit) :=
  bindK (F17 x) fun y0 =>
  bif bNot y0.1 then some (litS [], false, ()) else bindK (F81 ([x.1.2.2.2.1, x.1.2.2.2.2.1, x.1.2.2.2.2.2.1, x.1.2.2.2.2.2.2.1], ())) fun y1 =>
  bindK (F82 (lenI x.1.2.2.2.2.2.2.2.2.1, ())) fun y2 =>
  guardK (gCat (strP [iConv .u8 x.1.1, iConv .u8 x.1.2.1, iConv .u8 x.1.2.2.1]) y1.1) <|
  bindK (F83 (x.1.2.2.2.2.2.2.2.1, ())) fun y3 =>
  bindK (F83 x.1.2.2.2.2.2.2.2.2.2.2.2) fun y4 =>
  guardK (gCat (cat (strP [iConv .u8 x.1.1, iConv .u8 x.1.2.1, iConv .u8 x.1.2.2.1]) y1.1) (strP [y3.1, y4.1])) <|
  guardK (gCat (cat (cat (strP [iConv .u8 x.1.1, iConv .u8 x.1.2.1, iConv .u8 x.1.2.2.1]) y1.1) (strP [y3.1, y4.1])) y2.1) <|
  loopF (fun rec5 (s6 : Int × List UInt8 × Unit) =>
  bif iLt s6.1 (lenI x.1.2.2.2.2.2.2.2.2.1) then idxK x.1.2.2.2.2.2.2.2.2.1 s6.1 fun y7 =>
  bindK (F84 (1, y7, ())) fun y8 =>
  bindK (F85 (y8.1, ())) fun y9 =>
  guardK (gCat s6.2.1 y9.1) <|
  rec5 (iAdd .i64 s6.1 1, cat s6.2.1 y9.1, ()) else loopF (fun rec10 (s11 : Int × List Int × Unit) =>
  bif iLt s11.1 (lenI x.1.2.2.2.2.2.2.2.2.2.1) then idxK x.1.2.2.2.2.2.2.2.2.2.1 s11.1 fun y12 =>
  guardK (gApp s11.2.1 [iConv .u8 y12] 1) <|
  rec10 (iAdd .i64 s11.1 1, cat s11.2.1 [iConv .u8 y12], ()) else bindK (F85 (strP s11.2.1, ())) fun y13 =>
  bindK (F85 (x.1.2.2.2.2.2.2.2.2.2.2.1, ())) fun y14 =>
  guardK (gCat s6.2.1 y13.1) <|
  guardK (gCat (cat s6.2.1 y13.1) y14.1) <|
  some (cat (cat s6.2.1 y13.1) y14.1, true, ())) NN (0, [], ())) NN (0, cat (cat (cat (strP [iConv .u8 x.1.1, iConv .u8 x.1.2.1, iConv .u8 x.1.2.2.1]) y1.1) (strP [y3.1, y4.1])) y2.1, ())
abbrev ce31 : CE := .con true sg31 F31
theorem co31 : ConOK TT 31 sg31 F31 := con_fn (fn := fn31) (ces := [(17, ce17), (81, ce81), (82, ce82), (83, ce83), (84, ce84), (85, ce85)]) (ents1 en17 (ents1 en81 (ents1 en82 (ents1 en83 (ents1 en84 (ents1 en85 ents0)))))) hn31 pm31 (by kernel_rfl) rfl rfl (fun x => by kernel_rfl)
theorem en31 : EntOK TT 31 ce31 := ent_fz co31 (by kernel_rfl) rfl rfl rfl
/- laws.eqEntry -/
def hn142 : Hints := []
def pm142 : List Nat := [2, 3]
abbrev sg142 : Sig := ⟨[.dat KEntry, .dat KEntry], [.bool]⟩
def F142 (x : TEntry × TEntry × Unit) : Option (Bool × Unit) :=
  bif iNe x.1.1 x.2.1.1 then some (false, ()) else bif iNe x.1.2.1 x.2.1.2.1 then some (false, ()) else bif bNot (strEq x.1.2.2.1 x.2.1.2.2.1) then some (false, ()) else some (true, ())
abbrev ce142 : CE := .con true sg142 F142
theorem co142 : ConOK TT 142 sg142 F142 := con_fn (fn := fn142) (ces := []) ents0 hn142 pm142 (by kernel_rfl) rfl rfl (fun x => by kernel_rfl)
theorem en142 : EntOK TT 142 ce142 := ent_fz co142 (by kernel_rfl) rfl rfl rfl
/- laws.eqEntryS -/
def hn65 : Hints := [(6, (.sl 3 KEntry), true), (8, (.sl 3 KEntry), true), (12, (.sl 3 KEntry), true), (17, (.sl 3 KEntry), true), (21, (.sl 3 KEntry), true)]
def pm65 : List Nat := []
abbrev sg65 : Sig := ⟨[.dat (.sl 3 KEntry), .dat (.sl 3 KEntry)], [.bool]⟩
def F65 (x : List TEntry × List TEntry × Unit) : Option (Bool × Unit) :=
  bif iNe (lenI x.1) (lenI x.2.1) then some (false, ()) else loopF (fun rec0 (s1 : Int × Unit) =>
  bif iLt s1.1 (lenI x.1) then idxK x.1 s1.1 fun y2 =>
  idxK x.2.1 s1.1 fun y3 =>
  bindK (F142 (y2, y3, ())) fun y4 =>
  bif bNot y4.1 then some (false, ()) else rec0 (iAdd .i64 s1.1 1, ()) else some (true, ())) NN (0, ())
abbrev ce65 : CE := .con true sg65 F65
theorem co65 : ConOK TT 65 sg65 F65 := con_fn (fn := fn65) (ces := [(142, ce142)]) (ents1 en142 ents0) hn65 pm65 (by kernel_rfl) rfl rfl (fun x => by kernel_rfl)
theorem en65 : EntOK TT 65 ce65 := ent_fz co65 (by kernel_rfl) rfl rfl rfl
/- laws.eqIntS -/
def hn23 : Hints := [(6, (.sl 1 I), true), (8, (.sl 1 I), true), (12, (.sl 1 I), true), (17, (.sl 1 I), true), (21, (.sl 1 I), true)]
def pm23 : List Nat := []
abbrev sg23 : Sig := ⟨[.dat (.sl 1 I), .dat (.sl 1 I)], [.bool]⟩
def F23 (x : List Int × List Int × Unit) : Option (Bool × Unit) :=
  bif iNe (lenI x.1) (lenI x.2.1) then some (false, ()) else loopF (fun rec0 (s1 : Int × Unit) =>
  bif iLt s1.1 (lenI x.1) then idxK x.1 s1.1 fun y2 =>
  idxK x.2.1 s1.1 fun y3 =>
  bif iNe y2 y3 then some (false, ()) else rec0 (iAdd .i64 s1.1 1, ()) else some (true, ())) NN (0, ())
abbrev ce23 : CE := .con true sg23 F23
theorem co23 : ConOK TT 23 sg23 F23 := con_fn (fn := fn23) (ces := []) ents0 hn23 pm23 (by kernel_rfl) rfl rfl (fun x => by kernel_rfl)
theorem en23 : EntOK TT 23 ce23 := ent_fz co23 (by kernel_rfl) rfl rfl rfl
/- laws.eqMessage -/
def hn18 : Hints := [(2, KMessage, true), (3, KMessage, true), (46, (.sl 3 KEntry), true), (48, (.sl 3 KEntry), true), (52, (.sl 1 I), true), (54, (.sl 1 I), true)]
def pm18 : List Nat := [2, 3]
abbrev sg18 : Sig := ⟨[.dat KMessage, .dat KMessage], [.bool]⟩
def F18 (x : TMessage × TMessage × Unit) : Option (Bool × Unit) :=
  bif iNe x.1.1 x.2.1.1 then some (false, ()) else bif iNe x.1.2.1 x.2.1.2.1 then some (false, ()) else bif iNe x.1.2.2.1 x.2.1.2.2.1 then some (false, ()) else bif iNe x.1.2.2.2.1 x.2.1.2.2.2.1 then some (false, ()) else bif iNe x.1.2.2.2.2.1 x.2.1.2.2.2.2.1 then some (false, ()) else bif iNe x.1.2.2.2.2.2.1 x.2.1.2.2.2.2.2.1 then some (false, ()) else bif iNe x.1.2.2.2.2.2.2.1 x.2.1.2.2.2.2.2.2.1 then some (false, ()) else bif bNe x.1.2.2.2.2.2.2.2.1 x.2.1.2.2.2.2.2.2.2.1 then some (false, ()) else bindK (F65 (x.1.2.2.2.2.2.2.2.2.1, x.2.1.2.2.2.2.2.2.2.2.1, ())) fun y0 =>
  bif bNot y0.1 then some (false, ()) else bindK (F23 (x.1.2.2.2.2.2.2.2.2.2.1, x.2.1.2.2.2.2.2.2.2.2.2.1, ())) fun y1 =>
  bif bNot y1.1 then some (false, ()) else bif bNot (strEq x.1.2.2.2.2.2.2.2.2.2.2.1 x.2.1.2.2.2.2.2.2.2.2.2.2.1) then some (false, ()) else bif bNe x.1.2.2.2.2.2.2.2.2.2.2.2.1 x.2.1.2.2.2.2.2.2.2.2.2.2.2.1 then some (false, ()) else some (true, ())
abbrev ce18 : CE := .con true sg18 F18
theorem co18 : ConOK TT 18 sg18 F18 := con_fn (fn := fn18) (ces := [(65, ce65), (23, ce23)]) (ents1 en65 (ents1 en23 ents0)) hn18 pm18 (by kernel_rfl) rfl rfl (fun x => by kernel_rfl)
theorem en18 : EntOK TT 18 ce18 := ent_fz co18 (by kernel_rfl) rfl rfl rfl
/- laws.FnExactEncode -/
def hn6 : Hints := [(1, KMessage, true), (6, KMessage, true), (9, KMessage, true), (15, KMessage, true), (16, KMessage, true), (20, KMessage, true), (21, KMessage, true), (23, KMessage, true), (35, KMessage, true), (36, KMessage, true), (37, KMessage, true)]
def pm6 : List Nat := [1, 6]
abbrev sg6 : Sig := ⟨[.dat KMessage], [.bool]⟩
def F6 (x : TMessage × Unit) : Option (Bool × Unit) :=
  bindK (F14 (x.1, 1048576, ())) fun y0 =>
  bif iLt y0.1 0 then some (true, ()) else bindK (F16 x) fun y1 =>
  bindK (F30 y1) fun y2 =>
  bindK (F16 x) fun y3 =>
  bindK (F31 y3) fun y4 =>
  bindK (bif bNot (strEq y4.1 y2.1) then some true else some (bNe y4.2.1 y2.2.1)) fun y5 =>
  bif y5 then some (false, ()) else bindK (F16 x) fun y6 =>
  bindK (F18 (y3.1, y6)) fun y7 =>
  bif bNot y7.1 then some (false, ()) else some (true, ())
abbrev ce6 : CE := .con true sg6 F6
theorem co6 : ConOK TT 6 sg6 F6 := con_fn (fn := fn6) (ces := [(14, ce14), (30, ce30), (16, ce16), (31, ce31), (18, ce18)]) (ents1 en14 (ents1 en30 (ents1 en16 (ents1 en31 (ents1 en18 ents0))))) hn6 pm6 (by kernel_rfl) rfl rfl (fun x => by kernel_rfl)
theorem en6 : EntOK TT 6 ce6 := ent_fz co6 (by kernel_rfl) rfl rfl rfl
end
end Go.Proofs.Ytjnmebjagambkaa.E
