/- The functions that FnExactMessageOk reaches, told as functions of data, and that the program does what they tell. -/
import Derived.Test.YtjnmebjagambkaaMa
namespace Go.Proofs.Ytjnmebjagambkaa.M
set_option linter.unusedVariables false
set_option linter.unusedSimpArgs false
set_option maxRecDepth 100000
open Go Go.Am

noncomputable section
theorem ents0 : ∀ p ∈ ([] : List (Nat × CE)), EntOK TT p.1 p.2 := fun p h => by cases h
theorem ents1 {a : Nat} {v : CE} {l : List (Nat × CE)} (h : EntOK TT a v) (k : ∀ p ∈ l, EntOK TT p.1 p.2) : ∀ p ∈ (a, v) :: l, EntOK TT p.1 p.2 := fun p hp => (List.mem_cons.1 hp).elim (fun e => e ▸ h) (k p)
/- laws.szEntry -/
def hn140 : Hints := []
def pm140 : List Nat := [2]
abbrev sg140 : Sig := ⟨[.dat KEntry, .dat I], [I]⟩
def F140 (x : TEntry × Int × Unit) : Option (Int × Unit) :=
  bif iLt (iSub .i64 x.2.1 (lenI x.1.2.2.1)) 0 then some ((-1), ()) else some (iSub .i64 x.2.1 (lenI x.1.2.2.1), ())
abbrev ce140 : CE := .con true sg140 F140
theorem co140 : ConOK TT 140 sg140 F140 := con_fn (fn := fn140) (ces := []) ents0 hn140 pm140 (by kernel_rfl) rfl rfl (fun x => by kernel_rfl)
theorem en140 : EntOK TT 140 ce140 := ent_fz co140 (by kernel_rfl) rfl rfl rfl
/- laws.szEntryS -/
def hn56 : Hints := [(7, (.sl 3 KEntry), true), (13, (.sl 3 KEntry), true), (18, (.sl 3 KEntry), true)]
def pm56 : List Nat := []
abbrev sg56 : Sig := ⟨[.dat (.sl 3 KEntry), .dat I], [I]⟩
def F56 (x : List TEntry × Int × Unit) : Option (Int × Unit) :=
  bif iLt (iSub .i64 x.2.1 (lenI x.1)) 0 then some ((-1), ()) else loopF (fun rec0 (s1 : Int × Int × Unit) =>
  bif iLt s1.1 (lenI x.1) then idxK x.1 s1.1 fun y2 =>
  bindK (F140 (y2, s1.2)) fun y3 =>
  bif iLt y3.1 0 then some ((-1), ()) else rec0 (iAdd .i64 s1.1 1, y3) else some s1.2) NN (0, iSub .i64 x.2.1 (lenI x.1), ())
abbrev ce56 : CE := .con true sg56 F56
theorem co56 : ConOK TT 56 sg56 F56 := con_fn (fn := fn56) (ces := [(140, ce140)]) (ents1 en140 ents0) hn56 pm56 (by kernel_rfl) rfl rfl (fun x => by kernel_rfl)
theorem en56 : EntOK TT 56 ce56 := ent_fz co56 (by kernel_rfl) rfl rfl rfl
/- laws.szIntS -/
def hn57 : Hints := [(6, (.sl 1 I), true)]
def pm57 : List Nat := []
abbrev sg57 : Sig := ⟨[.dat (.sl 1 I), .dat I], [I]⟩
def F57 (x : List Int × Int × Unit) : Option (Int × Unit) :=
  bif iLt (iSub .i64 x.2.1 (lenI x.1)) 0 then some ((-1), ()) else some (iSub .i64 x.2.1 (lenI x.1), ())
abbrev ce57 : CE := .con true sg57 F57
theorem co57 : ConOK TT 57 sg57 F57 := con_fn (fn := fn57) (ces := []) ents0 hn57 pm57 (by kernel_rfl) rfl rfl (fun x => by kernel_rfl)
theorem en57 : EntOK TT 57 ce57 := ent_fz co57 (by kernel_rfl) rfl rfl rfl
/- laws.szMessage -/
def hn14 : Hints := [(2, KMessage, true), (6, (.sl 3 KEntry), true), (12, (.sl 1 I), true)]
def pm14 : List Nat := [2]
abbrev sg14 : Sig := ⟨[.dat KMessage, .dat I], [I]⟩
def F14 (x : TMessage × Int × Unit) : Option (Int × Unit) :=
  bindK (F56 (x.1.2.2.2.2.2.2.2.2.1, x.2)) fun y0 =>
  bif iLt y0.1 0 then some ((-1), ()) else bindK (F57 (x.1.2.2.2.2.2.2.2.2.2.1, y0)) fun y1 =>
  bif iLt y1.1 0 then some ((-1), ()) else bif iLt (iSub .i64 y1.1 (lenI x.1.2.2.2.2.2.2.2.2.2.2.1)) 0 then some ((-1), ()) else some (iSub .i64 y1.1 (lenI x.1.2.2.2.2.2.2.2.2.2.2.1), ())
abbrev ce14 : CE := .con true sg14 F14
theorem co14 : ConOK TT 14 sg14 F14 := con_fn (fn := fn14) (ces := [(56, ce56), (57, ce57)]) (ents1 en56 (ents1 en57 ents0)) hn14 pm14 (by kernel_rfl) rfl rfl (fun x => by kernel_rfl)
theorem en14 : EntOK TT 14 ce14 := ent_fz co14 (by kernel_rfl) rfl rfl rfl
/- spec.l01In -/
def hn58 : Hints := []
def pm58 : List Nat := []
abbrev sg58 : Sig := ⟨[.dat I, .dat I, .dat I], [.bool]⟩
def F58 (x : Int × Int × Int × Unit) : Option (Bool × Unit) :=
  bindK (bif iGe x.1 x.2.1 then some (iLe x.1 x.2.2.1) else some false) fun y0 =>
  some (y0, ())
abbrev ce58 : CE := .con true sg58 F58
theorem co58 : ConOK TT 58 sg58 F58 := con_fn (fn := fn58) (ces := []) ents0 hn58 pm58 (by kernel_rfl) rfl rfl (fun x => by kernel_rfl)
theorem en58 : EntOK TT 58 ce58 := ent_fz co58 (by kernel_rfl) rfl rfl rfl
/- spec.l05Rise -/
def hn93 : Hints := [(9, (.sl 1 I), true), (14, (.sl 1 I), true), (26, (.sl 1 I), true), (31, (.sl 1 I), true)]
def pm93 : List Nat := []
abbrev sg93 : Sig := ⟨[.dat (.sl 1 I), .dat I, .dat I], [.bool]⟩
def F93 (x : List Int × Int × Int × Unit) : Option (Bool × Unit) :=
  loopF (fun rec0 (s1 : Int × Unit) =>
  bif iLt s1.1 (lenI x.1) then idxK x.1 s1.1 fun y2 =>
  bindK (F58 (y2, x.2)) fun y3 =>
  bindK (bif bNot y3.1 then some true else bindK (bif iGt s1.1 0 then idxK x.1 (iSub .i64 s1.1 1) fun y4 =>
  idxK x.1 s1.1 fun y5 =>
  some (iGe y4 y5) else some false) fun y6 =>
  some y6) fun y7 =>
  bif y7 then some (false, ()) else rec0 (iAdd .i64 s1.1 1, ()) else some (true, ())) NN (0, ())
abbrev ce93 : CE := .con true sg93 F93
theorem co93 : ConOK TT 93 sg93 F93 := con_fn (fn := fn93) (ces := [(58, ce58)]) (ents1 en58 ents0) hn93 pm93 (by kernel_rfl) rfl rfl (fun x => by kernel_rfl)
theorem en93 : EntOK TT 93 ce93 := ent_fz co93 (by kernel_rfl) rfl rfl rfl
/- spec.ConfOk -/
def hn60 : Hints := [(3, (.sl 1 I), true), (7, (.sl 1 I), true)]
def pm60 : List Nat := []
abbrev sg60 : Sig := ⟨[.dat (.sl 1 I)], [.bool]⟩
def F60 (x : List Int × Unit) : Option (Bool × Unit) :=
  bindK (F58 (lenI x.1, 1, 4, ())) fun y0 =>
  bindK (bif y0.1 then bindK (F93 (x.1, 1, 4, ())) fun y1 =>
  some y1.1 else some false) fun y2 =>
  some (y2, ())
abbrev ce60 : CE := .con true sg60 F60
theorem co60 : ConOK TT 60 sg60 F60 := con_fn (fn := fn60) (ces := [(93, ce93), (58, ce58)]) (ents1 en93 (ents1 en58 ents0)) hn60 pm60 (by kernel_rfl) rfl rfl (fun x => by kernel_rfl)
theorem en60 : EntOK TT 60 ce60 := ent_fz co60 (by kernel_rfl) rfl rfl rfl
/- spec.ReadConf -/
def hn68 : Hints := [(2, (.sl 1 I), true), (4, (.sl 1 I), true), (6, (.sl 1 I), true), (17, (.sl 1 I), true), (22, (.sl 1 I), true), (23, (.sl 1 I), true), (24, (.sl 1 I), true), (30, (.sl 1 I), true), (34, (.sl 1 I), true), (35, (.sl 1 I), true)]
def pm68 : List Nat := []
abbrev sg68 : Sig := ⟨[.dat .str], [(.sl 1 I), .bool]⟩
def F68 (x : List UInt8 × Unit) : Option (List Int × Bool × Unit) :=
  loopF (fun rec0 (s1 : Int × List Int × Unit) =>
  bindK (bif iLt s1.1 (lenI x.1) then some (iLe s1.1 4) else some false) fun y2 =>
  bif y2 then idxK x.1 s1.1 fun y3 =>
  guardK (gApp s1.2.1 [iConv .i64 (byteI y3)] 1) <|
  rec0 (iAdd .i64 s1.1 1, cat s1.2.1 [iConv .i64 (byteI y3)], ()) else bindK (bif iNe (lenI s1.2.1) (lenI x.1) then some true else bindK (F60 s1.2) fun y4 =>
  some (bNot y4.1)) fun y5 =>
  bif y5 then some ([], false, ()) else some (s1.2.1, true, ())) NN (0, [], ())
abbrev ce68 : CE := .con false sg68 F68
theorem co68 : ConOK TT 68 sg68 F68 := con_fn (fn := fn68) (ces := [(60, ce60)]) (ents1 en60 ents0) hn68 pm68 (by kernel_rfl) rfl rfl (fun x => by kernel_rfl)
theorem en68 : EntOK TT 68 ce68 := ent_sep co68 (by kernel_rfl) rfl
/- spec.EntryOk -/
def hn59 : Hints := [(3, (.sl 1 I), true), (22, (.sl 1 I), true)]
def pm59 : List Nat := [1]
abbrev sg59 : Sig := ⟨[.dat KEntry], [.bool]⟩
def F59 (x : TEntry × Unit) : Option (Bool × Unit) :=
  bindK (F58 (x.1.1, 0, 100000, ())) fun y0 =>
  bif bNot y0.1 then some (false, ()) else bif iEq x.1.2.1 1 then some (strEq x.1.2.2.1 (litS []), ()) else bif iEq x.1.2.1 2 then bindK (F68 x.1.2.2) fun y1 =>
  some y1.2 else bif iEq x.1.2.1 3 then some (iLe (lenI x.1.2.2.1) 120, ()) else some (false, ())
abbrev ce59 : CE := .con true sg59 F59
theorem co59 : ConOK TT 59 sg59 F59 := con_fn (fn := fn59) (ces := [(58, ce58), (68, ce68)]) (ents1 en58 (ents1 en68 ents0)) hn59 pm59 (by kernel_rfl) rfl rfl (fun x => by kernel_rfl)
theorem en59 : EntOK TT 59 ce59 := ent_fz co59 (by kernel_rfl) rfl rfl rfl
/- spec.MessageOk -/
def hn15 : Hints := [(1, KMessage, true), (51, (.sl 3 KEntry), true), (56, (.sl 3 KEntry), true), (69, (.sl 3 KEntry), true), (75, (.sl 3 KEntry), true), (83, (.sl 3 KEntry), true), (93, (.sl 3 KEntry), true), (103, (.sl 3 KEntry), true), (112, (.sl 1 I), true), (121, (.sl 1 I), true)]
def pm15 : List Nat := [1]
abbrev sg15 : Sig := ⟨[.dat KMessage], [.bool]⟩
def F15 (x : TMessage × Unit) : Option (Bool × Unit) :=
  bindK (F58 (x.1.1, 1, 6, ())) fun y0 =>
  bindK (bif bNot y0.1 then some true else bindK (F58 (x.1.2.1, 1, 4, ())) fun y1 =>
  some (bNot y1.1)) fun y2 =>
  bindK (bif y2 then some true else bindK (F58 (x.1.2.2.1, 1, 4, ())) fun y3 =>
  some (bNot y3.1)) fun y4 =>
  bindK (bif y4 then some true else some (iEq x.1.2.1 x.1.2.2.1)) fun y5 =>
  bif y5 then some (false, ()) else bindK (F58 (x.1.2.2.2.1, 0, 100000, ())) fun y6 =>
  bindK (bif bNot y6.1 then some true else bindK (F58 (x.1.2.2.2.2.2.1, 0, 100000, ())) fun y7 =>
  some (bNot y7.1)) fun y8 =>
  bindK (bif y8 then some true else bindK (F58 (x.1.2.2.2.2.1, 0, 1000000, ())) fun y9 =>
  some (bNot y9.1)) fun y10 =>
  bindK (bif y10 then some true else bindK (F58 (x.1.2.2.2.2.2.2.1, 0, 1000000, ())) fun y11 =>
  some (bNot y11.1)) fun y12 =>
  bif y12 then some (false, ()) else bindK (bif iGt (lenI x.1.2.2.2.2.2.2.2.2.1) 4 then some true else bindK (bif iGt (lenI x.1.2.2.2.2.2.2.2.2.1) 0 then some (iNe x.1.1 3) else some false) fun y13 =>
  some y13) fun y14 =>
  bif y14 then some (false, ()) else loopF (fun rec15 (s16 : Int × Int × Unit) =>
  bif iLt s16.2.1 (lenI x.1.2.2.2.2.2.2.2.2.1) then idxK x.1.2.2.2.2.2.2.2.2.1 s16.2.1 fun y17 =>
  bindK (F59 (y17, ())) fun y18 =>
  bindK (bif bNot y18.1 then some true else idxK x.1.2.2.2.2.2.2.2.2.1 s16.2.1 fun y19 =>
  some (iLt y19.1 s16.1)) fun y20 =>
  bindK (bif y20 then some true else idxK x.1.2.2.2.2.2.2.2.2.1 s16.2.1 fun y21 =>
  some (iGt y21.1 x.1.2.2.2.1)) fun y22 =>
  bif y22 then some (false, ()) else idxK x.1.2.2.2.2.2.2.2.2.1 s16.2.1 fun y23 =>
  rec15 (y23.1, iAdd .i64 s16.2.1 1, ()) else bif iEq x.1.1 5 then bindK (F60 (x.1.2.2.2.2.2.2.2.2.2.1, ())) fun y24 =>
  bindK (bif y24.1 then some (iLe (lenI x.1.2.2.2.2.2.2.2.2.2.2.1) 60) else some false) fun y25 =>
  some (y25, ()) else bindK (bif iEq (lenI x.1.2.2.2.2.2.2.2.2.2.1) 0 then some (strEq x.1.2.2.2.2.2.2.2.2.2.2.1 (litS [])) else some false) fun y26 =>
  bindK (bif y26 then some (bNot x.1.2.2.2.2.2.2.2.2.2.2.2.1) else some false) fun y27 =>
  some (y27, ())) NN (x.1.2.2.2.2.2.1, 0, ())
abbrev ce15 : CE := .con true sg15 F15
theorem co15 : ConOK TT 15 sg15 F15 := con_fn (fn := fn15) (ces := [(58, ce58), (59, ce59), (60, ce60)]) (ents1 en58 (ents1 en59 (ents1 en60 ents0))) hn15 pm15 (by kernel_rfl) rfl rfl (fun x => by kernel_rfl)
theorem en15 : EntOK TT 15 ce15 := ent_fz co15 (by kernel_rfl) rfl rfl rfl
/- laws.toEntry -/
def hn141 : Hints := []
def pm141 : List Nat := [1]
abbrev sg141 : Sig := ⟨[.dat KEntry], [KEntry]⟩
def F141 (x : TEntry × Unit) : Option (TEntry × Unit) :=
  some x
abbrev ce141 : CE := .con true sg141 F141
theorem co141 : ConOK TT 141 sg141 F141 := con_fn (fn := fn141) (ces := []) ents0 hn141 pm141 (by kernel_rfl) rfl rfl (fun x => by kernel_rfl)
theorem en141 : EntOK TT 141 ce141 := ent_fz co141 (by kernel_rfl) rfl rfl rfl
/- laws.toEntryS -/
def hn61 : Hints := [(2, (.sl 3 KEntry), true), (3, (.sl 3 KEntry), true), (5, (.sl 3 KEntry), true), (7, (.sl 3 KEntry), true), (9, (.sl 3 KEntry), true), (14, (.sl 3 KEntry), true), (16, (.sl 3 KEntry), true), (22, (.sl 3 KEntry), true)]
def pm61 : List Nat := []
abbrev sg61 : Sig := ⟨[.dat (.sl 3 KEntry)], [(.sl 3 KEntry)]⟩
def F61 (x : List TEntry × Unit) : Option (List TEntry × Unit) :=
  guardK (gMk (lenI x.1) 3) <|
  loopF (fun rec0 (s1 : Int × List TEntry × Unit) =>
  bif iLt s1.1 (lenI x.1) then idxK x.1 s1.1 fun y2 =>
  bindK (F141 (y2, ())) fun y3 =>
  idxK s1.2.1 s1.1 fun y4 =>
  rec0 (iAdd .i64 s1.1 1, setL s1.2.1 (toN s1.1) y3.1, ()) else some s1.2) NN (0, repL (toN (lenI x.1)) (0, 0, litS [], ()), ())
abbrev ce61 : CE := .con false sg61 F61
theorem co61 : ConOK TT 61 sg61 F61 := con_fn (fn := fn61) (ces := [(141, ce141)]) (ents1 en141 ents0) hn61 pm61 (by kernel_rfl) rfl rfl (fun x => by kernel_rfl)
theorem en61 : EntOK TT 61 ce61 := ent_sep co61 (by kernel_rfl) rfl
/- laws.toIntS -/
def hn40 : Hints := [(2, (.sl 1 I), true), (3, (.sl 1 I), true), (5, (.sl 1 I), true), (7, (.sl 1 I), true), (9, (.sl 1 I), true), (14, (.sl 1 I), true), (16, (.sl 1 I), true), (21, (.sl 1 I), true)]
def pm40 : List Nat := []
abbrev sg40 : Sig := ⟨[.dat (.sl 1 I)], [(.sl 1 I)]⟩
def F40 (x : List Int × Unit) : Option (List Int × Unit) :=
  guardK (gMk (lenI x.1) 1) <|
  loopF (fun rec0 (s1 : Int × List Int × Unit) =>
  bif iLt s1.1 (lenI x.1) then idxK x.1 s1.1 fun y2 =>
  idxK s1.2.1 s1.1 fun y3 =>
  rec0 (iAdd .i64 s1.1 1, setL s1.2.1 (toN s1.1) y2, ()) else some s1.2) NN (0, repL (toN (lenI x.1)) 0, ())
abbrev ce40 : CE := .con false sg40 F40
theorem co40 : ConOK TT 40 sg40 F40 := con_fn (fn := fn40) (ces := []) ents0 hn40 pm40 (by kernel_rfl) rfl rfl (fun x => by kernel_rfl)
theorem en40 : EntOK TT 40 ce40 := ent_sep co40 (by kernel_rfl) rfl
/- laws.toMessage -/
def hn16 : Hints := [(1, KMessage, true), (2, KMessage, true), (3, KMessage, true), (29, (.sl 3 KEntry), true), (30, (.sl 3 KEntry), true), (33, (.sl 1 I), true), (34, (.sl 1 I), true), (42, KMessage, true)]
def pm16 : List Nat := [1]
abbrev sg16 : Sig := ⟨[.dat KMessage], [KMessage]⟩
def F16 (x : TMessage × Unit) : Option (TMessage × Unit) :=
  bindK (F61 (x.1.2.2.2.2.2.2.2.2.1, ())) fun y0 =>
  bindK (F40 (x.1.2.2.2.2.2.2.2.2.2.1, ())) fun y1 =>
  some ((x.1.1, x.1.2.1, x.1.2.2.1, x.1.2.2.2.1, x.1.2.2.2.2.1, x.1.2.2.2.2.2.1, x.1.2.2.2.2.2.2.1, x.1.2.2.2.2.2.2.2.1, y0.1, y1.1, x.1.2.2.2.2.2.2.2.2.2.2), ())
abbrev ce16 : CE := .con false sg16 F16
theorem co16 : ConOK TT 16 sg16 F16 := con_fn (fn := fn16) (ces := [(61, ce61), (40, ce40)]) (ents1 en61 (ents1 en40 ents0)) hn16 pm16 (by kernel_rfl) rfl rfl (fun x => by kernel_rfl)
theorem en16 : EntOK TT 16 ce16 := ent_sep co16 (by kernel_rfl) rfl
/- impl.within -/
def hn62 : Hints := []
def pm62 : List Nat := []
abbrev sg62 : Sig := ⟨[.dat I, .dat I, .dat I], [.bool]⟩
def F62 (x : Int × Int × Int × Unit) : Option (Bool × Unit) :=
  bindK (bif iGe x.1 x.2.1 then some (iLe x.1 x.2.2.1) else some false) fun y0 =>
  some (y0, ())
abbrev ce62 : CE := .con true sg62 F62
theorem co62 : ConOK TT 62 sg62 F62 := con_fn (fn := fn62) (ces := []) ents0 hn62 pm62 (by kernel_rfl) rfl rfl (fun x => by kernel_rfl)
theorem en62 : EntOK TT 62 ce62 := ent_fz co62 (by kernel_rfl) rfl rfl rfl
/- impl.ConfOk -/
def hn64 : Hints := [(5, (.sl 1 I), true), (19, (.sl 1 I), true), (29, (.sl 1 I), true)]
def pm64 : List Nat := []
abbrev sg64 : Sig := ⟨[.dat (.sl 1 I)], [.bool]⟩
def F64 (x : List Int × Unit) : Option (Bool × Unit) :=
  loopF (fun rec0 (s1 : Int × Unit) =>
  bif iLt s1.1 (lenI x.1) then idxK x.1 s1.1 fun y2 =>
  bindK (F62 (y2, 1, 4, ())) fun y3 =>
  bindK (bif bNot y3.1 then some true else bindK (bif iGt s1.1 0 then idxK x.1 (iSub .i64 s1.1 1) fun y4 =>
  some (iGe y4 y2) else some false) fun y5 =>
  some y5) fun y6 =>
  bif y6 then some (false, ()) else rec0 (iAdd .i64 s1.1 1, ()) else bindK (F62 (lenI x.1, 1, 4, ())) fun y7 =>
  some y7) NN (0, ())
abbrev ce64 : CE := .con true sg64 F64
theorem co64 : ConOK TT 64 sg64 F64 := con_fn (fn := fn64) (ces := [(62, ce62)]) (ents1 en62 ents0) hn64 pm64 (by kernel_rfl) rfl rfl (fun x => by kernel_rfl)
theorem en64 : EntOK TT 64 ce64 := ent_fz co64 (by kernel_rfl) rfl rfl rfl
/- impl.ReadConf -/
def hn71 : Hints := [(2, (.sl 1 I), true), (4, (.sl 1 I), true), (12, (.sl 1 I), true), (17, (.sl 1 I), true), (18, (.sl 1 I), true), (19, (.sl 1 I), true), (22, (.sl 1 I), true)]
def pm71 : List Nat := []
abbrev sg71 : Sig := ⟨[.dat .str], [(.sl 1 I), .bool]⟩
def F71 (x : List UInt8 × Unit) : Option (List Int × Bool × Unit) :=
  loopF (fun rec0 (s1 : Int × List Int × Unit) =>
  bif iLt s1.1 (lenI x.1) then idxK x.1 s1.1 fun y2 =>
  guardK (gApp s1.2.1 [iConv .i64 (byteI y2)] 1) <|
  rec0 (iAdd .i64 s1.1 1, cat s1.2.1 [iConv .i64 (byteI y2)], ()) else bindK (F64 s1.2) fun y3 =>
  bif bNot y3.1 then some ([], false, ()) else some (s1.2.1, true, ())) NN (0, [], ())
abbrev ce71 : CE := .con false sg71 F71
theorem co71 : ConOK TT 71 sg71 F71 := con_fn (fn := fn71) (ces := [(64, ce64)]) (ents1 en64 ents0) hn71 pm71 (by kernel_rfl) rfl rfl (fun x => by kernel_rfl)
theorem en71 : EntOK TT 71 ce71 := ent_sep co71 (by kernel_rfl) rfl
/- impl.EntryOk -/
def hn63 : Hints := [(3, (.sl 1 I), true), (22, (.sl 1 I), true)]
def pm63 : List Nat := [1]
abbrev sg63 : Sig := ⟨[.dat KEntry], [.bool]⟩
def F63 (x : TEntry × Unit) : Option (Bool × Unit) :=
  bindK (F62 (x.1.1, 0, 100000, ())) fun y0 =>
  bif bNot y0.1 then some (false, ()) else bif iEq x.1.2.1 1 then some (strEq x.1.2.2.1 (litS []), ()) else bif iEq x.1.2.1 2 then bindK (F71 x.1.2.2) fun y1 =>
  some y1.2 else bif iEq x.1.2.1 3 then some (iLe (lenI x.1.2.2.1) 120, ()) else some (false, ())
abbrev ce63 : CE := .con true sg63 F63
theorem co63 : ConOK TT 63 sg63 F63 := con_fn (fn := fn63) (ces := [(62, ce62), (71, ce71)]) (ents1 en62 (ents1 en71 ents0)) hn63 pm63 (by kernel_rfl) rfl rfl (fun x => by kernel_rfl)
theorem en63 : EntOK TT 63 ce63 := ent_fz co63 (by kernel_rfl) rfl rfl rfl
/- impl.MessageOk -/
def hn17 : Hints := [(1, KMessage, true), (53, (.sl 3 KEntry), true), (66, (.sl 3 KEntry), true), (96, (.sl 1 I), true), (99, (.sl 1 I), true)]
def pm17 : List Nat := [5, 1]
abbrev sg17 : Sig := ⟨[.dat KMessage], [.bool]⟩
def F17 (x : TMessage × Unit) : Option (Bool × Unit) :=
  bindK (F62 (x.1.1, 1, 6, ())) fun y0 =>
  bindK (bif bNot y0.1 then some true else bindK (F62 (x.1.2.1, 1, 4, ())) fun y1 =>
  some (bNot y1.1)) fun y2 =>
  bindK (bif y2 then some true else bindK (F62 (x.1.2.2.1, 1, 4, ())) fun y3 =>
  some (bNot y3.1)) fun y4 =>
  bindK (bif y4 then some true else some (iEq x.1.2.1 x.1.2.2.1)) fun y5 =>
  bif y5 then some (false, ()) else bindK (F62 (x.1.2.2.2.1, 0, 100000, ())) fun y6 =>
  bindK (bif bNot y6.1 then some true else bindK (F62 (x.1.2.2.2.2.2.1, 0, 100000, ())) fun y7 =>
  some (bNot y7.1)) fun y8 =>
  bindK (bif y8 then some true else bindK (F62 (x.1.2.2.2.2.1, 0, 1000000, ())) fun y9 =>
  some (bNot y9.1)) fun y10 =>
  bindK (bif y10 then some true else bindK (F62 (x.1.2.2.2.2.2.2.1, 0, 1000000, ())) fun y11 =>
  some (bNot y11.1)) fun y12 =>
  bindK (bif y12 then some true else some (iGt (lenI x.1.2.2.2.2.2.2.2.2.1) 4)) fun y13 =>
  bindK (bif y13 then some true else some (iGt (lenI x.1.2.2.2.2.2.2.2.2.2.2.1) 60)) fun y14 =>
  bif y14 then some (false, ()) else loopF (fun rec15 (s16 : Int × Int × Unit) =>
  bif iLt s16.2.1 (lenI x.1.2.2.2.2.2.2.2.2.1) then idxK x.1.2.2.2.2.2.2.2.2.1 s16.2.1 fun y17 =>
  bindK (bif iNe x.1.1 3 then some true else bindK (F63 (y17, ())) fun y18 =>
  some (bNot y18.1)) fun y19 =>
  bindK (bif y19 then some true else bindK (F62 (y17.1, s16.1, x.1.2.2.2.1, ())) fun y20 =>
  some (bNot y20.1)) fun y21 =>
  bif y21 then some (false, ()) else rec15 (y17.1, iAdd .i64 s16.2.1 1, ()) else bif iEq x.1.1 5 then bindK (F64 (x.1.2.2.2.2.2.2.2.2.2.1, ())) fun y22 =>
  some y22 else bindK (bif iEq (lenI x.1.2.2.2.2.2.2.2.2.2.1) 0 then some (strEq x.1.2.2.2.2.2.2.2.2.2.2.1 (litS [])) else some false) fun y23 =>
  bindK (bif y23 then some (bNot x.1.2.2.2.2.2.2.2.2.2.2.2.1) else some false) fun y24 =>
  some (y24, ())) NN (x.1.2.2.2.2.2.1, 0, ())
abbrev ce17 : CE := .con true sg17 F17
theorem co17 : ConOK TT 17 sg17 F17 := con_fn (fn := fn17) (ces := [(62, ce62), (63, ce63), (64, ce64)]) (ents1 en62 (ents1 en63 (ents1 en64 ents0))) hn17 pm17 (by kernel_rfl) rfl rfl (fun x => by kernel_rfl)
theorem en17 : EntOK TT 17 ce17 := ent_fz co17 (by kernel_rfl) rfl rfl rfl
/- laws.eqEntry -/
def hn142 : Hints := []
def pm142 : List Nat := [2, 3]
abbrev sg142 : Sig := ⟨[.dat KEntry, .dat KEntry], [.bool]⟩
def F142 (x : TEntry × TEntry × Unit) : Option (Bool × Unit) :=
  bif iNe x.1.1 x.2.1.1 then some (false, ()) else bif iNe x.1.2.1 x.2.1.2.1 then some (false, ()) else bif bNot (strEq x.1.2.2.1 x.2.1.2.2.1) then some (false, ()) else some (true, ())
abbrev ce142 : CE := .con true sg142 F142
theorem co142 : ConOK TT 142 sg142 F142 := con_fn (fn := fn142) (ces := []) ents0 hn142 pm142 (by kernel_rfl) rfl rfl (fun x => by kernel_rfl)
theorem en142 : EntOK TT 142 ce142 := ent_fz co142 (by kernel_rfl) rfl rfl rfl
/- laws.eqEntryS -/
def hn65 : Hints := [(6, (.sl 3 KEntry), true), (8, (.sl 3 KEntry), true), (12, (.sl 3 KEntry), true), (17, (.sl 3 KEntry), true), (21, (.sl 3 KEntry), true)]
def pm65 : List Nat := []
abbrev sg65 : Sig := ⟨[.dat (.sl 3 KEntry), .dat (.sl 3 KEntry)], [.bool]⟩
def F65 (x : List TEntry × List TEntry × Unit) : Option (Bool × Unit) :=
  bif iNe (lenI x.1) (lenI x.2.1) then some (false, ()) else loopF (fun rec0 (s1 : Int × Unit) =>
  bif iLt s1.1 (lenI x.1) then idxK x.1 s1.1 fun y2 =>
  idxK x.2.1 s1.1 fun y3 =>
  bindK (F142 (y2, y3, ())) fun y4 =>
  bif bNot y4.1 then some (false, ()) else rec0 (iAdd .i64 s1.1 1, ()) else some (true, ())) NN (0, ())
abbrev ce65 : CE := .con true sg65 F65
theorem co65 : ConOK TT 65 sg65 F65 := con_fn (fn := fn65) (ces := [(142, ce142)]) (ents1 en142 ents0) hn65 pm65 (by kernel_rfl) rfl rfl (fun x => by kernel_rfl)
theorem en65 : EntOK TT 65 ce65 := ent_fz co65 (by kernel_rfl) rfl rfl rfl
/- laws.eqIntS -/
def hn23 : Hints := [(6, (.sl 1 I), true), (8, (.sl 1 I), true), (12, (.sl 1 I), true), (17, (.sl 1 I), true), (21, (.sl 1 I), true)]
def pm23 : List Nat := []
abbrev sg23 : Sig := ⟨[.dat (.sl 1 I), .dat (.sl 1 I)], [.bool]⟩
def F23 (x : List Int × List Int × Unit) : Option (Bool × Unit) :=
  bif iNe (lenI x.1) (lenI x.2.1) then some (false, ()) else loopF (fun rec0 (s1 : Int × Unit) =>
  bif iLt s1.1 (lenI x.1) then idxK x.1 s1.1 fun y2 =>
  idxK x.2.1 s1.1 fun y3 =>
  bif iNe y2 y3 then some (false, ()) else rec0 (iAdd .i64 s1.1 1, ()) else some (true, ())) NN (0, ())
abbrev ce23 : CE := .con true sg23 F23
theorem co23 : ConOK TT 23 sg23 F23 := con_fn (fn := fn23) (ces := []) ents0 hn23 pm23 (by kernel_rfl) rfl rfl (fun x => by kernel_rfl)
theorem en23 : EntOK TT 23 ce23 := ent_fz co23 (by kernel_rfl) rfl rfl rfl
/- laws.eqMessage -/
def hn18 : Hints := [(2, KMessage, true), (3, KMessage, true), (46, (.sl 3 KEntry), true), (48, (.sl 3 KEntry), true), (52, (.sl 1 I), true), (54, (.sl 1 I), true)]
def pm18 : List Nat := [2, 3]
abbrev sg18 : Sig := ⟨[.dat KMessage, .dat KMessage], [.bool]⟩
def F18 (x : TMessage × TMessage × Unit) : Option (Bool × Unit) :=
  bif iNe x.1.1 x.2.1.1 then some (false, ()) else bif iNe x.1.2.1 x.2.1.2.1 then some (false, ()) else bif iNe x.1.2.2.1 x.2.1.2.2.1 then some (false, ()) else bif iNe x.1.2.2.2.1 x.2.1.2.2.2.1 then some (false, ()) else bif iNe x.1.2.2.2.2.1 x.2.1.2.2.2.2.1 then some (false, ()) else bif iNe x.1.2.2.2.2.2.1 x.2.1.2.2.2.2.2.1 then some (false, ()) else bif iNe x.1.2.2.2.2.2.2.1 x.2.1.2.2.2.2.2.2.1 then some (false, ()) else bif bNe x.1.2.2.2.2.2.2.2.1 x.2.1.2.2.2.2.2.2.2.1 then some (false, ()) else bindK (F65 (x.1.2.2.2.2.2.2.2.2.1, x.2.1.2.2.2.2.2.2.2.2.1, ())) fun y0 =>
  bif bNot y0.1 then some (false, ()) else bindK (F23 (x.1.2.2.2.2.2.2.2.2.2.1, x.2.1.2.2.2.2.2.2.2.2.2.1, ())) fun y1 =>
  bif bNot y1.1 then some (false, ()) else bif bNot (strEq x.1.2.2.2.2.2.2.2.2.2.2.1 x.2.1.2.2.2.2.2.2.2.2.2.2.1) then some (false, ()) else bif bNe x.1.2.2.2.2.2.2.2.2.2.2.2.1 x.2.1.2.2.2.2.2.2.2.2.2.2.2.1 then some (false, ()) else some (true, ())
abbrev ce18 : CE := .con true sg18 F18
theorem co18 : ConOK TT 18 sg18 F18 := con_fn (fn := fn18) (ces := [(65, ce65), (23, ce23)]) (ents1 en65 (ents1 en23 ents0)) hn18 pm18 (by kernel_rfl) rfl rfl (fun x => by kernel_rfl)
theorem en18 : EntOK TT 18 ce18 := ent_fz co18 (by kernel_rfl) rfl rfl rfl
/- laws.FnExactMessageOk -/
def hn3 : Hints := [(1, KMessage, true), (5, KMessage, true), (7, KMessage, true), (12, KMessage, true), (13, KMessage, true), (15, KMessage, true), (16, KMessage, true), (17, KMessage, true), (22, KMessage, true), (23, KMessage, true), (24, KMessage, true)]
def pm3 : List Nat := [1, 5]
abbrev sg3 : Sig := ⟨[.dat KMessage], [.bool]⟩
def F3 (x : TMessage × Unit) : Option (Bool × Unit) :=
  bindK (F14 (x.1, 1048576, ())) fun y0 =>
  bif iLt y0.1 0 then some (true, ()) else bindK (F16 x) fun y1 =>
  bindK (F15 y1) fun y2 =>
  bindK (F16 x) fun y3 =>
  bindK (F17 y3) fun y4 =>
  bif bNe y4.1 y2.1 then some (false, ()) else bindK (F16 x) fun y5 =>
  bindK (F18 (y3.1, y5)) fun y6 =>
  bif bNot y6.1 then some (false, ()) else some (true, ())
abbrev ce3 : CE := .con true sg3 F3
theorem co3 : ConOK TT 3 sg3 F3 := con_fn (fn := fn3) (ces := [(14, ce14), (15, ce15), (16, ce16), (17, ce17), (18, ce18)]) (ents1 en14 (ents1 en15 (ents1 en16 (ents1 en17 (ents1 en18 ents0))))) hn3 pm3 (by kernel_rfl) rfl rfl (fun x => by kernel_rfl)
theorem en3 : EntOK TT 3 ce3 := ent_fz co3 (by kernel_rfl) rfl rfl rfl
end
end Go.Proofs.Ytjnmebjagambkaa.M
