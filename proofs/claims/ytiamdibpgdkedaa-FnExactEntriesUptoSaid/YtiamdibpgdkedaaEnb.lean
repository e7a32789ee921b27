/- The functions that FnExactEntries reaches, told as functions of data, and that the program does what they tell. -/
import Derived.Test.YtiamdibpgdkedaaEna
namespace Go.Proofs.Ytiamdibpgdkedaa.En
set_option linter.unusedVariables false
set_option linter.unusedSimpArgs false
set_option maxRecDepth 100000
open Go Go.Am

noncomputable section
theorem ents0 : ∀ p ∈ ([] : List (Nat × CE)), EntOK TT p.1 p.2 := fun p h => by cases h
theorem ents1 {a : Nat} {v : CE} {l : List (Nat × CE)} (h : EntOK TT a v) (k : ∀ p ∈ l, EntOK TT p.1 p.2) : ∀ p ∈ (a, v) :: l, EntOK TT p.1 p.2 := fun p hp => (List.mem_cons.1 hp).elim (fun e => e ▸ h) (k p)
/- laws.szEntry -/
def hn157 : Hints := []
def pm157 : List Nat := [2]
abbrev sg157 : Sig := ⟨[.dat KEntry, .dat I], [I]⟩
def F157 (x : TEntry × Int × Unit) : Option (Int × Unit) :=
  bif iLt (iSub .i64 x.2.1 (lenI x.1.2.2.1)) 0 then some ((-1), ()) else some (iSub .i64 x.2.1 (lenI x.1.2.2.1), ())
abbrev ce157 : CE := .con true sg157 F157
theorem co157 : ConOK TT 157 sg157 F157 := con_fn (fn := fn157) (ces := []) ents0 hn157 pm157 (by kernel_rfl) rfl rfl (fun x => by kernel_rfl)
theorem en157 : EntOK TT 157 ce157 := ent_fz co157 (by kernel_rfl) rfl rfl rfl
/- laws.szApplied -/
def hn70 : Hints := []
def pm70 : List Nat := [2]
abbrev sg70 : Sig := ⟨[.dat KApplied, .dat I], [I]⟩
def F70 (x : TApplied × Int × Unit) : Option (Int × Unit) :=
  bindK (F157 (x.1.2.2.2, x.2)) fun y0 =>
  bif iLt y0.1 0 then some ((-1), ()) else some y0
abbrev ce70 : CE := .con true sg70 F70
theorem co70 : ConOK TT 70 sg70 F70 := con_fn (fn := fn70) (ces := [(157, ce157)]) (ents1 en157 ents0) hn70 pm70 (by kernel_rfl) rfl rfl (fun x => by kernel_rfl)
theorem en70 : EntOK TT 70 ce70 := ent_fz co70 (by kernel_rfl) rfl rfl rfl
/- laws.szAppliedS -/
def hn19 : Hints := [(7, (.sl 6 KApplied), true), (13, (.sl 6 KApplied), true), (18, (.sl 6 KApplied), true)]
def pm19 : List Nat := []
abbrev sg19 : Sig := ⟨[.dat (.sl 6 KApplied), .dat I], [I]⟩
def F19 (x : List TApplied × Int × Unit) : Option (Int × Unit) :=
  bif iLt (iSub .i64 x.2.1 (lenI x.1)) 0 then some ((-1), ()) else loopF (fun rec0 (s1 : Int × Int × Unit) =>
  bif iLt s1.1 (lenI x.1) then idxK x.1 s1.1 fun y2 =>
  bindK (F70 (y2, s1.2)) fun y3 =>
  bif iLt y3.1 0 then some ((-1), ()) else rec0 (iAdd .i64 s1.1 1, y3) else some s1.2) NN (0, iSub .i64 x.2.1 (lenI x.1), ())
abbrev ce19 : CE := .con true sg19 F19
theorem co19 : ConOK TT 19 sg19 F19 := con_fn (fn := fn19) (ces := [(70, ce70)]) (ents1 en70 ents0) hn19 pm19 (by kernel_rfl) rfl rfl (fun x => by kernel_rfl)
theorem en19 : EntOK TT 19 ce19 := ent_fz co19 (by kernel_rfl) rfl rfl rfl
/- spec.SameApplied -/
def hn71 : Hints := [(6, (.sl 6 KApplied), true), (16, (.sl 6 KApplied), true), (21, (.sl 6 KApplied), true), (28, (.sl 6 KApplied), true), (33, (.sl 6 KApplied), true)]
def pm71 : List Nat := []
abbrev sg71 : Sig := ⟨[.dat (.sl 6 KApplied)], [.bool]⟩
def F71 (x : List TApplied × Unit) : Option (Bool × Unit) :=
  loopF (fun rec0 (s1 : Int × Unit) =>
  bif iLt s1.1 (lenI x.1) then loopF (fun rec2 (s3 : Int × Unit) =>
  bif iLt s3.1 s1.1 then idxK x.1 s1.1 fun y4 =>
  idxK x.1 s3.1 fun y5 =>
  bindK (bif iEq y4.2.2.1 y5.2.2.1 then idxK x.1 s1.1 fun y6 =>
  idxK x.1 s3.1 fun y7 =>
  some (bNot (bAnd (iEq y6.2.2.2.1 y7.2.2.2.1) (bAnd (iEq y6.2.2.2.2.1 y7.2.2.2.2.1) (strEq y6.2.2.2.2.2.1 y7.2.2.2.2.2.1)))) else some false) fun y8 =>
  bif y8 then some (false, ()) else rec2 (iAdd .i64 s3.1 1, ()) else rec0 (iAdd .i64 s1.1 1, ())) NN (0, ()) else some (true, ())) NN (0, ())
abbrev ce71 : CE := .con true sg71 F71
theorem co71 : ConOK TT 71 sg71 F71 := con_fn (fn := fn71) (ces := []) ents0 hn71 pm71 (by kernel_rfl) rfl rfl (fun x => by kernel_rfl)
theorem en71 : EntOK TT 71 ce71 := ent_fz co71 (by kernel_rfl) rfl rfl rfl
/- spec.Entries -/
def hn20 : Hints := [(2, (.sl 3 KEntry), true), (4, (.sl 3 KEntry), true), (7, (.sl 3 KEntry), true), (8, (.sl 6 KApplied), true), (11, (.sl 3 KEntry), true), (14, (.sl 6 KApplied), true), (23, (.sl 6 KApplied), true), (28, (.sl 3 KEntry), true), (32, (.sl 3 KEntry), true), (33, (.sl 6 KApplied), true), (38, (.sl 3 KEntry), true), (39, (.sl 3 KEntry), true), (40, (.sl 3 KEntry), true)]
def pm20 : List Nat := []
abbrev sg20 : Sig := ⟨[.dat (.sl 6 KApplied)], [(.sl 3 KEntry), .bool]⟩
def F20 (x : List TApplied × Unit) : Option (List TEntry × Bool × Unit) :=
  bindK (F71 x) fun y0 =>
  bif bNot y0.1 then some ([], false, ()) else loopF (fun rec1 (s2 : Bool × List TEntry × Unit) =>
  bif s2.1 then loopF (fun rec3 (s4 : Int × Bool × List TEntry × Unit) =>
  bindK (bif iLt s4.1 (lenI x.1) then some (bNot s4.2.1) else some false) fun y5 =>
  bif y5 then idxK x.1 s4.1 fun y6 =>
  joinK (fun (s7 : Bool × List TEntry × Unit) =>
  rec3 (iAdd .i64 s4.1 1, s7)) fun k8 =>
  bif iEq y6.2.2.1 (iAdd .i64 (lenI s4.2.2.1) 1) then idxK x.1 s4.1 fun y9 =>
  guardK (gApp s4.2.2.1 [y9.2.2.2] 3) <|
  k8 (true, cat s4.2.2.1 [y9.2.2.2], ()) else k8 s4.2 else rec1 s4.2) NN (0, false, s2.2) else some (s2.2.1, true, ())) NN (true, [], ())
abbrev ce20 : CE := .con false sg20 F20
theorem co20 : ConOK TT 20 sg20 F20 := con_fn (fn := fn20) (ces := [(71, ce71)]) (ents1 en71 ents0) hn20 pm20 (by kernel_rfl) rfl rfl (fun x => by kernel_rfl)
theorem en20 : EntOK TT 20 ce20 := ent_sep co20 (by kernel_rfl) rfl
/- laws.toEntry -/
def hn158 : Hints := []
def pm158 : List Nat := [1]
abbrev sg158 : Sig := ⟨[.dat KEntry], [KEntry]⟩
def F158 (x : TEntry × Unit) : Option (TEntry × Unit) :=
  some x
abbrev ce158 : CE := .con true sg158 F158
theorem co158 : ConOK TT 158 sg158 F158 := con_fn (fn := fn158) (ces := []) ents0 hn158 pm158 (by kernel_rfl) rfl rfl (fun x => by kernel_rfl)
theorem en158 : EntOK TT 158 ce158 := ent_fz co158 (by kernel_rfl) rfl rfl rfl
/- laws.toApplied -/
def hn72 : Hints := []
def pm72 : List Nat := [1]
abbrev sg72 : Sig := ⟨[.dat KApplied], [KApplied]⟩
def F72 (x : TApplied × Unit) : Option (TApplied × Unit) :=
  bindK (F158 (x.1.2.2.2, ())) fun y0 =>
  some ((x.1.1, x.1.2.1, x.1.2.2.1, y0.1), ())
abbrev ce72 : CE := .con true sg72 F72
theorem co72 : ConOK TT 72 sg72 F72 := con_fn (fn := fn72) (ces := [(158, ce158)]) (ents1 en158 ents0) hn72 pm72 (by kernel_rfl) rfl rfl (fun x => by kernel_rfl)
theorem en72 : EntOK TT 72 ce72 := ent_fz co72 (by kernel_rfl) rfl rfl rfl
/- laws.toAppliedS -/
def hn21 : Hints := [(2, (.sl 6 KApplied), true), (3, (.sl 6 KApplied), true), (5, (.sl 6 KApplied), true), (7, (.sl 6 KApplied), true), (9, (.sl 6 KApplied), true), (14, (.sl 6 KApplied), true), (16, (.sl 6 KApplied), true), (22, (.sl 6 KApplied), true)]
def pm21 : List Nat := []
abbrev sg21 : Sig := ⟨[.dat (.sl 6 KApplied)], [(.sl 6 KApplied)]⟩
def F21 (x : List TApplied × Unit) : Option (List TApplied × Unit) :=
  guardK (gMk (lenI x.1) 6) <|
  loopF (fun rec0 (s1 : Int × List TApplied × Unit) =>
  bif iLt s1.1 (lenI x.1) then idxK x.1 s1.1 fun y2 =>
  bindK (F72 (y2, ())) fun y3 =>
  idxK s1.2.1 s1.1 fun y4 =>
  rec0 (iAdd .i64 s1.1 1, setL s1.2.1 (toN s1.1) y3.1, ()) else some s1.2) NN (0, repL (toN (lenI x.1)) (0, 0, 0, 0, 0, litS [], ()), ())
abbrev ce21 : CE := .con false sg21 F21
theorem co21 : ConOK TT 21 sg21 F21 := con_fn (fn := fn21) (ces := [(72, ce72)]) (ents1 en72 ents0) hn21 pm21 (by kernel_rfl) rfl rfl (fun x => by kernel_rfl)
theorem en21 : EntOK TT 21 ce21 := ent_sep co21 (by kernel_rfl) rfl
/- impl.SameApplied -/
def hn73 : Hints := [(7, (.sl 6 KApplied), true), (13, (.sl 6 KApplied), true)]
def pm73 : List Nat := [6, 4]
abbrev sg73 : Sig := ⟨[.dat (.sl 6 KApplied)], [.bool]⟩
def F73 (x : List TApplied × Unit) : Option (Bool × Unit) :=
  loopF (fun rec0 (s1 : Int × Unit) =>
  bif iLt s1.1 (lenI x.1) then idxK x.1 s1.1 fun y2 =>
  loopF (fun rec3 (s4 : Int × Unit) =>
  bif iLt s4.1 (lenI x.1) then idxK x.1 s4.1 fun y5 =>
  bindK (bif iEq y2.2.2.1 y5.2.2.1 then some (bNot (bAnd (iEq y2.2.2.2.1 y5.2.2.2.1) (bAnd (iEq y2.2.2.2.2.1 y5.2.2.2.2.1) (strEq y2.2.2.2.2.2.1 y5.2.2.2.2.2.1)))) else some false) fun y6 =>
  bif y6 then some (false, ()) else rec3 (iAdd .i64 s4.1 1, ()) else rec0 (iAdd .i64 s1.1 1, ())) NN (0, ()) else some (true, ())) NN (0, ())
abbrev ce73 : CE := .con true sg73 F73
theorem co73 : ConOK TT 73 sg73 F73 := con_fn (fn := fn73) (ces := []) ents0 hn73 pm73 (by kernel_rfl) rfl rfl (fun x => by kernel_rfl)
theorem en73 : EntOK TT 73 ce73 := ent_fz co73 (by kernel_rfl) rfl rfl rfl
/- slices.IndexFunc[[]impl.Applied,impl.Applied] -/
def hn74 : Hints := [(6, (.sl 6 KApplied), true), (12, (.sl 6 KApplied), true)]
def pm74 : List Nat := []
abbrev sg74 : Sig := ⟨[.dat (.sl 6 KApplied), .raw], [I]⟩
abbrev ce74 : CE := .inl sg74 (fn74) hn74 pm74
theorem en74 : EntOK TT 74 ce74 := ent_inl hn74 pm74 (by kernel_rfl) (by kernel_rfl) rfl rfl rfl rfl rfl
/- impl.Entries$1 -/
def hn75 : Hints := [(6, (.sl 3 KEntry), true)]
def pm75 : List Nat := [2]
abbrev sg75 : Sig := ⟨[.dat KApplied, .raw], [.bool]⟩
abbrev ce75 : CE := .inl sg75 (fn75) hn75 pm75
theorem en75 : EntOK TT 75 ce75 := ent_inl hn75 pm75 (by kernel_rfl) (by kernel_rfl) rfl rfl rfl rfl rfl
/- impl.Entries -/
def hn22 : Hints := [(2, (.sl 3 KEntry), true), (4, (.sl 3 KEntry), true), (6, (.sl 6 KApplied), true), (9, (.sl 6 KApplied), true), (14, (.sl 3 KEntry), true), (15, (.sl 3 KEntry), true), (16, (.sl 6 KApplied), true), (21, (.sl 3 KEntry), true), (22, (.sl 3 KEntry), true)]
def pm22 : List Nat := [4]
abbrev sg22 : Sig := ⟨[.dat (.sl 6 KApplied)], [(.sl 3 KEntry), .bool]⟩
def F22 (x : List TApplied × Unit) : Option (List TEntry × Bool × Unit) :=
  bindK (F73 x) fun y0 =>
  bif bNot y0.1 then some ([], false, ()) else loopF (fun rec1 (s2 : List TEntry × Unit) =>
  bindK (loopF (fun rec3 (s4 : Int × List TEntry × Unit) =>
  bif iLt s4.1 (lenI x.1) then idxK x.1 s4.1 fun y5 =>
  bindK (some (iEq y5.2.2.1 (iAdd .i64 (lenI s4.2.1) 1), ())) fun y6 =>
  bif y6.1 then some (s4.1, ()) else rec3 (iAdd .i64 s4.1 1, s4.2) else some ((-1), ())) NN (0, s2)) fun y7 =>
  bif iLt y7.1 0 then some (s2.1, true, ()) else idxK x.1 y7.1 fun y8 =>
  guardK (gApp s2.1 [y8.2.2.2] 3) <|
  rec1 (cat s2.1 [y8.2.2.2], ())) NN ([], ())
abbrev ce22 : CE := .con false sg22 F22
theorem co22 : ConOK TT 22 sg22 F22 := con_fn (fn := fn22) (ces := [(73, ce73), (74, ce74), (75, ce75)]) (ents1 en73 (ents1 en74 (ents1 en75 ents0))) hn22 pm22 (by kernel_rfl) rfl rfl (fun x => by kernel_rfl)
theorem en22 : EntOK TT 22 ce22 := ent_sep co22 (by kernel_rfl) rfl
/- laws.eqEntry -/
def hn76 : Hints := []
def pm76 : List Nat := [2, 3]
abbrev sg76 : Sig := ⟨[.dat KEntry, .dat KEntry], [.bool]⟩
def F76 (x : TEntry × TEntry × Unit) : Option (Bool × Unit) :=
  bif iNe x.1.1 x.2.1.1 then some (false, ()) else bif iNe x.1.2.1 x.2.1.2.1 then some (false, ()) else bif bNot (strEq x.1.2.2.1 x.2.1.2.2.1) then some (false, ()) else some (true, ())
abbrev ce76 : CE := .con true sg76 F76
theorem co76 : ConOK TT 76 sg76 F76 := con_fn (fn := fn76) (ces := []) ents0 hn76 pm76 (by kernel_rfl) rfl rfl (fun x => by kernel_rfl)
theorem en76 : EntOK TT 76 ce76 := ent_fz co76 (by kernel_rfl) rfl rfl rfl
/- laws.eqEntryS -/
def hn23 : Hints := [(6, (.sl 3 KEntry), true), (8, (.sl 3 KEntry), true), (12, (.sl 3 KEntry), true), (17, (.sl 3 KEntry), true), (21, (.sl 3 KEntry), true)]
def pm23 : List Nat := []
abbrev sg23 : Sig := ⟨[.dat (.sl 3 KEntry), .dat (.sl 3 KEntry)], [.bool]⟩
def F23 (x : List TEntry × List TEntry × Unit) : Option (Bool × Unit) :=
  bif iNe (lenI x.1) (lenI x.2.1) then some (false, ()) else loopF (fun rec0 (s1 : Int × Unit) =>
  bif iLt s1.1 (lenI x.1) then idxK x.1 s1.1 fun y2 =>
  idxK x.2.1 s1.1 fun y3 =>
  bindK (F76 (y2, y3, ())) fun y4 =>
  bif bNot y4.1 then some (false, ()) else rec0 (iAdd .i64 s1.1 1, ()) else some (true, ())) NN (0, ())
abbrev ce23 : CE := .con true sg23 F23
theorem co23 : ConOK TT 23 sg23 F23 := con_fn (fn := fn23) (ces := [(76, ce76)]) (ents1 en76 ents0) hn23 pm23 (by kernel_rfl) rfl rfl (fun x => by kernel_rfl)
theorem en23 : EntOK TT 23 ce23 := ent_fz co23 (by kernel_rfl) rfl rfl rfl
/- laws.eqApplied -/
def hn77 : Hints := []
def pm77 : List Nat := [2, 3]
abbrev sg77 : Sig := ⟨[.dat KApplied, .dat KApplied], [.bool]⟩
def F77 (x : TApplied × TApplied × Unit) : Option (Bool × Unit) :=
  bif iNe x.1.1 x.2.1.1 then some (false, ()) else bif iNe x.1.2.1 x.2.1.2.1 then some (false, ()) else bif iNe x.1.2.2.1 x.2.1.2.2.1 then some (false, ()) else bindK (F76 (x.1.2.2.2, x.2.1.2.2.2, ())) fun y0 =>
  bif bNot y0.1 then some (false, ()) else some (true, ())
abbrev ce77 : CE := .con true sg77 F77
theorem co77 : ConOK TT 77 sg77 F77 := con_fn (fn := fn77) (ces := [(76, ce76)]) (ents1 en76 ents0) hn77 pm77 (by kernel_rfl) rfl rfl (fun x => by kernel_rfl)
theorem en77 : EntOK TT 77 ce77 := ent_fz co77 (by kernel_rfl) rfl rfl rfl
/- laws.eqAppliedS -/
def hn24 : Hints := [(6, (.sl 6 KApplied), true), (8, (.sl 6 KApplied), true), (12, (.sl 6 KApplied), true), (17, (.sl 6 KApplied), true), (21, (.sl 6 KApplied), true)]
def pm24 : List Nat := []
abbrev sg24 : Sig := ⟨[.dat (.sl 6 KApplied), .dat (.sl 6 KApplied)], [.bool]⟩
def F24 (x : List TApplied × List TApplied × Unit) : Option (Bool × Unit) :=
  bif iNe (lenI x.1) (lenI x.2.1) then some (false, ()) else loopF (fun rec0 (s1 : Int × Unit) =>
  bif iLt s1.1 (lenI x.1) then idxK x.1 s1.1 fun y2 =>
  idxK x.2.1 s1.1 fun y3 =>
  bindK (F77 (y2, y3, ())) fun y4 =>
  bif bNot y4.1 then some (false, ()) else rec0 (iAdd .i64 s1.1 1, ()) else some (true, ())) NN (0, ())
abbrev ce24 : CE := .con true sg24 F24
theorem co24 : ConOK TT 24 sg24 F24 := con_fn (fn := fn24) (ces := [(77, ce77)]) (ents1 en77 ents0) hn24 pm24 (by kernel_rfl) rfl rfl (fun x => by kernel_rfl)
theorem en24 : EntOK TT 24 ce24 := ent_fz co24 (by kernel_rfl) rfl rfl rfl
/- laws.markText -/
def hn78 : Hints := [(12, (.sl 1 (.int .u8)), true)]
def pm78 : List Nat := []
abbrev sg78 : Sig := ⟨[.dat I], [.str]⟩
def F78 (x : Int × Unit) : Option (List UInt8 × Unit) :=
  bif iLe x.1 0 then some (litS [109, 48], ()) else loopF (fun rec0 (s1 : Int × List UInt8 × Unit) =>
  bif iGt s1.1 0 then guardK (gNz 10) <|
  guardK (gCat (strP [iConv .u8 (iAdd .i64 48 (iRem s1.1 10))]) s1.2.1) <|
  guardK (gNz 10) <|
  rec0 (iQuo .i64 s1.1 10, cat (strP [iConv .u8 (iAdd .i64 48 (iRem s1.1 10))]) s1.2.1, ()) else guardK (gCat (litS [109]) s1.2.1) <|
  some (cat (litS [109]) s1.2.1, ())) NN (x.1, litS [], ())
abbrev ce78 : CE := .con true sg78 F78
theorem co78 : ConOK TT 78 sg78 F78 := con_fn (fn := fn78) (ces := []) ents0 hn78 pm78 (by kernel_rfl) rfl rfl (fun x => by kernel_rfl)
theorem en78 : EntOK TT 78 ce78 := ent_fz co78 (by kernel_rfl) rfl rfl rfl
/- laws.markAppliedS -/
def hn25 : Hints := [(7, (.sl 6 KApplied), true), (12, (.sl 6 KApplied), true), (19, (.sl 6 KApplied), true), (26, (.sl 6 KApplied), true), (33, (.sl 6 KApplied), true), (41, (.sl 6 KApplied), true), (49, (.sl 6 KApplied), true)]
def pm25 : List Nat := []
abbrev sg25 : Sig := ⟨[.kept (.sl 6 KApplied), .dat I], [I]⟩
def F25 (x : List TApplied × Int × Unit) : Option (Int × List TApplied × Unit) :=
  loopF (fun rec0 (s1 : Int × Int × List TApplied × Unit) =>
  bif iLt s1.1 (lenI s1.2.2.1) then idxK s1.2.2.1 s1.1 fun y2 =>
  idxK (setL s1.2.2.1 (toN s1.1) (s1.2.1, y2.2)) s1.1 fun y3 =>
  idxK (setL (setL s1.2.2.1 (toN s1.1) (s1.2.1, y2.2)) (toN s1.1) (y3.1, iAdd .i64 s1.2.1 1, y3.2.2)) s1.1 fun y4 =>
  idxK (setL (setL (setL s1.2.2.1 (toN s1.1) (s1.2.1, y2.2)) (toN s1.1) (y3.1, iAdd .i64 s1.2.1 1, y3.2.2)) (toN s1.1) (y4.1, y4.2.1, iAdd .i64 (iAdd .i64 s1.2.1 1) 1, y4.2.2.2)) s1.1 fun y5 =>
  idxK (setL (setL (setL (setL s1.2.2.1 (toN s1.1) (s1.2.1, y2.2)) (toN s1.1) (y3.1, iAdd .i64 s1.2.1 1, y3.2.2)) (toN s1.1) (y4.1, y4.2.1, iAdd .i64 (iAdd .i64 s1.2.1 1) 1, y4.2.2.2)) (toN s1.1) (y5.1, y5.2.1, y5.2.2.1, iAdd .i64 (iAdd .i64 (iAdd .i64 s1.2.1 1) 1) 1, y5.2.2.2.2)) s1.1 fun y6 =>
  bindK (F78 (iAdd .i64 (iAdd .i64 (iAdd .i64 (iAdd .i64 (iAdd .i64 s1.2.1 1) 1) 1) 1) 1, ())) fun y7 =>
  idxK (setL (setL (setL (setL (setL s1.2.2.1 (toN s1.1) (s1.2.1, y2.2)) (toN s1.1) (y3.1, iAdd .i64 s1.2.1 1, y3.2.2)) (toN s1.1) (y4.1, y4.2.1, iAdd .i64 (iAdd .i64 s1.2.1 1) 1, y4.2.2.2)) (toN s1.1) (y5.1, y5.2.1, y5.2.2.1, iAdd .i64 (iAdd .i64 (iAdd .i64 s1.2.1 1) 1) 1, y5.2.2.2.2)) (toN s1.1) (y6.1, y6.2.1, y6.2.2.1, y6.2.2.2.1, iAdd .i64 (iAdd .i64 (iAdd .i64 (iAdd .i64 s1.2.1 1) 1) 1) 1, y6.2.2.2.2.2)) s1.1 fun y8 =>
  rec0 (iAdd .i64 s1.1 1, iAdd .i64 (iAdd .i64 (iAdd .i64 (iAdd .i64 (iAdd .i64 (iAdd .i64 s1.2.1 1) 1) 1) 1) 1) 1, setL (setL (setL (setL (setL (setL s1.2.2.1 (toN s1.1) (s1.2.1, y2.2)) (toN s1.1) (y3.1, iAdd .i64 s1.2.1 1, y3.2.2)) (toN s1.1) (y4.1, y4.2.1, iAdd .i64 (iAdd .i64 s1.2.1 1) 1, y4.2.2.2)) (toN s1.1) (y5.1, y5.2.1, y5.2.2.1, iAdd .i64 (iAdd .i64 (iAdd .i64 s1.2.1 1) 1) 1, y5.2.2.2.2)) (toN s1.1) (y6.1, y6.2.1, y6.2.2.1, y6.2.2.2.1, iAdd .i64 (iAdd .i64 (iAdd .i64 (iAdd .i64 s1.2.1 1) 1) 1) 1, y6.2.2.2.2.2)) (toN s1.1) (y8.1, y8.2.1, y8.2.2.1, y8.2.2.2.1, y8.2.2.2.2.1, y7), ()) else some s1.2) NN (0, x.2.1, x.1, ())
abbrev ce25 : CE := .con false sg25 F25
theorem co25 : ConOK TT 25 sg25 F25 := con_fn (fn := fn25) (ces := [(78, ce78)]) (ents1 en78 ents0) hn25 pm25 (by kernel_rfl) rfl rfl (fun x => by kernel_rfl)
theorem en25 : EntOK TT 25 ce25 := ent_sep co25 (by kernel_rfl) rfl
/- laws.markEntryS -/
def hn26 : Hints := [(7, (.sl 3 KEntry), true), (12, (.sl 3 KEntry), true), (19, (.sl 3 KEntry), true), (26, (.sl 3 KEntry), true)]
def pm26 : List Nat := []
abbrev sg26 : Sig := ⟨[.kept (.sl 3 KEntry), .dat I], [I]⟩
def F26 (x : List TEntry × Int × Unit) : Option (Int × List TEntry × Unit) :=
  loopF (fun rec0 (s1 : Int × Int × List TEntry × Unit) =>
  bif iLt s1.1 (lenI s1.2.2.1) then idxK s1.2.2.1 s1.1 fun y2 =>
  idxK (setL s1.2.2.1 (toN s1.1) (s1.2.1, y2.2)) s1.1 fun y3 =>
  bindK (F78 (iAdd .i64 (iAdd .i64 s1.2.1 1) 1, ())) fun y4 =>
  idxK (setL (setL s1.2.2.1 (toN s1.1) (s1.2.1, y2.2)) (toN s1.1) (y3.1, iAdd .i64 s1.2.1 1, y3.2.2)) s1.1 fun y5 =>
  rec0 (iAdd .i64 s1.1 1, iAdd .i64 (iAdd .i64 (iAdd .i64 s1.2.1 1) 1) 1, setL (setL (setL s1.2.2.1 (toN s1.1) (s1.2.1, y2.2)) (toN s1.1) (y3.1, iAdd .i64 s1.2.1 1, y3.2.2)) (toN s1.1) (y5.1, y5.2.1, y4), ()) else some s1.2) NN (0, x.2.1, x.1, ())
abbrev ce26 : CE := .con false sg26 F26
theorem co26 : ConOK TT 26 sg26 F26 := con_fn (fn := fn26) (ces := [(78, ce78)]) (ents1 en78 ents0) hn26 pm26 (by kernel_rfl) rfl rfl (fun x => by kernel_rfl)
theorem en26 : EntOK TT 26 ce26 := ent_sep co26 (by kernel_rfl) rfl
/- laws.heldEntryS -/
def hn27 : Hints := [(7, (.sl 3 KEntry), true), (12, (.sl 3 KEntry), true), (21, (.sl 3 KEntry), true), (30, (.sl 3 KEntry), true)]
def pm27 : List Nat := []
abbrev sg27 : Sig := ⟨[.dat (.sl 3 KEntry), .dat I], [I]⟩
def F27 (x : List TEntry × Int × Unit) : Option (Int × Unit) :=
  loopF (fun rec0 (s1 : Int × Int × Unit) =>
  bif iLt s1.1 (lenI x.1) then idxK x.1 s1.1 fun y2 =>
  bif iNe y2.1 s1.2.1 then some ((-1), ()) else idxK x.1 s1.1 fun y3 =>
  bif iNe y3.2.1 (iAdd .i64 s1.2.1 1) then some ((-1), ()) else idxK x.1 s1.1 fun y4 =>
  bindK (F78 (iAdd .i64 (iAdd .i64 s1.2.1 1) 1, ())) fun y5 =>
  bif bNot (strEq y4.2.2.1 y5.1) then some ((-1), ()) else rec0 (iAdd .i64 s1.1 1, iAdd .i64 (iAdd .i64 (iAdd .i64 s1.2.1 1) 1) 1, ()) else some s1.2) NN (0, x.2)
abbrev ce27 : CE := .con true sg27 F27
theorem co27 : ConOK TT 27 sg27 F27 := con_fn (fn := fn27) (ces := [(78, ce78)]) (ents1 en78 ents0) hn27 pm27 (by kernel_rfl) rfl rfl (fun x => by kernel_rfl)
theorem en27 : EntOK TT 27 ce27 := ent_fz co27 (by kernel_rfl) rfl rfl rfl
/- laws.FnExactEntries -/
def hn4 : Hints := [(4, (.sl 3 KEntry), true), (6, (.sl 6 KApplied), true), (7, (.sl 3 KEntry), true), (12, (.sl 3 KEntry), true), (14, (.sl 6 KApplied), true), (20, (.sl 6 KApplied), true), (21, (.sl 6 KApplied), true), (23, (.sl 3 KEntry), true), (25, (.sl 6 KApplied), true), (26, (.sl 6 KApplied), true), (28, (.sl 6 KApplied), true), (30, (.sl 3 KEntry), true), (32, (.sl 3 KEntry), true), (33, (.sl 3 KEntry), true), (41, (.sl 6 KApplied), true), (42, (.sl 6 KApplied), true), (43, (.sl 6 KApplied), true), (46, (.sl 6 KApplied), true), (52, (.sl 3 KEntry), true), (53, (.sl 3 KEntry), true), (62, (.sl 3 KEntry), true), (65, (.sl 3 KEntry), true), (74, (.sl 6 KApplied), true), (75, (.sl 6 KApplied), true), (77, (.sl 3 KEntry), true), (79, (.sl 3 KEntry), true), (80, (.sl 3 KEntry), true), (88, (.sl 3 KEntry), true)]
def pm4 : List Nat := []
abbrev sg4 : Sig := ⟨[.dat (.sl 6 KApplied)], [.bool]⟩
def F4 (x : List TApplied × Unit) : Option (Bool × Unit) :=
  bindK (F19 (x.1, 1048576, ())) fun y0 =>
  bif iLt y0.1 0 then some (true, ()) else bindK (F21 x) fun y1 =>
  bindK (F20 y1) fun y2 =>
  bindK (F21 x) fun y3 =>
  bindK (F22 y3) fun y4 =>
  bindK (F23 (y4.1, y2.1, ())) fun y5 =>
  bindK (bif bNot y5.1 then some true else some (bNe y4.2.1 y2.2.1)) fun y6 =>
  bif y6 then some (false, ()) else bindK (F21 x) fun y7 =>
  bindK (F24 (y3.1, y7)) fun y8 =>
  bif bNot y8.1 then some (false, ()) else bindK (F25 (y3.1, 1, ())) fun y9 =>
  bindK (bif iLt y9.1 0 then some true else bindK (F23 (y4.1, y2.1, ())) fun y10 =>
  some (bNot y10.1)) fun y11 =>
  bindK (bif y11 then some true else some (bNe y4.2.1 y2.2.1)) fun y12 =>
  bif y12 then some (false, ()) else bindK (F26 (y4.1, 1, ())) fun y13 =>
  bindK (F27 (y13.2.1, 1, ())) fun y14 =>
  bif iLt y14.1 0 then some (false, ()) else bif iNe y14.1 y13.1 then some (false, ()) else bindK (F21 x) fun y15 =>
  bindK (F22 y15) fun y16 =>
  bindK (F23 (y16.1, y2.1, ())) fun y17 =>
  bindK (bif bNot y17.1 then some true else some (bNe y16.2.1 y2.2.1)) fun y18 =>
  bif y18 then some (false, ()) else bindK (F27 (y13.2.1, 1, ())) fun y19 =>
  bif iLt y19.1 0 then some (false, ()) else bif iNe y19.1 y13.1 then some (false, ()) else some (true, ())
abbrev ce4 : CE := .con true sg4 F4
theorem co4 : ConOK TT 4 sg4 F4 := con_fn (fn := fn4) (ces := [(19, ce19), (20, ce20), (21, ce21), (22, ce22), (23, ce23), (24, ce24), (25, ce25), (26, ce26), (27, ce27)]) (ents1 en19 (ents1 en20 (ents1 en21 (ents1 en22 (ents1 en23 (ents1 en24 (ents1 en25 (ents1 en26 (ents1 en27 ents0))))))))) hn4 pm4 (by kernel_rfl) rfl rfl (fun x => by kernel_rfl)
theorem en4 : EntOK TT 4 ce4 := ent_fz co4 (by kernel_rfl) rfl rfl rfl
end
end Go.Proofs.Ytiamdibpgdkedaa.En
