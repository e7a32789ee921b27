/- The functions that FnExactHappenOk reaches, told as functions of data, and that the program does what they tell. -/
import Derived.Test.YtiamdibpgdkedaaHaa
namespace Go.Proofs.Ytiamdibpgdkedaa.Ha
set_option linter.unusedVariables false
set_option linter.unusedSimpArgs false
set_option maxRecDepth 100000
open Go Go.Am

noncomputable section
theorem ents0 : ∀ p ∈ ([] : List (Nat × CE)), EntOK TT p.1 p.2 := fun p h => by cases h
theorem ents1 {a : Nat} {v : CE} {l : List (Nat × CE)} (h : EntOK TT a v) (k : ∀ p ∈ l, EntOK TT p.1 p.2) : ∀ p ∈ (a, v) :: l, EntOK TT p.1 p.2 := fun p hp => (List.mem_cons.1 hp).elim (fun e => e ▸ h) (k p)
/- laws.szIntS -/
def hn82 : Hints := [(6, (.sl 1 I), true)]
def pm82 : List Nat := []
abbrev sg82 : Sig := ⟨[.dat (.sl 1 I), .dat I], [I]⟩
def F82 (x : List Int × Int × Unit) : Option (Int × Unit) :=
  bif iLt (iSub .i64 x.2.1 (lenI x.1)) 0 then some ((-1), ()) else some (iSub .i64 x.2.1 (lenI x.1), ())
abbrev ce82 : CE := .con true sg82 F82
theorem co82 : ConOK TT 82 sg82 F82 := con_fn (fn := fn82) (ces := []) ents0 hn82 pm82 (by kernel_rfl) rfl rfl (fun x => by kernel_rfl)
theorem en82 : EntOK TT 82 ce82 := ent_fz co82 (by kernel_rfl) rfl rfl rfl
/- laws.szEvent -/
def hn159 : Hints := [(2, KEvent, true), (6, (.sl 1 I), true), (19, (.sl 1 I), true)]
def pm159 : List Nat := [2]
abbrev sg159 : Sig := ⟨[.dat KEvent, .dat I], [I]⟩
def F159 (x : TEvent × Int × Unit) : Option (Int × Unit) :=
  bindK (F82 (x.1.2.2.2.2.2.1, x.2)) fun y0 =>
  bif iLt y0.1 0 then some ((-1), ()) else bif iLt (iSub .i64 y0.1 (lenI x.1.2.2.2.2.2.2.1)) 0 then some ((-1), ()) else bindK (F82 (x.1.2.2.2.2.2.2.2.1, iSub .i64 y0.1 (lenI x.1.2.2.2.2.2.2.1), ())) fun y1 =>
  bif iLt y1.1 0 then some ((-1), ()) else some y1
abbrev ce159 : CE := .con true sg159 F159
theorem co159 : ConOK TT 159 sg159 F159 := con_fn (fn := fn159) (ces := [(82, ce82)]) (ents1 en82 ents0) hn159 pm159 (by kernel_rfl) rfl rfl (fun x => by kernel_rfl)
theorem en159 : EntOK TT 159 ce159 := ent_fz co159 (by kernel_rfl) rfl rfl rfl
/- laws.szCommand -/
def hn81 : Hints := [(2, KCommand, true), (6, KEvent, true)]
def pm81 : List Nat := [2]
abbrev sg81 : Sig := ⟨[.dat KCommand, .dat I], [I]⟩
def F81 (x : TCommand × Int × Unit) : Option (Int × Unit) :=
  bindK (F159 ((x.1.2.2.2.1, x.1.2.2.2.2.1, x.1.2.2.2.2.2.1, x.1.2.2.2.2.2.2.1, x.1.2.2.2.2.2.2.2.1, x.1.2.2.2.2.2.2.2.2.1, x.1.2.2.2.2.2.2.2.2.2.1, x.1.2.2.2.2.2.2.2.2.2.2.1, x.1.2.2.2.2.2.2.2.2.2.2.2.1, ()), x.2)) fun y0 =>
  bif iLt y0.1 0 then some ((-1), ()) else some y0
abbrev ce81 : CE := .con true sg81 F81
theorem co81 : ConOK TT 81 sg81 F81 := con_fn (fn := fn81) (ces := [(159, ce159)]) (ents1 en159 ents0) hn81 pm81 (by kernel_rfl) rfl rfl (fun x => by kernel_rfl)
theorem en81 : EntOK TT 81 ce81 := ent_fz co81 (by kernel_rfl) rfl rfl rfl
/- laws.szHappen -/
def hn30 : Hints := [(2, KHappen, true), (6, KCommand, true), (12, (.sl 1 I), true), (18, (.sl 1 I), true)]
def pm30 : List Nat := [2]
abbrev sg30 : Sig := ⟨[.dat KHappen, .dat I], [I]⟩
def F30 (x : THappen × Int × Unit) : Option (Int × Unit) :=
  bindK (F81 ((x.1.2.2.2.2.1, x.1.2.2.2.2.2.1, x.1.2.2.2.2.2.2.1, x.1.2.2.2.2.2.2.2.1, x.1.2.2.2.2.2.2.2.2.1, x.1.2.2.2.2.2.2.2.2.2.1, x.1.2.2.2.2.2.2.2.2.2.2.1, x.1.2.2.2.2.2.2.2.2.2.2.2.1, x.1.2.2.2.2.2.2.2.2.2.2.2.2.1, x.1.2.2.2.2.2.2.2.2.2.2.2.2.2.1, x.1.2.2.2.2.2.2.2.2.2.2.2.2.2.2.1, x.1.2.2.2.2.2.2.2.2.2.2.2.2.2.2.2.1, x.1.2.2.2.2.2.2.2.2.2.2.2.2.2.2.2.2.1, x.1.2.2.2.2.2.2.2.2.2.2.2.2.2.2.2.2.2.1, ()), x.2)) fun y0 =>
  bif iLt y0.1 0 then some ((-1), ()) else bindK (F82 (x.1.2.2.2.2.2.2.2.2.2.2.2.2.2.2.2.2.2.2.1, y0)) fun y1 =>
  bif iLt y1.1 0 then some ((-1), ()) else bindK (F82 (x.1.2.2.2.2.2.2.2.2.2.2.2.2.2.2.2.2.2.2.2.2.2.1, y1)) fun y2 =>
  bif iLt y2.1 0 then some ((-1), ()) else some y2
abbrev ce30 : CE := .con true sg30 F30
theorem co30 : ConOK TT 30 sg30 F30 := con_fn (fn := fn30) (ces := [(81, ce81), (82, ce82)]) (ents1 en81 (ents1 en82 ents0)) hn30 pm30 (by kernel_rfl) rfl rfl (fun x => by kernel_rfl)
theorem en30 : EntOK TT 30 ce30 := ent_fz co30 (by kernel_rfl) rfl rfl rfl
/- spec.l01In -/
def hn83 : Hints := []
def pm83 : List Nat := []
abbrev sg83 : Sig := ⟨[.dat I, .dat I, .dat I], [.bool]⟩
def F83 (x : Int × Int × Int × Unit) : Option (Bool × Unit) :=
  bindK (bif iGe x.1 x.2.1 then some (iLe x.1 x.2.2.1) else some false) fun y0 =>
  some (y0, ())
abbrev ce83 : CE := .con true sg83 F83
theorem co83 : ConOK TT 83 sg83 F83 := con_fn (fn := fn83) (ces := []) ents0 hn83 pm83 (by kernel_rfl) rfl rfl (fun x => by kernel_rfl)
theorem en83 : EntOK TT 83 ce83 := ent_fz co83 (by kernel_rfl) rfl rfl rfl
/- spec.l05SameInts -/
def hn204 : Hints := [(6, (.sl 1 I), true), (8, (.sl 1 I), true), (12, (.sl 1 I), true), (17, (.sl 1 I), true), (21, (.sl 1 I), true)]
def pm204 : List Nat := []
abbrev sg204 : Sig := ⟨[.dat (.sl 1 I), .dat (.sl 1 I)], [.bool]⟩
def F204 (x : List Int × List Int × Unit) : Option (Bool × Unit) :=
  bif iNe (lenI x.1) (lenI x.2.1) then some (false, ()) else loopF (fun rec0 (s1 : Int × Unit) =>
  bif iLt s1.1 (lenI x.1) then idxK x.1 s1.1 fun y2 =>
  idxK x.2.1 s1.1 fun y3 =>
  bif iNe y2 y3 then some (false, ()) else rec0 (iAdd .i64 s1.1 1, ()) else some (true, ())) NN (0, ())
abbrev ce204 : CE := .con true sg204 F204
theorem co204 : ConOK TT 204 sg204 F204 := con_fn (fn := fn204) (ces := []) ents0 hn204 pm204 (by kernel_rfl) rfl rfl (fun x => by kernel_rfl)
theorem en204 : EntOK TT 204 ce204 := ent_fz co204 (by kernel_rfl) rfl rfl rfl
/- spec.l09Same -/
def hn199 : Hints := [(2, KEvent, true), (3, KEvent, true), (54, (.sl 1 I), true), (56, (.sl 1 I), true), (61, (.sl 1 I), true), (63, (.sl 1 I), true)]
def pm199 : List Nat := [2, 3]
abbrev sg199 : Sig := ⟨[.dat KEvent, .dat KEvent], [.bool]⟩
def F199 (x : TEvent × TEvent × Unit) : Option (Bool × Unit) :=
  bindK (bif iEq x.1.1 x.2.1.1 then some (iEq x.1.2.1 x.2.1.2.1) else some false) fun y0 =>
  bindK (bif y0 then some (iEq x.1.2.2.1 x.2.1.2.2.1) else some false) fun y1 =>
  bindK (bif y1 then some (iEq x.1.2.2.2.1 x.2.1.2.2.2.1) else some false) fun y2 =>
  bindK (bif y2 then some (iEq x.1.2.2.2.2.1 x.2.1.2.2.2.2.1) else some false) fun y3 =>
  bindK (bif y3 then some (strEq x.1.2.2.2.2.2.2.1 x.2.1.2.2.2.2.2.2.1) else some false) fun y4 =>
  bindK (bif y4 then some (iEq x.1.2.2.2.2.2.2.2.2.1 x.2.1.2.2.2.2.2.2.2.2.1) else some false) fun y5 =>
  bindK (bif y5 then bindK (F204 (x.1.2.2.2.2.2.1, x.2.1.2.2.2.2.2.1, ())) fun y6 =>
  some y6.1 else some false) fun y7 =>
  bindK (bif y7 then bindK (F204 (x.1.2.2.2.2.2.2.2.1, x.2.1.2.2.2.2.2.2.2.1, ())) fun y8 =>
  some y8.1 else some false) fun y9 =>
  some (y9, ())
abbrev ce199 : CE := .con true sg199 F199
theorem co199 : ConOK TT 199 sg199 F199 := con_fn (fn := fn199) (ces := [(204, ce204)]) (ents1 en204 ents0) hn199 pm199 (by kernel_rfl) rfl rfl (fun x => by kernel_rfl)
theorem en199 : EntOK TT 199 ce199 := ent_fz co199 (by kernel_rfl) rfl rfl rfl
/- spec.l13Blank -/
def hn160 : Hints := [(1, KEvent, true), (3, KEvent, true), (4, KEvent, true)]
def pm160 : List Nat := [1]
abbrev sg160 : Sig := ⟨[.dat KEvent], [.bool]⟩
def F160 (x : TEvent × Unit) : Option (Bool × Unit) :=
  bindK (F199 (x.1, (0, 0, 0, 0, 0, [], litS [], [], 0, ()), ())) fun y0 =>
  some y0
abbrev ce160 : CE := .con true sg160 F160
theorem co160 : ConOK TT 160 sg160 F160 := con_fn (fn := fn160) (ces := [(199, ce199)]) (ents1 en199 ents0) hn160 pm160 (by kernel_rfl) rfl rfl (fun x => by kernel_rfl)
theorem en160 : EntOK TT 160 ce160 := ent_fz co160 (by kernel_rfl) rfl rfl rfl
/- spec.l09Levels -/
def hn200 : Hints := [(5, (.sl 1 I), true), (10, (.sl 1 I), true), (16, (.sl 1 I), true)]
def pm200 : List Nat := []
abbrev sg200 : Sig := ⟨[.dat (.sl 1 I)], [.bool]⟩
def F200 (x : List Int × Unit) : Option (Bool × Unit) :=
  loopF (fun rec0 (s1 : Int × Unit) =>
  bif iLt s1.1 (lenI x.1) then idxK x.1 s1.1 fun y2 =>
  bindK (F83 (y2, 0, 100, ())) fun y3 =>
  bif bNot y3.1 then some (false, ()) else rec0 (iAdd .i64 s1.1 1, ()) else some (iEq (lenI x.1) 5, ())) NN (0, ())
abbrev ce200 : CE := .con true sg200 F200
theorem co200 : ConOK TT 200 sg200 F200 := con_fn (fn := fn200) (ces := [(83, ce83)]) (ents1 en83 ents0) hn200 pm200 (by kernel_rfl) rfl rfl (fun x => by kernel_rfl)
theorem en200 : EntOK TT 200 ce200 := ent_fz co200 (by kernel_rfl) rfl rfl rfl
/- spec.l09Body -/
def hn161 : Hints := [(1, KEvent, true), (48, (.sl 1 I), true), (58, (.sl 1 I), true)]
def pm161 : List Nat := [1]
abbrev sg161 : Sig := ⟨[.dat KEvent], [.bool]⟩
def F161 (x : TEvent × Unit) : Option (Bool × Unit) :=
  bindK (F83 (x.1.2.1, 1, 5, ())) fun y0 =>
  bindK (bif bNot y0.1 then some true else bindK (F83 (x.1.2.2.1, 1, 5, ())) fun y1 =>
  some (bNot y1.1)) fun y2 =>
  bif y2 then some (false, ()) else bindK (bif iEq x.1.2.1 2 then bindK (F83 (x.1.2.2.2.1, 1, 5, ())) fun y3 =>
  bindK (bif bNot y3.1 then some true else bindK (F83 (x.1.2.2.2.2.1, 0, 3, ())) fun y4 =>
  some (bNot y4.1)) fun y5 =>
  some y5 else some false) fun y6 =>
  bindK (bif y6 then some true else bindK (bif iNe x.1.2.1 2 then bindK (bif iNe x.1.2.2.2.1 0 then some true else some (iNe x.1.2.2.2.2.1 0)) fun y7 =>
  some y7 else some false) fun y8 =>
  some y8) fun y9 =>
  bif y9 then some (false, ()) else bindK (bif iEq x.1.2.1 3 then bindK (F200 (x.1.2.2.2.2.2.1, ())) fun y10 =>
  some (bNot y10.1) else some false) fun y11 =>
  bindK (bif y11 then some true else bindK (bif iNe x.1.2.1 3 then some (iGt (lenI x.1.2.2.2.2.2.1) 0) else some false) fun y12 =>
  some y12) fun y13 =>
  bif y13 then some (false, ()) else bindK (bif iEq x.1.2.1 4 then some true else some (iEq x.1.2.1 5)) fun y14 =>
  bif y14 then some (iLe (lenI x.1.2.2.2.2.2.2.1) 24, ()) else some (strEq x.1.2.2.2.2.2.2.1 (litS []), ())
abbrev ce161 : CE := .con true sg161 F161
theorem co161 : ConOK TT 161 sg161 F161 := con_fn (fn := fn161) (ces := [(83, ce83), (200, ce200)]) (ents1 en83 (ents1 en200 ents0)) hn161 pm161 (by kernel_rfl) rfl rfl (fun x => by kernel_rfl)
theorem en161 : EntOK TT 161 ce161 := ent_fz co161 (by kernel_rfl) rfl rfl rfl
/- spec.EventOk -/
def hn162 : Hints := [(1, KEvent, true), (4, KEvent, true), (21, (.sl 1 I), true), (30, (.sl 1 I), true), (37, (.sl 1 I), true), (43, (.sl 1 I), true), (51, (.sl 1 I), true), (64, (.sl 1 I), true), (70, (.sl 1 I), true)]
def pm162 : List Nat := [1]
abbrev sg162 : Sig := ⟨[.dat KEvent], [.bool]⟩
def F162 (x : TEvent × Unit) : Option (Bool × Unit) :=
  bindK (F161 x) fun y0 =>
  bindK (bif bNot y0.1 then some true else bindK (F83 (x.1.1, 1, 1000000, ())) fun y1 =>
  some (bNot y1.1)) fun y2 =>
  bindK (bif y2 then some true else bindK (F83 (x.1.2.2.2.2.2.2.2.2.1, 0, 1000000, ())) fun y3 =>
  some (bNot y3.1)) fun y4 =>
  bindK (bif y4 then some true else some (iGt (lenI x.1.2.2.2.2.2.2.2.1) 3)) fun y5 =>
  bindK (bif y5 then some true else some (bNe (iEq x.1.2.1 1) (iEq (lenI x.1.2.2.2.2.2.2.2.1) 0))) fun y6 =>
  bif y6 then some (false, ()) else loopF (fun rec7 (s8 : Int × Unit) =>
  bif iLt s8.1 (lenI x.1.2.2.2.2.2.2.2.1) then idxK x.1.2.2.2.2.2.2.2.1 s8.1 fun y9 =>
  bindK (F83 (y9, 1, 1000000, ())) fun y10 =>
  bindK (bif bNot y10.1 then some true else idxK x.1.2.2.2.2.2.2.2.1 s8.1 fun y11 =>
  some (iEq y11 x.1.1)) fun y12 =>
  bindK (bif y12 then some true else bindK (bif iGt s8.1 0 then idxK x.1.2.2.2.2.2.2.2.1 (iSub .i64 s8.1 1) fun y13 =>
  idxK x.1.2.2.2.2.2.2.2.1 s8.1 fun y14 =>
  some (iGe y13 y14) else some false) fun y15 =>
  some y15) fun y16 =>
  bif y16 then some (false, ()) else rec7 (iAdd .i64 s8.1 1, ()) else some (true, ())) NN (0, ())
abbrev ce162 : CE := .con true sg162 F162
theorem co162 : ConOK TT 162 sg162 F162 := con_fn (fn := fn162) (ces := [(83, ce83), (161, ce161)]) (ents1 en83 (ents1 en161 ents0)) hn162 pm162 (by kernel_rfl) rfl rfl (fun x => by kernel_rfl)
theorem en162 : EntOK TT 162 ce162 := ent_fz co162 (by kernel_rfl) rfl rfl rfl
/- spec.CommandOk -/
def hn84 : Hints := [(1, KCommand, true), (29, KEvent, true), (63, KEvent, true), (80, (.sl 1 I), true), (87, KEvent, true)]
def pm84 : List Nat := [1]
abbrev sg84 : Sig := ⟨[.dat KCommand], [.bool]⟩
def F84 (x : TCommand × Unit) : Option (Bool × Unit) :=
  bindK (F83 (x.1.1, 1, 5, ())) fun y0 =>
  bindK (bif bNot y0.1 then some true else bindK (F83 (x.1.2.1, 0, 1000000, ())) fun y1 =>
  some (bNot y1.1)) fun y2 =>
  bindK (bif y2 then some true else bindK (F83 (x.1.2.2.1, 0, 1000000, ())) fun y3 =>
  some (bNot y3.1)) fun y4 =>
  bif y4 then some (false, ()) else bindK (bif iNe x.1.1 2 then some (iNe x.1.1 3) else some false) fun y5 =>
  bindK (bif y5 then bindK (F160 ((x.1.2.2.2.1, x.1.2.2.2.2.1, x.1.2.2.2.2.2.1, x.1.2.2.2.2.2.2.1, x.1.2.2.2.2.2.2.2.1, x.1.2.2.2.2.2.2.2.2.1, x.1.2.2.2.2.2.2.2.2.2.1, x.1.2.2.2.2.2.2.2.2.2.2.1, x.1.2.2.2.2.2.2.2.2.2.2.2.1, ()), ())) fun y6 =>
  some (bNot y6.1) else some false) fun y7 =>
  bindK (bif y7 then some true else bindK (bif iNe x.1.1 4 then bindK (bif iNe x.1.2.2.2.2.2.2.2.2.2.2.2.2.1 0 then some true else some (iNe x.1.2.2.2.2.2.2.2.2.2.2.2.2.2.1 0)) fun y8 =>
  some y8 else some false) fun y9 =>
  some y9) fun y10 =>
  bif y10 then some (false, ()) else bif iEq x.1.1 1 then bindK (bif iEq x.1.2.1 0 then some (iEq x.1.2.2.1 0) else some false) fun y11 =>
  some (y11, ()) else bif iEq x.1.1 2 then bindK (F161 ((x.1.2.2.2.1, x.1.2.2.2.2.1, x.1.2.2.2.2.2.1, x.1.2.2.2.2.2.2.1, x.1.2.2.2.2.2.2.2.1, x.1.2.2.2.2.2.2.2.2.1, x.1.2.2.2.2.2.2.2.2.2.1, x.1.2.2.2.2.2.2.2.2.2.2.1, x.1.2.2.2.2.2.2.2.2.2.2.2.1, ()), ())) fun y12 =>
  bindK (bif y12.1 then some (iEq x.1.2.2.2.1 0) else some false) fun y13 =>
  bindK (bif y13 then some (iEq x.1.2.2.2.2.2.2.2.2.2.2.2.1 0) else some false) fun y14 =>
  bindK (bif y14 then some (iEq (lenI x.1.2.2.2.2.2.2.2.2.2.2.1) 0) else some false) fun y15 =>
  some (y15, ()) else bif iEq x.1.1 3 then bindK (F162 ((x.1.2.2.2.1, x.1.2.2.2.2.1, x.1.2.2.2.2.2.1, x.1.2.2.2.2.2.2.1, x.1.2.2.2.2.2.2.2.1, x.1.2.2.2.2.2.2.2.2.1, x.1.2.2.2.2.2.2.2.2.2.1, x.1.2.2.2.2.2.2.2.2.2.2.1, x.1.2.2.2.2.2.2.2.2.2.2.2.1, ()), ())) fun y16 =>
  bindK (bif y16.1 then guardK (gNz 2) <|
  some (iEq (iRem x.1.2.2.2.1 2) 1) else some false) fun y17 =>
  some (y17, ()) else bif iEq x.1.1 4 then bindK (F83 (x.1.2.2.2.2.2.2.2.2.2.2.2.2.1, 1, 2, ())) fun y18 =>
  bindK (bif y18.1 then bindK (F83 (x.1.2.2.2.2.2.2.2.2.2.2.2.2.2.1, 0, 1000000, ())) fun y19 =>
  some y19.1 else some false) fun y20 =>
  some (y20, ()) else some (true, ())
abbrev ce84 : CE := .con true sg84 F84
theorem co84 : ConOK TT 84 sg84 F84 := con_fn (fn := fn84) (ces := [(83, ce83), (160, ce160), (161, ce161), (162, ce162)]) (ents1 en83 (ents1 en160 (ents1 en161 (ents1 en162 ents0)))) hn84 pm84 (by kernel_rfl) rfl rfl (fun x => by kernel_rfl)
theorem en84 : EntOK TT 84 ce84 := ent_fz co84 (by kernel_rfl) rfl rfl rfl
/- spec.l05Rise -/
def hn117 : Hints := [(9, (.sl 1 I), true), (14, (.sl 1 I), true), (26, (.sl 1 I), true), (31, (.sl 1 I), true)]
def pm117 : List Nat := []
abbrev sg117 : Sig := ⟨[.dat (.sl 1 I), .dat I, .dat I], [.bool]⟩
def F117 (x : List Int × Int × Int × Unit) : Option (Bool × Unit) :=
  loopF (fun rec0 (s1 : Int × Unit) =>
  bif iLt s1.1 (lenI x.1) then idxK x.1 s1.1 fun y2 =>
  bindK (F83 (y2, x.2)) fun y3 =>
  bindK (bif bNot y3.1 then some true else bindK (bif iGt s1.1 0 then idxK x.1 (iSub .i64 s1.1 1) fun y4 =>
  idxK x.1 s1.1 fun y5 =>
  some (iGe y4 y5) else some false) fun y6 =>
  some y6) fun y7 =>
  bif y7 then some (false, ()) else rec0 (iAdd .i64 s1.1 1, ()) else some (true, ())) NN (0, ())
abbrev ce117 : CE := .con true sg117 F117
theorem co117 : ConOK TT 117 sg117 F117 := con_fn (fn := fn117) (ces := [(83, ce83)]) (ents1 en83 ents0) hn117 pm117 (by kernel_rfl) rfl rfl (fun x => by kernel_rfl)
theorem en117 : EntOK TT 117 ce117 := ent_fz co117 (by kernel_rfl) rfl rfl rfl
/- spec.ConfOk -/
def hn85 : Hints := [(3, (.sl 1 I), true), (7, (.sl 1 I), true)]
def pm85 : List Nat := []
abbrev sg85 : Sig := ⟨[.dat (.sl 1 I)], [.bool]⟩
def F85 (x : List Int × Unit) : Option (Bool × Unit) :=
  bindK (F83 (lenI x.1, 1, 4, ())) fun y0 =>
  bindK (bif y0.1 then bindK (F117 (x.1, 1, 4, ())) fun y1 =>
  some y1.1 else some false) fun y2 =>
  some (y2, ())
abbrev ce85 : CE := .con true sg85 F85
theorem co85 : ConOK TT 85 sg85 F85 := con_fn (fn := fn85) (ces := [(117, ce117), (83, ce83)]) (ents1 en117 (ents1 en83 ents0)) hn85 pm85 (by kernel_rfl) rfl rfl (fun x => by kernel_rfl)
theorem en85 : EntOK TT 85 ce85 := ent_fz co85 (by kernel_rfl) rfl rfl rfl
/- spec.HappenOk -/
def hn31 : Hints := [(3, KHappen, true), (28, (.sl 1 I), true), (43, KCommand, true), (54, (.sl 1 I), true), (58, (.sl 1 I), true), (60, (.sl 1 I), true)]
def pm31 : List Nat := [3]
abbrev sg31 : Sig := ⟨[.dat I, .dat KHappen], [.bool]⟩
def F31 (x : Int × THappen × Unit) : Option (Bool × Unit) :=
  bindK (F83 (x.1, 1, 4, ())) fun y0 =>
  bindK (bif bNot y0.1 then some true else bindK (F83 (x.2.1.1, 1, 11, ())) fun y1 =>
  some (bNot y1.1)) fun y2 =>
  bindK (bif y2 then some true else bindK (F83 (x.2.1.2.1, 1, x.1, ())) fun y3 =>
  some (bNot y3.1)) fun y4 =>
  bindK (bif y4 then some true else some (iLt x.2.1.2.2.1 0)) fun y5 =>
  bindK (bif y5 then some true else some (iGt (lenI x.2.1.2.2.2.2.2.2.2.2.2.2.2.2.2.2.2.2.2.2.2.2.2.1) 30)) fun y6 =>
  bif y6 then some (false, ()) else joinK (fun (s7 : Bool × Unit) =>
  bif s7.1 then bindK (F83 (x.2.1.2.2.2.1, 1, 20, ())) fun y8 =>
  some y8 else bif iEq x.2.1.1 5 then bindK (F84 ((x.2.1.2.2.2.2.1, x.2.1.2.2.2.2.2.1, x.2.1.2.2.2.2.2.2.1, x.2.1.2.2.2.2.2.2.2.1, x.2.1.2.2.2.2.2.2.2.2.1, x.2.1.2.2.2.2.2.2.2.2.2.1, x.2.1.2.2.2.2.2.2.2.2.2.2.1, x.2.1.2.2.2.2.2.2.2.2.2.2.2.1, x.2.1.2.2.2.2.2.2.2.2.2.2.2.2.1, x.2.1.2.2.2.2.2.2.2.2.2.2.2.2.2.1, x.2.1.2.2.2.2.2.2.2.2.2.2.2.2.2.2.1, x.2.1.2.2.2.2.2.2.2.2.2.2.2.2.2.2.2.1, x.2.1.2.2.2.2.2.2.2.2.2.2.2.2.2.2.2.2.1, x.2.1.2.2.2.2.2.2.2.2.2.2.2.2.2.2.2.2.2.1, ()), ())) fun y9 =>
  bindK (bif y9.1 then some (iNe x.2.1.2.2.2.2.1 4) else some false) fun y10 =>
  some (y10, ()) else bif iEq x.2.1.1 6 then bindK (F85 (x.2.1.2.2.2.2.2.2.2.2.2.2.2.2.2.2.2.2.2.2.1, ())) fun y11 =>
  bindK (bif y11.1 then idxK x.2.1.2.2.2.2.2.2.2.2.2.2.2.2.2.2.2.2.2.2.1 (iSub .i64 (lenI x.2.1.2.2.2.2.2.2.2.2.2.2.2.2.2.2.2.2.2.2.1) 1) fun y12 =>
  some (iLe y12 x.1) else some false) fun y13 =>
  some (y13, ()) else joinK (fun (s14 : Bool × Unit) =>
  bif s14.1 then bindK (F83 (x.2.1.2.2.2.2.2.2.2.2.2.2.2.2.2.2.2.2.2.2.2.2.2.2.1, 1, 2, ())) fun y15 =>
  some y15 else some (true, ())) fun k16 =>
  bif iEq x.2.1.1 10 then k16 (iEq x.2.1.1 10, ()) else k16 (iEq x.2.1.1 11, ())) fun k17 =>
  bif iEq x.2.1.1 1 then k17 (iEq x.2.1.1 1, ()) else k17 (iEq x.2.1.1 9, ())
abbrev ce31 : CE := .con true sg31 F31
theorem co31 : ConOK TT 31 sg31 F31 := con_fn (fn := fn31) (ces := [(83, ce83), (84, ce84), (85, ce85)]) (ents1 en83 (ents1 en84 (ents1 en85 ents0))) hn31 pm31 (by kernel_rfl) rfl rfl (fun x => by kernel_rfl)
theorem en31 : EntOK TT 31 ce31 := ent_fz co31 (by kernel_rfl) rfl rfl rfl
/- laws.toIntS -/
def hn51 : Hints := [(2, (.sl 1 I), true), (3, (.sl 1 I), true), (5, (.sl 1 I), true), (7, (.sl 1 I), true), (9, (.sl 1 I), true), (14, (.sl 1 I), true), (16, (.sl 1 I), true), (21, (.sl 1 I), true)]
def pm51 : List Nat := []
abbrev sg51 : Sig := ⟨[.dat (.sl 1 I)], [(.sl 1 I)]⟩
def F51 (x : List Int × Unit) : Option (List Int × Unit) :=
  guardK (gMk (lenI x.1) 1) <|
  loopF (fun rec0 (s1 : Int × List Int × Unit) =>
  bif iLt s1.1 (lenI x.1) then idxK x.1 s1.1 fun y2 =>
  idxK s1.2.1 s1.1 fun y3 =>
  rec0 (iAdd .i64 s1.1 1, setL s1.2.1 (toN s1.1) y2, ()) else some s1.2) NN (0, repL (toN (lenI x.1)) 0, ())
abbrev ce51 : CE := .con false sg51 F51
theorem co51 : ConOK TT 51 sg51 F51 := con_fn (fn := fn51) (ces := []) ents0 hn51 pm51 (by kernel_rfl) rfl rfl (fun x => by kernel_rfl)
theorem en51 : EntOK TT 51 ce51 := ent_sep co51 (by kernel_rfl) rfl
/- laws.toEvent -/
def hn163 : Hints := [(1, KEvent, true), (2, KEvent, true), (3, KEvent, true), (20, (.sl 1 I), true), (21, (.sl 1 I), true), (27, (.sl 1 I), true), (28, (.sl 1 I), true), (33, KEvent, true)]
def pm163 : List Nat := [1]
abbrev sg163 : Sig := ⟨[.dat KEvent], [KEvent]⟩
def F163 (x : TEvent × Unit) : Option (TEvent × Unit) :=
  bindK (F51 (x.1.2.2.2.2.2.1, ())) fun y0 =>
  bindK (F51 (x.1.2.2.2.2.2.2.2.1, ())) fun y1 =>
  some ((x.1.1, x.1.2.1, x.1.2.2.1, x.1.2.2.2.1, x.1.2.2.2.2.1, y0.1, x.1.2.2.2.2.2.2.1, y1.1, x.1.2.2.2.2.2.2.2.2), ())
abbrev ce163 : CE := .con false sg163 F163
theorem co163 : ConOK TT 163 sg163 F163 := con_fn (fn := fn163) (ces := [(51, ce51)]) (ents1 en51 ents0) hn163 pm163 (by kernel_rfl) rfl rfl (fun x => by kernel_rfl)
theorem en163 : EntOK TT 163 ce163 := ent_sep co163 (by kernel_rfl) rfl
/- laws.toCommand -/
def hn86 : Hints := [(1, KCommand, true), (2, KCommand, true), (3, KCommand, true), (14, KEvent, true), (15, KEvent, true), (23, KCommand, true)]
def pm86 : List Nat := [1]
abbrev sg86 : Sig := ⟨[.dat KCommand], [KCommand]⟩
def F86 (x : TCommand × Unit) : Option (TCommand × Unit) :=
  bindK (F163 ((x.1.2.2.2.1, x.1.2.2.2.2.1, x.1.2.2.2.2.2.1, x.1.2.2.2.2.2.2.1, x.1.2.2.2.2.2.2.2.1, x.1.2.2.2.2.2.2.2.2.1, x.1.2.2.2.2.2.2.2.2.2.1, x.1.2.2.2.2.2.2.2.2.2.2.1, x.1.2.2.2.2.2.2.2.2.2.2.2.1, ()), ())) fun y0 =>
  some ((x.1.1, x.1.2.1, x.1.2.2.1, y0.1.1, y0.1.2.1, y0.1.2.2.1, y0.1.2.2.2.1, y0.1.2.2.2.2.1, y0.1.2.2.2.2.2.1, y0.1.2.2.2.2.2.2.1, y0.1.2.2.2.2.2.2.2.1, y0.1.2.2.2.2.2.2.2.2.1, x.1.2.2.2.2.2.2.2.2.2.2.2.2), ())
abbrev ce86 : CE := .con false sg86 F86
theorem co86 : ConOK TT 86 sg86 F86 := con_fn (fn := fn86) (ces := [(163, ce163)]) (ents1 en163 ents0) hn86 pm86 (by kernel_rfl) rfl rfl (fun x => by kernel_rfl)
theorem en86 : EntOK TT 86 ce86 := ent_sep co86 (by kernel_rfl) rfl
/- laws.toHappen -/
def hn32 : Hints := [(1, KHappen, true), (2, KHappen, true), (3, KHappen, true), (17, KCommand, true), (18, KCommand, true), (21, (.sl 1 I), true), (22, (.sl 1 I), true), (31, (.sl 1 I), true), (32, (.sl 1 I), true), (37, KHappen, true)]
def pm32 : List Nat := [1]
abbrev sg32 : Sig := ⟨[.dat KHappen], [KHappen]⟩
def F32 (x : THappen × Unit) : Option (THappen × Unit) :=
  bindK (F86 ((x.1.2.2.2.2.1, x.1.2.2.2.2.2.1, x.1.2.2.2.2.2.2.1, x.1.2.2.2.2.2.2.2.1, x.1.2.2.2.2.2.2.2.2.1, x.1.2.2.2.2.2.2.2.2.2.1, x.1.2.2.2.2.2.2.2.2.2.2.1, x.1.2.2.2.2.2.2.2.2.2.2.2.1, x.1.2.2.2.2.2.2.2.2.2.2.2.2.1, x.1.2.2.2.2.2.2.2.2.2.2.2.2.2.1, x.1.2.2.2.2.2.2.2.2.2.2.2.2.2.2.1, x.1.2.2.2.2.2.2.2.2.2.2.2.2.2.2.2.1, x.1.2.2.2.2.2.2.2.2.2.2.2.2.2.2.2.2.1, x.1.2.2.2.2.2.2.2.2.2.2.2.2.2.2.2.2.2.1, ()), ())) fun y0 =>
  bindK (F51 (x.1.2.2.2.2.2.2.2.2.2.2.2.2.2.2.2.2.2.2.1, ())) fun y1 =>
  bindK (F51 (x.1.2.2.2.2.2.2.2.2.2.2.2.2.2.2.2.2.2.2.2.2.2.1, ())) fun y2 =>
  some ((x.1.1, x.1.2.1, x.1.2.2.1, x.1.2.2.2.1, y0.1.1, y0.1.2.1, y0.1.2.2.1, y0.1.2.2.2.1, y0.1.2.2.2.2.1, y0.1.2.2.2.2.2.1, y0.1.2.2.2.2.2.2.1, y0.1.2.2.2.2.2.2.2.1, y0.1.2.2.2.2.2.2.2.2.1, y0.1.2.2.2.2.2.2.2.2.2.1, y0.1.2.2.2.2.2.2.2.2.2.2.1, y0.1.2.2.2.2.2.2.2.2.2.2.2.1, y0.1.2.2.2.2.2.2.2.2.2.2.2.2.1, y0.1.2.2.2.2.2.2.2.2.2.2.2.2.2.1, y1.1, x.1.2.2.2.2.2.2.2.2.2.2.2.2.2.2.2.2.2.2.2.1, x.1.2.2.2.2.2.2.2.2.2.2.2.2.2.2.2.2.2.2.2.2.1, y2.1, x.1.2.2.2.2.2.2.2.2.2.2.2.2.2.2.2.2.2.2.2.2.2.2), ())
abbrev ce32 : CE := .con false sg32 F32
theorem co32 : ConOK TT 32 sg32 F32 := con_fn (fn := fn32) (ces := [(86, ce86), (51, ce51)]) (ents1 en86 (ents1 en51 ents0)) hn32 pm32 (by kernel_rfl) rfl rfl (fun x => by kernel_rfl)
theorem en32 : EntOK TT 32 ce32 := ent_sep co32 (by kernel_rfl) rfl
/- impl.within -/
def hn87 : Hints := []
def pm87 : List Nat := []
abbrev sg87 : Sig := ⟨[.dat I, .dat I, .dat I], [.bool]⟩
def F87 (x : Int × Int × Int × Unit) : Option (Bool × Unit) :=
  bindK (bif iGe x.1 x.2.1 then some (iLe x.1 x.2.2.1) else some false) fun y0 =>
  some (y0, ())
abbrev ce87 : CE := .con true sg87 F87
theorem co87 : ConOK TT 87 sg87 F87 := con_fn (fn := fn87) (ces := []) ents0 hn87 pm87 (by kernel_rfl) rfl rfl (fun x => by kernel_rfl)
theorem en87 : EntOK TT 87 ce87 := ent_fz co87 (by kernel_rfl) rfl rfl rfl
/- slices.Equal[[]int,int] -/
def hn177 : Hints := [(6, (.sl 1 I), true), (8, (.sl 1 I), true), (11, (.sl 1 I), true), (16, (.sl 1 I), true), (20, (.sl 1 I), true)]
def pm177 : List Nat := []
abbrev sg177 : Sig := ⟨[.dat (.sl 1 I), .dat (.sl 1 I)], [.bool]⟩
def F177 (x : List Int × List Int × Unit) : Option (Bool × Unit) :=
  bif iNe (lenI x.1) (lenI x.2.1) then some (false, ()) else loopF (fun rec0 (s1 : Int × Unit) =>
  bif iLt s1.1 (lenI x.1) then idxK x.1 s1.1 fun y2 =>
  idxK x.2.1 s1.1 fun y3 =>
  bif iNe y2 y3 then some (false, ()) else rec0 (iAdd .i64 s1.1 1, ()) else some (true, ())) NN (0, ())
abbrev ce177 : CE := .con true sg177 F177
theorem co177 : ConOK TT 177 sg177 F177 := con_fn (fn := fn177) (ces := []) ents0 hn177 pm177 (by kernel_rfl) rfl rfl (fun x => by kernel_rfl)
theorem en177 : EntOK TT 177 ce177 := ent_fz co177 (by kernel_rfl) rfl rfl rfl
/- impl.sameEvent -/
def hn164 : Hints := [(2, KEvent, true), (3, KEvent, true), (40, (.sl 1 I), true), (42, (.sl 1 I), true), (54, (.sl 1 I), true), (56, (.sl 1 I), true)]
def pm164 : List Nat := [2, 3]
abbrev sg164 : Sig := ⟨[.dat KEvent, .dat KEvent], [.bool]⟩
def F164 (x : TEvent × TEvent × Unit) : Option (Bool × Unit) :=
  bindK (bif iEq x.1.1 x.2.1.1 then some (iEq x.1.2.1 x.2.1.2.1) else some false) fun y0 =>
  bindK (bif y0 then some (iEq x.1.2.2.1 x.2.1.2.2.1) else some false) fun y1 =>
  bindK (bif y1 then some (iEq x.1.2.2.2.1 x.2.1.2.2.2.1) else some false) fun y2 =>
  bindK (bif y2 then some (iEq x.1.2.2.2.2.1 x.2.1.2.2.2.2.1) else some false) fun y3 =>
  bindK (bif y3 then bindK (F177 (x.1.2.2.2.2.2.1, x.2.1.2.2.2.2.2.1, ())) fun y4 =>
  some y4.1 else some false) fun y5 =>
  bindK (bif y5 then some (strEq x.1.2.2.2.2.2.2.1 x.2.1.2.2.2.2.2.2.1) else some false) fun y6 =>
  bindK (bif y6 then bindK (F177 (x.1.2.2.2.2.2.2.2.1, x.2.1.2.2.2.2.2.2.2.1, ())) fun y7 =>
  some y7.1 else some false) fun y8 =>
  bindK (bif y8 then some (iEq x.1.2.2.2.2.2.2.2.2.1 x.2.1.2.2.2.2.2.2.2.2.1) else some false) fun y9 =>
  some (y9, ())
abbrev ce164 : CE := .con true sg164 F164
theorem co164 : ConOK TT 164 sg164 F164 := con_fn (fn := fn164) (ces := [(177, ce177)]) (ents1 en177 ents0) hn164 pm164 (by kernel_rfl) rfl rfl (fun x => by kernel_rfl)
theorem en164 : EntOK TT 164 ce164 := ent_fz co164 (by kernel_rfl) rfl rfl rfl
/- impl.prevOk -/
def hn202 : Hints := [(1, KEvent, true), (6, (.sl 1 I), true), (27, (.sl 1 I), true), (38, (.sl 1 I), true), (46, (.sl 1 I), true)]
def pm202 : List Nat := [1]
abbrev sg202 : Sig := ⟨[.dat KEvent], [.bool]⟩
def F202 (x : TEvent × Unit) : Option (Bool × Unit) :=
  loopF (fun rec0 (s1 : Int × Unit) =>
  bif iLt s1.1 (lenI x.1.2.2.2.2.2.2.2.1) then idxK x.1.2.2.2.2.2.2.2.1 s1.1 fun y2 =>
  bindK (F87 (y2, 1, 1000000, ())) fun y3 =>
  bindK (bif bNot y3.1 then some true else some (iEq y2 x.1.1)) fun y4 =>
  bindK (bif y4 then some true else bindK (bif iGt s1.1 0 then idxK x.1.2.2.2.2.2.2.2.1 (iSub .i64 s1.1 1) fun y5 =>
  some (iGe y5 y2) else some false) fun y6 =>
  some y6) fun y7 =>
  bif y7 then some (false, ()) else rec0 (iAdd .i64 s1.1 1, ()) else bindK (bif iLe (lenI x.1.2.2.2.2.2.2.2.1) 3 then some (bEq (iEq x.1.2.1 1) (iEq (lenI x.1.2.2.2.2.2.2.2.1) 0)) else some false) fun y8 =>
  some (y8, ())) NN (0, ())
abbrev ce202 : CE := .con true sg202 F202
theorem co202 : ConOK TT 202 sg202 F202 := con_fn (fn := fn202) (ces := [(87, ce87)]) (ents1 en87 ents0) hn202 pm202 (by kernel_rfl) rfl rfl (fun x => by kernel_rfl)
theorem en202 : EntOK TT 202 ce202 := ent_fz co202 (by kernel_rfl) rfl rfl rfl
/- impl.levelsOk -/
def hn201 : Hints := [(1, KEvent, true), (9, (.sl 1 I), true), (13, (.sl 1 I), true), (24, (.sl 1 I), true)]
def pm201 : List Nat := [1]
abbrev sg201 : Sig := ⟨[.dat KEvent], [.bool]⟩
def F201 (x : TEvent × Unit) : Option (Bool × Unit) :=
  bif iNe x.1.2.1 3 then some (iEq (lenI x.1.2.2.2.2.2.1) 0, ()) else loopF (fun rec0 (s1 : Int × Unit) =>
  bif iLt s1.1 (lenI x.1.2.2.2.2.2.1) then idxK x.1.2.2.2.2.2.1 s1.1 fun y2 =>
  bindK (F87 (y2, 0, 100, ())) fun y3 =>
  bif bNot y3.1 then some (false, ()) else rec0 (iAdd .i64 s1.1 1, ()) else some (iEq (lenI x.1.2.2.2.2.2.1) 5, ())) NN (0, ())
abbrev ce201 : CE := .con true sg201 F201
theorem co201 : ConOK TT 201 sg201 F201 := con_fn (fn := fn201) (ces := [(87, ce87)]) (ents1 en87 ents0) hn201 pm201 (by kernel_rfl) rfl rfl (fun x => by kernel_rfl)
theorem en201 : EntOK TT 201 ce201 := ent_fz co201 (by kernel_rfl) rfl rfl rfl
/- impl.EventOk -/
def hn166 : Hints := [(1, KEvent, true), (27, KEvent, true), (32, KEvent, true)]
def pm166 : List Nat := [1]
abbrev sg166 : Sig := ⟨[.dat KEvent], [.bool]⟩
def F166 (x : TEvent × Unit) : Option (Bool × Unit) :=
  bindK (F87 (x.1.1, 1, 1000000, ())) fun y0 =>
  bindK (bif bNot y0.1 then some true else bindK (F87 (x.1.2.1, 1, 5, ())) fun y1 =>
  some (bNot y1.1)) fun y2 =>
  bindK (bif y2 then some true else bindK (F87 (x.1.2.2.1, 1, 5, ())) fun y3 =>
  some (bNot y3.1)) fun y4 =>
  bindK (bif y4 then some true else bindK (F87 (x.1.2.2.2.2.2.2.2.2.1, 0, 1000000, ())) fun y5 =>
  some (bNot y5.1)) fun y6 =>
  bindK (bif y6 then some true else bindK (F201 x) fun y7 =>
  some (bNot y7.1)) fun y8 =>
  bindK (bif y8 then some true else bindK (F202 x) fun y9 =>
  some (bNot y9.1)) fun y10 =>
  bif y10 then some (false, ()) else bif iEq x.1.2.1 2 then bindK (F87 (x.1.2.2.2.1, 1, 5, ())) fun y11 =>
  bindK (bif y11.1 then bindK (F87 (x.1.2.2.2.2.1, 0, 3, ())) fun y12 =>
  some y12.1 else some false) fun y13 =>
  bindK (bif y13 then some (strEq x.1.2.2.2.2.2.2.1 (litS [])) else some false) fun y14 =>
  some (y14, ()) else bindK (bif iEq x.1.2.1 4 then some true else some (iEq x.1.2.1 5)) fun y15 =>
  bindK (bif iEq x.1.2.2.2.1 0 then some (iEq x.1.2.2.2.2.1 0) else some false) fun y16 =>
  bindK (bif y16 then some (iLe (lenI x.1.2.2.2.2.2.2.1) 24) else some false) fun y17 =>
  bindK (bif y17 then bindK (bif y15 then some true else some (strEq x.1.2.2.2.2.2.2.1 (litS []))) fun y18 =>
  some y18 else some false) fun y19 =>
  some (y19, ())
abbrev ce166 : CE := .con true sg166 F166
theorem co166 : ConOK TT 166 sg166 F166 := con_fn (fn := fn166) (ces := [(202, ce202), (201, ce201), (87, ce87)]) (ents1 en202 (ents1 en201 (ents1 en87 ents0))) hn166 pm166 (by kernel_rfl) rfl rfl (fun x => by kernel_rfl)
theorem en166 : EntOK TT 166 ce166 := ent_fz co166 (by kernel_rfl) rfl rfl rfl
/- impl.sentOk -/
def hn165 : Hints := [(1, KEvent, false), (13, (.sl 1 I), true), (21, (.sl 1 I), true), (23, KEvent, true)]
def pm165 : List Nat := []
abbrev sg165 : Sig := ⟨[.dat KEvent], [.bool]⟩
def F165 (x : TEvent × Unit) : Option (Bool × Unit) :=
  bindK (bif iNe x.1.1 0 then some true else some (iNe x.1.2.2.2.2.2.2.2.2.1 0)) fun y0 =>
  bindK (bif y0 then some true else some (iGt (lenI x.1.2.2.2.2.2.2.2.1) 0)) fun y1 =>
  bif y1 then some (false, ()) else joinK (fun (s2 : TEvent × Unit) =>
  bindK (F166 s2) fun y3 =>
  some y3) fun k4 =>
  bif iNe x.1.2.1 1 then k4 ((2, x.1.2.1, x.1.2.2.1, x.1.2.2.2.1, x.1.2.2.2.2.1, x.1.2.2.2.2.2.1, x.1.2.2.2.2.2.2.1, [1], x.1.2.2.2.2.2.2.2.2), ()) else k4 ((2, x.1.2), ())
abbrev ce165 : CE := .con true sg165 F165
theorem co165 : ConOK TT 165 sg165 F165 := con_fn (fn := fn165) (ces := [(166, ce166)]) (ents1 en166 ents0) hn165 pm165 (by kernel_rfl) rfl rfl (fun x => by kernel_rfl)
theorem en165 : EntOK TT 165 ce165 := ent_fz co165 (by kernel_rfl) rfl rfl rfl
/- impl.CommandOk -/
def hn88 : Hints := [(1, KCommand, true), (6, KEvent, true), (7, KEvent, true), (50, KEvent, true), (58, KEvent, true)]
def pm88 : List Nat := [1]
abbrev sg88 : Sig := ⟨[.dat KCommand], [.bool]⟩
def F88 (x : TCommand × Unit) : Option (Bool × Unit) :=
  bindK (F164 ((x.1.2.2.2.1, x.1.2.2.2.2.1, x.1.2.2.2.2.2.1, x.1.2.2.2.2.2.2.1, x.1.2.2.2.2.2.2.2.1, x.1.2.2.2.2.2.2.2.2.1, x.1.2.2.2.2.2.2.2.2.2.1, x.1.2.2.2.2.2.2.2.2.2.2.1, x.1.2.2.2.2.2.2.2.2.2.2.2.1, ()), (0, 0, 0, 0, 0, [], litS [], [], 0, ()), ())) fun y0 =>
  bindK (bif iEq x.1.2.2.2.2.2.2.2.2.2.2.2.2.1 0 then some (iEq x.1.2.2.2.2.2.2.2.2.2.2.2.2.2.1 0) else some false) fun y1 =>
  bindK (F87 (x.1.2.1, 0, 1000000, ())) fun y2 =>
  bindK (bif bNot y2.1 then some true else bindK (F87 (x.1.2.2.1, 0, 1000000, ())) fun y3 =>
  some (bNot y3.1)) fun y4 =>
  bif y4 then some (false, ()) else bif iEq x.1.1 1 then bindK (bif y0.1 then some y1 else some false) fun y5 =>
  bindK (bif y5 then some (iEq x.1.2.1 0) else some false) fun y6 =>
  bindK (bif y6 then some (iEq x.1.2.2.1 0) else some false) fun y7 =>
  some (y7, ()) else bif iEq x.1.1 2 then bindK (bif y1 then bindK (F165 ((x.1.2.2.2.1, x.1.2.2.2.2.1, x.1.2.2.2.2.2.1, x.1.2.2.2.2.2.2.1, x.1.2.2.2.2.2.2.2.1, x.1.2.2.2.2.2.2.2.2.1, x.1.2.2.2.2.2.2.2.2.2.1, x.1.2.2.2.2.2.2.2.2.2.2.1, x.1.2.2.2.2.2.2.2.2.2.2.2.1, ()), ())) fun y8 =>
  some y8.1 else some false) fun y9 =>
  some (y9, ()) else bif iEq x.1.1 3 then bindK (bif y1 then bindK (F166 ((x.1.2.2.2.1, x.1.2.2.2.2.1, x.1.2.2.2.2.2.1, x.1.2.2.2.2.2.2.1, x.1.2.2.2.2.2.2.2.1, x.1.2.2.2.2.2.2.2.2.1, x.1.2.2.2.2.2.2.2.2.2.1, x.1.2.2.2.2.2.2.2.2.2.2.1, x.1.2.2.2.2.2.2.2.2.2.2.2.1, ()), ())) fun y10 =>
  some y10.1 else some false) fun y11 =>
  bindK (bif y11 then guardK (gNz 2) <|
  some (iEq (iRem x.1.2.2.2.1 2) 1) else some false) fun y12 =>
  some (y12, ()) else bif iEq x.1.1 4 then bindK (bif y0.1 then bindK (F87 (x.1.2.2.2.2.2.2.2.2.2.2.2.2.1, 1, 2, ())) fun y13 =>
  some y13.1 else some false) fun y14 =>
  bindK (bif y14 then bindK (F87 (x.1.2.2.2.2.2.2.2.2.2.2.2.2.2.1, 0, 1000000, ())) fun y15 =>
  some y15.1 else some false) fun y16 =>
  some (y16, ()) else bif iEq x.1.1 5 then bindK (bif y0.1 then some y1 else some false) fun y17 =>
  some (y17, ()) else some (false, ())
abbrev ce88 : CE := .con true sg88 F88
theorem co88 : ConOK TT 88 sg88 F88 := con_fn (fn := fn88) (ces := [(164, ce164), (87, ce87), (165, ce165), (166, ce166)]) (ents1 en164 (ents1 en87 (ents1 en165 (ents1 en166 ents0)))) hn88 pm88 (by kernel_rfl) rfl rfl (fun x => by kernel_rfl)
theorem en88 : EntOK TT 88 ce88 := ent_fz co88 (by kernel_rfl) rfl rfl rfl
/- impl.ConfOk -/
def hn89 : Hints := [(5, (.sl 1 I), true), (19, (.sl 1 I), true), (29, (.sl 1 I), true)]
def pm89 : List Nat := []
abbrev sg89 : Sig := ⟨[.dat (.sl 1 I)], [.bool]⟩
def F89 (x : List Int × Unit) : Option (Bool × Unit) :=
  loopF (fun rec0 (s1 : Int × Unit) =>
  bif iLt s1.1 (lenI x.1) then idxK x.1 s1.1 fun y2 =>
  bindK (F87 (y2, 1, 4, ())) fun y3 =>
  bindK (bif bNot y3.1 then some true else bindK (bif iGt s1.1 0 then idxK x.1 (iSub .i64 s1.1 1) fun y4 =>
  some (iGe y4 y2) else some false) fun y5 =>
  some y5) fun y6 =>
  bif y6 then some (false, ()) else rec0 (iAdd .i64 s1.1 1, ()) else bindK (F87 (lenI x.1, 1, 4, ())) fun y7 =>
  some y7) NN (0, ())
abbrev ce89 : CE := .con true sg89 F89
theorem co89 : ConOK TT 89 sg89 F89 := con_fn (fn := fn89) (ces := [(87, ce87)]) (ents1 en87 ents0) hn89 pm89 (by kernel_rfl) rfl rfl (fun x => by kernel_rfl)
theorem en89 : EntOK TT 89 ce89 := ent_fz co89 (by kernel_rfl) rfl rfl rfl
/- impl.HappenOk -/
def hn33 : Hints := [(3, KHappen, true), (28, (.sl 1 I), true), (43, KCommand, true), (54, (.sl 1 I), true), (58, (.sl 1 I), true), (60, (.sl 1 I), true)]
def pm33 : List Nat := [3]
abbrev sg33 : Sig := ⟨[.dat I, .dat KHappen], [.bool]⟩
def F33 (x : Int × THappen × Unit) : Option (Bool × Unit) :=
  bindK (F87 (x.1, 1, 4, ())) fun y0 =>
  bindK (bif bNot y0.1 then some true else bindK (F87 (x.2.1.1, 1, 11, ())) fun y1 =>
  some (bNot y1.1)) fun y2 =>
  bindK (bif y2 then some true else bindK (F87 (x.2.1.2.1, 1, x.1, ())) fun y3 =>
  some (bNot y3.1)) fun y4 =>
  bindK (bif y4 then some true else some (iLt x.2.1.2.2.1 0)) fun y5 =>
  bindK (bif y5 then some true else some (iGt (lenI x.2.1.2.2.2.2.2.2.2.2.2.2.2.2.2.2.2.2.2.2.2.2.2.1) 30)) fun y6 =>
  bif y6 then some (false, ()) else joinK (fun (s7 : Bool × Unit) =>
  bif s7.1 then bindK (F87 (x.2.1.2.2.2.1, 1, 20, ())) fun y8 =>
  some y8 else bif iEq x.2.1.1 5 then bindK (F88 ((x.2.1.2.2.2.2.1, x.2.1.2.2.2.2.2.1, x.2.1.2.2.2.2.2.2.1, x.2.1.2.2.2.2.2.2.2.1, x.2.1.2.2.2.2.2.2.2.2.1, x.2.1.2.2.2.2.2.2.2.2.2.1, x.2.1.2.2.2.2.2.2.2.2.2.2.1, x.2.1.2.2.2.2.2.2.2.2.2.2.2.1, x.2.1.2.2.2.2.2.2.2.2.2.2.2.2.1, x.2.1.2.2.2.2.2.2.2.2.2.2.2.2.2.1, x.2.1.2.2.2.2.2.2.2.2.2.2.2.2.2.2.1, x.2.1.2.2.2.2.2.2.2.2.2.2.2.2.2.2.2.1, x.2.1.2.2.2.2.2.2.2.2.2.2.2.2.2.2.2.2.1, x.2.1.2.2.2.2.2.2.2.2.2.2.2.2.2.2.2.2.2.1, ()), ())) fun y9 =>
  bindK (bif y9.1 then some (iNe x.2.1.2.2.2.2.1 4) else some false) fun y10 =>
  some (y10, ()) else bif iEq x.2.1.1 6 then bindK (F89 (x.2.1.2.2.2.2.2.2.2.2.2.2.2.2.2.2.2.2.2.2.1, ())) fun y11 =>
  bindK (bif y11.1 then idxK x.2.1.2.2.2.2.2.2.2.2.2.2.2.2.2.2.2.2.2.2.1 (iSub .i64 (lenI x.2.1.2.2.2.2.2.2.2.2.2.2.2.2.2.2.2.2.2.2.1) 1) fun y12 =>
  some (iLe y12 x.1) else some false) fun y13 =>
  some (y13, ()) else joinK (fun (s14 : Bool × Unit) =>
  bif s14.1 then bindK (F87 (x.2.1.2.2.2.2.2.2.2.2.2.2.2.2.2.2.2.2.2.2.2.2.2.2.1, 1, 2, ())) fun y15 =>
  some y15 else some (true, ())) fun k16 =>
  bif iEq x.2.1.1 10 then k16 (iEq x.2.1.1 10, ()) else k16 (iEq x.2.1.1 11, ())) fun k17 =>
  bif iEq x.2.1.1 1 then k17 (iEq x.2.1.1 1, ()) else k17 (iEq x.2.1.1 9, ())
abbrev ce33 : CE := .con true sg33 F33
theorem co33 : ConOK TT 33 sg33 F33 := con_fn (fn := fn33) (ces := [(87, ce87), (88, ce88), (89, ce89)]) (ents1 en87 (ents1 en88 (ents1 en89 ents0))) hn33 pm33 (by kernel_rfl) rfl rfl (fun x => by kernel_rfl)
theorem en33 : EntOK TT 33 ce33 := ent_fz co33 (by kernel_rfl) rfl rfl rfl
/- laws.eqIntS -/
def hn52 : Hints := [(6, (.sl 1 I), true), (8, (.sl 1 I), true), (12, (.sl 1 I), true), (17, (.sl 1 I), true), (21, (.sl 1 I), true)]
def pm52 : List Nat := []
abbrev sg52 : Sig := ⟨[.dat (.sl 1 I), .dat (.sl 1 I)], [.bool]⟩
def F52 (x : List Int × List Int × Unit) : Option (Bool × Unit) :=
  bif iNe (lenI x.1) (lenI x.2.1) then some (false, ()) else loopF (fun rec0 (s1 : Int × Unit) =>
  bif iLt s1.1 (lenI x.1) then idxK x.1 s1.1 fun y2 =>
  idxK x.2.1 s1.1 fun y3 =>
  bif iNe y2 y3 then some (false, ()) else rec0 (iAdd .i64 s1.1 1, ()) else some (true, ())) NN (0, ())
abbrev ce52 : CE := .con true sg52 F52
theorem co52 : ConOK TT 52 sg52 F52 := con_fn (fn := fn52) (ces := []) ents0 hn52 pm52 (by kernel_rfl) rfl rfl (fun x => by kernel_rfl)
theorem en52 : EntOK TT 52 ce52 := ent_fz co52 (by kernel_rfl) rfl rfl rfl
/- laws.eqEvent -/
def hn167 : Hints := [(2, KEvent, true), (3, KEvent, true), (31, (.sl 1 I), true), (33, (.sl 1 I), true), (42, (.sl 1 I), true), (44, (.sl 1 I), true)]
def pm167 : List Nat := [2, 3]
abbrev sg167 : Sig := ⟨[.dat KEvent, .dat KEvent], [.bool]⟩
def F167 (x : TEvent × TEvent × Unit) : Option (Bool × Unit) :=
  bif iNe x.1.1 x.2.1.1 then some (false, ()) else bif iNe x.1.2.1 x.2.1.2.1 then some (false, ()) else bif iNe x.1.2.2.1 x.2.1.2.2.1 then some (false, ()) else bif iNe x.1.2.2.2.1 x.2.1.2.2.2.1 then some (false, ()) else bif iNe x.1.2.2.2.2.1 x.2.1.2.2.2.2.1 then some (false, ()) else bindK (F52 (x.1.2.2.2.2.2.1, x.2.1.2.2.2.2.2.1, ())) fun y0 =>
  bif bNot y0.1 then some (false, ()) else bif bNot (strEq x.1.2.2.2.2.2.2.1 x.2.1.2.2.2.2.2.2.1) then some (false, ()) else bindK (F52 (x.1.2.2.2.2.2.2.2.1, x.2.1.2.2.2.2.2.2.2.1, ())) fun y1 =>
  bif bNot y1.1 then some (false, ()) else bif iNe x.1.2.2.2.2.2.2.2.2.1 x.2.1.2.2.2.2.2.2.2.2.1 then some (false, ()) else some (true, ())
abbrev ce167 : CE := .con true sg167 F167
theorem co167 : ConOK TT 167 sg167 F167 := con_fn (fn := fn167) (ces := [(52, ce52)]) (ents1 en52 ents0) hn167 pm167 (by kernel_rfl) rfl rfl (fun x => by kernel_rfl)
theorem en167 : EntOK TT 167 ce167 := ent_fz co167 (by kernel_rfl) rfl rfl rfl
/- laws.eqCommand -/
def hn90 : Hints := [(2, KCommand, true), (3, KCommand, true), (21, KEvent, true), (23, KEvent, true)]
def pm90 : List Nat := [2, 3]
abbrev sg90 : Sig := ⟨[.dat KCommand, .dat KCommand], [.bool]⟩
def F90 (x : TCommand × TCommand × Unit) : Option (Bool × Unit) :=
  bif iNe x.1.1 x.2.1.1 then some (false, ()) else bif iNe x.1.2.1 x.2.1.2.1 then some (false, ()) else bif iNe x.1.2.2.1 x.2.1.2.2.1 then some (false, ()) else bindK (F167 ((x.1.2.2.2.1, x.1.2.2.2.2.1, x.1.2.2.2.2.2.1, x.1.2.2.2.2.2.2.1, x.1.2.2.2.2.2.2.2.1, x.1.2.2.2.2.2.2.2.2.1, x.1.2.2.2.2.2.2.2.2.2.1, x.1.2.2.2.2.2.2.2.2.2.2.1, x.1.2.2.2.2.2.2.2.2.2.2.2.1, ()), (x.2.1.2.2.2.1, x.2.1.2.2.2.2.1, x.2.1.2.2.2.2.2.1, x.2.1.2.2.2.2.2.2.1, x.2.1.2.2.2.2.2.2.2.1, x.2.1.2.2.2.2.2.2.2.2.1, x.2.1.2.2.2.2.2.2.2.2.2.1, x.2.1.2.2.2.2.2.2.2.2.2.2.1, x.2.1.2.2.2.2.2.2.2.2.2.2.2.1, ()), ())) fun y0 =>
  bif bNot y0.1 then some (false, ()) else bif iNe x.1.2.2.2.2.2.2.2.2.2.2.2.2.1 x.2.1.2.2.2.2.2.2.2.2.2.2.2.2.1 then some (false, ()) else bif iNe x.1.2.2.2.2.2.2.2.2.2.2.2.2.2.1 x.2.1.2.2.2.2.2.2.2.2.2.2.2.2.2.1 then some (false, ()) else some (true, ())
abbrev ce90 : CE := .con true sg90 F90
theorem co90 : ConOK TT 90 sg90 F90 := con_fn (fn := fn90) (ces := [(167, ce167)]) (ents1 en167 ents0) hn90 pm90 (by kernel_rfl) rfl rfl (fun x => by kernel_rfl)
theorem en90 : EntOK TT 90 ce90 := ent_fz co90 (by kernel_rfl) rfl rfl rfl
/- laws.eqHappen -/
def hn34 : Hints := [(2, KHappen, true), (3, KHappen, true), (26, KCommand, true), (28, KCommand, true), (32, (.sl 1 I), true), (34, (.sl 1 I), true), (48, (.sl 1 I), true), (50, (.sl 1 I), true)]
def pm34 : List Nat := [2, 3]
abbrev sg34 : Sig := ⟨[.dat KHappen, .dat KHappen], [.bool]⟩
def F34 (x : THappen × THappen × Unit) : Option (Bool × Unit) :=
  bif iNe x.1.1 x.2.1.1 then some (false, ()) else bif iNe x.1.2.1 x.2.1.2.1 then some (false, ()) else bif iNe x.1.2.2.1 x.2.1.2.2.1 then some (false, ()) else bif iNe x.1.2.2.2.1 x.2.1.2.2.2.1 then some (false, ()) else bindK (F90 ((x.1.2.2.2.2.1, x.1.2.2.2.2.2.1, x.1.2.2.2.2.2.2.1, x.1.2.2.2.2.2.2.2.1, x.1.2.2.2.2.2.2.2.2.1, x.1.2.2.2.2.2.2.2.2.2.1, x.1.2.2.2.2.2.2.2.2.2.2.1, x.1.2.2.2.2.2.2.2.2.2.2.2.1, x.1.2.2.2.2.2.2.2.2.2.2.2.2.1, x.1.2.2.2.2.2.2.2.2.2.2.2.2.2.1, x.1.2.2.2.2.2.2.2.2.2.2.2.2.2.2.1, x.1.2.2.2.2.2.2.2.2.2.2.2.2.2.2.2.1, x.1.2.2.2.2.2.2.2.2.2.2.2.2.2.2.2.2.1, x.1.2.2.2.2.2.2.2.2.2.2.2.2.2.2.2.2.2.1, ()), (x.2.1.2.2.2.2.1, x.2.1.2.2.2.2.2.1, x.2.1.2.2.2.2.2.2.1, x.2.1.2.2.2.2.2.2.2.1, x.2.1.2.2.2.2.2.2.2.2.1, x.2.1.2.2.2.2.2.2.2.2.2.1, x.2.1.2.2.2.2.2.2.2.2.2.2.1, x.2.1.2.2.2.2.2.2.2.2.2.2.2.1, x.2.1.2.2.2.2.2.2.2.2.2.2.2.2.1, x.2.1.2.2.2.2.2.2.2.2.2.2.2.2.2.1, x.2.1.2.2.2.2.2.2.2.2.2.2.2.2.2.2.1, x.2.1.2.2.2.2.2.2.2.2.2.2.2.2.2.2.2.1, x.2.1.2.2.2.2.2.2.2.2.2.2.2.2.2.2.2.2.1, x.2.1.2.2.2.2.2.2.2.2.2.2.2.2.2.2.2.2.2.1, ()), ())) fun y0 =>
  bif bNot y0.1 then some (false, ()) else bindK (F52 (x.1.2.2.2.2.2.2.2.2.2.2.2.2.2.2.2.2.2.2.1, x.2.1.2.2.2.2.2.2.2.2.2.2.2.2.2.2.2.2.2.2.1, ())) fun y1 =>
  bif bNot y1.1 then some (false, ()) else bif bNe x.1.2.2.2.2.2.2.2.2.2.2.2.2.2.2.2.2.2.2.2.1 x.2.1.2.2.2.2.2.2.2.2.2.2.2.2.2.2.2.2.2.2.2.1 then some (false, ()) else bif iNe x.1.2.2.2.2.2.2.2.2.2.2.2.2.2.2.2.2.2.2.2.2.1 x.2.1.2.2.2.2.2.2.2.2.2.2.2.2.2.2.2.2.2.2.2.2.1 then some (false, ()) else bindK (F52 (x.1.2.2.2.2.2.2.2.2.2.2.2.2.2.2.2.2.2.2.2.2.2.1, x.2.1.2.2.2.2.2.2.2.2.2.2.2.2.2.2.2.2.2.2.2.2.2.1, ())) fun y2 =>
  bif bNot y2.1 then some (false, ()) else bif iNe x.1.2.2.2.2.2.2.2.2.2.2.2.2.2.2.2.2.2.2.2.2.2.2.1 x.2.1.2.2.2.2.2.2.2.2.2.2.2.2.2.2.2.2.2.2.2.2.2.2.1 then some (false, ()) else some (true, ())
abbrev ce34 : CE := .con true sg34 F34
theorem co34 : ConOK TT 34 sg34 F34 := con_fn (fn := fn34) (ces := [(90, ce90), (52, ce52)]) (ents1 en90 (ents1 en52 ents0)) hn34 pm34 (by kernel_rfl) rfl rfl (fun x => by kernel_rfl)
theorem en34 : EntOK TT 34 ce34 := ent_fz co34 (by kernel_rfl) rfl rfl rfl
/- laws.FnExactHappenOk -/
def hn6 : Hints := [(3, KHappen, true), (7, KHappen, true), (9, KHappen, true), (15, KHappen, true), (16, KHappen, true), (18, KHappen, true), (19, KHappen, true), (21, KHappen, true), (26, KHappen, true), (27, KHappen, true), (28, KHappen, true)]
def pm6 : List Nat := [3, 7]
abbrev sg6 : Sig := ⟨[.dat I, .dat KHappen], [.bool]⟩
def F6 (x : Int × THappen × Unit) : Option (Bool × Unit) :=
  bindK (F30 (x.2.1, 1048576, ())) fun y0 =>
  bif iLt y0.1 0 then some (true, ()) else bindK (F32 x.2) fun y1 =>
  bindK (F31 (x.1, y1)) fun y2 =>
  bindK (F32 x.2) fun y3 =>
  bindK (F33 (x.1, y3)) fun y4 =>
  bif bNe y4.1 y2.1 then some (false, ()) else bindK (F32 x.2) fun y5 =>
  bindK (F34 (y3.1, y5)) fun y6 =>
  bif bNot y6.1 then some (false, ()) else some (true, ())
abbrev ce6 : CE := .con true sg6 F6
theorem co6 : ConOK TT 6 sg6 F6 := con_fn (fn := fn6) (ces := [(30, ce30), (31, ce31), (32, ce32), (33, ce33), (34, ce34)]) (ents1 en30 (ents1 en31 (ents1 en32 (ents1 en33 (ents1 en34 ents0))))) hn6 pm6 (by kernel_rfl) rfl rfl (fun x => by kernel_rfl)
theorem en6 : EntOK TT 6 ce6 := ent_fz co6 (by kernel_rfl) rfl rfl rfl
end
end Go.Proofs.Ytiamdibpgdkedaa.Ha
