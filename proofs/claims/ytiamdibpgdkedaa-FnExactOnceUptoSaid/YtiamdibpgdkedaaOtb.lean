/- The functions that FnExactInTime,FnExactOnce reaches, told as functions of data, and that the program does what they tell. -/
import Derived.Test.YtiamdibpgdkedaaOta
namespace Go.Proofs.Ytiamdibpgdkedaa.Ot
set_option linter.unusedVariables false
set_option linter.unusedSimpArgs false
set_option maxRecDepth 100000
open Go Go.Am

noncomputable section
theorem ents0 : ∀ p ∈ ([] : List (Nat × CE)), EntOK TT p.1 p.2 := fun p h => by cases h
theorem ents1 {a : Nat} {v : CE} {l : List (Nat × CE)} (h : EntOK TT a v) (k : ∀ p ∈ l, EntOK TT p.1 p.2) : ∀ p ∈ (a, v) :: l, EntOK TT p.1 p.2 := fun p hp => (List.mem_cons.1 hp).elim (fun e => e ▸ h) (k p)
/- laws.szIntS -/
def hn82 : Hints := [(6, (.sl 1 I), true)]
def pm82 : List Nat := []
abbrev sg82 : Sig := ⟨[.dat (.sl 1 I), .dat I], [I]⟩
def F82 (x : List Int × Int × Unit) : Option (Int × Unit) :=
  bif iLt (iSub .i64 x.2.1 (lenI x.1)) 0 then some ((-1), ()) else some (iSub .i64 x.2.1 (lenI x.1), ())
abbrev ce82 : CE := .con true sg82 F82
theorem co82 : ConOK TT 82 sg82 F82 := con_fn (fn := fn82) (ces := []) ents0 hn82 pm82 (by kernel_rfl) rfl rfl (fun x => by kernel_rfl)
theorem en82 : EntOK TT 82 ce82 := ent_fz co82 (by kernel_rfl) rfl rfl rfl
/- laws.szEvent -/
def hn159 : Hints := [(2, KEvent, true), (6, (.sl 1 I), true), (19, (.sl 1 I), true)]
def pm159 : List Nat := [2]
abbrev sg159 : Sig := ⟨[.dat KEvent, .dat I], [I]⟩
def F159 (x : TEvent × Int × Unit) : Option (Int × Unit) :=
  bindK (F82 (x.1.2.2.2.2.2.1, x.2)) fun y0 =>
  bif iLt y0.1 0 then some ((-1), ()) else bif iLt (iSub .i64 y0.1 (lenI x.1.2.2.2.2.2.2.1)) 0 then some ((-1), ()) else bindK (F82 (x.1.2.2.2.2.2.2.2.1, iSub .i64 y0.1 (lenI x.1.2.2.2.2.2.2.1), ())) fun y1 =>
  bif iLt y1.1 0 then some ((-1), ()) else some y1
abbrev ce159 : CE := .con true sg159 F159
theorem co159 : ConOK TT 159 sg159 F159 := con_fn (fn := fn159) (ces := [(82, ce82)]) (ents1 en82 ents0) hn159 pm159 (by kernel_rfl) rfl rfl (fun x => by kernel_rfl)
theorem en159 : EntOK TT 159 ce159 := ent_fz co159 (by kernel_rfl) rfl rfl rfl
/- laws.szCommand -/
def hn81 : Hints := [(2, KCommand, true), (6, KEvent, true)]
def pm81 : List Nat := [2]
abbrev sg81 : Sig := ⟨[.dat KCommand, .dat I], [I]⟩
def F81 (x : TCommand × Int × Unit) : Option (Int × Unit) :=
  bindK (F159 ((x.1.2.2.2.1, x.1.2.2.2.2.1, x.1.2.2.2.2.2.1, x.1.2.2.2.2.2.2.1, x.1.2.2.2.2.2.2.2.1, x.1.2.2.2.2.2.2.2.2.1, x.1.2.2.2.2.2.2.2.2.2.1, x.1.2.2.2.2.2.2.2.2.2.2.1, x.1.2.2.2.2.2.2.2.2.2.2.2.1, ()), x.2)) fun y0 =>
  bif iLt y0.1 0 then some ((-1), ()) else some y0
abbrev ce81 : CE := .con true sg81 F81
theorem co81 : ConOK TT 81 sg81 F81 := con_fn (fn := fn81) (ces := [(159, ce159)]) (ents1 en159 ents0) hn81 pm81 (by kernel_rfl) rfl rfl (fun x => by kernel_rfl)
theorem en81 : EntOK TT 81 ce81 := ent_fz co81 (by kernel_rfl) rfl rfl rfl
/- laws.szReply -/
def hn67 : Hints := [(2, KReply, true), (6, KCommand, true)]
def pm67 : List Nat := [2]
abbrev sg67 : Sig := ⟨[.dat KReply, .dat I], [I]⟩
def F67 (x : TReply × Int × Unit) : Option (Int × Unit) :=
  bindK (F81 ((x.1.2.2.2.1, x.1.2.2.2.2.1, x.1.2.2.2.2.2.1, x.1.2.2.2.2.2.2.1, x.1.2.2.2.2.2.2.2.1, x.1.2.2.2.2.2.2.2.2.1, x.1.2.2.2.2.2.2.2.2.2.1, x.1.2.2.2.2.2.2.2.2.2.2.1, x.1.2.2.2.2.2.2.2.2.2.2.2.1, x.1.2.2.2.2.2.2.2.2.2.2.2.2.1, x.1.2.2.2.2.2.2.2.2.2.2.2.2.2.1, x.1.2.2.2.2.2.2.2.2.2.2.2.2.2.2.1, x.1.2.2.2.2.2.2.2.2.2.2.2.2.2.2.2.1, x.1.2.2.2.2.2.2.2.2.2.2.2.2.2.2.2.2.1, ()), x.2)) fun y0 =>
  bif iLt y0.1 0 then some ((-1), ()) else bif iLt (iSub .i64 y0.1 (lenI x.1.2.2.2.2.2.2.2.2.2.2.2.2.2.2.2.2.2.1)) 0 then some ((-1), ()) else some (iSub .i64 y0.1 (lenI x.1.2.2.2.2.2.2.2.2.2.2.2.2.2.2.2.2.2.1), ())
abbrev ce67 : CE := .con true sg67 F67
theorem co67 : ConOK TT 67 sg67 F67 := con_fn (fn := fn67) (ces := [(81, ce81)]) (ents1 en81 ents0) hn67 pm67 (by kernel_rfl) rfl rfl (fun x => by kernel_rfl)
theorem en67 : EntOK TT 67 ce67 := ent_fz co67 (by kernel_rfl) rfl rfl rfl
/- laws.szReplyS -/
def hn14 : Hints := [(7, (.sl 18 KReply), true), (13, (.sl 18 KReply), true), (18, (.sl 18 KReply), true), (21, KReply, true)]
def pm14 : List Nat := []
abbrev sg14 : Sig := ⟨[.dat (.sl 18 KReply), .dat I], [I]⟩
def F14 (x : List TReply × Int × Unit) : Option (Int × Unit) :=
  bif iLt (iSub .i64 x.2.1 (lenI x.1)) 0 then some ((-1), ()) else loopF (fun rec0 (s1 : Int × Int × Unit) =>
  bif iLt s1.1 (lenI x.1) then idxK x.1 s1.1 fun y2 =>
  bindK (F67 (y2, s1.2)) fun y3 =>
  bif iLt y3.1 0 then some ((-1), ()) else rec0 (iAdd .i64 s1.1 1, y3) else some s1.2) NN (0, iSub .i64 x.2.1 (lenI x.1), ())
abbrev ce14 : CE := .con true sg14 F14
theorem co14 : ConOK TT 14 sg14 F14 := con_fn (fn := fn14) (ces := [(67, ce67)]) (ents1 en67 ents0) hn14 pm14 (by kernel_rfl) rfl rfl (fun x => by kernel_rfl)
theorem en14 : EntOK TT 14 ce14 := ent_fz co14 (by kernel_rfl) rfl rfl rfl
/- spec.InTime -/
def hn15 : Hints := [(6, (.sl 18 KReply), true), (12, (.sl 18 KReply), true), (17, (.sl 18 KReply), true), (22, (.sl 18 KReply), true), (29, (.sl 18 KReply), true), (34, (.sl 18 KReply), true)]
def pm15 : List Nat := []
abbrev sg15 : Sig := ⟨[.dat (.sl 18 KReply)], [.bool]⟩
def F15 (x : List TReply × Unit) : Option (Bool × Unit) :=
  loopF (fun rec0 (s1 : Int × Unit) =>
  bif iLt s1.1 (lenI x.1) then loopF (fun rec2 (s3 : Int × Unit) =>
  bif iLt s3.1 (lenI x.1) then idxK x.1 s1.1 fun y4 =>
  idxK x.1 s3.1 fun y5 =>
  bindK (bif iGt y4.1 y5.2.1 then idxK x.1 s1.1 fun y6 =>
  idxK x.1 s3.1 fun y7 =>
  some (iLe y6.2.2.1 y7.2.2.1) else some false) fun y8 =>
  bif y8 then some (false, ()) else rec2 (iAdd .i64 s3.1 1, ()) else rec0 (iAdd .i64 s1.1 1, ())) NN (0, ()) else some (true, ())) NN (0, ())
abbrev ce15 : CE := .con true sg15 F15
theorem co15 : ConOK TT 15 sg15 F15 := con_fn (fn := fn15) (ces := []) ents0 hn15 pm15 (by kernel_rfl) rfl rfl (fun x => by kernel_rfl)
theorem en15 : EntOK TT 15 ce15 := ent_fz co15 (by kernel_rfl) rfl rfl rfl
/- laws.toIntS -/
def hn51 : Hints := [(2, (.sl 1 I), true), (3, (.sl 1 I), true), (5, (.sl 1 I), true), (7, (.sl 1 I), true), (9, (.sl 1 I), true), (14, (.sl 1 I), true), (16, (.sl 1 I), true), (21, (.sl 1 I), true)]
def pm51 : List Nat := []
abbrev sg51 : Sig := ⟨[.dat (.sl 1 I)], [(.sl 1 I)]⟩
def F51 (x : List Int × Unit) : Option (List Int × Unit) :=
  guardK (gMk (lenI x.1) 1) <|
  loopF (fun rec0 (s1 : Int × List Int × Unit) =>
  bif iLt s1.1 (lenI x.1) then idxK x.1 s1.1 fun y2 =>
  idxK s1.2.1 s1.1 fun y3 =>
  rec0 (iAdd .i64 s1.1 1, setL s1.2.1 (toN s1.1) y2, ()) else some s1.2) NN (0, repL (toN (lenI x.1)) 0, ())
abbrev ce51 : CE := .con false sg51 F51
theorem co51 : ConOK TT 51 sg51 F51 := con_fn (fn := fn51) (ces := []) ents0 hn51 pm51 (by kernel_rfl) rfl rfl (fun x => by kernel_rfl)
theorem en51 : EntOK TT 51 ce51 := ent_sep co51 (by kernel_rfl) rfl
/- laws.toEvent -/
def hn163 : Hints := [(1, KEvent, true), (2, KEvent, true), (3, KEvent, true), (20, (.sl 1 I), true), (21, (.sl 1 I), true), (27, (.sl 1 I), true), (28, (.sl 1 I), true), (33, KEvent, true)]
def pm163 : List Nat := [1]
abbrev sg163 : Sig := ⟨[.dat KEvent], [KEvent]⟩
def F163 (x : TEvent × Unit) : Option (TEvent × Unit) :=
  bindK (F51 (x.1.2.2.2.2.2.1, ())) fun y0 =>
  bindK (F51 (x.1.2.2.2.2.2.2.2.1, ())) fun y1 =>
  some ((x.1.1, x.1.2.1, x.1.2.2.1, x.1.2.2.2.1, x.1.2.2.2.2.1, y0.1, x.1.2.2.2.2.2.2.1, y1.1, x.1.2.2.2.2.2.2.2.2), ())
abbrev ce163 : CE := .con false sg163 F163
theorem co163 : ConOK TT 163 sg163 F163 := con_fn (fn := fn163) (ces := [(51, ce51)]) (ents1 en51 ents0) hn163 pm163 (by kernel_rfl) rfl rfl (fun x => by kernel_rfl)
theorem en163 : EntOK TT 163 ce163 := ent_sep co163 (by kernel_rfl) rfl
/- laws.toCommand -/
def hn86 : Hints := [(1, KCommand, true), (2, KCommand, true), (3, KCommand, true), (14, KEvent, true), (15, KEvent, true), (23, KCommand, true)]
def pm86 : List Nat := [1]
abbrev sg86 : Sig := ⟨[.dat KCommand], [KCommand]⟩
def F86 (x : TCommand × Unit) : Option (TCommand × Unit) :=
  bindK (F163 ((x.1.2.2.2.1, x.1.2.2.2.2.1, x.1.2.2.2.2.2.1, x.1.2.2.2.2.2.2.1, x.1.2.2.2.2.2.2.2.1, x.1.2.2.2.2.2.2.2.2.1, x.1.2.2.2.2.2.2.2.2.2.1, x.1.2.2.2.2.2.2.2.2.2.2.1, x.1.2.2.2.2.2.2.2.2.2.2.2.1, ()), ())) fun y0 =>
  some ((x.1.1, x.1.2.1, x.1.2.2.1, y0.1.1, y0.1.2.1, y0.1.2.2.1, y0.1.2.2.2.1, y0.1.2.2.2.2.1, y0.1.2.2.2.2.2.1, y0.1.2.2.2.2.2.2.1, y0.1.2.2.2.2.2.2.2.1, y0.1.2.2.2.2.2.2.2.2.1, x.1.2.2.2.2.2.2.2.2.2.2.2.2), ())
abbrev ce86 : CE := .con false sg86 F86
theorem co86 : ConOK TT 86 sg86 F86 := con_fn (fn := fn86) (ces := [(163, ce163)]) (ents1 en163 ents0) hn86 pm86 (by kernel_rfl) rfl rfl (fun x => by kernel_rfl)
theorem en86 : EntOK TT 86 ce86 := ent_sep co86 (by kernel_rfl) rfl
/- laws.toReply -/
def hn68 : Hints := [(1, KReply, true), (2, KReply, true), (3, KReply, true), (14, KCommand, true), (15, KCommand, true), (20, KReply, true)]
def pm68 : List Nat := [1]
abbrev sg68 : Sig := ⟨[.dat KReply], [KReply]⟩
def F68 (x : TReply × Unit) : Option (TReply × Unit) :=
  bindK (F86 ((x.1.2.2.2.1, x.1.2.2.2.2.1, x.1.2.2.2.2.2.1, x.1.2.2.2.2.2.2.1, x.1.2.2.2.2.2.2.2.1, x.1.2.2.2.2.2.2.2.2.1, x.1.2.2.2.2.2.2.2.2.2.1, x.1.2.2.2.2.2.2.2.2.2.2.1, x.1.2.2.2.2.2.2.2.2.2.2.2.1, x.1.2.2.2.2.2.2.2.2.2.2.2.2.1, x.1.2.2.2.2.2.2.2.2.2.2.2.2.2.1, x.1.2.2.2.2.2.2.2.2.2.2.2.2.2.2.1, x.1.2.2.2.2.2.2.2.2.2.2.2.2.2.2.2.1, x.1.2.2.2.2.2.2.2.2.2.2.2.2.2.2.2.2.1, ()), ())) fun y0 =>
  some ((x.1.1, x.1.2.1, x.1.2.2.1, y0.1.1, y0.1.2.1, y0.1.2.2.1, y0.1.2.2.2.1, y0.1.2.2.2.2.1, y0.1.2.2.2.2.2.1, y0.1.2.2.2.2.2.2.1, y0.1.2.2.2.2.2.2.2.1, y0.1.2.2.2.2.2.2.2.2.1, y0.1.2.2.2.2.2.2.2.2.2.1, y0.1.2.2.2.2.2.2.2.2.2.2.1, y0.1.2.2.2.2.2.2.2.2.2.2.2.1, y0.1.2.2.2.2.2.2.2.2.2.2.2.2.1, y0.1.2.2.2.2.2.2.2.2.2.2.2.2.2.1, x.1.2.2.2.2.2.2.2.2.2.2.2.2.2.2.2.2.2), ())
abbrev ce68 : CE := .con false sg68 F68
theorem co68 : ConOK TT 68 sg68 F68 := con_fn (fn := fn68) (ces := [(86, ce86)]) (ents1 en86 ents0) hn68 pm68 (by kernel_rfl) rfl rfl (fun x => by kernel_rfl)
theorem en68 : EntOK TT 68 ce68 := ent_sep co68 (by kernel_rfl) rfl
/- laws.toReplyS -/
def hn16 : Hints := [(2, (.sl 18 KReply), true), (3, (.sl 18 KReply), true), (5, (.sl 18 KReply), true), (7, (.sl 18 KReply), true), (9, (.sl 18 KReply), true), (14, (.sl 18 KReply), true), (16, (.sl 18 KReply), true), (19, KReply, true), (20, KReply, true), (22, (.sl 18 KReply), true)]
def pm16 : List Nat := []
abbrev sg16 : Sig := ⟨[.dat (.sl 18 KReply)], [(.sl 18 KReply)]⟩
def F16 (x : List TReply × Unit) : Option (List TReply × Unit) :=
  guardK (gMk (lenI x.1) 18) <|
  loopF (fun rec0 (s1 : Int × List TReply × Unit) =>
  bif iLt s1.1 (lenI x.1) then idxK x.1 s1.1 fun y2 =>
  bindK (F68 (y2, ())) fun y3 =>
  idxK s1.2.1 s1.1 fun y4 =>
  rec0 (iAdd .i64 s1.1 1, setL s1.2.1 (toN s1.1) y3.1, ()) else some s1.2) NN (0, repL (toN (lenI x.1)) (0, 0, 0, 0, 0, 0, 0, 0, 0, 0, 0, [], litS [], [], 0, 0, 0, litS [], ()), ())
abbrev ce16 : CE := .con false sg16 F16
theorem co16 : ConOK TT 16 sg16 F16 := con_fn (fn := fn16) (ces := [(68, ce68)]) (ents1 en68 ents0) hn16 pm16 (by kernel_rfl) rfl rfl (fun x => by kernel_rfl)
theorem en16 : EntOK TT 16 ce16 := ent_sep co16 (by kernel_rfl) rfl
/- impl.InTime -/
def hn17 : Hints := [(4, KReply, true), (6, KReply, true), (7, (.sl 18 KReply), true), (12, KReply, true), (13, (.sl 18 KReply), true), (18, KReply, true)]
def pm17 : List Nat := [6, 4]
abbrev sg17 : Sig := ⟨[.dat (.sl 18 KReply)], [.bool]⟩
def F17 (x : List TReply × Unit) : Option (Bool × Unit) :=
  loopF (fun rec0 (s1 : Int × Unit) =>
  bif iLt s1.1 (lenI x.1) then idxK x.1 s1.1 fun y2 =>
  loopF (fun rec3 (s4 : Int × Unit) =>
  bif iLt s4.1 (lenI x.1) then idxK x.1 s4.1 fun y5 =>
  bindK (bif iGt y5.1 y2.2.1 then some (iLe y5.2.2.1 y2.2.2.1) else some false) fun y6 =>
  bif y6 then some (false, ()) else rec3 (iAdd .i64 s4.1 1, ()) else rec0 (iAdd .i64 s1.1 1, ())) NN (0, ()) else some (true, ())) NN (0, ())
abbrev ce17 : CE := .con true sg17 F17
theorem co17 : ConOK TT 17 sg17 F17 := con_fn (fn := fn17) (ces := []) ents0 hn17 pm17 (by kernel_rfl) rfl rfl (fun x => by kernel_rfl)
theorem en17 : EntOK TT 17 ce17 := ent_fz co17 (by kernel_rfl) rfl rfl rfl
/- laws.eqIntS -/
def hn52 : Hints := [(6, (.sl 1 I), true), (8, (.sl 1 I), true), (12, (.sl 1 I), true), (17, (.sl 1 I), true), (21, (.sl 1 I), true)]
def pm52 : List Nat := []
abbrev sg52 : Sig := ⟨[.dat (.sl 1 I), .dat (.sl 1 I)], [.bool]⟩
def F52 (x : List Int × List Int × Unit) : Option (Bool × Unit) :=
  bif iNe (lenI x.1) (lenI x.2.1) then some (false, ()) else loopF (fun rec0 (s1 : Int × Unit) =>
  bif iLt s1.1 (lenI x.1) then idxK x.1 s1.1 fun y2 =>
  idxK x.2.1 s1.1 fun y3 =>
  bif iNe y2 y3 then some (false, ()) else rec0 (iAdd .i64 s1.1 1, ()) else some (true, ())) NN (0, ())
abbrev ce52 : CE := .con true sg52 F52
theorem co52 : ConOK TT 52 sg52 F52 := con_fn (fn := fn52) (ces := []) ents0 hn52 pm52 (by kernel_rfl) rfl rfl (fun x => by kernel_rfl)
theorem en52 : EntOK TT 52 ce52 := ent_fz co52 (by kernel_rfl) rfl rfl rfl
/- laws.eqEvent -/
def hn167 : Hints := [(2, KEvent, true), (3, KEvent, true), (31, (.sl 1 I), true), (33, (.sl 1 I), true), (42, (.sl 1 I), true), (44, (.sl 1 I), true)]
def pm167 : List Nat := [2, 3]
abbrev sg167 : Sig := ⟨[.dat KEvent, .dat KEvent], [.bool]⟩
def F167 (x : TEvent × TEvent × Unit) : Option (Bool × Unit) :=
  bif iNe x.1.1 x.2.1.1 then some (false, ()) else bif iNe x.1.2.1 x.2.1.2.1 then some (false, ()) else bif iNe x.1.2.2.1 x.2.1.2.2.1 then some (false, ()) else bif iNe x.1.2.2.2.1 x.2.1.2.2.2.1 then some (false, ()) else bif iNe x.1.2.2.2.2.1 x.2.1.2.2.2.2.1 then some (false, ()) else bindK (F52 (x.1.2.2.2.2.2.1, x.2.1.2.2.2.2.2.1, ())) fun y0 =>
  bif bNot y0.1 then some (false, ()) else bif bNot (strEq x.1.2.2.2.2.2.2.1 x.2.1.2.2.2.2.2.2.1) then some (false, ()) else bindK (F52 (x.1.2.2.2.2.2.2.2.1, x.2.1.2.2.2.2.2.2.2.1, ())) fun y1 =>
  bif bNot y1.1 then some (false, ()) else bif iNe x.1.2.2.2.2.2.2.2.2.1 x.2.1.2.2.2.2.2.2.2.2.1 then some (false, ()) else some (true, ())
abbrev ce167 : CE := .con true sg167 F167
theorem co167 : ConOK TT 167 sg167 F167 := con_fn (fn := fn167) (ces := [(52, ce52)]) (ents1 en52 ents0) hn167 pm167 (by kernel_rfl) rfl rfl (fun x => by kernel_rfl)
theorem en167 : EntOK TT 167 ce167 := ent_fz co167 (by kernel_rfl) rfl rfl rfl
/- laws.eqCommand -/
def hn90 : Hints := [(2, KCommand, true), (3, KCommand, true), (21, KEvent, true), (23, KEvent, true)]
def pm90 : List Nat := [2, 3]
abbrev sg90 : Sig := ⟨[.dat KCommand, .dat KCommand], [.bool]⟩
def F90 (x : TCommand × TCommand × Unit) : Option (Bool × Unit) :=
  bif iNe x.1.1 x.2.1.1 then some (false, ()) else bif iNe x.1.2.1 x.2.1.2.1 then some (false, ()) else bif iNe x.1.2.2.1 x.2.1.2.2.1 then some (false, ()) else bindK (F167 ((x.1.2.2.2.1, x.1.2.2.2.2.1, x.1.2.2.2.2.2.1, x.1.2.2.2.2.2.2.1, x.1.2.2.2.2.2.2.2.1, x.1.2.2.2.2.2.2.2.2.1, x.1.2.2.2.2.2.2.2.2.2.1, x.1.2.2.2.2.2.2.2.2.2.2.1, x.1.2.2.2.2.2.2.2.2.2.2.2.1, ()), (x.2.1.2.2.2.1, x.2.1.2.2.2.2.1, x.2.1.2.2.2.2.2.1, x.2.1.2.2.2.2.2.2.1, x.2.1.2.2.2.2.2.2.2.1, x.2.1.2.2.2.2.2.2.2.2.1, x.2.1.2.2.2.2.2.2.2.2.2.1, x.2.1.2.2.2.2.2.2.2.2.2.2.1, x.2.1.2.2.2.2.2.2.2.2.2.2.2.1, ()), ())) fun y0 =>
  bif bNot y0.1 then some (false, ()) else bif iNe x.1.2.2.2.2.2.2.2.2.2.2.2.2.1 x.2.1.2.2.2.2.2.2.2.2.2.2.2.2.1 then some (false, ()) else bif iNe x.1.2.2.2.2.2.2.2.2.2.2.2.2.2.1 x.2.1.2.2.2.2.2.2.2.2.2.2.2.2.2.1 then some (false, ()) else some (true, ())
abbrev ce90 : CE := .con true sg90 F90
theorem co90 : ConOK TT 90 sg90 F90 := con_fn (fn := fn90) (ces := [(167, ce167)]) (ents1 en167 ents0) hn90 pm90 (by kernel_rfl) rfl rfl (fun x => by kernel_rfl)
theorem en90 : EntOK TT 90 ce90 := ent_fz co90 (by kernel_rfl) rfl rfl rfl
/- laws.eqReply -/
def hn69 : Hints := [(2, KReply, true), (3, KReply, true), (21, KCommand, true), (23, KCommand, true)]
def pm69 : List Nat := [2, 3]
abbrev sg69 : Sig := ⟨[.dat KReply, .dat KReply], [.bool]⟩
def F69 (x : TReply × TReply × Unit) : Option (Bool × Unit) :=
  bif iNe x.1.1 x.2.1.1 then some (false, ()) else bif iNe x.1.2.1 x.2.1.2.1 then some (false, ()) else bif iNe x.1.2.2.1 x.2.1.2.2.1 then some (false, ()) else bindK (F90 ((x.1.2.2.2.1, x.1.2.2.2.2.1, x.1.2.2.2.2.2.1, x.1.2.2.2.2.2.2.1, x.1.2.2.2.2.2.2.2.1, x.1.2.2.2.2.2.2.2.2.1, x.1.2.2.2.2.2.2.2.2.2.1, x.1.2.2.2.2.2.2.2.2.2.2.1, x.1.2.2.2.2.2.2.2.2.2.2.2.1, x.1.2.2.2.2.2.2.2.2.2.2.2.2.1, x.1.2.2.2.2.2.2.2.2.2.2.2.2.2.1, x.1.2.2.2.2.2.2.2.2.2.2.2.2.2.2.1, x.1.2.2.2.2.2.2.2.2.2.2.2.2.2.2.2.1, x.1.2.2.2.2.2.2.2.2.2.2.2.2.2.2.2.2.1, ()), (x.2.1.2.2.2.1, x.2.1.2.2.2.2.1, x.2.1.2.2.2.2.2.1, x.2.1.2.2.2.2.2.2.1, x.2.1.2.2.2.2.2.2.2.1, x.2.1.2.2.2.2.2.2.2.2.1, x.2.1.2.2.2.2.2.2.2.2.2.1, x.2.1.2.2.2.2.2.2.2.2.2.2.1, x.2.1.2.2.2.2.2.2.2.2.2.2.2.1, x.2.1.2.2.2.2.2.2.2.2.2.2.2.2.1, x.2.1.2.2.2.2.2.2.2.2.2.2.2.2.2.1, x.2.1.2.2.2.2.2.2.2.2.2.2.2.2.2.2.1, x.2.1.2.2.2.2.2.2.2.2.2.2.2.2.2.2.2.1, x.2.1.2.2.2.2.2.2.2.2.2.2.2.2.2.2.2.2.1, ()), ())) fun y0 =>
  bif bNot y0.1 then some (false, ()) else bif bNot (strEq x.1.2.2.2.2.2.2.2.2.2.2.2.2.2.2.2.2.2.1 x.2.1.2.2.2.2.2.2.2.2.2.2.2.2.2.2.2.2.2.1) then some (false, ()) else some (true, ())
abbrev ce69 : CE := .con true sg69 F69
theorem co69 : ConOK TT 69 sg69 F69 := con_fn (fn := fn69) (ces := [(90, ce90)]) (ents1 en90 ents0) hn69 pm69 (by kernel_rfl) rfl rfl (fun x => by kernel_rfl)
theorem en69 : EntOK TT 69 ce69 := ent_fz co69 (by kernel_rfl) rfl rfl rfl
/- laws.eqReplyS -/
def hn18 : Hints := [(6, (.sl 18 KReply), true), (8, (.sl 18 KReply), true), (12, (.sl 18 KReply), true), (17, (.sl 18 KReply), true), (20, KReply, true), (21, (.sl 18 KReply), true), (24, KReply, true)]
def pm18 : List Nat := []
abbrev sg18 : Sig := ⟨[.dat (.sl 18 KReply), .dat (.sl 18 KReply)], [.bool]⟩
def F18 (x : List TReply × List TReply × Unit) : Option (Bool × Unit) :=
  bif iNe (lenI x.1) (lenI x.2.1) then some (false, ()) else loopF (fun rec0 (s1 : Int × Unit) =>
  bif iLt s1.1 (lenI x.1) then idxK x.1 s1.1 fun y2 =>
  idxK x.2.1 s1.1 fun y3 =>
  bindK (F69 (y2, y3, ())) fun y4 =>
  bif bNot y4.1 then some (false, ()) else rec0 (iAdd .i64 s1.1 1, ()) else some (true, ())) NN (0, ())
abbrev ce18 : CE := .con true sg18 F18
theorem co18 : ConOK TT 18 sg18 F18 := con_fn (fn := fn18) (ces := [(69, ce69)]) (ents1 en69 ents0) hn18 pm18 (by kernel_rfl) rfl rfl (fun x => by kernel_rfl)
theorem en18 : EntOK TT 18 ce18 := ent_fz co18 (by kernel_rfl) rfl rfl rfl
/- laws.FnExactInTime -/
def hn3 : Hints := [(5, (.sl 18 KReply), true), (7, (.sl 18 KReply), true), (12, (.sl 18 KReply), true), (13, (.sl 18 KReply), true), (15, (.sl 18 KReply), true), (16, (.sl 18 KReply), true), (17, (.sl 18 KReply), true), (22, (.sl 18 KReply), true), (23, (.sl 18 KReply), true), (24, (.sl 18 KReply), true)]
def pm3 : List Nat := []
abbrev sg3 : Sig := ⟨[.dat (.sl 18 KReply)], [.bool]⟩
def F3 (x : List TReply × Unit) : Option (Bool × Unit) :=
  bindK (F14 (x.1, 1048576, ())) fun y0 =>
  bif iLt y0.1 0 then some (true, ()) else bindK (F16 x) fun y1 =>
  bindK (F15 y1) fun y2 =>
  bindK (F16 x) fun y3 =>
  bindK (F17 y3) fun y4 =>
  bif bNe y4.1 y2.1 then some (false, ()) else bindK (F16 x) fun y5 =>
  bindK (F18 (y3.1, y5)) fun y6 =>
  bif bNot y6.1 then some (false, ()) else some (true, ())
abbrev ce3 : CE := .con true sg3 F3
theorem co3 : ConOK TT 3 sg3 F3 := con_fn (fn := fn3) (ces := [(14, ce14), (15, ce15), (16, ce16), (17, ce17), (18, ce18)]) (ents1 en14 (ents1 en15 (ents1 en16 (ents1 en17 (ents1 en18 ents0))))) hn3 pm3 (by kernel_rfl) rfl rfl (fun x => by kernel_rfl)
theorem en3 : EntOK TT 3 ce3 := ent_fz co3 (by kernel_rfl) rfl rfl rfl
/- spec.l19Plain -/
def hn79 : Hints := []
def pm79 : List Nat := []
abbrev sg79 : Sig := ⟨[.dat .str], [.bool]⟩
def F79 (x : List UInt8 × Unit) : Option (Bool × Unit) :=
  bindK (bif strEq x.1 (litS [103, 97, 112]) then some true else some (strEq x.1 (litS [110, 111, 110, 101]))) fun y0 =>
  bindK (bif y0 then some true else some (strEq x.1 (litS [111, 108, 100]))) fun y1 =>
  some (y1, ())
abbrev ce79 : CE := .con true sg79 F79
theorem co79 : ConOK TT 79 sg79 F79 := con_fn (fn := fn79) (ces := []) ents0 hn79 pm79 (by kernel_rfl) rfl rfl (fun x => by kernel_rfl)
theorem en79 : EntOK TT 79 ce79 := ent_fz co79 (by kernel_rfl) rfl rfl rfl
/- spec.Once -/
def hn28 : Hints := [(5, KReply, true), (6, KReply, true), (8, (.sl 18 KReply), true), (18, (.sl 18 KReply), true), (21, KReply, true), (22, (.sl 18 KReply), true), (25, KReply, true)]
def pm28 : List Nat := [5, 6]
abbrev sg28 : Sig := ⟨[.dat (.sl 18 KReply)], [.bool]⟩
def F28 (x : List TReply × Unit) : Option (Bool × Unit) :=
  loopF (fun rec0 (s1 : Int × Unit) =>
  bif iLt s1.1 (lenI x.1) then loopF (fun rec2 (s3 : Int × Unit) =>
  bif iLt s3.1 s1.1 then idxK x.1 s1.1 fun y4 =>
  idxK x.1 s3.1 fun y5 =>
  bindK (bif iNe y4.2.2.2.2.1 0 then some (iEq y4.2.2.2.2.1 y5.2.2.2.2.1) else some false) fun y6 =>
  bindK (bif y6 then some (iEq y4.2.2.2.2.2.1 y5.2.2.2.2.2.1) else some false) fun y7 =>
  bindK (bif y7 then some (bNot (strEq y4.2.2.2.2.2.2.2.2.2.2.2.2.2.2.2.2.2.1 y5.2.2.2.2.2.2.2.2.2.2.2.2.2.2.2.2.2.1)) else some false) fun y8 =>
  bindK (bif y8 then bindK (F79 y4.2.2.2.2.2.2.2.2.2.2.2.2.2.2.2.2.2) fun y9 =>
  some (bNot y9.1) else some false) fun y10 =>
  bindK (bif y10 then bindK (F79 y5.2.2.2.2.2.2.2.2.2.2.2.2.2.2.2.2.2) fun y11 =>
  some (bNot y11.1) else some false) fun y12 =>
  bif y12 then some (false, ()) else rec2 (iAdd .i64 s3.1 1, ()) else rec0 (iAdd .i64 s1.1 1, ())) NN (0, ()) else some (true, ())) NN (0, ())
abbrev ce28 : CE := .con true sg28 F28
theorem co28 : ConOK TT 28 sg28 F28 := con_fn (fn := fn28) (ces := [(79, ce79)]) (ents1 en79 ents0) hn28 pm28 (by kernel_rfl) rfl rfl (fun x => by kernel_rfl)
theorem en28 : EntOK TT 28 ce28 := ent_fz co28 (by kernel_rfl) rfl rfl rfl
/- impl.Once$1 -/
def hn80 : Hints := [(1, KReply, true)]
def pm80 : List Nat := [1]
abbrev sg80 : Sig := ⟨[.dat KReply], [.bool]⟩
def F80 (x : TReply × Unit) : Option (Bool × Unit) :=
  bindK (bif bNot (strEq x.1.2.2.2.2.2.2.2.2.2.2.2.2.2.2.2.2.2.1 (litS [103, 97, 112])) then some (bNot (strEq x.1.2.2.2.2.2.2.2.2.2.2.2.2.2.2.2.2.2.1 (litS [110, 111, 110, 101]))) else some false) fun y0 =>
  bindK (bif y0 then some (bNot (strEq x.1.2.2.2.2.2.2.2.2.2.2.2.2.2.2.2.2.2.1 (litS [111, 108, 100]))) else some false) fun y1 =>
  bindK (bif y1 then some (iNe x.1.2.2.2.2.1 0) else some false) fun y2 =>
  some (y2, ())
abbrev ce80 : CE := .con true sg80 F80
theorem co80 : ConOK TT 80 sg80 F80 := con_fn (fn := fn80) (ces := []) ents0 hn80 pm80 (by kernel_rfl) rfl rfl (fun x => by kernel_rfl)
theorem en80 : EntOK TT 80 ce80 := ent_fz co80 (by kernel_rfl) rfl rfl rfl
/- impl.Once -/
def hn29 : Hints := [(5, KReply, true), (7, KReply, true), (8, (.sl 18 KReply), true), (13, KReply, true), (14, (.sl 18 KReply), true), (19, KReply, true), (21, KReply, true), (25, KReply, true)]
def pm29 : List Nat := [7, 5]
abbrev sg29 : Sig := ⟨[.dat (.sl 18 KReply)], [.bool]⟩
def F29 (x : List TReply × Unit) : Option (Bool × Unit) :=
  loopF (fun rec0 (s1 : Int × Unit) =>
  bif iLt s1.1 (lenI x.1) then idxK x.1 s1.1 fun y2 =>
  loopF (fun rec3 (s4 : Int × Unit) =>
  bif iLt s4.1 (lenI x.1) then idxK x.1 s4.1 fun y5 =>
  bindK (F80 (y2, ())) fun y6 =>
  bindK (bif y6.1 then bindK (F80 (y5, ())) fun y7 =>
  some y7.1 else some false) fun y8 =>
  bindK (bif y8 then some (iEq y2.2.2.2.2.1 y5.2.2.2.2.1) else some false) fun y9 =>
  bindK (bif y9 then some (iEq y2.2.2.2.2.2.1 y5.2.2.2.2.2.1) else some false) fun y10 =>
  bindK (bif y10 then some (bNot (strEq y2.2.2.2.2.2.2.2.2.2.2.2.2.2.2.2.2.2.1 y5.2.2.2.2.2.2.2.2.2.2.2.2.2.2.2.2.2.1)) else some false) fun y11 =>
  bif y11 then some (false, ()) else rec3 (iAdd .i64 s4.1 1, ()) else rec0 (iAdd .i64 s1.1 1, ())) NN (0, ()) else some (true, ())) NN (0, ())
abbrev ce29 : CE := .con true sg29 F29
theorem co29 : ConOK TT 29 sg29 F29 := con_fn (fn := fn29) (ces := [(80, ce80)]) (ents1 en80 ents0) hn29 pm29 (by kernel_rfl) rfl rfl (fun x => by kernel_rfl)
theorem en29 : EntOK TT 29 ce29 := ent_fz co29 (by kernel_rfl) rfl rfl rfl
/- laws.FnExactOnce -/
def hn5 : Hints := [(5, (.sl 18 KReply), true), (7, (.sl 18 KReply), true), (12, (.sl 18 KReply), true), (13, (.sl 18 KReply), true), (15, (.sl 18 KReply), true), (16, (.sl 18 KReply), true), (17, (.sl 18 KReply), true), (22, (.sl 18 KReply), true), (23, (.sl 18 KReply), true), (24, (.sl 18 KReply), true)]
def pm5 : List Nat := []
abbrev sg5 : Sig := ⟨[.dat (.sl 18 KReply)], [.bool]⟩
def F5 (x : List TReply × Unit) : Option (Bool × Unit) :=
  bindK (F14 (x.1, 1048576, ())) fun y0 =>
  bif iLt y0.1 0 then some (true, ()) else bindK (F16 x) fun y1 =>
  bindK (F28 y1) fun y2 =>
  bindK (F16 x) fun y3 =>
  bindK (F29 y3) fun y4 =>
  bif bNe y4.1 y2.1 then some (false, ()) else bindK (F16 x) fun y5 =>
  bindK (F18 (y3.1, y5)) fun y6 =>
  bif bNot y6.1 then some (false, ()) else some (true, ())
abbrev ce5 : CE := .con true sg5 F5
theorem co5 : ConOK TT 5 sg5 F5 := con_fn (fn := fn5) (ces := [(14, ce14), (28, ce28), (16, ce16), (29, ce29), (18, ce18)]) (ents1 en14 (ents1 en28 (ents1 en16 (ents1 en29 (ents1 en18 ents0))))) hn5 pm5 (by kernel_rfl) rfl rfl (fun x => by kernel_rfl)
theorem en5 : EntOK TT 5 ce5 := ent_fz co5 (by kernel_rfl) rfl rfl rfl
end
end Go.Proofs.Ytiamdibpgdkedaa.Ot
