/- The functions that FnExactDecode reaches, told as functions of data, and that the program does what they tell. -/
import Derived.Test.YtiamdibpgdkedaaDea
namespace Go.Proofs.Ytiamdibpgdkedaa.De
set_option linter.unusedVariables false
set_option linter.unusedSimpArgs false
set_option maxRecDepth 100000
open Go Go.Am

noncomputable section
theorem ents0 : ∀ p ∈ ([] : List (Nat × CE)), EntOK TT p.1 p.2 := fun p h => by cases h
theorem ents1 {a : Nat} {v : CE} {l : List (Nat × CE)} (h : EntOK TT a v) (k : ∀ p ∈ l, EntOK TT p.1 p.2) : ∀ p ∈ (a, v) :: l, EntOK TT p.1 p.2 := fun p hp => (List.mem_cons.1 hp).elim (fun e => e ▸ h) (k p)
/- spec.l05Take -/
def hn129 : Hints := []
def pm129 : List Nat := []
abbrev sg129 : Sig := ⟨[.cell KReader, .dat I], [.str]⟩
def F129 (x : TReader × Int × Unit) : Option (List UInt8 × TReader × Unit) :=
  bindK (bif x.1.2.2.1 then some true else some (iGt x.2.1 (iSub .i64 (lenI x.1.1) x.1.2.1))) fun y0 =>
  bif y0 then some (litS [], (x.1.1, x.1.2.1, true, ()), ()) else bndK (lenN x.1.1) (iSub .i64 (iAdd .i64 x.1.2.1 x.2.1) x.2.1) (iAdd .i64 x.1.2.1 x.2.1) fun l1 n2 =>
  some (sub x.1.1 l1 n2, (x.1.1, iAdd .i64 x.1.2.1 x.2.1, x.1.2.2), ())
abbrev ce129 : CE := .con false sg129 F129
theorem co129 : ConOK TT 129 sg129 F129 := con_fn (fn := inlF XX fn129) (ces := []) ents0 hn129 pm129 (by kernel_rfl) rfl rfl (fun x => by kernel_rfl)
theorem en129 : EntOK TT 129 ce129 := ent_sep co129 (by kernel_rfl) rfl
/- spec.l01In -/
def hn83 : Hints := []
def pm83 : List Nat := []
abbrev sg83 : Sig := ⟨[.dat I, .dat I, .dat I], [.bool]⟩
def F83 (x : Int × Int × Int × Unit) : Option (Bool × Unit) :=
  bindK (bif iGe x.1 x.2.1 then some (iLe x.1 x.2.2.1) else some false) fun y0 =>
  some (y0, ())
abbrev ce83 : CE := .con true sg83 F83
theorem co83 : ConOK TT 83 sg83 F83 := con_fn (fn := inlF XX fn83) (ces := []) ents0 hn83 pm83 (by kernel_rfl) rfl rfl (fun x => by kernel_rfl)
theorem en83 : EntOK TT 83 ce83 := ent_fz co83 (by kernel_rfl) rfl rfl rfl
/- spec.l01Var -/
def hn185 : Hints := [(3, (.sl 1 (.int .u8)), true), (4, (.sl 1 (.int .u8)), true), (7, (.sl 1 (.int .u8)), true), (12, (.sl 1 (.int .u8)), true), (13, (.sl 1 (.int .u8)), true), (16, (.sl 1 (.int .u8)), true), (19, (.sl 1 (.int .u8)), true), (20, (.sl 1 (.int .u8)), true)]
def pm185 : List Nat := []
abbrev sg185 : Sig := ⟨[.dat I], [.str]⟩
def F185 (x : Int × Unit) : Option (List UInt8 × Unit) :=
  loopF (fun rec0 (s1 : Int × List Int × Unit) =>
  bif iGt s1.1 127 then guardK (gNz 128) <|
  guardK (gApp s1.2.1 [iConv .u8 (iAdd .i64 (iRem s1.1 128) 128)] 1) <|
  guardK (gNz 128) <|
  rec0 (iQuo .i64 s1.1 128, cat s1.2.1 [iConv .u8 (iAdd .i64 (iRem s1.1 128) 128)], ()) else guardK (gApp s1.2.1 [iConv .u8 s1.1] 1) <|
  some (strP (cat s1.2.1 [iConv .u8 s1.1]), ())) NN (x.1, [], ())
abbrev ce185 : CE := .con true sg185 F185
theorem co185 : ConOK TT 185 sg185 F185 := con_fn (fn := inlF XX fn185) (ces := []) ents0 hn185 pm185 (by kernel_rfl) rfl rfl (fun x => by kernel_rfl)
theorem en185 : EntOK TT 185 ce185 := ent_fz co185 (by kernel_rfl) rfl rfl rfl
/- spec.ReadVar -/
def hn182 : Hints := []
def pm182 : List Nat := []
abbrev sg182 : Sig := ⟨[.dat .str, .dat I], [I, I, .bool]⟩
def F182 (x : List UInt8 × Int × Unit) : Option (Int × Int × Bool × Unit) :=
  bindK (F83 (x.2.1, 0, lenI x.1, ())) fun y0 =>
  bif bNot y0.1 then some (0, 0, false, ()) else loopF (fun rec1 (s2 : Int × Int × Int × Unit) =>
  bindK (bif iLt s2.2.2.1 (lenI x.1) then some (iLt s2.2.2.1 (iAdd .i64 x.2.1 5)) else some false) fun y3 =>
  bif y3 then idxK x.1 s2.2.2.1 fun y4 =>
  guardK (gNz 128) <|
  idxK x.1 s2.2.2.1 fun y5 =>
  bif iLt (byteI y5) 128 then bindK (bif iGt (iAdd .i64 s2.1 (iMul .i64 (iRem (iConv .i64 (byteI y4)) 128) s2.2.1)) 1000000000 then some true else bindK (F185 (iAdd .i64 s2.1 (iMul .i64 (iRem (iConv .i64 (byteI y4)) 128) s2.2.1), ())) fun y6 =>
  bndK (lenN x.1) x.2.1 (iAdd .i64 s2.2.2.1 1) fun l7 n8 =>
  some (bNot (strEq y6.1 (sub x.1 l7 n8)))) fun y9 =>
  bif y9 then some (0, 0, false, ()) else some (iAdd .i64 s2.1 (iMul .i64 (iRem (iConv .i64 (byteI y4)) 128) s2.2.1), iAdd .i64 s2.2.2.1 1, true, ()) else rec1 (iAdd .i64 s2.1 (iMul .i64 (iRem (iConv .i64 (byteI y4)) 128) s2.2.1), iMul .i64 s2.2.1 128, iAdd .i64 s2.2.2.1 1, ()) else some (0, 0, false, ())) NN (0, 1, x.2)
abbrev ce182 : CE := .con true sg182 F182
theorem co182 : ConOK TT 182 sg182 F182 := con_fn (fn := inlF XX fn182) (ces := [(83, ce83), (185, ce185)]) (ents1 en83 (ents1 en185 ents0)) hn182 pm182 (by kernel_rfl) rfl rfl (fun x => by kernel_rfl)
theorem en182 : EntOK TT 182 ce182 := ent_fz co182 (by kernel_rfl) rfl rfl rfl
/- spec.l05Var -/
def hn130 : Hints := []
def pm130 : List Nat := []
abbrev sg130 : Sig := ⟨[.cell KReader], [I]⟩
def F130 (x : TReader × Unit) : Option (Int × TReader × Unit) :=
  bindK (F182 (x.1.1, x.1.2.1, ())) fun y0 =>
  bindK (bif x.1.2.2.1 then some true else some (bNot y0.2.2.1)) fun y1 =>
  bif y1 then some (0, (x.1.1, x.1.2.1, true, ()), ()) else some (y0.1, (x.1.1, y0.2.1, x.1.2.2), ())
abbrev ce130 : CE := .con false sg130 F130
theorem co130 : ConOK TT 130 sg130 F130 := con_fn (fn := inlF XX fn130) (ces := [(182, ce182)]) (ents1 en182 ents0) hn130 pm130 (by kernel_rfl) rfl rfl (fun x => by kernel_rfl)
theorem en130 : EntOK TT 130 ce130 := ent_sep co130 (by kernel_rfl) rfl
/- spec.l05Rise -/
def hn117 : Hints := [(9, (.sl 1 I), true), (14, (.sl 1 I), true), (26, (.sl 1 I), true), (31, (.sl 1 I), true)]
def pm117 : List Nat := []
abbrev sg117 : Sig := ⟨[.dat (.sl 1 I), .dat I, .dat I], [.bool]⟩
def F117 (x : List Int × Int × Int × Unit) : Option (Bool × Unit) :=
  loopF (fun rec0 (s1 : Int × Unit) =>
  bif iLt s1.1 (lenI x.1) then idxK x.1 s1.1 fun y2 =>
  bindK (F83 (y2, x.2)) fun y3 =>
  bindK (bif bNot y3.1 then some true else bindK (bif iGt s1.1 0 then idxK x.1 (iSub .i64 s1.1 1) fun y4 =>
  idxK x.1 s1.1 fun y5 =>
  some (iGe y4 y5) else some false) fun y6 =>
  some y6) fun y7 =>
  bif y7 then some (false, ()) else rec0 (iAdd .i64 s1.1 1, ()) else some (true, ())) NN (0, ())
abbrev ce117 : CE := .con true sg117 F117
theorem co117 : ConOK TT 117 sg117 F117 := con_fn (fn := inlF XX fn117) (ces := [(83, ce83)]) (ents1 en83 ents0) hn117 pm117 (by kernel_rfl) rfl rfl (fun x => by kernel_rfl)
theorem en117 : EntOK TT 117 ce117 := ent_fz co117 (by kernel_rfl) rfl rfl rfl
/- spec.ConfOk -/
def hn85 : Hints := [(3, (.sl 1 I), true), (7, (.sl 1 I), true)]
def pm85 : List Nat := []
abbrev sg85 : Sig := ⟨[.dat (.sl 1 I)], [.bool]⟩
def F85 (x : List Int × Unit) : Option (Bool × Unit) :=
  bindK (F83 (lenI x.1, 1, 4, ())) fun y0 =>
  bindK (bif y0.1 then bindK (F117 (x.1, 1, 4, ())) fun y1 =>
  some y1.1 else some false) fun y2 =>
  some (y2, ())
abbrev ce85 : CE := .con true sg85 F85
theorem co85 : ConOK TT 85 sg85 F85 := con_fn (fn := inlF XX fn85) (ces := [(117, ce117), (83, ce83)]) (ents1 en117 (ents1 en83 ents0)) hn85 pm85 (by kernel_rfl) rfl rfl (fun x => by kernel_rfl)
theorem en85 : EntOK TT 85 ce85 := ent_fz co85 (by kernel_rfl) rfl rfl rfl
/- spec.ReadConf -/
def hn133 : Hints := [(2, (.sl 1 I), true), (4, (.sl 1 I), true), (6, (.sl 1 I), true), (17, (.sl 1 I), true), (22, (.sl 1 I), true), (23, (.sl 1 I), true), (24, (.sl 1 I), true), (30, (.sl 1 I), true), (34, (.sl 1 I), true), (35, (.sl 1 I), true)]
def pm133 : List Nat := []
abbrev sg133 : Sig := ⟨[.dat .str], [(.sl 1 I), .bool]⟩
def F133 (x : List UInt8 × Unit) : Option (List Int × Bool × Unit) :=
  loopF (fun rec0 (s1 : Int × List Int × Unit) =>
  bindK (bif iLt s1.1 (lenI x.1) then some (iLe s1.1 4) else some false) fun y2 =>
  bif y2 then idxK x.1 s1.1 fun y3 =>
  guardK (gApp s1.2.1 [iConv .i64 (byteI y3)] 1) <|
  rec0 (iAdd .i64 s1.1 1, cat s1.2.1 [iConv .i64 (byteI y3)], ()) else bindK (bif iNe (lenI s1.2.1) (lenI x.1) then some true else bindK (F85 s1.2) fun y4 =>
  some (bNot y4.1)) fun y5 =>
  bif y5 then some ([], false, ()) else some (s1.2.1, true, ())) NN (0, [], ())
abbrev ce133 : CE := .con false sg133 F133
theorem co133 : ConOK TT 133 sg133 F133 := con_fn (fn := inlF XX fn133) (ces := [(85, ce85)]) (ents1 en85 ents0) hn133 pm133 (by kernel_rfl) rfl rfl (fun x => by kernel_rfl)
theorem en133 : EntOK TT 133 ce133 := ent_sep co133 (by kernel_rfl) rfl
/- spec.EntryOk -/
def hn146 : Hints := [(3, (.sl 1 I), true), (22, (.sl 1 I), true)]
def pm146 : List Nat := [1]
abbrev sg146 : Sig := ⟨[.dat KEntry], [.bool]⟩
def F146 (x : TEntry × Unit) : Option (Bool × Unit) :=
  bindK (F83 (x.1.1, 0, 100000, ())) fun y0 =>
  bif bNot y0.1 then some (false, ()) else bif iEq x.1.2.1 1 then some (strEq x.1.2.2.1 (litS []), ()) else bif iEq x.1.2.1 2 then bindK (F133 x.1.2.2) fun y1 =>
  some y1.2 else bif iEq x.1.2.1 3 then some (iLe (lenI x.1.2.2.1) 120, ()) else some (false, ())
abbrev ce146 : CE := .con true sg146 F146
theorem co146 : ConOK TT 146 sg146 F146 := con_fn (fn := inlF XX fn146) (ces := [(83, ce83), (133, ce133)]) (ents1 en83 (ents1 en133 ents0)) hn146 pm146 (by kernel_rfl) rfl rfl (fun x => by kernel_rfl)
theorem en146 : EntOK TT 146 ce146 := ent_fz co146 (by kernel_rfl) rfl rfl rfl
/- spec.EntryText -/
def hn183 : Hints := [(24, (.sl 1 (.int .u8)), true)]
def pm183 : List Nat := [3]
abbrev sg183 : Sig := ⟨[.dat I, .dat KEntry], [.str, .bool]⟩
def F183 (x : Int × TEntry × Unit) : Option (List UInt8 × Bool × Unit) :=
  bindK (F146 x.2) fun y0 =>
  bindK (bif bNot y0.1 then some true else bindK (F83 (x.1, 1, 1000000, ())) fun y1 =>
  some (bNot y1.1)) fun y2 =>
  bif y2 then some (litS [], false, ()) else bindK (F185 (x.1, ())) fun y3 =>
  guardK (gCat (litS [69]) y3.1) <|
  bindK (F185 (x.2.1.1, ())) fun y4 =>
  guardK (gCat (cat (litS [69]) y3.1) y4.1) <|
  guardK (gCat (cat (cat (litS [69]) y3.1) y4.1) (strP [iConv .u8 x.2.1.2.1])) <|
  guardK (gCat (cat (cat (cat (litS [69]) y3.1) y4.1) (strP [iConv .u8 x.2.1.2.1])) x.2.1.2.2.1) <|
  some (cat (cat (cat (cat (litS [69]) y3.1) y4.1) (strP [iConv .u8 x.2.1.2.1])) x.2.1.2.2.1, true, ())
abbrev ce183 : CE := .con true sg183 F183
theorem co183 : ConOK TT 183 sg183 F183 := con_fn (fn := inlF XX fn183) (ces := [(83, ce83), (146, ce146), (185, ce185)]) (ents1 en83 (ents1 en146 (ents1 en185 ents0))) hn183 pm183 (by kernel_rfl) rfl rfl (fun x => by kernel_rfl)
theorem en183 : EntOK TT 183 ce183 := ent_fz co183 (by kernel_rfl) rfl rfl rfl
/- spec.ReadEntry -/
def hn131 : Hints := []
def pm131 : List Nat := []
abbrev sg131 : Sig := ⟨[.dat .str], [I, KEntry, .bool]⟩
def F131 (x : List UInt8 × Unit) : Option (Int × TEntry × Bool × Unit) :=
  bindK (F129 ((x.1, 0, false, ()), 1, ())) fun y0 =>
  bindK (F130 y0.2) fun y1 =>
  bindK (F130 y1.2) fun y2 =>
  bindK (F129 (y2.2.1, 1, ())) fun y3 =>
  bif y3.2.1.2.2.1 then some (0, (0, 0, litS [], ()), false, ()) else idxK y3.1 0 fun y4 =>
  bndK (lenN x.1) y3.2.1.2.1 (ofN (lenN x.1)) fun l5 n6 =>
  bindK (F183 (y1.1, (y2.1, iConv .i64 (byteI y4), sub x.1 l5 n6, ()), ())) fun y7 =>
  bindK (bif bNot y7.2.1 then some true else some (bNot (strEq y7.1 x.1))) fun y8 =>
  bif y8 then some (0, (0, 0, litS [], ()), false, ()) else some (y1.1, (y2.1, iConv .i64 (byteI y4), sub x.1 l5 n6, ()), true, ())
abbrev ce131 : CE := .con true sg131 F131
theorem co131 : ConOK TT 131 sg131 F131 := con_fn (fn := inlF XX fn131) (ces := [(129, ce129), (130, ce130), (183, ce183)]) (ents1 en129 (ents1 en130 (ents1 en183 ents0))) hn131 pm131 (by kernel_rfl) rfl rfl (fun x => by kernel_rfl)
theorem en131 : EntOK TT 131 ce131 := ent_fz co131 (by kernel_rfl) rfl rfl rfl
/- spec.l05ReadShort -/
def hn132 : Hints := []
def pm132 : List Nat := []
abbrev sg132 : Sig := ⟨[.cell KReader], [.str]⟩
def F132 (x : TReader × Unit) : Option (List UInt8 × TReader × Unit) :=
  bindK (F130 x) fun y0 =>
  bindK (F129 (y0.2.1, y0.1, ())) fun y1 =>
  some y1
abbrev ce132 : CE := .con false sg132 F132
theorem co132 : ConOK TT 132 sg132 F132 := con_fn (fn := inlF XX fn132) (ces := [(130, ce130), (129, ce129)]) (ents1 en130 (ents1 en129 ents0)) hn132 pm132 (by kernel_rfl) rfl rfl (fun x => by kernel_rfl)
theorem en132 : EntOK TT 132 ce132 := ent_sep co132 (by kernel_rfl) rfl
/- spec.MessageOk -/
def hn184 : Hints := [(1, KMessage, true), (51, (.sl 3 KEntry), true), (56, (.sl 3 KEntry), true), (69, (.sl 3 KEntry), true), (75, (.sl 3 KEntry), true), (83, (.sl 3 KEntry), true), (93, (.sl 3 KEntry), true), (103, (.sl 3 KEntry), true), (112, (.sl 1 I), true), (121, (.sl 1 I), true)]
def pm184 : List Nat := [1]
abbrev sg184 : Sig := ⟨[.dat KMessage], [.bool]⟩
def F184 (x : TMessage × Unit) : Option (Bool × Unit) :=
  bindK (F83 (x.1.1, 1, 6, ())) fun y0 =>
  bindK (bif bNot y0.1 then some true else bindK (F83 (x.1.2.1, 1, 4, ())) fun y1 =>
  some (bNot y1.1)) fun y2 =>
  bindK (bif y2 then some true else bindK (F83 (x.1.2.2.1, 1, 4, ())) fun y3 =>
  some (bNot y3.1)) fun y4 =>
  bindK (bif y4 then some true else some (iEq x.1.2.1 x.1.2.2.1)) fun y5 =>
  bif y5 then some (false, ()) else bindK (F83 (x.1.2.2.2.1, 0, 100000, ())) fun y6 =>
  bindK (bif bNot y6.1 then some true else bindK (F83 (x.1.2.2.2.2.2.1, 0, 100000, ())) fun y7 =>
  some (bNot y7.1)) fun y8 =>
  bindK (bif y8 then some true else bindK (F83 (x.1.2.2.2.2.1, 0, 1000000, ())) fun y9 =>
  some (bNot y9.1)) fun y10 =>
  bindK (bif y10 then some true else bindK (F83 (x.1.2.2.2.2.2.2.1, 0, 1000000, ())) fun y11 =>
  some (bNot y11.1)) fun y12 =>
  bif y12 then some (false, ()) else bindK (bif iGt (lenI x.1.2.2.2.2.2.2.2.2.1) 4 then some true else bindK (bif iGt (lenI x.1.2.2.2.2.2.2.2.2.1) 0 then some (iNe x.1.1 3) else some false) fun y13 =>
  some y13) fun y14 =>
  bif y14 then some (false, ()) else loopF (fun rec15 (s16 : Int × Int × Unit) =>
  bif iLt s16.2.1 (lenI x.1.2.2.2.2.2.2.2.2.1) then idxK x.1.2.2.2.2.2.2.2.2.1 s16.2.1 fun y17 =>
  bindK (F146 (y17, ())) fun y18 =>
  bindK (bif bNot y18.1 then some true else idxK x.1.2.2.2.2.2.2.2.2.1 s16.2.1 fun y19 =>
  some (iLt y19.1 s16.1)) fun y20 =>
  bindK (bif y20 then some true else idxK x.1.2.2.2.2.2.2.2.2.1 s16.2.1 fun y21 =>
  some (iGt y21.1 x.1.2.2.2.1)) fun y22 =>
  bif y22 then some (false, ()) else idxK x.1.2.2.2.2.2.2.2.2.1 s16.2.1 fun y23 =>
  rec15 (y23.1, iAdd .i64 s16.2.1 1, ()) else bif iEq x.1.1 5 then bindK (F85 (x.1.2.2.2.2.2.2.2.2.2.1, ())) fun y24 =>
  bindK (bif y24.1 then some (iLe (lenI x.1.2.2.2.2.2.2.2.2.2.2.1) 60) else some false) fun y25 =>
  some (y25, ()) else bindK (bif iEq (lenI x.1.2.2.2.2.2.2.2.2.2.1) 0 then some (strEq x.1.2.2.2.2.2.2.2.2.2.2.1 (litS [])) else some false) fun y26 =>
  bindK (bif y26 then some (bNot x.1.2.2.2.2.2.2.2.2.2.2.2.1) else some false) fun y27 =>
  some (y27, ())) NN (x.1.2.2.2.2.2.1, 0, ())
abbrev ce184 : CE := .con true sg184 F184
theorem co184 : ConOK TT 184 sg184 F184 := con_fn (fn := inlF XX fn184) (ces := [(83, ce83), (146, ce146), (85, ce85)]) (ents1 en83 (ents1 en146 (ents1 en85 ents0))) hn184 pm184 (by kernel_rfl) rfl rfl (fun x => by kernel_rfl)
theorem en184 : EntOK TT 184 ce184 := ent_fz co184 (by kernel_rfl) rfl rfl rfl
/- spec.l15Flag -/
def hn186 : Hints := []
def pm186 : List Nat := []
abbrev sg186 : Sig := ⟨[.dat .bool], [.str]⟩
def F186 (x : Bool × Unit) : Option (List UInt8 × Unit) :=
  bif x.1 then some (litS [1], ()) else some (litS [0], ())
abbrev ce186 : CE := .con true sg186 F186
theorem co186 : ConOK TT 186 sg186 F186 := con_fn (fn := inlF XX fn186) (ces := []) ents0 hn186 pm186 (by kernel_rfl) rfl rfl (fun x => by kernel_rfl)
theorem en186 : EntOK TT 186 ce186 := ent_fz co186 (by kernel_rfl) rfl rfl rfl
/- spec.l05Short -/
def hn187 : Hints := []
def pm187 : List Nat := []
abbrev sg187 : Sig := ⟨[.dat .str], [.str]⟩
def F187 (x : List UInt8 × Unit) : Option (List UInt8 × Unit) :=
  bindK (F185 (lenI x.1, ())) fun y0 =>
  guardK (gCat y0.1 x.1) <|
  some (cat y0.1 x.1, ())
abbrev ce187 : CE := .con true sg187 F187
theorem co187 : ConOK TT 187 sg187 F187 := con_fn (fn := inlF XX fn187) (ces := [(185, ce185)]) (ents1 en185 ents0) hn187 pm187 (by kernel_rfl) rfl rfl (fun x => by kernel_rfl)
theorem en187 : EntOK TT 187 ce187 := ent_fz co187 (by kernel_rfl) rfl rfl rfl
/- spec.ConfText -/
def hn40 : Hints := [(4, (.sl 1 (.int .u8)), true), (6, (.sl 1 I), true), (9, (.sl 1 (.int .u8)), true), (11, (.sl 1 I), true), (16, (.sl 1 (.int .u8)), true), (17, (.sl 1 I), true), (22, (.sl 1 (.int .u8)), true), (23, (.sl 1 (.int .u8)), true), (24, (.sl 1 (.int .u8)), true)]
def pm40 : List Nat := []
abbrev sg40 : Sig := ⟨[.dat (.sl 1 I)], [.str, .bool]⟩
def F40 (x : List Int × Unit) : Option (List UInt8 × Bool × Unit) :=
  bindK (F85 x) fun y0 =>
  bif bNot y0.1 then some (litS [], false, ()) else loopF (fun rec1 (s2 : Int × List Int × Unit) =>
  bif iLt s2.1 (lenI x.1) then idxK x.1 s2.1 fun y3 =>
  guardK (gApp s2.2.1 [iConv .u8 y3] 1) <|
  rec1 (iAdd .i64 s2.1 1, cat s2.2.1 [iConv .u8 y3], ()) else some (strP s2.2.1, true, ())) NN (0, [], ())
abbrev ce40 : CE := .con true sg40 F40
theorem co40 : ConOK TT 40 sg40 F40 := con_fn (fn := inlF XX fn40) (ces := [(85, ce85)]) (ents1 en85 ents0) hn40 pm40 (by kernel_rfl) rfl rfl (fun x => by kernel_rfl)
theorem en40 : EntOK TT 40 ce40 := ent_fz co40 (by kernel_rfl) rfl rfl rfl
/- spec.Encode -/
def hn134 : Hints := [(1, KMessage, true), (10, KMessage, true), (22, (.sl 1 (.int .u8)), true), (49, (.sl 3 KEntry), true), (55, (.sl 3 KEntry), true), (62, (.sl 3 KEntry), true), (75, (.sl 1 I), true)]
def pm134 : List Nat := [1]
abbrev sg134 : Sig := ⟨[.dat KMessage], [.str, .bool]⟩
def F134 (x : TMessage × Unit) : Option (List UInt8 × Bool × Unit) :=
  bindK (F184 x) fun y0 =>
  bif bNot y0.1 then some (litS [], false, ()) else bindK (F185 (x.1.2.2.2.1, ())) fun y1 =>
  guardK (gCat (strP [iConv .u8 x.1.1, iConv .u8 x.1.2.1, iConv .u8 x.1.2.2.1]) y1.1) <|
  bindK (F185 (x.1.2.2.2.2.1, ())) fun y2 =>
  guardK (gCat (cat (strP [iConv .u8 x.1.1, iConv .u8 x.1.2.1, iConv .u8 x.1.2.2.1]) y1.1) y2.1) <|
  bindK (F185 (x.1.2.2.2.2.2.1, ())) fun y3 =>
  guardK (gCat (cat (cat (strP [iConv .u8 x.1.1, iConv .u8 x.1.2.1, iConv .u8 x.1.2.2.1]) y1.1) y2.1) y3.1) <|
  bindK (F185 (x.1.2.2.2.2.2.2.1, ())) fun y4 =>
  guardK (gCat (cat (cat (cat (strP [iConv .u8 x.1.1, iConv .u8 x.1.2.1, iConv .u8 x.1.2.2.1]) y1.1) y2.1) y3.1) y4.1) <|
  bindK (F186 (x.1.2.2.2.2.2.2.2.1, ())) fun y5 =>
  guardK (gCat (cat (cat (cat (cat (strP [iConv .u8 x.1.1, iConv .u8 x.1.2.1, iConv .u8 x.1.2.2.1]) y1.1) y2.1) y3.1) y4.1) y5.1) <|
  bindK (F186 x.1.2.2.2.2.2.2.2.2.2.2.2) fun y6 =>
  guardK (gCat (cat (cat (cat (cat (cat (strP [iConv .u8 x.1.1, iConv .u8 x.1.2.1, iConv .u8 x.1.2.2.1]) y1.1) y2.1) y3.1) y4.1) y5.1) y6.1) <|
  bindK (F185 (lenI x.1.2.2.2.2.2.2.2.2.1, ())) fun y7 =>
  guardK (gCat (cat (cat (cat (cat (cat (cat (strP [iConv .u8 x.1.1, iConv .u8 x.1.2.1, iConv .u8 x.1.2.2.1]) y1.1) y2.1) y3.1) y4.1) y5.1) y6.1) y7.1) <|
  loopF (fun rec8 (s9 : Int × List UInt8 × Unit) =>
  bif iLt s9.1 (lenI x.1.2.2.2.2.2.2.2.2.1) then idxK x.1.2.2.2.2.2.2.2.2.1 s9.1 fun y10 =>
  bindK (F183 (1, y10, ())) fun y11 =>
  bindK (F187 (y11.1, ())) fun y12 =>
  guardK (gCat s9.2.1 y12.1) <|
  rec8 (iAdd .i64 s9.1 1, cat s9.2.1 y12.1, ()) else bindK (F40 (x.1.2.2.2.2.2.2.2.2.2.1, ())) fun y13 =>
  bindK (F187 (y13.1, ())) fun y14 =>
  guardK (gCat s9.2.1 y14.1) <|
  bindK (F187 (x.1.2.2.2.2.2.2.2.2.2.2.1, ())) fun y15 =>
  guardK (gCat (cat s9.2.1 y14.1) y15.1) <|
  some (cat (cat s9.2.1 y14.1) y15.1, true, ())) NN (0, cat (cat (cat (cat (cat (cat (cat (strP [iConv .u8 x.1.1, iConv .u8 x.1.2.1, iConv .u8 x.1.2.2.1]) y1.1) y2.1) y3.1) y4.1) y5.1) y6.1) y7.1, ())
abbrev ce134 : CE := .con true sg134 F134
theorem co134 : ConOK TT 134 sg134 F134 := con_fn (fn := inlF XX fn134) (ces := [(184, ce184), (185, ce185), (186, ce186), (183, ce183), (187, ce187), (40, ce40)]) (ents1 en184 (ents1 en185 (ents1 en186 (ents1 en183 (ents1 en187 (ents1 en40 ents0)))))) hn134 pm134 (by kernel_rfl) rfl rfl (fun x => by kernel_rfl)
theorem en134 : EntOK TT 134 ce134 := ent_fz co134 (by kernel_rfl) rfl rfl rfl
/- spec.Decode -/
def hn56 : Hints := [(2, KMessage, true), (6, KMessage, true), (23, KMessage, true), (33, KMessage, true), (80, (.sl 3 KEntry), true), (82, (.sl 3 KEntry), true), (83, (.sl 3 KEntry), true), (89, (.sl 1 I), true), (96, KMessage, true), (113, KMessage, true), (114, KMessage, true)]
def pm56 : List Nat := [10]
abbrev sg56 : Sig := ⟨[.dat .str], [KMessage, .bool]⟩
def F56 (x : List UInt8 × Unit) : Option (TMessage × Bool × Unit) :=
  bindK (F129 ((x.1, 0, false, ()), 3, ())) fun y0 =>
  bif y0.2.1.2.2.1 then some ((0, 0, 0, 0, 0, 0, 0, false, [], [], litS [], false, ()), false, ()) else idxK y0.1 0 fun y1 =>
  idxK y0.1 1 fun y2 =>
  idxK y0.1 2 fun y3 =>
  bindK (F130 y0.2) fun y4 =>
  bindK (F130 y4.2) fun y5 =>
  bindK (F130 y5.2) fun y6 =>
  bindK (F130 y6.2) fun y7 =>
  bindK (F129 (y7.2.1, 1, ())) fun y8 =>
  bindK (F129 (y8.2.1, 1, ())) fun y9 =>
  bindK (F130 y9.2) fun y10 =>
  loopF (fun rec11 (s12 : Int × TReader × TMessage × TMessage × Unit) =>
  bindK (bif iLt s12.1 y10.1 then some (bNot s12.2.1.2.2.1) else some false) fun y13 =>
  bindK (bif y13 then some (iLe s12.1 4) else some false) fun y14 =>
  bif y14 then bindK (F132 (s12.2.1, ())) fun y15 =>
  bindK (F131 (y15.1, ())) fun y16 =>
  guardK (gApp s12.2.2.1.2.2.2.2.2.2.2.2.1 [y16.2.1] 3) <|
  rec11 (iAdd .i64 s12.1 1, y15.2.1, (s12.2.2.1.1, s12.2.2.1.2.1, s12.2.2.1.2.2.1, s12.2.2.1.2.2.2.1, s12.2.2.1.2.2.2.2.1, s12.2.2.1.2.2.2.2.2.1, s12.2.2.1.2.2.2.2.2.2.1, s12.2.2.1.2.2.2.2.2.2.2.1, cat s12.2.2.1.2.2.2.2.2.2.2.2.1 [y16.2.1], s12.2.2.1.2.2.2.2.2.2.2.2.2), s12.2.2.2) else bindK (F132 (s12.2.1, ())) fun y17 =>
  bindK (F133 (y17.1, ())) fun y18 =>
  bindK (F132 y17.2) fun y19 =>
  bindK (F134 ((s12.2.2.1.1, s12.2.2.1.2.1, s12.2.2.1.2.2.1, s12.2.2.1.2.2.2.1, s12.2.2.1.2.2.2.2.1, s12.2.2.1.2.2.2.2.2.1, s12.2.2.1.2.2.2.2.2.2.1, s12.2.2.1.2.2.2.2.2.2.2.1, s12.2.2.1.2.2.2.2.2.2.2.2.1, y18.1, y19.1, s12.2.2.1.2.2.2.2.2.2.2.2.2.2.2), ())) fun y20 =>
  bindK (bif y19.2.1.2.2.1 then some true else some (bNot y20.2.1)) fun y21 =>
  bindK (bif y21 then some true else some (bNot (strEq y20.1 x.1))) fun y22 =>
  bif y22 then some ((0, 0, 0, 0, 0, 0, 0, false, [], [], litS [], false, ()), false, ()) else some ((s12.2.2.1.1, s12.2.2.1.2.1, s12.2.2.1.2.2.1, s12.2.2.1.2.2.2.1, s12.2.2.1.2.2.2.2.1, s12.2.2.1.2.2.2.2.2.1, s12.2.2.1.2.2.2.2.2.2.1, s12.2.2.1.2.2.2.2.2.2.2.1, s12.2.2.1.2.2.2.2.2.2.2.2.1, y18.1, y19.1, s12.2.2.1.2.2.2.2.2.2.2.2.2.2.2), true, ())) NN (0, y10.2.1, (iConv .i64 (byteI y1), iConv .i64 (byteI y2), iConv .i64 (byteI y3), y4.1, y5.1, y6.1, y7.1, strEq y8.1 (litS [1]), [], [], litS [], strEq y9.1 (litS [1]), ()), (0, 0, 0, 0, 0, 0, 0, false, [], [], litS [], false, ()), ())
abbrev ce56 : CE := .con false sg56 F56
theorem co56 : ConOK TT 56 sg56 F56 := con_fn (fn := inlF XX fn56) (ces := [(129, ce129), (130, ce130), (131, ce131), (132, ce132), (133, ce133), (134, ce134)]) (ents1 en129 (ents1 en130 (ents1 en131 (ents1 en132 (ents1 en133 (ents1 en134 ents0)))))) hn56 pm56 (by kernel_rfl) rfl rfl (fun x => by kernel_rfl)
theorem en56 : EntOK TT 56 ce56 := ent_sep co56 (by kernel_rfl) rfl
/- impl.within -/
def hn87 : Hints := []
def pm87 : List Nat := []
abbrev sg87 : Sig := ⟨[.dat I, .dat I, .dat I], [.bool]⟩
def F87 (x : Int × Int × Int × Unit) : Option (Bool × Unit) :=
  bindK (bif iGe x.1 x.2.1 then some (iLe x.1 x.2.2.1) else some false) fun y0 =>
  some (y0, ())
abbrev ce87 : CE := .con true sg87 F87
theorem co87 : ConOK TT 87 sg87 F87 := con_fn (fn := inlF XX fn87) (ces := []) ents0 hn87 pm87 (by kernel_rfl) rfl rfl (fun x => by kernel_rfl)
theorem en87 : EntOK TT 87 ce87 := ent_fz co87 (by kernel_rfl) rfl rfl rfl
/- impl.VarText -/
def hn192 : Hints := [(4, (.sl 1 (.int .u8)), true), (10, (.sl 1 (.int .u8)), true), (15, (.sl 1 (.int .u8)), true), (16, (.sl 1 (.int .u8)), true), (19, (.sl 1 (.int .u8)), true), (22, (.sl 1 (.int .u8)), true), (23, (.sl 1 (.int .u8)), true)]
def pm192 : List Nat := []
abbrev sg192 : Sig := ⟨[.dat I], [.str, .bool]⟩
def F192 (x : Int × Unit) : Option (List UInt8 × Bool × Unit) :=
  bindK (F87 (x.1, 0, 1000000000, ())) fun y0 =>
  bif bNot y0.1 then some (litS [], false, ()) else loopF (fun rec1 (s2 : Int × List Int × Unit) =>
  bif iGt s2.1 127 then guardK (gNz 128) <|
  guardK (gApp s2.2.1 [iConv .u8 (iAdd .i64 (iRem s2.1 128) 128)] 1) <|
  guardK (gNz 128) <|
  rec1 (iQuo .i64 s2.1 128, cat s2.2.1 [iConv .u8 (iAdd .i64 (iRem s2.1 128) 128)], ()) else guardK (gApp s2.2.1 [iConv .u8 s2.1] 1) <|
  some (strP (cat s2.2.1 [iConv .u8 s2.1]), true, ())) NN (x.1, [], ())
abbrev ce192 : CE := .con true sg192 F192
theorem co192 : ConOK TT 192 sg192 F192 := con_fn (fn := inlF XX fn192) (ces := [(87, ce87)]) (ents1 en87 ents0) hn192 pm192 (by kernel_rfl) rfl rfl (fun x => by kernel_rfl)
theorem en192 : EntOK TT 192 ce192 := ent_fz co192 (by kernel_rfl) rfl rfl rfl
/- impl.ReadVar -/
def hn188 : Hints := []
def pm188 : List Nat := []
abbrev sg188 : Sig := ⟨[.dat .str, .dat I], [I, I, .bool]⟩
def F188 (x : List UInt8 × Int × Unit) : Option (Int × Int × Bool × Unit) :=
  bindK (F87 (x.2.1, 0, lenI x.1, ())) fun y0 =>
  bif bNot y0.1 then some (0, 0, false, ()) else loopF (fun rec1 (s2 : Int × Int × Unit) =>
  bindK (bif iLt s2.2.1 5 then some (iLt (iAdd .i64 x.2.1 s2.2.1) (lenI x.1)) else some false) fun y3 =>
  bif y3 then idxK x.1 (iAdd .i64 x.2.1 s2.2.1) fun y4 =>
  guardK (gNz 128) <|
  guardK (gNn (iMul .i64 7 s2.2.1)) <|
  bif iLt (iConv .i64 (byteI y4)) 128 then bindK (F192 (iAdd .i64 s2.1 (iShl .i64 (iRem (iConv .i64 (byteI y4)) 128) (iMul .i64 7 s2.2.1)), ())) fun y5 =>
  bindK (bif bNot y5.2.1 then some true else some (iNe (lenI y5.1) (iAdd .i64 s2.2.1 1))) fun y6 =>
  bif y6 then some (0, 0, false, ()) else some (iAdd .i64 s2.1 (iShl .i64 (iRem (iConv .i64 (byteI y4)) 128) (iMul .i64 7 s2.2.1)), iAdd .i64 (iAdd .i64 x.2.1 s2.2.1) 1, true, ()) else rec1 (iAdd .i64 s2.1 (iShl .i64 (iRem (iConv .i64 (byteI y4)) 128) (iMul .i64 7 s2.2.1)), iAdd .i64 s2.2.1 1, ()) else some (0, 0, false, ())) NN (0, 0, ())
abbrev ce188 : CE := .con true sg188 F188
theorem co188 : ConOK TT 188 sg188 F188 := con_fn (fn := inlF XX fn188) (ces := [(87, ce87), (192, ce192)]) (ents1 en87 (ents1 en192 ents0)) hn188 pm188 (by kernel_rfl) rfl rfl (fun x => by kernel_rfl)
theorem en188 : EntOK TT 188 ce188 := ent_fz co188 (by kernel_rfl) rfl rfl rfl
/- (*impl.reader).num -/
def hn136 : Hints := []
def pm136 : List Nat := []
abbrev sg136 : Sig := ⟨[.cell KReader], [I]⟩
def F136 (x : TReader × Unit) : Option (Int × TReader × Unit) :=
  bindK (F188 (x.1.1, x.1.2.1, ())) fun y0 =>
  bindK (bif x.1.2.2.1 then some true else some (bNot y0.2.2.1)) fun y1 =>
  bif y1 then some (0, (x.1.1, x.1.2.1, true, ()), ()) else some (y0.1, (x.1.1, y0.2.1, x.1.2.2), ())
abbrev ce136 : CE := .con false sg136 F136
theorem co136 : ConOK TT 136 sg136 F136 := con_fn (fn := inlF XX fn136) (ces := [(188, ce188)]) (ents1 en188 ents0) hn136 pm136 (by kernel_rfl) rfl rfl (fun x => by kernel_rfl)
theorem en136 : EntOK TT 136 ce136 := ent_sep co136 (by kernel_rfl) rfl
/- (*impl.reader).byte -/
def hn135 : Hints := []
def pm135 : List Nat := []
abbrev sg135 : Sig := ⟨[.cell KReader], [I]⟩
def F135 (x : TReader × Unit) : Option (Int × TReader × Unit) :=
  bindK (bif x.1.2.2.1 then some true else some (iGe x.1.2.1 (lenI x.1.1))) fun y0 =>
  bif y0 then some (0, (x.1.1, x.1.2.1, true, ()), ()) else idxK x.1.1 (iSub .i64 (iAdd .i64 x.1.2.1 1) 1) fun y1 =>
  some (iConv .i64 (byteI y1), (x.1.1, iAdd .i64 x.1.2.1 1, x.1.2.2), ())
abbrev ce135 : CE := .con false sg135 F135
theorem co135 : ConOK TT 135 sg135 F135 := con_fn (fn := inlF XX fn135) (ces := []) ents0 hn135 pm135 (by kernel_rfl) rfl rfl (fun x => by kernel_rfl)
theorem en135 : EntOK TT 135 ce135 := ent_sep co135 (by kernel_rfl) rfl
/- impl.ReadShort -/
def hn189 : Hints := []
def pm189 : List Nat := []
abbrev sg189 : Sig := ⟨[.dat .str, .dat I], [.str, I, .bool]⟩
def F189 (x : List UInt8 × Int × Unit) : Option (List UInt8 × Int × Bool × Unit) :=
  bindK (F188 x) fun y0 =>
  bindK (bif bNot y0.2.2.1 then some true else some (iGt y0.1 20000)) fun y1 =>
  bindK (bif y1 then some true else some (iGt y0.1 (iSub .i64 (lenI x.1) y0.2.1))) fun y2 =>
  bif y2 then some (litS [], 0, false, ()) else bndK (lenN x.1) y0.2.1 (iAdd .i64 y0.2.1 y0.1) fun l3 n4 =>
  some (sub x.1 l3 n4, iAdd .i64 y0.2.1 y0.1, true, ())
abbrev ce189 : CE := .con true sg189 F189
theorem co189 : ConOK TT 189 sg189 F189 := con_fn (fn := inlF XX fn189) (ces := [(188, ce188)]) (ents1 en188 ents0) hn189 pm189 (by kernel_rfl) rfl rfl (fun x => by kernel_rfl)
theorem en189 : EntOK TT 189 ce189 := ent_fz co189 (by kernel_rfl) rfl rfl rfl
/- (*impl.reader).text -/
def hn140 : Hints := []
def pm140 : List Nat := []
abbrev sg140 : Sig := ⟨[.cell KReader], [.str]⟩
def F140 (x : TReader × Unit) : Option (List UInt8 × TReader × Unit) :=
  bindK (F189 (x.1.1, x.1.2.1, ())) fun y0 =>
  bindK (bif x.1.2.2.1 then some true else some (bNot y0.2.2.1)) fun y1 =>
  bif y1 then some (litS [], (x.1.1, x.1.2.1, true, ()), ()) else some (y0.1, (x.1.1, y0.2.1, x.1.2.2), ())
abbrev ce140 : CE := .con false sg140 F140
theorem co140 : ConOK TT 140 sg140 F140 := con_fn (fn := inlF XX fn140) (ces := [(189, ce189)]) (ents1 en189 ents0) hn140 pm140 (by kernel_rfl) rfl rfl (fun x => by kernel_rfl)
theorem en140 : EntOK TT 140 ce140 := ent_sep co140 (by kernel_rfl) rfl
/- impl.ConfOk -/
def hn89 : Hints := [(5, (.sl 1 I), true), (19, (.sl 1 I), true), (29, (.sl 1 I), true)]
def pm89 : List Nat := []
abbrev sg89 : Sig := ⟨[.dat (.sl 1 I)], [.bool]⟩
def F89 (x : List Int × Unit) : Option (Bool × Unit) :=
  loopF (fun rec0 (s1 : Int × Unit) =>
  bif iLt s1.1 (lenI x.1) then idxK x.1 s1.1 fun y2 =>
  bindK (F87 (y2, 1, 4, ())) fun y3 =>
  bindK (bif bNot y3.1 then some true else bindK (bif iGt s1.1 0 then idxK x.1 (iSub .i64 s1.1 1) fun y4 =>
  some (iGe y4 y2) else some false) fun y5 =>
  some y5) fun y6 =>
  bif y6 then some (false, ()) else rec0 (iAdd .i64 s1.1 1, ()) else bindK (F87 (lenI x.1, 1, 4, ())) fun y7 =>
  some y7) NN (0, ())
abbrev ce89 : CE := .con true sg89 F89
theorem co89 : ConOK TT 89 sg89 F89 := con_fn (fn := inlF XX fn89) (ces := [(87, ce87)]) (ents1 en87 ents0) hn89 pm89 (by kernel_rfl) rfl rfl (fun x => by kernel_rfl)
theorem en89 : EntOK TT 89 ce89 := ent_fz co89 (by kernel_rfl) rfl rfl rfl
/- impl.ReadConf -/
def hn110 : Hints := [(2, (.sl 1 I), true), (4, (.sl 1 I), true), (12, (.sl 1 I), true), (17, (.sl 1 I), true), (18, (.sl 1 I), true), (19, (.sl 1 I), true), (22, (.sl 1 I), true)]
def pm110 : List Nat := []
abbrev sg110 : Sig := ⟨[.dat .str], [(.sl 1 I), .bool]⟩
def F110 (x : List UInt8 × Unit) : Option (List Int × Bool × Unit) :=
  loopF (fun rec0 (s1 : Int × List Int × Unit) =>
  bif iLt s1.1 (lenI x.1) then idxK x.1 s1.1 fun y2 =>
  guardK (gApp s1.2.1 [iConv .i64 (byteI y2)] 1) <|
  rec0 (iAdd .i64 s1.1 1, cat s1.2.1 [iConv .i64 (byteI y2)], ()) else bindK (F89 s1.2) fun y3 =>
  bif bNot y3.1 then some ([], false, ()) else some (s1.2.1, true, ())) NN (0, [], ())
abbrev ce110 : CE := .con false sg110 F110
theorem co110 : ConOK TT 110 sg110 F110 := con_fn (fn := inlF XX fn110) (ces := [(89, ce89)]) (ents1 en89 ents0) hn110 pm110 (by kernel_rfl) rfl rfl (fun x => by kernel_rfl)
theorem en110 : EntOK TT 110 ce110 := ent_sep co110 (by kernel_rfl) rfl
/- impl.EntryOk -/
def hn103 : Hints := [(3, (.sl 1 I), true), (22, (.sl 1 I), true)]
def pm103 : List Nat := [1]
abbrev sg103 : Sig := ⟨[.dat KEntry], [.bool]⟩
def F103 (x : TEntry × Unit) : Option (Bool × Unit) :=
  bindK (F87 (x.1.1, 0, 100000, ())) fun y0 =>
  bif bNot y0.1 then some (false, ()) else bif iEq x.1.2.1 1 then some (strEq x.1.2.2.1 (litS []), ()) else bif iEq x.1.2.1 2 then bindK (F110 x.1.2.2) fun y1 =>
  some y1.2 else bif iEq x.1.2.1 3 then some (iLe (lenI x.1.2.2.1) 120, ()) else some (false, ())
abbrev ce103 : CE := .con true sg103 F103
theorem co103 : ConOK TT 103 sg103 F103 := con_fn (fn := inlF XX fn103) (ces := [(87, ce87), (110, ce110)]) (ents1 en87 (ents1 en110 ents0)) hn103 pm103 (by kernel_rfl) rfl rfl (fun x => by kernel_rfl)
theorem en103 : EntOK TT 103 ce103 := ent_fz co103 (by kernel_rfl) rfl rfl rfl
/- impl.MessageOk -/
def hn190 : Hints := [(1, KMessage, true), (53, (.sl 3 KEntry), true), (66, (.sl 3 KEntry), true), (96, (.sl 1 I), true), (99, (.sl 1 I), true)]
def pm190 : List Nat := [5, 1]
abbrev sg190 : Sig := ⟨[.dat KMessage], [.bool]⟩
def F190 (x : TMessage × Unit) : Option (Bool × Unit) :=
  bindK (F87 (x.1.1, 1, 6, ())) fun y0 =>
  bindK (bif bNot y0.1 then some true else bindK (F87 (x.1.2.1, 1, 4, ())) fun y1 =>
  some (bNot y1.1)) fun y2 =>
  bindK (bif y2 then some true else bindK (F87 (x.1.2.2.1, 1, 4, ())) fun y3 =>
  some (bNot y3.1)) fun y4 =>
  bindK (bif y4 then some true else some (iEq x.1.2.1 x.1.2.2.1)) fun y5 =>
  bif y5 then some (false, ()) else bindK (F87 (x.1.2.2.2.1, 0, 100000, ())) fun y6 =>
  bindK (bif bNot y6.1 then some true else bindK (F87 (x.1.2.2.2.2.2.1, 0, 100000, ())) fun y7 =>
  some (bNot y7.1)) fun y8 =>
  bindK (bif y8 then some true else bindK (F87 (x.1.2.2.2.2.1, 0, 1000000, ())) fun y9 =>
  some (bNot y9.1)) fun y10 =>
  bindK (bif y10 then some true else bindK (F87 (x.1.2.2.2.2.2.2.1, 0, 1000000, ())) fun y11 =>
  some (bNot y11.1)) fun y12 =>
  bindK (bif y12 then some true else some (iGt (lenI x.1.2.2.2.2.2.2.2.2.1) 4)) fun y13 =>
  bindK (bif y13 then some true else some (iGt (lenI x.1.2.2.2.2.2.2.2.2.2.2.1) 60)) fun y14 =>
  bif y14 then some (false, ()) else loopF (fun rec15 (s16 : Int × Int × Unit) =>
  bif iLt s16.2.1 (lenI x.1.2.2.2.2.2.2.2.2.1) then idxK x.1.2.2.2.2.2.2.2.2.1 s16.2.1 fun y17 =>
  bindK (bif iNe x.1.1 3 then some true else bindK (F103 (y17, ())) fun y18 =>
  some (bNot y18.1)) fun y19 =>
  bindK (bif y19 then some true else bindK (F87 (y17.1, s16.1, x.1.2.2.2.1, ())) fun y20 =>
  some (bNot y20.1)) fun y21 =>
  bif y21 then some (false, ()) else rec15 (y17.1, iAdd .i64 s16.2.1 1, ()) else bif iEq x.1.1 5 then bindK (F89 (x.1.2.2.2.2.2.2.2.2.2.1, ())) fun y22 =>
  some y22 else bindK (bif iEq (lenI x.1.2.2.2.2.2.2.2.2.2.1) 0 then some (strEq x.1.2.2.2.2.2.2.2.2.2.2.1 (litS [])) else some false) fun y23 =>
  bindK (bif y23 then some (bNot x.1.2.2.2.2.2.2.2.2.2.2.2.1) else some false) fun y24 =>
  some (y24, ())) NN (x.1.2.2.2.2.2.1, 0, ())
abbrev ce190 : CE := .con true sg190 F190
theorem co190 : ConOK TT 190 sg190 F190 := con_fn (fn := inlF XX fn190) (ces := [(87, ce87), (103, ce103), (89, ce89)]) (ents1 en87 (ents1 en103 (ents1 en89 ents0))) hn190 pm190 (by kernel_rfl) rfl rfl (fun x => by kernel_rfl)
theorem en190 : EntOK TT 190 ce190 := ent_fz co190 (by kernel_rfl) rfl rfl rfl
/- impl.vars -/
def hn191 : Hints := [(4, (.sl 1 (.int .u8)), true), (9, (.sl 1 I), true), (22, (.sl 1 (.int .u8)), true), (24, (.sl 1 (.int .u8)), true), (26, (.sl 1 (.int .u8)), true)]
def pm191 : List Nat := []
abbrev sg191 : Sig := ⟨[.dat (.sl 1 I)], [.str, .bool]⟩
def F191 (x : List Int × Unit) : Option (List UInt8 × Bool × Unit) :=
  loopF (fun rec0 (s1 : Int × List Int × Unit) =>
  bif iLt s1.1 (lenI x.1) then idxK x.1 s1.1 fun y2 =>
  bindK (F192 (y2, ())) fun y3 =>
  bif bNot y3.2.1 then some (litS [], false, ()) else guardK (gApp s1.2.1 (bytesP y3.1) 1) <|
  rec0 (iAdd .i64 s1.1 1, cat s1.2.1 (bytesP y3.1), ()) else some (strP s1.2.1, true, ())) NN (0, [], ())
abbrev ce191 : CE := .con true sg191 F191
theorem co191 : ConOK TT 191 sg191 F191 := con_fn (fn := inlF XX fn191) (ces := [(192, ce192)]) (ents1 en192 ents0) hn191 pm191 (by kernel_rfl) rfl rfl (fun x => by kernel_rfl)
theorem en191 : EntOK TT 191 ce191 := ent_fz co191 (by kernel_rfl) rfl rfl rfl
/- impl.flag -/
def hn193 : Hints := []
def pm193 : List Nat := []
abbrev sg193 : Sig := ⟨[.dat .bool], [(.int .u8)]⟩
def F193 (x : Bool × Unit) : Option (Int × Unit) :=
  bif x.1 then some (1, ()) else some (0, ())
abbrev ce193 : CE := .con true sg193 F193
theorem co193 : ConOK TT 193 sg193 F193 := con_fn (fn := inlF XX fn193) (ces := []) ents0 hn193 pm193 (by kernel_rfl) rfl rfl (fun x => by kernel_rfl)
theorem en193 : EntOK TT 193 ce193 := ent_fz co193 (by kernel_rfl) rfl rfl rfl
/- impl.EntryText -/
def hn194 : Hints := [(20, (.sl 1 I), true), (29, (.sl 1 (.int .u8)), true)]
def pm194 : List Nat := [3]
abbrev sg194 : Sig := ⟨[.dat I, .dat KEntry], [.str, .bool]⟩
def F194 (x : Int × TEntry × Unit) : Option (List UInt8 × Bool × Unit) :=
  bindK (F103 x.2) fun y0 =>
  bindK (bif bNot y0.1 then some true else bindK (F87 (x.1, 1, 1000000, ())) fun y1 =>
  some (bNot y1.1)) fun y2 =>
  bif y2 then some (litS [], false, ()) else bindK (F191 ([x.1, x.2.1.1], ())) fun y3 =>
  guardK (gCat (litS [69]) y3.1) <|
  guardK (gCat (cat (litS [69]) y3.1) (strP [iConv .u8 x.2.1.2.1])) <|
  guardK (gCat (cat (cat (litS [69]) y3.1) (strP [iConv .u8 x.2.1.2.1])) x.2.1.2.2.1) <|
  some (cat (cat (cat (litS [69]) y3.1) (strP [iConv .u8 x.2.1.2.1])) x.2.1.2.2.1, true, ())
abbrev ce194 : CE := .con true sg194 F194
theorem co194 : ConOK TT 194 sg194 F194 := con_fn (fn := inlF XX fn194) (ces := [(87, ce87), (103, ce103), (191, ce191)]) (ents1 en87 (ents1 en103 (ents1 en191 ents0))) hn194 pm194 (by kernel_rfl) rfl rfl (fun x => by kernel_rfl)
theorem en194 : EntOK TT 194 ce194 := ent_fz co194 (by kernel_rfl) rfl rfl rfl
/- impl.ShortText -/
def hn195 : Hints := []
def pm195 : List Nat := []
abbrev sg195 : Sig := ⟨[.dat .str], [.str, .bool]⟩
def F195 (x : List UInt8 × Unit) : Option (List UInt8 × Bool × Unit) :=
  bif iGt (lenI x.1) 20000 then some (litS [], false, ()) else bindK (F192 (lenI x.1, ())) fun y0 =>
  guardK (gCat y0.1 x.1) <|
  some (cat y0.1 x.1, true, ())
abbrev ce195 : CE := .con true sg195 F195
theorem co195 : ConOK TT 195 sg195 F195 := con_fn (fn := inlF XX fn195) (ces := [(192, ce192)]) (ents1 en192 ents0) hn195 pm195 (by kernel_rfl) rfl rfl (fun x => by kernel_rfl)
theorem en195 : EntOK TT 195 ce195 := ent_fz co195 (by kernel_rfl) rfl rfl rfl
/- impl.Encode -/
def hn141 : Hints := [(1, KMessage, true), (15, (.sl 1 (.int .u8)), true), (22, KMessage, true), (34, (.sl 1 I), true), (40, (.sl 3 KEntry), true), (54, (.sl 1 (.int .u8)), true), (64, (.sl 1 (.int .u8)), true), (70, (.sl 3 KEntry), true), (91, (.sl 1 I), true), (97, (.sl 1 (.int .u8)), true), (100, (.sl 1 (.int .u8)), true), (101, (.sl 1 (.int .u8)), true), (104, (.sl 1 (.int .u8)), true)]
def pm141 : List Nat := [10, 1]
abbrev sg141 : Sig := ⟨[.dat KMessage], [.str, .bool]⟩
def F141 (x : TMessage × Unit) : Option (List UInt8 × Bool × Unit) :=
  bindK (F190 x) fun y0 =>
  bif bNot y0.1 then some (litS [], false, ()) else bindK (F191 ([x.1.2.2.2.1, x.1.2.2.2.2.1, x.1.2.2.2.2.2.1, x.1.2.2.2.2.2.2.1], ())) fun y1 =>
  bindK (F192 (lenI x.1.2.2.2.2.2.2.2.2.1, ())) fun y2 =>
  guardK (gCat (strP [iConv .u8 x.1.1, iConv .u8 x.1.2.1, iConv .u8 x.1.2.2.1]) y1.1) <|
  bindK (F193 (x.1.2.2.2.2.2.2.2.1, ())) fun y3 =>
  bindK (F193 x.1.2.2.2.2.2.2.2.2.2.2.2) fun y4 =>
  guardK (gCat (cat (strP [iConv .u8 x.1.1, iConv .u8 x.1.2.1, iConv .u8 x.1.2.2.1]) y1.1) (strP [y3.1, y4.1])) <|
  guardK (gCat (cat (cat (strP [iConv .u8 x.1.1, iConv .u8 x.1.2.1, iConv .u8 x.1.2.2.1]) y1.1) (strP [y3.1, y4.1])) y2.1) <|
  loopF (fun rec5 (s6 : Int × List UInt8 × Unit) =>
  bif iLt s6.1 (lenI x.1.2.2.2.2.2.2.2.2.1) then idxK x.1.2.2.2.2.2.2.2.2.1 s6.1 fun y7 =>
  bindK (F194 (1, y7, ())) fun y8 =>
  bindK (F195 (y8.1, ())) fun y9 =>
  guardK (gCat s6.2.1 y9.1) <|
  rec5 (iAdd .i64 s6.1 1, cat s6.2.1 y9.1, ()) else loopF (fun rec10 (s11 : Int × List Int × Unit) =>
  bif iLt s11.1 (lenI x.1.2.2.2.2.2.2.2.2.2.1) then idxK x.1.2.2.2.2.2.2.2.2.2.1 s11.1 fun y12 =>
  guardK (gApp s11.2.1 [iConv .u8 y12] 1) <|
  rec10 (iAdd .i64 s11.1 1, cat s11.2.1 [iConv .u8 y12], ()) else bindK (F195 (strP s11.2.1, ())) fun y13 =>
  bindK (F195 (x.1.2.2.2.2.2.2.2.2.2.2.1, ())) fun y14 =>
  guardK (gCat s6.2.1 y13.1) <|
  guardK (gCat (cat s6.2.1 y13.1) y14.1) <|
  some (cat (cat s6.2.1 y13.1) y14.1, true, ())) NN (0, [], ())) NN (0, cat (cat (cat (strP [iConv .u8 x.1.1, iConv .u8 x.1.2.1, iConv .u8 x.1.2.2.1]) y1.1) (strP [y3.1, y4.1])) y2.1, ())
abbrev ce141 : CE := .con true sg141 F141
theorem co141 : ConOK TT 141 sg141 F141 := con_fn (fn := inlF XX fn141) (ces := [(190, ce190), (191, ce191), (192, ce192), (193, ce193), (194, ce194), (195, ce195)]) (ents1 en190 (ents1 en191 (ents1 en192 (ents1 en193 (ents1 en194 (ents1 en195 ents0)))))) hn141 pm141 (by kernel_rfl) rfl rfl (fun x => by kernel_rfl)
theorem en141 : EntOK TT 141 ce141 := ent_fz co141 (by kernel_rfl) rfl rfl rfl
/- impl.ReadEntry -/
def hn139 : Hints := []
def pm139 : List Nat := []
abbrev sg139 : Sig := ⟨[.dat .str], [I, KEntry, .bool]⟩
def F139 (x : List UInt8 × Unit) : Option (Int × TEntry × Bool × Unit) :=
  bindK (F135 ((x.1, 0, false, ()), ())) fun y0 =>
  bindK (F136 y0.2) fun y1 =>
  bindK (F136 y1.2) fun y2 =>
  bindK (F135 y2.2) fun y3 =>
  bindK (bif y3.2.1.2.2.1 then some true else some (iNe y0.1 69)) fun y4 =>
  bif y4 then some (0, (0, 0, litS [], ()), false, ()) else bndK (lenN x.1) y3.2.1.2.1 (ofN (lenN x.1)) fun l5 n6 =>
  bindK (F103 ((y2.1, y3.1, sub x.1 l5 n6, ()), ())) fun y7 =>
  bindK (bif bNot y7.1 then some true else bindK (F87 (y1.1, 1, 1000000, ())) fun y8 =>
  some (bNot y8.1)) fun y9 =>
  bif y9 then some (0, (0, 0, litS [], ()), false, ()) else some (y1.1, (y2.1, y3.1, sub x.1 l5 n6, ()), true, ())
abbrev ce139 : CE := .con true sg139 F139
theorem co139 : ConOK TT 139 sg139 F139 := con_fn (fn := inlF XX fn139) (ces := [(135, ce135), (136, ce136), (87, ce87), (103, ce103)]) (ents1 en135 (ents1 en136 (ents1 en87 (ents1 en103 ents0)))) hn139 pm139 (by kernel_rfl) rfl rfl (fun x => by kernel_rfl)
theorem en139 : EntOK TT 139 ce139 := ent_fz co139 (by kernel_rfl) rfl rfl rfl
/- impl.Decode -/
def hn57 : Hints := [(2, KMessage, true), (5, KMessage, true), (27, KMessage, true), (41, (.sl 1 (.int .u8)), true), (48, (.sl 1 I), true), (51, (.sl 1 I), true), (52, (.sl 1 I), true), (59, KMessage, true), (76, KMessage, true), (77, KMessage, true), (131096, (.sl 3 KEntry), true), (131098, (.sl 3 KEntry), true), (131099, (.sl 3 KEntry), true)]
def pm57 : List Nat := []
abbrev sg57 : Sig := ⟨[.dat .str], [KMessage, .bool]⟩
def F57 (x : List UInt8 × Unit) : Option (TMessage × Bool × Unit) :=
  bindK (F135 ((x.1, 0, false, ()), ())) fun y0 =>
  bindK (F135 y0.2) fun y1 =>
  bindK (F135 y1.2) fun y2 =>
  bindK (F136 y2.2) fun y3 =>
  bindK (F136 y3.2) fun y4 =>
  bindK (F136 y4.2) fun y5 =>
  bindK (F136 y5.2) fun y6 =>
  bindK (F135 y6.2) fun y7 =>
  bindK (F135 y7.2) fun y8 =>
  bindK (F136 y8.2) fun y9 =>
  loopF (fun rec10 (s11 : Int × TReader × TMessage × TMessage × Unit) =>
  bindK (bif iLt s11.1 y9.1 then some (bNot s11.2.1.2.2.1) else some false) fun y12 =>
  bif y12 then bindK (F140 (s11.2.1, ())) fun y13 =>
  bindK (F139 (y13.1, ())) fun y14 =>
  bindK (bif y13.2.1.2.2.1 then some true else some (bNot y14.2.2.1)) fun y15 =>
  guardK (gApp s11.2.2.1.2.2.2.2.2.2.2.2.1 [y14.2.1] 3) <|
  rec10 (iAdd .i64 s11.1 1, (y13.2.1.1, y13.2.1.2.1, y15, ()), (s11.2.2.1.1, s11.2.2.1.2.1, s11.2.2.1.2.2.1, s11.2.2.1.2.2.2.1, s11.2.2.1.2.2.2.2.1, s11.2.2.1.2.2.2.2.2.1, s11.2.2.1.2.2.2.2.2.2.1, s11.2.2.1.2.2.2.2.2.2.2.1, cat s11.2.2.1.2.2.2.2.2.2.2.2.1 [y14.2.1], s11.2.2.1.2.2.2.2.2.2.2.2.2), s11.2.2.2) else bindK (F140 (s11.2.1, ())) fun y16 =>
  guardK (gS2b y16.1) <|
  loopF (fun rec17 (s18 : Int × TMessage × TMessage × TReader × List Int × Unit) =>
  bif iLt s18.1 (lenI (bytesP y16.1)) then idxK s18.2.2.2.2.1 s18.1 fun y19 =>
  guardK (gApp s18.2.1.2.2.2.2.2.2.2.2.2.1 [iConv .i64 y19] 1) <|
  rec17 (iAdd .i64 s18.1 1, (s18.2.1.1, s18.2.1.2.1, s18.2.1.2.2.1, s18.2.1.2.2.2.1, s18.2.1.2.2.2.2.1, s18.2.1.2.2.2.2.2.1, s18.2.1.2.2.2.2.2.2.1, s18.2.1.2.2.2.2.2.2.2.1, s18.2.1.2.2.2.2.2.2.2.2.1, cat s18.2.1.2.2.2.2.2.2.2.2.2.1 [iConv .i64 y19], s18.2.1.2.2.2.2.2.2.2.2.2.2), s18.2.2) else bindK (F140 (s18.2.2.2.1, ())) fun y20 =>
  bindK (F141 ((s18.2.1.1, s18.2.1.2.1, s18.2.1.2.2.1, s18.2.1.2.2.2.1, s18.2.1.2.2.2.2.1, s18.2.1.2.2.2.2.2.1, s18.2.1.2.2.2.2.2.2.1, s18.2.1.2.2.2.2.2.2.2.1, s18.2.1.2.2.2.2.2.2.2.2.1, s18.2.1.2.2.2.2.2.2.2.2.2.1, y20.1, s18.2.1.2.2.2.2.2.2.2.2.2.2.2), ())) fun y21 =>
  bindK (bif y20.2.1.2.2.1 then some true else some (bNot y21.2.1)) fun y22 =>
  bindK (bif y22 then some true else some (bNot (strEq y21.1 x.1))) fun y23 =>
  bif y23 then some ((0, 0, 0, 0, 0, 0, 0, false, [], [], litS [], false, ()), false, ()) else some ((s18.2.1.1, s18.2.1.2.1, s18.2.1.2.2.1, s18.2.1.2.2.2.1, s18.2.1.2.2.2.2.1, s18.2.1.2.2.2.2.2.1, s18.2.1.2.2.2.2.2.2.1, s18.2.1.2.2.2.2.2.2.2.1, s18.2.1.2.2.2.2.2.2.2.2.1, s18.2.1.2.2.2.2.2.2.2.2.2.1, y20.1, s18.2.1.2.2.2.2.2.2.2.2.2.2.2), true, ())) NN (0, s11.2.2.1, s11.2.2.2.1, y16.2.1, bytesP y16.1, ())) NN (0, y9.2.1, (y0.1, y1.1, y2.1, y3.1, y4.1, y5.1, y6.1, iEq y7.1 1, [], [], litS [], iEq y8.1 1, ()), (0, 0, 0, 0, 0, 0, 0, false, [], [], litS [], false, ()), ())
abbrev ce57 : CE := .con false sg57 F57
theorem co57 : ConOK TT 57 sg57 F57 := con_fn (fn := inlF XX fn57) (ces := [(136, ce136), (135, ce135), (140, ce140), (141, ce141), (139, ce139)]) (ents1 en136 (ents1 en135 (ents1 en140 (ents1 en141 (ents1 en139 ents0))))) hn57 pm57 (by kernel_rfl) rfl rfl (fun x => by kernel_rfl)
theorem en57 : EntOK TT 57 ce57 := ent_sep co57 (by kernel_rfl) rfl
/- laws.eqEntry -/
def hn76 : Hints := []
def pm76 : List Nat := [2, 3]
abbrev sg76 : Sig := ⟨[.dat KEntry, .dat KEntry], [.bool]⟩
def F76 (x : TEntry × TEntry × Unit) : Option (Bool × Unit) :=
  bif iNe x.1.1 x.2.1.1 then some (false, ()) else bif iNe x.1.2.1 x.2.1.2.1 then some (false, ()) else bif bNot (strEq x.1.2.2.1 x.2.1.2.2.1) then some (false, ()) else some (true, ())
abbrev ce76 : CE := .con true sg76 F76
theorem co76 : ConOK TT 76 sg76 F76 := con_fn (fn := inlF XX fn76) (ces := []) ents0 hn76 pm76 (by kernel_rfl) rfl rfl (fun x => by kernel_rfl)
theorem en76 : EntOK TT 76 ce76 := ent_fz co76 (by kernel_rfl) rfl rfl rfl
/- laws.eqEntryS -/
def hn23 : Hints := [(6, (.sl 3 KEntry), true), (8, (.sl 3 KEntry), true), (12, (.sl 3 KEntry), true), (17, (.sl 3 KEntry), true), (21, (.sl 3 KEntry), true)]
def pm23 : List Nat := []
abbrev sg23 : Sig := ⟨[.dat (.sl 3 KEntry), .dat (.sl 3 KEntry)], [.bool]⟩
def F23 (x : List TEntry × List TEntry × Unit) : Option (Bool × Unit) :=
  bif iNe (lenI x.1) (lenI x.2.1) then some (false, ()) else loopF (fun rec0 (s1 : Int × Unit) =>
  bif iLt s1.1 (lenI x.1) then idxK x.1 s1.1 fun y2 =>
  idxK x.2.1 s1.1 fun y3 =>
  bindK (F76 (y2, y3, ())) fun y4 =>
  bif bNot y4.1 then some (false, ()) else rec0 (iAdd .i64 s1.1 1, ()) else some (true, ())) NN (0, ())
abbrev ce23 : CE := .con true sg23 F23
theorem co23 : ConOK TT 23 sg23 F23 := con_fn (fn := inlF XX fn23) (ces := [(76, ce76)]) (ents1 en76 ents0) hn23 pm23 (by kernel_rfl) rfl rfl (fun x => by kernel_rfl)
theorem en23 : EntOK TT 23 ce23 := ent_fz co23 (by kernel_rfl) rfl rfl rfl
/- laws.eqIntS -/
def hn52 : Hints := [(6, (.sl 1 I), true), (8, (.sl 1 I), true), (12, (.sl 1 I), true), (17, (.sl 1 I), true), (21, (.sl 1 I), true)]
def pm52 : List Nat := []
abbrev sg52 : Sig := ⟨[.dat (.sl 1 I), .dat (.sl 1 I)], [.bool]⟩
def F52 (x : List Int × List Int × Unit) : Option (Bool × Unit) :=
  bif iNe (lenI x.1) (lenI x.2.1) then some (false, ()) else loopF (fun rec0 (s1 : Int × Unit) =>
  bif iLt s1.1 (lenI x.1) then idxK x.1 s1.1 fun y2 =>
  idxK x.2.1 s1.1 fun y3 =>
  bif iNe y2 y3 then some (false, ()) else rec0 (iAdd .i64 s1.1 1, ()) else some (true, ())) NN (0, ())
abbrev ce52 : CE := .con true sg52 F52
theorem co52 : ConOK TT 52 sg52 F52 := con_fn (fn := inlF XX fn52) (ces := []) ents0 hn52 pm52 (by kernel_rfl) rfl rfl (fun x => by kernel_rfl)
theorem en52 : EntOK TT 52 ce52 := ent_fz co52 (by kernel_rfl) rfl rfl rfl
/- laws.eqMessage -/
def hn58 : Hints := [(2, KMessage, true), (3, KMessage, true), (46, (.sl 3 KEntry), true), (48, (.sl 3 KEntry), true), (52, (.sl 1 I), true), (54, (.sl 1 I), true)]
def pm58 : List Nat := [2, 3]
abbrev sg58 : Sig := ⟨[.dat KMessage, .dat KMessage], [.bool]⟩
def F58 (x : TMessage × TMessage × Unit) : Option (Bool × Unit) :=
  bif iNe x.1.1 x.2.1.1 then some (false, ()) else bif iNe x.1.2.1 x.2.1.2.1 then some (false, ()) else bif iNe x.1.2.2.1 x.2.1.2.2.1 then some (false, ()) else bif iNe x.1.2.2.2.1 x.2.1.2.2.2.1 then some (false, ()) else bif iNe x.1.2.2.2.2.1 x.2.1.2.2.2.2.1 then some (false, ()) else bif iNe x.1.2.2.2.2.2.1 x.2.1.2.2.2.2.2.1 then some (false, ()) else bif iNe x.1.2.2.2.2.2.2.1 x.2.1.2.2.2.2.2.2.1 then some (false, ()) else bif bNe x.1.2.2.2.2.2.2.2.1 x.2.1.2.2.2.2.2.2.2.1 then some (false, ()) else bindK (F23 (x.1.2.2.2.2.2.2.2.2.1, x.2.1.2.2.2.2.2.2.2.2.1, ())) fun y0 =>
  bif bNot y0.1 then some (false, ()) else bindK (F52 (x.1.2.2.2.2.2.2.2.2.2.1, x.2.1.2.2.2.2.2.2.2.2.2.1, ())) fun y1 =>
  bif bNot y1.1 then some (false, ()) else bif bNot (strEq x.1.2.2.2.2.2.2.2.2.2.2.1 x.2.1.2.2.2.2.2.2.2.2.2.2.1) then some (false, ()) else bif bNe x.1.2.2.2.2.2.2.2.2.2.2.2.1 x.2.1.2.2.2.2.2.2.2.2.2.2.2.1 then some (false, ()) else some (true, ())
abbrev ce58 : CE := .con true sg58 F58
theorem co58 : ConOK TT 58 sg58 F58 := con_fn (fn := inlF XX fn58) (ces := [(23, ce23), (52, ce52)]) (ents1 en23 (ents1 en52 ents0)) hn58 pm58 (by kernel_rfl) rfl rfl (fun x => by kernel_rfl)
theorem en58 : EntOK TT 58 ce58 := ent_fz co58 (by kernel_rfl) rfl rfl rfl
/- laws.markText -/
def hn78 : Hints := [(12, (.sl 1 (.int .u8)), true)]
def pm78 : List Nat := []
abbrev sg78 : Sig := ⟨[.dat I], [.str]⟩
def F78 (x : Int × Unit) : Option (List UInt8 × Unit) :=
  bif iLe x.1 0 then some (litS [109, 48], ()) else loopF (fun rec0 (s1 : Int × List UInt8 × Unit) =>
  bif iGt s1.1 0 then guardK (gNz 10) <|
  guardK (gCat (strP [iConv .u8 (iAdd .i64 48 (iRem s1.1 10))]) s1.2.1) <|
  guardK (gNz 10) <|
  rec0 (iQuo .i64 s1.1 10, cat (strP [iConv .u8 (iAdd .i64 48 (iRem s1.1 10))]) s1.2.1, ()) else guardK (gCat (litS [109]) s1.2.1) <|
  some (cat (litS [109]) s1.2.1, ())) NN (x.1, litS [], ())
abbrev ce78 : CE := .con true sg78 F78
theorem co78 : ConOK TT 78 sg78 F78 := con_fn (fn := inlF XX fn78) (ces := []) ents0 hn78 pm78 (by kernel_rfl) rfl rfl (fun x => by kernel_rfl)
theorem en78 : EntOK TT 78 ce78 := ent_fz co78 (by kernel_rfl) rfl rfl rfl
/- laws.markEntryS -/
def hn26 : Hints := [(7, (.sl 3 KEntry), true), (12, (.sl 3 KEntry), true), (19, (.sl 3 KEntry), true), (26, (.sl 3 KEntry), true)]
def pm26 : List Nat := []
abbrev sg26 : Sig := ⟨[.kept (.sl 3 KEntry), .dat I], [I]⟩
def F26 (x : List TEntry × Int × Unit) : Option (Int × List TEntry × Unit) :=
  loopF (fun rec0 (s1 : Int × Int × List TEntry × Unit) =>
  bif iLt s1.1 (lenI s1.2.2.1) then idxK s1.2.2.1 s1.1 fun y2 =>
  idxK (setL s1.2.2.1 (toN s1.1) (s1.2.1, y2.2)) s1.1 fun y3 =>
  bindK (F78 (iAdd .i64 (iAdd .i64 s1.2.1 1) 1, ())) fun y4 =>
  idxK (setL (setL s1.2.2.1 (toN s1.1) (s1.2.1, y2.2)) (toN s1.1) (y3.1, iAdd .i64 s1.2.1 1, y3.2.2)) s1.1 fun y5 =>
  rec0 (iAdd .i64 s1.1 1, iAdd .i64 (iAdd .i64 (iAdd .i64 s1.2.1 1) 1) 1, setL (setL (setL s1.2.2.1 (toN s1.1) (s1.2.1, y2.2)) (toN s1.1) (y3.1, iAdd .i64 s1.2.1 1, y3.2.2)) (toN s1.1) (y5.1, y5.2.1, y4), ()) else some s1.2) NN (0, x.2.1, x.1, ())
abbrev ce26 : CE := .con false sg26 F26
theorem co26 : ConOK TT 26 sg26 F26 := con_fn (fn := inlF XX fn26) (ces := [(78, ce78)]) (ents1 en78 ents0) hn26 pm26 (by kernel_rfl) rfl rfl (fun x => by kernel_rfl)
theorem en26 : EntOK TT 26 ce26 := ent_sep co26 (by kernel_rfl) rfl
/- laws.markIntS -/
def hn53 : Hints := [(7, (.sl 1 I), true), (12, (.sl 1 I), true)]
def pm53 : List Nat := []
abbrev sg53 : Sig := ⟨[.kept (.sl 1 I), .dat I], [I]⟩
def F53 (x : List Int × Int × Unit) : Option (Int × List Int × Unit) :=
  loopF (fun rec0 (s1 : Int × Int × List Int × Unit) =>
  bif iLt s1.1 (lenI s1.2.2.1) then idxK s1.2.2.1 s1.1 fun y2 =>
  rec0 (iAdd .i64 s1.1 1, iAdd .i64 s1.2.1 1, setL s1.2.2.1 (toN s1.1) s1.2.1, ()) else some s1.2) NN (0, x.2.1, x.1, ())
abbrev ce53 : CE := .con false sg53 F53
theorem co53 : ConOK TT 53 sg53 F53 := con_fn (fn := inlF XX fn53) (ces := []) ents0 hn53 pm53 (by kernel_rfl) rfl rfl (fun x => by kernel_rfl)
theorem en53 : EntOK TT 53 ce53 := ent_sep co53 (by kernel_rfl) rfl
/- laws.heldEntryS -/
def hn27 : Hints := [(7, (.sl 3 KEntry), true), (12, (.sl 3 KEntry), true), (21, (.sl 3 KEntry), true), (30, (.sl 3 KEntry), true)]
def pm27 : List Nat := []
abbrev sg27 : Sig := ⟨[.dat (.sl 3 KEntry), .dat I], [I]⟩
def F27 (x : List TEntry × Int × Unit) : Option (Int × Unit) :=
  loopF (fun rec0 (s1 : Int × Int × Unit) =>
  bif iLt s1.1 (lenI x.1) then idxK x.1 s1.1 fun y2 =>
  bif iNe y2.1 s1.2.1 then some ((-1), ()) else idxK x.1 s1.1 fun y3 =>
  bif iNe y3.2.1 (iAdd .i64 s1.2.1 1) then some ((-1), ()) else idxK x.1 s1.1 fun y4 =>
  bindK (F78 (iAdd .i64 (iAdd .i64 s1.2.1 1) 1, ())) fun y5 =>
  bif bNot (strEq y4.2.2.1 y5.1) then some ((-1), ()) else rec0 (iAdd .i64 s1.1 1, iAdd .i64 (iAdd .i64 (iAdd .i64 s1.2.1 1) 1) 1, ()) else some s1.2) NN (0, x.2)
abbrev ce27 : CE := .con true sg27 F27
theorem co27 : ConOK TT 27 sg27 F27 := con_fn (fn := inlF XX fn27) (ces := [(78, ce78)]) (ents1 en78 ents0) hn27 pm27 (by kernel_rfl) rfl rfl (fun x => by kernel_rfl)
theorem en27 : EntOK TT 27 ce27 := ent_fz co27 (by kernel_rfl) rfl rfl rfl
/- laws.heldIntS -/
def hn126 : Hints := [(7, (.sl 1 I), true), (12, (.sl 1 I), true)]
def pm126 : List Nat := []
abbrev sg126 : Sig := ⟨[.dat (.sl 1 I), .dat I], [I]⟩
def F126 (x : List Int × Int × Unit) : Option (Int × Unit) :=
  loopF (fun rec0 (s1 : Int × Int × Unit) =>
  bif iLt s1.1 (lenI x.1) then idxK x.1 s1.1 fun y2 =>
  bif iNe y2 s1.2.1 then some ((-1), ()) else rec0 (iAdd .i64 s1.1 1, iAdd .i64 s1.2.1 1, ()) else some s1.2) NN (0, x.2)
abbrev ce126 : CE := .con true sg126 F126
theorem co126 : ConOK TT 126 sg126 F126 := con_fn (fn := inlF XX fn126) (ces := []) ents0 hn126 pm126 (by kernel_rfl) rfl rfl (fun x => by kernel_rfl)
theorem en126 : EntOK TT 126 ce126 := ent_fz co126 (by kernel_rfl) rfl rfl rfl
/- laws.heldMessage -/
def hn60 : Hints := [(2, KMessage, true), (6, (.sl 3 KEntry), true), (12, (.sl 1 I), true)]
def pm60 : List Nat := [2]
abbrev sg60 : Sig := ⟨[.dat KMessage, .dat I], [I]⟩
def F60 (x : TMessage × Int × Unit) : Option (Int × Unit) :=
  bindK (F27 (x.1.2.2.2.2.2.2.2.2.1, x.2)) fun y0 =>
  bif iLt y0.1 0 then some ((-1), ()) else bindK (F126 (x.1.2.2.2.2.2.2.2.2.2.1, y0)) fun y1 =>
  bif iLt y1.1 0 then some ((-1), ()) else some y1
abbrev ce60 : CE := .con true sg60 F60
theorem co60 : ConOK TT 60 sg60 F60 := con_fn (fn := inlF XX fn60) (ces := [(27, ce27), (126, ce126)]) (ents1 en27 (ents1 en126 ents0)) hn60 pm60 (by kernel_rfl) rfl rfl (fun x => by kernel_rfl)
theorem en60 : EntOK TT 60 ce60 := ent_fz co60 (by kernel_rfl) rfl rfl rfl
/- laws.FnExactDecode -/
def hn10 : Hints := [(3, KMessage, true), (5, KMessage, true), (9, KMessage, true), (17, KMessage, true), (22, KMessage, true), (24, KMessage, true), (25, KMessage, true), (33, KMessage, true), (36, KMessage, true), (47, KMessage, true), (49, KMessage, true), (50, KMessage, true), (58, KMessage, true), (65538, KMessage, true), (65542, (.sl 3 KEntry), true), (65546, (.sl 1 I), true)]
def pm10 : List Nat := [3, 5, 9]
abbrev sg10 : Sig := ⟨[.dat .str], [.bool]⟩
def F10 (x : List UInt8 × Unit) : Option (Bool × Unit) :=
  bif iGt (lenI x.1) 1048576 then some (true, ()) else bindK (F56 x) fun y0 =>
  bindK (F57 x) fun y1 =>
  bindK (F58 (y1.1, y0.1, ())) fun y2 =>
  bindK (bif bNot y2.1 then some true else some (bNe y1.2.1 y0.2.1)) fun y3 =>
  bif y3 then some (false, ()) else bindK (F26 (y1.1.2.2.2.2.2.2.2.2.1, 1, ())) fun y4 =>
  bindK (F53 (y1.1.2.2.2.2.2.2.2.2.2.1, y4.1, ())) fun y5 =>
  bindK (F60 ((y1.1.1, y1.1.2.1, y1.1.2.2.1, y1.1.2.2.2.1, y1.1.2.2.2.2.1, y1.1.2.2.2.2.2.1, y1.1.2.2.2.2.2.2.1, y1.1.2.2.2.2.2.2.2.1, y4.2.1, y5.2.1, y1.1.2.2.2.2.2.2.2.2.2.2), 1, ())) fun y6 =>
  bif iLt y6.1 0 then some (false, ()) else bif iNe y6.1 y5.1 then some (false, ()) else bindK (F57 x) fun y7 =>
  bindK (F58 (y7.1, y0.1, ())) fun y8 =>
  bindK (bif bNot y8.1 then some true else some (bNe y7.2.1 y0.2.1)) fun y9 =>
  bif y9 then some (false, ()) else bindK (F60 ((y1.1.1, y1.1.2.1, y1.1.2.2.1, y1.1.2.2.2.1, y1.1.2.2.2.2.1, y1.1.2.2.2.2.2.1, y1.1.2.2.2.2.2.2.1, y1.1.2.2.2.2.2.2.2.1, y4.2.1, y5.2.1, y1.1.2.2.2.2.2.2.2.2.2.2), 1, ())) fun y10 =>
  bif iLt y10.1 0 then some (false, ()) else bif iNe y10.1 y5.1 then some (false, ()) else some (true, ())
abbrev ce10 : CE := .con true sg10 F10
theorem co10 : ConOK TT 10 sg10 F10 := con_fn (fn := inlF XX fn10) (ces := [(56, ce56), (57, ce57), (58, ce58), (26, ce26), (53, ce53), (60, ce60)]) (ents1 en56 (ents1 en57 (ents1 en58 (ents1 en26 (ents1 en53 (ents1 en60 ents0)))))) hn10 pm10 (by kernel_rfl) rfl rfl (fun x => by kernel_rfl)
theorem en10 : EntOK TT 10 ce10 := ent_fz co10 (by kernel_rfl) rfl rfl rfl
end
end Go.Proofs.Ytiamdibpgdkedaa.De
