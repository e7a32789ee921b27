/- The functions that FnExactNodeOk,FnExactNodeNew,FnExactSettle reaches, told as functions of data, and that the program does what they tell. -/
import Derived.Test.YtiamdibpgdkedaaNda
namespace Go.Proofs.Ytiamdibpgdkedaa.Nd
set_option linter.unusedVariables false
set_option linter.unusedSimpArgs false
set_option maxRecDepth 100000
open Go Go.Am

noncomputable section
theorem ents0 : ∀ p ∈ ([] : List (Nat × CE)), EntOK TT p.1 p.2 := fun p h => by cases h
theorem ents1 {a : Nat} {v : CE} {l : List (Nat × CE)} (h : EntOK TT a v) (k : ∀ p ∈ l, EntOK TT p.1 p.2) : ∀ p ∈ (a, v) :: l, EntOK TT p.1 p.2 := fun p hp => (List.mem_cons.1 hp).elim (fun e => e ▸ h) (k p)
/- laws.szIntS -/
def hn82 : Hints := [(6, (.sl 1 I), true)]
def pm82 : List Nat := []
abbrev sg82 : Sig := ⟨[.dat (.sl 1 I), .dat I], [I]⟩
def F82 (x : List Int × Int × Unit) : Option (Int × Unit) :=
  bif iLt (iSub .i64 x.2.1 (lenI x.1)) 0 then some ((-1), ()) else some (iSub .i64 x.2.1 (lenI x.1), ())
abbrev ce82 : CE := .con true sg82 F82
theorem co82 : ConOK TT 82 sg82 F82 := con_fn (fn := inlF XX fn82) (ces := []) ents0 hn82 pm82 (by kernel_rfl) rfl rfl (fun x => by kernel_rfl)
theorem en82 : EntOK TT 82 ce82 := ent_fz co82 (by kernel_rfl) rfl rfl rfl
/- laws.szEntry -/
def hn157 : Hints := []
def pm157 : List Nat := [2]
abbrev sg157 : Sig := ⟨[.dat KEntry, .dat I], [I]⟩
def F157 (x : TEntry × Int × Unit) : Option (Int × Unit) :=
  bif iLt (iSub .i64 x.2.1 (lenI x.1.2.2.1)) 0 then some ((-1), ()) else some (iSub .i64 x.2.1 (lenI x.1.2.2.1), ())
abbrev ce157 : CE := .con true sg157 F157
theorem co157 : ConOK TT 157 sg157 F157 := con_fn (fn := inlF XX fn157) (ces := []) ents0 hn157 pm157 (by kernel_rfl) rfl rfl (fun x => by kernel_rfl)
theorem en157 : EntOK TT 157 ce157 := ent_fz co157 (by kernel_rfl) rfl rfl rfl
/- laws.szEntryS -/
def hn178 : Hints := [(7, (.sl 3 KEntry), true), (13, (.sl 3 KEntry), true), (18, (.sl 3 KEntry), true)]
def pm178 : List Nat := []
abbrev sg178 : Sig := ⟨[.dat (.sl 3 KEntry), .dat I], [I]⟩
def F178 (x : List TEntry × Int × Unit) : Option (Int × Unit) :=
  bif iLt (iSub .i64 x.2.1 (lenI x.1)) 0 then some ((-1), ()) else loopF (fun rec0 (s1 : Int × Int × Unit) =>
  bif iLt s1.1 (lenI x.1) then idxK x.1 s1.1 fun y2 =>
  bindK (F157 (y2, s1.2)) fun y3 =>
  bif iLt y3.1 0 then some ((-1), ()) else rec0 (iAdd .i64 s1.1 1, y3) else some s1.2) NN (0, iSub .i64 x.2.1 (lenI x.1), ())
abbrev ce178 : CE := .con true sg178 F178
theorem co178 : ConOK TT 178 sg178 F178 := con_fn (fn := inlF XX fn178) (ces := [(157, ce157)]) (ents1 en157 ents0) hn178 pm178 (by kernel_rfl) rfl rfl (fun x => by kernel_rfl)
theorem en178 : EntOK TT 178 ce178 := ent_fz co178 (by kernel_rfl) rfl rfl rfl
/- laws.szLog -/
def hn113 : Hints := [(2, KLog, true), (6, (.sl 3 KEntry), true)]
def pm113 : List Nat := [2]
abbrev sg113 : Sig := ⟨[.dat KLog, .dat I], [I]⟩
def F113 (x : TLog × Int × Unit) : Option (Int × Unit) :=
  bindK (F178 (x.1.2.2.1, x.2)) fun y0 =>
  bif iLt y0.1 0 then some ((-1), ()) else some y0
abbrev ce113 : CE := .con true sg113 F113
theorem co113 : ConOK TT 113 sg113 F113 := con_fn (fn := inlF XX fn113) (ces := [(178, ce178)]) (ents1 en178 ents0) hn113 pm113 (by kernel_rfl) rfl rfl (fun x => by kernel_rfl)
theorem en113 : EntOK TT 113 ce113 := ent_fz co113 (by kernel_rfl) rfl rfl rfl
/- laws.szPeerS -/
def hn114 : Hints := [(6, (.sl 4 KPeer), true)]
def pm114 : List Nat := []
abbrev sg114 : Sig := ⟨[.dat (.sl 4 KPeer), .dat I], [I]⟩
def F114 (x : List TPeer × Int × Unit) : Option (Int × Unit) :=
  bif iLt (iSub .i64 x.2.1 (lenI x.1)) 0 then some ((-1), ()) else some (iSub .i64 x.2.1 (lenI x.1), ())
abbrev ce114 : CE := .con true sg114 F114
theorem co114 : ConOK TT 114 sg114 F114 := con_fn (fn := inlF XX fn114) (ces := []) ents0 hn114 pm114 (by kernel_rfl) rfl rfl (fun x => by kernel_rfl)
theorem en114 : EntOK TT 114 ce114 := ent_fz co114 (by kernel_rfl) rfl rfl rfl
/- laws.szNode -/
def hn46 : Hints := [(2, KNode, true), (6, (.sl 1 I), true), (12, KLog, true), (18, (.sl 1 I), true), (24, (.sl 4 KPeer), true)]
def pm46 : List Nat := [2]
abbrev sg46 : Sig := ⟨[.dat KNode, .dat I], [I]⟩
def F46 (x : TNode × Int × Unit) : Option (Int × Unit) :=
  bindK (F82 (x.1.2.2.2.2.2.1, x.2)) fun y0 =>
  bif iLt y0.1 0 then some ((-1), ()) else bindK (F113 ((x.1.2.2.2.2.2.2.1, x.1.2.2.2.2.2.2.2.1, x.1.2.2.2.2.2.2.2.2.1, ()), y0)) fun y1 =>
  bif iLt y1.1 0 then some ((-1), ()) else bindK (F82 (x.1.2.2.2.2.2.2.2.2.2.2.2.2.1, y1)) fun y2 =>
  bif iLt y2.1 0 then some ((-1), ()) else bindK (F114 (x.1.2.2.2.2.2.2.2.2.2.2.2.2.2.1, y2)) fun y3 =>
  bif iLt y3.1 0 then some ((-1), ()) else some y3
abbrev ce46 : CE := .con true sg46 F46
theorem co46 : ConOK TT 46 sg46 F46 := con_fn (fn := inlF XX fn46) (ces := [(82, ce82), (113, ce113), (114, ce114)]) (ents1 en82 (ents1 en113 (ents1 en114 ents0))) hn46 pm46 (by kernel_rfl) rfl rfl (fun x => by kernel_rfl)
theorem en46 : EntOK TT 46 ce46 := ent_fz co46 (by kernel_rfl) rfl rfl rfl
/- spec.l01In -/
def hn83 : Hints := []
def pm83 : List Nat := []
abbrev sg83 : Sig := ⟨[.dat I, .dat I, .dat I], [.bool]⟩
def F83 (x : Int × Int × Int × Unit) : Option (Bool × Unit) :=
  bindK (bif iGe x.1 x.2.1 then some (iLe x.1 x.2.2.1) else some false) fun y0 =>
  some (y0, ())
abbrev ce83 : CE := .con true sg83 F83
theorem co83 : ConOK TT 83 sg83 F83 := con_fn (fn := inlF XX fn83) (ces := []) ents0 hn83 pm83 (by kernel_rfl) rfl rfl (fun x => by kernel_rfl)
theorem en83 : EntOK TT 83 ce83 := ent_fz co83 (by kernel_rfl) rfl rfl rfl
/- spec.l05Rise -/
def hn117 : Hints := [(9, (.sl 1 I), true), (14, (.sl 1 I), true), (26, (.sl 1 I), true), (31, (.sl 1 I), true)]
def pm117 : List Nat := []
abbrev sg117 : Sig := ⟨[.dat (.sl 1 I), .dat I, .dat I], [.bool]⟩
def F117 (x : List Int × Int × Int × Unit) : Option (Bool × Unit) :=
  loopF (fun rec0 (s1 : Int × Unit) =>
  bif iLt s1.1 (lenI x.1) then idxK x.1 s1.1 fun y2 =>
  bindK (F83 (y2, x.2)) fun y3 =>
  bindK (bif bNot y3.1 then some true else bindK (bif iGt s1.1 0 then idxK x.1 (iSub .i64 s1.1 1) fun y4 =>
  idxK x.1 s1.1 fun y5 =>
  some (iGe y4 y5) else some false) fun y6 =>
  some y6) fun y7 =>
  bif y7 then some (false, ()) else rec0 (iAdd .i64 s1.1 1, ()) else some (true, ())) NN (0, ())
abbrev ce117 : CE := .con true sg117 F117
theorem co117 : ConOK TT 117 sg117 F117 := con_fn (fn := inlF XX fn117) (ces := [(83, ce83)]) (ents1 en83 ents0) hn117 pm117 (by kernel_rfl) rfl rfl (fun x => by kernel_rfl)
theorem en117 : EntOK TT 117 ce117 := ent_fz co117 (by kernel_rfl) rfl rfl rfl
/- spec.ConfOk -/
def hn85 : Hints := [(3, (.sl 1 I), true), (7, (.sl 1 I), true)]
def pm85 : List Nat := []
abbrev sg85 : Sig := ⟨[.dat (.sl 1 I)], [.bool]⟩
def F85 (x : List Int × Unit) : Option (Bool × Unit) :=
  bindK (F83 (lenI x.1, 1, 4, ())) fun y0 =>
  bindK (bif y0.1 then bindK (F117 (x.1, 1, 4, ())) fun y1 =>
  some y1.1 else some false) fun y2 =>
  some (y2, ())
abbrev ce85 : CE := .con true sg85 F85
theorem co85 : ConOK TT 85 sg85 F85 := con_fn (fn := inlF XX fn85) (ces := [(117, ce117), (83, ce83)]) (ents1 en117 (ents1 en83 ents0)) hn85 pm85 (by kernel_rfl) rfl rfl (fun x => by kernel_rfl)
theorem en85 : EntOK TT 85 ce85 := ent_fz co85 (by kernel_rfl) rfl rfl rfl
/- spec.ReadConf -/
def hn133 : Hints := [(2, (.sl 1 I), true), (4, (.sl 1 I), true), (6, (.sl 1 I), true), (17, (.sl 1 I), true), (22, (.sl 1 I), true), (23, (.sl 1 I), true), (24, (.sl 1 I), true), (30, (.sl 1 I), true), (34, (.sl 1 I), true), (35, (.sl 1 I), true)]
def pm133 : List Nat := []
abbrev sg133 : Sig := ⟨[.dat .str], [(.sl 1 I), .bool]⟩
def F133 (x : List UInt8 × Unit) : Option (List Int × Bool × Unit) :=
  loopF (fun rec0 (s1 : Int × List Int × Unit) =>
  bindK (bif iLt s1.1 (lenI x.1) then some (iLe s1.1 4) else some false) fun y2 =>
  bif y2 then idxK x.1 s1.1 fun y3 =>
  guardK (gApp s1.2.1 [iConv .i64 (byteI y3)] 1) <|
  rec0 (iAdd .i64 s1.1 1, cat s1.2.1 [iConv .i64 (byteI y3)], ()) else bindK (bif iNe (lenI s1.2.1) (lenI x.1) then some true else bindK (F85 s1.2) fun y4 =>
  some (bNot y4.1)) fun y5 =>
  bif y5 then some ([], false, ()) else some (s1.2.1, true, ())) NN (0, [], ())
abbrev ce133 : CE := .con false sg133 F133
theorem co133 : ConOK TT 133 sg133 F133 := con_fn (fn := inlF XX fn133) (ces := [(85, ce85)]) (ents1 en85 ents0) hn133 pm133 (by kernel_rfl) rfl rfl (fun x => by kernel_rfl)
theorem en133 : EntOK TT 133 ce133 := ent_sep co133 (by kernel_rfl) rfl
/- spec.EntryOk -/
def hn146 : Hints := [(3, (.sl 1 I), true), (22, (.sl 1 I), true)]
def pm146 : List Nat := [1]
abbrev sg146 : Sig := ⟨[.dat KEntry], [.bool]⟩
def F146 (x : TEntry × Unit) : Option (Bool × Unit) :=
  bindK (F83 (x.1.1, 0, 100000, ())) fun y0 =>
  bif bNot y0.1 then some (false, ()) else bif iEq x.1.2.1 1 then some (strEq x.1.2.2.1 (litS []), ()) else bif iEq x.1.2.1 2 then bindK (F133 x.1.2.2) fun y1 =>
  some y1.2 else bif iEq x.1.2.1 3 then some (iLe (lenI x.1.2.2.1) 120, ()) else some (false, ())
abbrev ce146 : CE := .con true sg146 F146
theorem co146 : ConOK TT 146 sg146 F146 := con_fn (fn := inlF XX fn146) (ces := [(83, ce83), (133, ce133)]) (ents1 en83 (ents1 en133 ents0)) hn146 pm146 (by kernel_rfl) rfl rfl (fun x => by kernel_rfl)
theorem en146 : EntOK TT 146 ce146 := ent_fz co146 (by kernel_rfl) rfl rfl rfl
/- spec.LogOk -/
def hn115 : Hints := [(1, KLog, true), (17, (.sl 3 KEntry), true), (25, (.sl 3 KEntry), true), (34, (.sl 3 KEntry), true), (40, (.sl 3 KEntry), true), (48, (.sl 3 KEntry), true), (57, (.sl 3 KEntry), true)]
def pm115 : List Nat := [1]
abbrev sg115 : Sig := ⟨[.dat KLog], [.bool]⟩
def F115 (x : TLog × Unit) : Option (Bool × Unit) :=
  bindK (F83 (x.1.1, 0, 1000000, ())) fun y0 =>
  bindK (bif bNot y0.1 then some true else bindK (F83 (x.1.2.1, 0, 100000, ())) fun y1 =>
  some (bNot y1.1)) fun y2 =>
  bindK (bif y2 then some true else some (iGt (lenI x.1.2.2.1) 60)) fun y3 =>
  bindK (bif y3 then some true else some (iGt (iAdd .i64 x.1.1 (lenI x.1.2.2.1)) 1000000)) fun y4 =>
  bif y4 then some (false, ()) else loopF (fun rec5 (s6 : Int × Int × Unit) =>
  bif iLt s6.2.1 (lenI x.1.2.2.1) then idxK x.1.2.2.1 s6.2.1 fun y7 =>
  bindK (F146 (y7, ())) fun y8 =>
  bindK (bif bNot y8.1 then some true else idxK x.1.2.2.1 s6.2.1 fun y9 =>
  some (iLt y9.1 s6.1)) fun y10 =>
  bif y10 then some (false, ()) else idxK x.1.2.2.1 s6.2.1 fun y11 =>
  rec5 (y11.1, iAdd .i64 s6.2.1 1, ()) else some (true, ())) NN (x.1.2.1, 0, ())
abbrev ce115 : CE := .con true sg115 F115
theorem co115 : ConOK TT 115 sg115 F115 := con_fn (fn := inlF XX fn115) (ces := [(83, ce83), (146, ce146)]) (ents1 en83 (ents1 en146 ents0)) hn115 pm115 (by kernel_rfl) rfl rfl (fun x => by kernel_rfl)
theorem en115 : EntOK TT 115 ce115 := ent_fz co115 (by kernel_rfl) rfl rfl rfl
/- spec.LogLast -/
def hn116 : Hints := [(1, KLog, true), (6, (.sl 3 KEntry), true), (19, (.sl 3 KEntry), true)]
def pm116 : List Nat := [1]
abbrev sg116 : Sig := ⟨[.dat KLog], [I, I]⟩
def F116 (x : TLog × Unit) : Option (Int × Int × Unit) :=
  bif iEq (lenI x.1.2.2.1) 0 then some (x.1.1, x.1.2.1, ()) else idxK x.1.2.2.1 (iSub .i64 (lenI x.1.2.2.1) 1) fun y0 =>
  some (iAdd .i64 x.1.1 (lenI x.1.2.2.1), y0.1, ())
abbrev ce116 : CE := .con true sg116 F116
theorem co116 : ConOK TT 116 sg116 F116 := con_fn (fn := inlF XX fn116) (ces := []) ents0 hn116 pm116 (by kernel_rfl) rfl rfl (fun x => by kernel_rfl)
theorem en116 : EntOK TT 116 ce116 := ent_fz co116 (by kernel_rfl) rfl rfl rfl
/- spec.l16Others -/
def hn118 : Hints := [(4, (.sl 1 I), true), (5, (.sl 1 I), true), (7, (.sl 1 I), true), (9, (.sl 1 I), true), (14, (.sl 1 I), true), (20, (.sl 1 I), true), (21, (.sl 1 I), true), (25, (.sl 1 I), true), (26, (.sl 1 I), true), (27, (.sl 1 I), true)]
def pm118 : List Nat := []
abbrev sg118 : Sig := ⟨[.dat (.sl 1 I), .dat I], [(.sl 1 I)]⟩
def F118 (x : List Int × Int × Unit) : Option (List Int × Unit) :=
  loopF (fun rec0 (s1 : Int × List Int × Unit) =>
  bif iLt s1.1 (lenI x.1) then idxK x.1 s1.1 fun y2 =>
  joinK (fun (s3 : List Int × Unit) =>
  rec0 (iAdd .i64 s1.1 1, s3)) fun k4 =>
  bif iNe y2 x.2.1 then idxK x.1 s1.1 fun y5 =>
  guardK (gApp s1.2.1 [y5] 1) <|
  k4 (cat s1.2.1 [y5], ()) else k4 s1.2 else some s1.2) NN (0, [], ())
abbrev ce118 : CE := .con false sg118 F118
theorem co118 : ConOK TT 118 sg118 F118 := con_fn (fn := inlF XX fn118) (ces := []) ents0 hn118 pm118 (by kernel_rfl) rfl rfl (fun x => by kernel_rfl)
theorem en118 : EntOK TT 118 ce118 := ent_sep co118 (by kernel_rfl) rfl
/- spec.ConfAt -/
def hn143 : Hints := [(2, KNode, true), (4, (.sl 1 I), true), (5, (.sl 1 I), true), (7, (.sl 1 I), true), (9, (.sl 1 I), true), (11, (.sl 1 I), true), (12, (.sl 1 I), true), (16, (.sl 3 KEntry), true), (33, (.sl 3 KEntry), true), (42, (.sl 3 KEntry), true), (48, (.sl 1 I), true), (51, (.sl 1 I), true), (52, (.sl 1 I), true)]
def pm143 : List Nat := [2]
abbrev sg143 : Sig := ⟨[.dat KNode, .dat I], [(.sl 1 I)]⟩
def F143 (x : TNode × Int × Unit) : Option (List Int × Unit) :=
  guardK (gApp [] x.1.2.2.2.2.2.1 1) <|
  loopF (fun rec0 (s1 : Int × List Int × Unit) =>
  bindK (bif iLt s1.1 (lenI x.1.2.2.2.2.2.2.2.2.1) then some (iLe (iAdd .i64 (iAdd .i64 x.1.2.2.2.2.2.2.1 1) s1.1) x.2.1) else some false) fun y2 =>
  bif y2 then idxK x.1.2.2.2.2.2.2.2.2.1 s1.1 fun y3 =>
  joinK (fun (s4 : List Int × Unit) =>
  rec0 (iAdd .i64 s1.1 1, s4)) fun k5 =>
  bif iEq y3.2.1 2 then idxK x.1.2.2.2.2.2.2.2.2.1 s1.1 fun y6 =>
  bindK (F133 y6.2.2) fun y7 =>
  bif y7.2.1 then k5 (y7.1, ()) else k5 s1.2 else k5 s1.2 else some s1.2) NN (0, cat [] x.1.2.2.2.2.2.1, ())
abbrev ce143 : CE := .con false sg143 F143
theorem co143 : ConOK TT 143 sg143 F143 := con_fn (fn := inlF XX fn143) (ces := [(133, ce133)]) (ents1 en133 ents0) hn143 pm143 (by kernel_rfl) rfl rfl (fun x => by kernel_rfl)
theorem en143 : EntOK TT 143 ce143 := ent_sep co143 (by kernel_rfl) rfl
/- spec.ConfOf -/
def hn119 : Hints := [(1, KNode, true), (2, (.sl 1 I), true), (3, KNode, true), (4, (.sl 1 I), true)]
def pm119 : List Nat := [1]
abbrev sg119 : Sig := ⟨[.dat KNode], [(.sl 1 I)]⟩
def F119 (x : TNode × Unit) : Option (List Int × Unit) :=
  bindK (F143 (x.1, 1000060, ())) fun y0 =>
  some y0
abbrev ce119 : CE := .con false sg119 F119
theorem co119 : ConOK TT 119 sg119 F119 := con_fn (fn := inlF XX fn119) (ces := [(143, ce143)]) (ents1 en143 ents0) hn119 pm119 (by kernel_rfl) rfl rfl (fun x => by kernel_rfl)
theorem en119 : EntOK TT 119 ce119 := ent_sep co119 (by kernel_rfl) rfl
/- spec.NodeOk -/
def hn47 : Hints := [(1, KNode, true), (5, (.sl 1 I), true), (14, (.sl 1 I), true), (20, KLog, true), (50, KLog, true), (82, (.sl 1 I), true), (88, (.sl 1 I), true), (97, (.sl 1 I), true), (101, KNode, true), (102, (.sl 1 I), true), (105, (.sl 1 I), true), (107, (.sl 4 KPeer), true), (109, (.sl 1 I), true), (113, (.sl 1 I), true), (119, (.sl 4 KPeer), true), (125, (.sl 1 I), true)]
def pm47 : List Nat := [7, 1]
abbrev sg47 : Sig := ⟨[.dat KNode], [.bool]⟩
def F47 (x : TNode × Unit) : Option (Bool × Unit) :=
  bindK (F83 (x.1.1, 1, 4, ())) fun y0 =>
  bindK (bif bNot y0.1 then some true else bindK (F85 (x.1.2.2.2.2.2.1, ())) fun y1 =>
  some (bNot y1.1)) fun y2 =>
  bindK (bif y2 then some true else bindK (F115 ((x.1.2.2.2.2.2.2.1, x.1.2.2.2.2.2.2.2.1, x.1.2.2.2.2.2.2.2.2.1, ()), ())) fun y3 =>
  some (bNot y3.1)) fun y4 =>
  bindK (bif y4 then some true else bindK (F83 (x.1.2.1, 0, 100000, ())) fun y5 =>
  some (bNot y5.1)) fun y6 =>
  bindK (bif y6 then some true else bindK (F83 (x.1.2.2.1, 0, 4, ())) fun y7 =>
  some (bNot y7.1)) fun y8 =>
  bindK (bif y8 then some true else bindK (F83 (x.1.2.2.2.2.1, 0, 4, ())) fun y9 =>
  some (bNot y9.1)) fun y10 =>
  bindK (bif y10 then some true else bindK (F83 (x.1.2.2.2.1, 0, 2, ())) fun y11 =>
  some (bNot y11.1)) fun y12 =>
  bif y12 then some (false, ()) else bindK (F116 ((x.1.2.2.2.2.2.2.1, x.1.2.2.2.2.2.2.2.1, x.1.2.2.2.2.2.2.2.2.1, ()), ())) fun y13 =>
  bindK (bif iLt x.1.2.1 y13.2.1 then some true else bindK (F83 (x.1.2.2.2.2.2.2.2.2.2.1, x.1.2.2.2.2.2.2.1, y13.1, ())) fun y14 =>
  some (bNot y14.1)) fun y15 =>
  bindK (bif y15 then some true else bindK (F83 (x.1.2.2.2.2.2.2.2.2.2.2.1, 0, 20, ())) fun y16 =>
  some (bNot y16.1)) fun y17 =>
  bindK (bif y17 then some true else bindK (F83 (x.1.2.2.2.2.2.2.2.2.2.2.2.1, 1, 20, ())) fun y18 =>
  some (bNot y18.1)) fun y19 =>
  bindK (bif y19 then some true else bindK (F117 (x.1.2.2.2.2.2.2.2.2.2.2.2.2.1, 1, 4, ())) fun y20 =>
  some (bNot y20.1)) fun y21 =>
  bindK (bif y21 then some true else bindK (bif iGt (lenI x.1.2.2.2.2.2.2.2.2.2.2.2.2.1) 0 then some (iNe x.1.2.2.2.1 1) else some false) fun y22 =>
  some y22) fun y23 =>
  bif y23 then some (false, ()) else joinK (fun (s24 : List Int × Unit) =>
  bif iNe (lenI x.1.2.2.2.2.2.2.2.2.2.2.2.2.2.1) (lenI s24.1) then some (false, ()) else loopF (fun rec25 (s26 : Int × List Int × Unit) =>
  bif iLt s26.1 (lenI s26.2.1) then idxK x.1.2.2.2.2.2.2.2.2.2.2.2.2.2.1 s26.1 fun y27 =>
  idxK s26.2.1 s26.1 fun y28 =>
  bindK (bif iNe y27.1 y28 then some true else bindK (F83 (y27.2.1, 1, iAdd .i64 y13.1 1, ())) fun y29 =>
  some (bNot y29.1)) fun y30 =>
  bindK (bif y30 then some true else bindK (F83 (y27.2.2.1, 0, iSub .i64 y27.2.1 1, ())) fun y31 =>
  some (bNot y31.1)) fun y32 =>
  bindK (bif y32 then some true else bindK (F83 (y27.2.2.2.1, 0, 20000, ())) fun y33 =>
  some (bNot y33.1)) fun y34 =>
  bif y34 then some (false, ()) else rec25 (iAdd .i64 s26.1 1, s26.2) else some (true, ())) NN (0, s24)) fun k35 =>
  bif iEq x.1.2.2.2.1 2 then bindK (F119 x) fun y36 =>
  bindK (F118 (y36.1, x.1.1, ())) fun y37 =>
  k35 y37 else k35 ([], ())
abbrev ce47 : CE := .con true sg47 F47
theorem co47 : ConOK TT 47 sg47 F47 := con_fn (fn := inlF XX fn47) (ces := [(83, ce83), (115, ce115), (85, ce85), (116, ce116), (117, ce117), (118, ce118), (119, ce119)]) (ents1 en83 (ents1 en115 (ents1 en85 (ents1 en116 (ents1 en117 (ents1 en118 (ents1 en119 ents0))))))) hn47 pm47 (by kernel_rfl) rfl rfl (fun x => by kernel_rfl)
theorem en47 : EntOK TT 47 ce47 := ent_fz co47 (by kernel_rfl) rfl rfl rfl
/- laws.toIntS -/
def hn51 : Hints := [(2, (.sl 1 I), true), (3, (.sl 1 I), true), (5, (.sl 1 I), true), (7, (.sl 1 I), true), (9, (.sl 1 I), true), (14, (.sl 1 I), true), (16, (.sl 1 I), true), (21, (.sl 1 I), true)]
def pm51 : List Nat := []
abbrev sg51 : Sig := ⟨[.dat (.sl 1 I)], [(.sl 1 I)]⟩
def F51 (x : List Int × Unit) : Option (List Int × Unit) :=
  guardK (gMk (lenI x.1) 1) <|
  loopF (fun rec0 (s1 : Int × List Int × Unit) =>
  bif iLt s1.1 (lenI x.1) then idxK x.1 s1.1 fun y2 =>
  idxK s1.2.1 s1.1 fun y3 =>
  rec0 (iAdd .i64 s1.1 1, setL s1.2.1 (toN s1.1) y2, ()) else some s1.2) NN (0, repL (toN (lenI x.1)) 0, ())
abbrev ce51 : CE := .con false sg51 F51
theorem co51 : ConOK TT 51 sg51 F51 := con_fn (fn := inlF XX fn51) (ces := []) ents0 hn51 pm51 (by kernel_rfl) rfl rfl (fun x => by kernel_rfl)
theorem en51 : EntOK TT 51 ce51 := ent_sep co51 (by kernel_rfl) rfl
/- laws.toEntry -/
def hn158 : Hints := []
def pm158 : List Nat := [1]
abbrev sg158 : Sig := ⟨[.dat KEntry], [KEntry]⟩
def F158 (x : TEntry × Unit) : Option (TEntry × Unit) :=
  some x
abbrev ce158 : CE := .con true sg158 F158
theorem co158 : ConOK TT 158 sg158 F158 := con_fn (fn := inlF XX fn158) (ces := []) ents0 hn158 pm158 (by kernel_rfl) rfl rfl (fun x => by kernel_rfl)
theorem en158 : EntOK TT 158 ce158 := ent_fz co158 (by kernel_rfl) rfl rfl rfl
/- laws.toEntryS -/
def hn179 : Hints := [(2, (.sl 3 KEntry), true), (3, (.sl 3 KEntry), true), (5, (.sl 3 KEntry), true), (7, (.sl 3 KEntry), true), (9, (.sl 3 KEntry), true), (14, (.sl 3 KEntry), true), (16, (.sl 3 KEntry), true), (22, (.sl 3 KEntry), true)]
def pm179 : List Nat := []
abbrev sg179 : Sig := ⟨[.dat (.sl 3 KEntry)], [(.sl 3 KEntry)]⟩
def F179 (x : List TEntry × Unit) : Option (List TEntry × Unit) :=
  guardK (gMk (lenI x.1) 3) <|
  loopF (fun rec0 (s1 : Int × List TEntry × Unit) =>
  bif iLt s1.1 (lenI x.1) then idxK x.1 s1.1 fun y2 =>
  bindK (F158 (y2, ())) fun y3 =>
  idxK s1.2.1 s1.1 fun y4 =>
  rec0 (iAdd .i64 s1.1 1, setL s1.2.1 (toN s1.1) y3.1, ()) else some s1.2) NN (0, repL (toN (lenI x.1)) (0, 0, litS [], ()), ())
abbrev ce179 : CE := .con false sg179 F179
theorem co179 : ConOK TT 179 sg179 F179 := con_fn (fn := inlF XX fn179) (ces := [(158, ce158)]) (ents1 en158 ents0) hn179 pm179 (by kernel_rfl) rfl rfl (fun x => by kernel_rfl)
theorem en179 : EntOK TT 179 ce179 := ent_sep co179 (by kernel_rfl) rfl
/- laws.toLog -/
def hn120 : Hints := [(1, KLog, true), (2, KLog, true), (3, KLog, true), (11, (.sl 3 KEntry), true), (12, (.sl 3 KEntry), true), (14, KLog, true)]
def pm120 : List Nat := [1]
abbrev sg120 : Sig := ⟨[.dat KLog], [KLog]⟩
def F120 (x : TLog × Unit) : Option (TLog × Unit) :=
  bindK (F179 x.1.2.2) fun y0 =>
  some ((x.1.1, x.1.2.1, y0), ())
abbrev ce120 : CE := .con false sg120 F120
theorem co120 : ConOK TT 120 sg120 F120 := con_fn (fn := inlF XX fn120) (ces := [(179, ce179)]) (ents1 en179 ents0) hn120 pm120 (by kernel_rfl) rfl rfl (fun x => by kernel_rfl)
theorem en120 : EntOK TT 120 ce120 := ent_sep co120 (by kernel_rfl) rfl
/- laws.toPeer -/
def hn180 : Hints := []
def pm180 : List Nat := [1]
abbrev sg180 : Sig := ⟨[.dat KPeer], [KPeer]⟩
def F180 (x : TPeer × Unit) : Option (TPeer × Unit) :=
  some x
abbrev ce180 : CE := .con true sg180 F180
theorem co180 : ConOK TT 180 sg180 F180 := con_fn (fn := inlF XX fn180) (ces := []) ents0 hn180 pm180 (by kernel_rfl) rfl rfl (fun x => by kernel_rfl)
theorem en180 : EntOK TT 180 ce180 := ent_fz co180 (by kernel_rfl) rfl rfl rfl
/- laws.toPeerS -/
def hn121 : Hints := [(2, (.sl 4 KPeer), true), (3, (.sl 4 KPeer), true), (5, (.sl 4 KPeer), true), (7, (.sl 4 KPeer), true), (9, (.sl 4 KPeer), true), (14, (.sl 4 KPeer), true), (16, (.sl 4 KPeer), true), (22, (.sl 4 KPeer), true)]
def pm121 : List Nat := []
abbrev sg121 : Sig := ⟨[.dat (.sl 4 KPeer)], [(.sl 4 KPeer)]⟩
def F121 (x : List TPeer × Unit) : Option (List TPeer × Unit) :=
  guardK (gMk (lenI x.1) 4) <|
  loopF (fun rec0 (s1 : Int × List TPeer × Unit) =>
  bif iLt s1.1 (lenI x.1) then idxK x.1 s1.1 fun y2 =>
  bindK (F180 (y2, ())) fun y3 =>
  idxK s1.2.1 s1.1 fun y4 =>
  rec0 (iAdd .i64 s1.1 1, setL s1.2.1 (toN s1.1) y3.1, ()) else some s1.2) NN (0, repL (toN (lenI x.1)) (0, 0, 0, 0, ()), ())
abbrev ce121 : CE := .con false sg121 F121
theorem co121 : ConOK TT 121 sg121 F121 := con_fn (fn := inlF XX fn121) (ces := [(180, ce180)]) (ents1 en180 ents0) hn121 pm121 (by kernel_rfl) rfl rfl (fun x => by kernel_rfl)
theorem en121 : EntOK TT 121 ce121 := ent_sep co121 (by kernel_rfl) rfl
/- laws.toNode -/
def hn48 : Hints := [(1, KNode, true), (2, KNode, true), (3, KNode, true), (20, (.sl 1 I), true), (21, (.sl 1 I), true), (24, KLog, true), (25, KLog, true), (37, (.sl 1 I), true), (38, (.sl 1 I), true), (41, (.sl 4 KPeer), true), (42, (.sl 4 KPeer), true), (44, KNode, true)]
def pm48 : List Nat := [1]
abbrev sg48 : Sig := ⟨[.dat KNode], [KNode]⟩
def F48 (x : TNode × Unit) : Option (TNode × Unit) :=
  bindK (F51 (x.1.2.2.2.2.2.1, ())) fun y0 =>
  bindK (F120 ((x.1.2.2.2.2.2.2.1, x.1.2.2.2.2.2.2.2.1, x.1.2.2.2.2.2.2.2.2.1, ()), ())) fun y1 =>
  bindK (F51 (x.1.2.2.2.2.2.2.2.2.2.2.2.2.1, ())) fun y2 =>
  bindK (F121 x.1.2.2.2.2.2.2.2.2.2.2.2.2.2) fun y3 =>
  some ((x.1.1, x.1.2.1, x.1.2.2.1, x.1.2.2.2.1, x.1.2.2.2.2.1, y0.1, y1.1.1, y1.1.2.1, y1.1.2.2.1, x.1.2.2.2.2.2.2.2.2.2.1, x.1.2.2.2.2.2.2.2.2.2.2.1, x.1.2.2.2.2.2.2.2.2.2.2.2.1, y2.1, y3), ())
abbrev ce48 : CE := .con false sg48 F48
theorem co48 : ConOK TT 48 sg48 F48 := con_fn (fn := inlF XX fn48) (ces := [(51, ce51), (120, ce120), (121, ce121)]) (ents1 en51 (ents1 en120 (ents1 en121 ents0))) hn48 pm48 (by kernel_rfl) rfl rfl (fun x => by kernel_rfl)
theorem en48 : EntOK TT 48 ce48 := ent_sep co48 (by kernel_rfl) rfl
/- impl.within -/
def hn87 : Hints := []
def pm87 : List Nat := []
abbrev sg87 : Sig := ⟨[.dat I, .dat I, .dat I], [.bool]⟩
def F87 (x : Int × Int × Int × Unit) : Option (Bool × Unit) :=
  bindK (bif iGe x.1 x.2.1 then some (iLe x.1 x.2.2.1) else some false) fun y0 =>
  some (y0, ())
abbrev ce87 : CE := .con true sg87 F87
theorem co87 : ConOK TT 87 sg87 F87 := con_fn (fn := inlF XX fn87) (ces := []) ents0 hn87 pm87 (by kernel_rfl) rfl rfl (fun x => by kernel_rfl)
theorem en87 : EntOK TT 87 ce87 := ent_fz co87 (by kernel_rfl) rfl rfl rfl
/- impl.ConfOk -/
def hn89 : Hints := [(5, (.sl 1 I), true), (19, (.sl 1 I), true), (29, (.sl 1 I), true)]
def pm89 : List Nat := []
abbrev sg89 : Sig := ⟨[.dat (.sl 1 I)], [.bool]⟩
def F89 (x : List Int × Unit) : Option (Bool × Unit) :=
  loopF (fun rec0 (s1 : Int × Unit) =>
  bif iLt s1.1 (lenI x.1) then idxK x.1 s1.1 fun y2 =>
  bindK (F87 (y2, 1, 4, ())) fun y3 =>
  bindK (bif bNot y3.1 then some true else bindK (bif iGt s1.1 0 then idxK x.1 (iSub .i64 s1.1 1) fun y4 =>
  some (iGe y4 y2) else some false) fun y5 =>
  some y5) fun y6 =>
  bif y6 then some (false, ()) else rec0 (iAdd .i64 s1.1 1, ()) else bindK (F87 (lenI x.1, 1, 4, ())) fun y7 =>
  some y7) NN (0, ())
abbrev ce89 : CE := .con true sg89 F89
theorem co89 : ConOK TT 89 sg89 F89 := con_fn (fn := inlF XX fn89) (ces := [(87, ce87)]) (ents1 en87 ents0) hn89 pm89 (by kernel_rfl) rfl rfl (fun x => by kernel_rfl)
theorem en89 : EntOK TT 89 ce89 := ent_fz co89 (by kernel_rfl) rfl rfl rfl
/- impl.ReadConf -/
def hn110 : Hints := [(2, (.sl 1 I), true), (4, (.sl 1 I), true), (12, (.sl 1 I), true), (17, (.sl 1 I), true), (18, (.sl 1 I), true), (19, (.sl 1 I), true), (22, (.sl 1 I), true)]
def pm110 : List Nat := []
abbrev sg110 : Sig := ⟨[.dat .str], [(.sl 1 I), .bool]⟩
def F110 (x : List UInt8 × Unit) : Option (List Int × Bool × Unit) :=
  loopF (fun rec0 (s1 : Int × List Int × Unit) =>
  bif iLt s1.1 (lenI x.1) then idxK x.1 s1.1 fun y2 =>
  guardK (gApp s1.2.1 [iConv .i64 (byteI y2)] 1) <|
  rec0 (iAdd .i64 s1.1 1, cat s1.2.1 [iConv .i64 (byteI y2)], ()) else bindK (F89 s1.2) fun y3 =>
  bif bNot y3.1 then some ([], false, ()) else some (s1.2.1, true, ())) NN (0, [], ())
abbrev ce110 : CE := .con false sg110 F110
theorem co110 : ConOK TT 110 sg110 F110 := con_fn (fn := inlF XX fn110) (ces := [(89, ce89)]) (ents1 en89 ents0) hn110 pm110 (by kernel_rfl) rfl rfl (fun x => by kernel_rfl)
theorem en110 : EntOK TT 110 ce110 := ent_sep co110 (by kernel_rfl) rfl
/- impl.EntryOk -/
def hn103 : Hints := [(3, (.sl 1 I), true), (22, (.sl 1 I), true)]
def pm103 : List Nat := [1]
abbrev sg103 : Sig := ⟨[.dat KEntry], [.bool]⟩
def F103 (x : TEntry × Unit) : Option (Bool × Unit) :=
  bindK (F87 (x.1.1, 0, 100000, ())) fun y0 =>
  bif bNot y0.1 then some (false, ()) else bif iEq x.1.2.1 1 then some (strEq x.1.2.2.1 (litS []), ()) else bif iEq x.1.2.1 2 then bindK (F110 x.1.2.2) fun y1 =>
  some y1.2 else bif iEq x.1.2.1 3 then some (iLe (lenI x.1.2.2.1) 120, ()) else some (false, ())
abbrev ce103 : CE := .con true sg103 F103
theorem co103 : ConOK TT 103 sg103 F103 := con_fn (fn := inlF XX fn103) (ces := [(87, ce87), (110, ce110)]) (ents1 en87 (ents1 en110 ents0)) hn103 pm103 (by kernel_rfl) rfl rfl (fun x => by kernel_rfl)
theorem en103 : EntOK TT 103 ce103 := ent_fz co103 (by kernel_rfl) rfl rfl rfl
/- impl.LogOk -/
def hn111 : Hints := [(1, KLog, true), (18, (.sl 3 KEntry), true), (26, (.sl 3 KEntry), true), (34, (.sl 3 KEntry), true)]
def pm111 : List Nat := [5, 1]
abbrev sg111 : Sig := ⟨[.dat KLog], [.bool]⟩
def F111 (x : TLog × Unit) : Option (Bool × Unit) :=
  bindK (F87 (x.1.1, 0, 1000000, ())) fun y0 =>
  bindK (bif bNot y0.1 then some true else bindK (F87 (x.1.2.1, 0, 100000, ())) fun y1 =>
  some (bNot y1.1)) fun y2 =>
  bindK (bif y2 then some true else some (iGt (lenI x.1.2.2.1) 60)) fun y3 =>
  bindK (bif y3 then some true else some (iGt (iAdd .i64 x.1.1 (lenI x.1.2.2.1)) 1000000)) fun y4 =>
  bif y4 then some (false, ()) else loopF (fun rec5 (s6 : Int × Int × Unit) =>
  bif iLt s6.2.1 (lenI x.1.2.2.1) then idxK x.1.2.2.1 s6.2.1 fun y7 =>
  bindK (F103 (y7, ())) fun y8 =>
  bindK (bif bNot y8.1 then some true else some (iLt y7.1 s6.1)) fun y9 =>
  bif y9 then some (false, ()) else rec5 (y7.1, iAdd .i64 s6.2.1 1, ()) else some (true, ())) NN (x.1.2.1, 0, ())
abbrev ce111 : CE := .con true sg111 F111
theorem co111 : ConOK TT 111 sg111 F111 := con_fn (fn := inlF XX fn111) (ces := [(87, ce87), (103, ce103)]) (ents1 en87 (ents1 en103 ents0)) hn111 pm111 (by kernel_rfl) rfl rfl (fun x => by kernel_rfl)
theorem en111 : EntOK TT 111 ce111 := ent_fz co111 (by kernel_rfl) rfl rfl rfl
/- impl.LogLast -/
def hn99 : Hints := [(1, KLog, true), (6, (.sl 3 KEntry), true), (19, (.sl 3 KEntry), true)]
def pm99 : List Nat := [1]
abbrev sg99 : Sig := ⟨[.dat KLog], [I, I]⟩
def F99 (x : TLog × Unit) : Option (Int × Int × Unit) :=
  bif iEq (lenI x.1.2.2.1) 0 then some (x.1.1, x.1.2.1, ()) else idxK x.1.2.2.1 (iSub .i64 (lenI x.1.2.2.1) 1) fun y0 =>
  some (iAdd .i64 x.1.1 (lenI x.1.2.2.1), y0.1, ())
abbrev ce99 : CE := .con true sg99 F99
theorem co99 : ConOK TT 99 sg99 F99 := con_fn (fn := inlF XX fn99) (ces := []) ents0 hn99 pm99 (by kernel_rfl) rfl rfl (fun x => by kernel_rfl)
theorem en99 : EntOK TT 99 ce99 := ent_fz co99 (by kernel_rfl) rfl rfl rfl
/- impl.last -/
def hn102 : Hints := [(1, KLog, true), (6, (.sl 3 KEntry), true)]
def pm102 : List Nat := [1]
abbrev sg102 : Sig := ⟨[.dat KLog], [I]⟩
def F102 (x : TLog × Unit) : Option (Int × Unit) :=
  some (iAdd .i64 x.1.1 (lenI x.1.2.2.1), ())
abbrev ce102 : CE := .con true sg102 F102
theorem co102 : ConOK TT 102 sg102 F102 := con_fn (fn := inlF XX fn102) (ces := []) ents0 hn102 pm102 (by kernel_rfl) rfl rfl (fun x => by kernel_rfl)
theorem en102 : EntOK TT 102 ce102 := ent_fz co102 (by kernel_rfl) rfl rfl rfl
/- slices.Equal[[]int,int] -/
def hn177 : Hints := [(6, (.sl 1 I), true), (8, (.sl 1 I), true), (11, (.sl 1 I), true), (16, (.sl 1 I), true), (20, (.sl 1 I), true)]
def pm177 : List Nat := []
abbrev sg177 : Sig := ⟨[.dat (.sl 1 I), .dat (.sl 1 I)], [.bool]⟩
def F177 (x : List Int × List Int × Unit) : Option (Bool × Unit) :=
  bif iNe (lenI x.1) (lenI x.2.1) then some (false, ()) else loopF (fun rec0 (s1 : Int × Unit) =>
  bif iLt s1.1 (lenI x.1) then idxK x.1 s1.1 fun y2 =>
  idxK x.2.1 s1.1 fun y3 =>
  bif iNe y2 y3 then some (false, ()) else rec0 (iAdd .i64 s1.1 1, ()) else some (true, ())) NN (0, ())
abbrev ce177 : CE := .con true sg177 F177
theorem co177 : ConOK TT 177 sg177 F177 := con_fn (fn := inlF XX fn177) (ces := []) ents0 hn177 pm177 (by kernel_rfl) rfl rfl (fun x => by kernel_rfl)
theorem en177 : EntOK TT 177 ce177 := ent_fz co177 (by kernel_rfl) rfl rfl rfl
/- slices.IndexFunc[[]int,int] -/
def hn203 : Hints := [(6, (.sl 1 I), true), (12, (.sl 1 I), true)]
def pm203 : List Nat := []
abbrev sg203 : Sig := ⟨[.dat (.sl 1 I), .raw], [I]⟩
abbrev ce203 : CE := .inl sg203 (inlF XX fn203) hn203 pm203
theorem en203 : EntOK TT 203 ce203 := ent_inl hn203 pm203 (by kernel_rfl) (by kernel_rfl) rfl rfl rfl rfl rfl
/- impl.ConfAt -/
def hn44 : Hints := [(2, KNode, true), (4, (.sl 1 I), true), (7, (.sl 1 I), true), (11, (.sl 3 KEntry), true), (20, (.sl 3 KEntry), true), (28, (.sl 1 I), true), (46, (.sl 1 I), true), (48, (.sl 1 I), true), (49, (.sl 1 I), true)]
def pm44 : List Nat := [6, 2]
abbrev sg44 : Sig := ⟨[.dat KNode, .dat I], [(.sl 1 I)]⟩
def F44 (x : TNode × Int × Unit) : Option (List Int × Unit) :=
  loopF (fun rec0 (s1 : Int × Unit) =>
  bif iGe s1.1 0 then idxK x.1.2.2.2.2.2.2.2.2.1 s1.1 fun y2 =>
  bindK (F110 y2.2.2) fun y3 =>
  bindK (bif y3.2.1 then some (iEq y2.2.1 2) else some false) fun y4 =>
  bindK (bif y4 then some (iLe (iAdd .i64 (iAdd .i64 x.1.2.2.2.2.2.2.1 s1.1) 1) x.2.1) else some false) fun y5 =>
  bif y5 then some (y3.1, ()) else rec0 (iSub .i64 s1.1 1, ()) else guardK (gApp [] x.1.2.2.2.2.2.1 1) <|
  some (cat [] x.1.2.2.2.2.2.1, ())) NN (iSub .i64 (lenI x.1.2.2.2.2.2.2.2.2.1) 1, ())
abbrev ce44 : CE := .con false sg44 F44
theorem co44 : ConOK TT 44 sg44 F44 := con_fn (fn := inlF XX fn44) (ces := [(110, ce110)]) (ents1 en110 ents0) hn44 pm44 (by kernel_rfl) rfl rfl (fun x => by kernel_rfl)
theorem en44 : EntOK TT 44 ce44 := ent_sep co44 (by kernel_rfl) rfl
/- impl.ConfOf -/
def hn43 : Hints := [(1, KNode, true), (2, (.sl 1 I), true), (3, KNode, true), (4, (.sl 1 I), true)]
def pm43 : List Nat := [1]
abbrev sg43 : Sig := ⟨[.dat KNode], [(.sl 1 I)]⟩
def F43 (x : TNode × Unit) : Option (List Int × Unit) :=
  bindK (F44 (x.1, 9223372036854775807, ())) fun y0 =>
  some y0
abbrev ce43 : CE := .con false sg43 F43
theorem co43 : ConOK TT 43 sg43 F43 := con_fn (fn := inlF XX fn43) (ces := [(44, ce44)]) (ents1 en44 ents0) hn43 pm43 (by kernel_rfl) rfl rfl (fun x => by kernel_rfl)
theorem en43 : EntOK TT 43 ce43 := ent_sep co43 (by kernel_rfl) rfl
/- impl.othersOf$1 -/
def hn172 : Hints := []
def pm172 : List Nat := []
abbrev sg172 : Sig := ⟨[.dat I, .raw], [.bool]⟩
abbrev ce172 : CE := .inl sg172 (inlF XX fn172) hn172 pm172
theorem en172 : EntOK TT 172 ce172 := ent_inl hn172 pm172 (by kernel_rfl) (by kernel_rfl) rfl rfl rfl rfl rfl
/- impl.othersOf -/
def hn100 : Hints := [(1, KNode, true), (2, (.sl 1 I), true), (3, KNode, true), (4, (.sl 1 I), true), (6, (.sl 1 I), true), (65540, (.sl 1 I), true), (65544, (.sl 1 I), true), (65549, (.sl 1 I), true), (65553, (.sl 1 I), true), (65558, (.sl 1 I), true), (65566, (.sl 1 I), true), (65572, (.sl 1 I), true), (65574, (.sl 1 I), true), (65575, (.sl 1 I), true), (65577, (.sl 1 I), true)]
def pm100 : List Nat := [1]
abbrev sg100 : Sig := ⟨[.dat KNode], [(.sl 1 I)]⟩
def F100 (x : TNode × Unit) : Option (List Int × Unit) :=
  bindK (F43 x) fun y0 =>
  bindK (loopF (fun rec1 (s2 : TNode × Int × Unit) =>
  bif iLt s2.2.1 (lenI y0.1) then idxK y0.1 s2.2.1 fun y3 =>
  bindK (some (iEq y3 s2.1.1, ())) fun y4 =>
  bif y4.1 then some s2.2 else rec1 (s2.1, iAdd .i64 s2.2.1 1, ()) else some ((-1), ())) NN (x.1, 0, ())) fun y5 =>
  bif iEq y5.1 (-1) then some y0 else loopF (fun rec6 (s7 : Int × Int × List Int × Unit) =>
  bif iLt s7.1 (lenI s7.2.2.1) then idxK s7.2.2.1 s7.1 fun y8 =>
  bindK (some (iEq y8 x.1.1, ())) fun y9 =>
  joinK (fun (s10 : Int × List Int × Unit) =>
  rec6 (iAdd .i64 s7.1 1, s10)) fun k11 =>
  bif bNot y9.1 then idxK s7.2.2.1 s7.2.1 fun y12 =>
  k11 (iAdd .i64 s7.2.1 1, setL s7.2.2.1 (toN s7.2.1) y8, ()) else k11 s7.2 else bndK (lenN s7.2.2.1) s7.2.1 (ofN (lenN s7.2.2.1)) fun l13 n14 =>
  bndK (lenN (cat (sub s7.2.2.1 0 l13) (cat (repL n14 0) (dropL (addN l13 n14) s7.2.2.1)))) 0 s7.2.1 fun l15 n16 =>
  some (sub (cat (sub s7.2.2.1 0 l13) (cat (repL n14 0) (dropL (addN l13 n14) s7.2.2.1))) l15 n16, ())) NN (iAdd .i64 y5.1 1, y5.1, y0)
abbrev ce100 : CE := .con false sg100 F100
theorem co100 : ConOK TT 100 sg100 F100 := con_fn (fn := inlF XX fn100) (ces := [(203, ce203), (43, ce43), (172, ce172)]) (ents1 en203 (ents1 en43 (ents1 en172 ents0))) hn100 pm100 (by kernel_rfl) rfl rfl (fun x => by kernel_rfl)
theorem en100 : EntOK TT 100 ce100 := ent_sep co100 (by kernel_rfl) rfl
/- impl.peersOk -/
def hn112 : Hints := [(1, KNode, true), (3, (.sl 1 I), true), (7, (.sl 4 KPeer), true), (13, (.sl 1 I), true), (16, (.sl 1 I), true), (17, (.sl 1 I), true), (21, KLog, true), (42, (.sl 1 I), true), (43, KNode, true), (44, (.sl 1 I), true)]
def pm112 : List Nat := [5, 1]
abbrev sg112 : Sig := ⟨[.dat KNode], [.bool]⟩
def F112 (x : TNode × Unit) : Option (Bool × Unit) :=
  loopF (fun rec0 (s1 : Int × List Int × Unit) =>
  bif iLt s1.1 (lenI x.1.2.2.2.2.2.2.2.2.2.2.2.2.2.1) then idxK x.1.2.2.2.2.2.2.2.2.2.2.2.2.2.1 s1.1 fun y2 =>
  guardK (gApp s1.2.1 [y2.1] 1) <|
  bindK (F102 ((x.1.2.2.2.2.2.2.1, x.1.2.2.2.2.2.2.2.1, x.1.2.2.2.2.2.2.2.2.1, ()), ())) fun y3 =>
  bindK (F87 (y2.2.1, 1, iAdd .i64 y3.1 1, ())) fun y4 =>
  bindK (bif bNot y4.1 then some true else bindK (F87 (y2.2.2.1, 0, iSub .i64 y2.2.1 1, ())) fun y5 =>
  some (bNot y5.1)) fun y6 =>
  bindK (bif y6 then some true else bindK (F87 (y2.2.2.2.1, 0, 20000, ())) fun y7 =>
  some (bNot y7.1)) fun y8 =>
  bif y8 then some (false, ()) else rec0 (iAdd .i64 s1.1 1, cat s1.2.1 [y2.1], ()) else bindK (F100 x) fun y9 =>
  bindK (F177 (s1.2.1, y9)) fun y10 =>
  some y10) NN (0, [], ())
abbrev ce112 : CE := .con true sg112 F112
theorem co112 : ConOK TT 112 sg112 F112 := con_fn (fn := inlF XX fn112) (ces := [(87, ce87), (102, ce102), (177, ce177), (100, ce100)]) (ents1 en87 (ents1 en102 (ents1 en177 (ents1 en100 ents0)))) hn112 pm112 (by kernel_rfl) rfl rfl (fun x => by kernel_rfl)
theorem en112 : EntOK TT 112 ce112 := ent_fz co112 (by kernel_rfl) rfl rfl rfl
/- impl.NodeOk -/
def hn45 : Hints := [(1, KNode, true), (13, (.sl 1 I), true), (19, KLog, true), (25, KLog, true), (75, (.sl 1 I), true), (90, (.sl 1 I), true), (105, (.sl 1 I), true), (112, KNode, true), (115, (.sl 4 KPeer), true)]
def pm45 : List Nat := [1]
abbrev sg45 : Sig := ⟨[.dat KNode], [.bool]⟩
def F45 (x : TNode × Unit) : Option (Bool × Unit) :=
  bindK (F87 (x.1.1, 1, 4, ())) fun y0 =>
  bindK (bif bNot y0.1 then some true else bindK (F89 (x.1.2.2.2.2.2.1, ())) fun y1 =>
  some (bNot y1.1)) fun y2 =>
  bindK (bif y2 then some true else bindK (F111 ((x.1.2.2.2.2.2.2.1, x.1.2.2.2.2.2.2.2.1, x.1.2.2.2.2.2.2.2.2.1, ()), ())) fun y3 =>
  some (bNot y3.1)) fun y4 =>
  bif y4 then some (false, ()) else bindK (F99 ((x.1.2.2.2.2.2.2.1, x.1.2.2.2.2.2.2.2.1, x.1.2.2.2.2.2.2.2.2.1, ()), ())) fun y5 =>
  bindK (F87 (x.1.2.1, y5.2.1, 100000, ())) fun y6 =>
  bindK (bif bNot y6.1 then some true else bindK (F87 (x.1.2.2.1, 0, 4, ())) fun y7 =>
  some (bNot y7.1)) fun y8 =>
  bindK (bif y8 then some true else bindK (F87 (x.1.2.2.2.2.1, 0, 4, ())) fun y9 =>
  some (bNot y9.1)) fun y10 =>
  bindK (bif y10 then some true else bindK (F87 (x.1.2.2.2.1, 0, 2, ())) fun y11 =>
  some (bNot y11.1)) fun y12 =>
  bindK (bif y12 then some true else bindK (F87 (x.1.2.2.2.2.2.2.2.2.2.1, x.1.2.2.2.2.2.2.1, y5.1, ())) fun y13 =>
  some (bNot y13.1)) fun y14 =>
  bindK (bif y14 then some true else bindK (F87 (x.1.2.2.2.2.2.2.2.2.2.2.2.1, 1, 20, ())) fun y15 =>
  some (bNot y15.1)) fun y16 =>
  bindK (bif y16 then some true else bindK (F87 (x.1.2.2.2.2.2.2.2.2.2.2.1, 0, 20, ())) fun y17 =>
  some (bNot y17.1)) fun y18 =>
  bif y18 then some (false, ()) else loopF (fun rec19 (s20 : Int × Unit) =>
  bif iLt s20.1 (lenI x.1.2.2.2.2.2.2.2.2.2.2.2.2.1) then idxK x.1.2.2.2.2.2.2.2.2.2.2.2.2.1 s20.1 fun y21 =>
  bindK (F87 (y21, 1, 4, ())) fun y22 =>
  bindK (bif bNot y22.1 then some true else bindK (bif iGt s20.1 0 then idxK x.1.2.2.2.2.2.2.2.2.2.2.2.2.1 (iSub .i64 s20.1 1) fun y23 =>
  some (iGe y23 y21) else some false) fun y24 =>
  some y24) fun y25 =>
  bif y25 then some (false, ()) else rec19 (iAdd .i64 s20.1 1, ()) else bindK (bif iNe x.1.2.2.2.1 1 then some (iGt (lenI x.1.2.2.2.2.2.2.2.2.2.2.2.2.1) 0) else some false) fun y26 =>
  bif y26 then some (false, ()) else bif iEq x.1.2.2.2.1 2 then bindK (F112 x) fun y27 =>
  some y27 else some (iEq (lenI x.1.2.2.2.2.2.2.2.2.2.2.2.2.2.1) 0, ())) NN (0, ())
abbrev ce45 : CE := .con true sg45 F45
theorem co45 : ConOK TT 45 sg45 F45 := con_fn (fn := inlF XX fn45) (ces := [(111, ce111), (89, ce89), (87, ce87), (99, ce99), (112, ce112)]) (ents1 en111 (ents1 en89 (ents1 en87 (ents1 en99 (ents1 en112 ents0))))) hn45 pm45 (by kernel_rfl) rfl rfl (fun x => by kernel_rfl)
theorem en45 : EntOK TT 45 ce45 := ent_fz co45 (by kernel_rfl) rfl rfl rfl
/- laws.eqIntS -/
def hn52 : Hints := [(6, (.sl 1 I), true), (8, (.sl 1 I), true), (12, (.sl 1 I), true), (17, (.sl 1 I), true), (21, (.sl 1 I), true)]
def pm52 : List Nat := []
abbrev sg52 : Sig := ⟨[.dat (.sl 1 I), .dat (.sl 1 I)], [.bool]⟩
def F52 (x : List Int × List Int × Unit) : Option (Bool × Unit) :=
  bif iNe (lenI x.1) (lenI x.2.1) then some (false, ()) else loopF (fun rec0 (s1 : Int × Unit) =>
  bif iLt s1.1 (lenI x.1) then idxK x.1 s1.1 fun y2 =>
  idxK x.2.1 s1.1 fun y3 =>
  bif iNe y2 y3 then some (false, ()) else rec0 (iAdd .i64 s1.1 1, ()) else some (true, ())) NN (0, ())
abbrev ce52 : CE := .con true sg52 F52
theorem co52 : ConOK TT 52 sg52 F52 := con_fn (fn := inlF XX fn52) (ces := []) ents0 hn52 pm52 (by kernel_rfl) rfl rfl (fun x => by kernel_rfl)
theorem en52 : EntOK TT 52 ce52 := ent_fz co52 (by kernel_rfl) rfl rfl rfl
/- laws.eqEntry -/
def hn76 : Hints := []
def pm76 : List Nat := [2, 3]
abbrev sg76 : Sig := ⟨[.dat KEntry, .dat KEntry], [.bool]⟩
def F76 (x : TEntry × TEntry × Unit) : Option (Bool × Unit) :=
  bif iNe x.1.1 x.2.1.1 then some (false, ()) else bif iNe x.1.2.1 x.2.1.2.1 then some (false, ()) else bif bNot (strEq x.1.2.2.1 x.2.1.2.2.1) then some (false, ()) else some (true, ())
abbrev ce76 : CE := .con true sg76 F76
theorem co76 : ConOK TT 76 sg76 F76 := con_fn (fn := inlF XX fn76) (ces := []) ents0 hn76 pm76 (by kernel_rfl) rfl rfl (fun x => by kernel_rfl)
theorem en76 : EntOK TT 76 ce76 := ent_fz co76 (by kernel_rfl) rfl rfl rfl
/- laws.eqEntryS -/
def hn23 : Hints := [(6, (.sl 3 KEntry), true), (8, (.sl 3 KEntry), true), (12, (.sl 3 KEntry), true), (17, (.sl 3 KEntry), true), (21, (.sl 3 KEntry), true)]
def pm23 : List Nat := []
abbrev sg23 : Sig := ⟨[.dat (.sl 3 KEntry), .dat (.sl 3 KEntry)], [.bool]⟩
def F23 (x : List TEntry × List TEntry × Unit) : Option (Bool × Unit) :=
  bif iNe (lenI x.1) (lenI x.2.1) then some (false, ()) else loopF (fun rec0 (s1 : Int × Unit) =>
  bif iLt s1.1 (lenI x.1) then idxK x.1 s1.1 fun y2 =>
  idxK x.2.1 s1.1 fun y3 =>
  bindK (F76 (y2, y3, ())) fun y4 =>
  bif bNot y4.1 then some (false, ()) else rec0 (iAdd .i64 s1.1 1, ()) else some (true, ())) NN (0, ())
abbrev ce23 : CE := .con true sg23 F23
theorem co23 : ConOK TT 23 sg23 F23 := con_fn (fn := inlF XX fn23) (ces := [(76, ce76)]) (ents1 en76 ents0) hn23 pm23 (by kernel_rfl) rfl rfl (fun x => by kernel_rfl)
theorem en23 : EntOK TT 23 ce23 := ent_fz co23 (by kernel_rfl) rfl rfl rfl
/- laws.eqLog -/
def hn122 : Hints := [(2, KLog, true), (3, KLog, true), (16, (.sl 3 KEntry), true), (18, (.sl 3 KEntry), true)]
def pm122 : List Nat := [2, 3]
abbrev sg122 : Sig := ⟨[.dat KLog, .dat KLog], [.bool]⟩
def F122 (x : TLog × TLog × Unit) : Option (Bool × Unit) :=
  bif iNe x.1.1 x.2.1.1 then some (false, ()) else bif iNe x.1.2.1 x.2.1.2.1 then some (false, ()) else bindK (F23 (x.1.2.2.1, x.2.1.2.2)) fun y0 =>
  bif bNot y0.1 then some (false, ()) else some (true, ())
abbrev ce122 : CE := .con true sg122 F122
theorem co122 : ConOK TT 122 sg122 F122 := con_fn (fn := inlF XX fn122) (ces := [(23, ce23)]) (ents1 en23 ents0) hn122 pm122 (by kernel_rfl) rfl rfl (fun x => by kernel_rfl)
theorem en122 : EntOK TT 122 ce122 := ent_fz co122 (by kernel_rfl) rfl rfl rfl
/- laws.eqPeer -/
def hn181 : Hints := []
def pm181 : List Nat := [2, 3]
abbrev sg181 : Sig := ⟨[.dat KPeer, .dat KPeer], [.bool]⟩
def F181 (x : TPeer × TPeer × Unit) : Option (Bool × Unit) :=
  bif iNe x.1.1 x.2.1.1 then some (false, ()) else bif iNe x.1.2.1 x.2.1.2.1 then some (false, ()) else bif iNe x.1.2.2.1 x.2.1.2.2.1 then some (false, ()) else bif iNe x.1.2.2.2.1 x.2.1.2.2.2.1 then some (false, ()) else some (true, ())
abbrev ce181 : CE := .con true sg181 F181
theorem co181 : ConOK TT 181 sg181 F181 := con_fn (fn := inlF XX fn181) (ces := []) ents0 hn181 pm181 (by kernel_rfl) rfl rfl (fun x => by kernel_rfl)
theorem en181 : EntOK TT 181 ce181 := ent_fz co181 (by kernel_rfl) rfl rfl rfl
/- laws.eqPeerS -/
def hn123 : Hints := [(6, (.sl 4 KPeer), true), (8, (.sl 4 KPeer), true), (12, (.sl 4 KPeer), true), (17, (.sl 4 KPeer), true), (21, (.sl 4 KPeer), true)]
def pm123 : List Nat := []
abbrev sg123 : Sig := ⟨[.dat (.sl 4 KPeer), .dat (.sl 4 KPeer)], [.bool]⟩
def F123 (x : List TPeer × List TPeer × Unit) : Option (Bool × Unit) :=
  bif iNe (lenI x.1) (lenI x.2.1) then some (false, ()) else loopF (fun rec0 (s1 : Int × Unit) =>
  bif iLt s1.1 (lenI x.1) then idxK x.1 s1.1 fun y2 =>
  idxK x.2.1 s1.1 fun y3 =>
  bindK (F181 (y2, y3, ())) fun y4 =>
  bif bNot y4.1 then some (false, ()) else rec0 (iAdd .i64 s1.1 1, ()) else some (true, ())) NN (0, ())
abbrev ce123 : CE := .con true sg123 F123
theorem co123 : ConOK TT 123 sg123 F123 := con_fn (fn := inlF XX fn123) (ces := [(181, ce181)]) (ents1 en181 ents0) hn123 pm123 (by kernel_rfl) rfl rfl (fun x => by kernel_rfl)
theorem en123 : EntOK TT 123 ce123 := ent_fz co123 (by kernel_rfl) rfl rfl rfl
/- laws.eqNode -/
def hn49 : Hints := [(2, KNode, true), (3, KNode, true), (31, (.sl 1 I), true), (33, (.sl 1 I), true), (37, KLog, true), (39, KLog, true), (58, (.sl 1 I), true), (60, (.sl 1 I), true), (64, (.sl 4 KPeer), true), (66, (.sl 4 KPeer), true)]
def pm49 : List Nat := [2, 3]
abbrev sg49 : Sig := ⟨[.dat KNode, .dat KNode], [.bool]⟩
def F49 (x : TNode × TNode × Unit) : Option (Bool × Unit) :=
  bif iNe x.1.1 x.2.1.1 then some (false, ()) else bif iNe x.1.2.1 x.2.1.2.1 then some (false, ()) else bif iNe x.1.2.2.1 x.2.1.2.2.1 then some (false, ()) else bif iNe x.1.2.2.2.1 x.2.1.2.2.2.1 then some (false, ()) else bif iNe x.1.2.2.2.2.1 x.2.1.2.2.2.2.1 then some (false, ()) else bindK (F52 (x.1.2.2.2.2.2.1, x.2.1.2.2.2.2.2.1, ())) fun y0 =>
  bif bNot y0.1 then some (false, ()) else bindK (F122 ((x.1.2.2.2.2.2.2.1, x.1.2.2.2.2.2.2.2.1, x.1.2.2.2.2.2.2.2.2.1, ()), (x.2.1.2.2.2.2.2.2.1, x.2.1.2.2.2.2.2.2.2.1, x.2.1.2.2.2.2.2.2.2.2.1, ()), ())) fun y1 =>
  bif bNot y1.1 then some (false, ()) else bif iNe x.1.2.2.2.2.2.2.2.2.2.1 x.2.1.2.2.2.2.2.2.2.2.2.1 then some (false, ()) else bif iNe x.1.2.2.2.2.2.2.2.2.2.2.1 x.2.1.2.2.2.2.2.2.2.2.2.2.1 then some (false, ()) else bif iNe x.1.2.2.2.2.2.2.2.2.2.2.2.1 x.2.1.2.2.2.2.2.2.2.2.2.2.2.1 then some (false, ()) else bindK (F52 (x.1.2.2.2.2.2.2.2.2.2.2.2.2.1, x.2.1.2.2.2.2.2.2.2.2.2.2.2.2.1, ())) fun y2 =>
  bif bNot y2.1 then some (false, ()) else bindK (F123 (x.1.2.2.2.2.2.2.2.2.2.2.2.2.2.1, x.2.1.2.2.2.2.2.2.2.2.2.2.2.2.2)) fun y3 =>
  bif bNot y3.1 then some (false, ()) else some (true, ())
abbrev ce49 : CE := .con true sg49 F49
theorem co49 : ConOK TT 49 sg49 F49 := con_fn (fn := inlF XX fn49) (ces := [(52, ce52), (122, ce122), (123, ce123)]) (ents1 en52 (ents1 en122 (ents1 en123 ents0))) hn49 pm49 (by kernel_rfl) rfl rfl (fun x => by kernel_rfl)
theorem en49 : EntOK TT 49 ce49 := ent_fz co49 (by kernel_rfl) rfl rfl rfl
/- spec.NodeNew -/
def hn50 : Hints := [(4, KNode, true), (6, KNode, true), (8, (.sl 1 I), true), (9, (.sl 1 I), true), (10, (.sl 1 I), true), (11, KNode, true), (12, KNode, true), (15, KNode, true), (16, KNode, true)]
def pm50 : List Nat := [6]
abbrev sg50 : Sig := ⟨[.dat I, .dat (.sl 1 I)], [KNode, .bool]⟩
def F50 (x : Int × List Int × Unit) : Option (TNode × Bool × Unit) :=
  guardK (gApp [] x.2.1 1) <|
  bindK (F47 ((x.1, 0, 0, 0, 0, cat [] x.2.1, 0, 0, [], 0, 0, 20, [], [], ()), ())) fun y0 =>
  bif bNot y0.1 then some ((0, 0, 0, 0, 0, [], 0, 0, [], 0, 0, 0, [], [], ()), false, ()) else some ((x.1, 0, 0, 0, 0, cat [] x.2.1, 0, 0, [], 0, 0, 20, [], [], ()), true, ())
abbrev ce50 : CE := .con false sg50 F50
theorem co50 : ConOK TT 50 sg50 F50 := con_fn (fn := inlF XX fn50) (ces := [(47, ce47)]) (ents1 en47 ents0) hn50 pm50 (by kernel_rfl) rfl rfl (fun x => by kernel_rfl)
theorem en50 : EntOK TT 50 ce50 := ent_sep co50 (by kernel_rfl) rfl
/- impl.NodeNew -/
def hn37 : Hints := [(4, KNode, true), (6, KNode, true), (8, (.sl 1 I), true), (9, (.sl 1 I), true), (10, KNode, true), (11, KNode, true), (14, KNode, true), (15, KNode, true)]
def pm37 : List Nat := [6]
abbrev sg37 : Sig := ⟨[.dat I, .dat (.sl 1 I)], [KNode, .bool]⟩
def F37 (x : Int × List Int × Unit) : Option (TNode × Bool × Unit) :=
  guardK (gApp [] x.2.1 1) <|
  bindK (F45 ((x.1, 0, 0, 0, 0, cat [] x.2.1, 0, 0, [], 0, 0, 20, [], [], ()), ())) fun y0 =>
  bif bNot y0.1 then some ((0, 0, 0, 0, 0, [], 0, 0, [], 0, 0, 0, [], [], ()), false, ()) else some ((x.1, 0, 0, 0, 0, cat [] x.2.1, 0, 0, [], 0, 0, 20, [], [], ()), true, ())
abbrev ce37 : CE := .con false sg37 F37
theorem co37 : ConOK TT 37 sg37 F37 := con_fn (fn := inlF XX fn37) (ces := [(45, ce45)]) (ents1 en45 ents0) hn37 pm37 (by kernel_rfl) rfl rfl (fun x => by kernel_rfl)
theorem en37 : EntOK TT 37 ce37 := ent_sep co37 (by kernel_rfl) rfl
/- laws.markIntS -/
def hn53 : Hints := [(7, (.sl 1 I), true), (12, (.sl 1 I), true)]
def pm53 : List Nat := []
abbrev sg53 : Sig := ⟨[.kept (.sl 1 I), .dat I], [I]⟩
def F53 (x : List Int × Int × Unit) : Option (Int × List Int × Unit) :=
  loopF (fun rec0 (s1 : Int × Int × List Int × Unit) =>
  bif iLt s1.1 (lenI s1.2.2.1) then idxK s1.2.2.1 s1.1 fun y2 =>
  rec0 (iAdd .i64 s1.1 1, iAdd .i64 s1.2.1 1, setL s1.2.2.1 (toN s1.1) s1.2.1, ()) else some s1.2) NN (0, x.2.1, x.1, ())
abbrev ce53 : CE := .con false sg53 F53
theorem co53 : ConOK TT 53 sg53 F53 := con_fn (fn := inlF XX fn53) (ces := []) ents0 hn53 pm53 (by kernel_rfl) rfl rfl (fun x => by kernel_rfl)
theorem en53 : EntOK TT 53 ce53 := ent_sep co53 (by kernel_rfl) rfl
/- laws.markText -/
def hn78 : Hints := [(12, (.sl 1 (.int .u8)), true)]
def pm78 : List Nat := []
abbrev sg78 : Sig := ⟨[.dat I], [.str]⟩
def F78 (x : Int × Unit) : Option (List UInt8 × Unit) :=
  bif iLe x.1 0 then some (litS [109, 48], ()) else loopF (fun rec0 (s1 : Int × List UInt8 × Unit) =>
  bif iGt s1.1 0 then guardK (gNz 10) <|
  guardK (gCat (strP [iConv .u8 (iAdd .i64 48 (iRem s1.1 10))]) s1.2.1) <|
  guardK (gNz 10) <|
  rec0 (iQuo .i64 s1.1 10, cat (strP [iConv .u8 (iAdd .i64 48 (iRem s1.1 10))]) s1.2.1, ()) else guardK (gCat (litS [109]) s1.2.1) <|
  some (cat (litS [109]) s1.2.1, ())) NN (x.1, litS [], ())
abbrev ce78 : CE := .con true sg78 F78
theorem co78 : ConOK TT 78 sg78 F78 := con_fn (fn := inlF XX fn78) (ces := []) ents0 hn78 pm78 (by kernel_rfl) rfl rfl (fun x => by kernel_rfl)
theorem en78 : EntOK TT 78 ce78 := ent_fz co78 (by kernel_rfl) rfl rfl rfl
/- laws.markEntryS -/
def hn26 : Hints := [(7, (.sl 3 KEntry), true), (12, (.sl 3 KEntry), true), (19, (.sl 3 KEntry), true), (26, (.sl 3 KEntry), true)]
def pm26 : List Nat := []
abbrev sg26 : Sig := ⟨[.kept (.sl 3 KEntry), .dat I], [I]⟩
def F26 (x : List TEntry × Int × Unit) : Option (Int × List TEntry × Unit) :=
  loopF (fun rec0 (s1 : TLog) =>
  bif iLt s1.1 (lenI s1.2.2.1) then idxK s1.2.2.1 s1.1 fun y2 =>
  idxK (setL s1.2.2.1 (toN s1.1) (s1.2.1, y2.2)) s1.1 fun y3 =>
  bindK (F78 (iAdd .i64 (iAdd .i64 s1.2.1 1) 1, ())) fun y4 =>
  idxK (setL (setL s1.2.2.1 (toN s1.1) (s1.2.1, y2.2)) (toN s1.1) (y3.1, iAdd .i64 s1.2.1 1, y3.2.2)) s1.1 fun y5 =>
  rec0 (iAdd .i64 s1.1 1, iAdd .i64 (iAdd .i64 (iAdd .i64 s1.2.1 1) 1) 1, setL (setL (setL s1.2.2.1 (toN s1.1) (s1.2.1, y2.2)) (toN s1.1) (y3.1, iAdd .i64 s1.2.1 1, y3.2.2)) (toN s1.1) (y5.1, y5.2.1, y4), ()) else some s1.2) NN (0, x.2.1, x.1, ())
abbrev ce26 : CE := .con false sg26 F26
theorem co26 : ConOK TT 26 sg26 F26 := con_fn (fn := inlF XX fn26) (ces := [(78, ce78)]) (ents1 en78 ents0) hn26 pm26 (by kernel_rfl) rfl rfl (fun x => by kernel_rfl)
theorem en26 : EntOK TT 26 ce26 := ent_sep co26 (by kernel_rfl) rfl
/- laws.markPeerS -/
def hn125 : Hints := [(7, (.sl 4 KPeer), true), (12, (.sl 4 KPeer), true), (19, (.sl 4 KPeer), true), (26, (.sl 4 KPeer), true), (33, (.sl 4 KPeer), true)]
def pm125 : List Nat := []
abbrev sg125 : Sig := ⟨[.kept (.sl 4 KPeer), .dat I], [I]⟩
def F125 (x : List TPeer × Int × Unit) : Option (Int × List TPeer × Unit) :=
  loopF (fun rec0 (s1 : Int × Int × List TPeer × Unit) =>
  bif iLt s1.1 (lenI s1.2.2.1) then idxK s1.2.2.1 s1.1 fun y2 =>
  idxK (setL s1.2.2.1 (toN s1.1) (s1.2.1, y2.2)) s1.1 fun y3 =>
  idxK (setL (setL s1.2.2.1 (toN s1.1) (s1.2.1, y2.2)) (toN s1.1) (y3.1, iAdd .i64 s1.2.1 1, y3.2.2)) s1.1 fun y4 =>
  idxK (setL (setL (setL s1.2.2.1 (toN s1.1) (s1.2.1, y2.2)) (toN s1.1) (y3.1, iAdd .i64 s1.2.1 1, y3.2.2)) (toN s1.1) (y4.1, y4.2.1, iAdd .i64 (iAdd .i64 s1.2.1 1) 1, y4.2.2.2)) s1.1 fun y5 =>
  rec0 (iAdd .i64 s1.1 1, iAdd .i64 (iAdd .i64 (iAdd .i64 (iAdd .i64 s1.2.1 1) 1) 1) 1, setL (setL (setL (setL s1.2.2.1 (toN s1.1) (s1.2.1, y2.2)) (toN s1.1) (y3.1, iAdd .i64 s1.2.1 1, y3.2.2)) (toN s1.1) (y4.1, y4.2.1, iAdd .i64 (iAdd .i64 s1.2.1 1) 1, y4.2.2.2)) (toN s1.1) (y5.1, y5.2.1, y5.2.2.1, iAdd .i64 (iAdd .i64 (iAdd .i64 s1.2.1 1) 1) 1, ()), ()) else some s1.2) NN (0, x.2.1, x.1, ())
abbrev ce125 : CE := .con false sg125 F125
theorem co125 : ConOK TT 125 sg125 F125 := con_fn (fn := inlF XX fn125) (ces := []) ents0 hn125 pm125 (by kernel_rfl) rfl rfl (fun x => by kernel_rfl)
theorem en125 : EntOK TT 125 ce125 := ent_sep co125 (by kernel_rfl) rfl
/- laws.heldIntS -/
def hn126 : Hints := [(7, (.sl 1 I), true), (12, (.sl 1 I), true)]
def pm126 : List Nat := []
abbrev sg126 : Sig := ⟨[.dat (.sl 1 I), .dat I], [I]⟩
def F126 (x : List Int × Int × Unit) : Option (Int × Unit) :=
  loopF (fun rec0 (s1 : Int × Int × Unit) =>
  bif iLt s1.1 (lenI x.1) then idxK x.1 s1.1 fun y2 =>
  bif iNe y2 s1.2.1 then some ((-1), ()) else rec0 (iAdd .i64 s1.1 1, iAdd .i64 s1.2.1 1, ()) else some s1.2) NN (0, x.2)
abbrev ce126 : CE := .con true sg126 F126
theorem co126 : ConOK TT 126 sg126 F126 := con_fn (fn := inlF XX fn126) (ces := []) ents0 hn126 pm126 (by kernel_rfl) rfl rfl (fun x => by kernel_rfl)
theorem en126 : EntOK TT 126 ce126 := ent_fz co126 (by kernel_rfl) rfl rfl rfl
/- laws.heldEntryS -/
def hn27 : Hints := [(7, (.sl 3 KEntry), true), (12, (.sl 3 KEntry), true), (21, (.sl 3 KEntry), true), (30, (.sl 3 KEntry), true)]
def pm27 : List Nat := []
abbrev sg27 : Sig := ⟨[.dat (.sl 3 KEntry), .dat I], [I]⟩
def F27 (x : List TEntry × Int × Unit) : Option (Int × Unit) :=
  loopF (fun rec0 (s1 : Int × Int × Unit) =>
  bif iLt s1.1 (lenI x.1) then idxK x.1 s1.1 fun y2 =>
  bif iNe y2.1 s1.2.1 then some ((-1), ()) else idxK x.1 s1.1 fun y3 =>
  bif iNe y3.2.1 (iAdd .i64 s1.2.1 1) then some ((-1), ()) else idxK x.1 s1.1 fun y4 =>
  bindK (F78 (iAdd .i64 (iAdd .i64 s1.2.1 1) 1, ())) fun y5 =>
  bif bNot (strEq y4.2.2.1 y5.1) then some ((-1), ()) else rec0 (iAdd .i64 s1.1 1, iAdd .i64 (iAdd .i64 (iAdd .i64 s1.2.1 1) 1) 1, ()) else some s1.2) NN (0, x.2)
abbrev ce27 : CE := .con true sg27 F27
theorem co27 : ConOK TT 27 sg27 F27 := con_fn (fn := inlF XX fn27) (ces := [(78, ce78)]) (ents1 en78 ents0) hn27 pm27 (by kernel_rfl) rfl rfl (fun x => by kernel_rfl)
theorem en27 : EntOK TT 27 ce27 := ent_fz co27 (by kernel_rfl) rfl rfl rfl
/- laws.heldLog -/
def hn127 : Hints := [(2, KLog, true), (6, (.sl 3 KEntry), true)]
def pm127 : List Nat := [2]
abbrev sg127 : Sig := ⟨[.dat KLog, .dat I], [I]⟩
def F127 (x : TLog × Int × Unit) : Option (Int × Unit) :=
  bindK (F27 (x.1.2.2.1, x.2)) fun y0 =>
  bif iLt y0.1 0 then some ((-1), ()) else some y0
abbrev ce127 : CE := .con true sg127 F127
theorem co127 : ConOK TT 127 sg127 F127 := con_fn (fn := inlF XX fn127) (ces := [(27, ce27)]) (ents1 en27 ents0) hn127 pm127 (by kernel_rfl) rfl rfl (fun x => by kernel_rfl)
theorem en127 : EntOK TT 127 ce127 := ent_fz co127 (by kernel_rfl) rfl rfl rfl
/- laws.heldPeerS -/
def hn128 : Hints := [(7, (.sl 4 KPeer), true), (12, (.sl 4 KPeer), true), (21, (.sl 4 KPeer), true), (30, (.sl 4 KPeer), true), (39, (.sl 4 KPeer), true)]
def pm128 : List Nat := []
abbrev sg128 : Sig := ⟨[.dat (.sl 4 KPeer), .dat I], [I]⟩
def F128 (x : List TPeer × Int × Unit) : Option (Int × Unit) :=
  loopF (fun rec0 (s1 : Int × Int × Unit) =>
  bif iLt s1.1 (lenI x.1) then idxK x.1 s1.1 fun y2 =>
  bif iNe y2.1 s1.2.1 then some ((-1), ()) else idxK x.1 s1.1 fun y3 =>
  bif iNe y3.2.1 (iAdd .i64 s1.2.1 1) then some ((-1), ()) else idxK x.1 s1.1 fun y4 =>
  bif iNe y4.2.2.1 (iAdd .i64 (iAdd .i64 s1.2.1 1) 1) then some ((-1), ()) else idxK x.1 s1.1 fun y5 =>
  bif iNe y5.2.2.2.1 (iAdd .i64 (iAdd .i64 (iAdd .i64 s1.2.1 1) 1) 1) then some ((-1), ()) else rec0 (iAdd .i64 s1.1 1, iAdd .i64 (iAdd .i64 (iAdd .i64 (iAdd .i64 s1.2.1 1) 1) 1) 1, ()) else some s1.2) NN (0, x.2)
abbrev ce128 : CE := .con true sg128 F128
theorem co128 : ConOK TT 128 sg128 F128 := con_fn (fn := inlF XX fn128) (ces := []) ents0 hn128 pm128 (by kernel_rfl) rfl rfl (fun x => by kernel_rfl)
theorem en128 : EntOK TT 128 ce128 := ent_fz co128 (by kernel_rfl) rfl rfl rfl
/- laws.heldNode -/
def hn55 : Hints := [(2, KNode, true), (6, (.sl 1 I), true), (12, KLog, true), (18, (.sl 1 I), true), (24, (.sl 4 KPeer), true)]
def pm55 : List Nat := [2]
abbrev sg55 : Sig := ⟨[.dat KNode, .dat I], [I]⟩
def F55 (x : TNode × Int × Unit) : Option (Int × Unit) :=
  bindK (F126 (x.1.2.2.2.2.2.1, x.2)) fun y0 =>
  bif iLt y0.1 0 then some ((-1), ()) else bindK (F127 ((x.1.2.2.2.2.2.2.1, x.1.2.2.2.2.2.2.2.1, x.1.2.2.2.2.2.2.2.2.1, ()), y0)) fun y1 =>
  bif iLt y1.1 0 then some ((-1), ()) else bindK (F126 (x.1.2.2.2.2.2.2.2.2.2.2.2.2.1, y1)) fun y2 =>
  bif iLt y2.1 0 then some ((-1), ()) else bindK (F128 (x.1.2.2.2.2.2.2.2.2.2.2.2.2.2.1, y2)) fun y3 =>
  bif iLt y3.1 0 then some ((-1), ()) else some y3
abbrev ce55 : CE := .con true sg55 F55
theorem co55 : ConOK TT 55 sg55 F55 := con_fn (fn := inlF XX fn55) (ces := [(126, ce126), (127, ce127), (128, ce128)]) (ents1 en126 (ents1 en127 (ents1 en128 ents0))) hn55 pm55 (by kernel_rfl) rfl rfl (fun x => by kernel_rfl)
theorem en55 : EntOK TT 55 ce55 := ent_fz co55 (by kernel_rfl) rfl rfl rfl
/- spec.l16Copy -/
def hn142 : Hints := [(1, KNode, true), (2, KNode, true), (3, (.sl 1 I), true), (5, (.sl 1 I), true), (6, (.sl 1 I), true), (8, (.sl 3 KEntry), true), (11, (.sl 3 KEntry), true), (12, (.sl 3 KEntry), true), (15, (.sl 1 I), true), (17, (.sl 1 I), true), (18, (.sl 1 I), true), (20, (.sl 4 KPeer), true), (22, (.sl 4 KPeer), true), (23, (.sl 4 KPeer), true), (25, KNode, true)]
def pm142 : List Nat := []
abbrev sg142 : Sig := ⟨[.dat KNode], [KNode]⟩
def F142 (x : TNode × Unit) : Option (TNode × Unit) :=
  guardK (gApp [] x.1.2.2.2.2.2.1 1) <|
  guardK (gApp [] x.1.2.2.2.2.2.2.2.2.1 3) <|
  guardK (gApp [] x.1.2.2.2.2.2.2.2.2.2.2.2.2.1 1) <|
  guardK (gApp [] x.1.2.2.2.2.2.2.2.2.2.2.2.2.2.1 4) <|
  some ((x.1.1, x.1.2.1, x.1.2.2.1, x.1.2.2.2.1, x.1.2.2.2.2.1, cat [] x.1.2.2.2.2.2.1, x.1.2.2.2.2.2.2.1, x.1.2.2.2.2.2.2.2.1, cat [] x.1.2.2.2.2.2.2.2.2.1, x.1.2.2.2.2.2.2.2.2.2.1, x.1.2.2.2.2.2.2.2.2.2.2.1, x.1.2.2.2.2.2.2.2.2.2.2.2.1, cat [] x.1.2.2.2.2.2.2.2.2.2.2.2.2.1, cat [] x.1.2.2.2.2.2.2.2.2.2.2.2.2.2.1, ()), ())
abbrev ce142 : CE := .con false sg142 F142
theorem co142 : ConOK TT 142 sg142 F142 := con_fn (fn := inlF XX fn142) (ces := []) ents0 hn142 pm142 (by kernel_rfl) rfl rfl (fun x => by kernel_rfl)
theorem en142 : EntOK TT 142 ce142 := ent_sep co142 (by kernel_rfl) rfl
/- spec.l06Last -/
def hn150 : Hints := [(1, KLog, true), (6, (.sl 3 KEntry), true)]
def pm150 : List Nat := [1]
abbrev sg150 : Sig := ⟨[.dat KLog], [I]⟩
def F150 (x : TLog × Unit) : Option (Int × Unit) :=
  some (iAdd .i64 x.1.1 (lenI x.1.2.2.1), ())
abbrev ce150 : CE := .con true sg150 F150
theorem co150 : ConOK TT 150 sg150 F150 := con_fn (fn := inlF XX fn150) (ces := []) ents0 hn150 pm150 (by kernel_rfl) rfl rfl (fun x => by kernel_rfl)
theorem en150 : EntOK TT 150 ce150 := ent_fz co150 (by kernel_rfl) rfl rfl rfl
/- spec.LogTerm -/
def hn145 : Hints := [(2, KLog, true), (17, KLog, true), (22, (.sl 3 KEntry), true)]
def pm145 : List Nat := [2]
abbrev sg145 : Sig := ⟨[.dat KLog, .dat I], [I]⟩
def F145 (x : TLog × Int × Unit) : Option (Int × Unit) :=
  bif iEq x.2.1 x.1.1 then some (x.1.2.1, ()) else bindK (bif iLt x.2.1 x.1.1 then some true else bindK (F150 (x.1, ())) fun y0 =>
  some (iGt x.2.1 y0.1)) fun y1 =>
  bif y1 then some ((-1), ()) else idxK x.1.2.2.1 (iSub .i64 (iSub .i64 x.2.1 x.1.1) 1) fun y2 =>
  some (y2.1, ())
abbrev ce145 : CE := .con true sg145 F145
theorem co145 : ConOK TT 145 sg145 F145 := con_fn (fn := inlF XX fn145) (ces := [(150, ce150)]) (ents1 en150 ents0) hn145 pm145 (by kernel_rfl) rfl rfl (fun x => by kernel_rfl)
theorem en145 : EntOK TT 145 ce145 := ent_fz co145 (by kernel_rfl) rfl rfl rfl
/- spec.LogBehind -/
def hn144 : Hints := [(3, KLog, true), (6, KLog, true), (7, KLog, true), (10, KLog, true), (11, KLog, true), (17, KLog, true), (22, KLog, true), (28, (.sl 3 KEntry), true), (30, (.sl 3 KEntry), true), (35, (.sl 3 KEntry), true), (36, (.sl 3 KEntry), true), (38, KLog, true)]
def pm144 : List Nat := [3]
abbrev sg144 : Sig := ⟨[.dat KLog, .dat I, .dat I], [KLog]⟩
def F144 (x : TLog × Int × Int × Unit) : Option (TLog × Unit) :=
  bindK (F115 (x.1, ())) fun y0 =>
  bindK (bif y0.1 then bindK (F150 (x.1, ())) fun y1 =>
  bindK (F83 (x.2.1, x.1.1, y1)) fun y2 =>
  some y2.1 else some false) fun y3 =>
  bindK (bif y3 then bindK (F145 (x.1, x.2.1, ())) fun y4 =>
  some (iEq y4.1 x.2.2.1) else some false) fun y5 =>
  joinK (fun (s6 : TLog × TLog × Unit) =>
  some (s6.1, ())) fun k7 =>
  bif y5 then bndK (lenN x.1.2.2.1) (iSub .i64 x.2.1 x.1.1) (ofN (lenN x.1.2.2.1)) fun l8 n9 =>
  guardK (gApp [] (sub x.1.2.2.1 l8 n9) 3) <|
  k7 ((x.2.1, x.2.2.1, cat [] (sub x.1.2.2.1 l8 n9), ()), (0, 0, [], ()), ()) else k7 ((x.2.1, x.2.2.1, [], ()), (0, 0, [], ()), ())
abbrev ce144 : CE := .con false sg144 F144
theorem co144 : ConOK TT 144 sg144 F144 := con_fn (fn := inlF XX fn144) (ces := [(145, ce145), (83, ce83), (150, ce150), (115, ce115)]) (ents1 en145 (ents1 en83 (ents1 en150 (ents1 en115 ents0)))) hn144 pm144 (by kernel_rfl) rfl rfl (fun x => by kernel_rfl)
theorem en144 : EntOK TT 144 ce144 := ent_sep co144 (by kernel_rfl) rfl
/- spec.Settle -/
def hn61 : Hints := [(2, KNode, true), (4, KNode, true), (6, KNode, true), (7, KNode, true), (20, KNode, true), (21, KNode, true), (22, KNode, true), (23, KNode, true), (25, (.sl 1 I), true), (28, KLog, true), (31, KLog, true), (34, KLog, true), (36, KNode, true)]
def pm61 : List Nat := [2]
abbrev sg61 : Sig := ⟨[.dat KNode, .dat I], [KNode, .bool]⟩
def F61 (x : TNode × Int × Unit) : Option (TNode × Bool × Unit) :=
  bindK (F47 (x.1, ())) fun y0 =>
  bindK (bif bNot y0.1 then some true else bindK (F83 (x.2.1, x.1.2.2.2.2.2.2.1, x.1.2.2.2.2.2.2.2.2.2.1, ())) fun y1 =>
  some (bNot y1.1)) fun y2 =>
  bif y2 then some ((0, 0, 0, 0, 0, [], 0, 0, [], 0, 0, 0, [], [], ()), false, ()) else bindK (F142 (x.1, ())) fun y3 =>
  bindK (F143 x) fun y4 =>
  bindK (F145 ((x.1.2.2.2.2.2.2.1, x.1.2.2.2.2.2.2.2.1, x.1.2.2.2.2.2.2.2.2.1, ()), x.2)) fun y5 =>
  bindK (F144 ((x.1.2.2.2.2.2.2.1, x.1.2.2.2.2.2.2.2.1, x.1.2.2.2.2.2.2.2.2.1, ()), x.2.1, y5)) fun y6 =>
  some ((y3.1.1, y3.1.2.1, y3.1.2.2.1, y3.1.2.2.2.1, y3.1.2.2.2.2.1, y4.1, y6.1.1, y6.1.2.1, y6.1.2.2.1, y3.1.2.2.2.2.2.2.2.2.2), true, ())
abbrev ce61 : CE := .con false sg61 F61
theorem co61 : ConOK TT 61 sg61 F61 := con_fn (fn := inlF XX fn61) (ces := [(83, ce83), (47, ce47), (142, ce142), (143, ce143), (144, ce144), (145, ce145)]) (ents1 en83 (ents1 en47 (ents1 en142 (ents1 en143 (ents1 en144 (ents1 en145 ents0)))))) hn61 pm61 (by kernel_rfl) rfl rfl (fun x => by kernel_rfl)
theorem en61 : EntOK TT 61 ce61 := ent_sep co61 (by kernel_rfl) rfl
/- impl.copyLog -/
def hn168 : Hints := [(1, KLog, true), (2, KLog, true), (4, (.sl 3 KEntry), true), (5, (.sl 3 KEntry), true), (7, KLog, true)]
def pm168 : List Nat := []
abbrev sg168 : Sig := ⟨[.dat KLog], [KLog]⟩
def F168 (x : TLog × Unit) : Option (TLog × Unit) :=
  guardK (gApp [] x.1.2.2.1 3) <|
  some ((x.1.1, x.1.2.1, cat [] x.1.2.2.1, ()), ())
abbrev ce168 : CE := .con false sg168 F168
theorem co168 : ConOK TT 168 sg168 F168 := con_fn (fn := inlF XX fn168) (ces := []) ents0 hn168 pm168 (by kernel_rfl) rfl rfl (fun x => by kernel_rfl)
theorem en168 : EntOK TT 168 ce168 := ent_sep co168 (by kernel_rfl) rfl
/- impl.copyNode -/
def hn94 : Hints := [(1, KNode, true), (2, KNode, true), (4, (.sl 1 I), true), (5, (.sl 1 I), true), (8, KLog, true), (9, KLog, true), (12, (.sl 1 I), true), (13, (.sl 1 I), true), (16, (.sl 4 KPeer), true), (17, (.sl 4 KPeer), true), (19, KNode, true)]
def pm94 : List Nat := []
abbrev sg94 : Sig := ⟨[.dat KNode], [KNode]⟩
def F94 (x : TNode × Unit) : Option (TNode × Unit) :=
  guardK (gApp [] x.1.2.2.2.2.2.1 1) <|
  bindK (F168 ((x.1.2.2.2.2.2.2.1, x.1.2.2.2.2.2.2.2.1, x.1.2.2.2.2.2.2.2.2.1, ()), ())) fun y0 =>
  guardK (gApp [] x.1.2.2.2.2.2.2.2.2.2.2.2.2.1 1) <|
  guardK (gApp [] x.1.2.2.2.2.2.2.2.2.2.2.2.2.2.1 4) <|
  some ((x.1.1, x.1.2.1, x.1.2.2.1, x.1.2.2.2.1, x.1.2.2.2.2.1, cat [] x.1.2.2.2.2.2.1, y0.1.1, y0.1.2.1, y0.1.2.2.1, x.1.2.2.2.2.2.2.2.2.2.1, x.1.2.2.2.2.2.2.2.2.2.2.1, x.1.2.2.2.2.2.2.2.2.2.2.2.1, cat [] x.1.2.2.2.2.2.2.2.2.2.2.2.2.1, cat [] x.1.2.2.2.2.2.2.2.2.2.2.2.2.2.1, ()), ())
abbrev ce94 : CE := .con false sg94 F94
theorem co94 : ConOK TT 94 sg94 F94 := con_fn (fn := inlF XX fn94) (ces := [(168, ce168)]) (ents1 en168 ents0) hn94 pm94 (by kernel_rfl) rfl rfl (fun x => by kernel_rfl)
theorem en94 : EntOK TT 94 ce94 := ent_sep co94 (by kernel_rfl) rfl
/- impl.hasEntry -/
def hn176 : Hints := [(2, KLog, true), (15, (.sl 3 KEntry), true)]
def pm176 : List Nat := [2]
abbrev sg176 : Sig := ⟨[.dat KLog, .dat I], [.bool]⟩
def F176 (x : TLog × Int × Unit) : Option (Bool × Unit) :=
  bindK (bif iGt x.2.1 x.1.1 then bindK (F87 (iSub .i64 x.2.1 x.1.1, 1, lenI x.1.2.2.1, ())) fun y0 =>
  some y0.1 else some false) fun y1 =>
  some (y1, ())
abbrev ce176 : CE := .con true sg176 F176
theorem co176 : ConOK TT 176 sg176 F176 := con_fn (fn := inlF XX fn176) (ces := [(87, ce87)]) (ents1 en87 ents0) hn176 pm176 (by kernel_rfl) rfl rfl (fun x => by kernel_rfl)
theorem en176 : EntOK TT 176 ce176 := ent_fz co176 (by kernel_rfl) rfl rfl rfl
/- impl.LogTerm -/
def hn109 : Hints := [(2, KLog, true), (13, KLog, true), (17, (.sl 3 KEntry), true)]
def pm109 : List Nat := [2]
abbrev sg109 : Sig := ⟨[.dat KLog, .dat I], [I]⟩
def F109 (x : TLog × Int × Unit) : Option (Int × Unit) :=
  bif iEq x.2.1 x.1.1 then some (x.1.2.1, ()) else bindK (F176 x) fun y0 =>
  bif y0.1 then idxK x.1.2.2.1 (iSub .i64 (iSub .i64 x.2.1 x.1.1) 1) fun y1 =>
  some (y1.1, ()) else some ((-1), ())
abbrev ce109 : CE := .con true sg109 F109
theorem co109 : ConOK TT 109 sg109 F109 := con_fn (fn := inlF XX fn109) (ces := [(176, ce176)]) (ents1 en176 ents0) hn109 pm109 (by kernel_rfl) rfl rfl (fun x => by kernel_rfl)
theorem en109 : EntOK TT 109 ce109 := ent_fz co109 (by kernel_rfl) rfl rfl rfl
/- impl.LogBehind -/
def hn108 : Hints := [(3, KLog, true), (6, KLog, true), (7, KLog, true), (10, KLog, true), (11, KLog, true), (14, KLog, true), (24, KLog, true), (29, (.sl 3 KEntry), true), (31, (.sl 3 KEntry), true), (36, (.sl 3 KEntry), true), (37, (.sl 3 KEntry), true), (39, KLog, true)]
def pm108 : List Nat := [3]
abbrev sg108 : Sig := ⟨[.dat KLog, .dat I, .dat I], [KLog]⟩
def F108 (x : TLog × Int × Int × Unit) : Option (TLog × Unit) :=
  bindK (F111 (x.1, ())) fun y0 =>
  bindK (bif y0.1 then bindK (F109 (x.1, x.2.1, ())) fun y1 =>
  some (iEq y1.1 x.2.2.1) else some false) fun y2 =>
  bindK (bif y2 then bindK (F102 (x.1, ())) fun y3 =>
  bindK (F87 (x.2.1, x.1.1, y3)) fun y4 =>
  some y4.1 else some false) fun y5 =>
  joinK (fun (s6 : TLog × TLog × Unit) =>
  some (s6.1, ())) fun k7 =>
  bif y5 then bndK (lenN x.1.2.2.1) (iSub .i64 x.2.1 x.1.1) (ofN (lenN x.1.2.2.1)) fun l8 n9 =>
  guardK (gApp [] (sub x.1.2.2.1 l8 n9) 3) <|
  k7 ((x.2.1, x.2.2.1, cat [] (sub x.1.2.2.1 l8 n9), ()), (0, 0, [], ()), ()) else k7 ((x.2.1, x.2.2.1, [], ()), (0, 0, [], ()), ())
abbrev ce108 : CE := .con false sg108 F108
theorem co108 : ConOK TT 108 sg108 F108 := con_fn (fn := inlF XX fn108) (ces := [(87, ce87), (102, ce102), (109, ce109), (111, ce111)]) (ents1 en87 (ents1 en102 (ents1 en109 (ents1 en111 ents0)))) hn108 pm108 (by kernel_rfl) rfl rfl (fun x => by kernel_rfl)
theorem en108 : EntOK TT 108 ce108 := ent_sep co108 (by kernel_rfl) rfl
/- impl.Settle -/
def hn41 : Hints := [(2, KNode, true), (4, KNode, true), (6, KNode, true), (7, KNode, true), (20, KNode, true), (21, KNode, true), (22, KNode, true), (23, KNode, true), (25, (.sl 1 I), true), (28, KLog, true), (31, KLog, true), (34, KLog, true), (36, KNode, true)]
def pm41 : List Nat := [2]
abbrev sg41 : Sig := ⟨[.dat KNode, .dat I], [KNode, .bool]⟩
def F41 (x : TNode × Int × Unit) : Option (TNode × Bool × Unit) :=
  bindK (F45 (x.1, ())) fun y0 =>
  bindK (bif bNot y0.1 then some true else bindK (F87 (x.2.1, x.1.2.2.2.2.2.2.1, x.1.2.2.2.2.2.2.2.2.2.1, ())) fun y1 =>
  some (bNot y1.1)) fun y2 =>
  bif y2 then some ((0, 0, 0, 0, 0, [], 0, 0, [], 0, 0, 0, [], [], ()), false, ()) else bindK (F94 (x.1, ())) fun y3 =>
  bindK (F44 x) fun y4 =>
  bindK (F109 ((x.1.2.2.2.2.2.2.1, x.1.2.2.2.2.2.2.2.1, x.1.2.2.2.2.2.2.2.2.1, ()), x.2)) fun y5 =>
  bindK (F108 ((x.1.2.2.2.2.2.2.1, x.1.2.2.2.2.2.2.2.1, x.1.2.2.2.2.2.2.2.2.1, ()), x.2.1, y5)) fun y6 =>
  some ((y3.1.1, y3.1.2.1, y3.1.2.2.1, y3.1.2.2.2.1, y3.1.2.2.2.2.1, y4.1, y6.1.1, y6.1.2.1, y6.1.2.2.1, y3.1.2.2.2.2.2.2.2.2.2), true, ())
abbrev ce41 : CE := .con false sg41 F41
theorem co41 : ConOK TT 41 sg41 F41 := con_fn (fn := inlF XX fn41) (ces := [(87, ce87), (45, ce45), (94, ce94), (44, ce44), (108, ce108), (109, ce109)]) (ents1 en87 (ents1 en45 (ents1 en94 (ents1 en44 (ents1 en108 (ents1 en109 ents0)))))) hn41 pm41 (by kernel_rfl) rfl rfl (fun x => by kernel_rfl)
theorem en41 : EntOK TT 41 ce41 := ent_sep co41 (by kernel_rfl) rfl
/- laws.FnExactSettle -/
def hn11 : Hints := [(2, KNode, true), (6, KNode, true), (8, KNode, true), (9, KNode, true), (14, KNode, true), (16, KNode, true), (22, KNode, true), (23, KNode, true), (26, KNode, true), (28, KNode, true), (29, KNode, true), (31, KNode, true), (34, KNode, true), (36, KNode, true), (37, KNode, true), (45, KNode, true), (46, KNode, true), (47, KNode, true), (50, KNode, true), (56, KNode, true), (57, KNode, true), (66, KNode, true), (69, KNode, true), (78, KNode, true), (79, KNode, true), (82, KNode, true), (84, KNode, true), (85, KNode, true), (93, KNode, true), (65538, KNode, true), (65542, (.sl 1 I), true), (65546, KLog, true), (65550, (.sl 1 I), true), (65554, (.sl 4 KPeer), true), (131074, KLog, true), (131078, (.sl 3 KEntry), true)]
def pm11 : List Nat := [2, 6, 8, 9, 14]
abbrev sg11 : Sig := ⟨[.dat KNode, .dat I], [.bool]⟩
def F11 (x : TNode × Int × Unit) : Option (Bool × Unit) :=
  bindK (F46 (x.1, 1048576, ())) fun y0 =>
  bif iLt y0.1 0 then some (true, ()) else bindK (F48 (x.1, ())) fun y1 =>
  bindK (F61 (y1.1, x.2)) fun y2 =>
  bindK (F48 (x.1, ())) fun y3 =>
  bindK (F41 (y3.1, x.2)) fun y4 =>
  bindK (F49 (y4.1, y2.1, ())) fun y5 =>
  bindK (bif bNot y5.1 then some true else some (bNe y4.2.1 y2.2.1)) fun y6 =>
  bif y6 then some (false, ()) else bindK (F48 (x.1, ())) fun y7 =>
  bindK (F49 (y3.1, y7)) fun y8 =>
  bif bNot y8.1 then some (false, ()) else bindK (F53 (y3.1.2.2.2.2.2.1, 1, ())) fun y9 =>
  bindK (F26 (y3.1.2.2.2.2.2.2.2.2.1, y9.1, ())) fun y10 =>
  bindK (F53 (y3.1.2.2.2.2.2.2.2.2.2.2.2.2.1, y10.1, ())) fun y11 =>
  bindK (F125 (y3.1.2.2.2.2.2.2.2.2.2.2.2.2.2.1, y11.1, ())) fun y12 =>
  bindK (bif iLt y12.1 0 then some true else bindK (F49 (y4.1, y2.1, ())) fun y13 =>
  some (bNot y13.1)) fun y14 =>
  bindK (bif y14 then some true else some (bNe y4.2.1 y2.2.1)) fun y15 =>
  bif y15 then some (false, ()) else bindK (F53 (y4.1.2.2.2.2.2.1, 1, ())) fun y16 =>
  bindK (F26 (y4.1.2.2.2.2.2.2.2.2.1, y16.1, ())) fun y17 =>
  bindK (F53 (y4.1.2.2.2.2.2.2.2.2.2.2.2.2.1, y17.1, ())) fun y18 =>
  bindK (F125 (y4.1.2.2.2.2.2.2.2.2.2.2.2.2.2.1, y18.1, ())) fun y19 =>
  bindK (F55 ((y4.1.1, y4.1.2.1, y4.1.2.2.1, y4.1.2.2.2.1, y4.1.2.2.2.2.1, y16.2.1, y4.1.2.2.2.2.2.2.1, y4.1.2.2.2.2.2.2.2.1, y17.2.1, y4.1.2.2.2.2.2.2.2.2.2.1, y4.1.2.2.2.2.2.2.2.2.2.2.1, y4.1.2.2.2.2.2.2.2.2.2.2.2.1, y18.2.1, y19.2), 1, ())) fun y20 =>
  bif iLt y20.1 0 then some (false, ()) else bif iNe y20.1 y19.1 then some (false, ()) else bindK (F48 (x.1, ())) fun y21 =>
  bindK (F41 (y21.1, x.2)) fun y22 =>
  bindK (F49 (y22.1, y2.1, ())) fun y23 =>
  bindK (bif bNot y23.1 then some true else some (bNe y22.2.1 y2.2.1)) fun y24 =>
  bif y24 then some (false, ()) else bindK (F55 ((y4.1.1, y4.1.2.1, y4.1.2.2.1, y4.1.2.2.2.1, y4.1.2.2.2.2.1, y16.2.1, y4.1.2.2.2.2.2.2.1, y4.1.2.2.2.2.2.2.2.1, y17.2.1, y4.1.2.2.2.2.2.2.2.2.2.1, y4.1.2.2.2.2.2.2.2.2.2.2.1, y4.1.2.2.2.2.2.2.2.2.2.2.2.1, y18.2.1, y19.2), 1, ())) fun y25 =>
  bif iLt y25.1 0 then some (false, ()) else bif iNe y25.1 y19.1 then some (false, ()) else some (true, ())
abbrev ce11 : CE := .con true sg11 F11
theorem co11 : ConOK TT 11 sg11 F11 := con_fn (fn := inlF XX fn11) (ces := [(46, ce46), (61, ce61), (48, ce48), (41, ce41), (49, ce49), (53, ce53), (26, ce26), (125, ce125), (55, ce55)]) (ents1 en46 (ents1 en61 (ents1 en48 (ents1 en41 (ents1 en49 (ents1 en53 (ents1 en26 (ents1 en125 (ents1 en55 ents0))))))))) hn11 pm11 (by kernel_rfl) rfl rfl (fun x => by kernel_rfl)
theorem en11 : EntOK TT 11 ce11 := ent_fz co11 (by kernel_rfl) rfl rfl rfl
end
end Go.Proofs.Ytiamdibpgdkedaa.Nd
