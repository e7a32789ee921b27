/- The functions that FnExactFormatDisk reaches, told as functions of data, and that the program does what they tell. -/
import Derived.Test.YtlnehfgjfmamjaaGreatDoorFda
namespace Go.Proofs.YtlnehfgjfmamjaaGreatDoor.Fd
set_option linter.unusedVariables false
set_option linter.unusedSimpArgs false
set_option maxRecDepth 100000
open Go Go.Am

noncomputable section
theorem ents0 : ∀ p ∈ ([] : List (Nat × CE)), EntOK TT p.1 p.2 := fun p h => by cases h
theorem ents1 {a : Nat} {v : CE} {l : List (Nat × CE)} (h : EntOK TT a v) (k : ∀ p ∈ l, EntOK TT p.1 p.2) : ∀ p ∈ (a, v) :: l, EntOK TT p.1 p.2 := fun p hp => (List.mem_cons.1 hp).elim (fun e => e ▸ h) (k p)
/- spec.l01In -/
def hn37 : Hints := []
def pm37 : List Nat := []
abbrev sg37 : Sig := ⟨[.dat I, .dat I, .dat I], [.bool]⟩
def F37 (W : Words) (x : Int × Int × Int × Unit) : Option (Bool × Unit) :=
  W.bindK (bif W.iGe x.1 x.2.1 then some (W.iLe x.1 x.2.2.1) else some false) fun y0 =>
  some (y0, ())
abbrev ce37 : CE := .con true sg37 (F37 WW)
theorem co37 : ConOK TT 37 sg37 (F37 WW) := con_fn (fn := inlF XX fn37) (ces := []) ents0 hn37 pm37 (by kernel_rfl) rfl rfl (fun x => by kernel_rfl)
theorem en37 : EntOK TT 37 ce37 := ent_fz co37 (by kernel_rfl) rfl rfl rfl
/- spec.EntryOk -/
abbrev sg164 : Sig := ⟨[.dat KEntry], [.bool]⟩
def F164 (W : Words) (x : TEntry × Unit) : Option (Bool × Unit) := none
abbrev ce164 : CE := .con true sg164 (F164 WW)
theorem co164 : ConOK TT 164 sg164 (F164 WW) := con_none fun x => rfl
theorem en164 : EntOK TT 164 ce164 := ent_fz co164 (by kernel_rfl) rfl rfl rfl
/- spec.LogOk -/
def hn116 : Hints := [(1, KLog, true), (17, (.sl 3 KEntry), true), (25, (.sl 3 KEntry), true), (34, (.sl 3 KEntry), true), (40, (.sl 3 KEntry), true), (48, (.sl 3 KEntry), true), (57, (.sl 3 KEntry), true)]
def pm116 : List Nat := [1]
abbrev sg116 : Sig := ⟨[.dat KLog], [.bool]⟩
def F116 (W : Words) (x : TLog × Unit) : Option (Bool × Unit) :=
  W.bindK (F37 W (x.1.1, 0, 1000000, ())) fun y0 =>
  W.bindK (bif W.bNot y0.1 then some true else W.bindK (F37 W (x.1.2.1, 0, 100000, ())) fun y1 =>
  some (W.bNot y1.1)) fun y2 =>
  W.bindK (bif y2 then some true else some (W.iGt (W.lenI x.1.2.2.1) 60)) fun y3 =>
  W.bindK (bif y3 then some true else some (W.iGt (W.iAdd .i64 x.1.1 (W.lenI x.1.2.2.1)) 1000000)) fun y4 =>
  bif y4 then some (false, ()) else W.loopF (fun rec5 (s6 : TItem) =>
  bif W.iLt s6.2.1 (W.lenI x.1.2.2.1) then W.idxK x.1.2.2.1 s6.2.1 fun y7 =>
  W.bindK (F164 W (y7, ())) fun y8 =>
  W.bindK (bif W.bNot y8.1 then some true else W.idxK x.1.2.2.1 s6.2.1 fun y9 =>
  some (W.iLt y9.1 s6.1)) fun y10 =>
  bif y10 then some (false, ()) else W.idxK x.1.2.2.1 s6.2.1 fun y11 =>
  rec5 (y11.1, W.iAdd .i64 s6.2.1 1, ()) else some (true, ())) NN (x.1.2.1, 0, ())
abbrev ce116 : CE := .con true sg116 (F116 WW)
theorem co116 : ConOK TT 116 sg116 (F116 WW) := con_fn (fn := inlF XX fn116) (ces := [(37, ce37), (164, ce164)]) (ents1 en37 (ents1 en164 ents0)) hn116 pm116 (by kernel_rfl) rfl rfl (fun x => by kernel_rfl)
theorem en116 : EntOK TT 116 ce116 := ent_fz co116 (by kernel_rfl) rfl rfl rfl
/- spec.JournalOk -/
def hn56 : Hints := [(1, KJournal, true), (18, KLog, true)]
def pm56 : List Nat := [1]
abbrev sg56 : Sig := ⟨[.dat KJournal], [.bool]⟩
def F56 (W : Words) (x : TJournal × Unit) : Option (Bool × Unit) :=
  W.bindK (F37 W (x.1.1, 0, 999, ())) fun y0 =>
  W.bindK (bif y0.1 then W.bindK (F37 W (x.1.2.1, 0, 100000, ())) fun y1 =>
  some y1.1 else some false) fun y2 =>
  W.bindK (bif y2 then W.bindK (F37 W (x.1.2.2.1, 0, 4, ())) fun y3 =>
  some y3.1 else some false) fun y4 =>
  W.bindK (bif y4 then W.bindK (F116 W (x.1.2.2.2, ())) fun y5 =>
  some y5.1 else some false) fun y6 =>
  some (y6, ())
abbrev ce56 : CE := .con true sg56 (F56 WW)
theorem co56 : ConOK TT 56 sg56 (F56 WW) := con_fn (fn := inlF XX fn56) (ces := [(116, ce116), (37, ce37)]) (ents1 en116 (ents1 en37 ents0)) hn56 pm56 (by kernel_rfl) rfl rfl (fun x => by kernel_rfl)
theorem en56 : EntOK TT 56 ce56 := ent_fz co56 (by kernel_rfl) rfl rfl rfl
/- spec.l02Four -/
def hn117 : Hints := [(14, (.sl 1 (.int .u8)), true)]
def pm117 : List Nat := []
abbrev sg117 : Sig := ⟨[.dat (.int .u32)], [.str]⟩
def F117 (W : Words) (x : Int × Unit) : Option (List UInt8 × Unit) :=
  W.guardK (W.gNn 24) <|
  W.guardK (W.gNn 16) <|
  W.guardK (W.gNn 8) <|
  some (W.strP [W.iConv .u8 (W.iShr .u32 x.1 24), W.iConv .u8 (W.iShr .u32 x.1 16), W.iConv .u8 (W.iShr .u32 x.1 8), W.iConv .u8 x.1], ())
abbrev ce117 : CE := .con true sg117 (F117 WW)
theorem co117 : ConOK TT 117 sg117 (F117 WW) := con_fn (fn := inlF XX fn117) (ces := []) ents0 hn117 pm117 (by kernel_rfl) rfl rfl (fun x => by kernel_rfl)
theorem en117 : EntOK TT 117 ce117 := ent_fz co117 (by kernel_rfl) rfl rfl rfl
/- spec.SumMore -/
def hn165 : Hints := []
def pm165 : List Nat := []
abbrev sg165 : Sig := ⟨[.dat (.int .u32), .dat .str], [(.int .u32)]⟩
def F165 (W : Words) (x : Int × List UInt8 × Unit) : Option (Int × Unit) :=
  W.loopF (fun rec0 (s1 : TItem) =>
  bif W.iLt s1.1 (W.lenI x.2.1) then W.idxK x.2.1 s1.1 fun y2 =>
  W.loopF (fun rec3 (s4 : TItem) =>
  bif W.iLt s4.1 8 then W.guardK (W.gNz 2) <|
  W.guardK (W.gNz 2) <|
  W.joinK (fun (s5 : Int × Unit) =>
  rec3 (W.iAdd .i64 s4.1 1, s5)) fun k6 =>
  bif W.iEq (W.iRem s4.2.1 2) 1 then k6 (W.iXor .u32 (W.iQuo .u32 s4.2.1 2) 3558460437, ()) else k6 (W.iQuo .u32 s4.2.1 2, ()) else rec0 (W.iAdd .i64 s1.1 1, s4.2)) NN (0, W.iXor .u32 s1.2.1 (W.iConv .u32 (W.byteI y2)), ()) else some s1.2) NN (0, x.1, ())
abbrev ce165 : CE := .con true sg165 (F165 WW)
theorem co165 : ConOK TT 165 sg165 (F165 WW) := con_fn (fn := inlF XX fn165) (ces := []) ents0 hn165 pm165 (by kernel_rfl) rfl rfl (fun x => by kernel_rfl)
theorem en165 : EntOK TT 165 ce165 := ent_fz co165 (by kernel_rfl) rfl rfl rfl
/- spec.SumOf -/
def hn118 : Hints := []
def pm118 : List Nat := []
abbrev sg118 : Sig := ⟨[.dat .str], [(.int .u32)]⟩
def F118 (W : Words) (x : List UInt8 × Unit) : Option (Int × Unit) :=
  W.bindK (F165 W (4294967295, x)) fun y0 =>
  some y0
abbrev ce118 : CE := .con true sg118 (F118 WW)
theorem co118 : ConOK TT 118 sg118 (F118 WW) := con_fn (fn := inlF XX fn118) (ces := [(165, ce165)]) (ents1 en165 ents0) hn118 pm118 (by kernel_rfl) rfl rfl (fun x => by kernel_rfl)
theorem en118 : EntOK TT 118 ce118 := ent_fz co118 (by kernel_rfl) rfl rfl rfl
/- spec.l01Var -/
def hn58 : Hints := [(3, (.sl 1 (.int .u8)), true), (4, (.sl 1 (.int .u8)), true), (7, (.sl 1 (.int .u8)), true), (12, (.sl 1 (.int .u8)), true), (13, (.sl 1 (.int .u8)), true), (16, (.sl 1 (.int .u8)), true), (19, (.sl 1 (.int .u8)), true), (20, (.sl 1 (.int .u8)), true)]
def pm58 : List Nat := []
abbrev sg58 : Sig := ⟨[.dat I], [.str]⟩
def F58 (W : Words) (x : Int × Unit) : Option (List UInt8 × Unit) :=
  W.loopF (fun rec0 (s1 : Int × List Int × Unit) =>
  bif W.iGt s1.1 127 then W.guardK (W.gNz 128) <|
  W.guardK (W.gApp s1.2.1 [W.iConv .u8 (W.iAdd .i64 (W.iRem s1.1 128) 128)] 1) <|
  W.guardK (W.gNz 128) <|
  rec0 (W.iQuo .i64 s1.1 128, W.cat s1.2.1 [W.iConv .u8 (W.iAdd .i64 (W.iRem s1.1 128) 128)], ()) else W.guardK (W.gApp s1.2.1 [W.iConv .u8 s1.1] 1) <|
  some (W.strP (W.cat s1.2.1 [W.iConv .u8 s1.1]), ())) NN (x.1, [], ())
abbrev ce58 : CE := .con true sg58 (F58 WW)
theorem co58 : ConOK TT 58 sg58 (F58 WW) := con_fn (fn := inlF XX fn58) (ces := []) ents0 hn58 pm58 (by kernel_rfl) rfl rfl (fun x => by kernel_rfl)
theorem en58 : EntOK TT 58 ce58 := ent_fz co58 (by kernel_rfl) rfl rfl rfl
/- spec.Frame -/
def hn57 : Hints := []
def pm57 : List Nat := []
abbrev sg57 : Sig := ⟨[.dat .str], [.str, .bool]⟩
def F57 (W : Words) (x : List UInt8 × Unit) : Option (List UInt8 × Bool × Unit) :=
  W.bindK (F37 W (W.lenI x.1, 1, 9000, ())) fun y0 =>
  bif W.bNot y0.1 then some (W.litS [], false, ()) else W.bindK (F58 W (W.lenI x.1, ())) fun y1 =>
  W.bindK (F118 W x) fun y2 =>
  W.bindK (F117 W y2) fun y3 =>
  W.guardK (W.gCat y1.1 y3.1) <|
  W.guardK (W.gCat (W.cat y1.1 y3.1) x.1) <|
  some (W.cat (W.cat y1.1 y3.1) x.1, true, ())
abbrev ce57 : CE := .con true sg57 (F57 WW)
theorem co57 : ConOK TT 57 sg57 (F57 WW) := con_fn (fn := inlF XX fn57) (ces := [(37, ce37), (117, ce117), (118, ce118), (58, ce58)]) (ents1 en37 (ents1 en117 (ents1 en118 (ents1 en58 ents0)))) hn57 pm57 (by kernel_rfl) rfl rfl (fun x => by kernel_rfl)
theorem en57 : EntOK TT 57 ce57 := ent_fz co57 (by kernel_rfl) rfl rfl rfl
/- spec.EntryText -/
abbrev sg119 : Sig := ⟨[.dat I, .dat KEntry], [.str, .bool]⟩
def F119 (W : Words) (x : Int × TEntry × Unit) : Option (List UInt8 × Bool × Unit) := none
abbrev ce119 : CE := .con true sg119 (F119 WW)
theorem co119 : ConOK TT 119 sg119 (F119 WW) := con_none fun x => rfl
theorem en119 : EntOK TT 119 ce119 := ent_fz co119 (by kernel_rfl) rfl rfl rfl
/- spec.l07Frames -/
def hn60 : Hints := [(2, KLog, true), (5, (.sl 1 (.int .u8)), true), (11, (.sl 1 (.int .u8)), true), (15, (.sl 3 KEntry), true), (27, (.sl 3 KEntry), true), (39, (.sl 1 (.int .u8)), true), (41, (.sl 1 (.int .u8)), true), (42, (.sl 1 (.int .u8)), true), (43, (.sl 1 (.int .u8)), true)]
def pm60 : List Nat := [2]
abbrev sg60 : Sig := ⟨[.dat KLog, .dat I], [.str]⟩
def F60 (W : Words) (x : TLog × Int × Unit) : Option (List UInt8 × Unit) :=
  W.loopF (fun rec0 (s1 : Int × List Int × Unit) =>
  bif W.iLt s1.1 (W.lenI x.1.2.2.1) then W.idxK x.1.2.2.1 s1.1 fun y2 =>
  W.bindK (F119 W (W.iAdd .i64 (W.iAdd .i64 x.1.1 1) s1.1, y2, ())) fun y3 =>
  W.bindK (F57 W (y3.1, ())) fun y4 =>
  W.guardK (W.gS2b y4.1) <|
  W.guardK (W.gApp s1.2.1 (W.bytesP y4.1) 1) <|
  rec0 (W.iAdd .i64 s1.1 1, W.cat s1.2.1 (W.bytesP y4.1), ()) else some (W.strP s1.2.1, ())) NN (x.2.1, [], ())
abbrev ce60 : CE := .con true sg60 (F60 WW)
theorem co60 : ConOK TT 60 sg60 (F60 WW) := con_fn (fn := inlF XX fn60) (ces := [(119, ce119), (57, ce57)]) (ents1 en119 (ents1 en57 ents0)) hn60 pm60 (by kernel_rfl) rfl rfl (fun x => by kernel_rfl)
theorem en60 : EntOK TT 60 ce60 := ent_fz co60 (by kernel_rfl) rfl rfl rfl
/- spec.l07Hard -/
def hn59 : Hints := []
def pm59 : List Nat := []
abbrev sg59 : Sig := ⟨[.dat I, .dat I], [.str]⟩
def F59 (W : Words) (x : Int × Int × Unit) : Option (List UInt8 × Unit) :=
  W.bindK (F58 W (x.1, ())) fun y0 =>
  W.guardK (W.gCat (W.litS [72]) y0.1) <|
  W.bindK (F58 W x.2) fun y1 =>
  W.guardK (W.gCat (W.cat (W.litS [72]) y0.1) y1.1) <|
  W.bindK (F57 W (W.cat (W.cat (W.litS [72]) y0.1) y1.1, ())) fun y2 =>
  some (y2.1, ())
abbrev ce59 : CE := .con true sg59 (F59 WW)
theorem co59 : ConOK TT 59 sg59 (F59 WW) := con_fn (fn := inlF XX fn59) (ces := [(57, ce57), (58, ce58)]) (ents1 en57 (ents1 en58 ents0)) hn59 pm59 (by kernel_rfl) rfl rfl (fun x => by kernel_rfl)
theorem en59 : EntOK TT 59 ce59 := ent_fz co59 (by kernel_rfl) rfl rfl rfl
/- spec.JournalText -/
def hn20 : Hints := [(1, KJournal, true), (7, KJournal, true), (32, KLog, true)]
def pm20 : List Nat := [1]
abbrev sg20 : Sig := ⟨[.dat KJournal], [.str, .bool]⟩
def F20 (W : Words) (x : TJournal × Unit) : Option (List UInt8 × Bool × Unit) :=
  W.bindK (F56 W x) fun y0 =>
  bif W.bNot y0.1 then some (W.litS [], false, ()) else W.bindK (F58 W (x.1.2.2.2.1, ())) fun y1 =>
  W.guardK (W.gCat (W.litS [66]) y1.1) <|
  W.bindK (F58 W (x.1.2.2.2.2.1, ())) fun y2 =>
  W.guardK (W.gCat (W.cat (W.litS [66]) y1.1) y2.1) <|
  W.bindK (F57 W (W.cat (W.cat (W.litS [66]) y1.1) y2.1, ())) fun y3 =>
  W.bindK (F59 W (x.1.2.1, x.1.2.2.1, ())) fun y4 =>
  W.guardK (W.gCat y3.1 y4.1) <|
  W.bindK (F60 W (x.1.2.2.2, 0, ())) fun y5 =>
  W.guardK (W.gCat (W.cat y3.1 y4.1) y5.1) <|
  bif W.iGt (W.lenI (W.cat (W.cat y3.1 y4.1) y5.1)) 20000 then some (W.litS [], false, ()) else some (W.cat (W.cat y3.1 y4.1) y5.1, true, ())
abbrev ce20 : CE := .con true sg20 (F20 WW)
theorem co20 : ConOK TT 20 sg20 (F20 WW) := con_fn (fn := inlF XX fn20) (ces := [(56, ce56), (57, ce57), (58, ce58), (60, ce60), (59, ce59)]) (ents1 en56 (ents1 en57 (ents1 en58 (ents1 en60 (ents1 en59 ents0))))) hn20 pm20 (by kernel_rfl) rfl rfl (fun x => by kernel_rfl)
theorem en20 : EntOK TT 20 ce20 := ent_fz co20 (by kernel_rfl) rfl rfl rfl
/- spec.l05Rise -/
def hn38 : Hints := [(9, (.sl 1 I), true), (14, (.sl 1 I), true), (26, (.sl 1 I), true), (31, (.sl 1 I), true)]
def pm38 : List Nat := []
abbrev sg38 : Sig := ⟨[.dat (.sl 1 I), .dat I, .dat I], [.bool]⟩
def F38 (W : Words) (x : List Int × Int × Int × Unit) : Option (Bool × Unit) :=
  W.loopF (fun rec0 (s1 : Int × Unit) =>
  bif W.iLt s1.1 (W.lenI x.1) then W.idxK x.1 s1.1 fun y2 =>
  W.bindK (F37 W (y2, x.2)) fun y3 =>
  W.bindK (bif W.bNot y3.1 then some true else W.bindK (bif W.iGt s1.1 0 then W.idxK x.1 (W.iSub .i64 s1.1 1) fun y4 =>
  W.idxK x.1 s1.1 fun y5 =>
  some (W.iGe y4 y5) else some false) fun y6 =>
  some y6) fun y7 =>
  bif y7 then some (false, ()) else rec0 (W.iAdd .i64 s1.1 1, ()) else some (true, ())) NN (0, ())
abbrev ce38 : CE := .con true sg38 (F38 WW)
theorem co38 : ConOK TT 38 sg38 (F38 WW) := con_fn (fn := inlF XX fn38) (ces := [(37, ce37)]) (ents1 en37 ents0) hn38 pm38 (by kernel_rfl) rfl rfl (fun x => by kernel_rfl)
theorem en38 : EntOK TT 38 ce38 := ent_fz co38 (by kernel_rfl) rfl rfl rfl
/- spec.ConfOk -/
def hn15 : Hints := [(3, (.sl 1 I), true), (7, (.sl 1 I), true)]
def pm15 : List Nat := []
abbrev sg15 : Sig := ⟨[.dat (.sl 1 I)], [.bool]⟩
def F15 (W : Words) (x : List Int × Unit) : Option (Bool × Unit) :=
  W.bindK (F37 W (W.lenI x.1, 1, 4, ())) fun y0 =>
  W.bindK (bif y0.1 then W.bindK (F38 W (x.1, 1, 4, ())) fun y1 =>
  some y1.1 else some false) fun y2 =>
  some (y2, ())
abbrev ce15 : CE := .con true sg15 (F15 WW)
theorem co15 : ConOK TT 15 sg15 (F15 WW) := con_fn (fn := inlF XX fn15) (ces := [(38, ce38), (37, ce37)]) (ents1 en38 (ents1 en37 ents0)) hn15 pm15 (by kernel_rfl) rfl rfl (fun x => by kernel_rfl)
theorem en15 : EntOK TT 15 ce15 := ent_fz co15 (by kernel_rfl) rfl rfl rfl
/- spec.ConfText -/
def hn61 : Hints := [(4, (.sl 1 (.int .u8)), true), (6, (.sl 1 I), true), (9, (.sl 1 (.int .u8)), true), (11, (.sl 1 I), true), (16, (.sl 1 (.int .u8)), true), (17, (.sl 1 I), true), (22, (.sl 1 (.int .u8)), true), (23, (.sl 1 (.int .u8)), true), (24, (.sl 1 (.int .u8)), true)]
def pm61 : List Nat := []
abbrev sg61 : Sig := ⟨[.dat (.sl 1 I)], [.str, .bool]⟩
def F61 (W : Words) (x : List Int × Unit) : Option (List UInt8 × Bool × Unit) :=
  W.bindK (F15 W x) fun y0 =>
  bif W.bNot y0.1 then some (W.litS [], false, ()) else W.loopF (fun rec1 (s2 : Int × List Int × Unit) =>
  bif W.iLt s2.1 (W.lenI x.1) then W.idxK x.1 s2.1 fun y3 =>
  W.guardK (W.gApp s2.2.1 [W.iConv .u8 y3] 1) <|
  rec1 (W.iAdd .i64 s2.1 1, W.cat s2.2.1 [W.iConv .u8 y3], ()) else some (W.strP s2.2.1, true, ())) NN (0, [], ())
abbrev ce61 : CE := .con true sg61 (F61 WW)
theorem co61 : ConOK TT 61 sg61 (F61 WW) := con_fn (fn := inlF XX fn61) (ces := [(15, ce15)]) (ents1 en15 ents0) hn61 pm61 (by kernel_rfl) rfl rfl (fun x => by kernel_rfl)
theorem en61 : EntOK TT 61 ce61 := ent_fz co61 (by kernel_rfl) rfl rfl rfl
/- spec.l05Short -/
def hn62 : Hints := []
def pm62 : List Nat := []
abbrev sg62 : Sig := ⟨[.dat .str], [.str]⟩
def F62 (W : Words) (x : List UInt8 × Unit) : Option (List UInt8 × Unit) :=
  W.bindK (F58 W (W.lenI x.1, ())) fun y0 =>
  W.guardK (W.gCat y0.1 x.1) <|
  some (W.cat y0.1 x.1, ())
abbrev ce62 : CE := .con true sg62 (F62 WW)
theorem co62 : ConOK TT 62 sg62 (F62 WW) := con_fn (fn := inlF XX fn62) (ces := [(58, ce58)]) (ents1 en58 ents0) hn62 pm62 (by kernel_rfl) rfl rfl (fun x => by kernel_rfl)
theorem en62 : EntOK TT 62 ce62 := ent_fz co62 (by kernel_rfl) rfl rfl rfl
/- spec.Sealed -/
def hn63 : Hints := []
def pm63 : List Nat := []
abbrev sg63 : Sig := ⟨[.dat .str], [.str, .bool]⟩
def F63 (W : Words) (x : List UInt8 × Unit) : Option (List UInt8 × Bool × Unit) :=
  bif W.iGt (W.lenI x.1) 20000 then some (W.litS [], false, ()) else W.bindK (F118 W x) fun y0 =>
  W.bindK (F117 W y0) fun y1 =>
  W.guardK (W.gCat x.1 y1.1) <|
  some (W.cat x.1 y1.1, true, ())
abbrev ce63 : CE := .con true sg63 (F63 WW)
theorem co63 : ConOK TT 63 sg63 (F63 WW) := con_fn (fn := inlF XX fn63) (ces := [(117, ce117), (118, ce118)]) (ents1 en117 (ents1 en118 ents0)) hn63 pm63 (by kernel_rfl) rfl rfl (fun x => by kernel_rfl)
theorem en63 : EntOK TT 63 ce63 := ent_fz co63 (by kernel_rfl) rfl rfl rfl
/- spec.SnapText -/
def hn21 : Hints := [(1, KSnap, true), (9, (.sl 1 I), true)]
def pm21 : List Nat := [1]
abbrev sg21 : Sig := ⟨[.dat KSnap], [.str, .bool]⟩
def F21 (W : Words) (x : TSnap × Unit) : Option (List UInt8 × Bool × Unit) :=
  W.bindK (F61 W (x.1.2.2.1, ())) fun y0 =>
  W.bindK (bif W.bNot y0.2.1 then some true else W.bindK (F37 W (x.1.1, 0, 1000000, ())) fun y1 =>
  some (W.bNot y1.1)) fun y2 =>
  W.bindK (bif y2 then some true else W.bindK (F37 W (x.1.2.1, 0, 100000, ())) fun y3 =>
  some (W.bNot y3.1)) fun y4 =>
  W.bindK (bif y4 then some true else some (W.iGt (W.lenI x.1.2.2.2.1) 20000)) fun y5 =>
  bif y5 then some (W.litS [], false, ()) else W.bindK (F58 W (x.1.1, ())) fun y6 =>
  W.bindK (F58 W (x.1.2.1, ())) fun y7 =>
  W.guardK (W.gCat y6.1 y7.1) <|
  W.bindK (F62 W (y0.1, ())) fun y8 =>
  W.guardK (W.gCat (W.cat y6.1 y7.1) y8.1) <|
  W.bindK (F62 W x.1.2.2.2) fun y9 =>
  W.guardK (W.gCat (W.cat (W.cat y6.1 y7.1) y8.1) y9.1) <|
  bif W.iGt (W.iAdd .i64 (W.lenI (W.cat (W.cat (W.cat y6.1 y7.1) y8.1) y9.1)) 4) 20000 then some (W.litS [], false, ()) else W.bindK (F63 W (W.cat (W.cat (W.cat y6.1 y7.1) y8.1) y9.1, ())) fun y10 =>
  some y10
abbrev ce21 : CE := .con true sg21 (F21 WW)
theorem co21 : ConOK TT 21 sg21 (F21 WW) := con_fn (fn := inlF XX fn21) (ces := [(61, ce61), (37, ce37), (62, ce62), (58, ce58), (63, ce63)]) (ents1 en61 (ents1 en37 (ents1 en62 (ents1 en58 (ents1 en63 ents0))))) hn21 pm21 (by kernel_rfl) rfl rfl (fun x => by kernel_rfl)
theorem en21 : EntOK TT 21 ce21 := ent_fz co21 (by kernel_rfl) rfl rfl rfl
/- spec.l12Add -/
abbrev sg200 : Sig := ⟨[.dat KRoom, .dat KEvent], [KRoom, .bool]⟩
def F200 (W : Words) (x : TRoom × TEvent × Unit) : Option (TRoom × Bool × Unit) := none
abbrev ce200 : CE := .con false sg200 (F200 WW)
theorem co200 : ConOK TT 200 sg200 (F200 WW) := con_none fun x => rfl
theorem en200 : EntOK TT 200 ce200 := ent_sep co200 (by kernel_rfl) rfl
/- spec.l09Same -/
abbrev sg231 : Sig := ⟨[.dat KEvent, .dat KEvent], [.bool]⟩
def F231 (W : Words) (x : TEvent × TEvent × Unit) : Option (Bool × Unit) := none
abbrev ce231 : CE := .con true sg231 (F231 WW)
theorem co231 : ConOK TT 231 sg231 (F231 WW) := con_none fun x => rfl
theorem en231 : EntOK TT 231 ce231 := ent_fz co231 (by kernel_rfl) rfl rfl rfl
/- spec.l12SameState -/
abbrev sg232 : Sig := ⟨[.dat (.sl 2 KItem), .dat (.sl 2 KItem)], [.bool]⟩
def F232 (W : Words) (x : List TItem × List TItem × Unit) : Option (Bool × Unit) := none
abbrev ce232 : CE := .con true sg232 (F232 WW)
theorem co232 : ConOK TT 232 sg232 (F232 WW) := con_none fun x => rfl
theorem en232 : EntOK TT 232 ce232 := ent_fz co232 (by kernel_rfl) rfl rfl rfl
/- spec.l12Same -/
def hn201 : Hints := [(2, KRoom, true), (3, KRoom, true), (9, (.sl 9 KEvent), true), (12, (.sl 9 KEvent), true), (17, (.sl 1 (.sl 2 KItem)), true), (20, (.sl 1 (.sl 2 KItem)), true), (26, (.sl 1 .bool), true), (29, (.sl 1 .bool), true), (35, (.sl 9 KEvent), true), (41, (.sl 9 KEvent), true), (44, KEvent, true), (46, (.sl 9 KEvent), true), (49, KEvent, true), (54, (.sl 1 (.sl 2 KItem)), true), (60, (.sl 1 (.sl 2 KItem)), true), (63, (.sl 2 KItem), true), (65, (.sl 1 (.sl 2 KItem)), true), (68, (.sl 2 KItem), true), (73, (.sl 1 .bool), true), (79, (.sl 1 .bool), true), (84, (.sl 1 .bool), true)]
def pm201 : List Nat := [2, 3]
abbrev sg201 : Sig := ⟨[.dat KRoom, .dat KRoom], [.bool]⟩
def F201 (W : Words) (x : TRoom × TRoom × Unit) : Option (Bool × Unit) :=
  W.bindK (bif W.iNe (W.lenI x.1.1) (W.lenI x.2.1.1) then some true else some (W.iNe (W.lenI x.1.2.1) (W.lenI x.2.1.2.1))) fun y0 =>
  W.bindK (bif y0 then some true else some (W.iNe (W.lenI x.1.2.2.1) (W.lenI x.2.1.2.2.1))) fun y1 =>
  bif y1 then some (false, ()) else W.loopF (fun rec2 (s3 : Int × Unit) =>
  bif W.iLt s3.1 (W.lenI x.1.1) then W.idxK x.1.1 s3.1 fun y4 =>
  W.idxK x.2.1.1 s3.1 fun y5 =>
  W.bindK (F231 W (y4, y5, ())) fun y6 =>
  bif W.bNot y6.1 then some (false, ()) else rec2 (W.iAdd .i64 s3.1 1, ()) else W.loopF (fun rec7 (s8 : Int × Unit) =>
  bif W.iLt s8.1 (W.lenI x.1.2.1) then W.idxK x.1.2.1 s8.1 fun y9 =>
  W.idxK x.2.1.2.1 s8.1 fun y10 =>
  W.bindK (F232 W (y9, y10, ())) fun y11 =>
  bif W.bNot y11.1 then some (false, ()) else rec7 (W.iAdd .i64 s8.1 1, ()) else W.loopF (fun rec12 (s13 : Int × Unit) =>
  bif W.iLt s13.1 (W.lenI x.1.2.2.1) then W.idxK x.1.2.2.1 s13.1 fun y14 =>
  W.idxK x.2.1.2.2.1 s13.1 fun y15 =>
  bif W.bNe y14 y15 then some (false, ()) else rec12 (W.iAdd .i64 s13.1 1, ()) else some (true, ())) NN (0, ())) NN (0, ())) NN (0, ())
abbrev ce201 : CE := .con true sg201 (F201 WW)
theorem co201 : ConOK TT 201 sg201 (F201 WW) := con_fn (fn := inlF XX fn201) (ces := [(231, ce231), (232, ce232)]) (ents1 en231 (ents1 en232 ents0)) hn201 pm201 (by kernel_rfl) rfl rfl (fun x => by kernel_rfl)
theorem en201 : EntOK TT 201 ce201 := ent_fz co201 (by kernel_rfl) rfl rfl rfl
/- spec.RoomOk -/
def hn166 : Hints := [(1, KRoom, true), (3, KRoom, true), (5, KRoom, true), (7, KRoom, true), (9, (.sl 9 KEvent), true), (14, (.sl 9 KEvent), true), (20, KRoom, true), (22, (.sl 9 KEvent), true), (25, KEvent, true), (27, KRoom, true), (31, KRoom, true), (32, KRoom, true), (33, KRoom, true)]
def pm166 : List Nat := [5, 1]
abbrev sg166 : Sig := ⟨[.dat KRoom], [.bool]⟩
def F166 (W : Words) (x : TRoom × Unit) : Option (Bool × Unit) :=
  bif W.iGt (W.lenI x.1.1) 40 then some (false, ()) else W.loopF (fun rec0 (s1 : Int × TRoom × Unit) =>
  bif W.iLt s1.1 (W.lenI x.1.1) then W.idxK x.1.1 s1.1 fun y2 =>
  W.bindK (F200 W (s1.2.1, y2, ())) fun y3 =>
  bif W.bNot y3.2.1 then some (false, ()) else rec0 (W.iAdd .i64 s1.1 1, y3.1, ()) else W.bindK (F201 W (s1.2.1, x)) fun y4 =>
  some y4) NN (0, ([], [], [], ()), ())
abbrev ce166 : CE := .con true sg166 (F166 WW)
theorem co166 : ConOK TT 166 sg166 (F166 WW) := con_fn (fn := inlF XX fn166) (ces := [(200, ce200), (201, ce201)]) (ents1 en200 (ents1 en201 ents0)) hn166 pm166 (by kernel_rfl) rfl rfl (fun x => by kernel_rfl)
theorem en166 : EntOK TT 166 ce166 := ent_fz co166 (by kernel_rfl) rfl rfl rfl
/- spec.l13Own -/
def hn167 : Hints := [(1, KRoom, true), (2, (.sl 1 I), true), (3, (.sl 1 I), true), (5, (.sl 1 I), true), (8, (.sl 9 KEvent), true), (14, (.sl 1 .bool), true), (20, (.sl 9 KEvent), true), (28, (.sl 1 I), true), (30, (.sl 9 KEvent), true), (35, (.sl 1 I), true), (36, (.sl 1 I), true), (37, (.sl 1 I), true)]
def pm167 : List Nat := [1]
abbrev sg167 : Sig := ⟨[.dat KRoom], [(.sl 1 I)]⟩
def F167 (W : Words) (x : TRoom × Unit) : Option (List Int × Unit) :=
  W.loopF (fun rec0 (s1 : Int × List Int × Unit) =>
  bif W.iLt s1.1 (W.lenI x.1.1) then W.idxK x.1.2.2.1 s1.1 fun y2 =>
  W.bindK (bif y2 then W.idxK x.1.1 s1.1 fun y3 =>
  W.guardK (W.gNz 2) <|
  some (W.iEq (W.iRem y3.1 2) 0) else some false) fun y4 =>
  W.joinK (fun (s5 : List Int × Unit) =>
  rec0 (W.iAdd .i64 s1.1 1, s5)) fun k6 =>
  bif y4 then W.idxK x.1.1 s1.1 fun y7 =>
  W.guardK (W.gApp s1.2.1 [y7.1] 1) <|
  k6 (W.cat s1.2.1 [y7.1], ()) else k6 s1.2 else some s1.2) NN (0, [], ())
abbrev ce167 : CE := .con false sg167 (F167 WW)
theorem co167 : ConOK TT 167 sg167 (F167 WW) := con_fn (fn := inlF XX fn167) (ces := []) ents0 hn167 pm167 (by kernel_rfl) rfl rfl (fun x => by kernel_rfl)
theorem en167 : EntOK TT 167 ce167 := ent_sep co167 (by kernel_rfl) rfl
/- spec.l05SameInts -/
def hn168 : Hints := [(6, (.sl 1 I), true), (8, (.sl 1 I), true), (12, (.sl 1 I), true), (17, (.sl 1 I), true), (21, (.sl 1 I), true)]
def pm168 : List Nat := []
abbrev sg168 : Sig := ⟨[.dat (.sl 1 I), .dat (.sl 1 I)], [.bool]⟩
def F168 (W : Words) (x : List Int × List Int × Unit) : Option (Bool × Unit) :=
  bif W.iNe (W.lenI x.1) (W.lenI x.2.1) then some (false, ()) else W.loopF (fun rec0 (s1 : Int × Unit) =>
  bif W.iLt s1.1 (W.lenI x.1) then W.idxK x.1 s1.1 fun y2 =>
  W.idxK x.2.1 s1.1 fun y3 =>
  bif W.iNe y2 y3 then some (false, ()) else rec0 (W.iAdd .i64 s1.1 1, ()) else some (true, ())) NN (0, ())
abbrev ce168 : CE := .con true sg168 (F168 WW)
theorem co168 : ConOK TT 168 sg168 (F168 WW) := con_fn (fn := inlF XX fn168) (ces := []) ents0 hn168 pm168 (by kernel_rfl) rfl rfl (fun x => by kernel_rfl)
theorem en168 : EntOK TT 168 ce168 := ent_fz co168 (by kernel_rfl) rfl rfl rfl
/- spec.HallOk -/
def hn120 : Hints := [(1, KHall, true), (5, (.sl 1 I), true), (7, KOut, true), (9, (.sl 3 KEntry), true), (14, (.sl 3 KOut), true), (20, KRoom, true), (26, (.sl 3 KEntry), true), (32, (.sl 3 KEntry), true), (67, (.sl 3 KEntry), true), (79, KRoom, true), (80, (.sl 1 I), true), (83, (.sl 3 KOut), true), (89, (.sl 3 KOut), true), (92, KOut, true), (100, (.sl 1 I), true), (101, (.sl 1 I), true), (108, (.sl 1 I), true)]
def pm120 : List Nat := [4, 7, 1]
abbrev sg120 : Sig := ⟨[.dat KHall], [.bool]⟩
def F120 (W : Words) (x : THall × Unit) : Option (Bool × Unit) :=
  W.bindK (bif W.iGt (W.lenI x.1.1) 3 then some true else some (W.iNe (W.lenI x.1.2.2.2.2.1) 2)) fun y0 =>
  W.bindK (bif y0 then some true else W.bindK (F166 W ((x.1.2.1, x.1.2.2.1, x.1.2.2.2.1, ()), ())) fun y1 =>
  some (W.bNot y1.1)) fun y2 =>
  bif y2 then some (false, ()) else W.loopF (fun rec3 (s4 : Int × Unit) =>
  bif W.iLt s4.1 (W.lenI x.1.1) then W.idxK x.1.1 s4.1 fun y5 =>
  W.bindK (F37 W (y5.1, 1, 1000000, ())) fun y6 =>
  W.bindK (bif W.bNot y6.1 then some true else W.bindK (F37 W (y5.2.1, 0, 1000000, ())) fun y7 =>
  some (W.bNot y7.1)) fun y8 =>
  W.bindK (bif y8 then some true else some (W.iGt (W.lenI y5.2.2.1) 40)) fun y9 =>
  W.bindK (bif y9 then some true else W.bindK (bif W.iEq y5.2.1 0 then some (W.bNot (W.strEq y5.2.2.1 (W.litS []))) else some false) fun y10 =>
  some y10) fun y11 =>
  W.bindK (bif y11 then some true else W.bindK (bif W.iGt s4.1 0 then W.idxK x.1.1 (W.iSub .i64 s4.1 1) fun y12 =>
  some (W.iGe y12.1 y5.1) else some false) fun y13 =>
  some y13) fun y14 =>
  bif y14 then some (false, ()) else rec3 (W.iAdd .i64 s4.1 1, ()) else W.bindK (F167 W ((x.1.2.1, x.1.2.2.1, x.1.2.2.2.1, ()), ())) fun y15 =>
  W.loopF (fun rec16 (s17 : Int × List Int × Unit) =>
  bif W.iLt s17.1 (W.lenI x.1.2.2.2.2.1) then W.idxK x.1.2.2.2.2.1 s17.1 fun y18 =>
  W.bindK (bif W.iNe y18.1 (W.iAdd .i64 s17.1 1) then some true else W.bindK (F168 W (y18.2.2.1, s17.2)) fun y19 =>
  some (W.bNot y19.1)) fun y20 =>
  W.bindK (bif y20 then some true else W.bindK (F37 W (y18.2.1, 0, W.lenI s17.2.1, ())) fun y21 =>
  some (W.bNot y21.1)) fun y22 =>
  bif y22 then some (false, ()) else rec16 (W.iAdd .i64 s17.1 1, s17.2) else some (true, ())) NN (0, y15)) NN (0, ())
abbrev ce120 : CE := .con true sg120 (F120 WW)
theorem co120 : ConOK TT 120 sg120 (F120 WW) := con_fn (fn := inlF XX fn120) (ces := [(166, ce166), (37, ce37), (167, ce167), (168, ce168)]) (ents1 en166 (ents1 en37 (ents1 en167 (ents1 en168 ents0)))) hn120 pm120 (by kernel_rfl) rfl rfl (fun x => by kernel_rfl)
theorem en120 : EntOK TT 120 ce120 := ent_fz co120 (by kernel_rfl) rfl rfl rfl
/- spec.EventText -/
abbrev sg121 : Sig := ⟨[.dat KEvent], [.str, .bool]⟩
def F121 (W : Words) (x : TEvent × Unit) : Option (List UInt8 × Bool × Unit) := none
abbrev ce121 : CE := .con true sg121 (F121 WW)
theorem co121 : ConOK TT 121 sg121 (F121 WW) := con_none fun x => rfl
theorem en121 : EntOK TT 121 ce121 := ent_fz co121 (by kernel_rfl) rfl rfl rfl
/- spec.HallText -/
def hn64 : Hints := [(1, KHall, true), (4, (.sl 1 (.int .u8)), true), (11, KHall, true), (15, (.sl 3 KEntry), true), (18, (.sl 1 (.int .u8)), true), (21, (.sl 3 KEntry), true), (27, (.sl 3 KEntry), true), (31, (.sl 1 (.int .u8)), true), (43, (.sl 1 (.int .u8)), true), (44, (.sl 1 (.int .u8)), true), (45, (.sl 1 (.int .u8)), true), (48, (.sl 9 KEvent), true), (51, (.sl 1 (.int .u8)), true), (52, (.sl 1 (.int .u8)), true), (56, (.sl 9 KEvent), true), (64, (.sl 9 KEvent), true), (67, KEvent, true), (71, (.sl 1 (.int .u8)), true), (74, (.sl 1 (.int .u8)), true), (75, (.sl 1 (.int .u8)), true), (78, (.sl 3 KOut), true), (83, (.sl 1 (.int .u8)), true), (85, (.sl 3 KOut), true), (91, (.sl 1 (.int .u8)), true), (92, (.sl 1 (.int .u8)), true), (93, (.sl 1 (.int .u8)), true), (96, (.sl 1 (.int .u8)), true)]
def pm64 : List Nat := [6, 1]
abbrev sg64 : Sig := ⟨[.dat KHall], [.str, .bool]⟩
def F64 (W : Words) (x : THall × Unit) : Option (List UInt8 × Bool × Unit) :=
  W.bindK (F120 W x) fun y0 =>
  bif W.bNot y0.1 then some (W.litS [], false, ()) else W.bindK (F58 W (W.lenI x.1.1, ())) fun y1 =>
  W.guardK (W.gS2b y1.1) <|
  W.loopF (fun rec2 (s3 : Int × List Int × Unit) =>
  bif W.iLt s3.1 (W.lenI x.1.1) then W.idxK x.1.1 s3.1 fun y4 =>
  W.bindK (F58 W (y4.1, ())) fun y5 =>
  W.bindK (F58 W (y4.2.1, ())) fun y6 =>
  W.guardK (W.gCat y5.1 y6.1) <|
  W.bindK (F62 W y4.2.2) fun y7 =>
  W.guardK (W.gCat (W.cat y5.1 y6.1) y7.1) <|
  W.guardK (W.gS2b (W.cat (W.cat y5.1 y6.1) y7.1)) <|
  W.guardK (W.gApp s3.2.1 (W.bytesP (W.cat (W.cat y5.1 y6.1) y7.1)) 1) <|
  rec2 (W.iAdd .i64 s3.1 1, W.cat s3.2.1 (W.bytesP (W.cat (W.cat y5.1 y6.1) y7.1)), ()) else W.bindK (F58 W (W.lenI x.1.2.1, ())) fun y8 =>
  W.guardK (W.gS2b y8.1) <|
  W.guardK (W.gApp s3.2.1 (W.bytesP y8.1) 1) <|
  W.loopF (fun rec9 (s10 : Int × List Int × Unit) =>
  bif W.iLt s10.1 (W.lenI x.1.2.1) then W.idxK x.1.2.1 s10.1 fun y11 =>
  W.bindK (F121 W (y11, ())) fun y12 =>
  W.bindK (F62 W (y12.1, ())) fun y13 =>
  W.guardK (W.gS2b y13.1) <|
  W.guardK (W.gApp s10.2.1 (W.bytesP y13.1) 1) <|
  rec9 (W.iAdd .i64 s10.1 1, W.cat s10.2.1 (W.bytesP y13.1), ()) else W.loopF (fun rec14 (s15 : Int × List Int × Unit) =>
  bif W.iLt s15.1 (W.lenI x.1.2.2.2.2.1) then W.idxK x.1.2.2.2.2.1 s15.1 fun y16 =>
  W.bindK (F58 W (y16.2.1, ())) fun y17 =>
  W.guardK (W.gS2b y17.1) <|
  W.guardK (W.gApp s15.2.1 (W.bytesP y17.1) 1) <|
  rec14 (W.iAdd .i64 s15.1 1, W.cat s15.2.1 (W.bytesP y17.1), ()) else bif W.iGt (W.lenI s15.2.1) 20000 then some (W.litS [], false, ()) else some (W.strP s15.2.1, true, ())) NN (0, s10.2)) NN (0, W.cat s3.2.1 (W.bytesP y8.1), ())) NN (0, W.bytesP y1.1, ())
abbrev ce64 : CE := .con true sg64 (F64 WW)
theorem co64 : ConOK TT 64 sg64 (F64 WW) := con_fn (fn := inlF XX fn64) (ces := [(120, ce120), (58, ce58), (62, ce62), (121, ce121)]) (ents1 en120 (ents1 en58 (ents1 en62 (ents1 en121 ents0)))) hn64 pm64 (by kernel_rfl) rfl rfl (fun x => by kernel_rfl)
theorem en64 : EntOK TT 64 ce64 := ent_fz co64 (by kernel_rfl) rfl rfl rfl
/- spec.HallNew -/
def hn65 : Hints := [(0, KHall, true), (1, KHall, true), (3, KHall, true), (9, (.sl 3 KOut), true), (11, KOut, true), (12, (.sl 3 KOut), true), (13, (.sl 3 KOut), true), (15, KHall, true)]
def pm65 : List Nat := []
abbrev sg65 : Sig := ⟨[], [KHall]⟩
def F65 (W : Words) (x : Unit) : Option (THall × Unit) :=
  W.loopF (fun rec0 (s1 : Int × THall × THall × Unit) =>
  bif W.iLe s1.1 2 then W.guardK (W.gApp s1.2.1.2.2.2.2.1 [(s1.1, 0, [], ())] 3) <|
  rec0 (W.iAdd .i64 s1.1 1, (s1.2.1.1, s1.2.1.2.1, s1.2.1.2.2.1, s1.2.1.2.2.2.1, W.cat s1.2.1.2.2.2.2.1 [(s1.1, 0, [], ())], ()), s1.2.2) else some (s1.2.1, ())) NN (1, ([], [], [], [], [], ()), ([], [], [], [], [], ()), ())
abbrev ce65 : CE := .con false sg65 (F65 WW)
theorem co65 : ConOK TT 65 sg65 (F65 WW) := con_fn (fn := inlF XX fn65) (ces := []) ents0 hn65 pm65 (by kernel_rfl) rfl rfl (fun x => by kernel_rfl)
theorem en65 : EntOK TT 65 ce65 := ent_sep co65 (by kernel_rfl) rfl
/- spec.l17Empty -/
def hn22 : Hints := [(4, KHall, true)]
def pm22 : List Nat := []
abbrev sg22 : Sig := ⟨[], [.str]⟩
def F22 (W : Words) (x : Unit) : Option (List UInt8 × Unit) :=
  W.bindK (F65 W ()) fun y0 =>
  W.bindK (F64 W y0) fun y1 =>
  some (y1.1, ())
abbrev ce22 : CE := .con true sg22 (F22 WW)
theorem co22 : ConOK TT 22 sg22 (F22 WW) := con_fn (fn := inlF XX fn22) (ces := [(64, ce64), (65, ce65)]) (ents1 en64 (ents1 en65 ents0)) hn22 pm22 (by kernel_rfl) rfl rfl (fun x => by kernel_rfl)
theorem en22 : EntOK TT 22 ce22 := ent_fz co22 (by kernel_rfl) rfl rfl rfl
/- spec.l01Figure -/
abbrev sg122 : Sig := ⟨[.dat I], [(.int .u8)]⟩
def F122 (W : Words) (x : Int × Unit) : Option (Int × Unit) := none
abbrev ce122 : CE := .con true sg122 (F122 WW)
theorem co122 : ConOK TT 122 sg122 (F122 WW) := con_none fun x => rfl
theorem en122 : EntOK TT 122 ce122 := ent_fz co122 (by kernel_rfl) rfl rfl rfl
/- spec.Decimal -/
def hn66 : Hints := [(20, (.sl 1 (.int .u8)), true)]
def pm66 : List Nat := []
abbrev sg66 : Sig := ⟨[.dat I], [.str]⟩
def F66 (W : Words) (x : Int × Unit) : Option (List UInt8 × Unit) :=
  bif W.iEq x.1 0 then some (W.litS [48], ()) else W.loopF (fun rec0 (s1 : Int × List UInt8 × Unit) =>
  bif W.iNe s1.1 0 then W.guardK (W.gNz 10) <|
  W.joinK (fun (s2 : Int × Unit) =>
  W.bindK (F122 W s2) fun y3 =>
  W.guardK (W.gCat (W.strP [y3.1]) s1.2.1) <|
  W.guardK (W.gNz 10) <|
  rec0 (W.iQuo .i64 s1.1 10, W.cat (W.strP [y3.1]) s1.2.1, ())) fun k4 =>
  bif W.iLt (W.iRem s1.1 10) 0 then k4 (W.iSub .i64 0 (W.iRem s1.1 10), ()) else k4 (W.iRem s1.1 10, ()) else bif W.iLt x.1 0 then W.guardK (W.gCat (W.litS [45]) s1.2.1) <|
  some (W.cat (W.litS [45]) s1.2.1, ()) else some s1.2) NN (x.1, W.litS [], ())
abbrev ce66 : CE := .con true sg66 (F66 WW)
theorem co66 : ConOK TT 66 sg66 (F66 WW) := con_fn (fn := inlF XX fn66) (ces := [(122, ce122)]) (ents1 en122 ents0) hn66 pm66 (by kernel_rfl) rfl rfl (fun x => by kernel_rfl)
theorem en66 : EntOK TT 66 ce66 := ent_fz co66 (by kernel_rfl) rfl rfl rfl
/- spec.SnapName -/
def hn24 : Hints := []
def pm24 : List Nat := []
abbrev sg24 : Sig := ⟨[.dat I], [.str]⟩
def F24 (W : Words) (x : Int × Unit) : Option (List UInt8 × Unit) :=
  W.bindK (F37 W (x.1, 0, 1000000, ())) fun y0 =>
  bif W.bNot y0.1 then some (W.litS [], ()) else W.bindK (F66 W x) fun y1 =>
  W.guardK (W.gCat (W.litS [115]) y1.1) <|
  some (W.cat (W.litS [115]) y1.1, ())
abbrev ce24 : CE := .con true sg24 (F24 WW)
theorem co24 : ConOK TT 24 sg24 (F24 WW) := con_fn (fn := inlF XX fn24) (ces := [(37, ce37), (66, ce66)]) (ents1 en37 (ents1 en66 ents0)) hn24 pm24 (by kernel_rfl) rfl rfl (fun x => by kernel_rfl)
theorem en24 : EntOK TT 24 ce24 := ent_fz co24 (by kernel_rfl) rfl rfl rfl
/- spec.JournalName -/
def hn23 : Hints := []
def pm23 : List Nat := []
abbrev sg23 : Sig := ⟨[.dat I], [.str]⟩
def F23 (W : Words) (x : Int × Unit) : Option (List UInt8 × Unit) :=
  W.bindK (F37 W (x.1, 0, 999, ())) fun y0 =>
  bif W.bNot y0.1 then some (W.litS [], ()) else W.bindK (F66 W x) fun y1 =>
  W.guardK (W.gCat (W.litS [106]) y1.1) <|
  some (W.cat (W.litS [106]) y1.1, ())
abbrev ce23 : CE := .con true sg23 (F23 WW)
theorem co23 : ConOK TT 23 sg23 (F23 WW) := con_fn (fn := inlF XX fn23) (ces := [(37, ce37), (66, ce66)]) (ents1 en37 (ents1 en66 ents0)) hn23 pm23 (by kernel_rfl) rfl rfl (fun x => by kernel_rfl)
theorem en23 : EntOK TT 23 ce23 := ent_fz co23 (by kernel_rfl) rfl rfl rfl
/- spec.FormatDisk -/
def hn5 : Hints := [(2, KDisk, true), (9, KJournal, true), (14, (.sl 1 I), true), (16, KSnap, true), (22, KDisk, true), (33, (.sl 3 KFile), true), (34, KDisk, true)]
def pm5 : List Nat := []
abbrev sg5 : Sig := ⟨[.dat (.sl 1 I)], [KDisk, .bool]⟩
def F5 (W : Words) (x : List Int × Unit) : Option (TDisk × Bool × Unit) :=
  W.bindK (F20 W ((0, 0, 0, 0, 0, [], ()), ())) fun y0 =>
  W.bindK (F22 W ()) fun y1 =>
  W.bindK (F21 W ((0, 0, x.1, y1), ())) fun y2 =>
  bif W.bNot y2.2.1 then some (([], ()), false, ()) else W.bindK (F23 W (0, ())) fun y3 =>
  W.bindK (F24 W (0, ())) fun y4 =>
  some (([(y3.1, y0.1, W.lenI y0.1, ()), (y4.1, y2.1, W.lenI y2.1, ())], ()), true, ())
abbrev ce5 : CE := .con false sg5 (F5 WW)
theorem co5 : ConOK TT 5 sg5 (F5 WW) := con_fn (fn := inlF XX fn5) (ces := [(20, ce20), (21, ce21), (22, ce22), (24, ce24), (23, ce23)]) (ents1 en20 (ents1 en21 (ents1 en22 (ents1 en24 (ents1 en23 ents0))))) hn5 pm5 (by kernel_rfl) rfl rfl (fun x => by kernel_rfl)
theorem en5 : EntOK TT 5 ce5 := ent_sep co5 (by kernel_rfl) rfl
/- laws.toIntS -/
def hn6 : Hints := [(2, (.sl 1 I), true), (3, (.sl 1 I), true), (5, (.sl 1 I), true), (7, (.sl 1 I), true), (9, (.sl 1 I), true), (14, (.sl 1 I), true), (16, (.sl 1 I), true), (21, (.sl 1 I), true)]
def pm6 : List Nat := []
abbrev sg6 : Sig := ⟨[.dat (.sl 1 I)], [(.sl 1 I)]⟩
def F6 (W : Words) (x : List Int × Unit) : Option (List Int × Unit) :=
  W.guardK (W.gMk (W.lenI x.1) 1) <|
  W.loopF (fun rec0 (s1 : Int × List Int × Unit) =>
  bif W.iLt s1.1 (W.lenI x.1) then W.idxK x.1 s1.1 fun y2 =>
  W.idxK s1.2.1 s1.1 fun y3 =>
  rec0 (W.iAdd .i64 s1.1 1, W.setL s1.2.1 (W.toN s1.1) y2, ()) else some s1.2) NN (0, W.repL (W.toN (W.lenI x.1)) 0, ())
abbrev ce6 : CE := .con false sg6 (F6 WW)
theorem co6 : ConOK TT 6 sg6 (F6 WW) := con_fn (fn := inlF XX fn6) (ces := []) ents0 hn6 pm6 (by kernel_rfl) rfl rfl (fun x => by kernel_rfl)
theorem en6 : EntOK TT 6 ce6 := ent_sep co6 (by kernel_rfl) rfl
/- impl.within -/
def hn52 : Hints := []
def pm52 : List Nat := []
abbrev sg52 : Sig := ⟨[.dat I, .dat I, .dat I], [.bool]⟩
def F52 (W : Words) (x : Int × Int × Int × Unit) : Option (Bool × Unit) :=
  W.bindK (bif W.iGe x.1 x.2.1 then some (W.iLe x.1 x.2.2.1) else some false) fun y0 =>
  some (y0, ())
abbrev ce52 : CE := .con true sg52 (F52 WW)
theorem co52 : ConOK TT 52 sg52 (F52 WW) := con_fn (fn := inlF XX fn52) (ces := []) ents0 hn52 pm52 (by kernel_rfl) rfl rfl (fun x => by kernel_rfl)
theorem en52 : EntOK TT 52 ce52 := ent_fz co52 (by kernel_rfl) rfl rfl rfl
/- impl.ConfOk -/
def hn25 : Hints := [(5, (.sl 1 I), true), (19, (.sl 1 I), true), (29, (.sl 1 I), true)]
def pm25 : List Nat := []
abbrev sg25 : Sig := ⟨[.dat (.sl 1 I)], [.bool]⟩
def F25 (W : Words) (x : List Int × Unit) : Option (Bool × Unit) :=
  W.loopF (fun rec0 (s1 : Int × Unit) =>
  bif W.iLt s1.1 (W.lenI x.1) then W.idxK x.1 s1.1 fun y2 =>
  W.bindK (F52 W (y2, 1, 4, ())) fun y3 =>
  W.bindK (bif W.bNot y3.1 then some true else W.bindK (bif W.iGt s1.1 0 then W.idxK x.1 (W.iSub .i64 s1.1 1) fun y4 =>
  some (W.iGe y4 y2) else some false) fun y5 =>
  some y5) fun y6 =>
  bif y6 then some (false, ()) else rec0 (W.iAdd .i64 s1.1 1, ()) else W.bindK (F52 W (W.lenI x.1, 1, 4, ())) fun y7 =>
  some y7) NN (0, ())
abbrev ce25 : CE := .con true sg25 (F25 WW)
theorem co25 : ConOK TT 25 sg25 (F25 WW) := con_fn (fn := inlF XX fn25) (ces := [(52, ce52)]) (ents1 en52 ents0) hn25 pm25 (by kernel_rfl) rfl rfl (fun x => by kernel_rfl)
theorem en25 : EntOK TT 25 ce25 := ent_fz co25 (by kernel_rfl) rfl rfl rfl
/- impl.AddEvent -/
abbrev sg140 : Sig := ⟨[.dat KRoom, .dat KEvent], [KRoom, .bool]⟩
def F140 (W : Words) (x : TRoom × TEvent × Unit) : Option (TRoom × Bool × Unit) := none
abbrev ce140 : CE := .con false sg140 (F140 WW)
theorem co140 : ConOK TT 140 sg140 (F140 WW) := con_none fun x => rfl
theorem en140 : EntOK TT 140 ce140 := ent_sep co140 (by kernel_rfl) rfl
/- impl.roomOf -/
def hn92 : Hints := [(2, KRoom, true), (4, KRoom, true), (6, KEvent, true), (7, KRoom, true), (9, (.sl 9 KEvent), true), (14, KEvent, true), (16, KRoom, true), (17, KEvent, true), (19, KRoom, true), (23, KRoom, true), (24, KRoom, true), (26, KRoom, true)]
def pm92 : List Nat := [6, 7, 4]
abbrev sg92 : Sig := ⟨[.dat (.sl 9 KEvent)], [KRoom, .bool]⟩
def F92 (W : Words) (x : List TEvent × Unit) : Option (TRoom × Bool × Unit) :=
  W.loopF (fun rec0 (s1 : Int × TRoom × TRoom × Unit) =>
  bif W.iLt s1.1 (W.lenI x.1) then W.idxK x.1 s1.1 fun y2 =>
  W.bindK (F140 W (s1.2.1, y2, ())) fun y3 =>
  bif W.bNot y3.2.1 then some (([], [], [], ()), false, ()) else rec0 (W.iAdd .i64 s1.1 1, y3.1, s1.2.2) else some (s1.2.1, true, ())) NN (0, ([], [], [], ()), ([], [], [], ()), ())
abbrev ce92 : CE := .con false sg92 (F92 WW)
theorem co92 : ConOK TT 92 sg92 (F92 WW) := con_fn (fn := inlF XX fn92) (ces := [(140, ce140)]) (ents1 en140 ents0) hn92 pm92 (by kernel_rfl) rfl rfl (fun x => by kernel_rfl)
theorem en92 : EntOK TT 92 ce92 := ent_sep co92 (by kernel_rfl) rfl
/- slices.Equal[[]bool,bool] -/
def hn163 : Hints := [(6, (.sl 1 .bool), true), (8, (.sl 1 .bool), true), (11, (.sl 1 .bool), true), (16, (.sl 1 .bool), true), (20, (.sl 1 .bool), true)]
def pm163 : List Nat := []
abbrev sg163 : Sig := ⟨[.dat (.sl 1 .bool), .dat (.sl 1 .bool)], [.bool]⟩
def F163 (W : Words) (x : List Bool × List Bool × Unit) : Option (Bool × Unit) :=
  bif W.iNe (W.lenI x.1) (W.lenI x.2.1) then some (false, ()) else W.loopF (fun rec0 (s1 : Int × Unit) =>
  bif W.iLt s1.1 (W.lenI x.1) then W.idxK x.1 s1.1 fun y2 =>
  W.idxK x.2.1 s1.1 fun y3 =>
  bif W.bNe y2 y3 then some (false, ()) else rec0 (W.iAdd .i64 s1.1 1, ()) else some (true, ())) NN (0, ())
abbrev ce163 : CE := .con true sg163 (F163 WW)
theorem co163 : ConOK TT 163 sg163 (F163 WW) := con_fn (fn := inlF XX fn163) (ces := []) ents0 hn163 pm163 (by kernel_rfl) rfl rfl (fun x => by kernel_rfl)
theorem en163 : EntOK TT 163 ce163 := ent_fz co163 (by kernel_rfl) rfl rfl rfl
/- slices.EqualFunc[[][]impl.Item,[][]impl.Item,[]impl.Item,[]impl.Item] -/
def hn162 : Hints := [(8, (.sl 2 KItem), true), (9, (.sl 2 KItem), true), (10, (.sl 1 (.sl 2 KItem)), true), (12, (.sl 1 (.sl 2 KItem)), true), (15, (.sl 1 (.sl 2 KItem)), true), (21, (.sl 2 KItem), true), (22, (.sl 1 (.sl 2 KItem)), true), (25, (.sl 2 KItem), true), (27, (.sl 2 KItem), true), (28, (.sl 2 KItem), true)]
def pm162 : List Nat := []
abbrev sg162 : Sig := ⟨[.dat (.sl 1 (.sl 2 KItem)), .dat (.sl 1 (.sl 2 KItem)), .raw], [.bool]⟩
abbrev ce162 : CE := .inl sg162 (inlF XX fn162) hn162 pm162
theorem en162 : EntOK TT 162 ce162 := ent_inl hn162 pm162 (by kernel_rfl) (by kernel_rfl) rfl rfl rfl rfl rfl
/- slices.EqualFunc[[]impl.Event,[]impl.Event,impl.Event,impl.Event] -/
def hn160 : Hints := [(8, KEvent, true), (9, KEvent, true), (10, (.sl 9 KEvent), true), (12, (.sl 9 KEvent), true), (15, (.sl 9 KEvent), true), (21, KEvent, true), (22, (.sl 9 KEvent), true), (25, KEvent, true), (27, KEvent, true), (28, KEvent, true)]
def pm160 : List Nat := [8, 9]
abbrev sg160 : Sig := ⟨[.dat (.sl 9 KEvent), .dat (.sl 9 KEvent), .raw], [.bool]⟩
abbrev ce160 : CE := .inl sg160 (inlF XX fn160) hn160 pm160
theorem en160 : EntOK TT 160 ce160 := ent_inl hn160 pm160 (by kernel_rfl) (by kernel_rfl) rfl rfl rfl rfl rfl
/- slices.Equal[[]impl.Item,impl.Item] -/
def hn159 : Hints := [(6, (.sl 2 KItem), true), (8, (.sl 2 KItem), true), (11, (.sl 2 KItem), true), (16, (.sl 2 KItem), true), (20, (.sl 2 KItem), true)]
def pm159 : List Nat := []
abbrev sg159 : Sig := ⟨[.dat (.sl 2 KItem), .dat (.sl 2 KItem)], [.bool]⟩
def F159 (W : Words) (x : List TItem × List TItem × Unit) : Option (Bool × Unit) :=
  bif W.iNe (W.lenI x.1) (W.lenI x.2.1) then some (false, ()) else W.loopF (fun rec0 (s1 : Int × Unit) =>
  bif W.iLt s1.1 (W.lenI x.1) then W.idxK x.1 s1.1 fun y2 =>
  W.idxK x.2.1 s1.1 fun y3 =>
  bif W.bNot (W.bAnd (W.iEq y2.1 y3.1) (W.iEq y2.2.1 y3.2.1)) then some (false, ()) else rec0 (W.iAdd .i64 s1.1 1, ()) else some (true, ())) NN (0, ())
abbrev ce159 : CE := .con true sg159 (F159 WW)
theorem co159 : ConOK TT 159 sg159 (F159 WW) := con_fn (fn := inlF XX fn159) (ces := []) ents0 hn159 pm159 (by kernel_rfl) (by kernel_rfl) (by kernel_rfl) (fun x => by kernel_rfl)
theorem en159 : EntOK TT 159 ce159 := ent_fz co159 (by kernel_rfl) rfl rfl rfl
/- impl.sameRoom$1 -/
def hn158 : Hints := [(5, (.sl 2 KItem), true), (6, (.sl 2 KItem), true)]
def pm158 : List Nat := []
abbrev sg158 : Sig := ⟨[.dat (.sl 2 KItem), .dat (.sl 2 KItem)], [.bool]⟩
def F158 (W : Words) (x : List TItem × List TItem × Unit) : Option (Bool × Unit) :=
  W.bindK (F159 W x) fun y0 =>
  some y0
abbrev ce158 : CE := .con true sg158 (F158 WW)
theorem co158 : ConOK TT 158 sg158 (F158 WW) := con_fn (fn := inlF XX fn158) (ces := [(159, ce159)]) (ents1 en159 ents0) hn158 pm158 (by kernel_rfl) rfl rfl (fun x => by kernel_rfl)
theorem en158 : EntOK TT 158 ce158 := ent_fz co158 (by kernel_rfl) rfl rfl rfl
/- impl.sameEvent -/
abbrev sg161 : Sig := ⟨[.dat KEvent, .dat KEvent], [.bool]⟩
def F161 (W : Words) (x : TEvent × TEvent × Unit) : Option (Bool × Unit) := none
abbrev ce161 : CE := .con true sg161 (F161 WW)
theorem co161 : ConOK TT 161 sg161 (F161 WW) := con_none fun x => rfl
theorem en161 : EntOK TT 161 ce161 := ent_fz co161 (by kernel_rfl) rfl rfl rfl
/- impl.sameRoom -/
def hn113 : Hints := [(2, KRoom, true), (3, KRoom, true), (7, (.sl 9 KEvent), true), (9, (.sl 9 KEvent), true), (13, (.sl 1 (.sl 2 KItem)), true), (15, (.sl 1 (.sl 2 KItem)), true), (21, (.sl 1 .bool), true), (23, (.sl 1 .bool), true)]
def pm113 : List Nat := [2, 3]
abbrev sg113 : Sig := ⟨[.dat KRoom, .dat KRoom], [.bool]⟩
def F113 (W : Words) (x : TRoom × TRoom × Unit) : Option (Bool × Unit) :=
  W.bindK (bif W.iNe (W.lenI x.1.1) (W.lenI x.2.1.1) then some (false, ()) else W.loopF (fun rec0 (s1 : Int × Unit) =>
  bif W.iLt s1.1 (W.lenI x.1.1) then W.idxK x.1.1 s1.1 fun y2 =>
  W.idxK x.2.1.1 s1.1 fun y3 =>
  W.bindK (F161 W (y2, y3, ())) fun y4 =>
  bif W.bNot y4.1 then some (false, ()) else rec0 (W.iAdd .i64 s1.1 1, ()) else some (true, ())) NN (0, ())) fun y5 =>
  W.bindK (bif y5.1 then W.bindK (bif W.iNe (W.lenI x.1.2.1) (W.lenI x.2.1.2.1) then some (false, ()) else W.loopF (fun rec6 (s7 : Int × Unit) =>
  bif W.iLt s7.1 (W.lenI x.1.2.1) then W.idxK x.1.2.1 s7.1 fun y8 =>
  W.idxK x.2.1.2.1 s7.1 fun y9 =>
  W.bindK (F158 W (y8, y9, ())) fun y10 =>
  bif W.bNot y10.1 then some (false, ()) else rec6 (W.iAdd .i64 s7.1 1, ()) else some (true, ())) NN (0, ())) fun y11 =>
  some y11.1 else some false) fun y12 =>
  W.bindK (bif y12 then W.bindK (F163 W (x.1.2.2.1, x.2.1.2.2)) fun y13 =>
  some y13.1 else some false) fun y14 =>
  some (y14, ())
abbrev ce113 : CE := .con true sg113 (F113 WW)
theorem co113 : ConOK TT 113 sg113 (F113 WW) := con_fn (fn := inlF XX fn113) (ces := [(163, ce163), (162, ce162), (160, ce160), (158, ce158), (161, ce161)]) (ents1 en163 (ents1 en162 (ents1 en160 (ents1 en158 (ents1 en161 ents0))))) hn113 pm113 (by kernel_rfl) rfl rfl (fun x => by kernel_rfl)
theorem en113 : EntOK TT 113 ce113 := ent_fz co113 (by kernel_rfl) rfl rfl rfl
/- impl.RoomOk -/
def hn123 : Hints := [(1, KRoom, true), (3, KRoom, true), (6, (.sl 9 KEvent), true), (11, (.sl 9 KEvent), true), (13, KRoom, true), (17, KRoom, true), (18, KRoom, true)]
def pm123 : List Nat := [1, 3]
abbrev sg123 : Sig := ⟨[.dat KRoom], [.bool]⟩
def F123 (W : Words) (x : TRoom × Unit) : Option (Bool × Unit) :=
  bif W.iGt (W.lenI x.1.1) 40 then some (false, ()) else W.bindK (F92 W (x.1.1, ())) fun y0 =>
  W.bindK (bif y0.2.1 then W.bindK (F113 W (y0.1, x)) fun y1 =>
  some y1.1 else some false) fun y2 =>
  some (y2, ())
abbrev ce123 : CE := .con true sg123 (F123 WW)
theorem co123 : ConOK TT 123 sg123 (F123 WW) := con_fn (fn := inlF XX fn123) (ces := [(92, ce92), (113, ce113)]) (ents1 en92 (ents1 en113 ents0)) hn123 pm123 (by kernel_rfl) rfl rfl (fun x => by kernel_rfl)
theorem en123 : EntOK TT 123 ce123 := ent_fz co123 (by kernel_rfl) rfl rfl rfl
/- impl.isGood -/
abbrev sg141 : Sig := ⟨[.dat KRoom, .dat I], [.bool]⟩
def F141 (W : Words) (x : TRoom × Int × Unit) : Option (Bool × Unit) := none
abbrev ce141 : CE := .con true sg141 (F141 WW)
theorem co141 : ConOK TT 141 sg141 (F141 WW) := con_none fun x => rfl
theorem en141 : EntOK TT 141 ce141 := ent_fz co141 (by kernel_rfl) rfl rfl rfl
/- impl.forward -/
def hn93 : Hints := [(1, KRoom, true), (2, (.sl 1 I), true), (3, (.sl 1 I), true), (5, KEvent, true), (7, (.sl 9 KEvent), true), (13, KEvent, true), (19, KRoom, true), (23, (.sl 1 I), true), (26, (.sl 1 I), true), (27, (.sl 1 I), true), (29, (.sl 1 I), true)]
def pm93 : List Nat := [5, 1]
abbrev sg93 : Sig := ⟨[.dat KRoom], [(.sl 1 I)]⟩
def F93 (W : Words) (x : TRoom × Unit) : Option (List Int × Unit) :=
  W.loopF (fun rec0 (s1 : Int × List Int × Unit) =>
  bif W.iLt s1.1 (W.lenI x.1.1) then W.idxK x.1.1 s1.1 fun y2 =>
  W.guardK (W.gNz 2) <|
  W.bindK (bif W.iEq (W.iRem y2.1 2) 0 then W.bindK (F141 W (x.1, s1.1, ())) fun y3 =>
  some y3.1 else some false) fun y4 =>
  W.joinK (fun (s5 : List Int × Unit) =>
  rec0 (W.iAdd .i64 s1.1 1, s5)) fun k6 =>
  bif y4 then W.guardK (W.gApp s1.2.1 [y2.1] 1) <|
  k6 (W.cat s1.2.1 [y2.1], ()) else k6 s1.2 else some s1.2) NN (0, [], ())
abbrev ce93 : CE := .con false sg93 (F93 WW)
theorem co93 : ConOK TT 93 sg93 (F93 WW) := con_fn (fn := inlF XX fn93) (ces := [(141, ce141)]) (ents1 en141 ents0) hn93 pm93 (by kernel_rfl) rfl rfl (fun x => by kernel_rfl)
theorem en93 : EntOK TT 93 ce93 := ent_sep co93 (by kernel_rfl) rfl
/- slices.Equal[[]int,int] -/
def hn51 : Hints := [(6, (.sl 1 I), true), (8, (.sl 1 I), true), (11, (.sl 1 I), true), (16, (.sl 1 I), true), (20, (.sl 1 I), true)]
def pm51 : List Nat := []
abbrev sg51 : Sig := ⟨[.dat (.sl 1 I), .dat (.sl 1 I)], [.bool]⟩
def F51 (W : Words) (x : List Int × List Int × Unit) : Option (Bool × Unit) :=
  bif W.iNe (W.lenI x.1) (W.lenI x.2.1) then some (false, ()) else W.loopF (fun rec0 (s1 : Int × Unit) =>
  bif W.iLt s1.1 (W.lenI x.1) then W.idxK x.1 s1.1 fun y2 =>
  W.idxK x.2.1 s1.1 fun y3 =>
  bif W.iNe y2 y3 then some (false, ()) else rec0 (W.iAdd .i64 s1.1 1, ()) else some (true, ())) NN (0, ())
abbrev ce51 : CE := .con true sg51 (F51 WW)
theorem co51 : ConOK TT 51 sg51 (F51 WW) := con_fn (fn := inlF XX fn51) (ces := []) ents0 hn51 pm51 (by kernel_rfl) rfl rfl (fun x => by kernel_rfl)
theorem en51 : EntOK TT 51 ce51 := ent_fz co51 (by kernel_rfl) rfl rfl rfl
/- impl.HallOk -/
def hn67 : Hints := [(1, KHall, true), (5, (.sl 1 I), true), (7, KOut, true), (9, (.sl 3 KEntry), true), (14, KRoom, true), (20, (.sl 3 KOut), true), (25, (.sl 3 KEntry), true), (63, (.sl 3 KEntry), true), (76, KRoom, true), (77, (.sl 1 I), true), (79, (.sl 3 KOut), true), (85, KOut, true), (93, (.sl 1 I), true), (94, (.sl 1 I), true), (101, (.sl 1 I), true)]
def pm67 : List Nat := [4, 7, 1]
abbrev sg67 : Sig := ⟨[.dat KHall], [.bool]⟩
def F67 (W : Words) (x : THall × Unit) : Option (Bool × Unit) :=
  W.bindK (bif W.iGt (W.lenI x.1.1) 3 then some true else W.bindK (F123 W ((x.1.2.1, x.1.2.2.1, x.1.2.2.2.1, ()), ())) fun y0 =>
  some (W.bNot y0.1)) fun y1 =>
  W.bindK (bif y1 then some true else some (W.iNe (W.lenI x.1.2.2.2.2.1) 2)) fun y2 =>
  bif y2 then some (false, ()) else W.loopF (fun rec3 (s4 : Int × Unit) =>
  bif W.iLt s4.1 (W.lenI x.1.1) then W.idxK x.1.1 s4.1 fun y5 =>
  W.bindK (F52 W (y5.1, 1, 1000000, ())) fun y6 =>
  W.bindK (bif W.bNot y6.1 then some true else W.bindK (F52 W (y5.2.1, 0, 1000000, ())) fun y7 =>
  some (W.bNot y7.1)) fun y8 =>
  W.bindK (bif y8 then some true else some (W.iGt (W.lenI y5.2.2.1) 40)) fun y9 =>
  W.bindK (bif y9 then some true else W.bindK (bif W.iEq y5.2.1 0 then some (W.bNot (W.strEq y5.2.2.1 (W.litS []))) else some false) fun y10 =>
  some y10) fun y11 =>
  W.bindK (bif y11 then some true else W.bindK (bif W.iGt s4.1 0 then W.idxK x.1.1 (W.iSub .i64 s4.1 1) fun y12 =>
  some (W.iGe y12.1 y5.1) else some false) fun y13 =>
  some y13) fun y14 =>
  bif y14 then some (false, ()) else rec3 (W.iAdd .i64 s4.1 1, ()) else W.bindK (F93 W ((x.1.2.1, x.1.2.2.1, x.1.2.2.2.1, ()), ())) fun y15 =>
  W.loopF (fun rec16 (s17 : Int × List Int × Unit) =>
  bif W.iLt s17.1 (W.lenI x.1.2.2.2.2.1) then W.idxK x.1.2.2.2.2.1 s17.1 fun y18 =>
  W.bindK (bif W.iNe y18.1 (W.iAdd .i64 s17.1 1) then some true else W.bindK (F51 W (y18.2.2.1, s17.2)) fun y19 =>
  some (W.bNot y19.1)) fun y20 =>
  W.bindK (bif y20 then some true else W.bindK (F52 W (y18.2.1, 0, W.lenI s17.2.1, ())) fun y21 =>
  some (W.bNot y21.1)) fun y22 =>
  bif y22 then some (false, ()) else rec16 (W.iAdd .i64 s17.1 1, s17.2) else some (true, ())) NN (0, y15)) NN (0, ())
abbrev ce67 : CE := .con true sg67 (F67 WW)
theorem co67 : ConOK TT 67 sg67 (F67 WW) := con_fn (fn := inlF XX fn67) (ces := [(123, ce123), (52, ce52), (93, ce93), (51, ce51)]) (ents1 en123 (ents1 en52 (ents1 en93 (ents1 en51 ents0)))) hn67 pm67 (by kernel_rfl) rfl rfl (fun x => by kernel_rfl)
theorem en67 : EntOK TT 67 ce67 := ent_fz co67 (by kernel_rfl) rfl rfl rfl
/- impl.VarText -/
def hn68 : Hints := [(4, (.sl 1 (.int .u8)), true), (10, (.sl 1 (.int .u8)), true), (15, (.sl 1 (.int .u8)), true), (16, (.sl 1 (.int .u8)), true), (19, (.sl 1 (.int .u8)), true), (22, (.sl 1 (.int .u8)), true), (23, (.sl 1 (.int .u8)), true)]
def pm68 : List Nat := []
abbrev sg68 : Sig := ⟨[.dat I], [.str, .bool]⟩
def F68 (W : Words) (x : Int × Unit) : Option (List UInt8 × Bool × Unit) :=
  W.bindK (F52 W (x.1, 0, 1000000000, ())) fun y0 =>
  bif W.bNot y0.1 then some (W.litS [], false, ()) else W.loopF (fun rec1 (s2 : Int × List Int × Unit) =>
  bif W.iGt s2.1 127 then W.guardK (W.gNz 128) <|
  W.guardK (W.gApp s2.2.1 [W.iConv .u8 (W.iAdd .i64 (W.iRem s2.1 128) 128)] 1) <|
  W.guardK (W.gNz 128) <|
  rec1 (W.iQuo .i64 s2.1 128, W.cat s2.2.1 [W.iConv .u8 (W.iAdd .i64 (W.iRem s2.1 128) 128)], ()) else W.guardK (W.gApp s2.2.1 [W.iConv .u8 s2.1] 1) <|
  some (W.strP (W.cat s2.2.1 [W.iConv .u8 s2.1]), true, ())) NN (x.1, [], ())
abbrev ce68 : CE := .con true sg68 (F68 WW)
theorem co68 : ConOK TT 68 sg68 (F68 WW) := con_fn (fn := inlF XX fn68) (ces := [(52, ce52)]) (ents1 en52 ents0) hn68 pm68 (by kernel_rfl) rfl rfl (fun x => by kernel_rfl)
theorem en68 : EntOK TT 68 ce68 := ent_fz co68 (by kernel_rfl) rfl rfl rfl
/- impl.vars -/
def hn69 : Hints := [(4, (.sl 1 (.int .u8)), true), (9, (.sl 1 I), true), (22, (.sl 1 (.int .u8)), true), (24, (.sl 1 (.int .u8)), true), (26, (.sl 1 (.int .u8)), true)]
def pm69 : List Nat := []
abbrev sg69 : Sig := ⟨[.dat (.sl 1 I)], [.str, .bool]⟩
def F69 (W : Words) (x : List Int × Unit) : Option (List UInt8 × Bool × Unit) :=
  W.loopF (fun rec0 (s1 : Int × List Int × Unit) =>
  bif W.iLt s1.1 (W.lenI x.1) then W.idxK x.1 s1.1 fun y2 =>
  W.bindK (F68 W (y2, ())) fun y3 =>
  bif W.bNot y3.2.1 then some (W.litS [], false, ()) else W.guardK (W.gApp s1.2.1 (W.bytesP y3.1) 1) <|
  rec0 (W.iAdd .i64 s1.1 1, W.cat s1.2.1 (W.bytesP y3.1), ()) else some (W.strP s1.2.1, true, ())) NN (0, [], ())
abbrev ce69 : CE := .con true sg69 (F69 WW)
theorem co69 : ConOK TT 69 sg69 (F69 WW) := con_fn (fn := inlF XX fn69) (ces := [(68, ce68)]) (ents1 en68 ents0) hn69 pm69 (by kernel_rfl) rfl rfl (fun x => by kernel_rfl)
theorem en69 : EntOK TT 69 ce69 := ent_fz co69 (by kernel_rfl) rfl rfl rfl
/- impl.ShortText -/
def hn70 : Hints := []
def pm70 : List Nat := []
abbrev sg70 : Sig := ⟨[.dat .str], [.str, .bool]⟩
def F70 (W : Words) (x : List UInt8 × Unit) : Option (List UInt8 × Bool × Unit) :=
  bif W.iGt (W.lenI x.1) 20000 then some (W.litS [], false, ()) else W.bindK (F68 W (W.lenI x.1, ())) fun y0 =>
  W.guardK (W.gCat y0.1 x.1) <|
  some (W.cat y0.1 x.1, true, ())
abbrev ce70 : CE := .con true sg70 (F70 WW)
theorem co70 : ConOK TT 70 sg70 (F70 WW) := con_fn (fn := inlF XX fn70) (ces := [(68, ce68)]) (ents1 en68 ents0) hn70 pm70 (by kernel_rfl) rfl rfl (fun x => by kernel_rfl)
theorem en70 : EntOK TT 70 ce70 := ent_fz co70 (by kernel_rfl) rfl rfl rfl
/- impl.EventText -/
abbrev sg71 : Sig := ⟨[.dat KEvent], [.str, .bool]⟩
def F71 (W : Words) (x : TEvent × Unit) : Option (List UInt8 × Bool × Unit) := none
abbrev ce71 : CE := .con true sg71 (F71 WW)
theorem co71 : ConOK TT 71 sg71 (F71 WW) := con_none fun x => rfl
theorem en71 : EntOK TT 71 ce71 := ent_fz co71 (by kernel_rfl) rfl rfl rfl
/- impl.HallText -/
def hn26 : Hints := [(1, KHall, true), (15, KEvent, true), (21, KOut, true), (24, KHall, true), (29, (.sl 3 KEntry), true), (35, (.sl 3 KEntry), true), (46, (.sl 1 I), true), (65, (.sl 9 KEvent), true), (75, (.sl 9 KEvent), true), (80, KEvent, true), (82, KEvent, true), (96, (.sl 3 KOut), true), (101, KOut, true)]
def pm26 : List Nat := [7, 15, 21, 1]
abbrev sg26 : Sig := ⟨[.dat KHall], [.str, .bool]⟩
def F26 (W : Words) (x : THall × Unit) : Option (List UInt8 × Bool × Unit) :=
  W.bindK (F67 W x) fun y0 =>
  bif W.bNot y0.1 then some (W.litS [], false, ()) else W.bindK (F68 W (W.lenI x.1.1, ())) fun y1 =>
  W.loopF (fun rec2 (s3 : Int × List UInt8 × Unit) =>
  bif W.iLt s3.1 (W.lenI x.1.1) then W.idxK x.1.1 s3.1 fun y4 =>
  W.bindK (F69 W ([y4.1, y4.2.1], ())) fun y5 =>
  W.bindK (F70 W y4.2.2) fun y6 =>
  W.guardK (W.gCat y5.1 y6.1) <|
  W.guardK (W.gCat s3.2.1 (W.cat y5.1 y6.1)) <|
  rec2 (W.iAdd .i64 s3.1 1, W.cat s3.2.1 (W.cat y5.1 y6.1), ()) else W.bindK (F68 W (W.lenI x.1.2.1, ())) fun y7 =>
  W.guardK (W.gCat s3.2.1 y7.1) <|
  W.loopF (fun rec8 (s9 : Int × List UInt8 × Unit) =>
  bif W.iLt s9.1 (W.lenI x.1.2.1) then W.idxK x.1.2.1 s9.1 fun y10 =>
  W.bindK (F71 W (y10, ())) fun y11 =>
  W.bindK (F70 W (y11.1, ())) fun y12 =>
  W.guardK (W.gCat s9.2.1 y12.1) <|
  rec8 (W.iAdd .i64 s9.1 1, W.cat s9.2.1 y12.1, ()) else W.loopF (fun rec13 (s14 : Int × List UInt8 × Unit) =>
  bif W.iLt s14.1 (W.lenI x.1.2.2.2.2.1) then W.idxK x.1.2.2.2.2.1 s14.1 fun y15 =>
  W.bindK (F68 W (y15.2.1, ())) fun y16 =>
  W.guardK (W.gCat s14.2.1 y16.1) <|
  rec13 (W.iAdd .i64 s14.1 1, W.cat s14.2.1 y16.1, ()) else bif W.iGt (W.lenI s14.2.1) 20000 then some (W.litS [], false, ()) else some (s14.2.1, true, ())) NN (0, s9.2)) NN (0, W.cat s3.2.1 y7.1, ())) NN (0, y1.1, ())
abbrev ce26 : CE := .con true sg26 (F26 WW)
theorem co26 : ConOK TT 26 sg26 (F26 WW) := con_fn (fn := inlF XX fn26) (ces := [(67, ce67), (68, ce68), (69, ce69), (70, ce70), (71, ce71)]) (ents1 en67 (ents1 en68 (ents1 en69 (ents1 en70 (ents1 en71 ents0))))) hn26 pm26 (by kernel_rfl) rfl rfl (fun x => by kernel_rfl)
theorem en26 : EntOK TT 26 ce26 := ent_fz co26 (by kernel_rfl) rfl rfl rfl
/- impl.HallNew -/
def hn27 : Hints := [(0, KHall, true), (1, KHall, true), (8, (.sl 3 KOut), true), (10, KOut, true), (11, (.sl 3 KOut), true), (12, (.sl 3 KOut), true), (14, KHall, true)]
def pm27 : List Nat := []
abbrev sg27 : Sig := ⟨[], [KHall]⟩
def F27 (W : Words) (x : Unit) : Option (THall × Unit) :=
  W.loopF (fun rec0 (s1 : Int × THall × THall × Unit) =>
  bif W.iLe s1.1 2 then W.guardK (W.gApp s1.2.1.2.2.2.2.1 [(s1.1, 0, [], ())] 3) <|
  rec0 (W.iAdd .i64 s1.1 1, (s1.2.1.1, s1.2.1.2.1, s1.2.1.2.2.1, s1.2.1.2.2.2.1, W.cat s1.2.1.2.2.2.2.1 [(s1.1, 0, [], ())], ()), s1.2.2) else some (s1.2.1, ())) NN (1, ([], [], [], [], [], ()), ([], [], [], [], [], ()), ())
abbrev ce27 : CE := .con false sg27 (F27 WW)
theorem co27 : ConOK TT 27 sg27 (F27 WW) := con_fn (fn := inlF XX fn27) (ces := []) ents0 hn27 pm27 (by kernel_rfl) rfl rfl (fun x => by kernel_rfl)
theorem en27 : EntOK TT 27 ce27 := ent_sep co27 (by kernel_rfl) rfl
/- impl.EntryOk -/
abbrev sg149 : Sig := ⟨[.dat KEntry], [.bool]⟩
def F149 (W : Words) (x : TEntry × Unit) : Option (Bool × Unit) := none
abbrev ce149 : CE := .con true sg149 (F149 WW)
theorem co149 : ConOK TT 149 sg149 (F149 WW) := con_none fun x => rfl
theorem en149 : EntOK TT 149 ce149 := ent_fz co149 (by kernel_rfl) rfl rfl rfl
/- impl.LogOk -/
def hn102 : Hints := [(1, KLog, true), (18, (.sl 3 KEntry), true), (26, (.sl 3 KEntry), true), (34, (.sl 3 KEntry), true)]
def pm102 : List Nat := [5, 1]
abbrev sg102 : Sig := ⟨[.dat KLog], [.bool]⟩
def F102 (W : Words) (x : TLog × Unit) : Option (Bool × Unit) :=
  W.bindK (F52 W (x.1.1, 0, 1000000, ())) fun y0 =>
  W.bindK (bif W.bNot y0.1 then some true else W.bindK (F52 W (x.1.2.1, 0, 100000, ())) fun y1 =>
  some (W.bNot y1.1)) fun y2 =>
  W.bindK (bif y2 then some true else some (W.iGt (W.lenI x.1.2.2.1) 60)) fun y3 =>
  W.bindK (bif y3 then some true else some (W.iGt (W.iAdd .i64 x.1.1 (W.lenI x.1.2.2.1)) 1000000)) fun y4 =>
  bif y4 then some (false, ()) else W.loopF (fun rec5 (s6 : TItem) =>
  bif W.iLt s6.2.1 (W.lenI x.1.2.2.1) then W.idxK x.1.2.2.1 s6.2.1 fun y7 =>
  W.bindK (F149 W (y7, ())) fun y8 =>
  W.bindK (bif W.bNot y8.1 then some true else some (W.iLt y7.1 s6.1)) fun y9 =>
  bif y9 then some (false, ()) else rec5 (y7.1, W.iAdd .i64 s6.2.1 1, ()) else some (true, ())) NN (x.1.2.1, 0, ())
abbrev ce102 : CE := .con true sg102 (F102 WW)
theorem co102 : ConOK TT 102 sg102 (F102 WW) := con_fn (fn := inlF XX fn102) (ces := [(52, ce52), (149, ce149)]) (ents1 en52 (ents1 en149 ents0)) hn102 pm102 (by kernel_rfl) rfl rfl (fun x => by kernel_rfl)
theorem en102 : EntOK TT 102 ce102 := ent_fz co102 (by kernel_rfl) rfl rfl rfl
/- impl.JournalOk -/
def hn72 : Hints := [(1, KJournal, true), (18, KLog, true)]
def pm72 : List Nat := [1]
abbrev sg72 : Sig := ⟨[.dat KJournal], [.bool]⟩
def F72 (W : Words) (x : TJournal × Unit) : Option (Bool × Unit) :=
  W.bindK (F52 W (x.1.1, 0, 999, ())) fun y0 =>
  W.bindK (bif y0.1 then W.bindK (F52 W (x.1.2.1, 0, 100000, ())) fun y1 =>
  some y1.1 else some false) fun y2 =>
  W.bindK (bif y2 then W.bindK (F52 W (x.1.2.2.1, 0, 4, ())) fun y3 =>
  some y3.1 else some false) fun y4 =>
  W.bindK (bif y4 then W.bindK (F102 W (x.1.2.2.2, ())) fun y5 =>
  some y5.1 else some false) fun y6 =>
  some (y6, ())
abbrev ce72 : CE := .con true sg72 (F72 WW)
theorem co72 : ConOK TT 72 sg72 (F72 WW) := con_fn (fn := inlF XX fn72) (ces := [(102, ce102), (52, ce52)]) (ents1 en102 (ents1 en52 ents0)) hn72 pm72 (by kernel_rfl) rfl rfl (fun x => by kernel_rfl)
theorem en72 : EntOK TT 72 ce72 := ent_fz co72 (by kernel_rfl) rfl rfl rfl
/- impl.EntryText -/
abbrev sg127 : Sig := ⟨[.dat I, .dat KEntry], [.str, .bool]⟩
def F127 (W : Words) (x : Int × TEntry × Unit) : Option (List UInt8 × Bool × Unit) := none
abbrev ce127 : CE := .con true sg127 (F127 WW)
theorem co127 : ConOK TT 127 sg127 (F127 WW) := con_none fun x => rfl
theorem en127 : EntOK TT 127 ce127 := ent_fz co127 (by kernel_rfl) rfl rfl rfl
/- impl.SumMore -/
def hn174 : Hints := []
def pm174 : List Nat := []
abbrev sg174 : Sig := ⟨[.dat (.int .u32), .dat .str], [(.int .u32)]⟩
def F174 (W : Words) (x : Int × List UInt8 × Unit) : Option (Int × Unit) :=
  W.loopF (fun rec0 (s1 : TItem) =>
  bif W.iLt s1.1 (W.lenI x.2.1) then W.idxK x.2.1 s1.1 fun y2 =>
  W.loopF (fun rec3 (s4 : TItem) =>
  bif W.iLt s4.1 8 then W.guardK (W.gNz 2) <|
  W.guardK (W.gNz 2) <|
  W.joinK (fun (s5 : Int × Unit) =>
  rec3 (W.iAdd .i64 s4.1 1, s5)) fun k6 =>
  bif W.iEq (W.iRem s4.2.1 2) 1 then k6 (W.iXor .u32 (W.iQuo .u32 s4.2.1 2) 3558460437, ()) else k6 (W.iQuo .u32 s4.2.1 2, ()) else rec0 (W.iAdd .i64 s1.1 1, s4.2)) NN (0, W.iXor .u32 s1.2.1 (W.iConv .u32 (W.byteI y2)), ()) else some s1.2) NN (0, x.1, ())
abbrev ce174 : CE := .con true sg174 (F174 WW)
theorem co174 : ConOK TT 174 sg174 (F174 WW) := con_fn (fn := inlF XX fn174) (ces := []) ents0 hn174 pm174 (by kernel_rfl) rfl rfl (fun x => by kernel_rfl)
theorem en174 : EntOK TT 174 ce174 := ent_fz co174 (by kernel_rfl) rfl rfl rfl
/- impl.SumOf -/
def hn128 : Hints := []
def pm128 : List Nat := []
abbrev sg128 : Sig := ⟨[.dat .str], [(.int .u32)]⟩
def F128 (W : Words) (x : List UInt8 × Unit) : Option (Int × Unit) :=
  W.bindK (F174 W (4294967295, x)) fun y0 =>
  some y0
abbrev ce128 : CE := .con true sg128 (F128 WW)
theorem co128 : ConOK TT 128 sg128 (F128 WW) := con_fn (fn := inlF XX fn128) (ces := [(174, ce174)]) (ents1 en174 ents0) hn128 pm128 (by kernel_rfl) rfl rfl (fun x => by kernel_rfl)
theorem en128 : EntOK TT 128 ce128 := ent_fz co128 (by kernel_rfl) rfl rfl rfl
/- impl.Frame -/
def hn126 : Hints := [(31, (.sl 1 (.int .u8)), true)]
def pm126 : List Nat := []
abbrev sg126 : Sig := ⟨[.dat .str], [.str, .bool]⟩
def F126 (W : Words) (x : List UInt8 × Unit) : Option (List UInt8 × Bool × Unit) :=
  W.bindK (F52 W (W.lenI x.1, 1, 9000, ())) fun y0 =>
  bif W.bNot y0.1 then some (W.litS [], false, ()) else W.bindK (F68 W (W.lenI x.1, ())) fun y1 =>
  W.bindK (F128 W x) fun y2 =>
  W.guardK (W.gNn 24) <|
  W.guardK (W.gNn 16) <|
  W.guardK (W.gNn 8) <|
  W.guardK (W.gCat y1.1 (W.strP [W.iConv .u8 (W.iShr .u32 y2.1 24), W.iConv .u8 (W.iShr .u32 y2.1 16), W.iConv .u8 (W.iShr .u32 y2.1 8), W.iConv .u8 y2.1])) <|
  W.guardK (W.gCat (W.cat y1.1 (W.strP [W.iConv .u8 (W.iShr .u32 y2.1 24), W.iConv .u8 (W.iShr .u32 y2.1 16), W.iConv .u8 (W.iShr .u32 y2.1 8), W.iConv .u8 y2.1])) x.1) <|
  some (W.cat (W.cat y1.1 (W.strP [W.iConv .u8 (W.iShr .u32 y2.1 24), W.iConv .u8 (W.iShr .u32 y2.1 16), W.iConv .u8 (W.iShr .u32 y2.1 8), W.iConv .u8 y2.1])) x.1, true, ())
abbrev ce126 : CE := .con true sg126 (F126 WW)
theorem co126 : ConOK TT 126 sg126 (F126 WW) := con_fn (fn := inlF XX fn126) (ces := [(52, ce52), (68, ce68), (128, ce128)]) (ents1 en52 (ents1 en68 (ents1 en128 ents0))) hn126 pm126 (by kernel_rfl) rfl rfl (fun x => by kernel_rfl)
theorem en126 : EntOK TT 126 ce126 := ent_fz co126 (by kernel_rfl) rfl rfl rfl
/- impl.entryFrames -/
def hn74 : Hints := [(2, KLog, true), (5, (.sl 1 (.int .u8)), true), (14, (.sl 3 KEntry), true), (26, (.sl 3 KEntry), true), (38, (.sl 1 (.int .u8)), true), (40, (.sl 1 (.int .u8)), true), (41, (.sl 1 (.int .u8)), true)]
def pm74 : List Nat := [2]
abbrev sg74 : Sig := ⟨[.dat KLog, .dat I], [.str]⟩
def F74 (W : Words) (x : TLog × Int × Unit) : Option (List UInt8 × Unit) :=
  W.loopF (fun rec0 (s1 : Int × List Int × Unit) =>
  bif W.iLt s1.1 (W.lenI x.1.2.2.1) then W.idxK x.1.2.2.1 s1.1 fun y2 =>
  W.bindK (F127 W (W.iAdd .i64 (W.iAdd .i64 x.1.1 s1.1) 1, y2, ())) fun y3 =>
  W.bindK (F126 W (y3.1, ())) fun y4 =>
  W.guardK (W.gApp s1.2.1 (W.bytesP y4.1) 1) <|
  rec0 (W.iAdd .i64 s1.1 1, W.cat s1.2.1 (W.bytesP y4.1), ()) else some (W.strP s1.2.1, ())) NN (x.2.1, [], ())
abbrev ce74 : CE := .con true sg74 (F74 WW)
theorem co74 : ConOK TT 74 sg74 (F74 WW) := con_fn (fn := inlF XX fn74) (ces := [(127, ce127), (126, ce126)]) (ents1 en127 (ents1 en126 ents0)) hn74 pm74 (by kernel_rfl) rfl rfl (fun x => by kernel_rfl)
theorem en74 : EntOK TT 74 ce74 := ent_fz co74 (by kernel_rfl) rfl rfl rfl
/- impl.headFrame -/
def hn73 : Hints := [(14, (.sl 1 I), true)]
def pm73 : List Nat := []
abbrev sg73 : Sig := ⟨[.dat .str, .dat I, .dat I], [.str]⟩
def F73 (W : Words) (x : List UInt8 × Int × Int × Unit) : Option (List UInt8 × Unit) :=
  W.bindK (F69 W ([x.2.1, x.2.2.1], ())) fun y0 =>
  W.guardK (W.gCat x.1 y0.1) <|
  W.bindK (F126 W (W.cat x.1 y0.1, ())) fun y1 =>
  some (y1.1, ())
abbrev ce73 : CE := .con true sg73 (F73 WW)
theorem co73 : ConOK TT 73 sg73 (F73 WW) := con_fn (fn := inlF XX fn73) (ces := [(69, ce69), (126, ce126)]) (ents1 en69 (ents1 en126 ents0)) hn73 pm73 (by kernel_rfl) rfl rfl (fun x => by kernel_rfl)
theorem en73 : EntOK TT 73 ce73 := ent_fz co73 (by kernel_rfl) rfl rfl rfl
/- impl.JournalText -/
def hn28 : Hints := [(1, KJournal, true), (5, KJournal, true), (22, KLog, true)]
def pm28 : List Nat := [1]
abbrev sg28 : Sig := ⟨[.dat KJournal], [.str, .bool]⟩
def F28 (W : Words) (x : TJournal × Unit) : Option (List UInt8 × Bool × Unit) :=
  W.bindK (F72 W x) fun y0 =>
  bif W.bNot y0.1 then some (W.litS [], false, ()) else W.bindK (F73 W (W.litS [66], x.1.2.2.2.1, x.1.2.2.2.2.1, ())) fun y1 =>
  W.bindK (F73 W (W.litS [72], x.1.2.1, x.1.2.2.1, ())) fun y2 =>
  W.guardK (W.gCat y1.1 y2.1) <|
  W.bindK (F74 W (x.1.2.2.2, 0, ())) fun y3 =>
  W.guardK (W.gCat (W.cat y1.1 y2.1) y3.1) <|
  bif W.iGt (W.lenI (W.cat (W.cat y1.1 y2.1) y3.1)) 20000 then some (W.litS [], false, ()) else some (W.cat (W.cat y1.1 y2.1) y3.1, true, ())
abbrev ce28 : CE := .con true sg28 (F28 WW)
theorem co28 : ConOK TT 28 sg28 (F28 WW) := con_fn (fn := inlF XX fn28) (ces := [(72, ce72), (74, ce74), (73, ce73)]) (ents1 en72 (ents1 en74 (ents1 en73 ents0))) hn28 pm28 (by kernel_rfl) rfl rfl (fun x => by kernel_rfl)
theorem en28 : EntOK TT 28 ce28 := ent_fz co28 (by kernel_rfl) rfl rfl rfl
/- impl.ConfText -/
def hn75 : Hints := [(4, (.sl 1 (.int .u8)), true), (7, (.sl 1 I), true), (10, (.sl 1 I), true), (16, (.sl 1 (.int .u8)), true), (19, (.sl 1 (.int .u8)), true), (20, (.sl 1 (.int .u8)), true), (22, (.sl 1 (.int .u8)), true)]
def pm75 : List Nat := []
abbrev sg75 : Sig := ⟨[.dat (.sl 1 I)], [.str, .bool]⟩
def F75 (W : Words) (x : List Int × Unit) : Option (List UInt8 × Bool × Unit) :=
  W.bindK (F25 W x) fun y0 =>
  bif W.bNot y0.1 then some (W.litS [], false, ()) else W.loopF (fun rec1 (s2 : Int × List Int × Unit) =>
  bif W.iLt s2.1 (W.lenI x.1) then W.idxK x.1 s2.1 fun y3 =>
  W.guardK (W.gApp s2.2.1 [W.iConv .u8 y3] 1) <|
  rec1 (W.iAdd .i64 s2.1 1, W.cat s2.2.1 [W.iConv .u8 y3], ()) else some (W.strP s2.2.1, true, ())) NN (0, [], ())
abbrev ce75 : CE := .con true sg75 (F75 WW)
theorem co75 : ConOK TT 75 sg75 (F75 WW) := con_fn (fn := inlF XX fn75) (ces := [(25, ce25)]) (ents1 en25 ents0) hn75 pm75 (by kernel_rfl) rfl rfl (fun x => by kernel_rfl)
theorem en75 : EntOK TT 75 ce75 := ent_fz co75 (by kernel_rfl) rfl rfl rfl
/- impl.Sealed -/
def hn76 : Hints := [(22, (.sl 1 (.int .u8)), true)]
def pm76 : List Nat := []
abbrev sg76 : Sig := ⟨[.dat .str], [.str, .bool]⟩
def F76 (W : Words) (x : List UInt8 × Unit) : Option (List UInt8 × Bool × Unit) :=
  bif W.iGt (W.lenI x.1) 20000 then some (W.litS [], false, ()) else W.bindK (F128 W x) fun y0 =>
  W.guardK (W.gNn 24) <|
  W.guardK (W.gNn 16) <|
  W.guardK (W.gNn 8) <|
  W.guardK (W.gCat x.1 (W.strP [W.iConv .u8 (W.iShr .u32 y0.1 24), W.iConv .u8 (W.iShr .u32 y0.1 16), W.iConv .u8 (W.iShr .u32 y0.1 8), W.iConv .u8 y0.1])) <|
  some (W.cat x.1 (W.strP [W.iConv .u8 (W.iShr .u32 y0.1 24), W.iConv .u8 (W.iShr .u32 y0.1 16), W.iConv .u8 (W.iShr .u32 y0.1 8), W.iConv .u8 y0.1]), true, ())
abbrev ce76 : CE := .con true sg76 (F76 WW)
theorem co76 : ConOK TT 76 sg76 (F76 WW) := con_fn (fn := inlF XX fn76) (ces := [(128, ce128)]) (ents1 en128 ents0) hn76 pm76 (by kernel_rfl) rfl rfl (fun x => by kernel_rfl)
theorem en76 : EntOK TT 76 ce76 := ent_fz co76 (by kernel_rfl) rfl rfl rfl
/- impl.SnapText -/
def hn29 : Hints := [(1, KSnap, true), (15, (.sl 1 I), true), (44, (.sl 1 I), true)]
def pm29 : List Nat := [1]
abbrev sg29 : Sig := ⟨[.dat KSnap], [.str, .bool]⟩
def F29 (W : Words) (x : TSnap × Unit) : Option (List UInt8 × Bool × Unit) :=
  W.bindK (F75 W (x.1.2.2.1, ())) fun y0 =>
  W.bindK (bif W.bNot y0.2.1 then some true else W.bindK (F52 W (x.1.1, 0, 1000000, ())) fun y1 =>
  some (W.bNot y1.1)) fun y2 =>
  W.bindK (bif y2 then some true else W.bindK (F52 W (x.1.2.1, 0, 100000, ())) fun y3 =>
  some (W.bNot y3.1)) fun y4 =>
  W.bindK (bif y4 then some true else some (W.iGt (W.lenI x.1.2.2.2.1) 20000)) fun y5 =>
  bif y5 then some (W.litS [], false, ()) else W.bindK (F69 W ([x.1.1, x.1.2.1], ())) fun y6 =>
  W.bindK (F70 W (y0.1, ())) fun y7 =>
  W.bindK (F70 W x.1.2.2.2) fun y8 =>
  W.guardK (W.gCat y6.1 y7.1) <|
  W.guardK (W.gCat (W.cat y6.1 y7.1) y8.1) <|
  W.bindK (F76 W (W.cat (W.cat y6.1 y7.1) y8.1, ())) fun y9 =>
  W.bindK (bif W.bNot y9.2.1 then some true else some (W.iGt (W.lenI y9.1) 20000)) fun y10 =>
  bif y10 then some (W.litS [], false, ()) else some (y9.1, true, ())
abbrev ce29 : CE := .con true sg29 (F29 WW)
theorem co29 : ConOK TT 29 sg29 (F29 WW) := con_fn (fn := inlF XX fn29) (ces := [(75, ce75), (52, ce52), (69, ce69), (70, ce70), (76, ce76)]) (ents1 en75 (ents1 en52 (ents1 en69 (ents1 en70 (ents1 en76 ents0))))) hn29 pm29 (by kernel_rfl) rfl rfl (fun x => by kernel_rfl)
theorem en29 : EntOK TT 29 ce29 := ent_fz co29 (by kernel_rfl) rfl rfl rfl
/- strconv.small -/
def hn234 : Hints := []
def pm234 : List Nat := []
abbrev sg234 : Sig := ⟨[.dat I], [.str]⟩
def F234 (W : Words) (x : Int × Unit) : Option (List UInt8 × Unit) :=
  bif W.iLt x.1 10 then W.bndK (W.lenN (W.litS [48, 49, 50, 51, 52, 53, 54, 55, 56, 57, 97, 98, 99, 100, 101, 102, 103, 104, 105, 106, 107, 108, 109, 110, 111, 112, 113, 114, 115, 116, 117, 118, 119, 120, 121, 122])) x.1 (W.iAdd .i64 x.1 1) fun l0 n1 =>
  some (W.sub (W.litS [48, 49, 50, 51, 52, 53, 54, 55, 56, 57, 97, 98, 99, 100, 101, 102, 103, 104, 105, 106, 107, 108, 109, 110, 111, 112, 113, 114, 115, 116, 117, 118, 119, 120, 121, 122]) l0 n1, ()) else W.bndK (W.lenN (W.litS [48, 48, 48, 49, 48, 50, 48, 51, 48, 52, 48, 53, 48, 54, 48, 55, 48, 56, 48, 57, 49, 48, 49, 49, 49, 50, 49, 51, 49, 52, 49, 53, 49, 54, 49, 55, 49, 56, 49, 57, 50, 48, 50, 49, 50, 50, 50, 51, 50, 52, 50, 53, 50, 54, 50, 55, 50, 56, 50, 57, 51, 48, 51, 49, 51, 50, 51, 51, 51, 52, 51, 53, 51, 54, 51, 55, 51, 56, 51, 57, 52, 48, 52, 49, 52, 50, 52, 51, 52, 52, 52, 53, 52, 54, 52, 55, 52, 56, 52, 57, 53, 48, 53, 49, 53, 50, 53, 51, 53, 52, 53, 53, 53, 54, 53, 55, 53, 56, 53, 57, 54, 48, 54, 49, 54, 50, 54, 51, 54, 52, 54, 53, 54, 54, 54, 55, 54, 56, 54, 57, 55, 48, 55, 49, 55, 50, 55, 51, 55, 52, 55, 53, 55, 54, 55, 55, 55, 56, 55, 57, 56, 48, 56, 49, 56, 50, 56, 51, 56, 52, 56, 53, 56, 54, 56, 55, 56, 56, 56, 57, 57, 48, 57, 49, 57, 50, 57, 51, 57, 52, 57, 53, 57, 54, 57, 55, 57, 56, 57, 57])) (W.iMul .i64 x.1 2) (W.iAdd .i64 (W.iMul .i64 x.1 2) 2) fun l2 n3 =>
  some (W.sub (W.litS [48, 48, 48, 49, 48, 50, 48, 51, 48, 52, 48, 53, 48, 54, 48, 55, 48, 56, 48, 57, 49, 48, 49, 49, 49, 50, 49, 51, 49, 52, 49, 53, 49, 54, 49, 55, 49, 56, 49, 57, 50, 48, 50, 49, 50, 50, 50, 51, 50, 52, 50, 53, 50, 54, 50, 55, 50, 56, 50, 57, 51, 48, 51, 49, 51, 50, 51, 51, 51, 52, 51, 53, 51, 54, 51, 55, 51, 56, 51, 57, 52, 48, 52, 49, 52, 50, 52, 51, 52, 52, 52, 53, 52, 54, 52, 55, 52, 56, 52, 57, 53, 48, 53, 49, 53, 50, 53, 51, 53, 52, 53, 53, 53, 54, 53, 55, 53, 56, 53, 57, 54, 48, 54, 49, 54, 50, 54, 51, 54, 52, 54, 53, 54, 54, 54, 55, 54, 56, 54, 57, 55, 48, 55, 49, 55, 50, 55, 51, 55, 52, 55, 53, 55, 54, 55, 55, 55, 56, 55, 57, 56, 48, 56, 49, 56, 50, 56, 51, 56, 52, 56, 53, 56, 54, 56, 55, 56, 56, 56, 57, 57, 48, 57, 49, 57, 50, 57, 51, 57, 52, 57, 53, 57, 54, 57, 55, 57, 56, 57, 57]) l2 n3, ())
abbrev ce234 : CE := .con true sg234 (F234 WW)
theorem co234 : ConOK TT 234 sg234 (F234 WW) := con_fn (fn := inlF XX fn234) (ces := []) ents0 hn234 pm234 (by kernel_rfl) rfl rfl (fun x => by kernel_rfl)
theorem en234 : EntOK TT 234 ce234 := ent_fz co234 (by kernel_rfl) rfl rfl rfl
/- strconv.numDigits -/
abbrev sg235 : Sig := ⟨[.dat (.int .u64)], [I]⟩
def F235 (W : Words) (x : Int × Unit) : Option (Int × Unit) := none
abbrev ce235 : CE := .con true sg235 (F235 WW)
theorem co235 : ConOK TT 235 sg235 (F235 WW) := con_none fun x => rfl
theorem en235 : EntOK TT 235 ce235 := ent_fz co235 (by kernel_rfl) rfl rfl rfl
/- strconv.formatBits -/
abbrev sg237 : Sig := ⟨[.dat (.sl 1 (.int .u8)), .dat (.int .u64), .dat I, .dat .bool, .dat .bool], [(.sl 1 (.int .u8)), .str]⟩
def F237 (W : Words) (x : List Int × Int × Int × Bool × Bool × Unit) : Option (List Int × List UInt8 × Unit) := none
abbrev ce237 : CE := .con false sg237 (F237 WW)
theorem co237 : ConOK TT 237 sg237 (F237 WW) := con_none fun x => rfl
theorem en237 : EntOK TT 237 ce237 := ent_sep co237 (by kernel_rfl) rfl
/- strconv.FormatInt -/
def hn204 : Hints := [(8, (.sl 1 (.int .u8)), true), (30, (.sl 1 (.int .u8)), true), (38, (.sl 1 (.int .u8)), true), (42, (.sl 1 (.int .u8)), true), (51, (.sl 1 (.int .u8)), true)]
def pm204 : List Nat := []
abbrev sg204 : Sig := ⟨[.dat I, .dat I], [.str]⟩
def F204 (W : Words) (x : Int × Int × Unit) : Option (List UInt8 × Unit) :=
  bif W.iEq x.2.1 10 then W.bindK (bif W.iLe 0 x.1 then some (W.iLt x.1 100) else some false) fun y0 =>
  bif y0 then W.bindK (F234 W (x.1, ())) fun y1 =>
  some y1 else W.joinK (fun (s2 : Int × Unit) =>
  W.bindK (F235 W s2) fun y3 =>
  none) fun k4 =>
  bif W.iLt x.1 0 then k4 (W.iSub .u64 0 (W.iConv .u64 x.1), ()) else k4 (W.iConv .u64 x.1, ()) else W.bindK (F237 W ([], W.iConv .u64 x.1, x.2.1, W.iLt x.1 0, false, ())) fun y5 =>
  some y5.2
abbrev ce204 : CE := .con true sg204 (F204 WW)
theorem co204 : ConOK TT 204 sg204 (F204 WW) := con_fn (fn := inlF XX fn204) (ces := [(234, ce234), (235, ce235), (237, ce237)]) (ents1 en234 (ents1 en235 (ents1 en237 ents0))) hn204 pm204 (by kernel_rfl) rfl rfl (fun x => by kernel_rfl)
theorem en204 : EntOK TT 204 ce204 := ent_fz co204 (by kernel_rfl) rfl rfl rfl
/- strconv.Itoa -/
def hn175 : Hints := []
def pm175 : List Nat := []
abbrev sg175 : Sig := ⟨[.dat I], [.str]⟩
def F175 (W : Words) (x : Int × Unit) : Option (List UInt8 × Unit) :=
  W.bindK (F204 W (x.1, 10, ())) fun y0 =>
  some y0
abbrev ce175 : CE := .con true sg175 (F175 WW)
theorem co175 : ConOK TT 175 sg175 (F175 WW) := con_fn (fn := inlF XX fn175) (ces := [(204, ce204)]) (ents1 en204 ents0) hn175 pm175 (by kernel_rfl) rfl rfl (fun x => by kernel_rfl)
theorem en175 : EntOK TT 175 ce175 := ent_fz co175 (by kernel_rfl) rfl rfl rfl
/- strconv.Itoa -/
def hn129 : Hints := []
def pm129 : List Nat := []
abbrev sg129 : Sig := ⟨[.dat I], [.str]⟩
def F129 (W : Words) (x : Int × Unit) : Option (List UInt8 × Unit) :=
  W.bindK (F175 W x) fun y0 =>
  some y0
abbrev ce129 : CE := .con true sg129 (F129 WW)
theorem co129 : ConOK TT 129 sg129 (F129 WW) := con_fn (fn := inlF XX fn129) (ces := [(175, ce175)]) (ents1 en175 ents0) hn129 pm129 (by kernel_rfl) rfl rfl (fun x => by kernel_rfl)
theorem en129 : EntOK TT 129 ce129 := ent_fz co129 (by kernel_rfl) rfl rfl rfl
/- impl.Decimal -/
def hn77 : Hints := []
def pm77 : List Nat := []
abbrev sg77 : Sig := ⟨[.dat I], [.str]⟩
def F77 (W : Words) (x : Int × Unit) : Option (List UInt8 × Unit) :=
  W.bindK (F129 W x) fun y0 =>
  some y0
abbrev ce77 : CE := .con true sg77 (F77 WW)
theorem co77 : ConOK TT 77 sg77 (F77 WW) := con_fn (fn := inlF XX fn77) (ces := [(129, ce129)]) (ents1 en129 ents0) hn77 pm77 (by kernel_rfl) rfl rfl (fun x => by kernel_rfl)
theorem en77 : EntOK TT 77 ce77 := ent_fz co77 (by kernel_rfl) rfl rfl rfl
/- impl.SnapName -/
def hn31 : Hints := []
def pm31 : List Nat := []
abbrev sg31 : Sig := ⟨[.dat I], [.str]⟩
def F31 (W : Words) (x : Int × Unit) : Option (List UInt8 × Unit) :=
  W.bindK (F52 W (x.1, 0, 1000000, ())) fun y0 =>
  bif W.bNot y0.1 then some (W.litS [], ()) else W.bindK (F77 W x) fun y1 =>
  W.guardK (W.gCat (W.litS [115]) y1.1) <|
  some (W.cat (W.litS [115]) y1.1, ())
abbrev ce31 : CE := .con true sg31 (F31 WW)
theorem co31 : ConOK TT 31 sg31 (F31 WW) := con_fn (fn := inlF XX fn31) (ces := [(52, ce52), (77, ce77)]) (ents1 en52 (ents1 en77 ents0)) hn31 pm31 (by kernel_rfl) rfl rfl (fun x => by kernel_rfl)
theorem en31 : EntOK TT 31 ce31 := ent_fz co31 (by kernel_rfl) rfl rfl rfl
/- impl.JournalName -/
def hn30 : Hints := []
def pm30 : List Nat := []
abbrev sg30 : Sig := ⟨[.dat I], [.str]⟩
def F30 (W : Words) (x : Int × Unit) : Option (List UInt8 × Unit) :=
  W.bindK (F52 W (x.1, 0, 999, ())) fun y0 =>
  bif W.bNot y0.1 then some (W.litS [], ()) else W.bindK (F77 W x) fun y1 =>
  W.guardK (W.gCat (W.litS [106]) y1.1) <|
  some (W.cat (W.litS [106]) y1.1, ())
abbrev ce30 : CE := .con true sg30 (F30 WW)
theorem co30 : ConOK TT 30 sg30 (F30 WW) := con_fn (fn := inlF XX fn30) (ces := [(52, ce52), (77, ce77)]) (ents1 en52 (ents1 en77 ents0)) hn30 pm30 (by kernel_rfl) rfl rfl (fun x => by kernel_rfl)
theorem en30 : EntOK TT 30 ce30 := ent_fz co30 (by kernel_rfl) rfl rfl rfl
/- impl.FormatDisk -/
def hn7 : Hints := [(2, KDisk, true), (10, (.sl 1 I), true), (13, KDisk, true), (15, KHall, true), (20, KJournal, true), (25, (.sl 1 I), true), (27, KSnap, true), (41, (.sl 3 KFile), true), (42, KDisk, true)]
def pm7 : List Nat := []
abbrev sg7 : Sig := ⟨[.dat (.sl 1 I)], [KDisk, .bool]⟩
def F7 (W : Words) (x : List Int × Unit) : Option (TDisk × Bool × Unit) :=
  W.bindK (F25 W x) fun y0 =>
  bif W.bNot y0.1 then some (([], ()), false, ()) else W.bindK (F27 W ()) fun y1 =>
  W.bindK (F26 W y1) fun y2 =>
  W.bindK (F28 W ((0, 0, 0, 0, 0, [], ()), ())) fun y3 =>
  W.bindK (F29 W ((0, 0, x.1, y2.1, ()), ())) fun y4 =>
  W.bindK (F30 W (0, ())) fun y5 =>
  W.bindK (F31 W (0, ())) fun y6 =>
  some (([(y5.1, y3.1, W.lenI y3.1, ()), (y6.1, y4.1, W.lenI y4.1, ())], ()), true, ())
abbrev ce7 : CE := .con false sg7 (F7 WW)
theorem co7 : ConOK TT 7 sg7 (F7 WW) := con_fn (fn := inlF XX fn7) (ces := [(25, ce25), (26, ce26), (27, ce27), (28, ce28), (29, ce29), (31, ce31), (30, ce30)]) (ents1 en25 (ents1 en26 (ents1 en27 (ents1 en28 (ents1 en29 (ents1 en31 (ents1 en30 ents0))))))) hn7 pm7 (by kernel_rfl) rfl rfl (fun x => by kernel_rfl)
theorem en7 : EntOK TT 7 ce7 := ent_sep co7 (by kernel_rfl) rfl
/- laws.eqFile -/
def hn78 : Hints := []
def pm78 : List Nat := [2, 3]
abbrev sg78 : Sig := ⟨[.dat KFile, .dat KFile], [.bool]⟩
def F78 (W : Words) (x : TFile × TFile × Unit) : Option (Bool × Unit) :=
  bif W.bNot (W.strEq x.1.1 x.2.1.1) then some (false, ()) else bif W.bNot (W.strEq x.1.2.1 x.2.1.2.1) then some (false, ()) else bif W.iNe x.1.2.2.1 x.2.1.2.2.1 then some (false, ()) else some (true, ())
abbrev ce78 : CE := .con true sg78 (F78 WW)
theorem co78 : ConOK TT 78 sg78 (F78 WW) := con_fn (fn := inlF XX fn78) (ces := []) ents0 hn78 pm78 (by kernel_rfl) rfl rfl (fun x => by kernel_rfl)
theorem en78 : EntOK TT 78 ce78 := ent_fz co78 (by kernel_rfl) rfl rfl rfl
/- laws.eqFileS -/
def hn32 : Hints := [(6, (.sl 3 KFile), true), (8, (.sl 3 KFile), true), (12, (.sl 3 KFile), true), (17, (.sl 3 KFile), true), (21, (.sl 3 KFile), true)]
def pm32 : List Nat := []
abbrev sg32 : Sig := ⟨[.dat (.sl 3 KFile), .dat (.sl 3 KFile)], [.bool]⟩
def F32 (W : Words) (x : List TFile × List TFile × Unit) : Option (Bool × Unit) :=
  bif W.iNe (W.lenI x.1) (W.lenI x.2.1) then some (false, ()) else W.loopF (fun rec0 (s1 : Int × Unit) =>
  bif W.iLt s1.1 (W.lenI x.1) then W.idxK x.1 s1.1 fun y2 =>
  W.idxK x.2.1 s1.1 fun y3 =>
  W.bindK (F78 W (y2, y3, ())) fun y4 =>
  bif W.bNot y4.1 then some (false, ()) else rec0 (W.iAdd .i64 s1.1 1, ()) else some (true, ())) NN (0, ())
abbrev ce32 : CE := .con true sg32 (F32 WW)
theorem co32 : ConOK TT 32 sg32 (F32 WW) := con_fn (fn := inlF XX fn32) (ces := [(78, ce78)]) (ents1 en78 ents0) hn32 pm32 (by kernel_rfl) rfl rfl (fun x => by kernel_rfl)
theorem en32 : EntOK TT 32 ce32 := ent_fz co32 (by kernel_rfl) rfl rfl rfl
/- laws.eqDisk -/
def hn8 : Hints := [(2, KDisk, true), (3, KDisk, true), (6, (.sl 3 KFile), true), (8, (.sl 3 KFile), true)]
def pm8 : List Nat := [2, 3]
abbrev sg8 : Sig := ⟨[.dat KDisk, .dat KDisk], [.bool]⟩
def F8 (W : Words) (x : TDisk × TDisk × Unit) : Option (Bool × Unit) :=
  W.bindK (F32 W (x.1.1, x.2.1)) fun y0 =>
  bif W.bNot y0.1 then some (false, ()) else some (true, ())
abbrev ce8 : CE := .con true sg8 (F8 WW)
theorem co8 : ConOK TT 8 sg8 (F8 WW) := con_fn (fn := inlF XX fn8) (ces := [(32, ce32)]) (ents1 en32 ents0) hn8 pm8 (by kernel_rfl) rfl rfl (fun x => by kernel_rfl)
theorem en8 : EntOK TT 8 ce8 := ent_fz co8 (by kernel_rfl) rfl rfl rfl
/- laws.eqIntS -/
def hn9 : Hints := [(6, (.sl 1 I), true), (8, (.sl 1 I), true), (12, (.sl 1 I), true), (17, (.sl 1 I), true), (21, (.sl 1 I), true)]
def pm9 : List Nat := []
abbrev sg9 : Sig := ⟨[.dat (.sl 1 I), .dat (.sl 1 I)], [.bool]⟩
def F9 (W : Words) (x : List Int × List Int × Unit) : Option (Bool × Unit) :=
  bif W.iNe (W.lenI x.1) (W.lenI x.2.1) then some (false, ()) else W.loopF (fun rec0 (s1 : Int × Unit) =>
  bif W.iLt s1.1 (W.lenI x.1) then W.idxK x.1 s1.1 fun y2 =>
  W.idxK x.2.1 s1.1 fun y3 =>
  bif W.iNe y2 y3 then some (false, ()) else rec0 (W.iAdd .i64 s1.1 1, ()) else some (true, ())) NN (0, ())
abbrev ce9 : CE := .con true sg9 (F9 WW)
theorem co9 : ConOK TT 9 sg9 (F9 WW) := con_fn (fn := inlF XX fn9) (ces := []) ents0 hn9 pm9 (by kernel_rfl) rfl rfl (fun x => by kernel_rfl)
theorem en9 : EntOK TT 9 ce9 := ent_fz co9 (by kernel_rfl) rfl rfl rfl
/- laws.markIntS -/
def hn10 : Hints := [(7, (.sl 1 I), true), (12, (.sl 1 I), true)]
def pm10 : List Nat := []
abbrev sg10 : Sig := ⟨[.kept (.sl 1 I), .dat I], [I]⟩
def F10 (W : Words) (x : List Int × Int × Unit) : Option (Int × List Int × Unit) :=
  W.loopF (fun rec0 (s1 : TOut) =>
  bif W.iLt s1.1 (W.lenI s1.2.2.1) then W.idxK s1.2.2.1 s1.1 fun y2 =>
  rec0 (W.iAdd .i64 s1.1 1, W.iAdd .i64 s1.2.1 1, W.setL s1.2.2.1 (W.toN s1.1) s1.2.1, ()) else some s1.2) NN (0, x.2.1, x.1, ())
abbrev ce10 : CE := .con false sg10 (F10 WW)
theorem co10 : ConOK TT 10 sg10 (F10 WW) := con_fn (fn := inlF XX fn10) (ces := []) ents0 hn10 pm10 (by kernel_rfl) rfl rfl (fun x => by kernel_rfl)
theorem en10 : EntOK TT 10 ce10 := ent_sep co10 (by kernel_rfl) rfl
/- laws.markText -/
def hn79 : Hints := [(12, (.sl 1 (.int .u8)), true)]
def pm79 : List Nat := []
abbrev sg79 : Sig := ⟨[.dat I], [.str]⟩
def F79 (W : Words) (x : Int × Unit) : Option (List UInt8 × Unit) :=
  bif W.iLe x.1 0 then some (W.litS [109, 48], ()) else W.loopF (fun rec0 (s1 : Int × List UInt8 × Unit) =>
  bif W.iGt s1.1 0 then W.guardK (W.gNz 10) <|
  W.guardK (W.gCat (W.strP [W.iConv .u8 (W.iAdd .i64 48 (W.iRem s1.1 10))]) s1.2.1) <|
  W.guardK (W.gNz 10) <|
  rec0 (W.iQuo .i64 s1.1 10, W.cat (W.strP [W.iConv .u8 (W.iAdd .i64 48 (W.iRem s1.1 10))]) s1.2.1, ()) else W.guardK (W.gCat (W.litS [109]) s1.2.1) <|
  some (W.cat (W.litS [109]) s1.2.1, ())) NN (x.1, W.litS [], ())
abbrev ce79 : CE := .con true sg79 (F79 WW)
theorem co79 : ConOK TT 79 sg79 (F79 WW) := con_fn (fn := inlF XX fn79) (ces := []) ents0 hn79 pm79 (by kernel_rfl) rfl rfl (fun x => by kernel_rfl)
theorem en79 : EntOK TT 79 ce79 := ent_fz co79 (by kernel_rfl) rfl rfl rfl
/- laws.markFileS -/
def hn33 : Hints := [(7, (.sl 3 KFile), true), (12, (.sl 3 KFile), true), (20, (.sl 3 KFile), true), (28, (.sl 3 KFile), true)]
def pm33 : List Nat := []
abbrev sg33 : Sig := ⟨[.kept (.sl 3 KFile), .dat I], [I]⟩
def F33 (W : Words) (x : List TFile × Int × Unit) : Option (Int × List TFile × Unit) :=
  W.loopF (fun rec0 (s1 : Int × Int × List TFile × Unit) =>
  bif W.iLt s1.1 (W.lenI s1.2.2.1) then W.bindK (F79 W (s1.2.1, ())) fun y2 =>
  W.idxK s1.2.2.1 s1.1 fun y3 =>
  W.bindK (F79 W (W.iAdd .i64 s1.2.1 1, ())) fun y4 =>
  W.idxK (W.setL s1.2.2.1 (W.toN s1.1) (y2.1, y3.2)) s1.1 fun y5 =>
  W.idxK (W.setL (W.setL s1.2.2.1 (W.toN s1.1) (y2.1, y3.2)) (W.toN s1.1) (y5.1, y4.1, y5.2.2)) s1.1 fun y6 =>
  rec0 (W.iAdd .i64 s1.1 1, W.iAdd .i64 (W.iAdd .i64 (W.iAdd .i64 s1.2.1 1) 1) 1, W.setL (W.setL (W.setL s1.2.2.1 (W.toN s1.1) (y2.1, y3.2)) (W.toN s1.1) (y5.1, y4.1, y5.2.2)) (W.toN s1.1) (y6.1, y6.2.1, W.iAdd .i64 (W.iAdd .i64 s1.2.1 1) 1, ()), ()) else some s1.2) NN (0, x.2.1, x.1, ())
abbrev ce33 : CE := .con false sg33 (F33 WW)
theorem co33 : ConOK TT 33 sg33 (F33 WW) := con_fn (fn := inlF XX fn33) (ces := [(79, ce79)]) (ents1 en79 ents0) hn33 pm33 (by kernel_rfl) rfl rfl (fun x => by kernel_rfl)
theorem en33 : EntOK TT 33 ce33 := ent_sep co33 (by kernel_rfl) rfl
/- laws.heldFileS -/
def hn34 : Hints := [(7, (.sl 3 KFile), true), (12, (.sl 3 KFile), true), (22, (.sl 3 KFile), true), (32, (.sl 3 KFile), true)]
def pm34 : List Nat := []
abbrev sg34 : Sig := ⟨[.dat (.sl 3 KFile), .dat I], [I]⟩
def F34 (W : Words) (x : List TFile × Int × Unit) : Option (Int × Unit) :=
  W.loopF (fun rec0 (s1 : TItem) =>
  bif W.iLt s1.1 (W.lenI x.1) then W.idxK x.1 s1.1 fun y2 =>
  W.bindK (F79 W s1.2) fun y3 =>
  bif W.bNot (W.strEq y2.1 y3.1) then some ((-1), ()) else W.idxK x.1 s1.1 fun y4 =>
  W.bindK (F79 W (W.iAdd .i64 s1.2.1 1, ())) fun y5 =>
  bif W.bNot (W.strEq y4.2.1 y5.1) then some ((-1), ()) else W.idxK x.1 s1.1 fun y6 =>
  bif W.iNe y6.2.2.1 (W.iAdd .i64 (W.iAdd .i64 s1.2.1 1) 1) then some ((-1), ()) else rec0 (W.iAdd .i64 s1.1 1, W.iAdd .i64 (W.iAdd .i64 (W.iAdd .i64 s1.2.1 1) 1) 1, ()) else some s1.2) NN (0, x.2)
abbrev ce34 : CE := .con true sg34 (F34 WW)
theorem co34 : ConOK TT 34 sg34 (F34 WW) := con_fn (fn := inlF XX fn34) (ces := [(79, ce79)]) (ents1 en79 ents0) hn34 pm34 (by kernel_rfl) rfl rfl (fun x => by kernel_rfl)
theorem en34 : EntOK TT 34 ce34 := ent_fz co34 (by kernel_rfl) rfl rfl rfl
/- laws.heldDisk -/
def hn12 : Hints := [(2, KDisk, true), (6, (.sl 3 KFile), true)]
def pm12 : List Nat := [2]
abbrev sg12 : Sig := ⟨[.dat KDisk, .dat I], [I]⟩
def F12 (W : Words) (x : TDisk × Int × Unit) : Option (Int × Unit) :=
  W.bindK (F34 W (x.1.1, x.2)) fun y0 =>
  bif W.iLt y0.1 0 then some ((-1), ()) else some y0
abbrev ce12 : CE := .con true sg12 (F12 WW)
theorem co12 : ConOK TT 12 sg12 (F12 WW) := con_fn (fn := inlF XX fn12) (ces := [(34, ce34)]) (ents1 en34 ents0) hn12 pm12 (by kernel_rfl) rfl rfl (fun x => by kernel_rfl)
theorem en12 : EntOK TT 12 ce12 := ent_fz co12 (by kernel_rfl) rfl rfl rfl
/- laws.FnExactFormatDisk -/
def hn3 : Hints := [(3, KDisk, true), (5, (.sl 1 I), true), (6, KDisk, true), (11, KDisk, true), (13, (.sl 1 I), true), (17, (.sl 1 I), true), (18, (.sl 1 I), true), (20, KDisk, true), (22, (.sl 1 I), true), (23, (.sl 1 I), true), (25, (.sl 1 I), true), (27, KDisk, true), (29, KDisk, true), (30, KDisk, true), (38, (.sl 1 I), true), (39, (.sl 1 I), true), (40, (.sl 1 I), true), (43, (.sl 1 I), true), (49, KDisk, true), (50, KDisk, true), (59, KDisk, true), (62, KDisk, true), (71, (.sl 1 I), true), (72, (.sl 1 I), true), (74, KDisk, true), (76, KDisk, true), (77, KDisk, true), (85, KDisk, true), (65538, KDisk, true), (65542, (.sl 3 KFile), true)]
def pm3 : List Nat := [3, 6, 11]
abbrev sg3 : Sig := ⟨[.dat (.sl 1 I)], [.bool]⟩
def F3 (W : Words) (x : List Int × Unit) : Option (Bool × Unit) :=
  bif W.iGt (W.lenI x.1) 1048576 then some (true, ()) else W.bindK (F6 W x) fun y0 =>
  W.bindK (F5 W y0) fun y1 =>
  W.bindK (F6 W x) fun y2 =>
  W.bindK (F7 W y2) fun y3 =>
  W.bindK (F8 W (y3.1, y1.1, ())) fun y4 =>
  W.bindK (bif W.bNot y4.1 then some true else some (W.bNe y3.2.1 y1.2.1)) fun y5 =>
  bif y5 then some (false, ()) else W.bindK (F6 W x) fun y6 =>
  W.bindK (F9 W (y2.1, y6)) fun y7 =>
  bif W.bNot y7.1 then some (false, ()) else W.bindK (F10 W (y2.1, 1, ())) fun y8 =>
  W.bindK (bif W.iLt y8.1 0 then some true else W.bindK (F8 W (y3.1, y1.1, ())) fun y9 =>
  some (W.bNot y9.1)) fun y10 =>
  W.bindK (bif y10 then some true else some (W.bNe y3.2.1 y1.2.1)) fun y11 =>
  bif y11 then some (false, ()) else W.bindK (F33 W (y3.1.1, 1, ())) fun y12 =>
  W.bindK (F12 W (y12.2, 1, ())) fun y13 =>
  bif W.iLt y13.1 0 then some (false, ()) else bif W.iNe y13.1 y12.1 then some (false, ()) else W.bindK (F6 W x) fun y14 =>
  W.bindK (F7 W y14) fun y15 =>
  W.bindK (F8 W (y15.1, y1.1, ())) fun y16 =>
  W.bindK (bif W.bNot y16.1 then some true else some (W.bNe y15.2.1 y1.2.1)) fun y17 =>
  bif y17 then some (false, ()) else W.bindK (F12 W (y12.2, 1, ())) fun y18 =>
  bif W.iLt y18.1 0 then some (false, ()) else bif W.iNe y18.1 y12.1 then some (false, ()) else some (true, ())
abbrev ce3 : CE := .con true sg3 (F3 WW)
theorem co3 : ConOK TT 3 sg3 (F3 WW) := con_fn (fn := inlF XX fn3) (ces := [(5, ce5), (6, ce6), (7, ce7), (8, ce8), (9, ce9), (10, ce10), (33, ce33), (12, ce12)]) (ents1 en5 (ents1 en6 (ents1 en7 (ents1 en8 (ents1 en9 (ents1 en10 (ents1 en33 (ents1 en12 ents0)))))))) hn3 pm3 (by kernel_rfl) rfl rfl (fun x => by kernel_rfl)
theorem en3 : EntOK TT 3 ce3 := ent_fz co3 (by kernel_rfl) rfl rfl rfl
end
end Go.Proofs.YtlnehfgjfmamjaaGreatDoor.Fd
