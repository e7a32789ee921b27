/- The functions that FnExactPropose,FnExactTick reaches,told as functions of data,and that the program does what they tell. -/
import Derived.Test.YtofonninnabieaaTqa
namespace Go.Proofs.Ytofonninnabieaa.Tq
set_option linter.unusedVariables false
set_option linter.unusedSimpArgs false
set_option maxRecDepth 100000
open Go Go.Am

noncomputable section
theorem ents0:∀ p∈([]:List (Nat×CE)),EntOK TT p.1 p.2:=fun p h=>by cases h
theorem ents1 {a:Nat} {v:CE} {l:List (Nat×CE)} (h:EntOK TT a v) (k:∀ p∈l,EntOK TT p.1 p.2):∀ p∈(a,v) :: l,EntOK TT p.1 p.2:=fun p hp=>(List.mem_cons.1 hp).elim (fun e=>e ▸ h) (k p)
/- laws.szIntS -/
def hn17:Hints:=[(6,(.sl 1 I),true)]
def pm17:List Nat:=[]
abbrev sg17:Sig:=⟨[.dat (.sl 1 I),.dat I],[I]⟩
def F17 (x:List Int×Int×Unit):Option (Int×Unit):=
  bif iLt (iSub .i64 x.2.1 (lenI x.1)) 0 then some ((-1),()) else some (iSub .i64 x.2.1 (lenI x.1),())
abbrev ce17:CE:=.con true sg17 F17
theorem co17:ConOK TT 17 sg17 F17:=con_fn (fn:=inlF XX fn17) (ces:=[]) ents0 hn17 pm17 (by kernel_rfl) rfl rfl (fun x=>by kernel_rfl)
theorem en17:EntOK TT 17 ce17:=ent_fz co17 (by kernel_rfl) rfl rfl rfl
/- laws.szEntry -/
def hn98:Hints:=[]
def pm98:List Nat:=[2]
abbrev sg98:Sig:=⟨[.dat KEntry,.dat I],[I]⟩
def F98 (x:TEntry×Int×Unit):Option (Int×Unit):=
  bif iLt (iSub .i64 x.2.1 (lenI x.1.2.2.1)) 0 then some ((-1),()) else some (iSub .i64 x.2.1 (lenI x.1.2.2.1),())
abbrev ce98:CE:=.con true sg98 F98
theorem co98:ConOK TT 98 sg98 F98:=con_fn (fn:=inlF XX fn98) (ces:=[]) ents0 hn98 pm98 (by kernel_rfl) rfl rfl (fun x=>by kernel_rfl)
theorem en98:EntOK TT 98 ce98:=ent_fz co98 (by kernel_rfl) rfl rfl rfl
/- laws.szEntryS -/
def hn72:Hints:=[(7,(.sl 3 KEntry),true),(13,(.sl 3 KEntry),true),(18,(.sl 3 KEntry),true)]
def pm72:List Nat:=[]
abbrev sg72:Sig:=⟨[.dat (.sl 3 KEntry),.dat I],[I]⟩
def F72 (x:List TEntry×Int×Unit):Option (Int×Unit):=
  bif iLt (iSub .i64 x.2.1 (lenI x.1)) 0 then some ((-1),()) else loopF (fun rec0 (s1:Int×Int×Unit)=>
  bif iLt s1.1 (lenI x.1) then idxK x.1 s1.1 fun y2=>
  bindK (F98 (y2,s1.2)) fun y3=>
  bif iLt y3.1 0 then some ((-1),()) else rec0 (iAdd .i64 s1.1 1,y3) else some s1.2) NN (0,iSub .i64 x.2.1 (lenI x.1),())
abbrev ce72:CE:=.con true sg72 F72
theorem co72:ConOK TT 72 sg72 F72:=con_fn (fn:=inlF XX fn72) (ces:=[(98,ce98)]) (ents1 en98 ents0) hn72 pm72 (by kernel_rfl) rfl rfl (fun x=>by kernel_rfl)
theorem en72:EntOK TT 72 ce72:=ent_fz co72 (by kernel_rfl) rfl rfl rfl
/- laws.szLog -/
def hn18:Hints:=[(2,KLog,true),(6,(.sl 3 KEntry),true)]
def pm18:List Nat:=[2]
abbrev sg18:Sig:=⟨[.dat KLog,.dat I],[I]⟩
def F18 (x:TLog×Int×Unit):Option (Int×Unit):=
  bindK (F72 (x.1.2.2.1,x.2)) fun y0=>
  bif iLt y0.1 0 then some ((-1),()) else some y0
abbrev ce18:CE:=.con true sg18 F18
theorem co18:ConOK TT 18 sg18 F18:=con_fn (fn:=inlF XX fn18) (ces:=[(72,ce72)]) (ents1 en72 ents0) hn18 pm18 (by kernel_rfl) rfl rfl (fun x=>by kernel_rfl)
theorem en18:EntOK TT 18 ce18:=ent_fz co18 (by kernel_rfl) rfl rfl rfl
/- laws.szPeerS -/
def hn19:Hints:=[(6,(.sl 4 KPeer),true)]
def pm19:List Nat:=[]
abbrev sg19:Sig:=⟨[.dat (.sl 4 KPeer),.dat I],[I]⟩
def F19 (x:List TPeer×Int×Unit):Option (Int×Unit):=
  bif iLt (iSub .i64 x.2.1 (lenI x.1)) 0 then some ((-1),()) else some (iSub .i64 x.2.1 (lenI x.1),())
abbrev ce19:CE:=.con true sg19 F19
theorem co19:ConOK TT 19 sg19 F19:=con_fn (fn:=inlF XX fn19) (ces:=[]) ents0 hn19 pm19 (by kernel_rfl) rfl rfl (fun x=>by kernel_rfl)
theorem en19:EntOK TT 19 ce19:=ent_fz co19 (by kernel_rfl) rfl rfl rfl
/- laws.szNode -/
def hn5:Hints:=[(2,KNode,true),(6,(.sl 1 I),true),(12,KLog,true),(18,(.sl 1 I),true),(24,(.sl 4 KPeer),true)]
def pm5:List Nat:=[2]
abbrev sg5:Sig:=⟨[.dat KNode,.dat I],[I]⟩
def F5 (x:TNode×Int×Unit):Option (Int×Unit):=
  bindK (F17 (x.1.2.2.2.2.2.1,x.2)) fun y0=>
  bif iLt y0.1 0 then some ((-1),()) else bindK (F18 ((x.1.2.2.2.2.2.2.1,x.1.2.2.2.2.2.2.2.1,x.1.2.2.2.2.2.2.2.2.1,()),y0)) fun y1=>
  bif iLt y1.1 0 then some ((-1),()) else bindK (F17 (x.1.2.2.2.2.2.2.2.2.2.2.2.2.1,y1)) fun y2=>
  bif iLt y2.1 0 then some ((-1),()) else bindK (F19 (x.1.2.2.2.2.2.2.2.2.2.2.2.2.2.1,y2)) fun y3=>
  bif iLt y3.1 0 then some ((-1),()) else some y3
abbrev ce5:CE:=.con true sg5 F5
theorem co5:ConOK TT 5 sg5 F5:=con_fn (fn:=inlF XX fn5) (ces:=[(17,ce17),(18,ce18),(19,ce19)]) (ents1 en17 (ents1 en18 (ents1 en19 ents0))) hn5 pm5 (by kernel_rfl) rfl rfl (fun x=>by kernel_rfl)
theorem en5:EntOK TT 5 ce5:=ent_fz co5 (by kernel_rfl) rfl rfl rfl
/- spec.l06Last -/
def hn29:Hints:=[(1,KLog,true),(6,(.sl 3 KEntry),true)]
def pm29:List Nat:=[1]
abbrev sg29:Sig:=⟨[.dat KLog],[I]⟩
def F29 (x:TLog×Unit):Option (Int×Unit):=
  some (iAdd .i64 x.1.1 (lenI x.1.2.2.1),())
abbrev ce29:CE:=.con true sg29 F29
theorem co29:ConOK TT 29 sg29 F29:=con_fn (fn:=inlF XX fn29) (ces:=[]) ents0 hn29 pm29 (by kernel_rfl) rfl rfl (fun x=>by kernel_rfl)
theorem en29:EntOK TT 29 ce29:=ent_fz co29 (by kernel_rfl) rfl rfl rfl
/- spec.l16Room -/
def hn22:Hints:=[(1,KNode,true),(5,(.sl 3 KEntry),true),(10,KLog,true)]
def pm22:List Nat:=[1]
abbrev sg22:Sig:=⟨[.dat KNode],[.bool]⟩
def F22 (x:TNode×Unit):Option (Bool×Unit):=
  bindK (bif iLt (lenI x.1.2.2.2.2.2.2.2.2.1) 60 then bindK (F29 ((x.1.2.2.2.2.2.2.1,x.1.2.2.2.2.2.2.2.1,x.1.2.2.2.2.2.2.2.2.1,()),())) fun y0=>
  some (iLt y0.1 1000000) else some false) fun y1=>
  some (y1,())
abbrev ce22:CE:=.con true sg22 F22
theorem co22:ConOK TT 22 sg22 F22:=con_fn (fn:=inlF XX fn22) (ces:=[(29,ce29)]) (ents1 en29 ents0) hn22 pm22 (by kernel_rfl) rfl rfl (fun x=>by kernel_rfl)
theorem en22:EntOK TT 22 ce22:=ent_fz co22 (by kernel_rfl) rfl rfl rfl
/- spec.l01In -/
def hn59:Hints:=[]
def pm59:List Nat:=[]
abbrev sg59:Sig:=⟨[.dat I,.dat I,.dat I],[.bool]⟩
def F59 (x:Int×Int×Int×Unit):Option (Bool×Unit):=
  bindK (bif iGe x.1 x.2.1 then some (iLe x.1 x.2.2.1) else some false) fun y0=>
  some (y0,())
abbrev ce59:CE:=.con true sg59 F59
theorem co59:ConOK TT 59 sg59 F59:=con_fn (fn:=inlF XX fn59) (ces:=[]) ents0 hn59 pm59 (by kernel_rfl) rfl rfl (fun x=>by kernel_rfl)
theorem en59:EntOK TT 59 ce59:=ent_fz co59 (by kernel_rfl) rfl rfl rfl
/- spec.l05Rise -/
def hn75:Hints:=[(9,(.sl 1 I),true),(14,(.sl 1 I),true),(26,(.sl 1 I),true),(31,(.sl 1 I),true)]
def pm75:List Nat:=[]
abbrev sg75:Sig:=⟨[.dat (.sl 1 I),.dat I,.dat I],[.bool]⟩
def F75 (x:List Int×Int×Int×Unit):Option (Bool×Unit):=
  loopF (fun rec0 (s1:Int×Unit)=>
  bif iLt s1.1 (lenI x.1) then idxK x.1 s1.1 fun y2=>
  bindK (F59 (y2,x.2)) fun y3=>
  bindK (bif bNot y3.1 then some true else bindK (bif iGt s1.1 0 then idxK x.1 (iSub .i64 s1.1 1) fun y4=>
  idxK x.1 s1.1 fun y5=>
  some (iGe y4 y5) else some false) fun y6=>
  some y6) fun y7=>
  bif y7 then some (false,()) else rec0 (iAdd .i64 s1.1 1,()) else some (true,())) NN (0,())
abbrev ce75:CE:=.con true sg75 F75
theorem co75:ConOK TT 75 sg75 F75:=con_fn (fn:=inlF XX fn75) (ces:=[(59,ce59)]) (ents1 en59 ents0) hn75 pm75 (by kernel_rfl) rfl rfl (fun x=>by kernel_rfl)
theorem en75:EntOK TT 75 ce75:=ent_fz co75 (by kernel_rfl) rfl rfl rfl
/- spec.ConfOk -/
def hn73:Hints:=[(3,(.sl 1 I),true),(7,(.sl 1 I),true)]
def pm73:List Nat:=[]
abbrev sg73:Sig:=⟨[.dat (.sl 1 I)],[.bool]⟩
def F73 (x:List Int×Unit):Option (Bool×Unit):=
  bindK (F59 (lenI x.1,1,4,())) fun y0=>
  bindK (bif y0.1 then bindK (F75 (x.1,1,4,())) fun y1=>
  some y1.1 else some false) fun y2=>
  some (y2,())
abbrev ce73:CE:=.con true sg73 F73
theorem co73:ConOK TT 73 sg73 F73:=con_fn (fn:=inlF XX fn73) (ces:=[(75,ce75),(59,ce59)]) (ents1 en75 (ents1 en59 ents0)) hn73 pm73 (by kernel_rfl) rfl rfl (fun x=>by kernel_rfl)
theorem en73:EntOK TT 73 ce73:=ent_fz co73 (by kernel_rfl) rfl rfl rfl
/- spec.ReadConf -/
def hn23:Hints:=[(2,(.sl 1 I),true),(4,(.sl 1 I),true),(6,(.sl 1 I),true),(17,(.sl 1 I),true),(22,(.sl 1 I),true),(23,(.sl 1 I),true),(24,(.sl 1 I),true),(30,(.sl 1 I),true),(34,(.sl 1 I),true),(35,(.sl 1 I),true)]
def pm23:List Nat:=[]
abbrev sg23:Sig:=⟨[.dat .str],[(.sl 1 I),.bool]⟩
def F23 (x:List UInt8×Unit):Option (List Int×Bool×Unit):=
  loopF (fun rec0 (s1:Int×List Int×Unit)=>
  bindK (bif iLt s1.1 (lenI x.1) then some (iLe s1.1 4) else some false) fun y2=>
  bif y2 then idxK x.1 s1.1 fun y3=>
  guardK (gApp s1.2.1 [iConv .i64 (byteI y3)] 1) <|
  rec0 (iAdd .i64 s1.1 1,cat s1.2.1 [iConv .i64 (byteI y3)],()) else bindK (bif iNe (lenI s1.2.1) (lenI x.1) then some true else bindK (F73 s1.2) fun y4=>
  some (bNot y4.1)) fun y5=>
  bif y5 then some ([],false,()) else some (s1.2.1,true,())) NN (0,[],())
abbrev ce23:CE:=.con false sg23 F23
theorem co23:ConOK TT 23 sg23 F23:=con_fn (fn:=inlF XX fn23) (ces:=[(73,ce73)]) (ents1 en73 ents0) hn23 pm23 (by kernel_rfl) rfl rfl (fun x=>by kernel_rfl)
theorem en23:EntOK TT 23 ce23:=ent_sep co23 (by kernel_rfl) rfl
/- spec.EntryOk -/
def hn21:Hints:=[(3,(.sl 1 I),true),(22,(.sl 1 I),true)]
def pm21:List Nat:=[1]
abbrev sg21:Sig:=⟨[.dat KEntry],[.bool]⟩
def F21 (x:TEntry×Unit):Option (Bool×Unit):=
  bindK (F59 (x.1.1,0,100000,())) fun y0=>
  bif bNot y0.1 then some (false,()) else bif iEq x.1.2.1 1 then some (strEq x.1.2.2.1 (litS []),()) else bif iEq x.1.2.1 2 then bindK (F23 x.1.2.2) fun y1=>
  some y1.2 else bif iEq x.1.2.1 3 then some (iLe (lenI x.1.2.2.1) 120,()) else some (false,())
abbrev ce21:CE:=.con true sg21 F21
theorem co21:ConOK TT 21 sg21 F21:=con_fn (fn:=inlF XX fn21) (ces:=[(59,ce59),(23,ce23)]) (ents1 en59 (ents1 en23 ents0)) hn21 pm21 (by kernel_rfl) rfl rfl (fun x=>by kernel_rfl)
theorem en21:EntOK TT 21 ce21:=ent_fz co21 (by kernel_rfl) rfl rfl rfl
/- spec.LogOk -/
def hn74:Hints:=[(1,KLog,true),(17,(.sl 3 KEntry),true),(25,(.sl 3 KEntry),true),(34,(.sl 3 KEntry),true),(40,(.sl 3 KEntry),true),(48,(.sl 3 KEntry),true),(57,(.sl 3 KEntry),true)]
def pm74:List Nat:=[1]
abbrev sg74:Sig:=⟨[.dat KLog],[.bool]⟩
def F74 (x:TLog×Unit):Option (Bool×Unit):=
  bindK (F59 (x.1.1,0,1000000,())) fun y0=>
  bindK (bif bNot y0.1 then some true else bindK (F59 (x.1.2.1,0,100000,())) fun y1=>
  some (bNot y1.1)) fun y2=>
  bindK (bif y2 then some true else some (iGt (lenI x.1.2.2.1) 60)) fun y3=>
  bindK (bif y3 then some true else some (iGt (iAdd .i64 x.1.1 (lenI x.1.2.2.1)) 1000000)) fun y4=>
  bif y4 then some (false,()) else loopF (fun rec5 (s6:Int×Int×Unit)=>
  bif iLt s6.2.1 (lenI x.1.2.2.1) then idxK x.1.2.2.1 s6.2.1 fun y7=>
  bindK (F21 (y7,())) fun y8=>
  bindK (bif bNot y8.1 then some true else idxK x.1.2.2.1 s6.2.1 fun y9=>
  some (iLt y9.1 s6.1)) fun y10=>
  bif y10 then some (false,()) else idxK x.1.2.2.1 s6.2.1 fun y11=>
  rec5 (y11.1,iAdd .i64 s6.2.1 1,()) else some (true,())) NN (x.1.2.1,0,())
abbrev ce74:CE:=.con true sg74 F74
theorem co74:ConOK TT 74 sg74 F74:=con_fn (fn:=inlF XX fn74) (ces:=[(59,ce59),(21,ce21)]) (ents1 en59 (ents1 en21 ents0)) hn74 pm74 (by kernel_rfl) rfl rfl (fun x=>by kernel_rfl)
theorem en74:EntOK TT 74 ce74:=ent_fz co74 (by kernel_rfl) rfl rfl rfl
/- spec.LogLast -/
def hn63:Hints:=[(1,KLog,true),(6,(.sl 3 KEntry),true),(19,(.sl 3 KEntry),true)]
def pm63:List Nat:=[1]
abbrev sg63:Sig:=⟨[.dat KLog],[I,I]⟩
def F63 (x:TLog×Unit):Option (Int×Int×Unit):=
  bif iEq (lenI x.1.2.2.1) 0 then some (x.1.1,x.1.2.1,()) else idxK x.1.2.2.1 (iSub .i64 (lenI x.1.2.2.1) 1) fun y0=>
  some (iAdd .i64 x.1.1 (lenI x.1.2.2.1),y0.1,())
abbrev ce63:CE:=.con true sg63 F63
theorem co63:ConOK TT 63 sg63 F63:=con_fn (fn:=inlF XX fn63) (ces:=[]) ents0 hn63 pm63 (by kernel_rfl) rfl rfl (fun x=>by kernel_rfl)
theorem en63:EntOK TT 63 ce63:=ent_fz co63 (by kernel_rfl) rfl rfl rfl
/- spec.l16Others -/
def hn30:Hints:=[(4,(.sl 1 I),true),(5,(.sl 1 I),true),(7,(.sl 1 I),true),(9,(.sl 1 I),true),(14,(.sl 1 I),true),(20,(.sl 1 I),true),(21,(.sl 1 I),true),(25,(.sl 1 I),true),(26,(.sl 1 I),true),(27,(.sl 1 I),true)]
def pm30:List Nat:=[]
abbrev sg30:Sig:=⟨[.dat (.sl 1 I),.dat I],[(.sl 1 I)]⟩
def F30 (x:List Int×Int×Unit):Option (List Int×Unit):=
  loopF (fun rec0 (s1:Int×List Int×Unit)=>
  bif iLt s1.1 (lenI x.1) then idxK x.1 s1.1 fun y2=>
  joinK (fun (s3:List Int×Unit)=>
  rec0 (iAdd .i64 s1.1 1,s3)) fun k4=>
  bif iNe y2 x.2.1 then idxK x.1 s1.1 fun y5=>
  guardK (gApp s1.2.1 [y5] 1) <|
  k4 (cat s1.2.1 [y5],()) else k4 s1.2 else some s1.2) NN (0,[],())
abbrev ce30:CE:=.con false sg30 F30
theorem co30:ConOK TT 30 sg30 F30:=con_fn (fn:=inlF XX fn30) (ces:=[]) ents0 hn30 pm30 (by kernel_rfl) rfl rfl (fun x=>by kernel_rfl)
theorem en30:EntOK TT 30 ce30:=ent_sep co30 (by kernel_rfl) rfl
/- spec.ConfAt -/
def hn76:Hints:=[(2,KNode,true),(4,(.sl 1 I),true),(5,(.sl 1 I),true),(7,(.sl 1 I),true),(9,(.sl 1 I),true),(11,(.sl 1 I),true),(12,(.sl 1 I),true),(16,(.sl 3 KEntry),true),(33,(.sl 3 KEntry),true),(42,(.sl 3 KEntry),true),(48,(.sl 1 I),true),(51,(.sl 1 I),true),(52,(.sl 1 I),true)]
def pm76:List Nat:=[2]
abbrev sg76:Sig:=⟨[.dat KNode,.dat I],[(.sl 1 I)]⟩
def F76 (x:TNode×Int×Unit):Option (List Int×Unit):=
  guardK (gApp [] x.1.2.2.2.2.2.1 1) <|
  loopF (fun rec0 (s1:Int×List Int×Unit)=>
  bindK (bif iLt s1.1 (lenI x.1.2.2.2.2.2.2.2.2.1) then some (iLe (iAdd .i64 (iAdd .i64 x.1.2.2.2.2.2.2.1 1) s1.1) x.2.1) else some false) fun y2=>
  bif y2 then idxK x.1.2.2.2.2.2.2.2.2.1 s1.1 fun y3=>
  joinK (fun (s4:List Int×Unit)=>
  rec0 (iAdd .i64 s1.1 1,s4)) fun k5=>
  bif iEq y3.2.1 2 then idxK x.1.2.2.2.2.2.2.2.2.1 s1.1 fun y6=>
  bindK (F23 y6.2.2) fun y7=>
  bif y7.2.1 then k5 (y7.1,()) else k5 s1.2 else k5 s1.2 else some s1.2) NN (0,cat [] x.1.2.2.2.2.2.1,())
abbrev ce76:CE:=.con false sg76 F76
theorem co76:ConOK TT 76 sg76 F76:=con_fn (fn:=inlF XX fn76) (ces:=[(23,ce23)]) (ents1 en23 ents0) hn76 pm76 (by kernel_rfl) rfl rfl (fun x=>by kernel_rfl)
theorem en76:EntOK TT 76 ce76:=ent_sep co76 (by kernel_rfl) rfl
/- spec.ConfOf -/
def hn27:Hints:=[(1,KNode,true),(2,(.sl 1 I),true),(3,KNode,true),(4,(.sl 1 I),true)]
def pm27:List Nat:=[1]
abbrev sg27:Sig:=⟨[.dat KNode],[(.sl 1 I)]⟩
def F27 (x:TNode×Unit):Option (List Int×Unit):=
  bindK (F76 (x.1,1000060,())) fun y0=>
  some y0
abbrev ce27:CE:=.con false sg27 F27
theorem co27:ConOK TT 27 sg27 F27:=con_fn (fn:=inlF XX fn27) (ces:=[(76,ce76)]) (ents1 en76 ents0) hn27 pm27 (by kernel_rfl) rfl rfl (fun x=>by kernel_rfl)
theorem en27:EntOK TT 27 ce27:=ent_sep co27 (by kernel_rfl) rfl
/- spec.NodeOk -/
def hn20:Hints:=[(1,KNode,true),(5,(.sl 1 I),true),(14,(.sl 1 I),true),(20,KLog,true),(50,KLog,true),(82,(.sl 1 I),true),(88,(.sl 1 I),true),(97,(.sl 1 I),true),(101,KNode,true),(102,(.sl 1 I),true),(105,(.sl 1 I),true),(107,(.sl 4 KPeer),true),(109,(.sl 1 I),true),(113,(.sl 1 I),true),(119,(.sl 4 KPeer),true),(125,(.sl 1 I),true)]
def pm20:List Nat:=[7,1]
abbrev sg20:Sig:=⟨[.dat KNode],[.bool]⟩
def F20 (x:TNode×Unit):Option (Bool×Unit):=
  bindK (F59 (x.1.1,1,4,())) fun y0=>
  bindK (bif bNot y0.1 then some true else bindK (F73 (x.1.2.2.2.2.2.1,())) fun y1=>
  some (bNot y1.1)) fun y2=>
  bindK (bif y2 then some true else bindK (F74 ((x.1.2.2.2.2.2.2.1,x.1.2.2.2.2.2.2.2.1,x.1.2.2.2.2.2.2.2.2.1,()),())) fun y3=>
  some (bNot y3.1)) fun y4=>
  bindK (bif y4 then some true else bindK (F59 (x.1.2.1,0,100000,())) fun y5=>
  some (bNot y5.1)) fun y6=>
  bindK (bif y6 then some true else bindK (F59 (x.1.2.2.1,0,4,())) fun y7=>
  some (bNot y7.1)) fun y8=>
  bindK (bif y8 then some true else bindK (F59 (x.1.2.2.2.2.1,0,4,())) fun y9=>
  some (bNot y9.1)) fun y10=>
  bindK (bif y10 then some true else bindK (F59 (x.1.2.2.2.1,0,2,())) fun y11=>
  some (bNot y11.1)) fun y12=>
  bif y12 then some (false,()) else bindK (F63 ((x.1.2.2.2.2.2.2.1,x.1.2.2.2.2.2.2.2.1,x.1.2.2.2.2.2.2.2.2.1,()),())) fun y13=>
  bindK (bif iLt x.1.2.1 y13.2.1 then some true else bindK (F59 (x.1.2.2.2.2.2.2.2.2.2.1,x.1.2.2.2.2.2.2.1,y13.1,())) fun y14=>
  some (bNot y14.1)) fun y15=>
  bindK (bif y15 then some true else bindK (F59 (x.1.2.2.2.2.2.2.2.2.2.2.1,0,20,())) fun y16=>
  some (bNot y16.1)) fun y17=>
  bindK (bif y17 then some true else bindK (F59 (x.1.2.2.2.2.2.2.2.2.2.2.2.1,1,20,())) fun y18=>
  some (bNot y18.1)) fun y19=>
  bindK (bif y19 then some true else bindK (F75 (x.1.2.2.2.2.2.2.2.2.2.2.2.2.1,1,4,())) fun y20=>
  some (bNot y20.1)) fun y21=>
  bindK (bif y21 then some true else bindK (bif iGt (lenI x.1.2.2.2.2.2.2.2.2.2.2.2.2.1) 0 then some (iNe x.1.2.2.2.1 1) else some false) fun y22=>
  some y22) fun y23=>
  bif y23 then some (false,()) else joinK (fun (s24:List Int×Unit)=>
  bif iNe (lenI x.1.2.2.2.2.2.2.2.2.2.2.2.2.2.1) (lenI s24.1) then some (false,()) else loopF (fun rec25 (s26:Int×List Int×Unit)=>
  bif iLt s26.1 (lenI s26.2.1) then idxK x.1.2.2.2.2.2.2.2.2.2.2.2.2.2.1 s26.1 fun y27=>
  idxK s26.2.1 s26.1 fun y28=>
  bindK (bif iNe y27.1 y28 then some true else bindK (F59 (y27.2.1,1,iAdd .i64 y13.1 1,())) fun y29=>
  some (bNot y29.1)) fun y30=>
  bindK (bif y30 then some true else bindK (F59 (y27.2.2.1,0,iSub .i64 y27.2.1 1,())) fun y31=>
  some (bNot y31.1)) fun y32=>
  bindK (bif y32 then some true else bindK (F59 (y27.2.2.2.1,0,20000,())) fun y33=>
  some (bNot y33.1)) fun y34=>
  bif y34 then some (false,()) else rec25 (iAdd .i64 s26.1 1,s26.2) else some (true,())) NN (0,s24)) fun k35=>
  bif iEq x.1.2.2.2.1 2 then bindK (F27 x) fun y36=>
  bindK (F30 (y36.1,x.1.1,())) fun y37=>
  k35 y37 else k35 ([],())
abbrev ce20:CE:=.con true sg20 F20
theorem co20:ConOK TT 20 sg20 F20:=con_fn (fn:=inlF XX fn20) (ces:=[(59,ce59),(74,ce74),(73,ce73),(63,ce63),(75,ce75),(30,ce30),(27,ce27)]) (ents1 en59 (ents1 en74 (ents1 en73 (ents1 en63 (ents1 en75 (ents1 en30 (ents1 en27 ents0))))))) hn20 pm20 (by kernel_rfl) rfl rfl (fun x=>by kernel_rfl)
theorem en20:EntOK TT 20 ce20:=ent_fz co20 (by kernel_rfl) rfl rfl rfl
/- spec.l05In -/
def hn60:Hints:=[(7,(.sl 1 I),true),(12,(.sl 1 I),true)]
def pm60:List Nat:=[]
abbrev sg60:Sig:=⟨[.dat (.sl 1 I),.dat I],[.bool]⟩
def F60 (x:List Int×Int×Unit):Option (Bool×Unit):=
  loopF (fun rec0 (s1:Int×Unit)=>
  bif iLt s1.1 (lenI x.1) then idxK x.1 s1.1 fun y2=>
  bif iEq y2 x.2.1 then some (true,()) else rec0 (iAdd .i64 s1.1 1,()) else some (false,())) NN (0,())
abbrev ce60:CE:=.con true sg60 F60
theorem co60:ConOK TT 60 sg60 F60:=con_fn (fn:=inlF XX fn60) (ces:=[]) ents0 hn60 pm60 (by kernel_rfl) rfl rfl (fun x=>by kernel_rfl)
theorem en60:EntOK TT 60 ce60:=ent_fz co60 (by kernel_rfl) rfl rfl rfl
/- spec.l16Near -/
def hn26:Hints:=[(11,(.sl 1 I),true),(14,(.sl 1 I),true)]
def pm26:List Nat:=[]
abbrev sg26:Sig:=⟨[.dat (.sl 1 I),.dat (.sl 1 I)],[.bool]⟩
def F26 (x:List Int×List Int×Unit):Option (Bool×Unit):=
  loopF (fun rec0 (s1:Int×Int×Unit)=>
  bif iLe s1.1 4 then bindK (F60 (x.1,s1.1,())) fun y2=>
  bindK (F60 (x.2.1,s1.1,())) fun y3=>
  joinK (fun (s4:Int×Unit)=>
  rec0 (iAdd .i64 s1.1 1,s4)) fun k5=>
  bif bNe y2.1 y3.1 then k5 (iAdd .i64 s1.2.1 1,()) else k5 s1.2 else some (iEq s1.2.1 1,())) NN (1,0,())
abbrev ce26:CE:=.con true sg26 F26
theorem co26:ConOK TT 26 sg26 F26:=con_fn (fn:=inlF XX fn26) (ces:=[(60,ce60)]) (ents1 en60 ents0) hn26 pm26 (by kernel_rfl) rfl rfl (fun x=>by kernel_rfl)
theorem en26:EntOK TT 26 ce26:=ent_fz co26 (by kernel_rfl) rfl rfl rfl
/- spec.l16ConfIndex -/
def hn25:Hints:=[(1,KNode,true),(11,(.sl 3 KEntry),true),(18,(.sl 3 KEntry),true)]
def pm25:List Nat:=[1]
abbrev sg25:Sig:=⟨[.dat KNode],[I]⟩
def F25 (x:TNode×Unit):Option (Int×Unit):=
  loopF (fun rec0 (s1:Int×Int×Unit)=>
  bif iLt s1.1 (lenI x.1.2.2.2.2.2.2.2.2.1) then idxK x.1.2.2.2.2.2.2.2.2.1 s1.1 fun y2=>
  joinK (fun (s3:Int×Unit)=>
  rec0 (iAdd .i64 s1.1 1,s3)) fun k4=>
  bif iEq y2.2.1 2 then k4 (iAdd .i64 (iAdd .i64 x.1.2.2.2.2.2.2.1 1) s1.1,()) else k4 s1.2 else some s1.2) NN (0,x.1.2.2.2.2.2.2.1,())
abbrev ce25:CE:=.con true sg25 F25
theorem co25:ConOK TT 25 sg25 F25:=con_fn (fn:=inlF XX fn25) (ces:=[]) ents0 hn25 pm25 (by kernel_rfl) rfl rfl (fun x=>by kernel_rfl)
theorem en25:EntOK TT 25 ce25:=ent_fz co25 (by kernel_rfl) rfl rfl rfl
/- spec.LogTerm -/
def hn24:Hints:=[(2,KLog,true),(17,KLog,true),(22,(.sl 3 KEntry),true)]
def pm24:List Nat:=[2]
abbrev sg24:Sig:=⟨[.dat KLog,.dat I],[I]⟩
def F24 (x:TLog×Int×Unit):Option (Int×Unit):=
  bif iEq x.2.1 x.1.1 then some (x.1.2.1,()) else bindK (bif iLt x.2.1 x.1.1 then some true else bindK (F29 (x.1,())) fun y0=>
  some (iGt x.2.1 y0.1)) fun y1=>
  bif y1 then some ((-1),()) else idxK x.1.2.2.1 (iSub .i64 (iSub .i64 x.2.1 x.1.1) 1) fun y2=>
  some (y2.1,())
abbrev ce24:CE:=.con true sg24 F24
theorem co24:ConOK TT 24 sg24 F24:=con_fn (fn:=inlF XX fn24) (ces:=[(29,ce29)]) (ents1 en29 ents0) hn24 pm24 (by kernel_rfl) rfl rfl (fun x=>by kernel_rfl)
theorem en24:EntOK TT 24 ce24:=ent_fz co24 (by kernel_rfl) rfl rfl rfl
/- spec.l16Copy -/
def hn28:Hints:=[(1,KNode,true),(2,KNode,true),(3,(.sl 1 I),true),(5,(.sl 1 I),true),(6,(.sl 1 I),true),(8,(.sl 3 KEntry),true),(11,(.sl 3 KEntry),true),(12,(.sl 3 KEntry),true),(15,(.sl 1 I),true),(17,(.sl 1 I),true),(18,(.sl 1 I),true),(20,(.sl 4 KPeer),true),(22,(.sl 4 KPeer),true),(23,(.sl 4 KPeer),true),(25,KNode,true)]
def pm28:List Nat:=[]
abbrev sg28:Sig:=⟨[.dat KNode],[KNode]⟩
def F28 (x:TNode×Unit):Option (TNode×Unit):=
  guardK (gApp [] x.1.2.2.2.2.2.1 1) <|
  guardK (gApp [] x.1.2.2.2.2.2.2.2.2.1 3) <|
  guardK (gApp [] x.1.2.2.2.2.2.2.2.2.2.2.2.2.1 1) <|
  guardK (gApp [] x.1.2.2.2.2.2.2.2.2.2.2.2.2.2.1 4) <|
  some ((x.1.1,x.1.2.1,x.1.2.2.1,x.1.2.2.2.1,x.1.2.2.2.2.1,cat [] x.1.2.2.2.2.2.1,x.1.2.2.2.2.2.2.1,x.1.2.2.2.2.2.2.2.1,cat [] x.1.2.2.2.2.2.2.2.2.1,x.1.2.2.2.2.2.2.2.2.2.1,x.1.2.2.2.2.2.2.2.2.2.2.1,x.1.2.2.2.2.2.2.2.2.2.2.2.1,cat [] x.1.2.2.2.2.2.2.2.2.2.2.2.2.1,cat [] x.1.2.2.2.2.2.2.2.2.2.2.2.2.2.1,()),())
abbrev ce28:CE:=.con false sg28 F28
theorem co28:ConOK TT 28 sg28 F28:=con_fn (fn:=inlF XX fn28) (ces:=[]) ents0 hn28 pm28 (by kernel_rfl) rfl rfl (fun x=>by kernel_rfl)
theorem en28:EntOK TT 28 ce28:=ent_sep co28 (by kernel_rfl) rfl
/- spec.Most -/
def hn77:Hints:=[(8,(.sl 1 I),true),(13,(.sl 1 I),true),(14,(.sl 1 I),true),(21,(.sl 1 I),true),(26,(.sl 1 I),true)]
def pm77:List Nat:=[]
abbrev sg77:Sig:=⟨[.dat (.sl 1 I),.dat (.sl 1 I)],[.bool]⟩
def F77 (x:List Int×List Int×Unit):Option (Bool×Unit):=
  loopF (fun rec0 (s1:Int×Int×Unit)=>
  bif iLt s1.1 (lenI x.1) then idxK x.1 s1.1 fun y2=>
  bindK (F60 (x.2.1,y2,())) fun y3=>
  joinK (fun (s4:Int×Unit)=>
  rec0 (iAdd .i64 s1.1 1,s4)) fun k5=>
  bif y3.1 then k5 (iAdd .i64 s1.2.1 1,()) else k5 s1.2 else bindK (F73 (x.1,())) fun y6=>
  bindK (bif y6.1 then some (iGt (iMul .i64 2 s1.2.1) (lenI x.1)) else some false) fun y7=>
  some (y7,())) NN (0,0,())
abbrev ce77:CE:=.con true sg77 F77
theorem co77:ConOK TT 77 sg77 F77:=con_fn (fn:=inlF XX fn77) (ces:=[(60,ce60),(73,ce73)]) (ents1 en60 (ents1 en73 ents0)) hn77 pm77 (by kernel_rfl) rfl rfl (fun x=>by kernel_rfl)
theorem en77:EntOK TT 77 ce77:=ent_fz co77 (by kernel_rfl) rfl rfl rfl
/- spec.l16Follow -/
def hn78:Hints:=[(4,KCore,true),(8,KCore,true),(13,KCore,true),(14,(.sl 1 I),true),(18,KCore,true),(19,(.sl 4 KPeer),true),(1000000,KCore,true)]
def pm78:List Nat:=[]
abbrev sg78:Sig:=⟨[.cell KCore,.dat I],[]⟩
def F78 (x:TCore×Int×Unit):Option (TCore×Unit):=
  some ((x.1.1,x.1.2.1,x.1.2.2.1,0,x.2.1,x.1.2.2.2.2.2.1,x.1.2.2.2.2.2.2.1,x.1.2.2.2.2.2.2.2.1,x.1.2.2.2.2.2.2.2.2.1,x.1.2.2.2.2.2.2.2.2.2.1,x.1.2.2.2.2.2.2.2.2.2.2.1,x.1.2.2.2.2.2.2.2.2.2.2.2.1,[],[],x.1.2.2.2.2.2.2.2.2.2.2.2.2.2.2),())
abbrev ce78:CE:=.con false sg78 F78
theorem co78:ConOK TT 78 sg78 F78:=con_fn (fn:=inlF XX fn78) (ces:=[]) ents0 hn78 pm78 (by kernel_rfl) rfl rfl (fun x=>by kernel_rfl)
theorem en78:EntOK TT 78 ce78:=ent_sep co78 (by kernel_rfl) rfl
/- spec.l16Commit -/
def hn31:Hints:=[(2,(.sl 1 I),true),(5,(.sl 1 I),true),(7,KCore,true),(10,KNode,true),(11,(.sl 1 I),true),(12,KCore,true),(16,KLog,true),(20,KCore,true),(28,KCore,true),(33,(.sl 1 I),true),(35,KCore,true),(39,(.sl 4 KPeer),true),(44,KCore,true),(48,(.sl 4 KPeer),true),(55,(.sl 1 I),true),(56,KCore,true),(60,(.sl 4 KPeer),true),(65,(.sl 1 I),true),(66,(.sl 1 I),true),(67,KCore,true),(71,KLog,true),(74,KCore,true),(81,(.sl 1 I),true),(82,(.sl 1 I),true),(85,KCore,true),(90,KCore,true),(97,(.sl 1 I),true),(98,KCore,true),(107,KCore,true),(110,KNode,true),(112,KCore,true),(119,KCore,true),(1000000,KCore,true)]
def pm31:List Nat:=[]
abbrev sg31:Sig:=⟨[.cell KCore],[]⟩
def F31 (x:TCore×Unit):Option (TCore×Unit):=
  bindK (F27 ((x.1.1,x.1.2.1,x.1.2.2.1,x.1.2.2.2.1,x.1.2.2.2.2.1,x.1.2.2.2.2.2.1,x.1.2.2.2.2.2.2.1,x.1.2.2.2.2.2.2.2.1,x.1.2.2.2.2.2.2.2.2.1,x.1.2.2.2.2.2.2.2.2.2.1,x.1.2.2.2.2.2.2.2.2.2.2.1,x.1.2.2.2.2.2.2.2.2.2.2.2.1,x.1.2.2.2.2.2.2.2.2.2.2.2.2.1,x.1.2.2.2.2.2.2.2.2.2.2.2.2.2.1,()),())) fun y0=>
  bindK (F29 ((x.1.2.2.2.2.2.2.1,x.1.2.2.2.2.2.2.2.1,x.1.2.2.2.2.2.2.2.2.1,()),())) fun y1=>
  loopF (fun rec2 (s3:Int×TCore×List Int×Unit)=>
  bif iGt s3.1 s3.2.1.2.2.2.2.2.2.2.2.2.1 then loopF (fun rec4 (s5:Int×TCore×List Int×List Int×Unit)=>
  bif iLt s5.1 (lenI s5.2.1.2.2.2.2.2.2.2.2.2.2.2.2.2.1) then idxK s5.2.1.2.2.2.2.2.2.2.2.2.2.2.2.2.1 s5.1 fun y6=>
  joinK (fun (s7:TCore×List Int×List Int×Unit)=>
  rec4 (iAdd .i64 s5.1 1,s7)) fun k8=>
  bif iGe y6.2.2.1 s3.1 then idxK s5.2.1.2.2.2.2.2.2.2.2.2.2.2.2.2.1 s5.1 fun y9=>
  guardK (gApp s5.2.2.1 [y9.1] 1) <|
  k8 (s5.2.1,cat s5.2.2.1 [y9.1],s5.2.2.2) else k8 s5.2 else bindK (F24 ((s5.2.1.2.2.2.2.2.2.1,s5.2.1.2.2.2.2.2.2.2.1,s5.2.1.2.2.2.2.2.2.2.2.1,()),s3.1,())) fun y10=>
  bindK (bif iEq y10.1 s5.2.1.2.1 then bindK (F77 (s5.2.2.2.1,s5.2.2.1,())) fun y11=>
  some y11.1 else some false) fun y12=>
  joinK (fun (s13:TCore×List Int×Unit)=>
  rec2 (iSub .i64 s3.1 1,s13)) fun k14=>
  bif y12 then k14 ((s5.2.1.1,s5.2.1.2.1,s5.2.1.2.2.1,s5.2.1.2.2.2.1,s5.2.1.2.2.2.2.1,s5.2.1.2.2.2.2.2.1,s5.2.1.2.2.2.2.2.2.1,s5.2.1.2.2.2.2.2.2.2.1,s5.2.1.2.2.2.2.2.2.2.2.1,s3.1,s5.2.1.2.2.2.2.2.2.2.2.2.2),s5.2.2.2) else k14 (s5.2.1,s5.2.2.2)) NN (0,s3.2.1,[s3.2.1.1],s3.2.2) else bindK (bif iEq s3.2.1.2.2.2.1 2 then bindK (F60 (s3.2.2.1,s3.2.1.1,())) fun y15=>
  some (bNot y15.1) else some false) fun y16=>
  bindK (bif y16 then bindK (F25 ((s3.2.1.1,s3.2.1.2.1,s3.2.1.2.2.1,s3.2.1.2.2.2.1,s3.2.1.2.2.2.2.1,s3.2.1.2.2.2.2.2.1,s3.2.1.2.2.2.2.2.2.1,s3.2.1.2.2.2.2.2.2.2.1,s3.2.1.2.2.2.2.2.2.2.2.1,s3.2.1.2.2.2.2.2.2.2.2.2.1,s3.2.1.2.2.2.2.2.2.2.2.2.2.1,s3.2.1.2.2.2.2.2.2.2.2.2.2.2.1,s3.2.1.2.2.2.2.2.2.2.2.2.2.2.2.1,s3.2.1.2.2.2.2.2.2.2.2.2.2.2.2.2.1,()),())) fun y17=>
  some (iLe y17.1 s3.2.1.2.2.2.2.2.2.2.2.2.1) else some false) fun y18=>
  bif y18 then bindK (F78 (s3.2.1,0,())) fun y19=>
  some y19 else some (s3.2.1,())) NN (y1.1,x.1,y0)
abbrev ce31:CE:=.con false sg31 F31
theorem co31:ConOK TT 31 sg31 F31:=con_fn (fn:=inlF XX fn31) (ces:=[(27,ce27),(29,ce29),(77,ce77),(24,ce24),(25,ce25),(60,ce60),(78,ce78)]) (ents1 en27 (ents1 en29 (ents1 en77 (ents1 en24 (ents1 en25 (ents1 en60 (ents1 en78 ents0))))))) hn31 pm31 (by kernel_rfl) rfl rfl (fun x=>by kernel_rfl)
theorem en31:EntOK TT 31 ce31:=ent_sep co31 (by kernel_rfl) rfl
/- spec.l16Tell -/
def hn64:Hints:=[(3,KMessage,true),(4,KCore,true),(10,KCore,true),(16,KCore,true),(17,KCore,true),(20,(.sl 12 KMessage),true),(21,KMessage,true),(22,(.sl 12 KMessage),true),(23,(.sl 12 KMessage),true),(1000000,KCore,true)]
def pm64:List Nat:=[]
abbrev sg64:Sig:=⟨[.cell KCore,.own KMessage],[]⟩
def F64 (x:TCore×TMessage×Unit):Option (TCore×Unit):=
  guardK (gApp x.1.2.2.2.2.2.2.2.2.2.2.2.2.2.2.1 [(x.2.1.1,x.1.1,x.2.1.2.2.1,x.1.2.1,x.2.1.2.2.2.2)] 12) <|
  some ((x.1.1,x.1.2.1,x.1.2.2.1,x.1.2.2.2.1,x.1.2.2.2.2.1,x.1.2.2.2.2.2.1,x.1.2.2.2.2.2.2.1,x.1.2.2.2.2.2.2.2.1,x.1.2.2.2.2.2.2.2.2.1,x.1.2.2.2.2.2.2.2.2.2.1,x.1.2.2.2.2.2.2.2.2.2.2.1,x.1.2.2.2.2.2.2.2.2.2.2.2.1,x.1.2.2.2.2.2.2.2.2.2.2.2.2.1,x.1.2.2.2.2.2.2.2.2.2.2.2.2.2.1,cat x.1.2.2.2.2.2.2.2.2.2.2.2.2.2.2.1 [(x.2.1.1,x.1.1,x.2.1.2.2.1,x.1.2.1,x.2.1.2.2.2.2)],()),())
abbrev ce64:CE:=.con false sg64 F64
theorem co64:ConOK TT 64 sg64 F64:=con_fn (fn:=inlF XX fn64) (ces:=[]) ents0 hn64 pm64 (by kernel_rfl) rfl rfl (fun x=>by kernel_rfl)
theorem en64:EntOK TT 64 ce64:=ent_sep co64 (by kernel_rfl) rfl
/- spec.l16Send -/
def hn79:Hints:=[(4,KLog,true),(5,KMessage,true),(7,KCore,true),(11,KLog,true),(17,KCore,true),(24,(.sl 1 I),true),(25,KCore,true),(29,(.sl 1 I),true),(30,(.sl 1 I),true),(33,KMessage,true),(40,KLog,true),(45,KCore,true),(50,KMessage,true),(59,(.sl 3 KEntry),true),(64,(.sl 3 KEntry),true),(71,(.sl 3 KEntry),true),(73,(.sl 3 KEntry),true),(77,(.sl 3 KEntry),true),(78,(.sl 3 KEntry),true),(80,KCore,true),(81,KMessage,true),(1000000,KCore,true)]
def pm79:List Nat:=[3,4]
abbrev sg79:Sig:=⟨[.cell KCore,.dat KPeer],[]⟩
def F79 (x:TCore×TPeer×Unit):Option (TCore×Unit):=
  bif iLe x.2.1.2.1 x.1.2.2.2.2.2.2.1 then guardK (gApp [] x.1.2.2.2.2.2.1 1) <|
  bindK (F64 (x.1,(5,0,x.2.1.1,0,x.1.2.2.2.2.2.2.1,x.1.2.2.2.2.2.2.2.1,x.2.1.2.2.2.1,false,[],cat [] x.1.2.2.2.2.2.1,litS [],false,()),())) fun y0=>
  some y0 else bindK (F24 ((x.1.2.2.2.2.2.2.1,x.1.2.2.2.2.2.2.2.1,x.1.2.2.2.2.2.2.2.2.1,()),iSub .i64 x.2.1.2.1 1,())) fun y1=>
  loopF (fun rec2 (s3:Int×TCore×TLog×TMessage×Unit)=>
  bindK (bif iLt s3.1 (lenI s3.2.1.2.2.2.2.2.2.2.2.1) then some (iLt (lenI s3.2.2.2.1.2.2.2.2.2.2.2.2.1) 4) else some false) fun y4=>
  bif y4 then idxK s3.2.1.2.2.2.2.2.2.2.2.1 s3.1 fun y5=>
  guardK (gApp s3.2.2.2.1.2.2.2.2.2.2.2.2.1 [y5] 3) <|
  rec2 (iAdd .i64 s3.1 1,s3.2.1,(s3.2.2.1.1,s3.2.2.1.2.1,s3.2.1.2.2.2.2.2.2.2.2.1,()),(s3.2.2.2.1.1,s3.2.2.2.1.2.1,s3.2.2.2.1.2.2.1,s3.2.2.2.1.2.2.2.1,s3.2.2.2.1.2.2.2.2.1,s3.2.2.2.1.2.2.2.2.2.1,s3.2.2.2.1.2.2.2.2.2.2.1,s3.2.2.2.1.2.2.2.2.2.2.2.1,cat s3.2.2.2.1.2.2.2.2.2.2.2.2.1 [y5],s3.2.2.2.1.2.2.2.2.2.2.2.2.2),()) else bindK (F64 (s3.2.1,s3.2.2.2)) fun y6=>
  some y6) NN (iSub .i64 (iSub .i64 x.2.1.2.1 x.1.2.2.2.2.2.2.1) 1,x.1,(x.1.2.2.2.2.2.2.1,x.1.2.2.2.2.2.2.2.1,x.1.2.2.2.2.2.2.2.2.1,()),(3,0,x.2.1.1,0,iSub .i64 x.2.1.2.1 1,y1.1,x.1.2.2.2.2.2.2.2.2.2.1,false,[],[],litS [],false,()),())
abbrev ce79:CE:=.con false sg79 F79
theorem co79:ConOK TT 79 sg79 F79:=con_fn (fn:=inlF XX fn79) (ces:=[(64,ce64),(24,ce24)]) (ents1 en64 (ents1 en24 ents0)) hn79 pm79 (by kernel_rfl) rfl rfl (fun x=>by kernel_rfl)
theorem en79:EntOK TT 79 ce79:=ent_sep co79 (by kernel_rfl) rfl
/- spec.l16SendAll -/
def hn32:Hints:=[(4,KCore,true),(8,(.sl 4 KPeer),true),(13,KCore,true),(14,KCore,true),(18,(.sl 4 KPeer),true),(1000000,KCore,true)]
def pm32:List Nat:=[]
abbrev sg32:Sig:=⟨[.cell KCore],[]⟩
def F32 (x:TCore×Unit):Option (TCore×Unit):=
  loopF (fun rec0 (s1:Int×TCore×Unit)=>
  bif iLt s1.1 (lenI s1.2.1.2.2.2.2.2.2.2.2.2.2.2.2.2.1) then idxK s1.2.1.2.2.2.2.2.2.2.2.2.2.2.2.2.1 s1.1 fun y2=>
  bindK (F79 (s1.2.1,y2,())) fun y3=>
  rec0 (iAdd .i64 s1.1 1,y3) else some s1.2) NN (0,x)
abbrev ce32:CE:=.con false sg32 F32
theorem co32:ConOK TT 32 sg32 F32:=con_fn (fn:=inlF XX fn32) (ces:=[(79,ce79)]) (ents1 en79 ents0) hn32 pm32 (by kernel_rfl) rfl rfl (fun x=>by kernel_rfl)
theorem en32:EntOK TT 32 ce32:=ent_sep co32 (by kernel_rfl) rfl
/- spec.Propose -/
def hn6:Hints:=[(3,KNode,true),(6,KNode,true),(7,(.sl 12 KMessage),true),(11,(.sl 1 I),true),(13,KCore,true),(15,(.sl 1 I),true),(16,(.sl 4 KPeer),true),(25,KNode,true),(39,KNode,true),(43,KNode,true),(44,(.sl 12 KMessage),true),(50,(.sl 1 I),true),(53,KLog,true),(61,KNode,true),(68,KNode,true),(69,(.sl 1 I),true),(70,(.sl 1 I),true),(74,KNode,true),(75,(.sl 12 KMessage),true),(76,KNode,true),(77,KNode,true),(78,KCore,true),(79,KCore,true),(81,KLog,true),(84,KCore,true),(85,KCore,true),(90,(.sl 3 KEntry),true),(92,(.sl 3 KEntry),true),(93,(.sl 3 KEntry),true),(98,KCore,true),(101,KNode,true),(102,(.sl 1 I),true),(105,(.sl 1 I),true),(106,(.sl 4 KPeer),true),(108,(.sl 1 I),true),(113,(.sl 1 I),true),(121,(.sl 4 KPeer),true),(127,(.sl 4 KPeer),true),(132,(.sl 1 I),true),(138,(.sl 4 KPeer),true),(142,(.sl 4 KPeer),true),(144,(.sl 4 KPeer),true),(145,(.sl 4 KPeer),true),(146,KCore,true),(147,(.sl 4 KPeer),true),(151,KCore,true),(153,KCore,true),(155,KCore,true),(158,KNode,true),(159,KCore,true),(162,(.sl 12 KMessage),true)]
def pm6:List Nat:=[3,10]
abbrev sg6:Sig:=⟨[.dat KNode,.dat I,.dat .str],[KNode,(.sl 12 KMessage),I,.bool]⟩
def F6 (x:TNode×Int×List UInt8×Unit):Option (TNode×List TMessage×Int×Bool×Unit):=
  bindK (F20 (x.1,())) fun y0=>
  bindK (bif bNot y0.1 then some true else some (iNe x.1.2.2.2.1 2)) fun y1=>
  bindK (bif y1 then some true else bindK (F21 ((x.1.2.1,x.2),())) fun y2=>
  some (bNot y2.1)) fun y3=>
  bindK (bif y3 then some true else bindK (F22 (x.1,())) fun y4=>
  some (bNot y4.1)) fun y5=>
  bif y5 then some ((0,0,0,0,0,[],0,0,[],0,0,0,[],[],()),[],0,false,()) else joinK (fun (s6:TNode×Unit)=>
  bindK (F28 (x.1,())) fun y7=>
  bindK (F29 ((x.1.2.2.2.2.2.2.1,x.1.2.2.2.2.2.2.2.1,x.1.2.2.2.2.2.2.2.2.1,()),())) fun y8=>
  guardK (gApp y7.1.2.2.2.2.2.2.2.2.1 [(x.1.2.1,x.2)] 3) <|
  bindK (F27 ((y7.1.1,y7.1.2.1,y7.1.2.2.1,y7.1.2.2.2.1,y7.1.2.2.2.2.1,y7.1.2.2.2.2.2.1,y7.1.2.2.2.2.2.2.1,y7.1.2.2.2.2.2.2.2.1,cat y7.1.2.2.2.2.2.2.2.2.1 [(x.1.2.1,x.2)],y7.1.2.2.2.2.2.2.2.2.2),())) fun y9=>
  bindK (F30 (y9.1,x.1.1,())) fun y10=>
  loopF (fun rec11 (s12:Int×TCore×TNode×List Int×List TPeer×Unit)=>
  bif iLt s12.1 (lenI s12.2.2.2.1) then idxK s12.2.2.2.1 s12.1 fun y13=>
  loopF (fun rec14 (s15:Int×TPeer×TCore×TNode×List TPeer×List Int×Unit)=>
  bif iLt s15.1 (lenI x.1.2.2.2.2.2.2.2.2.2.2.2.2.2.1) then idxK x.1.2.2.2.2.2.2.2.2.2.2.2.2.2.1 s15.1 fun y16=>
  idxK s15.2.2.2.2.2.1 s12.1 fun y17=>
  joinK (fun (s18:TPeer×TCore×TNode×List TPeer×List Int×Unit)=>
  rec14 (iAdd .i64 s15.1 1,s18)) fun k19=>
  bif iEq y16.1 y17 then idxK x.1.2.2.2.2.2.2.2.2.2.2.2.2.2.1 s15.1 fun y20=>
  k19 (y20,s15.2.2) else k19 s15.2 else guardK (gApp s15.2.2.2.2.1 [s15.2.1] 4) <|
  rec11 (iAdd .i64 s12.1 1,s15.2.2.1,s15.2.2.2.1,s15.2.2.2.2.2.1,cat s15.2.2.2.2.1 [s15.2.1],())) NN (0,(y13,iAdd .i64 y8.1 1,0,0,()),s12.2.1,s12.2.2.1,s12.2.2.2.2.1,s12.2.2.2.1,()) else bindK (F31 ((s12.2.1.1,s12.2.1.2.1,s12.2.1.2.2.1,s12.2.1.2.2.2.1,s12.2.1.2.2.2.2.1,s12.2.1.2.2.2.2.2.1,s12.2.1.2.2.2.2.2.2.1,s12.2.1.2.2.2.2.2.2.2.1,s12.2.1.2.2.2.2.2.2.2.2.1,s12.2.1.2.2.2.2.2.2.2.2.2.1,s12.2.1.2.2.2.2.2.2.2.2.2.2.1,s12.2.1.2.2.2.2.2.2.2.2.2.2.2.1,s12.2.1.2.2.2.2.2.2.2.2.2.2.2.2.1,s12.2.2.2.2.1,s12.2.1.2.2.2.2.2.2.2.2.2.2.2.2.2.2),())) fun y21=>
  bindK (F32 y21) fun y22=>
  some ((y22.1.1,y22.1.2.1,y22.1.2.2.1,y22.1.2.2.2.1,y22.1.2.2.2.2.1,y22.1.2.2.2.2.2.1,y22.1.2.2.2.2.2.2.1,y22.1.2.2.2.2.2.2.2.1,y22.1.2.2.2.2.2.2.2.2.1,y22.1.2.2.2.2.2.2.2.2.2.1,y22.1.2.2.2.2.2.2.2.2.2.2.1,y22.1.2.2.2.2.2.2.2.2.2.2.2.1,y22.1.2.2.2.2.2.2.2.2.2.2.2.2.1,y22.1.2.2.2.2.2.2.2.2.2.2.2.2.2.1,()),y22.1.2.2.2.2.2.2.2.2.2.2.2.2.2.2.1,iAdd .i64 y8.1 1,true,())) NN (0,(y7.1.1,y7.1.2.1,y7.1.2.2.1,y7.1.2.2.2.1,y7.1.2.2.2.2.1,y7.1.2.2.2.2.2.1,y7.1.2.2.2.2.2.2.1,y7.1.2.2.2.2.2.2.2.1,cat y7.1.2.2.2.2.2.2.2.2.1 [(x.1.2.1,x.2)],y7.1.2.2.2.2.2.2.2.2.2.1,y7.1.2.2.2.2.2.2.2.2.2.2.1,y7.1.2.2.2.2.2.2.2.2.2.2.2.1,y7.1.2.2.2.2.2.2.2.2.2.2.2.2.1,y7.1.2.2.2.2.2.2.2.2.2.2.2.2.2.1,[],()),s6.1,y10.1,[],())) fun k23=>
  bif iEq x.2.1 2 then bindK (F23 x.2.2) fun y24=>
  bindK (F24 ((x.1.2.2.2.2.2.2.1,x.1.2.2.2.2.2.2.2.1,x.1.2.2.2.2.2.2.2.2.1,()),x.1.2.2.2.2.2.2.2.2.2.1,())) fun y25=>
  bindK (bif iNe y25.1 x.1.2.1 then some true else bindK (F25 (x.1,())) fun y26=>
  some (iGt y26.1 x.1.2.2.2.2.2.2.2.2.2.1)) fun y27=>
  bindK (bif y27 then some true else bindK (F27 (x.1,())) fun y28=>
  bindK (F26 (y28.1,y24.1,())) fun y29=>
  some (bNot y29.1)) fun y30=>
  bif y30 then some ((0,0,0,0,0,[],0,0,[],0,0,0,[],[],()),[],0,false,()) else k23 ((0,0,0,0,0,[],0,0,[],0,0,0,[],[],()),()) else k23 ((0,0,0,0,0,[],0,0,[],0,0,0,[],[],()),())
abbrev ce6:CE:=.con false sg6 F6
theorem co6:ConOK TT 6 sg6 F6:=con_fn (fn:=inlF XX fn6) (ces:=[(22,ce22),(21,ce21),(20,ce20),(23,ce23),(26,ce26),(27,ce27),(25,ce25),(24,ce24),(28,ce28),(29,ce29),(30,ce30),(31,ce31),(32,ce32)]) (ents1 en22 (ents1 en21 (ents1 en20 (ents1 en23 (ents1 en26 (ents1 en27 (ents1 en25 (ents1 en24 (ents1 en28 (ents1 en29 (ents1 en30 (ents1 en31 (ents1 en32 ents0))))))))))))) hn6 pm6 (by kernel_rfl) rfl rfl (fun x=>by kernel_rfl)
theorem en6:EntOK TT 6 ce6:=ent_sep co6 (by kernel_rfl) rfl
/- laws.toIntS -/
def hn33:Hints:=[(2,(.sl 1 I),true),(3,(.sl 1 I),true),(5,(.sl 1 I),true),(7,(.sl 1 I),true),(9,(.sl 1 I),true),(14,(.sl 1 I),true),(16,(.sl 1 I),true),(21,(.sl 1 I),true)]
def pm33:List Nat:=[]
abbrev sg33:Sig:=⟨[.dat (.sl 1 I)],[(.sl 1 I)]⟩
def F33 (x:List Int×Unit):Option (List Int×Unit):=
  guardK (gMk (lenI x.1) 1) <|
  loopF (fun rec0 (s1:Int×List Int×Unit)=>
  bif iLt s1.1 (lenI x.1) then idxK x.1 s1.1 fun y2=>
  idxK s1.2.1 s1.1 fun y3=>
  rec0 (iAdd .i64 s1.1 1,setL s1.2.1 (toN s1.1) y2,()) else some s1.2) NN (0,repL (toN (lenI x.1)) 0,())
abbrev ce33:CE:=.con false sg33 F33
theorem co33:ConOK TT 33 sg33 F33:=con_fn (fn:=inlF XX fn33) (ces:=[]) ents0 hn33 pm33 (by kernel_rfl) rfl rfl (fun x=>by kernel_rfl)
theorem en33:EntOK TT 33 ce33:=ent_sep co33 (by kernel_rfl) rfl
/- laws.toEntry -/
def hn99:Hints:=[]
def pm99:List Nat:=[1]
abbrev sg99:Sig:=⟨[.dat KEntry],[KEntry]⟩
def F99 (x:TEntry×Unit):Option (TEntry×Unit):=
  some x
abbrev ce99:CE:=.con true sg99 F99
theorem co99:ConOK TT 99 sg99 F99:=con_fn (fn:=inlF XX fn99) (ces:=[]) ents0 hn99 pm99 (by kernel_rfl) rfl rfl (fun x=>by kernel_rfl)
theorem en99:EntOK TT 99 ce99:=ent_fz co99 (by kernel_rfl) rfl rfl rfl
/- laws.toEntryS -/
def hn80:Hints:=[(2,(.sl 3 KEntry),true),(3,(.sl 3 KEntry),true),(5,(.sl 3 KEntry),true),(7,(.sl 3 KEntry),true),(9,(.sl 3 KEntry),true),(14,(.sl 3 KEntry),true),(16,(.sl 3 KEntry),true),(22,(.sl 3 KEntry),true)]
def pm80:List Nat:=[]
abbrev sg80:Sig:=⟨[.dat (.sl 3 KEntry)],[(.sl 3 KEntry)]⟩
def F80 (x:List TEntry×Unit):Option (List TEntry×Unit):=
  guardK (gMk (lenI x.1) 3) <|
  loopF (fun rec0 (s1:Int×List TEntry×Unit)=>
  bif iLt s1.1 (lenI x.1) then idxK x.1 s1.1 fun y2=>
  bindK (F99 (y2,())) fun y3=>
  idxK s1.2.1 s1.1 fun y4=>
  rec0 (iAdd .i64 s1.1 1,setL s1.2.1 (toN s1.1) y3.1,()) else some s1.2) NN (0,repL (toN (lenI x.1)) (0,0,litS [],()),())
abbrev ce80:CE:=.con false sg80 F80
theorem co80:ConOK TT 80 sg80 F80:=con_fn (fn:=inlF XX fn80) (ces:=[(99,ce99)]) (ents1 en99 ents0) hn80 pm80 (by kernel_rfl) rfl rfl (fun x=>by kernel_rfl)
theorem en80:EntOK TT 80 ce80:=ent_sep co80 (by kernel_rfl) rfl
/- laws.toLog -/
def hn34:Hints:=[(1,KLog,true),(2,KLog,true),(3,KLog,true),(11,(.sl 3 KEntry),true),(12,(.sl 3 KEntry),true),(14,KLog,true)]
def pm34:List Nat:=[1]
abbrev sg34:Sig:=⟨[.dat KLog],[KLog]⟩
def F34 (x:TLog×Unit):Option (TLog×Unit):=
  bindK (F80 x.1.2.2) fun y0=>
  some ((x.1.1,x.1.2.1,y0),())
abbrev ce34:CE:=.con false sg34 F34
theorem co34:ConOK TT 34 sg34 F34:=con_fn (fn:=inlF XX fn34) (ces:=[(80,ce80)]) (ents1 en80 ents0) hn34 pm34 (by kernel_rfl) rfl rfl (fun x=>by kernel_rfl)
theorem en34:EntOK TT 34 ce34:=ent_sep co34 (by kernel_rfl) rfl
/- laws.toPeer -/
def hn81:Hints:=[]
def pm81:List Nat:=[1]
abbrev sg81:Sig:=⟨[.dat KPeer],[KPeer]⟩
def F81 (x:TPeer×Unit):Option (TPeer×Unit):=
  some x
abbrev ce81:CE:=.con true sg81 F81
theorem co81:ConOK TT 81 sg81 F81:=con_fn (fn:=inlF XX fn81) (ces:=[]) ents0 hn81 pm81 (by kernel_rfl) rfl rfl (fun x=>by kernel_rfl)
theorem en81:EntOK TT 81 ce81:=ent_fz co81 (by kernel_rfl) rfl rfl rfl
/- laws.toPeerS -/
def hn35:Hints:=[(2,(.sl 4 KPeer),true),(3,(.sl 4 KPeer),true),(5,(.sl 4 KPeer),true),(7,(.sl 4 KPeer),true),(9,(.sl 4 KPeer),true),(14,(.sl 4 KPeer),true),(16,(.sl 4 KPeer),true),(22,(.sl 4 KPeer),true)]
def pm35:List Nat:=[]
abbrev sg35:Sig:=⟨[.dat (.sl 4 KPeer)],[(.sl 4 KPeer)]⟩
def F35 (x:List TPeer×Unit):Option (List TPeer×Unit):=
  guardK (gMk (lenI x.1) 4) <|
  loopF (fun rec0 (s1:Int×List TPeer×Unit)=>
  bif iLt s1.1 (lenI x.1) then idxK x.1 s1.1 fun y2=>
  bindK (F81 (y2,())) fun y3=>
  idxK s1.2.1 s1.1 fun y4=>
  rec0 (iAdd .i64 s1.1 1,setL s1.2.1 (toN s1.1) y3.1,()) else some s1.2) NN (0,repL (toN (lenI x.1)) (0,0,0,0,()),())
abbrev ce35:CE:=.con false sg35 F35
theorem co35:ConOK TT 35 sg35 F35:=con_fn (fn:=inlF XX fn35) (ces:=[(81,ce81)]) (ents1 en81 ents0) hn35 pm35 (by kernel_rfl) rfl rfl (fun x=>by kernel_rfl)
theorem en35:EntOK TT 35 ce35:=ent_sep co35 (by kernel_rfl) rfl
/- laws.toNode -/
def hn7:Hints:=[(1,KNode,true),(2,KNode,true),(3,KNode,true),(20,(.sl 1 I),true),(21,(.sl 1 I),true),(24,KLog,true),(25,KLog,true),(37,(.sl 1 I),true),(38,(.sl 1 I),true),(41,(.sl 4 KPeer),true),(42,(.sl 4 KPeer),true),(44,KNode,true)]
def pm7:List Nat:=[1]
abbrev sg7:Sig:=⟨[.dat KNode],[KNode]⟩
def F7 (x:TNode×Unit):Option (TNode×Unit):=
  bindK (F33 (x.1.2.2.2.2.2.1,())) fun y0=>
  bindK (F34 ((x.1.2.2.2.2.2.2.1,x.1.2.2.2.2.2.2.2.1,x.1.2.2.2.2.2.2.2.2.1,()),())) fun y1=>
  bindK (F33 (x.1.2.2.2.2.2.2.2.2.2.2.2.2.1,())) fun y2=>
  bindK (F35 x.1.2.2.2.2.2.2.2.2.2.2.2.2.2) fun y3=>
  some ((x.1.1,x.1.2.1,x.1.2.2.1,x.1.2.2.2.1,x.1.2.2.2.2.1,y0.1,y1.1.1,y1.1.2.1,y1.1.2.2.1,x.1.2.2.2.2.2.2.2.2.2.1,x.1.2.2.2.2.2.2.2.2.2.2.1,x.1.2.2.2.2.2.2.2.2.2.2.2.1,y2.1,y3),())
abbrev ce7:CE:=.con false sg7 F7
theorem co7:ConOK TT 7 sg7 F7:=con_fn (fn:=inlF XX fn7) (ces:=[(33,ce33),(34,ce34),(35,ce35)]) (ents1 en33 (ents1 en34 (ents1 en35 ents0))) hn7 pm7 (by kernel_rfl) rfl rfl (fun x=>by kernel_rfl)
theorem en7:EntOK TT 7 ce7:=ent_sep co7 (by kernel_rfl) rfl
/- impl.last -/
def hn37:Hints:=[(1,KLog,true),(6,(.sl 3 KEntry),true)]
def pm37:List Nat:=[1]
abbrev sg37:Sig:=⟨[.dat KLog],[I]⟩
def F37 (x:TLog×Unit):Option (Int×Unit):=
  some (iAdd .i64 x.1.1 (lenI x.1.2.2.1),())
abbrev ce37:CE:=.con true sg37 F37
theorem co37:ConOK TT 37 sg37 F37:=con_fn (fn:=inlF XX fn37) (ces:=[]) ents0 hn37 pm37 (by kernel_rfl) rfl rfl (fun x=>by kernel_rfl)
theorem en37:EntOK TT 37 ce37:=ent_fz co37 (by kernel_rfl) rfl rfl rfl
/- impl.within -/
def hn65:Hints:=[]
def pm65:List Nat:=[]
abbrev sg65:Sig:=⟨[.dat I,.dat I,.dat I],[.bool]⟩
def F65 (x:Int×Int×Int×Unit):Option (Bool×Unit):=
  bindK (bif iGe x.1 x.2.1 then some (iLe x.1 x.2.2.1) else some false) fun y0=>
  some (y0,())
abbrev ce65:CE:=.con true sg65 F65
theorem co65:ConOK TT 65 sg65 F65:=con_fn (fn:=inlF XX fn65) (ces:=[]) ents0 hn65 pm65 (by kernel_rfl) rfl rfl (fun x=>by kernel_rfl)
theorem en65:EntOK TT 65 ce65:=ent_fz co65 (by kernel_rfl) rfl rfl rfl
/- impl.ConfOk -/
def hn82:Hints:=[(5,(.sl 1 I),true),(19,(.sl 1 I),true),(29,(.sl 1 I),true)]
def pm82:List Nat:=[]
abbrev sg82:Sig:=⟨[.dat (.sl 1 I)],[.bool]⟩
def F82 (x:List Int×Unit):Option (Bool×Unit):=
  loopF (fun rec0 (s1:Int×Unit)=>
  bif iLt s1.1 (lenI x.1) then idxK x.1 s1.1 fun y2=>
  bindK (F65 (y2,1,4,())) fun y3=>
  bindK (bif bNot y3.1 then some true else bindK (bif iGt s1.1 0 then idxK x.1 (iSub .i64 s1.1 1) fun y4=>
  some (iGe y4 y2) else some false) fun y5=>
  some y5) fun y6=>
  bif y6 then some (false,()) else rec0 (iAdd .i64 s1.1 1,()) else bindK (F65 (lenI x.1,1,4,())) fun y7=>
  some y7) NN (0,())
abbrev ce82:CE:=.con true sg82 F82
theorem co82:ConOK TT 82 sg82 F82:=con_fn (fn:=inlF XX fn82) (ces:=[(65,ce65)]) (ents1 en65 ents0) hn82 pm82 (by kernel_rfl) rfl rfl (fun x=>by kernel_rfl)
theorem en82:EntOK TT 82 ce82:=ent_fz co82 (by kernel_rfl) rfl rfl rfl
/- impl.ReadConf -/
def hn85:Hints:=[(2,(.sl 1 I),true),(4,(.sl 1 I),true),(12,(.sl 1 I),true),(17,(.sl 1 I),true),(18,(.sl 1 I),true),(19,(.sl 1 I),true),(22,(.sl 1 I),true)]
def pm85:List Nat:=[]
abbrev sg85:Sig:=⟨[.dat .str],[(.sl 1 I),.bool]⟩
def F85 (x:List UInt8×Unit):Option (List Int×Bool×Unit):=
  loopF (fun rec0 (s1:Int×List Int×Unit)=>
  bif iLt s1.1 (lenI x.1) then idxK x.1 s1.1 fun y2=>
  guardK (gApp s1.2.1 [iConv .i64 (byteI y2)] 1) <|
  rec0 (iAdd .i64 s1.1 1,cat s1.2.1 [iConv .i64 (byteI y2)],()) else bindK (F82 s1.2) fun y3=>
  bif bNot y3.1 then some ([],false,()) else some (s1.2.1,true,())) NN (0,[],())
abbrev ce85:CE:=.con false sg85 F85
theorem co85:ConOK TT 85 sg85 F85:=con_fn (fn:=inlF XX fn85) (ces:=[(82,ce82)]) (ents1 en82 ents0) hn85 pm85 (by kernel_rfl) rfl rfl (fun x=>by kernel_rfl)
theorem en85:EntOK TT 85 ce85:=ent_sep co85 (by kernel_rfl) rfl
/- impl.EntryOk -/
def hn38:Hints:=[(3,(.sl 1 I),true),(22,(.sl 1 I),true)]
def pm38:List Nat:=[1]
abbrev sg38:Sig:=⟨[.dat KEntry],[.bool]⟩
def F38 (x:TEntry×Unit):Option (Bool×Unit):=
  bindK (F65 (x.1.1,0,100000,())) fun y0=>
  bif bNot y0.1 then some (false,()) else bif iEq x.1.2.1 1 then some (strEq x.1.2.2.1 (litS []),()) else bif iEq x.1.2.1 2 then bindK (F85 x.1.2.2) fun y1=>
  some y1.2 else bif iEq x.1.2.1 3 then some (iLe (lenI x.1.2.2.1) 120,()) else some (false,())
abbrev ce38:CE:=.con true sg38 F38
theorem co38:ConOK TT 38 sg38 F38:=con_fn (fn:=inlF XX fn38) (ces:=[(65,ce65),(85,ce85)]) (ents1 en65 (ents1 en85 ents0)) hn38 pm38 (by kernel_rfl) rfl rfl (fun x=>by kernel_rfl)
theorem en38:EntOK TT 38 ce38:=ent_fz co38 (by kernel_rfl) rfl rfl rfl
/- impl.LogOk -/
def hn83:Hints:=[(1,KLog,true),(18,(.sl 3 KEntry),true),(26,(.sl 3 KEntry),true),(34,(.sl 3 KEntry),true)]
def pm83:List Nat:=[5,1]
abbrev sg83:Sig:=⟨[.dat KLog],[.bool]⟩
def F83 (x:TLog×Unit):Option (Bool×Unit):=
  bindK (F65 (x.1.1,0,1000000,())) fun y0=>
  bindK (bif bNot y0.1 then some true else bindK (F65 (x.1.2.1,0,100000,())) fun y1=>
  some (bNot y1.1)) fun y2=>
  bindK (bif y2 then some true else some (iGt (lenI x.1.2.2.1) 60)) fun y3=>
  bindK (bif y3 then some true else some (iGt (iAdd .i64 x.1.1 (lenI x.1.2.2.1)) 1000000)) fun y4=>
  bif y4 then some (false,()) else loopF (fun rec5 (s6:Int×Int×Unit)=>
  bif iLt s6.2.1 (lenI x.1.2.2.1) then idxK x.1.2.2.1 s6.2.1 fun y7=>
  bindK (F38 (y7,())) fun y8=>
  bindK (bif bNot y8.1 then some true else some (iLt y7.1 s6.1)) fun y9=>
  bif y9 then some (false,()) else rec5 (y7.1,iAdd .i64 s6.2.1 1,()) else some (true,())) NN (x.1.2.1,0,())
abbrev ce83:CE:=.con true sg83 F83
theorem co83:ConOK TT 83 sg83 F83:=con_fn (fn:=inlF XX fn83) (ces:=[(65,ce65),(38,ce38)]) (ents1 en65 (ents1 en38 ents0)) hn83 pm83 (by kernel_rfl) rfl rfl (fun x=>by kernel_rfl)
theorem en83:EntOK TT 83 ce83:=ent_fz co83 (by kernel_rfl) rfl rfl rfl
/- impl.LogLast -/
def hn70:Hints:=[(1,KLog,true),(6,(.sl 3 KEntry),true),(19,(.sl 3 KEntry),true)]
def pm70:List Nat:=[1]
abbrev sg70:Sig:=⟨[.dat KLog],[I,I]⟩
def F70 (x:TLog×Unit):Option (Int×Int×Unit):=
  bif iEq (lenI x.1.2.2.1) 0 then some (x.1.1,x.1.2.1,()) else idxK x.1.2.2.1 (iSub .i64 (lenI x.1.2.2.1) 1) fun y0=>
  some (iAdd .i64 x.1.1 (lenI x.1.2.2.1),y0.1,())
abbrev ce70:CE:=.con true sg70 F70
theorem co70:ConOK TT 70 sg70 F70:=con_fn (fn:=inlF XX fn70) (ces:=[]) ents0 hn70 pm70 (by kernel_rfl) rfl rfl (fun x=>by kernel_rfl)
theorem en70:EntOK TT 70 ce70:=ent_fz co70 (by kernel_rfl) rfl rfl rfl
/- slices.Equal[[]int,int] -/
def hn100:Hints:=[(6,(.sl 1 I),true),(8,(.sl 1 I),true),(11,(.sl 1 I),true),(16,(.sl 1 I),true),(20,(.sl 1 I),true)]
def pm100:List Nat:=[]
abbrev sg100:Sig:=⟨[.dat (.sl 1 I),.dat (.sl 1 I)],[.bool]⟩
def F100 (x:List Int×List Int×Unit):Option (Bool×Unit):=
  bif iNe (lenI x.1) (lenI x.2.1) then some (false,()) else loopF (fun rec0 (s1:Int×Unit)=>
  bif iLt s1.1 (lenI x.1) then idxK x.1 s1.1 fun y2=>
  idxK x.2.1 s1.1 fun y3=>
  bif iNe y2 y3 then some (false,()) else rec0 (iAdd .i64 s1.1 1,()) else some (true,())) NN (0,())
abbrev ce100:CE:=.con true sg100 F100
theorem co100:ConOK TT 100 sg100 F100:=con_fn (fn:=inlF XX fn100) (ces:=[]) ents0 hn100 pm100 (by kernel_rfl) rfl rfl (fun x=>by kernel_rfl)
theorem en100:EntOK TT 100 ce100:=ent_fz co100 (by kernel_rfl) rfl rfl rfl
/- slices.IndexFunc[[]int,int] -/
def hn102:Hints:=[(6,(.sl 1 I),true),(12,(.sl 1 I),true)]
def pm102:List Nat:=[]
abbrev sg102:Sig:=⟨[.dat (.sl 1 I),.raw],[I]⟩
abbrev ce102:CE:=.inl sg102 (inlF XX fn102) hn102 pm102
theorem en102:EntOK TT 102 ce102:=ent_inl hn102 pm102 (by kernel_rfl) (by kernel_rfl) rfl rfl rfl rfl rfl
/- impl.ConfAt -/
def hn96:Hints:=[(2,KNode,true),(4,(.sl 1 I),true),(7,(.sl 1 I),true),(11,(.sl 3 KEntry),true),(20,(.sl 3 KEntry),true),(28,(.sl 1 I),true),(46,(.sl 1 I),true),(48,(.sl 1 I),true),(49,(.sl 1 I),true)]
def pm96:List Nat:=[6,2]
abbrev sg96:Sig:=⟨[.dat KNode,.dat I],[(.sl 1 I)]⟩
def F96 (x:TNode×Int×Unit):Option (List Int×Unit):=
  loopF (fun rec0 (s1:Int×Unit)=>
  bif iGe s1.1 0 then idxK x.1.2.2.2.2.2.2.2.2.1 s1.1 fun y2=>
  bindK (F85 y2.2.2) fun y3=>
  bindK (bif y3.2.1 then some (iEq y2.2.1 2) else some false) fun y4=>
  bindK (bif y4 then some (iLe (iAdd .i64 (iAdd .i64 x.1.2.2.2.2.2.2.1 s1.1) 1) x.2.1) else some false) fun y5=>
  bif y5 then some (y3.1,()) else rec0 (iSub .i64 s1.1 1,()) else guardK (gApp [] x.1.2.2.2.2.2.1 1) <|
  some (cat [] x.1.2.2.2.2.2.1,())) NN (iSub .i64 (lenI x.1.2.2.2.2.2.2.2.2.1) 1,())
abbrev ce96:CE:=.con false sg96 F96
theorem co96:ConOK TT 96 sg96 F96:=con_fn (fn:=inlF XX fn96) (ces:=[(85,ce85)]) (ents1 en85 ents0) hn96 pm96 (by kernel_rfl) rfl rfl (fun x=>by kernel_rfl)
theorem en96:EntOK TT 96 ce96:=ent_sep co96 (by kernel_rfl) rfl
/- impl.ConfOf -/
def hn66:Hints:=[(1,KNode,true),(2,(.sl 1 I),true),(3,KNode,true),(4,(.sl 1 I),true)]
def pm66:List Nat:=[1]
abbrev sg66:Sig:=⟨[.dat KNode],[(.sl 1 I)]⟩
def F66 (x:TNode×Unit):Option (List Int×Unit):=
  bindK (F96 (x.1,9223372036854775807,())) fun y0=>
  some y0
abbrev ce66:CE:=.con false sg66 F66
theorem co66:ConOK TT 66 sg66 F66:=con_fn (fn:=inlF XX fn66) (ces:=[(96,ce96)]) (ents1 en96 ents0) hn66 pm66 (by kernel_rfl) rfl rfl (fun x=>by kernel_rfl)
theorem en66:EntOK TT 66 ce66:=ent_sep co66 (by kernel_rfl) rfl
/- impl.othersOf$1 -/
def hn92:Hints:=[]
def pm92:List Nat:=[]
abbrev sg92:Sig:=⟨[.dat I,.raw],[.bool]⟩
abbrev ce92:CE:=.inl sg92 (inlF XX fn92) hn92 pm92
theorem en92:EntOK TT 92 ce92:=ent_inl hn92 pm92 (by kernel_rfl) (by kernel_rfl) rfl rfl rfl rfl rfl
/- impl.othersOf -/
def hn41:Hints:=[(1,KNode,true),(2,(.sl 1 I),true),(3,KNode,true),(4,(.sl 1 I),true),(6,(.sl 1 I),true),(65540,(.sl 1 I),true),(65544,(.sl 1 I),true),(65549,(.sl 1 I),true),(65553,(.sl 1 I),true),(65558,(.sl 1 I),true),(65566,(.sl 1 I),true),(65572,(.sl 1 I),true),(65574,(.sl 1 I),true),(65575,(.sl 1 I),true),(65577,(.sl 1 I),true)]
def pm41:List Nat:=[1]
abbrev sg41:Sig:=⟨[.dat KNode],[(.sl 1 I)]⟩
def F41 (x:TNode×Unit):Option (List Int×Unit):=
  bindK (F66 x) fun y0=>
  bindK (loopF (fun rec1 (s2:TNode×Int×Unit)=>
  bif iLt s2.2.1 (lenI y0.1) then idxK y0.1 s2.2.1 fun y3=>
  bindK (some (iEq y3 s2.1.1,())) fun y4=>
  bif y4.1 then some s2.2 else rec1 (s2.1,iAdd .i64 s2.2.1 1,()) else some ((-1),())) NN (x.1,0,())) fun y5=>
  bif iEq y5.1 (-1) then some y0 else loopF (fun rec6 (s7:Int×Int×List Int×Unit)=>
  bif iLt s7.1 (lenI s7.2.2.1) then idxK s7.2.2.1 s7.1 fun y8=>
  bindK (some (iEq y8 x.1.1,())) fun y9=>
  joinK (fun (s10:Int×List Int×Unit)=>
  rec6 (iAdd .i64 s7.1 1,s10)) fun k11=>
  bif bNot y9.1 then idxK s7.2.2.1 s7.2.1 fun y12=>
  k11 (iAdd .i64 s7.2.1 1,setL s7.2.2.1 (toN s7.2.1) y8,()) else k11 s7.2 else bndK (lenN s7.2.2.1) s7.2.1 (ofN (lenN s7.2.2.1)) fun l13 n14=>
  bndK (lenN (cat (sub s7.2.2.1 0 l13) (cat (repL n14 0) (dropL (addN l13 n14) s7.2.2.1)))) 0 s7.2.1 fun l15 n16=>
  some (sub (cat (sub s7.2.2.1 0 l13) (cat (repL n14 0) (dropL (addN l13 n14) s7.2.2.1))) l15 n16,())) NN (iAdd .i64 y5.1 1,y5.1,y0)
abbrev ce41:CE:=.con false sg41 F41
theorem co41:ConOK TT 41 sg41 F41:=con_fn (fn:=inlF XX fn41) (ces:=[(102,ce102),(66,ce66),(92,ce92)]) (ents1 en102 (ents1 en66 (ents1 en92 ents0))) hn41 pm41 (by kernel_rfl) rfl rfl (fun x=>by kernel_rfl)
theorem en41:EntOK TT 41 ce41:=ent_sep co41 (by kernel_rfl) rfl
/- impl.peersOk -/
def hn84:Hints:=[(1,KNode,true),(3,(.sl 1 I),true),(7,(.sl 4 KPeer),true),(13,(.sl 1 I),true),(16,(.sl 1 I),true),(17,(.sl 1 I),true),(21,KLog,true),(42,(.sl 1 I),true),(43,KNode,true),(44,(.sl 1 I),true)]
def pm84:List Nat:=[5,1]
abbrev sg84:Sig:=⟨[.dat KNode],[.bool]⟩
def F84 (x:TNode×Unit):Option (Bool×Unit):=
  loopF (fun rec0 (s1:Int×List Int×Unit)=>
  bif iLt s1.1 (lenI x.1.2.2.2.2.2.2.2.2.2.2.2.2.2.1) then idxK x.1.2.2.2.2.2.2.2.2.2.2.2.2.2.1 s1.1 fun y2=>
  guardK (gApp s1.2.1 [y2.1] 1) <|
  bindK (F37 ((x.1.2.2.2.2.2.2.1,x.1.2.2.2.2.2.2.2.1,x.1.2.2.2.2.2.2.2.2.1,()),())) fun y3=>
  bindK (F65 (y2.2.1,1,iAdd .i64 y3.1 1,())) fun y4=>
  bindK (bif bNot y4.1 then some true else bindK (F65 (y2.2.2.1,0,iSub .i64 y2.2.1 1,())) fun y5=>
  some (bNot y5.1)) fun y6=>
  bindK (bif y6 then some true else bindK (F65 (y2.2.2.2.1,0,20000,())) fun y7=>
  some (bNot y7.1)) fun y8=>
  bif y8 then some (false,()) else rec0 (iAdd .i64 s1.1 1,cat s1.2.1 [y2.1],()) else bindK (F41 x) fun y9=>
  bindK (F100 (s1.2.1,y9)) fun y10=>
  some y10) NN (0,[],())
abbrev ce84:CE:=.con true sg84 F84
theorem co84:ConOK TT 84 sg84 F84:=con_fn (fn:=inlF XX fn84) (ces:=[(65,ce65),(37,ce37),(100,ce100),(41,ce41)]) (ents1 en65 (ents1 en37 (ents1 en100 (ents1 en41 ents0)))) hn84 pm84 (by kernel_rfl) rfl rfl (fun x=>by kernel_rfl)
theorem en84:EntOK TT 84 ce84:=ent_fz co84 (by kernel_rfl) rfl rfl rfl
/- impl.NodeOk -/
def hn36:Hints:=[(1,KNode,true),(13,(.sl 1 I),true),(19,KLog,true),(25,KLog,true),(75,(.sl 1 I),true),(90,(.sl 1 I),true),(105,(.sl 1 I),true),(112,KNode,true),(115,(.sl 4 KPeer),true)]
def pm36:List Nat:=[1]
abbrev sg36:Sig:=⟨[.dat KNode],[.bool]⟩
def F36 (x:TNode×Unit):Option (Bool×Unit):=
  bindK (F65 (x.1.1,1,4,())) fun y0=>
  bindK (bif bNot y0.1 then some true else bindK (F82 (x.1.2.2.2.2.2.1,())) fun y1=>
  some (bNot y1.1)) fun y2=>
  bindK (bif y2 then some true else bindK (F83 ((x.1.2.2.2.2.2.2.1,x.1.2.2.2.2.2.2.2.1,x.1.2.2.2.2.2.2.2.2.1,()),())) fun y3=>
  some (bNot y3.1)) fun y4=>
  bif y4 then some (false,()) else bindK (F70 ((x.1.2.2.2.2.2.2.1,x.1.2.2.2.2.2.2.2.1,x.1.2.2.2.2.2.2.2.2.1,()),())) fun y5=>
  bindK (F65 (x.1.2.1,y5.2.1,100000,())) fun y6=>
  bindK (bif bNot y6.1 then some true else bindK (F65 (x.1.2.2.1,0,4,())) fun y7=>
  some (bNot y7.1)) fun y8=>
  bindK (bif y8 then some true else bindK (F65 (x.1.2.2.2.2.1,0,4,())) fun y9=>
  some (bNot y9.1)) fun y10=>
  bindK (bif y10 then some true else bindK (F65 (x.1.2.2.2.1,0,2,())) fun y11=>
  some (bNot y11.1)) fun y12=>
  bindK (bif y12 then some true else bindK (F65 (x.1.2.2.2.2.2.2.2.2.2.1,x.1.2.2.2.2.2.2.1,y5.1,())) fun y13=>
  some (bNot y13.1)) fun y14=>
  bindK (bif y14 then some true else bindK (F65 (x.1.2.2.2.2.2.2.2.2.2.2.2.1,1,20,())) fun y15=>
  some (bNot y15.1)) fun y16=>
  bindK (bif y16 then some true else bindK (F65 (x.1.2.2.2.2.2.2.2.2.2.2.1,0,20,())) fun y17=>
  some (bNot y17.1)) fun y18=>
  bif y18 then some (false,()) else loopF (fun rec19 (s20:Int×Unit)=>
  bif iLt s20.1 (lenI x.1.2.2.2.2.2.2.2.2.2.2.2.2.1) then idxK x.1.2.2.2.2.2.2.2.2.2.2.2.2.1 s20.1 fun y21=>
  bindK (F65 (y21,1,4,())) fun y22=>
  bindK (bif bNot y22.1 then some true else bindK (bif iGt s20.1 0 then idxK x.1.2.2.2.2.2.2.2.2.2.2.2.2.1 (iSub .i64 s20.1 1) fun y23=>
  some (iGe y23 y21) else some false) fun y24=>
  some y24) fun y25=>
  bif y25 then some (false,()) else rec19 (iAdd .i64 s20.1 1,()) else bindK (bif iNe x.1.2.2.2.1 1 then some (iGt (lenI x.1.2.2.2.2.2.2.2.2.2.2.2.2.1) 0) else some false) fun y26=>
  bif y26 then some (false,()) else bif iEq x.1.2.2.2.1 2 then bindK (F84 x) fun y27=>
  some y27 else some (iEq (lenI x.1.2.2.2.2.2.2.2.2.2.2.2.2.2.1) 0,())) NN (0,())
abbrev ce36:CE:=.con true sg36 F36
theorem co36:ConOK TT 36 sg36 F36:=con_fn (fn:=inlF XX fn36) (ces:=[(83,ce83),(82,ce82),(65,ce65),(70,ce70),(84,ce84)]) (ents1 en83 (ents1 en82 (ents1 en65 (ents1 en70 (ents1 en84 ents0))))) hn36 pm36 (by kernel_rfl) rfl rfl (fun x=>by kernel_rfl)
theorem en36:EntOK TT 36 ce36:=ent_fz co36 (by kernel_rfl) rfl rfl rfl
/- impl.lastConf -/
def hn87:Hints:=[(1,KLog,true),(5,(.sl 3 KEntry),true),(13,(.sl 3 KEntry),true)]
def pm87:List Nat:=[1]
abbrev sg87:Sig:=⟨[.dat KLog],[I]⟩
def F87 (x:TLog×Unit):Option (Int×Unit):=
  loopF (fun rec0 (s1:Int×Unit)=>
  bif iGe s1.1 0 then idxK x.1.2.2.1 s1.1 fun y2=>
  bif iEq y2.2.1 2 then some (iAdd .i64 (iAdd .i64 x.1.1 s1.1) 1,()) else rec0 (iSub .i64 s1.1 1,()) else some (0,())) NN (iSub .i64 (lenI x.1.2.2.1) 1,())
abbrev ce87:CE:=.con true sg87 F87
theorem co87:ConOK TT 87 sg87 F87:=con_fn (fn:=inlF XX fn87) (ces:=[]) ents0 hn87 pm87 (by kernel_rfl) rfl rfl (fun x=>by kernel_rfl)
theorem en87:EntOK TT 87 ce87:=ent_fz co87 (by kernel_rfl) rfl rfl rfl
/- impl.hasEntry -/
def hn101:Hints:=[(2,KLog,true),(15,(.sl 3 KEntry),true)]
def pm101:List Nat:=[2]
abbrev sg101:Sig:=⟨[.dat KLog,.dat I],[.bool]⟩
def F101 (x:TLog×Int×Unit):Option (Bool×Unit):=
  bindK (bif iGt x.2.1 x.1.1 then bindK (F65 (iSub .i64 x.2.1 x.1.1,1,lenI x.1.2.2.1,())) fun y0=>
  some y0.1 else some false) fun y1=>
  some (y1,())
abbrev ce101:CE:=.con true sg101 F101
theorem co101:ConOK TT 101 sg101 F101:=con_fn (fn:=inlF XX fn101) (ces:=[(65,ce65)]) (ents1 en65 ents0) hn101 pm101 (by kernel_rfl) rfl rfl (fun x=>by kernel_rfl)
theorem en101:EntOK TT 101 ce101:=ent_fz co101 (by kernel_rfl) rfl rfl rfl
/- impl.LogTerm -/
def hn86:Hints:=[(2,KLog,true),(13,KLog,true),(17,(.sl 3 KEntry),true)]
def pm86:List Nat:=[2]
abbrev sg86:Sig:=⟨[.dat KLog,.dat I],[I]⟩
def F86 (x:TLog×Int×Unit):Option (Int×Unit):=
  bif iEq x.2.1 x.1.1 then some (x.1.2.1,()) else bindK (F101 x) fun y0=>
  bif y0.1 then idxK x.1.2.2.1 (iSub .i64 (iSub .i64 x.2.1 x.1.1) 1) fun y1=>
  some (y1.1,()) else some ((-1),())
abbrev ce86:CE:=.con true sg86 F86
theorem co86:ConOK TT 86 sg86 F86:=con_fn (fn:=inlF XX fn86) (ces:=[(101,ce101)]) (ents1 en101 ents0) hn86 pm86 (by kernel_rfl) rfl rfl (fun x=>by kernel_rfl)
theorem en86:EntOK TT 86 ce86:=ent_fz co86 (by kernel_rfl) rfl rfl rfl
/- slices.ContainsFunc[[]int,int] -/
def hn88:Hints:=[(5,(.sl 1 I),true)]
def pm88:List Nat:=[]
abbrev sg88:Sig:=⟨[.dat (.sl 1 I),.raw],[.bool]⟩
abbrev ce88:CE:=.inl sg88 (inlF XX fn88) hn88 pm88
theorem en88:EntOK TT 88 ce88:=ent_inl hn88 pm88 (by kernel_rfl) (by kernel_rfl) rfl rfl rfl rfl rfl
/- slices.Index[[]int,int] -/
def hn97:Hints:=[(6,(.sl 1 I),true),(12,(.sl 1 I),true)]
def pm97:List Nat:=[]
abbrev sg97:Sig:=⟨[.dat (.sl 1 I),.dat I],[I]⟩
def F97 (x:List Int×Int×Unit):Option (Int×Unit):=
  loopF (fun rec0 (s1:Int×Unit)=>
  bif iLt s1.1 (lenI x.1) then idxK x.1 s1.1 fun y2=>
  bif iEq x.2.1 y2 then some s1 else rec0 (iAdd .i64 s1.1 1,()) else some ((-1),())) NN (0,())
abbrev ce97:CE:=.con true sg97 F97
theorem co97:ConOK TT 97 sg97 F97:=con_fn (fn:=inlF XX fn97) (ces:=[]) ents0 hn97 pm97 (by kernel_rfl) rfl rfl (fun x=>by kernel_rfl)
theorem en97:EntOK TT 97 ce97:=ent_fz co97 (by kernel_rfl) rfl rfl rfl
/- slices.Contains[[]int,int] -/
def hn67:Hints:=[(5,(.sl 1 I),true)]
def pm67:List Nat:=[]
abbrev sg67:Sig:=⟨[.dat (.sl 1 I),.dat I],[.bool]⟩
def F67 (x:List Int×Int×Unit):Option (Bool×Unit):=
  bindK (F97 x) fun y0=>
  some (iGe y0.1 0,())
abbrev ce67:CE:=.con true sg67 F67
theorem co67:ConOK TT 67 sg67 F67:=con_fn (fn:=inlF XX fn67) (ces:=[(97,ce97)]) (ents1 en97 ents0) hn67 pm67 (by kernel_rfl) rfl rfl (fun x=>by kernel_rfl)
theorem en67:EntOK TT 67 ce67:=ent_fz co67 (by kernel_rfl) rfl rfl rfl
/- impl.confMay$1 -/
def hn89:Hints:=[(4,(.sl 1 I),true)]
def pm89:List Nat:=[]
abbrev sg89:Sig:=⟨[.dat I,.raw],[.bool]⟩
abbrev ce89:CE:=.inl sg89 (inlF XX fn89) hn89 pm89
theorem en89:EntOK TT 89 ce89:=ent_inl hn89 pm89 (by kernel_rfl) (by kernel_rfl) rfl rfl rfl rfl rfl
/- impl.confMay -/
def hn39:Hints:=[(2,KNode,true),(5,(.sl 1 I),true),(7,(.sl 1 I),true),(8,(.sl 1 I),true),(9,(.sl 1 I),true),(14,(.sl 1 I),true),(20,KLog,true),(30,KLog,true),(36,KNode,true),(37,(.sl 1 I),true),(38,(.sl 1 I),true),(39,(.sl 1 I),true),(40,(.sl 1 I),true),(42,(.sl 1 I),true),(45,(.sl 1 I),true),(46,(.sl 1 I),true),(47,(.sl 1 I),true),(50,(.sl 1 I),true),(52,(.sl 1 I),true)]
def pm39:List Nat:=[2]
abbrev sg39:Sig:=⟨[.dat KNode,.dat .str],[.bool]⟩
def F39 (x:TNode×List UInt8×Unit):Option (Bool×Unit):=
  bindK (F85 x.2) fun y0=>
  bindK (bif bNot y0.2.1 then some true else bindK (F86 ((x.1.2.2.2.2.2.2.1,x.1.2.2.2.2.2.2.2.1,x.1.2.2.2.2.2.2.2.2.1,()),x.1.2.2.2.2.2.2.2.2.2.1,())) fun y1=>
  some (iNe y1.1 x.1.2.1)) fun y2=>
  bindK (bif y2 then some true else bindK (F87 ((x.1.2.2.2.2.2.2.1,x.1.2.2.2.2.2.2.2.1,x.1.2.2.2.2.2.2.2.2.1,()),())) fun y3=>
  some (iGt y3.1 x.1.2.2.2.2.2.2.2.2.2.1)) fun y4=>
  bif y4 then some (false,()) else bindK (F66 (x.1,())) fun y5=>
  joinK (fun (s6:List Int×List Int×Unit)=>
  bindK (bindK (loopF (fun rec7 (s8:Int×List Int×Unit)=>
  bif iLt s8.1 (lenI s6.1) then idxK s6.1 s8.1 fun y9=>
  bindK (bindK (F67 (s8.2.1,y9,())) fun y10=>
  some (bNot y10.1,())) fun y11=>
  bif y11.1 then some (s8.1,()) else rec7 (iAdd .i64 s8.1 1,s8.2) else some ((-1),())) NN (0,s6.2)) fun y12=>
  some (iGe y12.1 0,())) fun y13=>
  bindK (bif iEq (lenI s6.2.1) (iAdd .i64 (lenI s6.1) 1) then some (bNot y13.1) else some false) fun y14=>
  some (y14,())) fun k15=>
  bif iGt (lenI y0.1) (lenI y5.1) then k15 (y5.1,y0.1,()) else k15 (y0.1,y5)
abbrev ce39:CE:=.con true sg39 F39
theorem co39:ConOK TT 39 sg39 F39:=con_fn (fn:=inlF XX fn39) (ces:=[(85,ce85),(87,ce87),(86,ce86),(66,ce66),(88,ce88),(102,ce102),(89,ce89),(67,ce67)]) (ents1 en85 (ents1 en87 (ents1 en86 (ents1 en66 (ents1 en88 (ents1 en102 (ents1 en89 (ents1 en67 ents0)))))))) hn39 pm39 (by kernel_rfl) rfl rfl (fun x=>by kernel_rfl)
theorem en39:EntOK TT 39 ce39:=ent_fz co39 (by kernel_rfl) rfl rfl rfl
/- impl.copyLog -/
def hn90:Hints:=[(1,KLog,true),(2,KLog,true),(4,(.sl 3 KEntry),true),(5,(.sl 3 KEntry),true),(7,KLog,true)]
def pm90:List Nat:=[]
abbrev sg90:Sig:=⟨[.dat KLog],[KLog]⟩
def F90 (x:TLog×Unit):Option (TLog×Unit):=
  guardK (gApp [] x.1.2.2.1 3) <|
  some ((x.1.1,x.1.2.1,cat [] x.1.2.2.1,()),())
abbrev ce90:CE:=.con false sg90 F90
theorem co90:ConOK TT 90 sg90 F90:=con_fn (fn:=inlF XX fn90) (ces:=[]) ents0 hn90 pm90 (by kernel_rfl) rfl rfl (fun x=>by kernel_rfl)
theorem en90:EntOK TT 90 ce90:=ent_sep co90 (by kernel_rfl) rfl
/- impl.copyNode -/
def hn40:Hints:=[(1,KNode,true),(2,KNode,true),(4,(.sl 1 I),true),(5,(.sl 1 I),true),(8,KLog,true),(9,KLog,true),(12,(.sl 1 I),true),(13,(.sl 1 I),true),(16,(.sl 4 KPeer),true),(17,(.sl 4 KPeer),true),(19,KNode,true)]
def pm40:List Nat:=[]
abbrev sg40:Sig:=⟨[.dat KNode],[KNode]⟩
def F40 (x:TNode×Unit):Option (TNode×Unit):=
  guardK (gApp [] x.1.2.2.2.2.2.1 1) <|
  bindK (F90 ((x.1.2.2.2.2.2.2.1,x.1.2.2.2.2.2.2.2.1,x.1.2.2.2.2.2.2.2.2.1,()),())) fun y0=>
  guardK (gApp [] x.1.2.2.2.2.2.2.2.2.2.2.2.2.1 1) <|
  guardK (gApp [] x.1.2.2.2.2.2.2.2.2.2.2.2.2.2.1 4) <|
  some ((x.1.1,x.1.2.1,x.1.2.2.1,x.1.2.2.2.1,x.1.2.2.2.2.1,cat [] x.1.2.2.2.2.2.1,y0.1.1,y0.1.2.1,y0.1.2.2.1,x.1.2.2.2.2.2.2.2.2.2.1,x.1.2.2.2.2.2.2.2.2.2.2.1,x.1.2.2.2.2.2.2.2.2.2.2.2.1,cat [] x.1.2.2.2.2.2.2.2.2.2.2.2.2.1,cat [] x.1.2.2.2.2.2.2.2.2.2.2.2.2.2.1,()),())
abbrev ce40:CE:=.con false sg40 F40
theorem co40:ConOK TT 40 sg40 F40:=con_fn (fn:=inlF XX fn40) (ces:=[(90,ce90)]) (ents1 en90 ents0) hn40 pm40 (by kernel_rfl) rfl rfl (fun x=>by kernel_rfl)
theorem en40:EntOK TT 40 ce40:=ent_sep co40 (by kernel_rfl) rfl
/- slices.IndexFunc[[]impl.Peer,impl.Peer] -/
def hn42:Hints:=[(6,(.sl 4 KPeer),true),(12,(.sl 4 KPeer),true)]
def pm42:List Nat:=[]
abbrev sg42:Sig:=⟨[.dat (.sl 4 KPeer),.raw],[I]⟩
abbrev ce42:CE:=.inl sg42 (inlF XX fn42) hn42 pm42
theorem en42:EntOK TT 42 ce42:=ent_inl hn42 pm42 (by kernel_rfl) (by kernel_rfl) rfl rfl rfl rfl rfl
/- impl.Most -/
def hn68:Hints:=[(8,(.sl 1 I),true),(14,(.sl 1 I),true),(20,(.sl 1 I),true),(25,(.sl 1 I),true)]
def pm68:List Nat:=[]
abbrev sg68:Sig:=⟨[.dat (.sl 1 I),.dat (.sl 1 I)],[.bool]⟩
def F68 (x:List Int×List Int×Unit):Option (Bool×Unit):=
  loopF (fun rec0 (s1:Int×Int×Unit)=>
  bif iLt s1.1 (lenI x.1) then idxK x.1 s1.1 fun y2=>
  bindK (F67 (x.2.1,y2,())) fun y3=>
  joinK (fun (s4:Int×Unit)=>
  rec0 (iAdd .i64 s1.1 1,s4)) fun k5=>
  bif y3.1 then k5 (iAdd .i64 s1.2.1 1,()) else k5 s1.2 else bindK (F82 (x.1,())) fun y6=>
  bindK (bif y6.1 then some (iGt (iMul .i64 2 s1.2.1) (lenI x.1)) else some false) fun y7=>
  some (y7,())) NN (0,0,())
abbrev ce68:CE:=.con true sg68 F68
theorem co68:ConOK TT 68 sg68 F68:=con_fn (fn:=inlF XX fn68) (ces:=[(67,ce67),(82,ce82)]) (ents1 en67 (ents1 en82 ents0)) hn68 pm68 (by kernel_rfl) rfl rfl (fun x=>by kernel_rfl)
theorem en68:EntOK TT 68 ce68:=ent_fz co68 (by kernel_rfl) rfl rfl rfl
/- (*impl.core).commit -/
def hn44:Hints:=[(2,KNode,true),(4,(.sl 1 I),true),(7,KCore,true),(10,KNode,true),(13,KLog,true),(16,KNode,true),(23,KNode,true),(27,(.sl 1 I),true),(28,KNode,true),(31,(.sl 4 KPeer),true),(41,(.sl 1 I),true),(44,(.sl 1 I),true),(45,(.sl 1 I),true),(47,KNode,true),(50,KLog,true),(53,KNode,true),(59,KNode,true),(61,KNode,true),(62,(.sl 1 I),true),(63,(.sl 1 I),true),(66,KNode,true),(70,KNode,true),(76,KNode,true),(78,KNode,true),(79,(.sl 1 I),true),(80,KNode,true),(88,KNode,true),(91,KLog,true),(93,KNode,true),(99,KNode,true),(100,KNode,true),(101,KNode,true),(1000000,KCore,true)]
def pm44:List Nat:=[6]
abbrev sg44:Sig:=⟨[.cell KCore],[]⟩
def F44 (x:TCore×Unit):Option (TCore×Unit):=
  bindK (F37 ((x.1.2.2.2.2.2.2.1,x.1.2.2.2.2.2.2.2.1,x.1.2.2.2.2.2.2.2.2.1,()),())) fun y0=>
  joinK (fun (s1:TCore×Unit)=>
  bif iEq s1.1.2.2.2.1 2 then bindK (F66 ((s1.1.1,s1.1.2.1,s1.1.2.2.1,s1.1.2.2.2.1,s1.1.2.2.2.2.1,s1.1.2.2.2.2.2.1,s1.1.2.2.2.2.2.2.1,s1.1.2.2.2.2.2.2.2.1,s1.1.2.2.2.2.2.2.2.2.1,s1.1.2.2.2.2.2.2.2.2.2.1,s1.1.2.2.2.2.2.2.2.2.2.2.1,s1.1.2.2.2.2.2.2.2.2.2.2.2.1,s1.1.2.2.2.2.2.2.2.2.2.2.2.2.1,s1.1.2.2.2.2.2.2.2.2.2.2.2.2.2.1,()),())) fun y2=>
  bindK (F67 (y2.1,s1.1.1,())) fun y3=>
  bif bNot y3.1 then bindK (F87 ((s1.1.2.2.2.2.2.2.1,s1.1.2.2.2.2.2.2.2.1,s1.1.2.2.2.2.2.2.2.2.1,()),())) fun y4=>
  bif iLe y4.1 s1.1.2.2.2.2.2.2.2.2.2.1 then some ((s1.1.1,s1.1.2.1,s1.1.2.2.1,0,0,s1.1.2.2.2.2.2.1,s1.1.2.2.2.2.2.2.1,s1.1.2.2.2.2.2.2.2.1,s1.1.2.2.2.2.2.2.2.2.1,s1.1.2.2.2.2.2.2.2.2.2.1,s1.1.2.2.2.2.2.2.2.2.2.2.1,s1.1.2.2.2.2.2.2.2.2.2.2.2.1,s1.1.2.2.2.2.2.2.2.2.2.2.2.2.1,[],s1.1.2.2.2.2.2.2.2.2.2.2.2.2.2.2),()) else some s1 else some s1 else some s1) fun k5=>
  loopF (fun rec6 (s7:Int×TCore×Unit)=>
  bif iGt s7.1 s7.2.1.2.2.2.2.2.2.2.2.2.1 then loopF (fun rec8 (s9:Int×TCore×List Int×Unit)=>
  bif iLt s9.1 (lenI s7.2.1.2.2.2.2.2.2.2.2.2.2.2.2.2.1) then idxK s9.2.1.2.2.2.2.2.2.2.2.2.2.2.2.2.1 s9.1 fun y10=>
  joinK (fun (s11:TCore×List Int×Unit)=>
  rec8 (iAdd .i64 s9.1 1,s11)) fun k12=>
  bif iGe y10.2.2.1 s7.1 then guardK (gApp s9.2.2.1 [y10.1] 1) <|
  k12 (s9.2.1,cat s9.2.2.1 [y10.1],()) else k12 s9.2 else bindK (F86 ((s9.2.1.2.2.2.2.2.2.1,s9.2.1.2.2.2.2.2.2.2.1,s9.2.1.2.2.2.2.2.2.2.2.1,()),s7.1,())) fun y13=>
  bindK (bif iEq y13.1 s9.2.1.2.1 then bindK (F66 ((s9.2.1.1,s9.2.1.2.1,s9.2.1.2.2.1,s9.2.1.2.2.2.1,s9.2.1.2.2.2.2.1,s9.2.1.2.2.2.2.2.1,s9.2.1.2.2.2.2.2.2.1,s9.2.1.2.2.2.2.2.2.2.1,s9.2.1.2.2.2.2.2.2.2.2.1,s9.2.1.2.2.2.2.2.2.2.2.2.1,s9.2.1.2.2.2.2.2.2.2.2.2.2.1,s9.2.1.2.2.2.2.2.2.2.2.2.2.2.1,s9.2.1.2.2.2.2.2.2.2.2.2.2.2.2.1,s9.2.1.2.2.2.2.2.2.2.2.2.2.2.2.2.1,()),())) fun y14=>
  bindK (F68 (y14.1,s9.2.2)) fun y15=>
  some y15.1 else some false) fun y16=>
  bif y16 then k5 ((s9.2.1.1,s9.2.1.2.1,s9.2.1.2.2.1,s9.2.1.2.2.2.1,s9.2.1.2.2.2.2.1,s9.2.1.2.2.2.2.2.1,s9.2.1.2.2.2.2.2.2.1,s9.2.1.2.2.2.2.2.2.2.1,s9.2.1.2.2.2.2.2.2.2.2.1,s7.1,s9.2.1.2.2.2.2.2.2.2.2.2.2),()) else rec6 (iSub .i64 s7.1 1,s9.2.1,())) NN (0,s7.2.1,[s7.2.1.1],()) else k5 s7.2) NN (y0.1,x)
abbrev ce44:CE:=.con false sg44 F44
theorem co44:ConOK TT 44 sg44 F44:=con_fn (fn:=inlF XX fn44) (ces:=[(37,ce37),(68,ce68),(66,ce66),(86,ce86),(87,ce87),(67,ce67)]) (ents1 en37 (ents1 en68 (ents1 en66 (ents1 en86 (ents1 en87 (ents1 en67 ents0)))))) hn44 pm44 (by kernel_rfl) rfl rfl (fun x=>by kernel_rfl)
theorem en44:EntOK TT 44 ce44:=ent_sep co44 (by kernel_rfl) rfl
/- (*impl.core).tell -/
def hn71:Hints:=[(3,KMessage,true),(4,KCore,true),(9,KCore,true),(16,KCore,true),(17,KCore,true),(20,(.sl 12 KMessage),true),(21,KMessage,true),(22,(.sl 12 KMessage),true),(23,(.sl 12 KMessage),true),(1000000,KCore,true)]
def pm71:List Nat:=[]
abbrev sg71:Sig:=⟨[.cell KCore,.own KMessage],[]⟩
def F71 (x:TCore×TMessage×Unit):Option (TCore×Unit):=
  guardK (gApp x.1.2.2.2.2.2.2.2.2.2.2.2.2.2.2.1 [(x.2.1.1,x.1.1,x.2.1.2.2.1,x.1.2.1,x.2.1.2.2.2.2)] 12) <|
  some ((x.1.1,x.1.2.1,x.1.2.2.1,x.1.2.2.2.1,x.1.2.2.2.2.1,x.1.2.2.2.2.2.1,x.1.2.2.2.2.2.2.1,x.1.2.2.2.2.2.2.2.1,x.1.2.2.2.2.2.2.2.2.1,x.1.2.2.2.2.2.2.2.2.2.1,x.1.2.2.2.2.2.2.2.2.2.2.1,x.1.2.2.2.2.2.2.2.2.2.2.2.1,x.1.2.2.2.2.2.2.2.2.2.2.2.2.1,x.1.2.2.2.2.2.2.2.2.2.2.2.2.2.1,cat x.1.2.2.2.2.2.2.2.2.2.2.2.2.2.2.1 [(x.2.1.1,x.1.1,x.2.1.2.2.1,x.1.2.1,x.2.1.2.2.2.2)],()),())
abbrev ce71:CE:=.con false sg71 F71
theorem co71:ConOK TT 71 sg71 F71:=con_fn (fn:=inlF XX fn71) (ces:=[]) ents0 hn71 pm71 (by kernel_rfl) rfl rfl (fun x=>by kernel_rfl)
theorem en71:EntOK TT 71 ce71:=ent_sep co71 (by kernel_rfl) rfl
/- (*impl.core).send -/
def hn93:Hints:=[(5,KLog,true),(7,(.sl 3 KEntry),true),(8,KCore,true),(12,(.sl 4 KPeer),true),(15,KCore,true),(19,KLog,true),(36,(.sl 3 KEntry),true),(39,(.sl 3 KEntry),true),(44,(.sl 3 KEntry),true),(45,(.sl 3 KEntry),true),(46,KCore,true),(56,KLog,true),(63,KCore,true),(68,(.sl 3 KEntry),true),(69,KMessage,true),(71,KCore,true),(84,KCore,true),(88,(.sl 1 I),true),(89,(.sl 1 I),true),(90,KMessage,true),(1000000,KCore,true)]
def pm93:List Nat:=[5]
abbrev sg93:Sig:=⟨[.cell KCore,.dat I],[]⟩
def F93 (x:TCore×Int×Unit):Option (TCore×Unit):=
  idxK x.1.2.2.2.2.2.2.2.2.2.2.2.2.2.1 x.2.1 fun y0=>
  bif iGt y0.2.1 x.1.2.2.2.2.2.2.1 then bndK (lenN x.1.2.2.2.2.2.2.2.2.1) (iSub .i64 (iSub .i64 y0.2.1 x.1.2.2.2.2.2.2.1) 1) (iMin (lenI x.1.2.2.2.2.2.2.2.2.1) (iAdd .i64 (iSub .i64 (iSub .i64 y0.2.1 x.1.2.2.2.2.2.2.1) 1) 4)) fun l1 n2=>
  guardK (gApp [] (sub x.1.2.2.2.2.2.2.2.2.1 l1 n2) 3) <|
  bindK (F86 ((x.1.2.2.2.2.2.2.1,x.1.2.2.2.2.2.2.2.1,x.1.2.2.2.2.2.2.2.2.1,()),iSub .i64 y0.2.1 1,())) fun y3=>
  bindK (F71 (x.1,(3,0,y0.1,0,iSub .i64 y0.2.1 1,y3.1,x.1.2.2.2.2.2.2.2.2.2.1,false,cat [] (sub x.1.2.2.2.2.2.2.2.2.1 l1 n2),[],litS [],false,()),())) fun y4=>
  some y4 else guardK (gApp [] x.1.2.2.2.2.2.1 1) <|
  bindK (F71 (x.1,(5,0,y0.1,0,x.1.2.2.2.2.2.2.1,x.1.2.2.2.2.2.2.2.1,y0.2.2.2.1,false,[],cat [] x.1.2.2.2.2.2.1,litS [],false,()),())) fun y5=>
  some y5
abbrev ce93:CE:=.con false sg93 F93
theorem co93:ConOK TT 93 sg93 F93:=con_fn (fn:=inlF XX fn93) (ces:=[(71,ce71),(86,ce86)]) (ents1 en71 (ents1 en86 ents0)) hn93 pm93 (by kernel_rfl) rfl rfl (fun x=>by kernel_rfl)
theorem en93:EntOK TT 93 ce93:=ent_sep co93 (by kernel_rfl) rfl
/- (*impl.core).sendAll -/
def hn45:Hints:=[(3,KCore,true),(7,(.sl 4 KPeer),true),(12,KCore,true),(1000000,KCore,true)]
def pm45:List Nat:=[]
abbrev sg45:Sig:=⟨[.cell KCore],[]⟩
def F45 (x:TCore×Unit):Option (TCore×Unit):=
  loopF (fun rec0 (s1:Int×TCore×Unit)=>
  bif iLt s1.1 (lenI x.1.2.2.2.2.2.2.2.2.2.2.2.2.2.1) then bindK (F93 (s1.2.1,s1.1,())) fun y2=>
  rec0 (iAdd .i64 s1.1 1,y2) else some s1.2) NN (0,x)
abbrev ce45:CE:=.con false sg45 F45
theorem co45:ConOK TT 45 sg45 F45:=con_fn (fn:=inlF XX fn45) (ces:=[(93,ce93)]) (ents1 en93 ents0) hn45 pm45 (by kernel_rfl) rfl rfl (fun x=>by kernel_rfl)
theorem en45:EntOK TT 45 ce45:=ent_sep co45 (by kernel_rfl) rfl
/- impl.Propose$1 -/
def hn43:Hints:=[]
def pm43:List Nat:=[2]
abbrev sg43:Sig:=⟨[.dat KPeer,.raw],[.bool]⟩
abbrev ce43:CE:=.inl sg43 (inlF XX fn43) hn43 pm43
theorem en43:EntOK TT 43 ce43:=ent_inl hn43 pm43 (by kernel_rfl) (by kernel_rfl) rfl rfl rfl rfl rfl
/- impl.Propose -/
def hn8:Hints:=[(3,KNode,true),(6,KNode,true),(7,(.sl 12 KMessage),true),(11,KCore,true),(13,(.sl 4 KPeer),true),(18,KNode,true),(29,(.sl 3 KEntry),true),(35,KLog,true),(39,KNode,true),(52,KNode,true),(58,KNode,true),(59,KNode,true),(60,KNode,true),(61,KCore,true),(62,KCore,true),(64,KLog,true),(66,KCore,true),(67,KCore,true),(72,(.sl 3 KEntry),true),(74,(.sl 3 KEntry),true),(75,(.sl 3 KEntry),true),(82,KCore,true),(85,KNode,true),(86,(.sl 1 I),true),(97,(.sl 4 KPeer),true),(103,(.sl 4 KPeer),true),(107,(.sl 4 KPeer),true),(109,(.sl 4 KPeer),true),(110,(.sl 4 KPeer),true),(112,KCore,true),(113,(.sl 4 KPeer),true),(117,KCore,true),(119,KCore,true),(121,KCore,true),(124,KNode,true),(125,KCore,true),(128,(.sl 12 KMessage),true)]
def pm8:List Nat:=[15,3,10]
abbrev sg8:Sig:=⟨[.dat KNode,.dat I,.dat .str],[KNode,(.sl 12 KMessage),I,.bool]⟩
def F8 (x:TNode×Int×List UInt8×Unit):Option (TNode×List TMessage×Int×Bool×Unit):=
  bindK (F36 (x.1,())) fun y0=>
  bindK (bif bNot y0.1 then some true else some (iNe x.1.2.2.2.1 2)) fun y1=>
  bindK (bif y1 then some true else some (iGe (lenI x.1.2.2.2.2.2.2.2.2.1) 60)) fun y2=>
  bindK (bif y2 then some true else bindK (F37 ((x.1.2.2.2.2.2.2.1,x.1.2.2.2.2.2.2.2.1,x.1.2.2.2.2.2.2.2.2.1,()),())) fun y3=>
  some (iGe y3.1 1000000)) fun y4=>
  bif y4 then some ((0,0,0,0,0,[],0,0,[],0,0,0,[],[],()),[],0,false,()) else bindK (F38 ((x.1.2.1,x.2),())) fun y5=>
  bindK (bif bNot y5.1 then some true else bindK (bif iEq x.2.1 2 then bindK (F39 (x.1,x.2.2)) fun y6=>
  some (bNot y6.1) else some false) fun y7=>
  some y7) fun y8=>
  bif y8 then some ((0,0,0,0,0,[],0,0,[],0,0,0,[],[],()),[],0,false,()) else bindK (F40 (x.1,())) fun y9=>
  bindK (F37 ((x.1.2.2.2.2.2.2.1,x.1.2.2.2.2.2.2.2.1,x.1.2.2.2.2.2.2.2.2.1,()),())) fun y10=>
  guardK (gApp y9.1.2.2.2.2.2.2.2.2.1 [(x.1.2.1,x.2)] 3) <|
  joinK (fun (s11:TCore×TNode×Unit)=>
  bindK (F44 (s11.1,())) fun y12=>
  bindK (F45 y12) fun y13=>
  some ((y13.1.1,y13.1.2.1,y13.1.2.2.1,y13.1.2.2.2.1,y13.1.2.2.2.2.1,y13.1.2.2.2.2.2.1,y13.1.2.2.2.2.2.2.1,y13.1.2.2.2.2.2.2.2.1,y13.1.2.2.2.2.2.2.2.2.1,y13.1.2.2.2.2.2.2.2.2.2.1,y13.1.2.2.2.2.2.2.2.2.2.2.1,y13.1.2.2.2.2.2.2.2.2.2.2.2.1,y13.1.2.2.2.2.2.2.2.2.2.2.2.2.1,y13.1.2.2.2.2.2.2.2.2.2.2.2.2.2.1,()),y13.1.2.2.2.2.2.2.2.2.2.2.2.2.2.2.1,iAdd .i64 y10.1 1,true,())) fun k14=>
  bif iEq x.2.1 2 then bindK (F41 ((y9.1.1,y9.1.2.1,y9.1.2.2.1,y9.1.2.2.2.1,y9.1.2.2.2.2.1,y9.1.2.2.2.2.2.1,y9.1.2.2.2.2.2.2.1,y9.1.2.2.2.2.2.2.2.1,cat y9.1.2.2.2.2.2.2.2.2.1 [(x.1.2.1,x.2)],y9.1.2.2.2.2.2.2.2.2.2),())) fun y15=>
  loopF (fun rec16 (s17:Int×TCore×TNode×List Int×List TPeer×Unit)=>
  bif iLt s17.1 (lenI y15.1) then idxK s17.2.2.2.1 s17.1 fun y18=>
  bindK (loopF (fun rec19 (s20:Int×Int×Unit)=>
  bif iLt s20.2.1 (lenI x.1.2.2.2.2.2.2.2.2.2.2.2.2.2.1) then idxK x.1.2.2.2.2.2.2.2.2.2.2.2.2.2.1 s20.2.1 fun y21=>
  bindK (some (iEq y21.1 s20.1,())) fun y22=>
  bif y22.1 then some s20.2 else rec19 (s20.1,iAdd .i64 s20.2.1 1,()) else some ((-1),())) NN (y18,0,())) fun y23=>
  joinK (fun (s24:TPeer×TCore×TNode×List TPeer×List Int×Unit)=>
  guardK (gApp s24.2.2.2.1 [s24.1] 4) <|
  rec16 (iAdd .i64 s17.1 1,s24.2.1,s24.2.2.1,s24.2.2.2.2.1,cat s24.2.2.2.1 [s24.1],())) fun k25=>
  bif iGe y23.1 0 then idxK x.1.2.2.2.2.2.2.2.2.2.2.2.2.2.1 y23.1 fun y26=>
  k25 (y26,s17.2.1,s17.2.2.1,s17.2.2.2.2.1,s17.2.2.2.1,()) else k25 ((y18,iAdd .i64 y10.1 1,0,0,()),s17.2.1,s17.2.2.1,s17.2.2.2.2.1,s17.2.2.2.1,()) else k14 ((s17.2.1.1,s17.2.1.2.1,s17.2.1.2.2.1,s17.2.1.2.2.2.1,s17.2.1.2.2.2.2.1,s17.2.1.2.2.2.2.2.1,s17.2.1.2.2.2.2.2.2.1,s17.2.1.2.2.2.2.2.2.2.1,s17.2.1.2.2.2.2.2.2.2.2.1,s17.2.1.2.2.2.2.2.2.2.2.2.1,s17.2.1.2.2.2.2.2.2.2.2.2.2.1,s17.2.1.2.2.2.2.2.2.2.2.2.2.2.1,s17.2.1.2.2.2.2.2.2.2.2.2.2.2.2.1,s17.2.2.2.2.1,s17.2.1.2.2.2.2.2.2.2.2.2.2.2.2.2.2),s17.2.2.1,())) NN (0,(y9.1.1,y9.1.2.1,y9.1.2.2.1,y9.1.2.2.2.1,y9.1.2.2.2.2.1,y9.1.2.2.2.2.2.1,y9.1.2.2.2.2.2.2.1,y9.1.2.2.2.2.2.2.2.1,cat y9.1.2.2.2.2.2.2.2.2.1 [(x.1.2.1,x.2)],y9.1.2.2.2.2.2.2.2.2.2.1,y9.1.2.2.2.2.2.2.2.2.2.2.1,y9.1.2.2.2.2.2.2.2.2.2.2.2.1,y9.1.2.2.2.2.2.2.2.2.2.2.2.2.1,y9.1.2.2.2.2.2.2.2.2.2.2.2.2.2.1,[],()),(0,0,0,0,0,[],0,0,[],0,0,0,[],[],()),y15.1,[],()) else k14 ((y9.1.1,y9.1.2.1,y9.1.2.2.1,y9.1.2.2.2.1,y9.1.2.2.2.2.1,y9.1.2.2.2.2.2.1,y9.1.2.2.2.2.2.2.1,y9.1.2.2.2.2.2.2.2.1,cat y9.1.2.2.2.2.2.2.2.2.1 [(x.1.2.1,x.2)],y9.1.2.2.2.2.2.2.2.2.2.1,y9.1.2.2.2.2.2.2.2.2.2.2.1,y9.1.2.2.2.2.2.2.2.2.2.2.2.1,y9.1.2.2.2.2.2.2.2.2.2.2.2.2.1,y9.1.2.2.2.2.2.2.2.2.2.2.2.2.2.1,[],()),(0,0,0,0,0,[],0,0,[],0,0,0,[],[],()),())
abbrev ce8:CE:=.con false sg8 F8
theorem co8:ConOK TT 8 sg8 F8:=con_fn (fn:=inlF XX fn8) (ces:=[(37,ce37),(36,ce36),(39,ce39),(38,ce38),(40,ce40),(41,ce41),(42,ce42),(44,ce44),(45,ce45),(43,ce43)]) (ents1 en37 (ents1 en36 (ents1 en39 (ents1 en38 (ents1 en40 (ents1 en41 (ents1 en42 (ents1 en44 (ents1 en45 (ents1 en43 ents0)))))))))) hn8 pm8 (by kernel_rfl) rfl rfl (fun x=>by kernel_rfl)
theorem en8:EntOK TT 8 ce8:=ent_sep co8 (by kernel_rfl) rfl
/- laws.eqEntry -/
def hn103:Hints:=[]
def pm103:List Nat:=[2,3]
abbrev sg103:Sig:=⟨[.dat KEntry,.dat KEntry],[.bool]⟩
def F103 (x:TEntry×TEntry×Unit):Option (Bool×Unit):=
  bif iNe x.1.1 x.2.1.1 then some (false,()) else bif iNe x.1.2.1 x.2.1.2.1 then some (false,()) else bif bNot (strEq x.1.2.2.1 x.2.1.2.2.1) then some (false,()) else some (true,())
abbrev ce103:CE:=.con true sg103 F103
theorem co103:ConOK TT 103 sg103 F103:=con_fn (fn:=inlF XX fn103) (ces:=[]) ents0 hn103 pm103 (by kernel_rfl) rfl rfl (fun x=>by kernel_rfl)
theorem en103:EntOK TT 103 ce103:=ent_fz co103 (by kernel_rfl) rfl rfl rfl
/- laws.eqEntryS -/
def hn94:Hints:=[(6,(.sl 3 KEntry),true),(8,(.sl 3 KEntry),true),(12,(.sl 3 KEntry),true),(17,(.sl 3 KEntry),true),(21,(.sl 3 KEntry),true)]
def pm94:List Nat:=[]
abbrev sg94:Sig:=⟨[.dat (.sl 3 KEntry),.dat (.sl 3 KEntry)],[.bool]⟩
def F94 (x:List TEntry×List TEntry×Unit):Option (Bool×Unit):=
  bif iNe (lenI x.1) (lenI x.2.1) then some (false,()) else loopF (fun rec0 (s1:Int×Unit)=>
  bif iLt s1.1 (lenI x.1) then idxK x.1 s1.1 fun y2=>
  idxK x.2.1 s1.1 fun y3=>
  bindK (F103 (y2,y3,())) fun y4=>
  bif bNot y4.1 then some (false,()) else rec0 (iAdd .i64 s1.1 1,()) else some (true,())) NN (0,())
abbrev ce94:CE:=.con true sg94 F94
theorem co94:ConOK TT 94 sg94 F94:=con_fn (fn:=inlF XX fn94) (ces:=[(103,ce103)]) (ents1 en103 ents0) hn94 pm94 (by kernel_rfl) rfl rfl (fun x=>by kernel_rfl)
theorem en94:EntOK TT 94 ce94:=ent_fz co94 (by kernel_rfl) rfl rfl rfl
/- laws.eqIntS -/
def hn46:Hints:=[(6,(.sl 1 I),true),(8,(.sl 1 I),true),(12,(.sl 1 I),true),(17,(.sl 1 I),true),(21,(.sl 1 I),true)]
def pm46:List Nat:=[]
abbrev sg46:Sig:=⟨[.dat (.sl 1 I),.dat (.sl 1 I)],[.bool]⟩
def F46 (x:List Int×List Int×Unit):Option (Bool×Unit):=
  bif iNe (lenI x.1) (lenI x.2.1) then some (false,()) else loopF (fun rec0 (s1:Int×Unit)=>
  bif iLt s1.1 (lenI x.1) then idxK x.1 s1.1 fun y2=>
  idxK x.2.1 s1.1 fun y3=>
  bif iNe y2 y3 then some (false,()) else rec0 (iAdd .i64 s1.1 1,()) else some (true,())) NN (0,())
abbrev ce46:CE:=.con true sg46 F46
theorem co46:ConOK TT 46 sg46 F46:=con_fn (fn:=inlF XX fn46) (ces:=[]) ents0 hn46 pm46 (by kernel_rfl) rfl rfl (fun x=>by kernel_rfl)
theorem en46:EntOK TT 46 ce46:=ent_fz co46 (by kernel_rfl) rfl rfl rfl
/- laws.eqMessage -/
def hn49:Hints:=[(2,KMessage,true),(3,KMessage,true),(46,(.sl 3 KEntry),true),(48,(.sl 3 KEntry),true),(52,(.sl 1 I),true),(54,(.sl 1 I),true)]
def pm49:List Nat:=[2,3]
abbrev sg49:Sig:=⟨[.dat KMessage,.dat KMessage],[.bool]⟩
def F49 (x:TMessage×TMessage×Unit):Option (Bool×Unit):=
  bif iNe x.1.1 x.2.1.1 then some (false,()) else bif iNe x.1.2.1 x.2.1.2.1 then some (false,()) else bif iNe x.1.2.2.1 x.2.1.2.2.1 then some (false,()) else bif iNe x.1.2.2.2.1 x.2.1.2.2.2.1 then some (false,()) else bif iNe x.1.2.2.2.2.1 x.2.1.2.2.2.2.1 then some (false,()) else bif iNe x.1.2.2.2.2.2.1 x.2.1.2.2.2.2.2.1 then some (false,()) else bif iNe x.1.2.2.2.2.2.2.1 x.2.1.2.2.2.2.2.2.1 then some (false,()) else bif bNe x.1.2.2.2.2.2.2.2.1 x.2.1.2.2.2.2.2.2.2.1 then some (false,()) else bindK (F94 (x.1.2.2.2.2.2.2.2.2.1,x.2.1.2.2.2.2.2.2.2.2.1,())) fun y0=>
  bif bNot y0.1 then some (false,()) else bindK (F46 (x.1.2.2.2.2.2.2.2.2.2.1,x.2.1.2.2.2.2.2.2.2.2.2.1,())) fun y1=>
  bif bNot y1.1 then some (false,()) else bif bNot (strEq x.1.2.2.2.2.2.2.2.2.2.2.1 x.2.1.2.2.2.2.2.2.2.2.2.2.1) then some (false,()) else bif bNe x.1.2.2.2.2.2.2.2.2.2.2.2.1 x.2.1.2.2.2.2.2.2.2.2.2.2.2.1 then some (false,()) else some (true,())
abbrev ce49:CE:=.con true sg49 F49
theorem co49:ConOK TT 49 sg49 F49:=con_fn (fn:=inlF XX fn49) (ces:=[(94,ce94),(46,ce46)]) (ents1 en94 (ents1 en46 ents0)) hn49 pm49 (by kernel_rfl) rfl rfl (fun x=>by kernel_rfl)
theorem en49:EntOK TT 49 ce49:=ent_fz co49 (by kernel_rfl) rfl rfl rfl
/- laws.eqMessageS -/
def hn10:Hints:=[(6,(.sl 12 KMessage),true),(8,(.sl 12 KMessage),true),(12,(.sl 12 KMessage),true),(17,(.sl 12 KMessage),true),(20,KMessage,true),(21,(.sl 12 KMessage),true),(24,KMessage,true)]
def pm10:List Nat:=[]
abbrev sg10:Sig:=⟨[.dat (.sl 12 KMessage),.dat (.sl 12 KMessage)],[.bool]⟩
def F10 (x:List TMessage×List TMessage×Unit):Option (Bool×Unit):=
  bif iNe (lenI x.1) (lenI x.2.1) then some (false,()) else loopF (fun rec0 (s1:Int×Unit)=>
  bif iLt s1.1 (lenI x.1) then idxK x.1 s1.1 fun y2=>
  idxK x.2.1 s1.1 fun y3=>
  bindK (F49 (y2,y3,())) fun y4=>
  bif bNot y4.1 then some (false,()) else rec0 (iAdd .i64 s1.1 1,()) else some (true,())) NN (0,())
abbrev ce10:CE:=.con true sg10 F10
theorem co10:ConOK TT 10 sg10 F10:=con_fn (fn:=inlF XX fn10) (ces:=[(49,ce49)]) (ents1 en49 ents0) hn10 pm10 (by kernel_rfl) rfl rfl (fun x=>by kernel_rfl)
theorem en10:EntOK TT 10 ce10:=ent_fz co10 (by kernel_rfl) rfl rfl rfl
/- laws.eqLog -/
def hn47:Hints:=[(2,KLog,true),(3,KLog,true),(16,(.sl 3 KEntry),true),(18,(.sl 3 KEntry),true)]
def pm47:List Nat:=[2,3]
abbrev sg47:Sig:=⟨[.dat KLog,.dat KLog],[.bool]⟩
def F47 (x:TLog×TLog×Unit):Option (Bool×Unit):=
  bif iNe x.1.1 x.2.1.1 then some (false,()) else bif iNe x.1.2.1 x.2.1.2.1 then some (false,()) else bindK (F94 (x.1.2.2.1,x.2.1.2.2)) fun y0=>
  bif bNot y0.1 then some (false,()) else some (true,())
abbrev ce47:CE:=.con true sg47 F47
theorem co47:ConOK TT 47 sg47 F47:=con_fn (fn:=inlF XX fn47) (ces:=[(94,ce94)]) (ents1 en94 ents0) hn47 pm47 (by kernel_rfl) rfl rfl (fun x=>by kernel_rfl)
theorem en47:EntOK TT 47 ce47:=ent_fz co47 (by kernel_rfl) rfl rfl rfl
/- laws.eqPeer -/
def hn95:Hints:=[]
def pm95:List Nat:=[2,3]
abbrev sg95:Sig:=⟨[.dat KPeer,.dat KPeer],[.bool]⟩
def F95 (x:TPeer×TPeer×Unit):Option (Bool×Unit):=
  bif iNe x.1.1 x.2.1.1 then some (false,()) else bif iNe x.1.2.1 x.2.1.2.1 then some (false,()) else bif iNe x.1.2.2.1 x.2.1.2.2.1 then some (false,()) else bif iNe x.1.2.2.2.1 x.2.1.2.2.2.1 then some (false,()) else some (true,())
abbrev ce95:CE:=.con true sg95 F95
theorem co95:ConOK TT 95 sg95 F95:=con_fn (fn:=inlF XX fn95) (ces:=[]) ents0 hn95 pm95 (by kernel_rfl) rfl rfl (fun x=>by kernel_rfl)
theorem en95:EntOK TT 95 ce95:=ent_fz co95 (by kernel_rfl) rfl rfl rfl
/- laws.eqPeerS -/
def hn48:Hints:=[(6,(.sl 4 KPeer),true),(8,(.sl 4 KPeer),true),(12,(.sl 4 KPeer),true),(17,(.sl 4 KPeer),true),(21,(.sl 4 KPeer),true)]
def pm48:List Nat:=[]
abbrev sg48:Sig:=⟨[.dat (.sl 4 KPeer),.dat (.sl 4 KPeer)],[.bool]⟩
def F48 (x:List TPeer×List TPeer×Unit):Option (Bool×Unit):=
  bif iNe (lenI x.1) (lenI x.2.1) then some (false,()) else loopF (fun rec0 (s1:Int×Unit)=>
  bif iLt s1.1 (lenI x.1) then idxK x.1 s1.1 fun y2=>
  idxK x.2.1 s1.1 fun y3=>
  bindK (F95 (y2,y3,())) fun y4=>
  bif bNot y4.1 then some (false,()) else rec0 (iAdd .i64 s1.1 1,()) else some (true,())) NN (0,())
abbrev ce48:CE:=.con true sg48 F48
theorem co48:ConOK TT 48 sg48 F48:=con_fn (fn:=inlF XX fn48) (ces:=[(95,ce95)]) (ents1 en95 ents0) hn48 pm48 (by kernel_rfl) rfl rfl (fun x=>by kernel_rfl)
theorem en48:EntOK TT 48 ce48:=ent_fz co48 (by kernel_rfl) rfl rfl rfl
/- laws.eqNode -/
def hn9:Hints:=[(2,KNode,true),(3,KNode,true),(31,(.sl 1 I),true),(33,(.sl 1 I),true),(37,KLog,true),(39,KLog,true),(58,(.sl 1 I),true),(60,(.sl 1 I),true),(64,(.sl 4 KPeer),true),(66,(.sl 4 KPeer),true)]
def pm9:List Nat:=[2,3]
abbrev sg9:Sig:=⟨[.dat KNode,.dat KNode],[.bool]⟩
def F9 (x:TNode×TNode×Unit):Option (Bool×Unit):=
  bif iNe x.1.1 x.2.1.1 then some (false,()) else bif iNe x.1.2.1 x.2.1.2.1 then some (false,()) else bif iNe x.1.2.2.1 x.2.1.2.2.1 then some (false,()) else bif iNe x.1.2.2.2.1 x.2.1.2.2.2.1 then some (false,()) else bif iNe x.1.2.2.2.2.1 x.2.1.2.2.2.2.1 then some (false,()) else bindK (F46 (x.1.2.2.2.2.2.1,x.2.1.2.2.2.2.2.1,())) fun y0=>
  bif bNot y0.1 then some (false,()) else bindK (F47 ((x.1.2.2.2.2.2.2.1,x.1.2.2.2.2.2.2.2.1,x.1.2.2.2.2.2.2.2.2.1,()),(x.2.1.2.2.2.2.2.2.1,x.2.1.2.2.2.2.2.2.2.1,x.2.1.2.2.2.2.2.2.2.2.1,()),())) fun y1=>
  bif bNot y1.1 then some (false,()) else bif iNe x.1.2.2.2.2.2.2.2.2.2.1 x.2.1.2.2.2.2.2.2.2.2.2.1 then some (false,()) else bif iNe x.1.2.2.2.2.2.2.2.2.2.2.1 x.2.1.2.2.2.2.2.2.2.2.2.2.1 then some (false,()) else bif iNe x.1.2.2.2.2.2.2.2.2.2.2.2.1 x.2.1.2.2.2.2.2.2.2.2.2.2.2.1 then some (false,()) else bindK (F46 (x.1.2.2.2.2.2.2.2.2.2.2.2.2.1,x.2.1.2.2.2.2.2.2.2.2.2.2.2.2.1,())) fun y2=>
  bif bNot y2.1 then some (false,()) else bindK (F48 (x.1.2.2.2.2.2.2.2.2.2.2.2.2.2.1,x.2.1.2.2.2.2.2.2.2.2.2.2.2.2.2)) fun y3=>
  bif bNot y3.1 then some (false,()) else some (true,())
abbrev ce9:CE:=.con true sg9 F9
theorem co9:ConOK TT 9 sg9 F9:=con_fn (fn:=inlF XX fn9) (ces:=[(46,ce46),(47,ce47),(48,ce48)]) (ents1 en46 (ents1 en47 (ents1 en48 ents0))) hn9 pm9 (by kernel_rfl) rfl rfl (fun x=>by kernel_rfl)
theorem en9:EntOK TT 9 ce9:=ent_fz co9 (by kernel_rfl) rfl rfl rfl
/- laws.markIntS -/
def hn50:Hints:=[(7,(.sl 1 I),true),(12,(.sl 1 I),true)]
def pm50:List Nat:=[]
abbrev sg50:Sig:=⟨[.kept (.sl 1 I),.dat I],[I]⟩
def F50 (x:List Int×Int×Unit):Option (Int×List Int×Unit):=
  loopF (fun rec0 (s1:Int×Int×List Int×Unit)=>
  bif iLt s1.1 (lenI s1.2.2.1) then idxK s1.2.2.1 s1.1 fun y2=>
  rec0 (iAdd .i64 s1.1 1,iAdd .i64 s1.2.1 1,setL s1.2.2.1 (toN s1.1) s1.2.1,()) else some s1.2) NN (0,x.2.1,x.1,())
abbrev ce50:CE:=.con false sg50 F50
theorem co50:ConOK TT 50 sg50 F50:=con_fn (fn:=inlF XX fn50) (ces:=[]) ents0 hn50 pm50 (by kernel_rfl) rfl rfl (fun x=>by kernel_rfl)
theorem en50:EntOK TT 50 ce50:=ent_sep co50 (by kernel_rfl) rfl
/- laws.markText -/
def hn54:Hints:=[(12,(.sl 1 (.int .u8)),true)]
def pm54:List Nat:=[]
abbrev sg54:Sig:=⟨[.dat I],[.str]⟩
def F54 (x:Int×Unit):Option (List UInt8×Unit):=
  bif iLe x.1 0 then some (litS [109,48],()) else loopF (fun rec0 (s1:Int×List UInt8×Unit)=>
  bif iGt s1.1 0 then guardK (gNz 10) <|
  guardK (gCat (strP [iConv .u8 (iAdd .i64 48 (iRem s1.1 10))]) s1.2.1) <|
  guardK (gNz 10) <|
  rec0 (iQuo .i64 s1.1 10,cat (strP [iConv .u8 (iAdd .i64 48 (iRem s1.1 10))]) s1.2.1,()) else guardK (gCat (litS [109]) s1.2.1) <|
  some (cat (litS [109]) s1.2.1,())) NN (x.1,litS [],())
abbrev ce54:CE:=.con true sg54 F54
theorem co54:ConOK TT 54 sg54 F54:=con_fn (fn:=inlF XX fn54) (ces:=[]) ents0 hn54 pm54 (by kernel_rfl) rfl rfl (fun x=>by kernel_rfl)
theorem en54:EntOK TT 54 ce54:=ent_fz co54 (by kernel_rfl) rfl rfl rfl
/- laws.markEntryS -/
def hn53:Hints:=[(7,(.sl 3 KEntry),true),(12,(.sl 3 KEntry),true),(19,(.sl 3 KEntry),true),(26,(.sl 3 KEntry),true)]
def pm53:List Nat:=[]
abbrev sg53:Sig:=⟨[.kept (.sl 3 KEntry),.dat I],[I]⟩
def F53 (x:List TEntry×Int×Unit):Option (Int×List TEntry×Unit):=
  loopF (fun rec0 (s1:TLog)=>
  bif iLt s1.1 (lenI s1.2.2.1) then idxK s1.2.2.1 s1.1 fun y2=>
  idxK (setL s1.2.2.1 (toN s1.1) (s1.2.1,y2.2)) s1.1 fun y3=>
  bindK (F54 (iAdd .i64 (iAdd .i64 s1.2.1 1) 1,())) fun y4=>
  idxK (setL (setL s1.2.2.1 (toN s1.1) (s1.2.1,y2.2)) (toN s1.1) (y3.1,iAdd .i64 s1.2.1 1,y3.2.2)) s1.1 fun y5=>
  rec0 (iAdd .i64 s1.1 1,iAdd .i64 (iAdd .i64 (iAdd .i64 s1.2.1 1) 1) 1,setL (setL (setL s1.2.2.1 (toN s1.1) (s1.2.1,y2.2)) (toN s1.1) (y3.1,iAdd .i64 s1.2.1 1,y3.2.2)) (toN s1.1) (y5.1,y5.2.1,y4),()) else some s1.2) NN (0,x.2.1,x.1,())
abbrev ce53:CE:=.con false sg53 F53
theorem co53:ConOK TT 53 sg53 F53:=con_fn (fn:=inlF XX fn53) (ces:=[(54,ce54)]) (ents1 en54 ents0) hn53 pm53 (by kernel_rfl) rfl rfl (fun x=>by kernel_rfl)
theorem en53:EntOK TT 53 ce53:=ent_sep co53 (by kernel_rfl) rfl
/- laws.markPeerS -/
def hn52:Hints:=[(7,(.sl 4 KPeer),true),(12,(.sl 4 KPeer),true),(19,(.sl 4 KPeer),true),(26,(.sl 4 KPeer),true),(33,(.sl 4 KPeer),true)]
def pm52:List Nat:=[]
abbrev sg52:Sig:=⟨[.kept (.sl 4 KPeer),.dat I],[I]⟩
def F52 (x:List TPeer×Int×Unit):Option (Int×List TPeer×Unit):=
  loopF (fun rec0 (s1:Int×Int×List TPeer×Unit)=>
  bif iLt s1.1 (lenI s1.2.2.1) then idxK s1.2.2.1 s1.1 fun y2=>
  idxK (setL s1.2.2.1 (toN s1.1) (s1.2.1,y2.2)) s1.1 fun y3=>
  idxK (setL (setL s1.2.2.1 (toN s1.1) (s1.2.1,y2.2)) (toN s1.1) (y3.1,iAdd .i64 s1.2.1 1,y3.2.2)) s1.1 fun y4=>
  idxK (setL (setL (setL s1.2.2.1 (toN s1.1) (s1.2.1,y2.2)) (toN s1.1) (y3.1,iAdd .i64 s1.2.1 1,y3.2.2)) (toN s1.1) (y4.1,y4.2.1,iAdd .i64 (iAdd .i64 s1.2.1 1) 1,y4.2.2.2)) s1.1 fun y5=>
  rec0 (iAdd .i64 s1.1 1,iAdd .i64 (iAdd .i64 (iAdd .i64 (iAdd .i64 s1.2.1 1) 1) 1) 1,setL (setL (setL (setL s1.2.2.1 (toN s1.1) (s1.2.1,y2.2)) (toN s1.1) (y3.1,iAdd .i64 s1.2.1 1,y3.2.2)) (toN s1.1) (y4.1,y4.2.1,iAdd .i64 (iAdd .i64 s1.2.1 1) 1,y4.2.2.2)) (toN s1.1) (y5.1,y5.2.1,y5.2.2.1,iAdd .i64 (iAdd .i64 (iAdd .i64 s1.2.1 1) 1) 1,()),()) else some s1.2) NN (0,x.2.1,x.1,())
abbrev ce52:CE:=.con false sg52 F52
theorem co52:ConOK TT 52 sg52 F52:=con_fn (fn:=inlF XX fn52) (ces:=[]) ents0 hn52 pm52 (by kernel_rfl) rfl rfl (fun x=>by kernel_rfl)
theorem en52:EntOK TT 52 ce52:=ent_sep co52 (by kernel_rfl) rfl
/- laws.heldIntS -/
def hn55:Hints:=[(7,(.sl 1 I),true),(12,(.sl 1 I),true)]
def pm55:List Nat:=[]
abbrev sg55:Sig:=⟨[.dat (.sl 1 I),.dat I],[I]⟩
def F55 (x:List Int×Int×Unit):Option (Int×Unit):=
  loopF (fun rec0 (s1:Int×Int×Unit)=>
  bif iLt s1.1 (lenI x.1) then idxK x.1 s1.1 fun y2=>
  bif iNe y2 s1.2.1 then some ((-1),()) else rec0 (iAdd .i64 s1.1 1,iAdd .i64 s1.2.1 1,()) else some s1.2) NN (0,x.2)
abbrev ce55:CE:=.con true sg55 F55
theorem co55:ConOK TT 55 sg55 F55:=con_fn (fn:=inlF XX fn55) (ces:=[]) ents0 hn55 pm55 (by kernel_rfl) rfl rfl (fun x=>by kernel_rfl)
theorem en55:EntOK TT 55 ce55:=ent_fz co55 (by kernel_rfl) rfl rfl rfl
/- laws.heldEntryS -/
def hn58:Hints:=[(7,(.sl 3 KEntry),true),(12,(.sl 3 KEntry),true),(21,(.sl 3 KEntry),true),(30,(.sl 3 KEntry),true)]
def pm58:List Nat:=[]
abbrev sg58:Sig:=⟨[.dat (.sl 3 KEntry),.dat I],[I]⟩
def F58 (x:List TEntry×Int×Unit):Option (Int×Unit):=
  loopF (fun rec0 (s1:Int×Int×Unit)=>
  bif iLt s1.1 (lenI x.1) then idxK x.1 s1.1 fun y2=>
  bif iNe y2.1 s1.2.1 then some ((-1),()) else idxK x.1 s1.1 fun y3=>
  bif iNe y3.2.1 (iAdd .i64 s1.2.1 1) then some ((-1),()) else idxK x.1 s1.1 fun y4=>
  bindK (F54 (iAdd .i64 (iAdd .i64 s1.2.1 1) 1,())) fun y5=>
  bif bNot (strEq y4.2.2.1 y5.1) then some ((-1),()) else rec0 (iAdd .i64 s1.1 1,iAdd .i64 (iAdd .i64 (iAdd .i64 s1.2.1 1) 1) 1,()) else some s1.2) NN (0,x.2)
abbrev ce58:CE:=.con true sg58 F58
theorem co58:ConOK TT 58 sg58 F58:=con_fn (fn:=inlF XX fn58) (ces:=[(54,ce54)]) (ents1 en54 ents0) hn58 pm58 (by kernel_rfl) rfl rfl (fun x=>by kernel_rfl)
theorem en58:EntOK TT 58 ce58:=ent_fz co58 (by kernel_rfl) rfl rfl rfl
/- laws.heldLog -/
def hn56:Hints:=[(2,KLog,true),(6,(.sl 3 KEntry),true)]
def pm56:List Nat:=[2]
abbrev sg56:Sig:=⟨[.dat KLog,.dat I],[I]⟩
def F56 (x:TLog×Int×Unit):Option (Int×Unit):=
  bindK (F58 (x.1.2.2.1,x.2)) fun y0=>
  bif iLt y0.1 0 then some ((-1),()) else some y0
abbrev ce56:CE:=.con true sg56 F56
theorem co56:ConOK TT 56 sg56 F56:=con_fn (fn:=inlF XX fn56) (ces:=[(58,ce58)]) (ents1 en58 ents0) hn56 pm56 (by kernel_rfl) rfl rfl (fun x=>by kernel_rfl)
theorem en56:EntOK TT 56 ce56:=ent_fz co56 (by kernel_rfl) rfl rfl rfl
/- laws.heldPeerS -/
def hn57:Hints:=[(7,(.sl 4 KPeer),true),(12,(.sl 4 KPeer),true),(21,(.sl 4 KPeer),true),(30,(.sl 4 KPeer),true),(39,(.sl 4 KPeer),true)]
def pm57:List Nat:=[]
abbrev sg57:Sig:=⟨[.dat (.sl 4 KPeer),.dat I],[I]⟩
def F57 (x:List TPeer×Int×Unit):Option (Int×Unit):=
  loopF (fun rec0 (s1:Int×Int×Unit)=>
  bif iLt s1.1 (lenI x.1) then idxK x.1 s1.1 fun y2=>
  bif iNe y2.1 s1.2.1 then some ((-1),()) else idxK x.1 s1.1 fun y3=>
  bif iNe y3.2.1 (iAdd .i64 s1.2.1 1) then some ((-1),()) else idxK x.1 s1.1 fun y4=>
  bif iNe y4.2.2.1 (iAdd .i64 (iAdd .i64 s1.2.1 1) 1) then some ((-1),()) else idxK x.1 s1.1 fun y5=>
  bif iNe y5.2.2.2.1 (iAdd .i64 (iAdd .i64 (iAdd .i64 s1.2.1 1) 1) 1) then some ((-1),()) else rec0 (iAdd .i64 s1.1 1,iAdd .i64 (iAdd .i64 (iAdd .i64 (iAdd .i64 s1.2.1 1) 1) 1) 1,()) else some s1.2) NN (0,x.2)
abbrev ce57:CE:=.con true sg57 F57
theorem co57:ConOK TT 57 sg57 F57:=con_fn (fn:=inlF XX fn57) (ces:=[]) ents0 hn57 pm57 (by kernel_rfl) rfl rfl (fun x=>by kernel_rfl)
theorem en57:EntOK TT 57 ce57:=ent_fz co57 (by kernel_rfl) rfl rfl rfl
/- laws.heldNode -/
def hn13:Hints:=[(2,KNode,true),(6,(.sl 1 I),true),(12,KLog,true),(18,(.sl 1 I),true),(24,(.sl 4 KPeer),true)]
def pm13:List Nat:=[2]
abbrev sg13:Sig:=⟨[.dat KNode,.dat I],[I]⟩
def F13 (x:TNode×Int×Unit):Option (Int×Unit):=
  bindK (F55 (x.1.2.2.2.2.2.1,x.2)) fun y0=>
  bif iLt y0.1 0 then some ((-1),()) else bindK (F56 ((x.1.2.2.2.2.2.2.1,x.1.2.2.2.2.2.2.2.1,x.1.2.2.2.2.2.2.2.2.1,()),y0)) fun y1=>
  bif iLt y1.1 0 then some ((-1),()) else bindK (F55 (x.1.2.2.2.2.2.2.2.2.2.2.2.2.1,y1)) fun y2=>
  bif iLt y2.1 0 then some ((-1),()) else bindK (F57 (x.1.2.2.2.2.2.2.2.2.2.2.2.2.2.1,y2)) fun y3=>
  bif iLt y3.1 0 then some ((-1),()) else some y3
abbrev ce13:CE:=.con true sg13 F13
theorem co13:ConOK TT 13 sg13 F13:=con_fn (fn:=inlF XX fn13) (ces:=[(55,ce55),(56,ce56),(57,ce57)]) (ents1 en55 (ents1 en56 (ents1 en57 ents0))) hn13 pm13 (by kernel_rfl) rfl rfl (fun x=>by kernel_rfl)
theorem en13:EntOK TT 13 ce13:=ent_fz co13 (by kernel_rfl) rfl rfl rfl
/- laws.heldMessageS -/
def hn14:Hints:=[(7,(.sl 12 KMessage),true),(12,(.sl 12 KMessage),true),(21,(.sl 12 KMessage),true),(30,(.sl 12 KMessage),true),(39,(.sl 12 KMessage),true),(48,(.sl 12 KMessage),true),(57,(.sl 12 KMessage),true),(66,(.sl 12 KMessage),true),(75,(.sl 12 KMessage),true),(86,(.sl 12 KMessage),true),(90,(.sl 3 KEntry),true),(95,(.sl 12 KMessage),true),(99,(.sl 1 I),true),(104,(.sl 12 KMessage),true),(114,(.sl 12 KMessage),true)]
def pm14:List Nat:=[]
abbrev sg14:Sig:=⟨[.dat (.sl 12 KMessage),.dat I],[I]⟩
def F14 (x:List TMessage×Int×Unit):Option (Int×Unit):=
  loopF (fun rec0 (s1:Int×Int×Unit)=>
  bif iLt s1.1 (lenI x.1) then idxK x.1 s1.1 fun y2=>
  bif iNe y2.1 s1.2.1 then some ((-1),()) else idxK x.1 s1.1 fun y3=>
  bif iNe y3.2.1 (iAdd .i64 s1.2.1 1) then some ((-1),()) else idxK x.1 s1.1 fun y4=>
  bif iNe y4.2.2.1 (iAdd .i64 (iAdd .i64 s1.2.1 1) 1) then some ((-1),()) else idxK x.1 s1.1 fun y5=>
  bif iNe y5.2.2.2.1 (iAdd .i64 (iAdd .i64 (iAdd .i64 s1.2.1 1) 1) 1) then some ((-1),()) else idxK x.1 s1.1 fun y6=>
  bif iNe y6.2.2.2.2.1 (iAdd .i64 (iAdd .i64 (iAdd .i64 (iAdd .i64 s1.2.1 1) 1) 1) 1) then some ((-1),()) else idxK x.1 s1.1 fun y7=>
  bif iNe y7.2.2.2.2.2.1 (iAdd .i64 (iAdd .i64 (iAdd .i64 (iAdd .i64 (iAdd .i64 s1.2.1 1) 1) 1) 1) 1) then some ((-1),()) else idxK x.1 s1.1 fun y8=>
  bif iNe y8.2.2.2.2.2.2.1 (iAdd .i64 (iAdd .i64 (iAdd .i64 (iAdd .i64 (iAdd .i64 (iAdd .i64 s1.2.1 1) 1) 1) 1) 1) 1) then some ((-1),()) else idxK x.1 s1.1 fun y9=>
  guardK (gNz 3) <|
  bif bNe y9.2.2.2.2.2.2.2.1 (iEq (iRem (iAdd .i64 (iAdd .i64 (iAdd .i64 (iAdd .i64 (iAdd .i64 (iAdd .i64 (iAdd .i64 s1.2.1 1) 1) 1) 1) 1) 1) 1) 3) 0) then some ((-1),()) else idxK x.1 s1.1 fun y10=>
  bindK (F58 (y10.2.2.2.2.2.2.2.2.1,iAdd .i64 (iAdd .i64 (iAdd .i64 (iAdd .i64 (iAdd .i64 (iAdd .i64 (iAdd .i64 (iAdd .i64 s1.2.1 1) 1) 1) 1) 1) 1) 1) 1,())) fun y11=>
  bif iLt y11.1 0 then some ((-1),()) else idxK x.1 s1.1 fun y12=>
  bindK (F55 (y12.2.2.2.2.2.2.2.2.2.1,y11)) fun y13=>
  bif iLt y13.1 0 then some ((-1),()) else idxK x.1 s1.1 fun y14=>
  bindK (F54 y13) fun y15=>
  bif bNot (strEq y14.2.2.2.2.2.2.2.2.2.2.1 y15.1) then some ((-1),()) else idxK x.1 s1.1 fun y16=>
  guardK (gNz 3) <|
  bif bNe y16.2.2.2.2.2.2.2.2.2.2.2.1 (iEq (iRem (iAdd .i64 y13.1 1) 3) 0) then some ((-1),()) else rec0 (iAdd .i64 s1.1 1,iAdd .i64 (iAdd .i64 y13.1 1) 1,()) else some s1.2) NN (0,x.2)
abbrev ce14:CE:=.con true sg14 F14
theorem co14:ConOK TT 14 sg14 F14:=con_fn (fn:=inlF XX fn14) (ces:=[(58,ce58),(55,ce55),(54,ce54)]) (ents1 en58 (ents1 en55 (ents1 en54 ents0))) hn14 pm14 (by kernel_rfl) rfl rfl (fun x=>by kernel_rfl)
theorem en14:EntOK TT 14 ce14:=ent_fz co14 (by kernel_rfl) rfl rfl rfl
/- laws.FnExactPropose -/
def hn3:Hints:=[(3,KNode,true),(8,KNode,true),(9,(.sl 12 KMessage),true),(12,KNode,true),(13,KNode,true),(14,(.sl 12 KMessage),true),(20,KNode,true),(21,(.sl 12 KMessage),true),(27,KNode,true),(33,KNode,true),(34,KNode,true),(38,KNode,true),(39,(.sl 12 KMessage),true),(42,KNode,true),(43,KNode,true),(45,KNode,true),(49,KNode,true),(50,(.sl 12 KMessage),true),(53,KNode,true),(54,KNode,true),(58,(.sl 12 KMessage),true),(59,(.sl 12 KMessage),true),(73,KNode,true),(74,KNode,true),(75,KNode,true),(78,KNode,true),(84,KNode,true),(85,KNode,true),(90,(.sl 12 KMessage),true),(91,(.sl 12 KMessage),true),(105,KNode,true),(108,(.sl 12 KMessage),true),(111,KNode,true),(116,(.sl 12 KMessage),true),(125,KNode,true),(126,KNode,true),(130,KNode,true),(131,(.sl 12 KMessage),true),(134,KNode,true),(135,KNode,true),(139,(.sl 12 KMessage),true),(140,(.sl 12 KMessage),true),(154,KNode,true),(159,(.sl 12 KMessage),true),(65538,KNode,true),(65542,(.sl 1 I),true),(65543,(.sl 12 KMessage),true),(65546,KLog,true),(65548,(.sl 12 KMessage),true),(65550,(.sl 1 I),true),(65554,(.sl 4 KPeer),true),(65555,(.sl 12 KMessage),true),(65562,(.sl 12 KMessage),true),(65569,(.sl 12 KMessage),true),(65576,(.sl 12 KMessage),true),(65583,(.sl 12 KMessage),true),(65590,(.sl 12 KMessage),true),(65597,(.sl 12 KMessage),true),(65606,(.sl 12 KMessage),true),(65610,(.sl 3 KEntry),true),(65613,(.sl 12 KMessage),true),(65617,(.sl 1 I),true),(65620,(.sl 12 KMessage),true),(65628,(.sl 12 KMessage),true),(131074,KLog,true),(131078,(.sl 3 KEntry),true)]
def pm3:List Nat:=[3,8,12,13,20]
abbrev sg3:Sig:=⟨[.dat KNode,.dat I,.dat .str],[.bool]⟩
def F3 (x:TNode×Int×List UInt8×Unit):Option (Bool×Unit):=
  bif iGt (lenI x.2.2.1) 1048576 then some (true,()) else bindK (F5 (x.1,1048576,())) fun y0=>
  bif iLt y0.1 0 then some (true,()) else bindK (F7 (x.1,())) fun y1=>
  bindK (F6 (y1.1,x.2)) fun y2=>
  bindK (F7 (x.1,())) fun y3=>
  bindK (F8 (y3.1,x.2)) fun y4=>
  bindK (F9 (y4.1,y2.1,())) fun y5=>
  bindK (bif bNot y5.1 then some true else bindK (F10 (y4.2.1,y2.2.1,())) fun y6=>
  some (bNot y6.1)) fun y7=>
  bindK (bif y7 then some true else some (iNe y4.2.2.1 y2.2.2.1)) fun y8=>
  bindK (bif y8 then some true else some (bNe y4.2.2.2.1 y2.2.2.2.1)) fun y9=>
  bif y9 then some (false,()) else bindK (F7 (x.1,())) fun y10=>
  bindK (F9 (y3.1,y10)) fun y11=>
  bif bNot y11.1 then some (false,()) else bindK (F50 (y3.1.2.2.2.2.2.1,1,())) fun y12=>
  bindK (F53 (y3.1.2.2.2.2.2.2.2.2.1,y12.1,())) fun y13=>
  bindK (F50 (y3.1.2.2.2.2.2.2.2.2.2.2.2.2.1,y13.1,())) fun y14=>
  bindK (F52 (y3.1.2.2.2.2.2.2.2.2.2.2.2.2.2.1,y14.1,())) fun y15=>
  bindK (bif iLt y15.1 0 then some true else bindK (F9 (y4.1,y2.1,())) fun y16=>
  some (bNot y16.1)) fun y17=>
  bindK (bif y17 then some true else bindK (F10 (y4.2.1,y2.2.1,())) fun y18=>
  some (bNot y18.1)) fun y19=>
  bindK (bif y19 then some true else some (iNe y4.2.2.1 y2.2.2.1)) fun y20=>
  bindK (bif y20 then some true else some (bNe y4.2.2.2.1 y2.2.2.2.1)) fun y21=>
  bif y21 then some (false,()) else bindK (F50 (y4.1.2.2.2.2.2.1,1,())) fun y22=>
  bindK (F53 (y4.1.2.2.2.2.2.2.2.2.1,y22.1,())) fun y23=>
  bindK (F50 (y4.1.2.2.2.2.2.2.2.2.2.2.2.2.1,y23.1,())) fun y24=>
  bindK (F52 (y4.1.2.2.2.2.2.2.2.2.2.2.2.2.2.1,y24.1,())) fun y25=>
  loopF (fun rec26 (s27:Int×Int×TNode×TNode×List TMessage×List TMessage×Unit)=>
  bif iLt s27.1 (lenI s27.2.2.2.2.1) then idxK s27.2.2.2.2.1 s27.1 fun y28=>
  idxK (setL s27.2.2.2.2.1 (toN s27.1) (s27.2.1,y28.2)) s27.1 fun y29=>
  idxK (setL (setL s27.2.2.2.2.1 (toN s27.1) (s27.2.1,y28.2)) (toN s27.1) (y29.1,iAdd .i64 s27.2.1 1,y29.2.2)) s27.1 fun y30=>
  idxK (setL (setL (setL s27.2.2.2.2.1 (toN s27.1) (s27.2.1,y28.2)) (toN s27.1) (y29.1,iAdd .i64 s27.2.1 1,y29.2.2)) (toN s27.1) (y30.1,y30.2.1,iAdd .i64 (iAdd .i64 s27.2.1 1) 1,y30.2.2.2)) s27.1 fun y31=>
  idxK (setL (setL (setL (setL s27.2.2.2.2.1 (toN s27.1) (s27.2.1,y28.2)) (toN s27.1) (y29.1,iAdd .i64 s27.2.1 1,y29.2.2)) (toN s27.1) (y30.1,y30.2.1,iAdd .i64 (iAdd .i64 s27.2.1 1) 1,y30.2.2.2)) (toN s27.1) (y31.1,y31.2.1,y31.2.2.1,iAdd .i64 (iAdd .i64 (iAdd .i64 s27.2.1 1) 1) 1,y31.2.2.2.2)) s27.1 fun y32=>
  idxK (setL (setL (setL (setL (setL s27.2.2.2.2.1 (toN s27.1) (s27.2.1,y28.2)) (toN s27.1) (y29.1,iAdd .i64 s27.2.1 1,y29.2.2)) (toN s27.1) (y30.1,y30.2.1,iAdd .i64 (iAdd .i64 s27.2.1 1) 1,y30.2.2.2)) (toN s27.1) (y31.1,y31.2.1,y31.2.2.1,iAdd .i64 (iAdd .i64 (iAdd .i64 s27.2.1 1) 1) 1,y31.2.2.2.2)) (toN s27.1) (y32.1,y32.2.1,y32.2.2.1,y32.2.2.2.1,iAdd .i64 (iAdd .i64 (iAdd .i64 (iAdd .i64 s27.2.1 1) 1) 1) 1,y32.2.2.2.2.2)) s27.1 fun y33=>
  idxK (setL (setL (setL (setL (setL (setL s27.2.2.2.2.1 (toN s27.1) (s27.2.1,y28.2)) (toN s27.1) (y29.1,iAdd .i64 s27.2.1 1,y29.2.2)) (toN s27.1) (y30.1,y30.2.1,iAdd .i64 (iAdd .i64 s27.2.1 1) 1,y30.2.2.2)) (toN s27.1) (y31.1,y31.2.1,y31.2.2.1,iAdd .i64 (iAdd .i64 (iAdd .i64 s27.2.1 1) 1) 1,y31.2.2.2.2)) (toN s27.1) (y32.1,y32.2.1,y32.2.2.1,y32.2.2.2.1,iAdd .i64 (iAdd .i64 (iAdd .i64 (iAdd .i64 s27.2.1 1) 1) 1) 1,y32.2.2.2.2.2)) (toN s27.1) (y33.1,y33.2.1,y33.2.2.1,y33.2.2.2.1,y33.2.2.2.2.1,iAdd .i64 (iAdd .i64 (iAdd .i64 (iAdd .i64 (iAdd .i64 s27.2.1 1) 1) 1) 1) 1,y33.2.2.2.2.2.2)) s27.1 fun y34=>
  guardK (gNz 3) <|
  idxK (setL (setL (setL (setL (setL (setL (setL s27.2.2.2.2.1 (toN s27.1) (s27.2.1,y28.2)) (toN s27.1) (y29.1,iAdd .i64 s27.2.1 1,y29.2.2)) (toN s27.1) (y30.1,y30.2.1,iAdd .i64 (iAdd .i64 s27.2.1 1) 1,y30.2.2.2)) (toN s27.1) (y31.1,y31.2.1,y31.2.2.1,iAdd .i64 (iAdd .i64 (iAdd .i64 s27.2.1 1) 1) 1,y31.2.2.2.2)) (toN s27.1) (y32.1,y32.2.1,y32.2.2.1,y32.2.2.2.1,iAdd .i64 (iAdd .i64 (iAdd .i64 (iAdd .i64 s27.2.1 1) 1) 1) 1,y32.2.2.2.2.2)) (toN s27.1) (y33.1,y33.2.1,y33.2.2.1,y33.2.2.2.1,y33.2.2.2.2.1,iAdd .i64 (iAdd .i64 (iAdd .i64 (iAdd .i64 (iAdd .i64 s27.2.1 1) 1) 1) 1) 1,y33.2.2.2.2.2.2)) (toN s27.1) (y34.1,y34.2.1,y34.2.2.1,y34.2.2.2.1,y34.2.2.2.2.1,y34.2.2.2.2.2.1,iAdd .i64 (iAdd .i64 (iAdd .i64 (iAdd .i64 (iAdd .i64 (iAdd .i64 s27.2.1 1) 1) 1) 1) 1) 1,y34.2.2.2.2.2.2.2)) s27.1 fun y35=>
  idxK (setL (setL (setL (setL (setL (setL (setL (setL s27.2.2.2.2.1 (toN s27.1) (s27.2.1,y28.2)) (toN s27.1) (y29.1,iAdd .i64 s27.2.1 1,y29.2.2)) (toN s27.1) (y30.1,y30.2.1,iAdd .i64 (iAdd .i64 s27.2.1 1) 1,y30.2.2.2)) (toN s27.1) (y31.1,y31.2.1,y31.2.2.1,iAdd .i64 (iAdd .i64 (iAdd .i64 s27.2.1 1) 1) 1,y31.2.2.2.2)) (toN s27.1) (y32.1,y32.2.1,y32.2.2.1,y32.2.2.2.1,iAdd .i64 (iAdd .i64 (iAdd .i64 (iAdd .i64 s27.2.1 1) 1) 1) 1,y32.2.2.2.2.2)) (toN s27.1) (y33.1,y33.2.1,y33.2.2.1,y33.2.2.2.1,y33.2.2.2.2.1,iAdd .i64 (iAdd .i64 (iAdd .i64 (iAdd .i64 (iAdd .i64 s27.2.1 1) 1) 1) 1) 1,y33.2.2.2.2.2.2)) (toN s27.1) (y34.1,y34.2.1,y34.2.2.1,y34.2.2.2.1,y34.2.2.2.2.1,y34.2.2.2.2.2.1,iAdd .i64 (iAdd .i64 (iAdd .i64 (iAdd .i64 (iAdd .i64 (iAdd .i64 s27.2.1 1) 1) 1) 1) 1) 1,y34.2.2.2.2.2.2.2)) (toN s27.1) (y35.1,y35.2.1,y35.2.2.1,y35.2.2.2.1,y35.2.2.2.2.1,y35.2.2.2.2.2.1,y35.2.2.2.2.2.2.1,iEq (iRem (iAdd .i64 (iAdd .i64 (iAdd .i64 (iAdd .i64 (iAdd .i64 (iAdd .i64 (iAdd .i64 s27.2.1 1) 1) 1) 1) 1) 1) 1) 3) 0,y35.2.2.2.2.2.2.2.2)) s27.1 fun y36=>
  bindK (F53 (y36.2.2.2.2.2.2.2.2.1,iAdd .i64 (iAdd .i64 (iAdd .i64 (iAdd .i64 (iAdd .i64 (iAdd .i64 (iAdd .i64 (iAdd .i64 s27.2.1 1) 1) 1) 1) 1) 1) 1) 1,())) fun y37=>
  idxK (setL (setL (setL (setL (setL (setL (setL (setL (setL s27.2.2.2.2.1 (toN s27.1) (s27.2.1,y28.2)) (toN s27.1) (y29.1,iAdd .i64 s27.2.1 1,y29.2.2)) (toN s27.1) (y30.1,y30.2.1,iAdd .i64 (iAdd .i64 s27.2.1 1) 1,y30.2.2.2)) (toN s27.1) (y31.1,y31.2.1,y31.2.2.1,iAdd .i64 (iAdd .i64 (iAdd .i64 s27.2.1 1) 1) 1,y31.2.2.2.2)) (toN s27.1) (y32.1,y32.2.1,y32.2.2.1,y32.2.2.2.1,iAdd .i64 (iAdd .i64 (iAdd .i64 (iAdd .i64 s27.2.1 1) 1) 1) 1,y32.2.2.2.2.2)) (toN s27.1) (y33.1,y33.2.1,y33.2.2.1,y33.2.2.2.1,y33.2.2.2.2.1,iAdd .i64 (iAdd .i64 (iAdd .i64 (iAdd .i64 (iAdd .i64 s27.2.1 1) 1) 1) 1) 1,y33.2.2.2.2.2.2)) (toN s27.1) (y34.1,y34.2.1,y34.2.2.1,y34.2.2.2.1,y34.2.2.2.2.1,y34.2.2.2.2.2.1,iAdd .i64 (iAdd .i64 (iAdd .i64 (iAdd .i64 (iAdd .i64 (iAdd .i64 s27.2.1 1) 1) 1) 1) 1) 1,y34.2.2.2.2.2.2.2)) (toN s27.1) (y35.1,y35.2.1,y35.2.2.1,y35.2.2.2.1,y35.2.2.2.2.1,y35.2.2.2.2.2.1,y35.2.2.2.2.2.2.1,iEq (iRem (iAdd .i64 (iAdd .i64 (iAdd .i64 (iAdd .i64 (iAdd .i64 (iAdd .i64 (iAdd .i64 s27.2.1 1) 1) 1) 1) 1) 1) 1) 3) 0,y35.2.2.2.2.2.2.2.2)) (toN s27.1) (y36.1,y36.2.1,y36.2.2.1,y36.2.2.2.1,y36.2.2.2.2.1,y36.2.2.2.2.2.1,y36.2.2.2.2.2.2.1,y36.2.2.2.2.2.2.2.1,y37.2.1,y36.2.2.2.2.2.2.2.2.2)) s27.1 fun y38=>
  bindK (F50 (y38.2.2.2.2.2.2.2.2.2.1,y37.1,())) fun y39=>
  bindK (F54 (y39.1,())) fun y40=>
  idxK (setL (setL (setL (setL (setL (setL (setL (setL (setL (setL s27.2.2.2.2.1 (toN s27.1) (s27.2.1,y28.2)) (toN s27.1) (y29.1,iAdd .i64 s27.2.1 1,y29.2.2)) (toN s27.1) (y30.1,y30.2.1,iAdd .i64 (iAdd .i64 s27.2.1 1) 1,y30.2.2.2)) (toN s27.1) (y31.1,y31.2.1,y31.2.2.1,iAdd .i64 (iAdd .i64 (iAdd .i64 s27.2.1 1) 1) 1,y31.2.2.2.2)) (toN s27.1) (y32.1,y32.2.1,y32.2.2.1,y32.2.2.2.1,iAdd .i64 (iAdd .i64 (iAdd .i64 (iAdd .i64 s27.2.1 1) 1) 1) 1,y32.2.2.2.2.2)) (toN s27.1) (y33.1,y33.2.1,y33.2.2.1,y33.2.2.2.1,y33.2.2.2.2.1,iAdd .i64 (iAdd .i64 (iAdd .i64 (iAdd .i64 (iAdd .i64 s27.2.1 1) 1) 1) 1) 1,y33.2.2.2.2.2.2)) (toN s27.1) (y34.1,y34.2.1,y34.2.2.1,y34.2.2.2.1,y34.2.2.2.2.1,y34.2.2.2.2.2.1,iAdd .i64 (iAdd .i64 (iAdd .i64 (iAdd .i64 (iAdd .i64 (iAdd .i64 s27.2.1 1) 1) 1) 1) 1) 1,y34.2.2.2.2.2.2.2)) (toN s27.1) (y35.1,y35.2.1,y35.2.2.1,y35.2.2.2.1,y35.2.2.2.2.1,y35.2.2.2.2.2.1,y35.2.2.2.2.2.2.1,iEq (iRem (iAdd .i64 (iAdd .i64 (iAdd .i64 (iAdd .i64 (iAdd .i64 (iAdd .i64 (iAdd .i64 s27.2.1 1) 1) 1) 1) 1) 1) 1) 3) 0,y35.2.2.2.2.2.2.2.2)) (toN s27.1) (y36.1,y36.2.1,y36.2.2.1,y36.2.2.2.1,y36.2.2.2.2.1,y36.2.2.2.2.2.1,y36.2.2.2.2.2.2.1,y36.2.2.2.2.2.2.2.1,y37.2.1,y36.2.2.2.2.2.2.2.2.2)) (toN s27.1) (y38.1,y38.2.1,y38.2.2.1,y38.2.2.2.1,y38.2.2.2.2.1,y38.2.2.2.2.2.1,y38.2.2.2.2.2.2.1,y38.2.2.2.2.2.2.2.1,y38.2.2.2.2.2.2.2.2.1,y39.2.1,y38.2.2.2.2.2.2.2.2.2.2)) s27.1 fun y41=>
  guardK (gNz 3) <|
  idxK (setL (setL (setL (setL (setL (setL (setL (setL (setL (setL (setL s27.2.2.2.2.1 (toN s27.1) (s27.2.1,y28.2)) (toN s27.1) (y29.1,iAdd .i64 s27.2.1 1,y29.2.2)) (toN s27.1) (y30.1,y30.2.1,iAdd .i64 (iAdd .i64 s27.2.1 1) 1,y30.2.2.2)) (toN s27.1) (y31.1,y31.2.1,y31.2.2.1,iAdd .i64 (iAdd .i64 (iAdd .i64 s27.2.1 1) 1) 1,y31.2.2.2.2)) (toN s27.1) (y32.1,y32.2.1,y32.2.2.1,y32.2.2.2.1,iAdd .i64 (iAdd .i64 (iAdd .i64 (iAdd .i64 s27.2.1 1) 1) 1) 1,y32.2.2.2.2.2)) (toN s27.1) (y33.1,y33.2.1,y33.2.2.1,y33.2.2.2.1,y33.2.2.2.2.1,iAdd .i64 (iAdd .i64 (iAdd .i64 (iAdd .i64 (iAdd .i64 s27.2.1 1) 1) 1) 1) 1,y33.2.2.2.2.2.2)) (toN s27.1) (y34.1,y34.2.1,y34.2.2.1,y34.2.2.2.1,y34.2.2.2.2.1,y34.2.2.2.2.2.1,iAdd .i64 (iAdd .i64 (iAdd .i64 (iAdd .i64 (iAdd .i64 (iAdd .i64 s27.2.1 1) 1) 1) 1) 1) 1,y34.2.2.2.2.2.2.2)) (toN s27.1) (y35.1,y35.2.1,y35.2.2.1,y35.2.2.2.1,y35.2.2.2.2.1,y35.2.2.2.2.2.1,y35.2.2.2.2.2.2.1,iEq (iRem (iAdd .i64 (iAdd .i64 (iAdd .i64 (iAdd .i64 (iAdd .i64 (iAdd .i64 (iAdd .i64 s27.2.1 1) 1) 1) 1) 1) 1) 1) 3) 0,y35.2.2.2.2.2.2.2.2)) (toN s27.1) (y36.1,y36.2.1,y36.2.2.1,y36.2.2.2.1,y36.2.2.2.2.1,y36.2.2.2.2.2.1,y36.2.2.2.2.2.2.1,y36.2.2.2.2.2.2.2.1,y37.2.1,y36.2.2.2.2.2.2.2.2.2)) (toN s27.1) (y38.1,y38.2.1,y38.2.2.1,y38.2.2.2.1,y38.2.2.2.2.1,y38.2.2.2.2.2.1,y38.2.2.2.2.2.2.1,y38.2.2.2.2.2.2.2.1,y38.2.2.2.2.2.2.2.2.1,y39.2.1,y38.2.2.2.2.2.2.2.2.2.2)) (toN s27.1) (y41.1,y41.2.1,y41.2.2.1,y41.2.2.2.1,y41.2.2.2.2.1,y41.2.2.2.2.2.1,y41.2.2.2.2.2.2.1,y41.2.2.2.2.2.2.2.1,y41.2.2.2.2.2.2.2.2.1,y41.2.2.2.2.2.2.2.2.2.1,y40.1,y41.2.2.2.2.2.2.2.2.2.2.2)) s27.1 fun y42=>
  rec26 (iAdd .i64 s27.1 1,iAdd .i64 (iAdd .i64 y39.1 1) 1,s27.2.2.1,s27.2.2.2.1,setL (setL (setL (setL (setL (setL (setL (setL (setL (setL (setL (setL s27.2.2.2.2.1 (toN s27.1) (s27.2.1,y28.2)) (toN s27.1) (y29.1,iAdd .i64 s27.2.1 1,y29.2.2)) (toN s27.1) (y30.1,y30.2.1,iAdd .i64 (iAdd .i64 s27.2.1 1) 1,y30.2.2.2)) (toN s27.1) (y31.1,y31.2.1,y31.2.2.1,iAdd .i64 (iAdd .i64 (iAdd .i64 s27.2.1 1) 1) 1,y31.2.2.2.2)) (toN s27.1) (y32.1,y32.2.1,y32.2.2.1,y32.2.2.2.1,iAdd .i64 (iAdd .i64 (iAdd .i64 (iAdd .i64 s27.2.1 1) 1) 1) 1,y32.2.2.2.2.2)) (toN s27.1) (y33.1,y33.2.1,y33.2.2.1,y33.2.2.2.1,y33.2.2.2.2.1,iAdd .i64 (iAdd .i64 (iAdd .i64 (iAdd .i64 (iAdd .i64 s27.2.1 1) 1) 1) 1) 1,y33.2.2.2.2.2.2)) (toN s27.1) (y34.1,y34.2.1,y34.2.2.1,y34.2.2.2.1,y34.2.2.2.2.1,y34.2.2.2.2.2.1,iAdd .i64 (iAdd .i64 (iAdd .i64 (iAdd .i64 (iAdd .i64 (iAdd .i64 s27.2.1 1) 1) 1) 1) 1) 1,y34.2.2.2.2.2.2.2)) (toN s27.1) (y35.1,y35.2.1,y35.2.2.1,y35.2.2.2.1,y35.2.2.2.2.1,y35.2.2.2.2.2.1,y35.2.2.2.2.2.2.1,iEq (iRem (iAdd .i64 (iAdd .i64 (iAdd .i64 (iAdd .i64 (iAdd .i64 (iAdd .i64 (iAdd .i64 s27.2.1 1) 1) 1) 1) 1) 1) 1) 3) 0,y35.2.2.2.2.2.2.2.2)) (toN s27.1) (y36.1,y36.2.1,y36.2.2.1,y36.2.2.2.1,y36.2.2.2.2.1,y36.2.2.2.2.2.1,y36.2.2.2.2.2.2.1,y36.2.2.2.2.2.2.2.1,y37.2.1,y36.2.2.2.2.2.2.2.2.2)) (toN s27.1) (y38.1,y38.2.1,y38.2.2.1,y38.2.2.2.1,y38.2.2.2.2.1,y38.2.2.2.2.2.1,y38.2.2.2.2.2.2.1,y38.2.2.2.2.2.2.2.1,y38.2.2.2.2.2.2.2.2.1,y39.2.1,y38.2.2.2.2.2.2.2.2.2.2)) (toN s27.1) (y41.1,y41.2.1,y41.2.2.1,y41.2.2.2.1,y41.2.2.2.2.1,y41.2.2.2.2.2.1,y41.2.2.2.2.2.2.1,y41.2.2.2.2.2.2.2.1,y41.2.2.2.2.2.2.2.2.1,y41.2.2.2.2.2.2.2.2.2.1,y40.1,y41.2.2.2.2.2.2.2.2.2.2.2)) (toN s27.1) (y42.1,y42.2.1,y42.2.2.1,y42.2.2.2.1,y42.2.2.2.2.1,y42.2.2.2.2.2.1,y42.2.2.2.2.2.2.1,y42.2.2.2.2.2.2.2.1,y42.2.2.2.2.2.2.2.2.1,y42.2.2.2.2.2.2.2.2.2.1,y42.2.2.2.2.2.2.2.2.2.2.1,iEq (iRem (iAdd .i64 y39.1 1) 3) 0,y42.2.2.2.2.2.2.2.2.2.2.2.2),s27.2.2.2.2.2) else bindK (F13 (s27.2.2.2.1,1,())) fun y43=>
  bif iLt y43.1 0 then some (false,()) else bindK (F14 (s27.2.2.2.2.1,y43)) fun y44=>
  bif iLt y44.1 0 then some (false,()) else bif iNe y44.1 s27.2.1 then some (false,()) else bindK (F7 (x.1,())) fun y45=>
  bindK (F8 (y45.1,x.2)) fun y46=>
  bindK (F9 (y46.1,s27.2.2.1,())) fun y47=>
  bindK (bif bNot y47.1 then some true else bindK (F10 (y46.2.1,s27.2.2.2.2.2)) fun y48=>
  some (bNot y48.1)) fun y49=>
  bindK (bif y49 then some true else some (iNe y46.2.2.1 y2.2.2.1)) fun y50=>
  bindK (bif y50 then some true else some (bNe y46.2.2.2.1 y2.2.2.2.1)) fun y51=>
  bif y51 then some (false,()) else bindK (F13 (s27.2.2.2.1,1,())) fun y52=>
  bif iLt y52.1 0 then some (false,()) else bindK (F14 (s27.2.2.2.2.1,y52)) fun y53=>
  bif iLt y53.1 0 then some (false,()) else bif iNe y53.1 s27.2.1 then some (false,()) else some (true,())) NN (0,y25.1,y2.1,(y4.1.1,y4.1.2.1,y4.1.2.2.1,y4.1.2.2.2.1,y4.1.2.2.2.2.1,y22.2.1,y4.1.2.2.2.2.2.2.1,y4.1.2.2.2.2.2.2.2.1,y23.2.1,y4.1.2.2.2.2.2.2.2.2.2.1,y4.1.2.2.2.2.2.2.2.2.2.2.1,y4.1.2.2.2.2.2.2.2.2.2.2.2.1,y24.2.1,y25.2),y4.2.1,y2.2.1,())
abbrev ce3:CE:=.con true sg3 F3
theorem co3:ConOK TT 3 sg3 F3:=con_fn (fn:=inlF XX fn3) (ces:=[(5,ce5),(6,ce6),(7,ce7),(8,ce8),(10,ce10),(9,ce9),(50,ce50),(53,ce53),(52,ce52),(54,ce54),(13,ce13),(14,ce14)]) (ents1 en5 (ents1 en6 (ents1 en7 (ents1 en8 (ents1 en10 (ents1 en9 (ents1 en50 (ents1 en53 (ents1 en52 (ents1 en54 (ents1 en13 (ents1 en14 ents0)))))))))))) hn3 pm3 (by kernel_rfl) rfl rfl (fun x=>by kernel_rfl)
theorem en3:EntOK TT 3 ce3:=ent_fz co3 (by kernel_rfl) rfl rfl rfl
/- spec.l16Elected -/
end
end Go.Proofs.Ytofonninnabieaa.Tq

