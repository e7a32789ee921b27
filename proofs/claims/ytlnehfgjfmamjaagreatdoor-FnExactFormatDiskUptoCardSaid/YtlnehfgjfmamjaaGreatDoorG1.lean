/- A small machine on data: what it says of Go's code is proved in the texts behind this one. Definitions and the equations by which it is run. -/
import Derived.Calls
import Derived.Orders
import Derived.RowKit
import Derived.Below
import Derived.WalkKit
import Derived.Laws.StructEq
import Derived.Laws.Slices
import Derived.Laws.Cells
import Derived.Laws.AppendOwn
set_option linter.unusedSimpArgs false
set_option linter.unusedVariables false
namespace Go.Am
inductive TV where
 | s (x:Value)
 | agg (cs:List TV)
 | sl (sz:Nat) (xs:List TV)
 deriving Inhabited
inductive Id where
 | st (d t:Nat)
 | dy (k:Nat)
 | ex (k:Nat)
 deriving DecidableEq,Inhabited
inductive AV where
 | c (t:TV)
 | agg (cs:List AV)
 | tup (cs:List AV)
 | nils
 | tptr (x:TV) (off:Nat)
 | ref (o:Id) (g n off len:Nat)
 | ptr (o:Id) (g n i off:Nat)
 | fn (f:Nat) (caps:List AV)
 | undef
 deriving Inhabited
def TV.cells:TV→List TV
 | .agg cs=>cs
 | v=>[v]
def AV.cells:AV→List AV
 | .agg cs=>cs
 | .c t=>t.cells.map .c
 | v=>[v]
structure Obj where
 gen:Nat
 sz:Nat
 w:Bool
 es:List AV
abbrev Heap:=Id→Option Obj
def hupd (H:Heap) (o:Id) (b:Obj):Heap:=fun p=>if p=o then some b else H p
abbrev AEnv:=Nat→AV
def upd (E:AEnv) (t:Nat) (v:AV):AEnv:=fun p=>if p=t then v else E p
def updO (E:AEnv):Option Nat→AV→AEnv
 | none,_=>E
 | some t,v=>upd E t v
structure St where
 E:AEnv
 H:Heap
 nx:Nat
inductive Opd where
 | t (n:Nat)
 | k (v:AV)
def ev (E:AEnv):Opd→AV
 | .t n=>E n
 | .k v=>v
inductive CMode where
 | fz | mu
 | sep (keep:List Bool)
 deriving DecidableEq
inductive Lf where
 | i | s | b
 deriving DecidableEq
inductive AOp where
 | mov (x:Opd)
 | pick (c a b:Opd)
 | nilc (x:Opd)
 | alloc (z:AV)
 | box (x:Opd)
 | build (zero:List AV) (parts:List (Nat×Nat×Opd))
 | bslice (sz:Nat) (l:List Opd)
 | bsliceD (sz:Nat) (l:List Opd)
 | load (agg:Bool) (n:Nat) (a:Opd)
 | store (n:Nat) (a x:Opd)
 | bin (op:BinOp) (x y:Opd)
 | binB (op:BinOp) (x y:Opd)
 | binS (neg:Bool) (ls:List Lf) (x y:Opd)
 | un (op:UnOp) (x:Opd)
 | conv (k:IntKind) (x:Opd)
 | same (x:Opd)
 | b2s (x:Opd)
 | s2b (x:Opd)
 | mkfn (f:Nat) (caps:List Opd)
 | mksl (sz:Nat) (zero:AV) (n:Opd)
 | slice (sz:Nat) (x:Opd) (lo hi mx:Option Opd)
 | faddr (x:Opd) (off:Nat)
 | field (x:Opd) (off n:Nat) (agg:Bool)
 | iaddr (sz:Nat) (x i:Opd)
 | index (x i:Opd)
 | len (str:Bool) (x:Opd)
 | append (sz:Nat) (x y:Opd)
 | copy (sz:Nat) (x y:Opd)
 | clear (zero:AV) (x:Opd)
 | minmax (mx:Bool) (l:List Opd)
 | extract (x:Opd) (i:Nat)
 | call (f:Nat) (args:List Opd)
 | callv (f:Opd) (args:List Opd)
 | caps (x:Opd) (g m i:Nat)
 | tupl (l:List Opd)
structure AOper where
 dst:Option Nat
 guard:Option (Nat×Bool)
 op:AOp
structure Foot where
 rd:List Id
 wr:List Id
 lk:List Id
 nx:Bool
 all:Bool
 wall:Bool
 fr:Option Nat:=none
inductive AC where
 | skip
 | ops (l:List AOper)
 | opsU (fs:List Foot) (l:List AOper) (prs:List (Nat×Nat))
 | seq (a b:AC)
 | cond (c:Opd) (a b:AC)
 | block (id:Nat) (b:AC)
 | loop (b:AC)
 | exit (id:Nat)
 | ret
 | enter (off n:Nat) (args:List Opd)
inductive ARes where
 | tmp (t:Nat)
 | cell (t:Nat) (agg:Bool) (n:Nat)
structure AFn where
 np:Nat
 ntmps:Nat
 res:List ARes
 body:AC
structure Tab where
 fn:Nat→Option AFn
 mode:Nat→CMode
 nat:Nat→Option (List TV→Option (List TV))
def elemsOf (H:Heap) (o:Id) (g n off len:Nat):Option (List AV):=
 match H o with
 | some b=>if b.gen=g∧b.es.length=n∧off + len≤n then some ((b.es.drop off).take len) else none
 | none=>none
def szOf (H:Heap) (o:Id):Nat:=match H o with | some b=>b.sz | none=>0
def TV.plain:TV→Bool
 | .s _=>true
 | _=>false
def TV.scalar:TV→Bool
 | .s _=>true
 | .agg cs=>cs.all TV.plain
 | .sl _ _=>false
mutual
def frz (H:Heap):Nat→AV→Option TV
 | _,.c t=>some t
 | 0,_=>none
 | n + 1,.agg cs=>match frzs H n cs with | some l=>some (.agg l) | none=>none
 | _ + 1,.nils=>some (.sl 1 [])
 | n + 1,.ref o g m off len=>match elemsOf H o g m off len with
  | some es=>(match frzs H n es with | some l=>some (.sl (szOf H o) l) | none=>none)
  | none=>none
 | _ + 1,_=>none
def frzs (H:Heap):Nat→List AV→Option (List TV)
 | _,[]=>some []
 | n,x :: r=>match frz H n x with
  | some y=>(match frzs H n r with | some ys=>some (y :: ys) | none=>none)
  | none=>none
end
mutual
def idsOf (H:Heap):Nat→AV→List Id
 | n + 1,.agg cs=>idsOfs H n cs
 | n + 1,.ref o g m off len=>o :: (match elemsOf H o g m off len with | some es=>idsOfs H n es | none=>[])
 | _,_=>[]
def idsOfs (H:Heap):Nat→List AV→List Id
 | _,[]=>[]
 | n,x :: r=>idsOf H n x++idsOfs H n r
end
def lockL (H:Heap):List Id→Heap
 | []=>H
 | o :: r=>match lockL H r o with
  | some b=>hupd (lockL H r) o { b with w:=false }
  | none=>lockL H r
def lockAll (H:Heap):Heap:=fun o=>match H o with | some b=>some { b with w:=false } | none=>none
def sid (d t:Nat):Id:=.st (d / 8) (t + 65536 * (d % 8))
def nxd (d:Nat):Nat:=8 * (d / 8 + 1)
def tupOf:List AV→AV
 | [x]=>x
 | l=>.tup l
def bytesVs (s:ByteArray):List AV:=s.data.toList.map fun b=>.c (.s (.int .u8 b.toNat))
def bytesOf:List AV→Option ByteArray
 | l=>(go l).map fun b=>⟨b.toArray⟩
where go:List AV→Option (List UInt8)
 | []=>some []
 | .c (.s (.int .u8 n)) :: r=>match go r with
  | some b=>some (UInt8.ofNat n.toNat :: b)
  | none=>none
 | _=>none
def cmpV (op:BinOp) (lt eq:Bool):Option Value:=
 match op with
 | .eql=>some (.bool eq)
 | .neq=>some (.bool !eq)
 | .lss=>some (.bool lt)
 | .leq=>some (.bool (lt || eq))
 | .gtr=>some (.bool !(lt || eq))
 | .geq=>some (.bool !lt)
 | _=>none
def intV (op:BinOp) (k:IntKind) (a b:Int):Option Value:=
 match op with
 | .add=>some (.int k (k.wrap (a + b)))
 | .sub=>some (.int k (k.wrap (a - b)))
 | .mul=>some (.int k (k.wrap (a * b)))
 | .quo=>if b=0 then none else some (.int k (k.wrap (a.tdiv b)))
 | .rem=>if b=0 then none else some (.int k (a.tmod b))
 | .and=>some (.int k (k.wrap (BitVec.ofInt k.bits a &&& BitVec.ofInt k.bits b).toNat))
 | .or=>some (.int k (k.wrap (BitVec.ofInt k.bits a ||| BitVec.ofInt k.bits b).toNat))
 | .xor=>some (.int k (k.wrap (BitVec.ofInt k.bits a ^^^ BitVec.ofInt k.bits b).toNat))
 | .andNot=>some (.int k (k.wrap (BitVec.ofInt k.bits a &&& ~~~(BitVec.ofInt k.bits b)).toNat))
 | .eql=>some (.bool (a == b))
 | .neq=>some (.bool (a != b))
 | .lss=>some (.bool (decide (a < b)))
 | .leq=>some (.bool (decide (a≤b)))
 | .gtr=>some (.bool (decide (a > b)))
 | .geq=>some (.bool (decide (a ≥ b)))
 | _=>none
def shiftV (op:BinOp) (k:IntKind) (a b:Int):Option Value:=
 if b < 0 then none else
 match op with
 | .shl=>some (.int k (k.wrap (a * 2 ^ (min b.toNat k.bits))))
 | .shr=>some (.int k (a.fdiv (2 ^ (min b.toNat k.bits))))
 | _=>none
def strV (op:BinOp) (a b:ByteArray):Option Value:=
 match op with
 | .add=>if a.size + b.size≤140737488355328 then some (.string (a++b)) else none
 | op=>cmpV op (Op.bytesLess a.toList b.toList) (a.toList == b.toList)
def sameV:Lf→Value→Value→Option Bool
 | .i,.int k a,.int k' b=>if k=k' then some (a == b) else none
 | .s,.string a,.string b=>some (a.toList == b.toList)
 | .b,.bool a,.bool b=>some (a == b)
 | _,_,_=>none
def binV (op:BinOp):Value→Value→Option Value
 | .int k a,.int k' b=>match op with
  | .shl=>shiftV .shl k a b
  | .shr=>shiftV .shr k a b
  | op=>if k=k' then intV op k a b else none
 | .string a,.string b=>strV op a b
 | _,_=>none
def sameL:List Lf→List AV→List AV→Option Bool
 | [],[],[]=>some true
 | l :: ls,.c (.s x) :: r,.c (.s y) :: q=>match sameV l x y with
  | some b=>(match sameL ls r q with | some b'=>some (b && b') | none=>none)
  | none=>none
 | _,_,_=>none
def unV (op:UnOp):Value→Option Value
 | .bool b=>match op with | .not=>some (.bool !b) | _=>none
 | .int k n=>match op with
  | .neg=>some (.int k (k.wrap (0 - n)))
  | _=>none
 | _=>none
def putCells (cs:List AV) (off:Nat) (new:List AV):Option (List AV):=
 if off + new.length≤cs.length then some (cs.take off++new++cs.drop (off + new.length)) else none
def stor:AV→Bool
 | .undef | .tup _=>false
 | _=>true
def fits (sz:Nat) (es:List AV):Bool:=es.all fun v=>stor v && v.cells.length == sz
def AV.isAgg:AV→Bool
 | .agg _=>true
 | .c (.agg _)=>true
 | _=>false
def reEl (old:AV) (cs:List AV):Option AV:=
 if old.isAgg then some (.agg cs) else match cs with | [x]=>if stor x then some x else none | _=>none
def fillCells:List AV→List (Nat×Nat×AV)→Option (List AV)
 | cs,[]=>some cs
 | cs,(off,n,v) :: r=>
  if v.cells.length=n∧stor v=true then
   match putCells cs off v.cells with
   | some cs'=>fillCells cs' r
   | none=>none
  else none
def elems (H:Heap):AV→Option (List AV)
 | .nils=>some []
 | .c (.sl _ xs)=>some (xs.map .c)
 | .ref o g n off len=>elemsOf H o g n off len
 | _=>none
def AV.isStr:AV→Bool
 | .c (.s (.string _))=>true
 | _=>false
def lenV:AV→Option Nat
 | .nils=>some 0
 | .c (.sl _ xs)=>some xs.length
 | .ref _ _ _ _ len=>some len
 | .c (.s (.string s))=>some s.size
 | _=>none
def intOfV:AV→Option Int
 | .c (.s (.int _ n))=>some n
 | _=>none
def gInt (n:Int):AV:=.c (.s (.int .i64 n))
def gBool (b:Bool):AV:=.c (.s (.bool b))
def gStr (s:ByteArray):AV:=.c (.s (.string s))
def genAt (H:Heap) (o:Id):Nat:=match H o with | some b=>b.gen + 1 | none=>0
def loadV (H:Heap) (agg:Bool) (n:Nat):AV→Option AV
 | .tptr x off=>
  if agg then
   (match x with
   | .agg cs=>if off=0∧cs.length=n then some (.c (.agg cs)) else if off + n≤cs.length then some (.c (.agg ((cs.drop off).take n))) else none
   | _=>none)
  else match x.cells[off]? with | some y=>some (.c y) | none=>none
 | .ptr o g m i off=>match H o with
  | some b=>if b.gen=g∧b.es.length=m then
    match b.es[i]? with
    | some x=>
     if agg then
      (if x.isAgg=true then
       (if off=0∧n=b.sz then some x
       else if off + n≤x.cells.length then some (.agg ((x.cells.drop off).take n)) else none)
      else none)
     else x.cells[off]?
    | none=>none
   else none
  | none=>none
 | _=>none
def storeV (H:Heap) (n:Nat) (x:AV):AV→Option Heap
 | .ptr o g m i off=>match H o with
  | some b=>if b.gen=g∧b.es.length=m∧b.w=true∧x.cells.length=n∧stor x=true then
    match b.es[i]? with
    | some old=>(match (if off=0∧n=b.sz∧x.isAgg=old.isAgg then some x else match putCells old.cells off x.cells with | some cs=>reEl old cs | none=>none) with
     | some new=>some (hupd H o { b with es:=b.es.set i new })
     | none=>none)
    | none=>none
   else none
  | none=>none
 | _=>none
def optI (E:AEnv):Option Opd→Option (Option Int)
 | none=>some none
 | some y=>match intOfV (ev E y) with | some n=>some (some n) | none=>none
def sliceV (H:Heap) (x:AV) (lo hi mx:Option Int):Option AV:=
 match x with
 | .c (.s (.string s))=>
  let l:=lo.getD 0
  let h:=hi.getD s.size
  if 0≤l∧l≤h∧h≤s.size∧mx=none then some (gStr (s.extract l.toNat h.toNat)) else none
 | .c (.sl sz xs)=>
  let l:=lo.getD 0
  let h:=hi.getD xs.length
  if 0≤l∧l≤h∧h≤xs.length∧mx=none then some (.c (.sl sz ((xs.drop l.toNat).take (h - l).toNat))) else none
 | .nils=>
  let l:=lo.getD 0
  let h:=hi.getD 0
  if l=0∧h=0∧mx=none then some .nils else none
 | .ref o g n off len=>match H o with
  | some b=>
   let l:=lo.getD 0
   let h:=hi.getD len
   if b.gen=g∧b.es.length=n∧0≤l∧l≤h∧h + off≤n∧(mx=none∨(mx=some ((n:Int) - off)∧hi≠none)) then some (.ref o g n (off + l.toNat) (h - l).toNat) else none
  | none=>none
 | _=>none
def szOk (H:Heap) (sz:Nat):AV→Bool
 | .ref o _ _ _ _=>szOf H o == sz
 | .c (.sl sz' xs)=>sz' == sz || xs.isEmpty
 | _=>true
def i64s:List AV→Option (List Int)
 | []=>some []
 | .c (.s (.int .i64 n)) :: r=>match i64s r with | some l=>some (n :: l) | none=>none
 | _=>none
def minMax (mx:Bool) (l:List AV):Option Int:=
 match i64s l with
 | some (x :: r)=>some (r.foldl (fun a b=>if mx then (if b > a then b else a) else (if b < a then b else a)) x)
 | _=>none
def srcE (H:Heap) (y:AV):Option (List AV):=match y with | .c (.s (.string s))=>some (bytesVs s) | v=>elems H v
inductive It where
 | code (c:AC)
 | blk (id:Nat)
 | lp (b:AC)
def RB:Nat:=4294967295
def unwind (id:Nat):List It→Option (List It)
 | []=>none
 | .blk i :: K=>if i=id then some K else if i=RB then none else unwind id K
 | _ :: K=>unwind id K
abbrev Run:=Nat→List It→St→Option St
def bindArgs (l:List AV):AEnv:=fun i=>l.getD i .undef
def resV (E:AEnv) (H:Heap):List ARes→Option (List AV)
 | []=>some []
 | .tmp t :: r=>match resV E H r with | some l=>some (E t :: l) | none=>none
 | .cell t ag n :: r=>match loadV H ag n (E t),resV E H r with | some v,some l=>some (v :: l) | _,_=>none
def callB (T:Tab) (R:Run) (d:Nat) (f:Nat) (args:List AV) (H:Heap) (nx:Nat):Option (List AV×Heap×Nat):=
 match T.fn f with
 | some F=>
  if args.length=F.np then
   match R d [.code F.body] ⟨bindArgs args,H,nx⟩ with
   | some s=>(match resV s.E s.H F.res with | some rs=>some (rs,s.H,s.nx) | none=>none)
   | none=>none
  else none
 | none=>none
def H0:Heap:=fun _=>none
def callC (T:Tab) (R:Run) (f:Nat) (ts:List TV):Option (List TV):=
 match T.nat f with
 | some g=>g ts
 | none=>match callB T R 0 f (ts.map .c) H0 0 with
  | some (rs,H,_)=>frzs H 12 rs
  | none=>none
def frzOr (H:Heap) (v:AV):AV:=match frz H 12 v with | some t=>.c t | none=>v
def sepArgs (H:Heap):List Bool→List AV→List AV
 | _,[]=>[]
 | [],v :: r=>frzOr H v :: sepArgs H [] r
 | b :: q,v :: r=>(if b=true then v else frzOr H v) :: sepArgs H q r
def sepRd (H:Heap):List Bool→List AV→List Id
 | _,[]=>[]
 | [],v :: r=>idsOf H 12 v++sepRd H [] r
 | b :: q,v :: r=>(if b=true then [] else idsOf H 12 v)++sepRd H q r
mutual
def reach (H:Heap):Nat→AV→List Id
 | n + 1,.agg cs=>reachs H n cs
 | n + 1,.fn _ cs=>reachs H n cs
 | n + 1,.ref o _ _ _ _=>o :: (match H o with | some b=>reachs H n b.es | none=>[])
 | n + 1,.ptr o _ _ _ _=>o :: (match H o with | some b=>reachs H n b.es | none=>[])
 | _,_=>[]
def reachs (H:Heap):Nat→List AV→List Id
 | _,[]=>[]
 | n,x :: r=>reach H n x++reachs H n r
end
mutual
def okIn (X:Id→Prop):AV→Prop
 | .agg cs=>okIns X cs
 | .tup cs=>okIns X cs
 | .fn _ cs=>okIns X cs
 | .ref o _ _ _ _=>X o
 | .ptr o _ _ _ _=>X o
 | _=>True
def okIns (X:Id→Prop):List AV→Prop
 | []=>True
 | x :: r=>okIn X x∧okIns X r
end
mutual
def fineV (X:Id→Prop):AV→Prop
 | .c t=>t.scalar=true
 | .agg cs=>fineVs X cs
 | .nils=>True
 | .undef=>True
 | .ref o _ _ _ _=>X o
 | .ptr o _ _ _ _=>X o
 | .fn _ cs=>fineVs X cs
 | .tup _=>False
 | .tptr _ _=>False
def fineVs (X:Id→Prop):List AV→Prop
 | []=>True
 | x :: r=>fineV X x∧fineVs X r
end
def isFresh (nx:Nat):Id→Bool
 | .dy k=>decide (nx≤k)
 | _=>false
def restr (H:Heap) (S:List Id):Heap:=fun o=>if o∈S then H o else none
def region (H:Heap) (S:List Id) (nx:Nat) (o:Id):Prop:=o∈S∨(isFresh nx o=true∧H o=none)
def inK (H H1:Heap) (S:List Id) (nx:Nat) (o:Id):Prop:=
 ∃ X:Id→Prop,X o∧∀ p,X p→region H S nx p∧∃ b,H1 p=some b∧∀ x∈b.es,fineV X x
def kill:Option Obj→Option Obj
 | some b=>some ⟨b.gen + 1,b.sz,b.w,[]⟩
 | none=>none
open Classical in
noncomputable def over (H H1:Heap) (S:List Id) (nx:Nat):Heap:=fun o=>
 if region H S nx o then (if inK H H1 S nx o then H1 o else kill (H1 o)) else H o
def sepPre (H:Heap) (keep:List Bool) (vs:List AV):Prop:=
 okIns (· ∈ reachs H 12 (sepArgs H keep vs)) (sepArgs H keep vs)∧(∀ o∈reachs H 12 (sepArgs H keep vs),(∀ b,H o=some b→∀ x∈b.es,okIn (· ∈ reachs H 12 (sepArgs H keep vs)) x)∧o ∉ sepRd H keep vs)
def sepPost (H H1:Heap) (S:List Id) (nx:Nat) (rs:List AV):Prop:=
 fineVs (inK H H1 S nx) rs∧∀ o b,region H S nx o→H1 o=some b→b.w=true
open Classical in
noncomputable def callOp (T:Tab) (R:Run) (d:Nat) (f:Nat) (vs:List AV) (H:Heap) (nx:Nat):Option (AV×Heap×Nat):=
 match T.mode f with
 | .mu=>match callB T R (d + 1) f vs H nx with
  | some (rs,H',nx')=>some (tupOf rs,H',nx')
  | none=>none
 | .sep keep=>if sepPre H keep vs then
   match callB T R (nxd d) f (sepArgs H keep vs) (restr H (reachs H 12 (sepArgs H keep vs))) nx with
   | some (rs,H1,nx')=>if sepPost H H1 (reachs H 12 (sepArgs H keep vs)) nx rs then some (tupOf rs,over H H1 (reachs H 12 (sepArgs H keep vs)) nx,nx') else none
   | none=>none
  else none
 | .fz=>match frzs H 12 vs with
  | some ts=>(match callC T R f ts with
   | some us=>
    if us.all TV.scalar then some (tupOf (us.map .c),H,nx) else none
   | none=>none)
  | none=>match callB T R (nxd d) f (vs.map (frzOr H)) (lockAll H) nx with
   | some (rs,H',_)=>(match frzs H' 12 rs with
    | some us=>if us.all TV.scalar then some (tupOf (us.map .c),H,nx) else none
    | none=>none)
   | none=>none
noncomputable def operV (T:Tab) (R:Run) (d:Nat) (dst:Option Nat) (E:AEnv) (H:Heap) (nx:Nat):AOp→Option (AV×Heap×Nat)
 | .mov x=>some (ev E x,H,nx)
 | .pick c a b=>match ev E c with
  | .c (.s (.bool t))=>some (if t then ev E a else ev E b,H,nx)
  | _=>none
 | .nilc x=>match ev E x with
  | .tptr y o=>some (.tptr y o,H,nx)
  | .ptr o g n i f=>some (.ptr o g n i f,H,nx)
  | .fn f l=>some (.fn f l,H,nx)
  | _=>none
 | .alloc z=>match dst with
  | some t=>if stor z then
    some (.ptr (sid d t) (genAt H (sid d t)) 1 0 0,hupd H (sid d t) ⟨genAt H (sid d t),z.cells.length,true,[z]⟩,nx)
   else none
  | none=>none
 | .box x=>match dst with
  | some t=>if stor (ev E x)=true∧0 < (ev E x).cells.length then
    some (.ptr (sid d t) (genAt H (sid d t)) 1 0 0,hupd H (sid d t) ⟨genAt H (sid d t),(ev E x).cells.length,true,[ev E x]⟩,nx)
   else none
  | none=>none
 | .build zero parts=>match fillCells zero (parts.map fun p=>(p.1,p.2.1,ev E p.2.2)) with
  | some cs=>some (.agg cs,H,nx)
  | none=>none
 | .bslice sz l=>match dst with
  | some t=>if fits sz (l.map (ev E)) then
    some (.ref (sid d t) (genAt H (sid d t)) l.length 0 l.length,hupd H (sid d t) ⟨genAt H (sid d t),sz,true,l.map (ev E)⟩,nx)
   else none
  | none=>none
 | .bsliceD sz l=>if fits sz (l.map (ev E)) then
    some (.ref (.dy nx) (genAt H (.dy nx)) l.length 0 l.length,hupd H (.dy nx) ⟨genAt H (.dy nx),sz,true,l.map (ev E)⟩,nx + 1)
   else none
 | .load agg n a=>match loadV H agg n (ev E a) with
  | some v=>some (v,H,nx)
  | none=>none
 | .store n a x=>match storeV H n (ev E x) (ev E a) with
  | some H'=>some (.undef,H',nx)
  | none=>none
 | .bin op x y=>match ev E x,ev E y with
  | .c (.s a),.c (.s b)=>(match binV op a b with | some r=>some (.c (.s r),H,nx) | none=>none)
  | _,_=>none
 | .binB op x y=>match ev E x,ev E y with
  | .c (.s (.bool a)),.c (.s (.bool b))=>(match op with
   | .eql=>some (gBool (a == b),H,nx)
   | .neq=>some (gBool (a != b),H,nx)
   | _=>none)
  | _,_=>none
 | .binS neg ls x y=>match sameL ls (ev E x).cells (ev E y).cells with
  | some r=>if (ev E x).isAgg=true∧(ev E y).isAgg=true then some (gBool (if neg then !r else r),H,nx) else none
  | none=>none
 | .un op x=>match ev E x with
  | .c (.s a)=>(match unV op a with | some r=>some (.c (.s r),H,nx) | none=>none)
  | _=>none
 | .conv k x=>match ev E x with
  | .c (.s (.int _ n))=>some (.c (.s (.int k (k.wrap n))),H,nx)
  | _=>none
 | .same x=>if (ev E x).isStr=true then some (ev E x,H,nx) else none
 | .b2s x=>match elems H (ev E x) with
  | some es=>(match bytesOf es with | some b=>some (gStr b,H,nx) | none=>none)
  | none=>none
 | .s2b x=>match ev E x with
  | .c (.s (.string s))=>if s.size≤4294967296 then some (.ref (.dy nx) (genAt H (.dy nx)) s.size 0 s.size,hupd H (.dy nx) ⟨genAt H (.dy nx),1,true,bytesVs s⟩,nx + 1) else none
  | _=>none
 | .mkfn f caps=>some (.fn f (caps.map (ev E)),H,nx)
 | .mksl sz zero n=>match intOfV (ev E n) with
  | some m=>if 0≤m∧m * sz≤4294967296∧stor zero=true∧zero.cells.length=sz then
    some (.ref (.dy nx) (genAt H (.dy nx)) m.toNat 0 m.toNat,hupd H (.dy nx) ⟨genAt H (.dy nx),sz,true,List.replicate m.toNat zero⟩,nx + 1)
   else none
  | none=>none
 | .slice sz x lo hi mx=>match optI E lo,optI E hi,optI E mx with
  | some l,some h,some m=>(match sliceV H (ev E x) l h m with
   | some v=>if szOk H sz v=true∧(ev E x).isStr=(sz == 0) then some (v,H,nx) else none
   | none=>none)
  | _,_,_=>none
 | .faddr x off=>match ev E x with
  | .tptr y o=>some (.tptr y (o + off),H,nx)
  | .ptr o g n i f=>some (.ptr o g n i (f + off),H,nx)
  | _=>none
 | .field x off n agg=>match (ev E x).cells,ev E x |>.isAgg with
  | cs,true=>if off + n≤cs.length then
    (if agg then some (.agg ((cs.drop off).take n),H,nx) else match cs[off]? with | some v=>some (v,H,nx) | none=>none) else none
  | _,false=>none
 | .iaddr sz x i=>match intOfV (ev E i) with
  | some j=>if 0≤j then match ev E x with
   | .c (.sl sz' xs)=>(match xs[j.toNat]? with | some y=>if sz'=sz then some (.tptr y 0,H,nx) else none | none=>none)
   | .ref o g n off len=>(match H o with
    | some b=>if b.gen=g∧b.es.length=n∧off + len≤n∧j.toNat < len∧b.sz=sz then some (.ptr o g n (off + j.toNat) 0,H,nx) else none
    | none=>none)
   | _=>none
   else none
  | none=>none
 | .index x i=>match ev E x,intOfV (ev E i) with
  | .c (.s (.string s)),some j=>if 0≤j then (match s[j.toNat]? with | some b=>some (.c (.s (.int .u8 b.toNat)),H,nx) | none=>none) else none
  | _,_=>none
 | .len str x=>match lenV (ev E x) with
  | some n=>if (ev E x).isStr=str then some (gInt n,H,nx) else none
  | none=>none
 | .append sz x y=>
  match srcE H (ev E y) with
  | some new=>
   if fits sz new then
    match ev E x with
    | .nils=>if new=[] then some (.nils,H,nx)
     else if new.length * sz≤4294967296 then some (.ref (.dy nx) (genAt H (.dy nx)) new.length 0 new.length,hupd H (.dy nx) ⟨genAt H (.dy nx),sz,true,new⟩,nx + 1) else none
    | .ref o g n off len=>match H o with
     | some b=>
      if b.gen=g∧b.es.length=n∧off + len≤n∧b.w=true∧b.sz=sz then
       if new=[] then some (.ref o g n off len,H,nx)
       else if off + len + new.length≤n then
        some (.ref o g n off (len + new.length),hupd H o { b with es:=b.es.take (off + len)++new++b.es.drop (off + len + new.length) },nx)
       else if (len + new.length) * sz≤4294967296 then
        let g':=if off=0 then g else g + 1
        some (.ref o g' (len + new.length) 0 (len + new.length),hupd H o { b with gen:=g',es:=(b.es.drop off).take len++new },nx)
       else none
      else none
     | none=>none
    | _=>none
   else none
  | none=>none
 | .copy sz x y=>match srcE H (ev E y),ev E x with
  | some new,.ref o g n off len=>(match H o with
   | some b=>
    if b.gen=g∧b.es.length=n∧off + len≤n∧b.w=true∧fits sz new=true∧b.sz=sz then
     let m:=min len new.length
     some (gInt m,hupd H o { b with es:=b.es.take off++new.take m++b.es.drop (off + m) },nx)
    else none
   | none=>none)
  | _,_=>none
 | .clear zero x=>match ev E x with
  | .ref o g n off len=>(match H o with
   | some b=>
    if b.gen=g∧b.es.length=n∧off + len≤n∧b.w=true∧zero.cells.length=b.sz∧stor zero=true then
     some (.tup [],hupd H o { b with es:=b.es.take off++List.replicate len zero++b.es.drop (off + len) },nx)
    else none
   | none=>none)
  | .nils=>some (.tup [],H,nx)
  | _=>none
 | .minmax mx l=>match minMax mx (l.map (ev E)) with
  | some n=>some (gInt n,H,nx)
  | none=>none
 | .extract x i=>match ev E x with
  | .tup l=>(match l[i]? with | some v=>some (v,H,nx) | none=>none)
  | _=>none
 | .call f args=>callOp T R d f (args.map (ev E)) H nx
 | .callv f args=>match ev E f with
  | .fn g caps=>callOp T R d g (args.map (ev E)++caps) H nx
  | _=>none
 | .caps x g m i=>match ev E x with
  | .fn g' l=>if g'=g∧l.length=m then (match l[i]? with | some v=>some (v,H,nx) | none=>some (.tup [],H,nx)) else none
  | _=>none
 | .tupl l=>some (tupOf (l.map (ev E)),H,nx)
def wantedA (E:AEnv):Option (Nat×Bool)→Option Bool
 | none=>some true
 | some (t,want)=>match E t with
  | .c (.s (.bool b))=>some (b == want)
  | .tup []=>some false
  | _=>none
noncomputable def operF (T:Tab) (R:Run) (d:Nat) (o:AOper) (s:St):Option St:=
 match wantedA s.E o.guard with
 | some true=>(match operV T R d o.dst s.E s.H s.nx o.op with
  | some (v,H,nx)=>some ⟨updO s.E o.dst v,H,nx⟩
  | none=>none)
 | some false=>some ⟨updO s.E o.dst (.tup []),s.H,s.nx⟩
 | none=>none
abbrev F0:Foot:=⟨[],[],[],false,false,false,none⟩
def vIds:AV→List Id
 | .ptr o _ _ _ _=>[o]
 | .ref o _ _ _ _=>[o]
 | _=>[]
def footCall (T:Tab) (f:Nat) (vs:List AV) (H:Heap) (nx:Nat):Foot:=
 match T.mode f with
 | .fz=>match frzs H 12 vs with
  | some _=>⟨idsOfs H 12 vs,[],[],false,false,false,none⟩
  | none=>⟨[],[],[],true,true,false,none⟩
 | .sep keep=>⟨sepRd H keep vs++reachs H 12 (sepArgs H keep vs),reachs H 12 (sepArgs H keep vs),[],true,false,false,some nx⟩
 | .mu=>⟨[],[],[],true,true,true,none⟩
def foot (T:Tab) (d:Nat) (dst:Option Nat) (E:AEnv) (H:Heap) (nx:Nat):AOp→Foot
 | .alloc _ | .box _ | .bslice _ _=>⟨[],(match dst with | some t=>[sid d t] | none=>[]),[],false,false,false,none⟩
 | .load _ _ a=>⟨vIds (ev E a),[],[],false,false,false,none⟩
 | .store _ a _=>⟨[],vIds (ev E a),[],false,false,false,none⟩
 | .b2s x=>⟨vIds (ev E x),[],[],false,false,false,none⟩
 | .slice _ x _ _ _=>⟨vIds (ev E x),[],[],false,false,false,none⟩
 | .iaddr _ x _=>⟨vIds (ev E x),[],[],false,false,false,none⟩
 | .s2b _=>⟨[],[.dy nx],[],true,false,false,none⟩
 | .mksl _ _ _=>⟨[],[.dy nx],[],true,false,false,none⟩
 | .bsliceD _ _=>⟨[],[.dy nx],[],true,false,false,none⟩
 | .append _ x y=>⟨vIds (ev E y),(match ev E x with | .nils=>[.dy nx] | v=>vIds v),[],true,false,false,none⟩
 | .copy _ x y=>⟨vIds (ev E y),vIds (ev E x),[],false,false,false,none⟩
 | .clear _ x=>⟨[],vIds (ev E x),[],false,false,false,none⟩
 | .call f args=>footCall T f (args.map (ev E)) H nx
 | .callv f args=>match ev E f with
  | .fn g caps=>footCall T g (args.map (ev E)++caps) H nx
  | _=>F0
 | _=>F0
def footO (T:Tab) (d:Nat) (o:AOper) (s:St):Foot:=
 match wantedA s.E o.guard with
 | some true=>foot T d o.dst s.E s.H s.nx o.op
 | _=>F0
def disj (a b:List Id):Bool:=a.all fun x=>b.all fun y=>decide (x≠y)
def oldId (fr:Option Nat) (o:Id):Bool:=match fr with | some n=>!isFresh n o | none=>true
def indep (F G:Foot):Bool:=
 ((G.rd++(G.wr++G.lk)).all (oldId F.fr) && (F.rd++(F.wr++F.lk)).all (oldId G.fr) && (F.fr.isNone || G.fr.isNone) && (!F.all || G.fr.isNone) && (!G.all || F.fr.isNone)) &&
 (!F.wall && !G.wall && (!F.all || (G.wr.isEmpty && G.lk.isEmpty)) && (!G.all || (F.wr.isEmpty && F.lk.isEmpty)) &&
  disj F.wr (G.rd++(G.wr++G.lk)) && disj G.wr (F.rd++F.lk) && disj F.lk G.lk && !(F.nx && G.nx))
def okPrs (fs:List Foot) (prs:List (Nat×Nat)):Bool:=
 prs.all fun p=>match fs[p.1]?,fs[p.2]? with | some F,some G=>indep F G | _,_=>false
def enterE (E:AEnv) (off n:Nat) (l:List AV):AEnv:=fun t=>if off≤t∧t < off + n then l.getD (t - off) .undef else E t
noncomputable def runF (T:Tab):Nat→Run
 | 0,_,_,_=>none
 | n + 1,d,K,s=>match K with
  | []=>some s
  | .code .ret :: _=>some s
  | .code .skip :: K=>runF T n d K s
  | .blk _ :: K=>runF T n d K s
  | .code (.seq a b) :: K=>runF T n d (.code a :: .code b :: K) s
  | .code (.cond c a b) :: K=>match ev s.E c with
   | .c (.s (.bool t))=>runF T n d (.code (if t then a else b) :: K) s
   | _=>none
  | .code (.block i b) :: K=>runF T n d (.code b :: .blk i :: K) s
  | .code (.loop b) :: K=>runF T n d (.code b :: .lp b :: K) s
  | .lp b :: K=>runF T n d (.code b :: .lp b :: K) s
  | .code (.exit i) :: K=>match unwind i K with
   | some K'=>runF T n d K' s
   | none=>none
  | .code (.enter off m args) :: K=>runF T n d K ⟨enterE s.E off m (args.map (ev s.E)),s.H,s.nx⟩
  | .code (.opsU fs [] prs) :: K=>if okPrs fs prs=true then runF T n d K s else none
  | .code (.opsU fs (o :: r) prs) :: K=>match operF T (runF T n) d o s with
   | some s'=>runF T n d (.code (.opsU (fs++[footO T d o s]) r prs) :: K) s'
   | none=>none
  | .code (.ops []) :: K=>runF T n d K s
  | .code (.ops (o :: r)) :: K=>match operF T (runF T n) d o s with
   | some s'=>runF T n d (.code (.ops r) :: K) s'
   | none=>none
end Go.Am
/- The small machine without its rounds: equations by which it is run. -/
namespace Go.Am
def LeR (R R':Run):Prop:=∀ d K s r,R d K s=some r→R' d K s=some r
theorem callB_mono {T:Tab} {R R':Run} (h:LeR R R') {d f args H nx r} (e:callB T R d f args H nx=some r):callB T R' d f args H nx=some r:=by
 unfold callB at *
 split at e
 ·rename_i F hF
  split at e
  ·rename_i ha
   simp only [ha,if_true]
   split at e
   ·rename_i s hs
    rw [h _ _ _ _ hs]; exact e
   ·cases e
  ·cases e
 ·cases e
theorem callC_mono {T:Tab} {R R':Run} (h:LeR R R') {f ts r} (e:callC T R f ts=some r):callC T R' f ts=some r:=by
 unfold callC at *
 split at e
 ·exact e
 ·split at e
  ·rename_i hb
   rw [callB_mono h hb]; exact e
  ·cases e
theorem callOp_mono {T:Tab} {R R':Run} (h:LeR R R') {d f vs H nx r} (e:callOp T R d f vs H nx=some r):callOp T R' d f vs H nx=some r:=by
 unfold callOp at *
 split at e
 ·split at e
  ·rename_i hb
   rw [callB_mono h hb]; exact e
  ·cases e
 ·split at e
  ·rename_i hp
   rw [if_pos hp]
   split at e
   ·rename_i hb
    rw [callB_mono h hb]; exact e
   ·cases e
  ·cases e
 ·split at e
  ·rename_i ts hts
   split at e
   ·rename_i us hus
    rw [callC_mono h hus]; exact e
   ·cases e
  ·split at e
   ·rename_i hb
    rw [callB_mono h hb]; exact e
   ·cases e
theorem operV_mono {T:Tab} {R R':Run} (h:LeR R R') {d dst E H nx o r} (e:operV T R d dst E H nx o=some r):operV T R' d dst E H nx o=some r:=by
 cases o with
 | call f args=>exact callOp_mono h e
 | callv f args=>
  simp only [operV] at *
  split at e
  ·exact callOp_mono h e
  ·cases e
 | _=>exact e
theorem operF_mono {T:Tab} {R R':Run} (h:LeR R R') {d o s r} (e:operF T R d o s=some r):operF T R' d o s=some r:=by
 unfold operF at *
 split at e
 ·split at e
  ·rename_i hv
   rw [operV_mono h hv]; exact e
  ·cases e
 ·exact e
 ·cases e
theorem runF_succ (T:Tab):∀ n,LeR (runF T n) (runF T (n + 1)):=by
 intro n
 induction n with
 | zero=>intro d K s r h; simp [runF] at h
 | succ n ih=>
  intro d K s r h
  unfold runF at h ⊢
  split at h
  ·exact h
  ·exact h
  ·exact ih _ _ _ _ h
  ·exact ih _ _ _ _ h
  ·exact ih _ _ _ _ h
  ·split at h
   ·rename_i hb
    exact ih _ _ _ _ h
   ·cases h
  ·exact ih _ _ _ _ h
  ·exact ih _ _ _ _ h
  ·exact ih _ _ _ _ h
  ·split at h
   ·exact ih _ _ _ _ h
   ·cases h
  ·exact ih _ _ _ _ h
  ·split at h
   ·rename_i hp
    rw [if_pos hp]; exact ih _ _ _ _ h
   ·cases h
  ·split at h
   ·rename_i ho
    rw [operF_mono ih ho]; exact ih _ _ _ _ h
   ·cases h
  ·exact ih _ _ _ _ h
  ·split at h
   ·rename_i ho
    rw [operF_mono ih ho]; exact ih _ _ _ _ h
   ·cases h
theorem runF_le (T:Tab) {n m:Nat} (h:n≤m):LeR (runF T n) (runF T m):=by
 induction h with
 | refl=>exact fun _ _ _ _ h=>h
 | step _ ih=>exact fun d K s r h=>runF_succ T _ d K s r (ih d K s r h)
open Classical in
noncomputable def arun (T:Tab):Run:=fun d K s=>if h:∃ n r,runF T n d K s=some r then some h.choose_spec.choose else none
theorem arun_iff {T:Tab} {d K s r}:arun T d K s=some r↔∃ n,runF T n d K s=some r:=by
 unfold arun
 constructor
 ·intro h
  split at h
  ·rename_i hx
   exact ⟨_,(Option.some.inj h) ▸ hx.choose_spec.choose_spec⟩
  ·cases h
 ·rintro ⟨n,hn⟩
  have hx:∃ n r,runF T n d K s=some r:=⟨n,r,hn⟩
  rw [dif_pos hx]
  have h1:=hx.choose_spec.choose_spec
  have h2:=runF_le T (Nat.le_max_left n hx.choose) _ _ _ _ hn
  have h3:=runF_le T (Nat.le_max_right n hx.choose) _ _ _ _ h1
  rw [h2] at h3
  exact h3.symm
theorem runF_arun {T:Tab} (n:Nat):LeR (runF T n) (arun T):=fun _ _ _ _ h=>arun_iff.2 ⟨n,h⟩
theorem arun_cont {T:Tab} {α:Type} (G:Run→Option α) (hm:∀ R R':Run,LeR R R'→∀ r,G R=some r→G R'=some r)
  (hc:∀ r,G (arun T)=some r→∃ n,G (runF T n)=some r) {r:α}:G (arun T)=some r↔∃ n,G (runF T n)=some r:=
 ⟨hc r,fun ⟨n,h⟩=>hm _ _ (runF_arun n) _ h⟩
theorem callB_cont {T:Tab} {d f args H nx r} (e:callB T (arun T) d f args H nx=some r):∃ n,callB T (runF T n) d f args H nx=some r:=by
 unfold callB at *
 split at e
 ·rename_i F hF
  split at e
  ·rename_i ha
   split at e
   ·rename_i s hs
    obtain ⟨n,hn⟩:=arun_iff.1 hs
    exact ⟨n,by simp only [ha,if_true,hn]; exact e⟩
   ·cases e
  ·cases e
 ·cases e
theorem callC_cont {T:Tab} {f ts r} (e:callC T (arun T) f ts=some r):∃ n,callC T (runF T n) f ts=some r:=by
 unfold callC at *
 split at e
 ·exact ⟨0,e⟩
 ·split at e
  ·rename_i hb
   obtain ⟨n,hn⟩:=callB_cont hb
   exact ⟨n,by rw [hn]; exact e⟩
  ·cases e
theorem callOp_cont {T:Tab} {d f vs H nx r} (e:callOp T (arun T) d f vs H nx=some r):∃ n,callOp T (runF T n) d f vs H nx=some r:=by
 unfold callOp at *
 split at e
 ·split at e
  ·rename_i hb
   obtain ⟨n,hn⟩:=callB_cont hb
   exact ⟨n,by rw [hn]; exact e⟩
  ·cases e
 ·split at e
  ·rename_i hp
   split at e
   ·rename_i hb
    obtain ⟨n,hn⟩:=callB_cont hb
    exact ⟨n,by rw [if_pos hp,hn]; exact e⟩
   ·cases e
  ·cases e
 ·split at e
  ·rename_i ts hts
   split at e
   ·rename_i us hus
    obtain ⟨n,hn⟩:=callC_cont hus
    exact ⟨n,by rw [hn]; exact e⟩
   ·cases e
  ·split at e
   ·rename_i hb
    obtain ⟨n,hn⟩:=callB_cont hb
    exact ⟨n,by rw [hn]; exact e⟩
   ·cases e
theorem operV_cont {T:Tab} {d dst E H nx o r} (e:operV T (arun T) d dst E H nx o=some r):∃ n,operV T (runF T n) d dst E H nx o=some r:=by
 cases o with
 | call f args=>exact callOp_cont e
 | callv f args=>
  simp only [operV] at *
  split at e
  ·exact callOp_cont e
  ·cases e
 | _=>exact ⟨0,e⟩
theorem operF_cont {T:Tab} {d o s r} (e:operF T (arun T) d o s=some r):∃ n,operF T (runF T n) d o s=some r:=by
 unfold operF at *
 split at e
 ·split at e
  ·rename_i hv
   obtain ⟨n,hn⟩:=operV_cont hv
   exact ⟨n,by rw [hn]; exact e⟩
  ·cases e
 ·exact ⟨0,e⟩
 ·cases e
theorem opt_ext {α:Type} {a b:Option α} (h:∀ r,a=some r↔b=some r):a=b:=by
 cases a with
 | none=>cases b with
  | none=>rfl
  | some y=>exact ((h y).2 rfl)
 | some x=>exact ((h x).1 rfl).symm
theorem arun_step {T:Tab} {d K s} {d' K' s'} (h:∀ n,runF T (n + 1) d K s=runF T n d' K' s'):arun T d K s=arun T d' K' s':=by
 refine opt_ext fun r=>?_
 rw [arun_iff,arun_iff]
 constructor
 ·rintro ⟨n,hn⟩
  exact ⟨n,by rw [← h]; exact runF_succ T n _ _ _ _ hn⟩
 ·rintro ⟨n,hn⟩
  exact ⟨n + 1,by rw [h]; exact hn⟩
theorem arun_const {T:Tab} {d K s} {r:Option St} (h:∀ n,runF T (n + 1) d K s=r):arun T d K s=r:=by
 refine opt_ext fun q=>?_
 rw [arun_iff]
 constructor
 ·rintro ⟨n,hn⟩
  rw [← h n]; exact runF_succ T n _ _ _ _ hn
 ·intro hq
  exact ⟨1,by rw [h 0]; exact hq⟩
section
variable {T:Tab} {d:Nat} {K:List It} {s:St}
theorem arun_nil:arun T d [] s=some s:=arun_const fun _=>rfl
theorem arun_ret:arun T d (.code .ret :: K) s=some s:=arun_const fun _=>rfl
theorem arun_skip:arun T d (.code .skip :: K) s=arun T d K s:=arun_step fun _=>rfl
theorem arun_blk {i:Nat}:arun T d (.blk i :: K) s=arun T d K s:=arun_step fun _=>rfl
theorem arun_seq {a b:AC}:arun T d (.code (.seq a b) :: K) s=arun T d (.code a :: .code b :: K) s:=arun_step fun _=>rfl
theorem arun_block {i:Nat} {b:AC}:arun T d (.code (.block i b) :: K) s=arun T d (.code b :: .blk i :: K) s:=arun_step fun _=>rfl
theorem arun_loop {b:AC}:arun T d (.code (.loop b) :: K) s=arun T d (.code b :: .lp b :: K) s:=arun_step fun _=>rfl
theorem arun_lp {b:AC}:arun T d (.lp b :: K) s=arun T d (.code b :: .lp b :: K) s:=arun_step fun _=>rfl
theorem arun_enter {off m:Nat} {args:List Opd}:arun T d (.code (.enter off m args) :: K) s=arun T d K ⟨enterE s.E off m (args.map (ev s.E)),s.H,s.nx⟩:=arun_step fun _=>rfl
theorem arun_ops0:arun T d (.code (.ops []) :: K) s=arun T d K s:=arun_step fun _=>rfl
theorem arun_exit {i:Nat}:arun T d (.code (.exit i) :: K) s=(match unwind i K with | some K'=>arun T d K' s | none=>none):=by
 cases h:unwind i K with
 | none=>exact arun_const fun n=>by simp [runF,h]
 | some K'=>exact arun_step fun n=>by simp [runF,h]
theorem arun_cond {c:Opd} {a b:AC}:arun T d (.code (.cond c a b) :: K) s=(match ev s.E c with
  | .c (.s (.bool t))=>arun T d (.code (if t then a else b) :: K) s
  | _=>none):=by
 split
 ·rename_i t h
  exact arun_step fun n=>by simp only [runF]; rw [h]
 ·rename_i h
  refine arun_const fun n=>?_
  simp only [runF]
theorem arun_opsU0 {fs:List Foot} {prs:List (Nat×Nat)}:arun T d (.code (.opsU fs [] prs) :: K) s=(if okPrs fs prs=true then arun T d K s else none):=by
 split
 ·rename_i h
  exact arun_step fun n=>by simp only [runF]; rw [if_pos h]
 ·rename_i h
  refine arun_const fun n=>?_
  simp only [runF]; rw [if_neg h]
theorem arun_opU {fs:List Foot} {prs:List (Nat×Nat)} {o:AOper} {r:List AOper}:arun T d (.code (.opsU fs (o :: r) prs) :: K) s=(match operF T (arun T) d o s with
  | some s'=>arun T d (.code (.opsU (fs++[footO T d o s]) r prs) :: K) s'
  | none=>none):=by
 refine opt_ext fun q=>?_
 rw [arun_iff]
 constructor
 ·rintro ⟨n,hn⟩
  cases n with
  | zero=>simp [runF] at hn
  | succ n=>
   simp only [runF] at hn
   split at hn
   ·rename_i s' hs
    rw [operF_mono (runF_arun n) hs]
    exact arun_iff.2 ⟨n,hn⟩
   ·cases hn
 ·intro h
  split at h
  ·rename_i s' hs
   obtain ⟨n,hn⟩:=operF_cont hs
   obtain ⟨m,hm⟩:=arun_iff.1 h
   refine ⟨max n m + 1,?_⟩
   simp only [runF]
   rw [operF_mono (runF_le T (Nat.le_max_left n m)) hn]
   exact runF_le T (Nat.le_max_right n m) _ _ _ _ hm
  ·cases h
theorem arun_op {o:AOper} {r:List AOper}:arun T d (.code (.ops (o :: r)) :: K) s=(match operF T (arun T) d o s with
  | some s'=>arun T d (.code (.ops r) :: K) s'
  | none=>none):=by
 refine opt_ext fun q=>?_
 rw [arun_iff]
 constructor
 ·rintro ⟨n,hn⟩
  cases n with
  | zero=>simp [runF] at hn
  | succ n=>
   simp only [runF] at hn
   split at hn
   ·rename_i s' hs
    rw [operF_mono (runF_arun n) hs]
    exact arun_iff.2 ⟨n,hn⟩
   ·cases hn
 ·intro h
  split at h
  ·rename_i s' hs
   obtain ⟨n,hn⟩:=operF_cont hs
   obtain ⟨m,hm⟩:=arun_iff.1 h
   refine ⟨max n m + 1,?_⟩
   simp only [runF]
   rw [operF_mono (runF_le T (Nat.le_max_left n m)) hn]
   exact runF_le T (Nat.le_max_right n m) _ _ _ _ hm
  ·cases h
end
end Go.Am
/- Go's code as code of the small machine. -/
namespace Go.Am
def mapMO {α β:Type} (f:α→Option β):List α→Option (List β)
 | []=>some []
 | x :: r=>match f x with
  | some y=>(match mapMO f r with | some ys=>some (y :: ys) | none=>none)
  | none=>none
def flatV:Value→Bool
 | .bool _ | .int .. | .string _ | .nilFunc | .nilIface | .pointer none | .map none | .iface ..=>true
 | _=>false
def cellOf (v:Value):Option AV:=
 match v with
 | .slice none 0 0=>some .nils
 | v=>if flatV v then some (.c (.s v)) else none
def valOf (v:Value):Option AV:=
 match v with
 | .agg cs=>match mapMO cellOf cs.toList with | some l=>some (.agg l) | none=>none
 | v=>cellOf v
def opdOf:Operand→Option Opd
 | .tmp t=>some (.t t)
 | .const v=>match valOf v with | some a=>some (.k a) | none=>none
 | .func f=>some (.k (.fn f []))
 | .global _=>none
section
variable (P:Program)
def sizeT (t:TypeId):Option Nat:=match P.info? t with | some i=>if i.bytes≤32 * i.size∧0 < i.size then some i.size else none | none=>none
def zeroT (t:TypeId):Option AV:=match P.info? t with
 | some i=>match i.zero with
  | some v=>match valOf v with
   | some a=>if a.cells.length=i.size then some a else none
   | none=>none
  | none=>none
 | none=>none
def aggT (t:TypeId):Option Bool:=match P.underlying t with
 | some (.struct _)=>some true
 | some (.array _ _)=>some true
 | some _=>some false
 | none=>none
def elemT (t:TypeId):Option TypeId:=match P.underlying t with | some (.slice e)=>some e | _=>none
def leavesF (g:TypeId→Option (List Lf)):List Field→Nat→Option (List Lf)
 | [],_=>some []
 | f :: r, n => if f.name ≠ "_" ∧ f.offset = n then match g f.type with
   | some l=>(match leavesF g r (n + l.length) with | some q=>some (l++q) | none=>none)
   | none=>none
  else none
def leaves:Nat→TypeId→Option (List Lf)
 | 0,_=>none
 | d + 1,t=>match P.underlying t with
  | some (.int _)=>some [.i]
  | some .string=>some [.s]
  | some .bool=>some [.b]
  | some (.struct fs)=>if P.stoodInHeld t=true then none else match leavesF (leaves d) fs.toList 0 with
   | some l=>if sizeT P t=some l.length then some l else none
   | none=>none
  | _=>none
def guardOf (ops:Array Oper):Option (Nat×Bool)→Option (Option (Nat×Bool))
 | none=>some none
 | some (j,b)=>match ops[j]? with
  | some o=>match o.dst with | some t=>some (some (t,b)) | none=>none
  | none=>none
def idxParts:Nat→List (Nat×Opd)→Option (List Opd)
 | _,[]=>some []
 | i,(j,x) :: r=>if j=i then (match idxParts (i + 1) r with | some l=>some (x :: l) | none=>none) else none
def optO:Option Operand→Option (Option Opd)
 | none=>some none
 | some x=>match opdOf x with | some y=>some (some y) | none=>none
def callOf (c:Call) (t:TypeId):Option AOp:=
 match mapMO opdOf c.args.toList with
 | none=>none
 | some args=>match c.callee with
  | .value (.func f)=>some (.call f args)
  | .value (.tmp t)=>some (.callv (.t t) args)
  | .builtin b=>match b,args,c.argTypes.toList with
   | .len,[x],[t]=>match P.underlying t with
    | some .string=>some (.len true x)
    | some (.slice _)=>some (.len false x)
    | _=>none
   | .append,[x,y],[t,u]=>match elemT P t,P.underlying u with
    | some e,some uu=>match uu with
     | .int _=>none
     | _=>match sizeT P e,zeroT P e with | some s,some _=>some (.append s x y) | _,_=>none
    | _,_=>none
   | .copy,[x,y],[t,_]=>match elemT P t with
    | some e=>match sizeT P e with | some s=>some (.copy s x y) | none=>none
    | none=>none
   | .clear,[x],[t]=>match elemT P t with
    | some e=>match zeroT P e with | some z=>some (.clear z x) | none=>none
    | none=>none
   | .min,l,_=>some (.minmax false l)
   | .max,l,_=>some (.minmax true l)
   | _,_,_=>none
  | _=>none
def isU8 (t:TypeId):Bool:=match P.underlying t with | some (.int .u8)=>true | _=>false
def opOf (o:Oper):Option AOp:=
 match o.op with
 | .move x | .assign x=>match opdOf x with | some y=>some (.mov y) | none=>none
 | .pick c a b=>match opdOf c,opdOf a,opdOf b with | some c,some a,some b=>some (.pick c a b) | _,_,_=>none
 | .nilCheck x=>match opdOf x with | some y=>some (.nilc y) | none=>none
 | .alloc t=>match zeroT P t,sizeT P t with
  | some z,some _=>some (.alloc z)
  | _,_=>none
 | .box _ x=>match opdOf x with | some y=>some (.box y) | none=>none
 | .build t parts=>match zeroT P t,P.underlying t,mapMO (fun p:Nat×Operand=>match opdOf p.2 with | some y=>some (p.1,y) | none=>none) parts.toList with
  | some z,some (.struct fs),some ps=>
   if (fs.toList.all fun f=>(sizeT P f.type).isSome)=false then none else
   match mapMO (fun p:Nat×Opd=>match fs[p.1]? with
    | some f=>match sizeT P f.type with | some s=>some (f.offset,s,p.2) | none=>none
    | none=>none) ps with
   | some l=>some (.build z.cells l)
   | none=>none
  | _,_,_=>none
 | .buildSlice t len parts=>match elemT P t,mapMO (fun p:Nat×Operand=>match opdOf p.2 with | some y=>some (p.1,y) | none=>none) parts.toList with
  | some e,some ps=>match sizeT P e,idxParts 0 ps,zeroT P e with
   | some s,some l,some _=>if l.length=len∧len≤1000∧s≤1000 then some (if (isU8 P e && !l.isEmpty)=true then .bslice s l else .bsliceD s l) else none
   | _,_,_=>none
  | _,_=>none
 | .load t a=>match aggT P t,sizeT P t,opdOf a with | some ag,some s,some y=>some (.load ag s y) | _,_,_=>none
 | .store t a x=>match sizeT P t,opdOf a,opdOf x with | some s,some y,some z=>some (.store s y z) | _,_,_=>none
 | .binOp op t x y _=>match opdOf x,opdOf y with
  | some a,some b=>match P.underlying t with
   | some (.int _)=>some (.bin op a b)
   | some .string=>some (.bin op a b)
   | some .bool=>some (.binB op a b)
   | some (.struct _)=>if P.eqGuardType P.depth t=true then none else match op,leaves P 5 t with
    | .eql,some l=>some (.binS false l a b)
    | .neq,some l=>some (.binS true l a b)
    | _,_=>none
   | _=>none
  | _,_=>none
 | .unOp op _ x=>match opdOf x with | some y=>some (.un op y) | none=>none
 | .convert s d x=>match P.underlying s,P.underlying d,opdOf x with
  | some (.int _),some (.int k),some y=>some (.conv k y)
  | some .string,some .string,some y=>some (.same y)
  | some (.slice e),some .string,some y=>match P.underlying e with | some (.int .u8)=>some (.b2s y) | _=>none
  | some .string,some (.slice e),some y=>match P.underlying e with | some (.int .u8)=>some (.s2b y) | _=>none
  | _,_,_=>none
 | .makeFunc (.func f) first caps=>if first.isEmpty then match mapMO opdOf caps.toList with | some l=>some (.mkfn f l) | none=>none else none
 | .makeSlice t l c=>match elemT P t,opdOf l,opdOf c with
  | some e,some n,some m=>match zeroT P e,sizeT P e,n,m with
   | some z,some s,.t a,.t b=>if a=b then some (.mksl s z (.t a)) else none
   | some z,some s,.k a,.k b=>match intOfV a,intOfV b with | some i,some j=>if i=j then some (.mksl s z (.k a)) else none | _,_=>none
   | _,_,_,_=>none
  | _,_,_=>none
 | .slice t x lo hi mx=>match P.underlying t,opdOf x,optO lo,optO hi,optO mx with
  | some .string,some y,some l,some h,some m=>some (.slice 0 y l h m)
  | some (.slice e),some y,some l,some h,some m=>match sizeT P e with | some s=>some (.slice s y l h m) | none=>none
  | _,_,_,_,_=>none
 | .fieldAddr s x f=>match P.underlying s,opdOf x with
  | some (.struct fs),some y=>match fs[f]? with
   | some fd=>match sizeT P fd.type with | some _=>some (.faddr y fd.offset) | none=>none
   | none=>none
  | _,_=>none
 | .field t x f=>match P.underlying t,opdOf x with
  | some (.struct fs),some y=>match fs[f]? with
   | some fd=>match sizeT P fd.type,aggT P fd.type with | some s,some ag=>some (.field y fd.offset s ag) | _,_=>none
   | none=>none
  | _,_=>none
 | .indexAddr t x i=>match elemT P t,opdOf x,opdOf i with
  | some e,some y,some j=>match sizeT P e with | some s=>some (.iaddr s y j) | none=>none
  | _,_,_=>none
 | .index t x i=>match P.underlying t,opdOf x,opdOf i with
  | some .string,some y,some j=>some (.index y j)
  | _,_,_=>none
 | .extract x i=>match opdOf x with | some y=>some (.extract y i) | none=>none
 | .call c=>callOf P c o.type
 | _=>none
def operOf (ops:Array Oper) (o:Oper):Option AOper:=
 match guardOf ops o.guard,opOf P o with
 | some g,some k=>some ⟨o.dst,g,k⟩
 | _,_=>none
def ancMask (acc:List Nat) (o:Oper):Nat:=o.after.toList.foldl (fun s e=>if Region.binds .any e=true then s ||| (2 ^ e.on ||| acc.getD e.on 0) else s) 0
def ancs:List Nat→List Oper→List Nat
 | acc,[]=>acc
 | acc,o :: r=>ancs (acc++[ancMask acc o]) r
def backB:Nat→List Oper→Bool
 | _,[]=>true
 | j,o :: r=>(o.after.toList.all fun e=>!Region.binds .any e || decide (e.on < j)) && backB (j + 1) r
def Opd.tmps:Opd→List Nat
 | .t n=>[n]
 | .k _=>[]
def oTmps:Option Opd→List Nat
 | some x=>x.tmps
 | none=>[]
def looks:AOp→List Nat
 | .caps x _ _ _ | .mov x | .nilc x | .box x | .load _ _ x | .un _ x | .conv _ x | .same x | .b2s x | .s2b x | .mksl _ _ x | .faddr x _ | .field x _ _ _ | .len _ x | .clear _ x | .extract x _=>x.tmps
 | .pick c a b=>c.tmps++(a.tmps++b.tmps)
 | .alloc _=>[]
 | .build _ ps=>ps.flatMap fun p=>p.2.2.tmps
 | .bslice _ l | .bsliceD _ l | .mkfn _ l | .minmax _ l | .call _ l | .tupl l=>l.flatMap Opd.tmps
 | .store _ x y | .bin _ x y | .binB _ x y | .binS _ _ x y | .iaddr _ x y | .index x y | .append _ x y | .copy _ x y=>x.tmps++y.tmps
 | .slice _ x a b c=>x.tmps++(oTmps a++(oTmps b++oTmps c))
 | .callv f l=>f.tmps++l.flatMap Opd.tmps
def looksO (o:AOper):List Nat:=(match o.guard with | some (t,_)=>[t] | none=>[])++looks o.op
def apartA (x y:AOper):Bool:=
 (match x.dst with | some t=>!(looksO y).contains t | none=>true) && ((match y.dst with | some t=>!(looksO x).contains t | none=>true) &&
  (match x.dst,y.dst with | some t,some u=>decide (t≠u) | _,_=>true))
def kindA:AOp→Nat
 | .load .. | .b2s .. | .slice .. | .iaddr ..=>1
 | .alloc .. | .box .. | .bslice .. | .bsliceD .. | .store .. | .s2b .. | .mksl .. | .append .. | .copy .. | .clear .. | .call .. | .callv ..=>2
 | _=>0
def mayMeet (x y:AOper):Bool:=(kindA x.op == 2 && kindA y.op != 0) || (kindA y.op == 2 && kindA x.op != 0)
def prsOf (m:List Nat) (l:List AOper):List (Nat×Nat):=
 (List.range l.length).flatMap fun j=>(List.range j).filterMap fun i=>
  if (m.getD j 0).testBit i then none else
  match l[i]?,l[j]? with | some x,some y=>if mayMeet x y then some (i,j) else none | _,_=>none
def apartB (m:List Nat) (l:List AOper):Bool:=
 (List.range l.length).all fun j=>(List.range j).all fun i=>(m.getD j 0).testBit i || (match l[i]?,l[j]? with | some x,some y=>apartA x y | _,_=>true)
def drawOf (ops:List Oper) (l:List AOper):Option AC:=
 if backB 0 ops=true∧apartB (ancs [] ops) l=true then
  some (match prsOf (ancs [] ops) l with | []=>.ops l | p=>.opsU [] l p)
 else none
def regOf (ops:Array Oper) (draw:Bool):Option AC:=match mapMO (operOf P ops) ops.toList with
 | some l=>if draw=true then drawOf ops.toList l else some (.ops l)
 | none=>none
def stuckC:AC:=.ops [⟨none,none,.store 1 (.k (.c (.s (.bool false)))) (.k (.c (.s (.bool false))))⟩]
def codeOf:Code→Option AC
 | .skip=>some .skip
 | .region _ ops draw=>match regOf P ops draw with
  | some c=>some c
  | none=>some stuckC
 | .seq a b=>match codeOf a,codeOf b with | some x,some y=>some (.seq x y) | _,_=>none
 | .cond c a b=>match opdOf c,codeOf a,codeOf b with | some c,some x,some y=>some (.cond c x y) | _,_,_=>none
 | .block i b=>match codeOf b with | some x=>some (.block i x) | none=>none
 | .loop b=>match codeOf b with | some x=>some (.loop x) | none=>none
 | .exit i=>some (.exit i)
 | .ret=>some .ret
 | _=>none
def resOf:List ResultVar→Option (List ARes)
 | []=>some []
 | .tmp t :: r=>match resOf r with | some l=>some (.tmp t :: l) | none=>none
 | .cell t ty :: r=>match aggT P ty,sizeT P ty,resOf r with | some ag,some n,some l=>some (.cell t ag n :: l) | _,_,_=>none
def okD (n:Nat):AC→Bool
 | .ops l | .opsU _ l _=>l.all fun o=>match o.dst with | some t=>decide (t < n) | none=>true
 | .seq a b | .cond _ a b=>okD n a && okD n b
 | .block _ b | .loop b=>okD n b
 | _=>true
def fnOf (F:Func):Option AFn:=
 match F.body,resOf P F.results.toList with
 | some c,some r=>match codeOf P c with
  | some b=>if okD F.ntmps b∧F.params.size + F.nfree≤F.ntmps then some ⟨F.params.size + F.nfree,F.ntmps,r,b⟩ else none
  | none=>none
 | _,_=>none
end
end Go.Am
/- Words and rules for running the small machine in proofs. -/
namespace Go.Am
abbrev kI (n:Int):AV:=.c (.s (.int .i64 n))
abbrev kB (b:Bool):AV:=.c (.s (.bool b))
abbrev kE:AV:=.c (.s (.string ByteArray.empty))
abbrev kS (l:List Nat):AV:=.c (.s (.string ⟨(l.map UInt8.ofNat).toArray⟩))
abbrev dO (d:Nat) (o:AOp):AOper:=⟨some d,none,o⟩
abbrev nO (o:AOp):AOper:=⟨none,none,o⟩
abbrev gO (d g:Nat) (b:Bool) (o:AOp):AOper:=⟨some d,some (g,b),o⟩
abbrev hO (g:Nat) (b:Bool) (o:AOp):AOper:=⟨none,some (g,b),o⟩
theorem upd_same (E:AEnv) (t:Nat) (v:AV):upd E t v t=v:=by simp [upd]
theorem upd_ne (E:AEnv) {t s:Nat} (v:AV) (h:s≠t):upd E t v s=E s:=by simp [upd,h]
theorem upd_at (E:AEnv) (t s:Nat) (v:AV):upd E t v s=if s=t then v else E s:=rfl
theorem hupd_same (H:Heap) (o:Id) (b:Obj):hupd H o b o=some b:=by simp [hupd]
theorem hupd_ne (H:Heap) {o p:Id} (b:Obj) (h:p≠o):hupd H o b p=H p:=by simp [hupd,h]
theorem hupd_at (H:Heap) (o p:Id) (b:Obj):hupd H o b p=if p=o then some b else H p:=rfl
theorem wrap_i64 {n:Int} (h:-9223372036854775808≤n∧n≤9223372036854775807):IntKind.i64.wrap n=n:=by
 simp only [IntKind.wrap,IntKind.signed,IntKind.bits]
 simp
 omega
end Go.Am
/- How the small machine's values and objects stand for Go's values and memory; what stays when memory grows. -/
namespace Go.Am
abbrev Mem:=Addr→Option Value
def oneCell:Value→Bool
 | .agg _ | .tuple _=>false
 | _=>true
theorem cells_one {v:Value} (h:oneCell v=true):v.cells = #[v]:=by
 cases v <;> first | rfl | simp [oneCell] at h
mutual
def TRel (m:Mem):TV→Value→Prop
 | .s x,v=>v=x∧flatV x=true
 | .agg cs,v=>∃ vs:List Value,v = .agg vs.toArray∧TRels m cs vs
 | .sl sz xs,v=>∃ a len cap,v = .slice a len cap∧len=xs.length∧len≤cap ∧
   (len=0∨∃ addr,a=some addr∧addr.spot=none∧TElems m sz addr 0 xs)
def TRels (m:Mem):List TV→List Value→Prop
 | [],[]=>True
 | x :: r,v :: q=>TRel m x v∧oneCell v=true∧TRels m r q
 | _,_=>False
def TElems (m:Mem) (sz:Nat) (addr:Addr):Nat→List TV→Prop
 | _,[]=>True
 | i,x :: r=>(∃ v,TRel m x v∧v.cells.size=sz∧∀ (j:Nat) (u:Value),v.cells[j]? = some u→m (addr.add (i * sz + j))=some u)∧TElems m sz addr (i + 1) r
end
structure Ctx where
 m:Mem
 φ:Id→Option Addr
 H:Heap
 bs:Nat→Nat
def Newer (x' x:Obj):Prop:=x.gen < x'.gen∨(x.gen=x'.gen∧x.es.length < x'.es.length)
def Stale (ob:Obj) (g n:Nat):Prop:=g < ob.gen∨(g=ob.gen∧n < ob.es.length)
mutual
def VRel (X:Ctx):AV→Value→Prop
 | .c t,v=>TRel X.m t v
 | .agg cs,v=>∃ vs:List Value,v = .agg vs.toArray∧VRels X cs vs
 | .tup cs,v=>∃ vs:List Value,v = .tuple vs.toArray∧VTup X cs vs
 | .nils,v=>v = .slice none 0 0
 | .tptr t off,v=>∃ (u:Value) (b:Addr),v = .pointer (some (b.add off))∧b.spot=none∧TRel X.m t u ∧
   ∀ (j:Nat) (y:Value),u.cells[j]? = some y→X.m (b.add j)=some y
 | .ref o g n off len,v=>∃ a cap,v = .slice a len cap∧len≤cap∧∃ ob,X.H o=some ob ∧
   (Stale ob g n∨(ob.gen=g∧ob.es.length=n∧off + len≤n ∧
    ((cap=0∧n=off)∨∃ b:Addr,X.φ o=some b∧a=some (b.add (off * ob.sz))∧n≤off + cap∧b.off + (off + cap) * ob.sz≤X.bs b.block)))
 | .ptr o g n i off,v=>∃ a,v = .pointer (some a)∧∃ ob,X.H o=some ob ∧
   (Stale ob g n∨(ob.gen=g∧ob.es.length=n∧∃ b:Addr,X.φ o=some b∧a=b.add (i * ob.sz + off)))
 | .fn f caps,v=>∃ vs:List Value,v = .func (.func f) #[] vs.toArray∧VTup X caps vs
 | .undef,_=>True
def VRels (X:Ctx):List AV→List Value→Prop
 | [],[]=>True
 | x :: r,v :: q=>VRel X x v∧oneCell v=true∧VRels X r q
 | _,_=>False
def VTup (X:Ctx):List AV→List Value→Prop
 | [],[]=>True
 | x :: r,v :: q=>VRel X x v∧VTup X r q
 | _,_=>False
end
def LeMem (m m':Mem):Prop:=∀ a v,m a=some v→m' a=some v
mutual
theorem TRel.mono {m m':Mem} (h:LeMem m m'):∀ (t:TV) (v:Value),TRel m t v→TRel m' t v
 | .s _,_=>fun e=>e
 | .agg cs,_=>fun ⟨vs,e,r⟩=>⟨vs,e,TRels.mono h cs vs r⟩
 | .sl sz xs,_=>fun ⟨a,len,cap,e,hl,hc,r⟩=>⟨a,len,cap,e,hl,hc,r.imp id fun ⟨addr,ea,es,q⟩=>⟨addr,ea,es,TElems.mono h sz addr 0 xs q⟩⟩
theorem TRels.mono {m m':Mem} (h:LeMem m m'):∀ (l:List TV) (vs:List Value),TRels m l vs→TRels m' l vs
 | [],[]=>fun _=>trivial
 | x :: r,v :: q=>fun ⟨a,b,c⟩=>⟨TRel.mono h x v a,b,TRels.mono h r q c⟩
 | [],_ :: _=>fun e=>e.elim
 | _ :: _,[]=>fun e=>e.elim
theorem TElems.mono {m m':Mem} (h:LeMem m m') (sz:Nat) (addr:Addr):∀ (i:Nat) (l:List TV),TElems m sz addr i l→TElems m' sz addr i l
 | _,[]=>fun _=>trivial
 | i,x :: r=>fun ⟨⟨v,a,b,c⟩,d⟩=>⟨⟨v,TRel.mono h x v a,b,fun j u hj=>h _ _ (c j u hj)⟩,TElems.mono h sz addr (i + 1) r d⟩
end
structure LeCtx (X X':Ctx):Prop where
 m:LeMem X.m X'.m
 ob:∀ o x,X.H o=some x→∃ x',X'.H o=some x' ∧
  (Newer x' x∨(x'.gen=x.gen∧x'.es.length=x.es.length∧x'.sz=x.sz∧X'.φ o=X.φ o))
 bs:∀ o a,X.φ o=some a→X.bs a.block≤X'.bs a.block
theorem Stale.newer {x x':Obj} {g n:Nat} (h:Stale x g n) (k:Newer x' x∨(x'.gen=x.gen∧x'.es.length=x.es.length)):Stale x' g n:=by
 unfold Stale Newer at *
 omega
theorem stale_of_newer {x x':Obj} (k:Newer x' x):Stale x' x.gen x.es.length:=by
 unfold Stale Newer at *
 omega
mutual
theorem VRel.mono {X X':Ctx} (h:LeCtx X X'):∀ (t:AV) (v:Value),VRel X t v→VRel X' t v
 | .c t,v=>fun r=>TRel.mono h.m t v r
 | .agg cs,v=>fun ⟨vs,e,r⟩=>⟨vs,e,VRels.mono h cs vs r⟩
 | .tup cs,v=>fun ⟨vs,e,r⟩=>⟨vs,e,VTup.mono h cs vs r⟩
 | .nils,v=>fun e=>e
 | .tptr t off,v=>fun ⟨u,b,e,hs,r,q⟩=>⟨u,b,e,hs,TRel.mono h.m t u r,fun j y hj=>h.m _ _ (q j y hj)⟩
 | .ref o g n off len,v=>fun ⟨a,cap,e,hc,ob,ho,q⟩=>by
  obtain ⟨ob',ho',hq⟩:=h.ob o ob ho
  refine ⟨a,cap,e,hc,ob',ho',?_⟩
  rcases q with q | ⟨q1,q2,q3,q4⟩
  ·exact .inl (q.newer (hq.imp id fun z=>⟨z.1,z.2.1⟩))
  ·rcases hq with hq | ⟨z1,z2,z3,z4⟩
   ·left; rw [← q1,← q2]; exact stale_of_newer hq
   ·right
    refine ⟨z1.trans q1,z2.trans q2,q3,q4.imp id ?_⟩
    rintro ⟨b,hb,ha,hn,hr⟩
    exact ⟨b,z4.trans hb,by rw [z3]; exact ha,hn,by rw [z3]; exact Nat.le_trans hr (h.bs o b hb)⟩
 | .ptr o g n i off,v=>fun ⟨a,e,ob,ho,q⟩=>by
  obtain ⟨ob',ho',hq⟩:=h.ob o ob ho
  refine ⟨a,e,ob',ho',?_⟩
  rcases q with q | ⟨q1,q2,b,hb,ha⟩
  ·exact .inl (q.newer (hq.imp id fun z=>⟨z.1,z.2.1⟩))
  ·rcases hq with hq | ⟨z1,z2,z3,z4⟩
   ·left; rw [← q1,← q2]; exact stale_of_newer hq
   ·exact .inr ⟨z1.trans q1,z2.trans q2,b,z4.trans hb,by rw [z3]; exact ha⟩
 | .fn f caps,v=>fun ⟨vs,e,r⟩=>⟨vs,e,VTup.mono h caps vs r⟩
 | .undef,_=>fun _=>trivial
theorem VRels.mono {X X':Ctx} (h:LeCtx X X'):∀ (l:List AV) (vs:List Value),VRels X l vs→VRels X' l vs
 | [],[]=>fun _=>trivial
 | x :: r,v :: q=>fun ⟨a,b,c⟩=>⟨VRel.mono h x v a,b,VRels.mono h r q c⟩
 | [],_ :: _=>fun e=>e.elim
 | _ :: _,[]=>fun e=>e.elim
theorem VTup.mono {X X':Ctx} (h:LeCtx X X'):∀ (l:List AV) (vs:List Value),VTup X l vs→VTup X' l vs
 | [],[]=>fun _=>trivial
 | x :: r,v :: q=>fun ⟨a,c⟩=>⟨VRel.mono h x v a,VTup.mono h r q c⟩
 | [],_ :: _=>fun e=>e.elim
 | _ :: _,[]=>fun e=>e.elim
end
def bsize (w:World) (b:Nat):Nat:=match w.heap[b]? with | some (.cells c _ _)=>c.size | _=>0
def Mut (φ:Id→Option Addr) (H:Heap) (b:Nat):Prop:=(∃ o ob a,H o=some ob∧ob.w=true∧φ o=some a∧a.block=b)∨∃ k a,φ (.ex k)=some a∧a.block=b
def Id.real:Id→Prop
 | .ex _=>False
 | _=>True
open Classical in
noncomputable def imm (w:World) (φ:Id→Option Addr) (H:Heap):Mem:=fun a=>if Mut φ H a.block then none else w.cell? a
noncomputable def ctx (w:World) (φ:Id→Option Addr) (H:Heap):Ctx:=⟨imm w φ H,φ,H,bsize w⟩
theorem imm_some {w:World} {φ:Id→Option Addr} {H:Heap} {a:Addr} {v:Value}:imm w φ H a=some v↔¬ Mut φ H a.block∧w.cell? a=some v:=by
 unfold imm
 by_cases h:Mut φ H a.block <;> simp [h]
def freeB (w:World) (b:Nat):Prop:=∃ c e lo hi,w.heap[b]? = some (.cells c e (lo,hi))∧(hi≤lo∨c.size≤lo)
structure ObjRel (X:Ctx) (w:World) (ob:Obj) (b:Addr):Prop where
 spot:b.spot=none
 lt:b.block < w.heap.size
 pos:0 < ob.sz
 el:∀ (i:Nat) (x:AV),ob.es[i]? = some x→stor x=true∧∃ v,VRel X x v∧v.cells.size=ob.sz∧(∀ (j:Nat) (u:Value),v.cells[j]? = some u→oneCell u=true∧w.cell? (b.add (i * ob.sz + j))=some u)
 fr:ob.w=true→freeB w b.block
structure Sim (w:World) (φ:Id→Option Addr) (H:Heap):Prop where
 pl:∀ o a,φ o=some a→a.block < w.heap.size
 obj:∀ o ob,H o=some ob→∃ b,φ o=some b∧ObjRel (ctx w φ H) w ob b
 sep:∀ o ob p oc b c,H o=some ob→ob.w=true→H p=some oc→o≠p→φ o=some b→φ p=some c→b.block≠c.block
 re:∀ o ob,H o=some ob→o.real
 sx:∀ o ob b k c,H o=some ob→φ o=some b→φ (.ex k)=some c→b.block≠c.block
structure Ext (w:World) (φ:Id→Option Addr) (H:Heap) (w':World) (φ':Id→Option Addr) (H':Heap):Prop where
 os:w'.os=w.os
 tape:w'.tape=w.tape
 output:w'.output=w.output
 size:w.heap.size≤w'.heap.size
 fr:∀ b,b < w.heap.size→¬ Mut φ H b→w'.heap[b]? = w.heap[b]?
 mu:∀ b,b < w.heap.size→Mut φ' H' b→Mut φ H b
 bs:∀ b,b < w.heap.size→bsize w b≤bsize w' b
 ob:∀ o x,H o=some x→∃ x',H' o=some x' ∧
  (Newer x' x∨(x'.gen=x.gen∧x'.es.length=x.es.length∧x'.sz=x.sz∧φ' o=φ o))
 ex:∀ k,φ' (.ex k)=φ (.ex k)
 exh:∀ k a,φ (.ex k)=some a→w'.heap[a.block]? = w.heap[a.block]?
theorem Ext.refl (w:World) (φ:Id→Option Addr) (H:Heap):Ext w φ H w φ H:=
 ⟨rfl,rfl,rfl,Nat.le_refl _,fun _ _ _=>rfl,fun _ _ h=>h,fun _ _=>Nat.le_refl _,fun _ x h=>⟨x,h,.inr ⟨rfl,rfl,rfl,rfl⟩⟩,fun _=>rfl,fun _ _ _=>rfl⟩
theorem Newer.trans {a b c:Obj} (h:Newer b a∨(b.gen=a.gen∧b.es.length=a.es.length)) (k:Newer c b):Newer c a:=by
 unfold Newer at *; omega
theorem Newer.trans' {a b c:Obj} (h:Newer b a) (k:Newer c b∨(c.gen=b.gen∧c.es.length=b.es.length)):Newer c a:=by
 unfold Newer at *; omega
theorem Ext.trans {w w1 w2:World} {φ φ1 φ2:Id→Option Addr} {H H1 H2:Heap} (h:Ext w φ H w1 φ1 H1) (k:Ext w1 φ1 H1 w2 φ2 H2):Ext w φ H w2 φ2 H2:=by
 refine ⟨k.os.trans h.os,k.tape.trans h.tape,k.output.trans h.output,Nat.le_trans h.size k.size,?_,?_,?_,?_,fun q=>(k.ex q).trans (h.ex q),fun q a ha=>(k.exh q a ((h.ex q).trans ha)).trans (h.exh q a ha)⟩
 ·intro b hb hm
  rw [k.fr b (Nat.lt_of_lt_of_le hb h.size) (fun hx=>hm (h.mu b hb hx)),h.fr b hb hm]
 ·exact fun b hb hm=>h.mu b hb (k.mu b (Nat.lt_of_lt_of_le hb h.size) hm)
 ·exact fun b hb=>Nat.le_trans (h.bs b hb) (k.bs b (Nat.lt_of_lt_of_le hb h.size))
 ·intro o x hx
  obtain ⟨x1,h1,e1⟩:=h.ob o x hx
  obtain ⟨x2,h2,e2⟩:=k.ob o x1 h1
  refine ⟨x2,h2,?_⟩
  rcases e2 with e2 | ⟨a1,a2,a3,a4⟩
  ·exact .inl (e2.trans (e1.imp id fun z=>⟨z.1,z.2.1⟩))
  ·rcases e1 with e1 | ⟨b1,b2,b3,b4⟩
   ·exact .inl (e1.trans' (.inr ⟨a1,a2⟩))
   ·exact .inr ⟨a1.trans b1,a2.trans b2,a3.trans b3,a4.trans b4⟩
theorem cell_lt {w:World} {a:Addr} {v:Value} (h:w.cell? a=some v):a.block < w.heap.size:=by
 unfold World.cell? at h
 split at h
 ·rename_i hb
  exact (Array.getElem?_eq_some_iff.1 hb).1
 ·cases h
theorem cell_same {w w':World} {a:Addr} (h:w'.heap[a.block]? = w.heap[a.block]?):w'.cell? a=w.cell? a:=by
 simp only [World.cell?,h]
theorem Ext.leMem {w w':World} {φ φ':Id→Option Addr} {H H':Heap} (h:Ext w φ H w' φ' H'):LeMem (imm w φ H) (imm w' φ' H'):=by
 intro a v ha
 rw [imm_some] at ha ⊢
 have hlt:=cell_lt ha.2
 exact ⟨fun hx=>ha.1 (h.mu _ hlt hx),by rw [cell_same (h.fr _ hlt ha.1)]; exact ha.2⟩
theorem Ext.leCtx {w w':World} {φ φ':Id→Option Addr} {H H':Heap} (h:Ext w φ H w' φ' H') (hp:∀ o a,φ o=some a→a.block < w.heap.size):LeCtx (ctx w φ H) (ctx w' φ' H'):=
 ⟨h.leMem,h.ob,fun o a ha=>h.bs _ (hp o a ha)⟩
end Go.Am
/- One operation of Go's code against one of the small machine: what makes no memory. -/
namespace Go.Am
theorem add_eq {a:Addr} (h:a.spot=none) (n:Nat):a.add n=⟨a.block,a.off + n,none⟩:=by
 unfold Addr.add
 split
 ·rename_i h0; subst h0; obtain ⟨_,_,sp⟩:=a; cases h; rfl
 ·rfl
theorem add_block (a:Addr) (n:Nat):(a.add n).block=a.block:=by unfold Addr.add; split <;> rfl
theorem add_spot {a:Addr} (h:a.spot=none) (n:Nat):(a.add n).spot=none:=by rw [add_eq h]
theorem add_add {a:Addr} (h:a.spot=none) (n m:Nat):(a.add n).add m=a.add (n + m):=by
 rw [add_eq (add_spot h n),add_eq h,add_eq h]; simp [Nat.add_assoc]
def EnvRel (X:Ctx) (E:AEnv) (tmps:Array Value):Prop:=∀ t,VRel X (E t) (tmps.getD t undef)
structure SR (nt:Nat) (w:World) (φ:Id→Option Addr) (s:St) (a:Act):Prop where
 sim:Sim w φ s.H
 env:EnvRel (ctx w φ s.H) s.E a.tmps
 size:a.tmps.size=nt
theorem EnvRel.mono {X X':Ctx} (h:LeCtx X X') {E:AEnv} {tmps:Array Value} (e:EnvRel X E tmps):EnvRel X' E tmps:=fun t=>VRel.mono h _ _ (e t)
theorem getD_set (tmps:Array Value) (d t:Nat) (v:Value) (h:d < tmps.size):(tmps.setIfInBounds d v).getD t undef=if t=d then v else tmps.getD t undef:=by
 simp only [Array.getD_eq_getD_getElem?,Array.getElem?_setIfInBounds]
 split
 ·rename_i e; subst e; simp
 ·rename_i e; rw [if_neg (Ne.symm e)]
theorem EnvRel.put {X:Ctx} {E:AEnv} {a:Act} (e:EnvRel X E a.tmps) {dst:Option Nat} {v:AV} {x:Value} (hv:dst≠none→VRel X v x) (hd:∀ d,dst=some d→d < a.tmps.size) :
  EnvRel X (updO E dst v) (a.put dst x).tmps:=by
 cases dst with
 | none=>exact e
 | some d=>
  intro t
  simp only [updO,Act.put,upd]
  rw [getD_set _ _ _ _ (hd d rfl)]
  split
  ·exact hv (by simp)
  ·exact e t
theorem put_size (a:Act) (dst:Option Nat) (x:Value):(a.put dst x).tmps.size=a.tmps.size:=by
 cases dst <;> simp [Act.put]
theorem put_defers' (a:Act) (dst:Option Nat) (x:Value):(a.put dst x).defers=a.defers:=by
 cases dst <;> simp [Act.put]
theorem flat_one {v:Value} (h:flatV v=true):oneCell v=true:=by
 cases v <;> first | rfl | simp [flatV] at h
theorem cellOf_rel (X:Ctx) {v:Value} {x:AV} (h:cellOf v=some x):VRel X x v∧oneCell v=true:=by
 unfold cellOf at h
 split at h
 ·obtain rfl:=Option.some.inj h
  exact ⟨rfl,rfl⟩
 ·split at h
  ·rename_i hf
   obtain rfl:=Option.some.inj h
   exact ⟨⟨rfl,hf⟩,flat_one hf⟩
  ·cases h
theorem cellsOf_rel (X:Ctx):∀ (vs:List Value) (l:List AV),mapMO cellOf vs=some l→VRels X l vs:=by
 intro vs
 induction vs with
 | nil=>intro l h; simp [mapMO] at h; subst h; trivial
 | cons v r ih=>
  intro l h
  simp only [mapMO] at h
  split at h
  ·rename_i y hy
   split at h
   ·rename_i ys hys
    obtain rfl:=Option.some.inj h
    obtain ⟨h1,h2⟩:=cellOf_rel X hy
    exact ⟨h1,h2,ih _ hys⟩
   ·cases h
  ·cases h
theorem valOf_rel (X:Ctx) {v:Value} {x:AV} (h:valOf v=some x):VRel X x v:=by
 unfold valOf at h
 split at h
 ·rename_i cs
  split at h
  ·rename_i l hl
   obtain rfl:=Option.some.inj h
   exact ⟨cs.toList,by simp,cellsOf_rel X _ _ hl⟩
  ·cases h
 ·exact (cellOf_rel X h).1
theorem opd_rel {X:Ctx} {E:AEnv} {a:Act} (e:EnvRel X E a.tmps) {x:Operand} {y:Opd} (h:opdOf x=some y):VRel X (ev E y) (a.eval x):=by
 cases x with
 | tmp t=>simp only [opdOf] at h; obtain rfl:=Option.some.inj h; exact e t
 | const v=>
  simp only [opdOf] at h
  split at h
  ·rename_i av hv
   obtain rfl:=Option.some.inj h
   exact valOf_rel X hv
  ·cases h
 | func f=>
  simp only [opdOf] at h
  obtain rfl:=Option.some.inj h
  exact ⟨[],rfl,trivial⟩
 | global g=>simp [opdOf] at h
theorem opds_rel {X:Ctx} {E:AEnv} {a:Act} (e:EnvRel X E a.tmps):∀ (xs:List Operand) (ys:List Opd),mapMO opdOf xs=some ys→VTup X (ys.map (ev E)) (xs.map a.eval):=by
 intro xs
 induction xs with
 | nil=>intro l h; simp [mapMO] at h; subst h; trivial
 | cons v r ih=>
  intro l h
  simp only [mapMO] at h
  split at h
  ·rename_i y hy
   split at h
   ·rename_i ys hys
    obtain rfl:=Option.some.inj h
    exact ⟨opd_rel e hy,ih _ hys⟩
   ·cases h
  ·cases h
def Does (P:Program) (o:Oper) (nt:Nat) (a:Act) (w:World) (φ:Id→Option Addr) (H:Heap) (dst:Option Nat) (E:AEnv) (v:AV) (H':Heap) (nx':Nat):Prop:=
 ∀ (K:Act→World→Prop) (Q:Exit→Act→World→Prop),
  (∀ a' w' φ',SR nt w' φ' ⟨updO E dst v,H',nx'⟩ a'→Ext w φ H w' φ' H'→a'.defers=a.defers→K a' w')→o.wp P a w K Q
theorem does_pure {P:Program} {o:Oper} {nt:Nat} {a:Act} {w:World} {φ:Id→Option Addr} {H:Heap} {nx:Nat} {E:AEnv} {v:AV} {x:Value}
  (hr:(execOp a.eval o).run P w = .ok (.value x) w) (hs:SR nt w φ ⟨E,H,nx⟩ a) (hv:VRel (ctx w φ H) v x) (hd:∀ d,o.dst=some d→d < nt) {nx':Nat} :
  Does P o nt a w φ H o.dst E v H nx':=by
 intro K Q hK
 unfold Oper.wp
 rw [hr,Oper.upon_value]
 refine hK _ w φ ⟨hs.sim,hs.env.put (fun _=>hv) (fun d h=>by rw [hs.size]; exact hd d h),by rw [put_size]; exact hs.size⟩ (Ext.refl _ _ _) (put_defers' _ _ _)
end Go.Am
/- One operation of Go's code against one of the small machine: values. -/
namespace Go.Am
variable {P:Program}
theorem run_bin_int (w:World) (op:BinOp) (k k':IntKind) (a b:Int) (r:Value) (t:TypeId) (x y:Operand) (h:binV op (.int k a) (.int k' b)=some r) :
    ((do eqGuard op t x y (.int k a) (.int k' b); binOp op t (.int k a) (.int k' b)):Sem Value).run P w = .ok r w∧flatV r=true:=by
  cases op
  case shl | shr=>
    simp only [binV,shiftV] at h
    split at h
    · cases h
    · rename_i hb
      obtain rfl:=Option.some.inj h
      simp [eqGuard,binOp,Op.shift,hb,flatV]
  case quo | rem=>
    simp only [binV,intV] at h
    split at h
    · rename_i hk
      subst hk
      split at h
      · cases h
      · rename_i hb
        obtain rfl:=Option.some.inj h
        simp [eqGuard,binOp,Op.intDiv,hb,flatV]
    · cases h
  all_goals
    simp only [binV,intV] at h
    split at h
    · rename_i hk
      subst hk
      obtain rfl:=Option.some.inj h
      simp [eqGuard,binOp,Op.intArith,Op.intBits,Op.intCmp,flatV]
    · cases h
theorem run_bin_str (w:World) (op:BinOp) (a b:ByteArray) (r:Value) (t:TypeId) (x y:Operand) (h:binV op (.string a) (.string b)=some r) :
    ((do eqGuard op t x y (.string a) (.string b); binOp op t (.string a) (.string b)):Sem Value).run P w = .ok r w∧flatV r=true:=by
  cases op
  case add=>
    simp only [binV,strV] at h
    split at h
    · rename_i hs
      obtain rfl:=Option.some.inj h
      have:¬ (((a.size + b.size:Nat):Int) > IntKind.i64.max):=by
        simp only [IntKind.max,IntKind.signed,IntKind.bits]; simp; omega
      simp only [eqGuard,binOp,Op.stringOp,this]
      simp [flatV]
    · cases h
  all_goals
    simp only [binV,strV,cmpV] at h
    first
    | (obtain rfl:=Option.some.inj h
       simp [eqGuard,binOp,Op.stringOp,flatV]; done)
    | (cases h; done)
theorem run_bool_eq (w:World) (op:BinOp) (a b:Bool) (t:TypeId) (x y:Operand) (ht:P.underlying t=some .bool) :
    (op = .eql→((do eqGuard op t x y (.bool a) (.bool b); binOp op t (.bool a) (.bool b)):Sem Value).run P w = .ok (.bool (a == b)) w) ∧
    (op = .neq→((do eqGuard op t x y (.bool a) (.bool b); binOp op t (.bool a) (.bool b)):Sem Value).run P w = .ok (.bool (a != b)) w):=by
  constructor
  · rintro rfl
    have:=run_eql_bool (P:=P) w t a b ht
    simp [eqGuard,this]
  · rintro rfl
    have:=run_neq_bool (P:=P) w t a b ht
    cases a <;> cases b <;> simp [eqGuard,this]
theorem scalar_rel {X:Ctx} {x:Value} {v:Value} (h:VRel X (.c (.s x)) v):v=x∧flatV x=true:=h
theorem rel_scalar {X:Ctx} {x:Value} (h:flatV x=true):VRel X (.c (.s x)) x:=⟨rfl,h⟩
section
variable {o:Oper} {ops:Array Oper} {nt:Nat} {a:Act} {w:World} {φ:Id→Option Addr} {H:Heap} {nx:Nat} {E:AEnv} {T:Tab} {R:Run} {d:Nat}
theorem does_mov {x:Operand} {y:Opd} (ho:o.op = .move x∨o.op = .assign x) (hx:opdOf x=some y) (hs:SR nt w φ ⟨E,H,nx⟩ a) (hd:∀ d,o.dst=some d→d < nt) :
    Does P o nt a w φ H o.dst E (ev E y) H nx:=by
  refine does_pure (x:=a.eval x) ?_ hs (opd_rel hs.env hx) hd
  rcases ho with ho | ho <;> simp [execOp,ho]
theorem does_pick {c x y:Operand} {c' x' y':Opd} {b:Bool} (ho:o.op = .pick c x y) (hc:opdOf c=some c') (hx:opdOf x=some x') (hy:opdOf y=some y') (hs:SR nt w φ ⟨E,H,nx⟩ a) (hd:∀ d,o.dst=some d→d < nt)
    (hb:ev E c' = .c (.s (.bool b))):Does P o nt a w φ H o.dst E (if b then ev E x' else ev E y') H nx:=by
  have hc':=opd_rel hs.env hc
  rw [hb] at hc'
  obtain ⟨e,_⟩:=scalar_rel hc'
  refine does_pure (x:=if b then a.eval x else a.eval y) ?_ hs ?_ hd
  · simp only [execOp,ho,e]
    cases b <;> simp [asBool]
  · cases b
    · exact opd_rel hs.env hy
    · exact opd_rel hs.env hx
theorem does_bin {op:BinOp} {t t':TypeId} {x y:Operand} {x' y':Opd} {u v r:Value} (ho:o.op = .binOp op t x y t') (hx:opdOf x=some x') (hy:opdOf y=some y') (hs:SR nt w φ ⟨E,H,nx⟩ a) (hd:∀ d,o.dst=some d→d < nt)
    (hu:ev E x' = .c (.s u)) (hv:ev E y' = .c (.s v)) (hr:binV op u v=some r):Does P o nt a w φ H o.dst E (.c (.s r)) H nx:=by
  have h1:=opd_rel hs.env hx
  have h2:=opd_rel hs.env hy
  rw [hu] at h1
  rw [hv] at h2
  obtain ⟨e1,_⟩:=scalar_rel h1
  obtain ⟨e2,_⟩:=scalar_rel h2
  have key:((do eqGuard op t x y u v; binOp op t u v):Sem Value).run P w = .ok r w∧flatV r=true:=by
    cases u <;> cases v <;> first
      | exact run_bin_int w _ _ _ _ _ _ _ _ _ hr
      | exact run_bin_str w _ _ _ _ _ _ _ hr
      | (simp [binV] at hr)
  refine does_pure (x:=r) ?_ hs (rel_scalar key.2) hd
  simp only [execOp,ho,e1,e2]
  have:=key.1
  simp only [Sem.run_bind] at this ⊢
  rw [this]
  simp
theorem does_binB {op:BinOp} {t t':TypeId} {x y:Operand} {x' y':Opd} {u v:Bool} (ho:o.op = .binOp op t x y t') (ht:P.underlying t=some .bool) (hx:opdOf x=some x') (hy:opdOf y=some y') (hs:SR nt w φ ⟨E,H,nx⟩ a) (hd:∀ d,o.dst=some d→d < nt)
    (hu:ev E x' = .c (.s (.bool u))) (hv:ev E y' = .c (.s (.bool v))) {r:Bool} (hr:(op = .eql∧r=(u == v))∨(op = .neq∧r=(u != v))):Does P o nt a w φ H o.dst E (gBool r) H nx:=by
  have h1:=opd_rel hs.env hx
  have h2:=opd_rel hs.env hy
  rw [hu] at h1
  rw [hv] at h2
  obtain ⟨e1,_⟩:=scalar_rel h1
  obtain ⟨e2,_⟩:=scalar_rel h2
  have key:=run_bool_eq (P:=P) w op u v t x y ht
  refine does_pure (x:=.bool r) ?_ hs (rel_scalar rfl) hd
  simp only [execOp,ho,e1,e2]
  rcases hr with ⟨h,rfl⟩ | ⟨h,rfl⟩
  · have:=key.1 h
    simp only [Sem.run_bind] at this ⊢
    rw [this]; simp
  · have:=key.2 h
    simp only [Sem.run_bind] at this ⊢
    rw [this]; simp
theorem does_un {op:UnOp} {t:TypeId} {x:Operand} {x':Opd} {u r:Value} (ho:o.op = .unOp op t x) (hx:opdOf x=some x') (hs:SR nt w φ ⟨E,H,nx⟩ a) (hd:∀ d,o.dst=some d→d < nt)
    (hu:ev E x' = .c (.s u)) (hr:unV op u=some r):Does P o nt a w φ H o.dst E (.c (.s r)) H nx:=by
  have h1:=opd_rel hs.env hx
  rw [hu] at h1
  obtain ⟨e1,_⟩:=scalar_rel h1
  have key:(Op.unary op u).run P w = .ok r w∧flatV r=true:=by
    cases u <;> cases op <;> simp [unV] at hr <;> subst hr <;> simp [Op.unary,Op.intArith,flatV]
  refine does_pure (x:=r) ?_ hs (rel_scalar key.2) hd
  simp only [execOp,ho,e1]
  simp [key.1]
theorem does_conv {s t:TypeId} {x:Operand} {x':Opd} {k k' k2:IntKind} {n:Int} (ho:o.op = .convert s t x) (hs1:P.underlying s=some (.int k2)) (ht:P.underlying t=some (.int k)) (hx:opdOf x=some x') (hs:SR nt w φ ⟨E,H,nx⟩ a) (hd:∀ d,o.dst=some d→d < nt)
    (hu:ev E x' = .c (.s (.int k' n))):Does P o nt a w φ H o.dst E (.c (.s (.int k (k.wrap n)))) H nx:=by
  have h1:=opd_rel hs.env hx
  rw [hu] at h1
  obtain ⟨e1,_⟩:=scalar_rel h1
  refine does_pure (x:=.int k (k.wrap n)) ?_ hs (rel_scalar rfl) hd
  simp only [execOp,ho,e1]
  simp [convert,run_underlying hs1,run_underlying ht,Conv.intToInt]
theorem does_same {s t:TypeId} {x:Operand} {x':Opd} {b:ByteArray} (ho:o.op = .convert s t x) (hs1:P.underlying s=some .string) (ht:P.underlying t=some .string) (hx:opdOf x=some x') (hs:SR nt w φ ⟨E,H,nx⟩ a) (hd:∀ d,o.dst=some d→d < nt)
    (hu:ev E x' = .c (.s (.string b))):Does P o nt a w φ H o.dst E (ev E x') H nx:=by
  have h1:=opd_rel hs.env hx
  have h2:=h1
  rw [hu] at h1
  obtain ⟨e1,_⟩:=scalar_rel h1
  refine does_pure (x:=.string b) ?_ hs (by rw [e1] at h2; exact h2) hd
  simp only [execOp,ho,e1]
  simp [convert,run_underlying hs1,run_underlying ht]
theorem does_extract {x:Operand} {i:Nat} {x':Opd} {l:List AV} {v:AV} (ho:o.op = .extract x i) (hx:opdOf x=some x') (hs:SR nt w φ ⟨E,H,nx⟩ a) (hd:∀ d,o.dst=some d→d < nt)
    (hu:ev E x' = .tup l) (hv:l[i]? = some v):Does P o nt a w φ H o.dst E v H nx:=by
  have h1:=opd_rel hs.env hx
  rw [hu] at h1
  obtain ⟨vs,e,hr⟩:=h1
  have:∃ u,vs[i]? = some u∧VRel (ctx w φ H) v u:=by
    clear e hu ho
    induction l generalizing vs i with
    | nil=>simp at hv
    | cons y r ih=>
      cases vs with
      | nil=>exact hr.elim
      | cons u q=>
        cases i with
        | zero=>simp at hv; subst hv; exact ⟨u,rfl,hr.1⟩
        | succ i=>exact ih (i:=i) (by simpa using hv) q hr.2
  obtain ⟨u,hu1,hu2⟩:=this
  refine does_pure (x:=u) ?_ hs hu2 hd
  simp only [execOp,ho,e]
  simp [Instr.extract,hu1]
theorem does_nilc {x:Operand} {x':Opd} (ho:o.op = .nilCheck x) (hx:opdOf x=some x') (hs:SR nt w φ ⟨E,H,nx⟩ a) (hd:∀ d,o.dst=some d→d < nt)
    (hu:(∃ y i,ev E x' = .tptr y i)∨(∃ p g n i f,ev E x' = .ptr p g n i f)∨(∃ f l,ev E x' = .fn f l)):Does P o nt a w φ H o.dst E (ev E x') H nx:=by
  have h1:=opd_rel hs.env hx
  refine does_pure (x:=a.eval x) ?_ hs h1 hd
  rcases hu with ⟨y,i,e⟩ | ⟨p,g,n,i,f,e⟩ | ⟨f,l,e⟩
  · rw [e] at h1
    obtain ⟨u,b,e1,_⟩:=h1
    simp only [execOp,ho,e1]
    simp
  · rw [e] at h1
    obtain ⟨b,e1,_⟩:=h1
    simp only [execOp,ho,e1]
    simp
  · rw [e] at h1
    obtain ⟨vs,e1,_⟩:=h1
    simp only [execOp,ho,e1]
    simp
theorem does_mkfn {f:Nat} {caps:Array Operand} {l:List Opd} (ho:o.op = .makeFunc (.func f) #[] caps) (hx:mapMO opdOf caps.toList=some l) (hs:SR nt w φ ⟨E,H,nx⟩ a) (hd:∀ d,o.dst=some d→d < nt) :
    Does P o nt a w φ H o.dst E (.fn f (l.map (ev E))) H nx:=by
  have h1:=opds_rel hs.env _ _ hx
  refine does_pure (v:=.fn f (l.map (ev E))) (x:=.func (.func f) #[] (caps.map a.eval)) ?_ hs ⟨caps.toList.map a.eval,by rw [← Array.toList_map,Array.toArray_toList],h1⟩ hd
  simp only [execOp,ho]
  simp [Instr.makeFunc]
theorem len_rel {X:Ctx} {v:AV} {x:Value} {n:Nat} (h:VRel X v x) (hn:lenV v=some n):(∃ s,x = .string s∧s.size=n)∨(∃ b c,x = .slice b n c):=by
  unfold lenV at hn
  split at hn
  · obtain rfl:=Option.some.inj hn
    exact .inr ⟨none,0,h⟩
  · obtain rfl:=Option.some.inj hn
    obtain ⟨b,len,cap,e,hl,_⟩:=h
    exact .inr ⟨b,cap,by rw [e,hl]⟩
  · obtain rfl:=Option.some.inj hn
    obtain ⟨b,cap,e,_⟩:=h
    exact .inr ⟨b,cap,e⟩
  · obtain rfl:=Option.some.inj hn
    exact .inl ⟨_,h.1,rfl⟩
  · cases hn
theorem does_len {c:Call} {x:Operand} {x':Opd} {t:TypeId} {n:Nat} (ho:o.op = .call c) (hc:c.callee = .builtin .len) (hargs:c.args = #[x]) (hty:c.argTypes = #[t])
    (ht:(P.underlying t=some .string∧∃ s,a.eval x = .string s)∨∃ e,P.underlying t=some (.slice e)∧∃ b n c,a.eval x = .slice b n c) (hx:opdOf x=some x') (hs:SR nt w φ ⟨E,H,nx⟩ a) (hd:∀ d,o.dst=some d→d < nt)
    (hn:lenV (ev E x')=some n):Does P o nt a w φ H o.dst E (gInt n) H nx:=by
  have h1:=opd_rel hs.env hx
  refine does_pure (x:=.int .i64 n) ?_ hs (rel_scalar rfl) hd
  have:=len_rel h1 hn
  simp only [execOp,ho]
  rcases this with ⟨s,e,rfl⟩ | ⟨b,cc,e⟩
  · rcases ht with ⟨ht,_⟩ | ⟨el,ht,b,n,c,e'⟩
    · simp [resolve,hc,hargs,hty,invoke,builtin,Builtin.len_,run_underlying ht,e,goInt]
    · rw [e] at e'; cases e'
  · rcases ht with ⟨ht,s,e'⟩ | ⟨el,ht,_⟩
    · rw [e] at e'; cases e'
    · simp [resolve,hc,hargs,hty,invoke,builtin,Builtin.len_,run_underlying ht,e,goInt]
end
end Go.Am
/- One operation of Go's code against one of the small machine: parts of values,addresses. -/
namespace Go.Am
variable {P:Program}
theorem TRels.length {m:Mem}:∀ {l:List TV} {vs:List Value},TRels m l vs→l.length=vs.length
 | [],[],_=>rfl
 | _ :: _,_ :: _,h=>by simp [TRels.length h.2.2]
 | [],_ :: _,h=>h.elim
 | _ :: _,[],h=>h.elim
theorem VRels.length {X:Ctx}:∀ {l:List AV} {vs:List Value},VRels X l vs→l.length=vs.length
 | [],[],_=>rfl
 | _ :: _,_ :: _,h=>by simp [VRels.length h.2.2]
 | [],_ :: _,h=>h.elim
 | _ :: _,[],h=>h.elim
theorem VTup.length {X:Ctx}:∀ {l:List AV} {vs:List Value},VTup X l vs→l.length=vs.length
 | [],[],_=>rfl
 | _ :: _,_ :: _,h=>by simp [VTup.length h.2]
 | [],_ :: _,h=>h.elim
 | _ :: _,[],h=>h.elim
theorem TRels.toV {X:Ctx}:∀ {l:List TV} {vs:List Value},TRels X.m l vs→VRels X (l.map .c) vs
 | [],[],_=>trivial
 | _ :: _,_ :: _,h=>⟨h.1,h.2.1,TRels.toV h.2.2⟩
 | [],_ :: _,h=>h.elim
 | _ :: _,[],h=>h.elim
def lies:Value→Bool
 | .tuple _=>false
 | _=>true
theorem TRel.cells {m:Mem} {t:TV} {v:Value} (h:TRel m t v):TRels m t.cells v.cells.toList:=by
 cases t with
 | s x=>
  obtain ⟨rfl,hf⟩:=h
  rw [cells_one (flat_one hf)]
  exact ⟨⟨rfl,hf⟩,flat_one hf,trivial⟩
 | agg cs=>
  obtain ⟨vs,rfl,hr⟩:=h
  exact hr
 | sl sz xs=>
  have h':=h
  obtain ⟨a,len,cap,rfl,_⟩:=h
  exact ⟨h',rfl,trivial⟩
theorem VRel.cells {X:Ctx} {t:AV} {v:Value} (h:VRel X t v) (hn:t ≠ .undef) (ht:∀ l,t ≠ .tup l):VRels X t.cells v.cells.toList:=by
 cases t with
 | c t=>exact TRels.toV (TRel.cells h)
 | agg cs=>
  obtain ⟨vs,rfl,hr⟩:=h
  exact hr
 | tup l=>exact absurd rfl (ht l)
 | nils=>cases h; exact ⟨rfl,rfl,trivial⟩
 | tptr t off=>have h':=h; obtain ⟨u,b,rfl,_⟩:=h; exact ⟨h',rfl,trivial⟩
 | ref o g n off len=>have h':=h; obtain ⟨a,cap,rfl,_⟩:=h; exact ⟨h',rfl,trivial⟩
 | ptr o g n i off=>have h':=h; obtain ⟨a,rfl,_⟩:=h; exact ⟨h',rfl,trivial⟩
 | fn f caps=>have h':=h; obtain ⟨vs,rfl,_⟩:=h; exact ⟨h',rfl,trivial⟩
 | undef=>exact absurd rfl hn
theorem VRels.at {X:Ctx}:∀ {l:List AV} {vs:List Value},VRels X l vs→∀ {i:Nat} {x:AV},l[i]? = some x→∃ v,vs[i]? = some v∧VRel X x v∧oneCell v=true
 | [],[],_,_,_,h=>by simp at h
 | _ :: _,v :: _,hr,0,_,h=>by simp at h; subst h; exact ⟨v,rfl,hr.1,hr.2.1⟩
 | _ :: _,_ :: _,hr,i + 1,_,h=>by simpa using VRels.at hr.2.2 (i:=i) (by simpa using h)
 | [],_ :: _,hr,_,_,_=>hr.elim
 | _ :: _,[],hr,_,_,_=>hr.elim
theorem VRels.drop {X:Ctx}:∀ {l:List AV} {vs:List Value} (n:Nat),VRels X l vs→VRels X (l.drop n) (vs.drop n)
 | [],[],_,_=>by simp [VRels]
 | _ :: _,_ :: _,0,h=>h
 | _ :: _,_ :: _,n + 1,h=>by simpa using VRels.drop n h.2.2
 | [],_ :: _,_,h=>h.elim
 | _ :: _,[],_,h=>h.elim
theorem VRels.take {X:Ctx}:∀ {l:List AV} {vs:List Value} (n:Nat),VRels X l vs→VRels X (l.take n) (vs.take n)
 | [],[],_,_=>by simp [VRels]
 | _ :: _,_ :: _,0,_=>by simp [VRels]
 | _ :: _,_ :: _,n + 1,h=>by simpa using ⟨h.1,h.2.1,VRels.take n h.2.2⟩
 | [],_ :: _,_,h=>h.elim
 | _ :: _,[],_,h=>h.elim
theorem VRels.append {X:Ctx}:∀ {l:List AV} {vs:List Value} {l':List AV} {vs':List Value},VRels X l vs→VRels X l' vs'→VRels X (l++l') (vs++vs')
 | [],[],_,_,_,h=>h
 | _ :: _,_ :: _,_,_,h,k=>⟨h.1,h.2.1,VRels.append h.2.2 k⟩
 | [],_ :: _,_,_,h,_=>h.elim
 | _ :: _,[],_,_,h,_=>h.elim
theorem sizeT_info {t:TypeId} {n:Nat} (h:sizeT P t=some n):∃ i,P.info? t=some i∧i.size=n∧0 < n∧i.bytes≤32 * n:=by
 unfold sizeT at h
 split at h
 ·rename_i i hi
  split at h
  ·rename_i hb
   obtain rfl:=Option.some.inj h
   exact ⟨i,hi,rfl,hb.2,hb.1⟩
  ·cases h
 ·cases h
theorem run_sizeOf {t:TypeId} {n:Nat} (h:sizeT P t=some n) (w:World):(sizeOf t).run P w = .ok n w:=by
 obtain ⟨i,hi,e,_⟩:=sizeT_info h
 simp [sizeOf,typeInfo,hi,e]
theorem run_isAgg {t:TypeId} {b:Bool} (h:aggT P t=some b) (w:World):(isAgg t).run P w = .ok b w:=by
 unfold aggT at h
 split at h
 ·rename_i fs hu; obtain rfl:=Option.some.inj h; simp [isAgg,run_underlying hu]
 ·rename_i hu; obtain rfl:=Option.some.inj h; simp [isAgg,run_underlying hu]
 ·rename_i d hu n1 n2
  obtain rfl:=Option.some.inj h
  simp only [isAgg,Sem.run_bind,run_underlying n2,Result.andThen_ok]
  rfl
 ·cases h
theorem elemT_und {t e:TypeId} (h:elemT P t=some e):P.underlying t=some (.slice e):=by
 unfold elemT at h
 split at h
 ·rename_i hu; obtain rfl:=Option.some.inj h; exact hu
 ·cases h
theorem run_part {t:TypeId} {n:Nat} {ag:Bool} (hs:sizeT P t=some n) (ha:aggT P t=some ag) (w:World) (cs:List Value) (off:Nat) (hle:off + n≤cs.length) :
  (part t cs.toArray off).run P w = .ok (if ag then .agg ((cs.drop off).take n).toArray else cs.getD off undef) w:=by
 cases ag with
 | true=>
  simp only [part,Sem.run_bind,run_isAgg ha,Result.andThen_ok,if_true,run_sizeOf hs,Sem.run_pure]
  congr 2
  simp
 | false=>
  have hlt:off < cs.length:=by obtain ⟨_,_,_,hp,_⟩:=sizeT_info hs; omega
  simp only [part,Sem.run_bind,run_isAgg ha,Result.andThen_ok,Bool.false_eq_true,if_false]
  simp [hlt]
section
variable {o:Oper} {ops:Array Oper} {nt:Nat} {a:Act} {w:World} {φ:Id→Option Addr} {H:Heap} {nx:Nat} {E:AEnv} {T:Tab} {R:Run} {d:Nat}
theorem intOf_rel {X:Ctx} {v:AV} {x:Value} {n:Int} (h:VRel X v x) (hn:intOfV v=some n):∃ k,x = .int k n:=by
 unfold intOfV at hn
 split at hn
 ·rename_i k m
  obtain rfl:=Option.some.inj hn
  exact ⟨k,h.1⟩
 ·cases hn
theorem does_field {t:TypeId} {x:Operand} {f:Nat} {fs:Array Field} {fd:Field} {n:Nat} {ag:Bool} {x':Opd} (ho:o.op = .field t x f) (ht:P.underlying t=some (.struct fs)) (hf:fs[f]? = some fd)
  (hn:sizeT P fd.type=some n) (hag:aggT P fd.type=some ag) (hx:opdOf x=some x') (hs:SR nt w φ ⟨E,H,nx⟩ a) (hd:∀ d,o.dst=some d→d < nt)
  (hi:(ev E x').isAgg=true) (hle:fd.offset + n≤(ev E x').cells.length) {v:AV} (hv:(ag=true∧v = .agg (((ev E x').cells.drop fd.offset).take n))∨(ag=false∧(ev E x').cells[fd.offset]? = some v)) :
  Does P o nt a w φ H o.dst E v H nx:=by
 have h1:=opd_rel hs.env hx
 have hc:∃ vs:List Value,a.eval x = .agg vs.toArray∧VRels (ctx w φ H) (ev E x').cells vs:=by
  generalize ev E x'=y at h1 hi hle hv
  cases y with
  | agg cs=>exact h1
  | c t=>
   cases t with
   | agg cs=>obtain ⟨vs,e,hr⟩:=h1; exact ⟨vs,e,TRels.toV hr⟩
   | _=>simp [AV.isAgg] at hi
  | _=>simp [AV.isAgg] at hi
 obtain ⟨vs,e,hr⟩:=hc
 have hlen:=hr.length
 refine does_pure (x:=if ag then .agg ((vs.drop fd.offset).take n).toArray else vs.getD fd.offset undef) ?_ hs ?_ hd
 ·simp only [execOp,ho,e]
  simp only [Instr.field,Sem.run_bind,run_underlying ht,Result.andThen_ok,hf,asAgg,Sem.run_pure]
  rw [run_part hn hag w vs fd.offset (by omega)]
  simp
 ·rcases hv with ⟨rfl,rfl⟩ | ⟨rfl,hv⟩
  ·exact ⟨_,rfl,(hr.drop _).take _⟩
  ·obtain ⟨u,hu,hrel,_⟩:=hr.at hv
   have:vs.getD fd.offset undef=u:=by simp [hu]
   simp only [Bool.false_eq_true,if_false]
   rw [this]; exact hrel
theorem does_faddr {s:TypeId} {x:Operand} {f:Nat} {fs:Array Field} {fd:Field} {n:Nat} {x':Opd} (ho:o.op = .fieldAddr s x f) (ht:P.underlying s=some (.struct fs)) (hf:fs[f]? = some fd)
  (hn:sizeT P fd.type=some n) (hx:opdOf x=some x') (hs:SR nt w φ ⟨E,H,nx⟩ a) (hd:∀ d,o.dst=some d→d < nt) {v:AV}
  (hv:(∃ y i,ev E x' = .tptr y i∧v = .tptr y (i + fd.offset))∨(∃ p g m i k,ev E x' = .ptr p g m i k∧v = .ptr p g m i (k + fd.offset))) :
  Does P o nt a w φ H o.dst E v H nx:=by
 have h1:=opd_rel hs.env hx
 have hpos:¬ (n=0):=by obtain ⟨_,_,_,hp,_⟩:=sizeT_info hn; omega
 have hrun:∀ b:Addr,a.eval x = .pointer (some b)→(execOp a.eval o).run P w = .ok (.value (.pointer (some (b.add fd.offset)))) w:=by
  intro b e
  simp only [execOp,ho,e]
  simp only [Instr.fieldAt,Sem.run_bind,run_underlying ht,Result.andThen_ok,hf,Instr.sureAddr,Sem.run_pure,fieldPlace,run_sizeOf hn,hpos,if_false]
 rcases hv with ⟨y,i,e,rfl⟩ | ⟨p,g,m,i,k,e,rfl⟩
 ·rw [e] at h1
  obtain ⟨u,b,e1,hsp,hr,hm⟩:=h1
  refine does_pure (v:=.tptr y (i + fd.offset)) (hrun _ e1) hs ⟨u,b,?_,hsp,hr,hm⟩ hd
  rw [add_add hsp]
 ·rw [e] at h1
  obtain ⟨b,e1,ob,hob,hq⟩:=h1
  refine does_pure (v:=.ptr p g m i (k + fd.offset)) (hrun _ e1) hs ⟨_,rfl,ob,hob,hq.imp id ?_⟩ hd
  rintro ⟨q1,q2,c,hc,rfl⟩
  obtain ⟨c',hc',hrel⟩:=hs.sim.obj _ _ hob
  have hcc:c=c':=by
   have:=hc.symm.trans hc'
   exact Option.some.inj this
  subst hcc
  exact ⟨q1,q2,c,hc,by rw [add_add hrel.spot]; congr 1; omega⟩
theorem TElems.at {m:Mem} {sz:Nat} {addr:Addr}:∀ {l:List TV} {i0:Nat},TElems m sz addr i0 l→∀ {j:Nat} {x:TV},l[j]? = some x →
  ∃ v,TRel m x v∧v.cells.size=sz∧∀ (q:Nat) (u:Value),v.cells[q]? = some u→m (addr.add ((i0 + j) * sz + q))=some u
 | [],_,_,_,_,h=>by simp at h
 | _ :: _,_,hr,0,_,h=>by simp at h; subst h; exact hr.1
 | _ :: _,i0,hr,j + 1,_,h=>by
  have:=TElems.at hr.2 (j:=j) (by simpa using h)
  rw [show i0 + (j + 1)=i0 + 1 + j from by omega]
  exact this
theorem does_iaddr {t e:TypeId} {x i:Operand} {x' i':Opd} {n:Nat} {j:Int} (ho:o.op = .indexAddr t x i) (he:elemT P t=some e) (hn:sizeT P e=some n) (hx:opdOf x=some x') (hi:opdOf i=some i')
  (hs:SR nt w φ ⟨E,H,nx⟩ a) (hd:∀ d,o.dst=some d→d < nt) (hj:intOfV (ev E i')=some j) (h0:0≤j) {v:AV}
  (hv:(∃ sz xs y,ev E x' = .c (.sl sz xs)∧xs[j.toNat]? = some y∧v = .tptr y 0)∨(∃ p g m off len,ev E x' = .ref p g m off len∧j.toNat < len∧(∃ ob,H p=some ob∧ob.gen=g∧ob.es.length=m∧ob.sz=n)∧v = .ptr p g m (off + j.toNat) 0))
  (hsz:∀ sz xs,ev E x' = .c (.sl sz xs)→sz=n) :
  Does P o nt a w φ H o.dst E v H nx:=by
 have h1:=opd_rel hs.env hx
 obtain ⟨k,e2⟩:=intOf_rel (opd_rel hs.env hi) hj
 have hrun:∀ (b:Addr) (len cap:Nat),a.eval x = .slice (some b) len cap→j.toNat < len→(execOp a.eval o).run P w = .ok (.value (.pointer (some (b.add (j.toNat * n))))) w:=by
  intro b len cap e1 hlt
  have hc:0≤j∧j < (len:Int):=⟨h0,by omega⟩
  simp only [execOp,ho,e1,e2]
  simp only [Instr.indexAt,asIntOf,Sem.run_bind,Sem.run_pure,run_underlying (elemT_und he),Result.andThen_ok,hc,and_self,if_true,run_sizeOf hn]
 rcases hv with ⟨sz,xs,y,e1,hy,rfl⟩ | ⟨p,g,m,off,len,e1,hlt,hsp,rfl⟩
 ·have hsz':=hsz _ _ e1
  subst hsz'
  rw [e1] at h1
  obtain ⟨b,len,cap,ev1,hl,hc,hr⟩:=h1
  have hlt:j.toNat < xs.length:=(List.getElem?_eq_some_iff.1 hy).1
  rcases hr with hr | ⟨addr,rfl,hspot,hel⟩
  ·omega
  ·obtain ⟨u,hu,hcs,hm⟩:=hel.at hy
   refine does_pure (v:=.tptr y 0) (hrun _ _ _ ev1 (by omega)) hs ⟨u,addr.add (j.toNat * sz),?_,add_spot hspot _,hu,?_⟩ hd
   ·rw [add_eq (add_spot hspot _)]; rw [add_eq hspot]; simp
   ·intro q z hz
    rw [add_add hspot]
    have:=hm q z hz
    rw [Nat.zero_add] at this
    exact this
 ·rw [e1] at h1
  obtain ⟨b,cap,ev1,hlc,ob,hob,hq⟩:=h1
  obtain ⟨ob',hob',g1,g2,hszo⟩:=hsp
  obtain rfl:ob=ob':=Option.some.inj (hob.symm.trans hob')
  rcases hq with hq | ⟨q1,q2,q3,q4⟩
  ·unfold Stale at hq; omega
  ·rcases q4 with ⟨c0,_⟩ | ⟨b',hb',rfl,hn',hroom⟩
   ·omega
   ·obtain ⟨c',hc',hrel⟩:=hs.sim.obj _ _ hob
    have hcc:b'=c':=Option.some.inj (hb'.symm.trans hc')
    subst hcc
    refine does_pure (v:=.ptr p g m (off + j.toNat) 0) (hrun _ _ _ ev1 hlt) hs ⟨_,rfl,ob,hob,.inr ⟨q1,q2,b',hb',?_⟩⟩ hd
    rw [add_add hrel.spot,hszo]
    congr 1
    rw [Nat.add_mul]; omega
end
end Go.Am
/- One operation of Go's code against one of the small machine: cuts,bytes of strings,least and greatest. -/
namespace Go.Am
variable {P:Program}
theorem run_bound {k:IntKind} {i:Int} {y:Nat} {code:BoundsCode} (w:World) (h0:0≤i) (h1:i≤y):(Instr.sliceBound (.int k i) y code).run P w = .ok i.toNat w:=by
 simp [Instr.sliceBound,asIntOf,h0,h1]
def isInt (v:Option Value) (n:Option Int):Prop:=(v=none∧n=none)∨∃ k i,v=some (.int k i)∧n=some i
theorem run_bounds (w:World) (b:Bool) (len cap:Nat) {lo hi mx:Option Value} {l h m:Option Int} (hl:isInt lo l) (hh:isInt hi h) (hm:isInt mx m) (hmh:mx≠none→hi≠none)
  (h0:0≤l.getD 0) (h1:l.getD 0≤h.getD len) (h2:h.getD len≤m.getD cap) (h3:m.getD cap≤cap) :
  (Instr.sliceBounds b len cap lo hi mx).run P w = .ok ((l.getD 0).toNat,(h.getD len).toNat,(m.getD cap).toNat) w:=by
 unfold Instr.sliceBounds
 rcases hm with ⟨rfl,rfl⟩ | ⟨km,im,rfl,rfl⟩
 ·rcases hh with ⟨rfl,rfl⟩ | ⟨kh,ih,rfl,rfl⟩
  ·rcases hl with ⟨rfl,rfl⟩ | ⟨kl,il,rfl,rfl⟩
   ·simp
   ·simp only [Option.getD_some,Option.getD_none] at *
    simp [run_bound w h0 h1]
  ·simp only [Option.getD_some,Option.getD_none] at h1 h2 h3
   rcases hl with ⟨rfl,rfl⟩ | ⟨kl,il,rfl,rfl⟩
   ·simp only [Option.getD_some,Option.getD_none] at *
    simp [run_bound w (y:=cap) (i:=ih) (by omega) h2]
   ·simp only [Option.getD_some,Option.getD_none] at *
    simp [run_bound w (y:=cap) (i:=ih) (by omega) h2,run_bound w (y:=ih.toNat) (i:=il) h0 (by omega)]
 ·rcases hh with ⟨rfl,rfl⟩ | ⟨kh,ih,rfl,rfl⟩
  ·exact absurd rfl (hmh (by simp))
  ·rcases hl with ⟨rfl,rfl⟩ | ⟨kl,il,rfl,rfl⟩
   ·simp only [Option.getD_some,Option.getD_none] at *
    simp [run_bound w (y:=cap) (i:=im) (by omega) h3,run_bound w (y:=im.toNat) (i:=ih) (by omega) (by omega)]
   ·simp only [Option.getD_some,Option.getD_none] at *
    simp [run_bound w (y:=cap) (i:=im) (by omega) h3,run_bound w (y:=im.toNat) (i:=ih) (by omega) (by omega),run_bound w (y:=ih.toNat) (i:=il) h0 (by omega)]
section
variable {o:Oper} {ops:Array Oper} {nt:Nat} {a:Act} {w:World} {φ:Id→Option Addr} {H:Heap} {nx:Nat} {E:AEnv} {T:Tab} {R:Run} {d:Nat}
theorem optI_rel {X:Ctx} (he:EnvRel X E a.tmps) {x:Option Operand} {y:Option Opd} {n:Option Int} (h:optO x=some y) (hn:optI E y=some n):isInt (x.map a.eval) n:=by
 cases x with
 | none=>
  simp only [optO] at h
  obtain rfl:=Option.some.inj h
  simp only [optI] at hn
  obtain rfl:=Option.some.inj hn
  exact .inl ⟨rfl,rfl⟩
 | some x=>
  simp only [optO] at h
  split at h
  ·rename_i z hz
   obtain rfl:=Option.some.inj h
   simp only [optI] at hn
   split at hn
   ·rename_i i hi
    obtain rfl:=Option.some.inj hn
    obtain ⟨k,e⟩:=intOf_rel (opd_rel he hz) hi
    exact .inr ⟨k,i,by simp [e],rfl⟩
   ·cases hn
  ·cases h
theorem TElems.drop {m:Mem} {sz:Nat} {addr:Addr}:∀ {l:List TV} {i0:Nat} (n:Nat),TElems m sz addr i0 l→TElems m sz addr (i0 + n) (l.drop n)
 | [],_,_,_=>by simp [TElems]
 | _ :: _,_,0,h=>h
 | _ :: r,i0,n + 1,h=>by
  have:=TElems.drop (l:=r) n h.2
  rw [show i0 + (n + 1)=i0 + 1 + n from by omega]
  exact this
theorem TElems.take {m:Mem} {sz:Nat} {addr:Addr}:∀ {l:List TV} {i0:Nat} (n:Nat),TElems m sz addr i0 l→TElems m sz addr i0 (l.take n)
 | [],_,_,_=>by simp [TElems]
 | _ :: _,_,0,_=>by simp [TElems]
 | _ :: r,i0,n + 1,h=>⟨h.1,TElems.take (l:=r) n h.2⟩
theorem TElems.shift {m:Mem} {sz:Nat} {addr:Addr} (hs:addr.spot=none):∀ {l:List TV} {i0 k:Nat},TElems m sz addr (k + i0) l→TElems m sz (addr.add (k * sz)) i0 l
 | [],_,_,_=>by simp [TElems]
 | _ :: r,i0,k,h=>by
  refine ⟨?_,TElems.shift (l:=r) hs (by rw [show k + (i0 + 1)=k + i0 + 1 from by omega]; exact h.2)⟩
  obtain ⟨v,h1,h2,h3⟩:=h.1
  refine ⟨v,h1,h2,fun j u hj=>?_⟩
  have:=h3 j u hj
  rw [add_add hs,← Nat.add_assoc,← Nat.add_mul]
  exact this
theorem does_slice {t:TypeId} {x:Operand} {lo hi mx:Option Operand} {x':Opd} {lo' hi' mx':Option Opd} {l h m:Option Int} {v:AV} (ho:o.op = .slice t x lo hi mx)
  (ht:(P.underlying t=some .string∧∃ s,ev E x' = .c (.s (.string s)))∨(∃ e n,elemT P t=some e∧sizeT P e=some n∧(∀ s,ev E x' ≠ .c (.s (.string s)))∧(∀ sz xs,ev E x' = .c (.sl sz xs)→sz=n∨(h.getD xs.length - l.getD 0).toNat=0)∧(∀ p g q f k,ev E x' = .ref p g q f k→∃ ob,H p=some ob∧ob.sz=n)))
  (hx:opdOf x=some x') (hl:optO lo=some lo') (hh:optO hi=some hi') (hm:optO mx=some mx')
  (hs:SR nt w φ ⟨E,H,nx⟩ a) (hd:∀ d,o.dst=some d→d < nt) (el:optI E lo'=some l) (eh:optI E hi'=some h) (em:optI E mx'=some m) (hv:sliceV H (ev E x') l h m=some v) :
  Does P o nt a w φ H o.dst E v H nx:=by
 have h1:=opd_rel hs.env hx
 have il:=optI_rel hs.env hl el
 have ih:=optI_rel hs.env hh eh
 have im:=optI_rel hs.env hm em
 have hmh:m≠none→h≠none→(mx.map a.eval≠none→hi.map a.eval≠none):=by
  intro _ hb _
  rcases ih with ⟨_,e⟩ | ⟨k,i,e,_⟩
  ·exact absurd e hb
  ·rw [e]; simp
 have hmn:m=none→(mx.map a.eval≠none→hi.map a.eval≠none):=by
  intro e hne
  rcases im with ⟨e',_⟩ | ⟨k,i,_,e'⟩
  ·exact absurd e' hne
  ·rw [e] at e'; cases e'
 generalize hev:ev E x'=y at *
 rcases ht with ⟨ht,s,hstr⟩ | ⟨e,n,he,hn,hns,hsl,hrf⟩
 ·subst hstr
  obtain ⟨ex,_⟩:=h1
  simp only [sliceV] at hv
  split at hv
  ·rename_i hc
   obtain rfl:=Option.some.inj hv
   obtain ⟨c0,c1,c2,rfl⟩:=hc
   refine does_pure (v:=gStr (s.extract (l.getD 0).toNat (h.getD s.size).toNat)) (x:=.string (s.extract (l.getD 0).toNat (h.getD s.size).toNat)) ?_ hs ⟨rfl,rfl⟩ hd
   have hb:=run_bounds (P:=P) w false s.size s.size il ih (mx:=none) (m:=none) (.inl ⟨rfl,rfl⟩) (by simp) c0 c1 (by simpa using c2) (by simp)
   have hmx:mx.map a.eval=none:=by
    rcases im with ⟨e',_⟩ | ⟨k,i,_,e'⟩
    ·exact e'
    ·cases e'
   simp only [execOp,ho,ex,hmx]
   simp only [Instr.sliceAt,Sem.run_bind,run_underlying ht,Result.andThen_ok,Instr.slice,Option.isSome_none,Bool.false_eq_true,if_false,hb]
   rfl
  ·cases hv
 ·have hund:=elemT_und he
  have hrun:∀ (b:Option Addr) (len cap:Nat),a.eval x = .slice b len cap→(mx.map a.eval≠none→hi.map a.eval≠none) →
    0≤l.getD 0→l.getD 0≤h.getD len→h.getD len≤m.getD cap→m.getD cap≤cap →
    (execOp a.eval o).run P w = .ok (.value (.slice (if (m.getD cap).toNat=(l.getD 0).toNat then b else b.map (·.add ((l.getD 0).toNat * n))) ((h.getD len).toNat - (l.getD 0).toNat) ((m.getD cap).toNat - (l.getD 0).toNat))) w:=by
   intro b len cap ex hmm c0 c1 c2 c3
   have hb:=run_bounds (P:=P) w true len cap il ih im hmm c0 c1 c2 c3
   simp only [execOp,ho,ex]
   simp only [Instr.sliceAt,Sem.run_bind,run_underlying hund,Result.andThen_ok,Instr.slice,hb,run_sizeOf hn]
   rfl
  cases y with
  | c t=>
   cases t with
   | s z=>
    cases z with
    | string s=>exact absurd rfl (hns s)
    | _=>simp [sliceV] at hv
   | agg=>simp [sliceV] at hv
   | sl sz xs=>
    obtain ⟨b,len,cap,ex,hlen,hcap,hr⟩:=h1
    subst hlen
    simp only [sliceV] at hv
    split at hv
    ·rename_i hc
     obtain ⟨c0,c1,c2,rfl⟩:=hc
     obtain rfl:=Option.some.inj hv
     have hcap':(cap:Int)=(none:Option Int).getD (cap:Int):=rfl
     refine does_pure (hrun b _ cap ex (hmn rfl) c0 c1 (by simp only [Option.getD_none]; omega) (by simp)) hs ?_ hd
     refine ⟨_,_,_,rfl,by simp; omega,by simp only [Option.getD_none]; omega,?_⟩
     by_cases hz:(h.getD xs.length).toNat - (l.getD 0).toNat=0
     ·exact .inl hz
     ·right
      rcases hr with hr | ⟨addr,rfl,hsp,hel⟩
      ·omega
      ·have hne:¬ (((none:Option Int).getD (cap:Int)).toNat=(l.getD 0).toNat):=by simp only [Option.getD_none]; omega
       rw [if_neg hne]
       have hszn:sz=n:=(hsl sz xs rfl).resolve_right (by omega)
       subst hszn
       refine ⟨addr.add ((l.getD 0).toNat * sz),rfl,add_spot hsp _,?_⟩
       refine TElems.take _ (TElems.shift hsp ?_)
       have:=TElems.drop (l.getD 0).toNat hel
       simpa using this
    ·cases hv
  | nils=>
   have ex:a.eval x = .slice none 0 0:=h1
   simp only [sliceV] at hv
   split at hv
   ·rename_i hc
    obtain ⟨c0,c1,rfl⟩:=hc
    obtain rfl:=Option.some.inj hv
    refine does_pure (hrun none 0 0 ex (hmn rfl) (by omega) (by simp [c0,c1]) (by simp [c1]) (by simp)) hs ?_ hd
    show _=_
    simp [c0,c1]
   ·cases hv
  | ref p g q f k=>
   obtain ⟨b,cap,ex,hlc,ob,hob,hq⟩:=h1
   obtain ⟨ob',hob',hsz⟩:=hrf p g q f k rfl
   obtain rfl:ob=ob':=Option.some.inj (hob.symm.trans hob')
   have hob2:H p=some ob:=hob
   simp only [sliceV,hob2] at hv
   split at hv
   ·rename_i hc
    obtain ⟨g1,g2,c0,c1,c2,c3⟩:=hc
    obtain rfl:=Option.some.inj hv
    rcases hq with hq | ⟨q1,q2,q3,q4⟩
    ·unfold Stale at hq; omega
    ·have hle:h.getD k≤m.getD cap∧m.getD cap≤cap:=by
      rcases c3 with rfl | ⟨rfl,_⟩
      ·simp only [Option.getD_none]
       rcases q4 with ⟨z,z2⟩ | ⟨_,_,_,z,_⟩ <;> omega
      ·simp only [Option.getD_some]
       rcases q4 with ⟨z,z2⟩ | ⟨_,_,_,z,_⟩ <;> omega
     have hmm:mx.map a.eval≠none→hi.map a.eval≠none:=by
      rcases c3 with e | ⟨e,e2⟩
      ·exact hmn e
      ·exact hmh (by rw [e]; simp) e2
     refine does_pure (hrun b k cap ex hmm c0 c1 hle.1 hle.2) hs ?_ hd
     refine ⟨_,_,by rw [show (h.getD (k:Int) - l.getD 0).toNat=(h.getD (k:Int)).toNat - (l.getD 0).toNat from by omega],by omega,ob,hob,.inr ⟨q1,q2,by omega,?_⟩⟩
     rcases q4 with ⟨z,z2⟩ | ⟨ba,hba,rfl,z,hroom⟩
     ·left
      refine ⟨?_,by omega⟩
      omega
     ·by_cases hcz:(m.getD (cap:Int)).toNat=(l.getD 0).toNat
      ·left
       refine ⟨by omega,?_⟩
       rcases c3 with rfl | ⟨rfl,_⟩
       ·simp only [Option.getD_none] at hcz; omega
       ·simp only [Option.getD_some] at hcz; omega
      ·right
       obtain ⟨c',hc',hrel⟩:=hs.sim.obj _ _ hob
       have hcc:ba=c':=Option.some.inj (hba.symm.trans hc')
       subst hcc
       refine ⟨ba,hba,?_,?_,?_⟩
       ·rw [if_neg hcz]
        simp only [Option.map_some]
        rw [add_add hrel.spot,hsz,← Nat.add_mul]
       ·rcases c3 with rfl | ⟨rfl,_⟩
        ·simp only [Option.getD_none] at *; omega
        ·simp only [Option.getD_some] at *; omega
       ·refine Nat.le_trans ?_ hroom
        apply Nat.add_le_add_left
        apply Nat.mul_le_mul_right
        omega
   ·cases hv
  | _=>simp [sliceV] at hv
end
end Go.Am
/- One operation of Go's code against one of the small machine: a string's byte,least and greatest,structs that are one. -/
namespace Go.Am
variable {P:Program}
def sameC:List Lf→List Value→List Value→Option Bool
 | [],[],[]=>some true
 | l :: ls,x :: r,y :: q=>match sameV l x y with
  | some b=>(match sameC ls r q with | some b'=>some (b && b') | none=>none)
  | none=>none
 | _,_,_=>none
theorem sameC_of {X:Ctx}:∀ (ls:List Lf) (A B:List AV) (r:Bool) (vs us:List Value),sameL ls A B=some r→VRels X A vs→VRels X B us→sameC ls vs us=some r:=by
 intro ls
 induction ls with
 | nil=>
  intro A B r vs us h ha hb
  unfold sameL at h
  split at h
  ·cases vs <;> cases us <;> first | exact h | exact ha.elim | exact hb.elim
  ·rename_i e; cases e
  ·cases h
 | cons l ls ih=>
  intro A B r vs us h ha hb
  unfold sameL at h
  split at h
  ·rename_i e; cases e
  ·rename_i l' ls' x r1 y q1 e
   cases e
   cases vs with
   | nil=>exact ha.elim
   | cons v vs=>
    cases us with
    | nil=>exact hb.elim
    | cons u us=>
     obtain ⟨e1,_⟩:=ha.1
     obtain ⟨e2,_⟩:=hb.1
     subst e1; subst e2
     simp only [sameC]
     split at h
     ·rename_i b hb1
      try rw [hb1]
      split at h
      ·rename_i b' hb'
       rw [ih _ _ _ _ _ hb' ha.2.2 hb.2.2]
       exact h
      ·cases h
     ·cases h
  ·cases h
theorem sameC_append:∀ (l q:List Lf) (a a' b b':List Value) (r:Bool),a.length=l.length→a'.length=l.length→sameC (l++q) (a++b) (a'++b')=some r →
  ∃ r1 r2,sameC l a a'=some r1∧sameC q b b'=some r2∧r=(r1 && r2):=by
 intro l
 induction l with
 | nil=>
  intro q a a' b b' r h1 h2 h
  cases a with
  | nil=>cases a' with
   | nil=>exact ⟨true,r,rfl,h,by simp⟩
   | cons=>simp at h2
  | cons=>simp at h1
 | cons x l ih=>
  intro q a a' b b' r h1 h2 h
  cases a with
  | nil=>simp at h1
  | cons y a=>cases a' with
   | nil=>simp at h2
   | cons y' a'=>
    simp only [List.cons_append,sameC] at h ⊢
    split at h
    ·rename_i b1 hb1
     split at h
     ·rename_i b2 hb2
      obtain ⟨r1,r2,e1,e2,e3⟩:=ih q a a' b b' b2 (by simpa using h1) (by simpa using h2) hb2
      refine ⟨b1 && r1,r2,by rw [e1],e2,?_⟩
      obtain rfl:=Option.some.inj h
      rw [e3,Bool.and_assoc]
     ·cases h
    ·cases h
theorem sameC_length:∀ (l:List Lf) (a b:List Value) (r:Bool),sameC l a b=some r→a.length=l.length∧b.length=l.length:=by
 intro l
 induction l with
 | nil=>
  intro a b r h
  cases a <;> cases b <;> first | exact ⟨rfl,rfl⟩ | (simp [sameC] at h)
 | cons x l ih=>
  intro a b r h
  cases a <;> cases b <;> simp only [sameC] at h <;> first | cases h | skip
  split at h
  ·split at h
   ·rename_i hb
    have:=ih _ _ _ hb
    simp [this.1,this.2]
   ·cases h
  ·cases h
def Whole (P:Program) (t:TypeId) (c:List Value) (v:Value):Prop:=
 (∃ fs,P.underlying t=some (.struct fs)∧v = .agg c.toArray)∨((∀ fs,P.underlying t≠some (.struct fs))∧(∀ n e,P.underlying t≠some (.array n e))∧c=[v])
theorem leaves_part {d:Nat} {t:TypeId} {l:List Lf} (h:leaves P d t=some l) (w:World) (xs:List Value) (off:Nat) (hle:off + l.length≤xs.length) :
  ∃ v,(part t xs.toArray off).run P w = .ok v w∧Whole P t ((xs.drop off).take l.length) v:=by
 cases d with
 | zero=>simp [leaves] at h
 | succ d=>
  have basic:(∀ fs,P.underlying t≠some (.struct fs))→(∀ n e,P.underlying t≠some (.array n e))→(∃ u,P.underlying t=some u)→l.length=1→∃ v,(part t xs.toArray off).run P w = .ok v w∧Whole P t ((xs.drop off).take l.length) v:=by
   intro h1 h2 ⟨u,hu⟩ hl
   have ha:aggT P t=some false:=by
    unfold aggT; rw [hu]
    cases u <;> first | rfl | exact absurd hu (h1 _) | exact absurd hu (h2 _ _)
   have hlt:off < xs.length:=by omega
   refine ⟨xs[off],?_,.inr ⟨h1,h2,?_⟩⟩
   ·simp only [part,Sem.run_bind,run_isAgg ha,Result.andThen_ok,Bool.false_eq_true,if_false]
    simp [hlt]
   ·rw [hl,List.drop_eq_getElem_cons hlt]; rfl
  unfold leaves at h
  split at h
  ·rename_i k hu
   obtain rfl:=Option.some.inj h
   exact basic (by rw [hu]; simp) (by rw [hu]; simp) ⟨_,hu⟩ rfl
  ·rename_i hu
   obtain rfl:=Option.some.inj h
   exact basic (by rw [hu]; simp) (by rw [hu]; simp) ⟨_,hu⟩ rfl
  ·rename_i hu
   obtain rfl:=Option.some.inj h
   exact basic (by rw [hu]; simp) (by rw [hu]; simp) ⟨_,hu⟩ rfl
  ·rename_i fs hu
   split at h
   ·cases h
   ·split at h
    ·split at h
     ·rename_i l' _ hsz
      obtain rfl:=Option.some.inj h
      have ha:aggT P t=some true:=by unfold aggT; rw [hu]
      have:=run_part hsz ha w xs off hle
      exact ⟨_,this,.inl ⟨fs,hu,rfl⟩⟩
     ·cases h
    ·cases h
  ·cases h
theorem eq_leaves (w:World):∀ (d:Nat),
  (∀ t l,leaves P d t=some l→∀ D,d≤D→∀ c1 c2 v1 v2 r,Whole P t c1 v1→Whole P t c2 v2→sameC l c1 c2=some r→(Op.equalIn D t v1 v2).run P w = .ok r w):=by
 intro d
 induction d with
 | zero=>intro t l h; simp [leaves] at h
 | succ d ih=>
  have hF:∀ (fs:List Field) (n:Nat) (l:List Lf),leavesF (leaves P d) fs n=some l→∀ D,d≤D→∀ (xs ys:List Value) r,sameC l (xs.drop n) (ys.drop n)=some r →
    (Op.eqFields D xs.toArray ys.toArray fs).run P w = .ok r w:=by
   intro fs
   induction fs with
   | nil=>
    intro n l h D hD xs ys r hs
    simp only [leavesF] at h
    obtain rfl:=Option.some.inj h
    have:r=true:=by
     generalize xs.drop n=a at hs
     generalize ys.drop n=b at hs
     cases a <;> cases b <;> simp [sameC] at hs
     exact hs
    subst this
    simp [Op.eqFields]
   | cons f fs ihf=>
    intro n l h D hD xs ys r hs
    simp only [leavesF] at h
    split at h
    ·rename_i hc
     split at h
     ·rename_i l1 hl1
      split at h
      ·rename_i l2 hl2
       obtain rfl:=Option.some.inj h
       have hlen:=sameC_length _ _ _ _ hs
       simp only [List.length_append,List.length_drop] at hlen
       have e1:xs.drop n=(xs.drop n).take l1.length++xs.drop (n + l1.length):=by
        rw [← List.drop_drop]; exact (List.take_append_drop _ _).symm
       have e2:ys.drop n=(ys.drop n).take l1.length++ys.drop (n + l1.length):=by
        rw [← List.drop_drop]; exact (List.take_append_drop _ _).symm
       rw [e1,e2] at hs
       by_cases hz:l1.length=0
       ·exfalso
        cases d with
        | zero=>simp [leaves] at hl1
        | succ d=>
         unfold leaves at hl1
         split at hl1 <;> first | (obtain rfl:=Option.some.inj hl1; simp at hz; done) | skip
         ·split at hl1
          ·cases hl1
          ·split at hl1
           ·split at hl1
            ·rename_i hsz
             obtain rfl:=Option.some.inj hl1
             obtain ⟨_,_,_,hp,_⟩:=sizeT_info hsz
             omega
            ·cases hl1
           ·cases hl1
         ·cases hl1
       ·obtain ⟨r1,r2,s1,s2,rfl⟩:=sameC_append l1 l2 _ _ _ _ r (by simp; omega) (by simp; omega) hs
        obtain ⟨v1,p1,w1⟩:=leaves_part hl1 w xs n (by omega)
        obtain ⟨v2,p2,w2⟩:=leaves_part hl1 w ys n (by omega)
        have hq:=ih f.type l1 hl1 D hD _ _ v1 v2 r1 w1 w2 s1
        have hrest:=ihf (n + l1.length) l2 hl2 D hD xs ys r2 s2
        simp only [Op.eqFields,hc.1,ne_eq,not_false_eq_true,if_true,Sem.run_bind,hc.2,p1,p2,Result.andThen_ok,hq]
        cases r1
        ·simp
        ·simp [hrest]
      ·cases h
     ·cases h
    ·cases h
  intro t l h D hD c1 c2 v1 v2 r h1 h2 hs
  obtain ⟨D,rfl⟩:∃ n,D=n + 1:=⟨D - 1,by omega⟩
  have single:∀ {c:List Value} {v:Value},Whole P t c v→(∀ fs,P.underlying t≠some (.struct fs))→c=[v]:=by
   intro c v hw hn
   rcases hw with ⟨fs,e,_⟩ | ⟨_,_,e⟩
   ·exact absurd e (hn fs)
   ·exact e
  unfold leaves at h
  split at h
  ·rename_i k hu
   obtain rfl:=Option.some.inj h
   obtain rfl:=single h1 (by rw [hu]; simp)
   obtain rfl:=single h2 (by rw [hu]; simp)
   simp only [sameC] at hs
   cases v1 <;> cases v2 <;> simp only [sameV] at hs <;> first | cases hs | skip
   split at hs
   ·rename_i k1 n1 k2 n2 e hk
    split at hk
    ·rename_i he
     subst he
     obtain rfl:=Option.some.inj hk
     obtain rfl:=Option.some.inj hs
     rw [run_equalIn_int w D t _ _ _ _ hu]
     simp
    ·cases hk
   ·cases hs
  ·rename_i hu
   obtain rfl:=Option.some.inj h
   obtain rfl:=single h1 (by rw [hu]; simp)
   obtain rfl:=single h2 (by rw [hu]; simp)
   simp only [sameC] at hs
   cases v1 <;> cases v2 <;> simp [sameV] at hs
   subst hs
   exact run_equalIn_string w D t _ _ hu
  ·rename_i hu
   obtain rfl:=Option.some.inj h
   obtain rfl:=single h1 (by rw [hu]; simp)
   obtain rfl:=single h2 (by rw [hu]; simp)
   simp only [sameC] at hs
   cases v1 <;> cases v2 <;> simp [sameV] at hs
   subst hs
   exact run_equalIn_bool w D t _ _ hu
  ·rename_i fs hu
   split at h
   ·cases h
   ·rename_i hp
    split at h
    ·rename_i l' hl'
     split at h
     ·obtain rfl:=Option.some.inj h
      have agg:∀ {c:List Value} {v:Value},Whole P t c v→v = .agg c.toArray:=by
       intro c v hw
       rcases hw with ⟨_,_,e⟩ | ⟨hn,_,_⟩
       ·exact e
       ·exact absurd hu (hn fs)
      rw [agg h1,agg h2]
      have hfo:P.fieldsOf t=fs:=by simp [Program.fieldsOf,hu]
      rw [run_equalIn_agg w D t _ _ (by rw [hfo]; exact hu) (by simpa using hp),hfo]
      exact hF fs.toList 0 l' hl' D (by omega) c1 c2 r (by simpa using hs)
     ·cases h
    ·cases h
  ·cases h
section
variable {o:Oper} {ops:Array Oper} {nt:Nat} {a:Act} {w:World} {φ:Id→Option Addr} {H:Heap} {nx:Nat} {E:AEnv} {T:Tab} {R:Run} {d:Nat}
theorem does_binS {op:BinOp} {t t':TypeId} {x y:Operand} {x' y':Opd} {fs:Array Field} {l:List Lf} {r:Bool} (ho:o.op = .binOp op t x y t') (ht:P.underlying t=some (.struct fs)) (hg:P.eqGuardType P.depth t=false)
  (hl:leaves P 5 t=some l) (hx:opdOf x=some x') (hy:opdOf y=some y') (hs:SR nt w φ ⟨E,H,nx⟩ a) (hd:∀ d,o.dst=some d→d < nt)
  (hi:(ev E x').isAgg=true) (hj:(ev E y').isAgg=true) (hr:sameL l (ev E x').cells (ev E y').cells=some r) {neg:Bool} (hop:(op = .eql∧neg=false)∨(op = .neq∧neg=true)) :
  Does P o nt a w φ H o.dst E (gBool (if neg then !r else r)) H nx:=by
 have agg:∀ {z:AV} {v:Value},VRel (ctx w φ H) z v→z.isAgg=true→∃ vs:List Value,v = .agg vs.toArray∧VRels (ctx w φ H) z.cells vs:=by
  intro z v hz hza
  cases z with
  | agg cs=>exact hz
  | c t=>
   cases t with
   | agg cs=>obtain ⟨vs,e,hr⟩:=hz; exact ⟨vs,e,TRels.toV hr⟩
   | _=>simp [AV.isAgg] at hza
  | _=>simp [AV.isAgg] at hza
 obtain ⟨vs,e1,r1⟩:=agg (opd_rel hs.env hx) hi
 obtain ⟨us,e2,r2⟩:=agg (opd_rel hs.env hy) hj
 have hc:=sameC_of _ _ _ _ _ _ hr r1 r2
 have he:=eq_leaves (P:=P) w 5 t l hl 10000 (by omega) vs us _ _ r (.inl ⟨fs,ht,rfl⟩) (.inl ⟨fs,ht,rfl⟩) hc
 refine does_pure (v:=gBool (if neg then !r else r)) (x:=.bool (if neg then !r else r)) ?_ hs ⟨rfl,rfl⟩ hd
 simp only [execOp,ho,e1,e2,Sem.run_bind]
 rw [run_eqGuard_agg w op t x y _ _ hg]
 rcases hop with ⟨rfl,rfl⟩ | ⟨rfl,rfl⟩
 ·simp only [Result.andThen_ok]
  rw [run_eql_struct,he]
  simp
 ·simp only [Result.andThen_ok]
  rw [run_neq_struct,he]
  simp
theorem does_index {t:TypeId} {x i:Operand} {x' i':Opd} {s:ByteArray} {j:Int} {b:UInt8} (ho:o.op = .index t x i) (ht:P.underlying t=some .string) (hx:opdOf x=some x') (hi:opdOf i=some i')
  (hs:SR nt w φ ⟨E,H,nx⟩ a) (hd:∀ d,o.dst=some d→d < nt) (es:ev E x' = .c (.s (.string s))) (ej:intOfV (ev E i')=some j) (h0:0≤j) (hb:s[j.toNat]? = some b) :
  Does P o nt a w φ H o.dst E (.c (.s (.int .u8 b.toNat))) H nx:=by
 have h1:=opd_rel hs.env hx
 rw [es] at h1
 obtain ⟨e1,_⟩:=scalar_rel h1
 obtain ⟨k,e2⟩:=intOf_rel (opd_rel hs.env hi) ej
 refine does_pure (v:=.c (.s (.int .u8 b.toNat))) (x:=.int .u8 b.toNat) ?_ hs ⟨rfl,rfl⟩ hd
 simp only [execOp,ho,e1,e2]
 simp [Instr.index,asIntOf,run_underlying ht,h0,hb]
theorem i64s_rel {X:Ctx}:∀ (l:List AV) (vs:List Value) (ns:List Int),i64s l=some ns→VTup X l vs→vs=ns.map (.int .i64):=by
 intro l
 induction l with
 | nil=>intro vs ns h hr; simp [i64s] at h; subst h; cases vs with | nil=>rfl | cons=>exact hr.elim
 | cons x l ih=>
  intro vs ns h hr
  cases vs with
  | nil=>exact hr.elim
  | cons v vs=>
   unfold i64s at h
   split at h
   ·rename_i e; cases e
   ·rename_i n r e
    cases e
    split at h
    ·rename_i q hq
     obtain rfl:=Option.some.inj h
     obtain ⟨e1,_⟩:=hr.1
     rw [e1,ih _ _ hq hr.2]
     rfl
    ·cases h
   ·cases h
theorem does_minmax {c:Call} {b:Bool} {args:List Opd} {n:Int} (ho:o.op = .call c) (hc:c.callee = .builtin (if b then .max else .min)) (hx:mapMO opdOf c.args.toList=some args)
  (hs:SR nt w φ ⟨E,H,nx⟩ a) (hd:∀ d,o.dst=some d→d < nt) (hn:minMax b (args.map (ev E))=some n):Does P o nt a w φ H o.dst E (gInt n) H nx:=by
 have h1:=opds_rel hs.env _ _ hx
 unfold minMax at hn
 split at hn
 ·rename_i x r hi
  obtain rfl:=Option.some.inj hn
  have e:=i64s_rel _ _ _ hi h1
  have ea:(c.args.map a.eval).toList = .int .i64 x :: r.map (.int .i64):=by rw [Array.toList_map,e]; rfl
  refine does_pure (v:=gInt _) (x:=.int .i64 _) ?_ hs ⟨rfl,rfl⟩ hd
  cases b with
  | true=>
   have hfold:∀ (r:List Int) (x:Int),((r.map (Value.int .i64)).foldlM Builtin.max2 (Value.int .i64 x)).run P w = .ok (.int .i64 (r.foldl (fun a b=>if b > a then b else a) x)) w:=by
    intro r
    induction r with
    | nil=>intro x; simp
    | cons y r ih=>intro x; simp only [List.map_cons,List.foldlM_cons,Sem.run_bind,Builtin.max2,Sem.run_pure,Result.andThen_ok,List.foldl_cons]; exact ih _
   simp only [execOp,ho,resolve,hc,if_true,Sem.run_bind,Sem.run_pure,Result.andThen_ok,invoke,builtin,Builtin.max_,ea]
   rw [hfold]; rfl
  | false=>
   have hfold:∀ (r:List Int) (x:Int),((r.map (Value.int .i64)).foldlM Builtin.min2 (Value.int .i64 x)).run P w = .ok (.int .i64 (r.foldl (fun a b=>if b < a then b else a) x)) w:=by
    intro r
    induction r with
    | nil=>intro x; simp
    | cons y r ih=>intro x; simp only [List.map_cons,List.foldlM_cons,Sem.run_bind,Builtin.min2,Sem.run_pure,Result.andThen_ok,List.foldl_cons]; exact ih _
   simp only [execOp,ho,resolve,hc,Bool.false_eq_true,if_false,Sem.run_bind,Sem.run_pure,Result.andThen_ok,invoke,builtin,Builtin.min_,ea]
   rw [hfold]; rfl
 ·cases hn
end
end Go.Am
/- Memory that the small machine makes and writes,against Go's. -/
namespace Go.Am
variable {P:Program}
def World.row (w:World) (cells:Array Value) (e:TypeId) (lo hi:Nat):World:={ w with heap:=w.heap.push (.cells cells e (lo,hi)) }
theorem row_old (w:World) (cells:Array Value) (e:TypeId) (lo hi:Nat) {b:Nat} (h:b < w.heap.size):(World.row w cells e lo hi).heap[b]? = w.heap[b]?:=by
 simp only [World.row,Array.getElem?_push]
 rw [if_neg (by omega)]
theorem row_new (w:World) (cells:Array Value) (e:TypeId) (lo hi:Nat):(World.row w cells e lo hi).heap[w.heap.size]? = some (.cells cells e (lo,hi)):=by
 simp only [World.row,Array.getElem?_push,if_true]
theorem row_cell (w:World) (cells:Array Value) (e:TypeId) (lo hi:Nat) (i:Nat):(World.row w cells e lo hi).cell? ⟨w.heap.size,i,none⟩=cells[i]?:=by
 simp only [World.cell?,row_new]
 simp
def φupd (φ:Id→Option Addr) (o:Id) (a:Addr):Id→Option Addr:=fun p=>if p=o then some a else φ p
theorem bsize_row (w:World) (cells:Array Value) (e:TypeId) (lo hi:Nat) {b:Nat} (h:b < w.heap.size):bsize (World.row w cells e lo hi) b=bsize w b:=by
 unfold bsize; rw [row_old _ _ _ _ _ h]
theorem sim_new {w:World} {φ:Id→Option Addr} {H:Heap} (hs:Sim w φ H) {o:Id} {ob:Obj} (hn:∀ x,H o=some x→Newer ob x) (hre:o.real) {cells:Array Value} {e:TypeId} {lo hi:Nat} (hfr:hi≤lo∨cells.size≤lo) (hpos:0 < ob.sz)
  (hel:∀ (i:Nat) (x:AV),ob.es[i]? = some x→stor x=true∧∃ v,VRel (ctx w φ H) x v∧v.cells.size=ob.sz∧∀ (j:Nat) (u:Value),v.cells[j]? = some u→oneCell u=true∧cells[i * ob.sz + j]? = some u) :
  Ext w φ H (World.row w cells e lo hi) (φupd φ o ⟨w.heap.size,0,none⟩) (hupd H o ob)∧Sim (World.row w cells e lo hi) (φupd φ o ⟨w.heap.size,0,none⟩) (hupd H o ob):=by
 have hne:∀ k,Id.ex k≠o:=fun k e=>by subst e; exact hre
 have hext:Ext w φ H (World.row w cells e lo hi) (φupd φ o ⟨w.heap.size,0,none⟩) (hupd H o ob):=by
  refine ⟨rfl,rfl,rfl,by simp [World.row],fun b hb _=>row_old _ _ _ _ _ hb,?_,fun b hb=>Nat.le_of_eq (bsize_row _ _ _ _ _ hb).symm,?_,fun k=>by simp only [φupd,if_neg (hne k)],fun k a ha=>row_old _ _ _ _ _ (hs.pl _ a ha)⟩
  ·rintro b hb (⟨p,x,c,hp,hx,hc,rfl⟩ | ⟨k,c,hc,rfl⟩)
   case inr=>simp only [φupd,if_neg (hne k)] at hc; exact .inr ⟨k,c,hc,rfl⟩
   by_cases hpo:p=o
   ·subst hpo
    simp only [φupd,if_true] at hc
    obtain rfl:=Option.some.inj hc
    simp at hb
   ·rw [hupd_ne _ _ hpo] at hp
    simp only [φupd,if_neg hpo] at hc
    exact .inl ⟨p,x,c,hp,hx,hc,rfl⟩
  ·intro p x hp
   by_cases hpo:p=o
   ·subst hpo
    exact ⟨ob,hupd_same _ _ _,.inl (hn x hp)⟩
   ·exact ⟨x,by rw [hupd_ne _ _ hpo]; exact hp,.inr ⟨rfl,rfl,rfl,by simp [φupd,hpo]⟩⟩
 refine ⟨hext,?_⟩
 have hctx:=hext.leCtx hs.pl
 refine ⟨?_,?_,?_,?_,?_⟩
 ·intro p c hc
  by_cases hpo:p=o
  ·simp only [φupd,if_pos hpo] at hc
   obtain rfl:=Option.some.inj hc
   simp [World.row]
  ·simp only [φupd,if_neg hpo] at hc
   have:=hs.pl p c hc
   simp only [World.row,Array.size_push]; omega
 ·intro p x hp
  by_cases hpo:p=o
  ·subst hpo
   rw [hupd_same] at hp
   obtain rfl:=Option.some.inj hp
   refine ⟨⟨w.heap.size,0,none⟩,by simp [φupd],rfl,by simp [World.row],hpos,?_,fun _=>⟨cells,e,lo,hi,row_new _ _ _ _ _,hfr⟩⟩
   intro i y hy
   obtain ⟨h0,v,h1,h2,h3⟩:=hel i y hy
   refine ⟨h0,v,VRel.mono hctx _ _ h1,h2,fun j u hj=>⟨(h3 j u hj).1,?_⟩⟩
   rw [add_eq rfl,Nat.zero_add,row_cell]
   exact (h3 j u hj).2
  ·rw [hupd_ne _ _ hpo] at hp
   obtain ⟨c,hc,hr⟩:=hs.obj p x hp
   refine ⟨c,by simp [φupd,hpo,hc],hr.spot,by have:=hr.lt; simp only [World.row,Array.size_push]; omega,hr.pos,?_,?_⟩
   ·intro i y hy
    obtain ⟨h0,v,h1,h2,h3⟩:=hr.el i y hy
    refine ⟨h0,v,VRel.mono hctx _ _ h1,h2,fun j u hj=>⟨(h3 j u hj).1,?_⟩⟩
    rw [cell_same (row_old _ _ _ _ _ (by rw [add_block]; exact hr.lt))]
    exact (h3 j u hj).2
   ·intro hw
    obtain ⟨c0,e0,lo0,hi0,h1,h2⟩:=hr.fr hw
    exact ⟨c0,e0,lo0,hi0,by rw [row_old _ _ _ _ _ hr.lt]; exact h1,h2⟩
 ·intro p x q y b c hp hx hq hpq hb hc
  by_cases hpo:p=o
  ·subst hpo
   simp only [φupd,if_true] at hb
   obtain rfl:=Option.some.inj hb
   have hqo:q≠p:=Ne.symm hpq
   simp only [φupd,if_neg hqo] at hc
   have:=hs.pl q c hc
   simp; omega
  ·rw [hupd_ne _ _ hpo] at hp
   simp only [φupd,if_neg hpo] at hb
   by_cases hqo:q=o
   ·subst hqo
    simp only [φupd,if_true] at hc
    obtain rfl:=Option.some.inj hc
    have:=hs.pl p b hb
    simp; omega
   ·rw [hupd_ne _ _ hqo] at hq
    simp only [φupd,if_neg hqo] at hc
    exact hs.sep p x q y b c hp hx hq hpq hb hc
 ·intro p x hp
  by_cases hpo:p=o
  ·subst hpo; exact hre
  ·rw [hupd_ne _ _ hpo] at hp; exact hs.re p x hp
 ·intro p x b k c hp hb hc
  simp only [φupd,if_neg (hne k)] at hc
  by_cases hpo:p=o
  ·subst hpo
   simp only [φupd,if_true] at hb
   obtain rfl:=Option.some.inj hb
   have:=hs.pl _ c hc
   simp; omega
  ·rw [hupd_ne _ _ hpo] at hp
   simp only [φupd,if_neg hpo] at hb
   exact hs.sx p x b k c hp hb hc
structure Stored (w w':World) (a:Addr) (vs:List Value):Prop where
 os:w'.os=w.os
 tape:w'.tape=w.tape
 output:w'.output=w.output
 size:w'.heap.size=w.heap.size
 other:∀ k,k≠a.block→w'.heap[k]? = w.heap[k]?
 blk:∃ c c' e f,w.heap[a.block]? = some (.cells c e f)∧w'.heap[a.block]? = some (.cells c' e f)∧c'.size=c.size ∧
  ∀ i,c'[i]? = if a.off≤i∧i < a.off + vs.length then vs[i - a.off]? else c[i]?
theorem run_storeCells {a:Addr} (hs:a.spot=none):∀ (vs:List Value) (i:Nat) (w1:World),(∀ v∈vs,oneCell v=true) →
  (∃ c e f,w1.heap[a.block]? = some (.cells c e f)∧a.off + i + vs.length≤c.size∧(f.2≤f.1∨c.size≤f.1)) →
  ∃ w',(storeCells a vs i).run P w1 = .ok () w'∧Stored w1 w' (a.add i) vs:=by
 intro vs
 induction vs with
 | nil=>
  intro i w1 _ ⟨c,e,f,h1,_,_⟩
  refine ⟨w1,rfl,rfl,rfl,rfl,rfl,fun _ _=>rfl,c,c,e,f,by rw [add_block]; exact h1,by rw [add_block]; exact h1,rfl,fun k=>?_⟩
  rw [if_neg (by simp only [List.length_nil]; omega)]
 | cons v vs ih=>
  intro i w1 hv ⟨c,e,f,h1,h2,h3⟩
  obtain ⟨lo,hi⟩:=f
  have hlt:a.off + i < c.size:=by simp only [List.length_cons] at h2; omega
  have hcell:w1.cell? (a.add i)=some c[a.off + i]:=by
   rw [add_eq hs]; simp only [World.cell?,h1]; simp [hlt]
  have hfroz:w1.frozen? (a.add i)=false:=by
   rw [add_eq hs]; simp only [World.frozen?,h1]
   simp only [Bool.and_eq_false_iff,decide_eq_false_iff_not]
   simp only at h3
   omega
  have hone:=hv v (by simp)
  have hstep:∀ k:Sem Unit,(Sem.store .plain (a.add i) v k).run P w1=k.run P (w1.setCell (a.add i) v):=by
   intro k
   cases v <;> first | (simp [oneCell] at hone; done) | (simp only [Sem.run,hcell,hfroz]; rfl)
  have hset:(w1.setCell (a.add i) v).heap[a.block]? = some (.cells (c.setIfInBounds (a.off + i) v) e (lo,hi)):=by
   rw [add_eq hs]
   simp only [World.setCell,Array.getElem?_modify,if_true,h1]
   rfl
  obtain ⟨w',hr,hst⟩:=ih (i + 1) (w1.setCell (a.add i) v) (fun u hu=>hv u (by simp [hu]))
   ⟨_,e,(lo,hi),hset,by simp only [Array.size_setIfInBounds]; simp only [List.length_cons] at h2; omega,by simpa using h3⟩
  refine ⟨w',?_,?_⟩
  ·simp only [storeCells,store,Sem.run_bind]
   rw [hstep]
   exact hr
  ·obtain ⟨c0,c',e',f',g1,g2,g3,g4⟩:=hst.blk
   rw [add_block] at g1 g2
   rw [hset] at g1
   cases g1
   refine ⟨hst.os,hst.tape,hst.output,?_,?_,c,c',e,(lo,hi),by rw [add_block]; exact h1,by rw [add_block]; exact g2,by rw [g3]; simp,?_⟩
   ·rw [hst.size]; simp [World.setCell]
   ·intro k hk
    rw [add_block] at hk
    rw [hst.other k (by rw [add_block]; exact hk)]
    simp only [World.setCell,Array.getElem?_modify,add_block]
    rw [if_neg (Ne.symm hk)]
   ·intro k
    rw [g4 k]
    rw [add_eq hs,add_eq hs]
    simp only [List.length_cons]
    by_cases hk:k=a.off + i
    ·subst hk
     rw [if_neg (by omega),if_pos (by omega)]
     simp [hlt]
    ·by_cases hr2:a.off + (i + 1)≤k∧k < a.off + (i + 1) + vs.length
     ·rw [if_pos hr2,if_pos (by omega)]
      rw [show k - (a.off + i)=(k - (a.off + (i + 1))) + 1 from by omega]
      simp
     ·rw [if_neg hr2,if_neg (by omega)]
      rw [Array.getElem?_setIfInBounds,if_neg (Ne.symm hk)]
theorem Stored.bsize {w w':World} {a:Addr} {vs:List Value} (h:Stored w w' a vs) (b:Nat):bsize w' b=bsize w b:=by
 by_cases hb:b=a.block
 ·subst hb
  obtain ⟨c,c',e,f,h1,h2,h3,_⟩:=h.blk
  simp only [Am.bsize,h1,h2,h3]
 ·simp only [Am.bsize,h.other b hb]
theorem Stored.free {w w':World} {a:Addr} {vs:List Value} (h:Stored w w' a vs) {b:Nat} (hf:freeB w b):freeB w' b:=by
 obtain ⟨c0,e0,lo,hi,g1,g2⟩:=hf
 by_cases hb:b=a.block
 ·subst hb
  obtain ⟨c,c',e,f,h1,h2,h3,_⟩:=h.blk
  rw [g1] at h1
  cases h1
  exact ⟨c',e0,lo,hi,h2,by rw [h3]; exact g2⟩
 ·exact ⟨c0,e0,lo,hi,by rw [h.other b hb]; exact g1,g2⟩
theorem Stored.cell {w w':World} {a:Addr} {vs:List Value} (h:Stored w w' a vs) (k:Nat):w'.cell? ⟨a.block,k,none⟩=if a.off≤k∧k < a.off + vs.length then vs[k - a.off]? else w.cell? ⟨a.block,k,none⟩:=by
 obtain ⟨c,c',e,f,h1,h2,h3,h4⟩:=h.blk
 simp only [World.cell?,h1,h2]
 simp [h4 k]
theorem sim_write {w w':World} {φ:Id→Option Addr} {H:Heap} (hs:Sim w φ H) {o:Id} {ob:Obj} {b a:Addr} {vs:List Value} (ho:H o=some ob) (hw:ob.w=true) (hb:φ o=some b) (st:Stored w w' a vs) (hab:a.block=b.block)
  {es:List AV} (hlen:es.length=ob.es.length)
  (hel:∀ (i:Nat) (x:AV),es[i]? = some x→stor x=true∧∃ v,VRel (ctx w φ H) x v∧v.cells.size=ob.sz∧∀ (j:Nat) (u:Value),v.cells[j]? = some u→oneCell u=true∧w'.cell? (b.add (i * ob.sz + j))=some u) :
  Ext w φ H w' φ (hupd H o { ob with es:=es })∧Sim w' φ (hupd H o { ob with es:=es }):=by
 have hmut:Mut φ H b.block:=.inl ⟨o,ob,b,ho,hw,hb,rfl⟩
 have hother:∀ k,¬ Mut φ H k→w'.heap[k]? = w.heap[k]?:=fun k hk=>st.other k (fun e=>hk (by rw [e,hab]; exact hmut))
 have hext:Ext w φ H w' φ (hupd H o { ob with es:=es }):=by
  refine ⟨st.os,st.tape,st.output,Nat.le_of_eq st.size.symm,fun k _ hk=>hother k hk,?_,fun k _=>Nat.le_of_eq (st.bsize k).symm,?_,fun _=>rfl,fun k c hc=>st.other _ (by rw [hab]; exact Ne.symm (hs.sx o ob b k c ho hb hc))⟩
  ·rintro k _ (⟨p,x,c,hp,hx,hc,rfl⟩ | hr)
   case inr=>exact .inr hr
   by_cases hpo:p=o
   ·subst hpo; exact .inl ⟨p,ob,c,ho,hw,hc,rfl⟩
   ·rw [hupd_ne _ _ hpo] at hp; exact .inl ⟨p,x,c,hp,hx,hc,rfl⟩
  ·intro p x hp
   by_cases hpo:p=o
   ·subst hpo
    rw [ho] at hp
    obtain rfl:=Option.some.inj hp
    exact ⟨_,hupd_same _ _ _,.inr ⟨rfl,hlen,rfl,rfl⟩⟩
   ·exact ⟨x,by rw [hupd_ne _ _ hpo]; exact hp,.inr ⟨rfl,rfl,rfl,rfl⟩⟩
 refine ⟨hext,?_⟩
 have hctx:=hext.leCtx hs.pl
 refine ⟨fun p c hc=>by rw [st.size]; exact hs.pl p c hc,?_,?_,?_,?_⟩
 ·intro p x hp
  by_cases hpo:p=o
  ·subst hpo
   rw [hupd_same] at hp
   obtain rfl:=Option.some.inj hp
   obtain ⟨b',hb',hr⟩:=hs.obj p ob ho
   obtain rfl:b=b':=Option.some.inj (hb.symm.trans hb')
   refine ⟨b,hb,hr.spot,by rw [st.size]; exact hr.lt,hr.pos,?_,fun _=>st.free (hr.fr hw)⟩
   intro i y hy
   obtain ⟨h0,v,h1,h2,h3⟩:=hel i y hy
   exact ⟨h0,v,VRel.mono hctx _ _ h1,h2,h3⟩
  ·rw [hupd_ne _ _ hpo] at hp
   obtain ⟨c,hc,hr⟩:=hs.obj p x hp
   have hne:c.block≠a.block:=by
    rw [hab]
    exact Ne.symm (hs.sep o ob p x b c ho hw hp (Ne.symm hpo) hb hc)
   refine ⟨c,hc,hr.spot,by rw [st.size]; exact hr.lt,hr.pos,?_,fun hx=>st.free (hr.fr hx)⟩
   intro i y hy
   obtain ⟨h0,v,h1,h2,h3⟩:=hr.el i y hy
   refine ⟨h0,v,VRel.mono hctx _ _ h1,h2,fun j u hj=>⟨(h3 j u hj).1,?_⟩⟩
   rw [cell_same (st.other _ (by rw [add_block]; exact hne))]
   exact (h3 j u hj).2
 ·intro p x q y c e hp hx hq hpq hc he
  have hp':∃ x',H p=some x'∧x'.w=true:=by
   by_cases hpo:p=o
   ·subst hpo; exact ⟨ob,ho,hw⟩
   ·rw [hupd_ne _ _ hpo] at hp; exact ⟨x,hp,hx⟩
  have hq':∃ y',H q=some y':=by
   by_cases hqo:q=o
   ·subst hqo; exact ⟨ob,ho⟩
   ·rw [hupd_ne _ _ hqo] at hq; exact ⟨y,hq⟩
  obtain ⟨x',h1,h2⟩:=hp'
  obtain ⟨y',h3⟩:=hq'
  exact hs.sep p x' q y' c e h1 h2 h3 hpq hc he
 ·intro p x hp
  by_cases hpo:p=o
  ·subst hpo; exact hs.re p ob ho
  ·rw [hupd_ne _ _ hpo] at hp; exact hs.re p x hp
 ·intro p x c k e hp hc he
  by_cases hpo:p=o
  ·subst hpo; exact hs.sx p ob c k e ho hc he
  ·rw [hupd_ne _ _ hpo] at hp; exact hs.sx p x c k e hp hc he
end Go.Am
/- One operation of Go's code against one of the small machine: reading,new variables,storing. -/
namespace Go.Am
variable {P:Program}
theorem run_loadCells' {w:World} {a:Addr} {n:Nat} {vs:List Value} (hl:vs.length=n) (h:∀ (j:Nat) (v:Value),vs[j]? = some v→w.cell? (a.add j)=some v):(loadCells a n).run P w = .ok vs.toArray w:=by
 subst hl
 exact run_loadCells_list (P:=P) w a vs h
theorem stor_ne {x:AV} (h:stor x=true):x ≠ .undef∧∀ l,x ≠ .tup l:=by
 cases x <;> simp [stor] at h ⊢
theorem isAgg_rel {X:Ctx} {x:AV} {v:Value} (h:VRel X x v) (ha:x.isAgg=true):∃ vs:List Value,v = .agg vs.toArray∧VRels X x.cells vs:=by
 cases x with
 | agg cs=>exact h
 | c t=>
  cases t with
  | agg cs=>obtain ⟨vs,e,hr⟩:=h; exact ⟨vs,e,TRels.toV hr⟩
  | _=>simp [AV.isAgg] at ha
 | _=>simp [AV.isAgg] at ha
theorem VRels.one {X:Ctx}:∀ {l:List AV} {vs:List Value},VRels X l vs→∀ {j:Nat} {u:Value},vs[j]? = some u→oneCell u=true
 | [],[],_,_,_,h=>by simp at h
 | _ :: _,v :: _,hr,0,_,h=>by simp at h; subst h; exact hr.2.1
 | _ :: _,_ :: _,hr,j + 1,_,h=>VRels.one hr.2.2 (j:=j) (by simpa using h)
 | [],_ :: _,hr,_,_,_=>hr.elim
 | _ :: _,[],hr,_,_,_=>hr.elim
theorem fit_cells {X:Ctx} {x:AV} {v:Value} (h:VRel X x v) (hst:stor x=true):v.cells.size=x.cells.length∧∀ (j:Nat) (u:Value),v.cells[j]? = some u→oneCell u=true:=by
 obtain ⟨n1,n2⟩:=stor_ne hst
 have hcl:=VRel.cells h n1 n2
 refine ⟨?_,fun j u hj=>hcl.one (j:=j) (by simpa using hj)⟩
 have:=hcl.length
 simp at this
 exact this.symm
section
variable {o:Oper} {ops:Array Oper} {nt:Nat} {a:Act} {w:World} {φ:Id→Option Addr} {H:Heap} {nx:Nat} {E:AEnv} {T:Tab} {R:Run} {d:Nat}
theorem load_rel {t:TypeId} {ag:Bool} {n:Nat} {x v:AV} {p:Value} (hag:aggT P t=some ag) (hn:sizeT P t=some n) (hs:Sim w φ H) (hp:VRel (ctx w φ H) x p) (hv:loadV H ag n x=some v) :
  ∃ u,(Instr.loadAt t p).run P w = .ok u w∧VRel (ctx w φ H) v u:=by
 have hrunA:∀ (ad:Addr) (vs:List Value),ag=true→vs.length=n→(∀ (j:Nat) (z:Value),vs[j]? = some z→w.cell? (ad.add j)=some z) →
   (Instr.loadAt t (.pointer (some ad))).run P w = .ok (.agg vs.toArray) w:=by
  intro ad vs e hl hc
  subst e
  simp only [Instr.loadAt,Instr.sureAddr,Sem.run_bind,Sem.run_pure,Result.andThen_ok,loadVar,run_isAgg hag,if_true,run_sizeOf hn,run_loadCells' hl hc]
 have hrunO:∀ (ad:Addr) (z:Value),ag=false→w.cell? ad=some z→(Instr.loadAt t (.pointer (some ad))).run P w = .ok z w:=by
  intro ad z e hc
  subst e
  simp only [Instr.loadAt,Instr.sureAddr,Sem.run_bind,Sem.run_pure,Result.andThen_ok,loadVar,run_isAgg hag,Bool.false_eq_true,if_false]
  simp [hc]
 cases x with
 | tptr y off=>
  obtain ⟨u,b,rfl,hsp,hr,hm⟩:=hp
  have hm':∀ (j:Nat) (z:Value),u.cells[j]? = some z→w.cell? (b.add j)=some z:=fun j z hj=>(imm_some.1 (hm j z hj)).2
  simp only [loadV] at hv
  split at hv
  ·rename_i hagt
   split at hv
   ·rename_i cs
    obtain ⟨vs,rfl,hrs⟩:=hr
    have hlen:=hrs.length
    have hcells:∀ (k:Nat),(∀ (j:Nat) (z:Value),((vs.drop off).take k)[j]? = some z→w.cell? ((b.add off).add j)=some z):=by
     intro k j z hj
     rw [add_add hsp]
     apply hm'
     simp only [Value.cells]
     rw [List.getElem?_take] at hj
     split at hj
     ·rw [List.getElem?_drop] at hj
      simpa using hj
     ·cases hj
    split at hv
    ·rename_i hc
     obtain rfl:=Option.some.inj hv
     obtain ⟨rfl,hcl⟩:=hc
     refine ⟨_,hrunA _ vs hagt (by omega) ?_,⟨vs,rfl,hrs⟩⟩
     intro j z hj
     have:=hcells vs.length j z (by simpa using hj)
     exact this
    ·split at hv
     ·rename_i hle
      obtain rfl:=Option.some.inj hv
      refine ⟨_,hrunA _ ((vs.drop off).take n) hagt (by simp; omega) (hcells n),?_⟩
      have h1:TRels (imm w φ H) ((cs.drop off).take n) ((vs.drop off).take n):=by
       have hd:∀ (l:List TV) (q:List Value) (k:Nat),TRels (imm w φ H) l q→TRels (imm w φ H) (l.drop k) (q.drop k):=by
        intro l
        induction l with
        | nil=>intro q k h; cases q with | nil=>simp [TRels] | cons=>exact h.elim
        | cons z l ih=>intro q k h; cases q with
         | nil=>exact h.elim
         | cons y q=>cases k with
          | zero=>exact h
          | succ k=>simpa using ih q k h.2.2
       have ht:∀ (l:List TV) (q:List Value) (k:Nat),TRels (imm w φ H) l q→TRels (imm w φ H) (l.take k) (q.take k):=by
        intro l
        induction l with
        | nil=>intro q k h; cases q with | nil=>simp [TRels] | cons=>exact h.elim
        | cons z l ih=>intro q k h; cases q with
         | nil=>exact h.elim
         | cons y q=>cases k with
          | zero=>simp [TRels]
          | succ k=>simpa using ⟨h.1,h.2.1,ih q k h.2.2⟩
       exact ht _ _ _ (hd _ _ _ hrs)
      exact ⟨_,rfl,h1⟩
     ·cases hv
   ·cases hv
  ·rename_i hagf
   have hagf:ag=false:=by simpa using hagf
   split at hv
   ·rename_i z hz
    obtain rfl:=Option.some.inj hv
    have hc:=TRels.toV (X:=ctx w φ H) (TRel.cells hr)
    obtain ⟨q,hq,hrel,_⟩:=hc.at (i:=off) (x:=.c z) (by simp [hz])
    refine ⟨q,hrunO _ _ hagf (hm' off q (by simpa using hq)),hrel⟩
   ·cases hv
 | ptr q g m i off=>
  obtain ⟨ad,rfl,ob,hob,hq⟩:=hp
  have hob':H q=some ob:=hob
  simp only [loadV,hob'] at hv
  split at hv
  ·rename_i hc
   rcases hq with hq | ⟨q1,q2,b,hb,rfl⟩
   ·unfold Stale at hq; omega
   ·obtain ⟨b',hb',hrel⟩:=hs.obj _ _ hob'
    obtain rfl:b=b':=Option.some.inj (hb.symm.trans hb')
    split at hv
    ·rename_i x hx
     obtain ⟨hst,u,hu,hsz,hcs⟩:=hrel.el i x hx
     have hcell:∀ (j:Nat) (z:Value),u.cells[j]? = some z→w.cell? ((b.add (i * ob.sz)).add j)=some z:=by
      intro j z hj
      rw [add_add hrel.spot]
      exact (hcs j z hj).2
     have hsp2:=add_spot hrel.spot (i * ob.sz)
     obtain ⟨n1,n2⟩:=stor_ne hst
     have hcl:=VRel.cells hu n1 n2
     split at hv
     ·rename_i hagt
      split at hv
      ·rename_i hxa
       obtain ⟨vs,rfl,hrs⟩:=isAgg_rel hu hxa
       have hlen:=hrs.length
       simp only [Value.cells] at hsz hcell
       simp at hsz
       split at hv
       ·rename_i hz
        obtain rfl:=Option.some.inj hv
        obtain ⟨rfl,rfl⟩:=hz
        refine ⟨.agg vs.toArray,hrunA _ vs hagt hsz ?_,hu⟩
        intro j z hj
        exact hcell j z (by simpa using hj)
       ·split at hv
        ·rename_i hle
         obtain rfl:=Option.some.inj hv
         refine ⟨.agg ((vs.drop off).take n).toArray,hrunA _ ((vs.drop off).take n) hagt (by simp; omega) ?_,⟨_,rfl,(hrs.drop _).take _⟩⟩
         intro j z hj
         rw [List.getElem?_take] at hj
         split at hj
         ·rw [List.getElem?_drop] at hj
          have:=hcell (off + j) z (by simpa using hj)
          rw [add_add hrel.spot] at this ⊢
          rw [show i * ob.sz + off + j=i * ob.sz + (off + j) from by omega]
          exact this
         ·cases hj
        ·cases hv
      ·cases hv
     ·rename_i hagf
      have hagf:ag=false:=by simpa using hagf
      obtain ⟨z,hz,hrz,_⟩:=hcl.at hv
      refine ⟨z,hrunO _ _ hagf ?_,hrz⟩
      have:=hcell off z (by simpa using hz)
      rw [add_add hrel.spot] at this
      exact this
    ·cases hv
  ·cases hv
 | _=>simp [loadV] at hv
theorem does_load {t:TypeId} {x:Operand} {x':Opd} {ag:Bool} {n:Nat} {v:AV} (ho:o.op = .load t x) (hag:aggT P t=some ag) (hn:sizeT P t=some n) (hx:opdOf x=some x')
  (hs:SR nt w φ ⟨E,H,nx⟩ a) (hd:∀ d,o.dst=some d→d < nt) (hv:loadV H ag n (ev E x')=some v):Does P o nt a w φ H o.dst E v H nx:=by
 obtain ⟨u,hr,hu⟩:=load_rel hag hn hs.sim (opd_rel hs.env hx) hv
 refine does_pure (x:=u) ?_ hs hu hd
 simp only [execOp,ho,Sem.run_bind,hr,Result.andThen_ok,Sem.run_pure]
theorem does_new {v:AV} {x:Value} {id:Id} {ob:Obj} {cells:Array Value} {e:TypeId} {lo hi dr:Nat} (hr:(execOp a.eval o).run P w = .ok (.value x) (World.row { w with drawn:=dr } cells e lo hi))
  (hs:SR nt w φ ⟨E,H,nx⟩ a) (hd:∀ d,o.dst=some d→d < nt) (hn:∀ y,H id=some y→Newer ob y) (hre:id.real) (hfr:hi≤lo∨cells.size≤lo) (hpos:0 < ob.sz)
  (hel:∀ (i:Nat) (x:AV),ob.es[i]? = some x→stor x=true∧∃ v,VRel (ctx w φ H) x v∧v.cells.size=ob.sz∧∀ (j:Nat) (u:Value),v.cells[j]? = some u→oneCell u=true∧cells[i * ob.sz + j]? = some u)
  (hv:VRel (ctx (World.row w cells e lo hi) (φupd φ id ⟨w.heap.size,0,none⟩) (hupd H id ob)) v x) {nx':Nat} :
  Does P o nt a w φ H o.dst E v (hupd H id ob) nx':=by
 intro K Q hK
 unfold Oper.wp
 rw [hr,Oper.upon_value]
 obtain ⟨hext,hsim⟩:=sim_new (e:=e) hs.sim hn hre hfr hpos hel
 refine hK _ _ (φupd φ id ⟨w.heap.size,0,none⟩) ⟨?_,?_,by rw [put_size]; exact hs.size⟩ ?_ (put_defers' _ _ _)
 ·exact ⟨hsim.pl,fun p c hp=>(let ⟨b,h1,h2⟩:=hsim.obj p c hp; ⟨b,h1,h2.spot,h2.lt,h2.pos,h2.el,h2.fr⟩),hsim.sep,hsim.re,hsim.sx⟩
 ·refine EnvRel.put (X:=ctx (World.row w cells e lo hi) (φupd φ id ⟨w.heap.size,0,none⟩) (hupd H id ob)) (hs.env.mono (hext.leCtx hs.sim.pl)) (fun _=>hv) (fun d h=>by rw [hs.size]; exact hd d h)
 ·exact ⟨hext.os,hext.tape,hext.output,hext.size,hext.fr,hext.mu,hext.bs,hext.ob,hext.ex,hext.exh⟩
theorem genAt_newer {id:Id} {ob:Obj} (hg:ob.gen=genAt H id):∀ y,H id=some y→Newer ob y:=by
 intro y hy
 left
 rw [hg]
 simp [genAt,hy]
theorem row_eq (w:World) (cells:Array Value) (e:TypeId):({ w with heap:=w.heap.push (.cells cells e) }:World)=World.row { w with drawn:=w.drawn } cells e 0 0:=rfl
theorem does_box {t:TypeId} {x:Operand} {x':Opd} (ho:o.op = .box t x) (hx:opdOf x=some x') (hs:SR nt w φ ⟨E,H,nx⟩ a) (hd:∀ d,o.dst=some d→d < nt) (hst:stor (ev E x')=true) (hpos:0 < (ev E x').cells.length) {id:Id} (hre:id.real:=by trivial) :
  Does P o nt a w φ H o.dst E (.ptr id (genAt H id) 1 0 0) (hupd H id ⟨genAt H id,(ev E x').cells.length,true,[ev E x']⟩) nx:=by
 have h1:=opd_rel hs.env hx
 obtain ⟨f1,f2⟩:=fit_cells h1 hst
 refine does_new (x:=.pointer (some ⟨w.heap.size,0,none⟩)) (cells:=(a.eval x).cells) (e:=t) (lo:=0) (hi:=0) (dr:=w.drawn) ?_ hs hd (genAt_newer rfl) hre (.inl (Nat.le_refl _)) hpos ?_ ?_
 ·simp only [execOp,ho,Instr.box,newVar,newRow,Sem.run_bind,run_newObj,Result.andThen_ok,Sem.run_pure]
  rfl
 ·intro i y hy
  cases i with
  | succ i=>simp at hy
  | zero=>
   simp at hy
   subst hy
   exact ⟨hst,a.eval x,h1,f1,fun j u hj=>⟨f2 j u hj,by simpa using hj⟩⟩
 ·exact ⟨_,rfl,_,hupd_same _ _ _,.inr ⟨rfl,rfl,⟨w.heap.size,0,none⟩,by simp [ctx,φupd],by simp [Addr.add]⟩⟩
theorem zeroT_info {t:TypeId} {z:AV} (h:zeroT P t=some z):∃ i v,P.info? t=some i∧i.zero=some v∧valOf v=some z∧z.cells.length=i.size:=by
 unfold zeroT at h
 split at h
 ·rename_i i hi
  split at h
  ·rename_i v hv
   split at h
   ·rename_i z' hz
    split at h
    ·rename_i hl
     obtain rfl:=Option.some.inj h
     exact ⟨i,v,hi,hv,hz,hl⟩
    ·cases h
   ·cases h
  ·cases h
 ·cases h
theorem does_alloc {t:TypeId} {z:AV} (ho:o.op = .alloc t) (hz:zeroT P t=some z) (hs:SR nt w φ ⟨E,H,nx⟩ a) (hd:∀ d,o.dst=some d→d < nt) (hst:stor z=true) (hpos:0 < z.cells.length) {id:Id} (hre:id.real:=by trivial) :
  Does P o nt a w φ H o.dst E (.ptr id (genAt H id) 1 0 0) (hupd H id ⟨genAt H id,z.cells.length,true,[z]⟩) nx:=by
 obtain ⟨i,v,hi,hv,hvo,hlen⟩:=zeroT_info hz
 have h1:=valOf_rel (ctx w φ H) hvo
 obtain ⟨f1,f2⟩:=fit_cells h1 hst
 refine does_new (x:=.pointer (some ⟨w.heap.size,0,none⟩)) (cells:=v.cells) (e:=t) (lo:=0) (hi:=0) (dr:=w.drawn) ?_ hs hd (genAt_newer rfl) hre (.inl (Nat.le_refl _)) hpos ?_ ?_
 ·simp only [execOp,ho,Instr.alloc,zeroValue,typeInfo,Sem.run_bind,run_program,Result.andThen_ok,hi,hv,Sem.run_pure,newVar,newRow,run_newObj]
  rfl
 ·intro i y hy
  cases i with
  | succ i=>simp at hy
  | zero=>
   simp at hy
   subst hy
   exact ⟨hst,v,h1,f1,fun j u hj=>⟨f2 j u hj,by simpa using hj⟩⟩
 ·exact ⟨_,rfl,_,hupd_same _ _ _,.inr ⟨rfl,rfl,⟨w.heap.size,0,none⟩,by simp [ctx,φupd],by simp [Addr.add]⟩⟩
def laid (vs:List Value):List Value:=vs.flatMap fun v=>v.cells.toList
theorem laid_at {sz:Nat}:∀ {vs:List Value},(∀ v∈vs,v.cells.size=sz)→∀ {i:Nat} {v:Value},vs[i]? = some v→∀ (j:Nat) (u:Value),v.cells[j]? = some u→(laid vs)[i * sz + j]? = some u
 | [],_,i,v,h,_,_,_=>by simp at h
 | x :: r,hsz,0,v,h,j,u,hj=>by
  simp at h; subst h
  have hlt:j < x.cells.size:=by
   rcases Nat.lt_or_ge j x.cells.size with h | h
   ·exact h
   ·simp [Array.getElem?_eq_none h] at hj
  simp only [laid,List.flatMap_cons,Nat.zero_mul,Nat.zero_add]
  rw [List.getElem?_append_left (by simpa using hlt)]
  simpa using hj
 | x :: r,hsz,i + 1,v,h,j,u,hj=>by
  have:=laid_at (vs:=r) (fun v hv=>hsz v (by simp [hv])) (i:=i) (v:=v) (by simpa using h) j u hj
  simp only [laid,List.flatMap_cons] at this ⊢
  have hx:=hsz x (by simp)
  rw [List.getElem?_append_right (by simp [hx,Nat.add_mul]; omega)]
  rw [show (i + 1) * sz + j - x.cells.toList.length=i * sz + j from by simp [hx,Nat.add_mul]; omega]
  exact this
theorem laid_length {sz:Nat}:∀ {vs:List Value},(∀ v∈vs,v.cells.size=sz)→(laid vs).length=vs.length * sz
 | [],_=>by simp [laid]
 | x :: r,h=>by
  have:=laid_length (vs:=r) (fun v hv=>h v (by simp [hv]))
  simp only [laid,List.flatMap_cons,List.length_append,List.length_cons] at this ⊢
  rw [this]
  have hx:=h x (by simp)
  simp [hx,Nat.add_mul]; omega
theorem VTup.at {X:Ctx}:∀ {l:List AV} {vs:List Value},VTup X l vs→∀ {i:Nat} {x:AV},l[i]? = some x→∃ v,vs[i]? = some v∧VRel X x v
 | [],[],_,_,_,h=>by simp at h
 | _ :: _,v :: _,hr,0,_,h=>by simp at h; subst h; exact ⟨v,rfl,hr.1⟩
 | _ :: _,_ :: _,hr,i + 1,_,h=>by simpa using VTup.at hr.2 (i:=i) (by simpa using h)
 | [],_ :: _,hr,_,_,_=>hr.elim
 | _ :: _,[],hr,_,_,_=>hr.elim
theorem fits_mem {sz:Nat} {l:List AV} (h:fits sz l=true) {x:AV} (hx:x∈l):stor x=true∧x.cells.length=sz:=by
 unfold fits at h
 rw [List.all_eq_true] at h
 have:=h x hx
 simp at this
 exact this
theorem fits_vals {X:Ctx} {sz:Nat}:∀ {l:List AV} {vs:List Value},VTup X l vs→fits sz l=true→∀ v∈vs,v.cells.size=sz
 | [],[],_,_=>by simp
 | x :: r,v :: q,hr,hf=>by
  intro u hu
  rcases List.mem_cons.1 hu with rfl | hu
  ·obtain ⟨h1,h2⟩:=fits_mem hf (x:=x) (by simp)
   rw [(fit_cells hr.1 h1).1,h2]
  ·refine fits_vals hr.2 ?_ u hu
   unfold fits at hf ⊢
   simp only [List.all_cons,Bool.and_eq_true] at hf
   exact hf.2
 | [],_ :: _,hr,_=>hr.elim
 | _ :: _,[],hr,_=>hr.elim
theorem elem_laid {X:Ctx} {sz:Nat} {l:List AV} {vs:List Value} (hr:VTup X l vs) (hf:fits sz l=true) {i:Nat} {x:AV} (hx:l[i]? = some x) :
  stor x=true∧∃ v,VRel X x v∧v.cells.size=sz∧∀ (j:Nat) (u:Value),v.cells[j]? = some u→oneCell u=true∧(laid vs)[i * sz + j]? = some u:=by
 obtain ⟨v,hv,hrel⟩:=hr.at hx
 obtain ⟨h1,h2⟩:=fits_mem hf (List.mem_of_getElem? hx)
 obtain ⟨f1,f2⟩:=fit_cells hrel h1
 exact ⟨h1,v,hrel,by omega,fun j u hj=>⟨f2 j u hj,laid_at (fits_vals hr hf) hv j u hj⟩⟩
end
end Go.Am
/- One operation of Go's code against one of the small machine: storing; slices that are made; bytes. -/
namespace Go.Am
variable {P:Program}
theorem agg_cells (l:List Value):(Value.agg l.toArray).cells=l.toArray:=rfl
theorem getElem?_put {α:Type} (l new:List α) (off:Nat) (h:off + new.length≤l.length) (j:Nat) :
  (l.take off++new++l.drop (off + new.length))[j]? = if off≤j∧j < off + new.length then new[j - off]? else l[j]?:=by
 have h1:(l.take off).length=off:=by simp; omega
 by_cases ha:j < off
 ·rw [if_neg (by omega),List.append_assoc,List.getElem?_append_left (by omega),List.getElem?_take,if_pos ha]
 ·by_cases hb:j < off + new.length
  ·rw [if_pos ⟨by omega,hb⟩,List.append_assoc,List.getElem?_append_right (by omega),h1,List.getElem?_append_left (by omega)]
  ·rw [if_neg (by omega),List.getElem?_append_right (by simp; omega)]
   simp only [List.length_append,h1,List.getElem?_drop]
   congr 1; omega
section
variable {o:Oper} {ops:Array Oper} {nt:Nat} {a:Act} {w:World} {φ:Id→Option Addr} {H:Heap} {nx:Nat} {E:AEnv} {T:Tab} {R:Run} {d:Nat}
theorem sim_put {w':World} {id:Id} {ob:Obj} {b:Addr} {i off n:Nat} {old new:AV} {vs:List Value} {nv:Value} (hs:Sim w φ H) (ho:H id=some ob) (hw:ob.w=true) (hb:φ id=some b)
  (hi:ob.es[i]? = some old) (hn:vs.length=n) (hoff:off + n≤ob.sz) (st:Stored w w' (b.add (i * ob.sz + off)) vs)
  (hst:stor new=true) (hnew:VRel (ctx w φ H) new nv) (hnc:nv.cells.size=ob.sz) (hone:∀ (j:Nat) (u:Value),nv.cells[j]? = some u→oneCell u=true)
  (hcell:∀ (ov:Value),VRel (ctx w φ H) old ov→ov.cells.size=ob.sz→∀ (j:Nat),j < ob.sz→(∀ (q:Nat) (u:Value),ov.cells[q]? = some u→w.cell? (b.add (i * ob.sz + q))=some u)→nv.cells[j]? = if off≤j∧j < off + n then vs[j - off]? else w.cell? (b.add (i * ob.sz + j))) :
  Ext w φ H w' φ (hupd H id { ob with es:=ob.es.set i new })∧Sim w' φ (hupd H id { ob with es:=ob.es.set i new }):=by
 obtain ⟨b',hb',hr⟩:=hs.obj id ob ho
 obtain rfl:b=b':=Option.some.inj (hb.symm.trans hb')
 have hilt:i < ob.es.length:=(List.getElem?_eq_some_iff.1 hi).1
 refine sim_write hs ho hw hb st (by rw [add_block]) (by simp) ?_
 intro k x hk
 have hwc:∀ q,w'.cell? (b.add q)=if b.off + (i * ob.sz + off)≤b.off + q∧b.off + q < b.off + (i * ob.sz + off) + vs.length then vs[b.off + q - (b.off + (i * ob.sz + off))]? else w.cell? (b.add q):=by
  intro q
  have:=st.cell (b.off + q)
  rw [add_eq hr.spot] at this
  rw [add_eq hr.spot]
  exact this
 by_cases hki:k=i
 ·subst hki
  rw [List.getElem?_set_self hilt] at hk
  obtain rfl:=Option.some.inj hk
  refine ⟨hst,nv,hnew,hnc,fun j u hj=>⟨hone j u hj,?_⟩⟩
  obtain ⟨_,ov,h1,h2,h3⟩:=hr.el k old hi
  have hjlt:j < ob.sz:=by
   rw [← hnc]
   rcases Nat.lt_or_ge j nv.cells.size with h | h
   ·exact h
   ·simp [Array.getElem?_eq_none h] at hj
  have:=hcell ov h1 h2 j hjlt (fun q z hz=>(h3 q z hz).2)
  rw [hj] at this
  rw [hwc]
  by_cases hc:off≤j∧j < off + n
  ·rw [if_pos hc] at this
   rw [if_pos (by omega)]
   rw [this]; congr 1; omega
  ·rw [if_neg hc] at this
   rw [if_neg (by omega)]
   exact this.symm
 ·rw [List.getElem?_set_ne (Ne.symm hki)] at hk
  obtain ⟨h0,v,h1,h2,h3⟩:=hr.el k x hk
  refine ⟨h0,v,h1,h2,fun j u hj=>⟨(h3 j u hj).1,?_⟩⟩
  have hjlt:j < ob.sz:=by
   rw [← h2]
   rcases Nat.lt_or_ge j v.cells.size with h | h
   ·exact h
   ·simp [Array.getElem?_eq_none h] at hj
  rw [hwc,if_neg ?_]
  ·exact (h3 j u hj).2
  ·intro hc
   rcases Nat.lt_or_gt_of_ne hki with hlt | hgt
   ·have:(k + 1) * ob.sz≤i * ob.sz:=Nat.mul_le_mul_right _ hlt
    rw [Nat.add_mul] at this; omega
   ·have:(i + 1) * ob.sz≤k * ob.sz:=Nat.mul_le_mul_right _ hgt
    rw [Nat.add_mul] at this; omega
theorem does_store {t:TypeId} {p x:Operand} {p' x':Opd} {n:Nat} {H':Heap} (ho:o.op = .store t p x) (hn:sizeT P t=some n) (hp:opdOf p=some p') (hx:opdOf x=some x')
  (hs:SR nt w φ ⟨E,H,nx⟩ a) (hd:∀ d,o.dst=some d→d < nt) (hv:storeV H n (ev E x') (ev E p')=some H'):Does P o nt a w φ H o.dst E .undef H' nx:=by
 have h1:VRel (ctx w φ H) (ev E p') (a.eval p):=opd_rel hs.env hp
 have h2:VRel (ctx w φ H) (ev E x') (a.eval x):=opd_rel hs.env hx
 generalize hep:ev E p'=y at h1 hv
 unfold storeV at hv
 split at hv
 ·rename_i q g m i off
  obtain ⟨ad,e1,ob,hob,hq⟩:=h1
  have hob':H q=some ob:=hob
  rw [hob'] at hv
  simp only at hv
  split at hv
  ·rename_i hc
   obtain ⟨g1,g2,g3,g4,g5⟩:=hc
   rcases hq with hq | ⟨q1,q2,b,hb,rfl⟩
   ·unfold Stale at hq; omega
   ·obtain ⟨b',hb',hrel⟩:=hs.sim.obj _ _ hob'
    obtain rfl:b=b':=Option.some.inj (hb.symm.trans hb')
    obtain ⟨f1,f2⟩:=fit_cells h2 g5
    obtain ⟨n1,n2⟩:=stor_ne g5
    have hcl:=VRel.cells h2 n1 n2
    split at hv
    ·rename_i old hold
     obtain ⟨hst0,ov,hov,hosz,hoc⟩:=hrel.el i old hold
     obtain ⟨of1,of2⟩:=fit_cells hov hst0
     have holdl:old.cells.length=ob.sz:=by omega
     have hilt:i < ob.es.length:=(List.getElem?_eq_some_iff.1 hold).1
     obtain ⟨fc,fe,flo,fhi,hf1,hf2⟩:=hrel.fr g3
     have hbound:off + n≤ob.sz→b.off + (i * ob.sz + off) + n≤fc.size:=by
      intro hle
      have hpos:=hrel.pos
      have hlast:∃ u,ov.cells[ob.sz - 1]? = some u:=by
       have:ob.sz - 1 < ov.cells.size:=by omega
       exact ⟨_,Array.getElem?_eq_getElem this⟩
      obtain ⟨u,hu⟩:=hlast
      have hcell:=(hoc _ u hu).2
      rw [add_eq hrel.spot] at hcell
      simp only [World.cell?,hf1] at hcell
      simp only [Option.isSome_none,Bool.false_eq_true,if_false] at hcell
      have:=(Array.getElem?_eq_some_iff.1 hcell).1
      omega
     have hrun:off + n≤ob.sz→∃ w',(execOp a.eval o).run P w = .ok .skip w'∧Stored w w' (b.add (i * ob.sz + off)) (a.eval x).cells.toList:=by
      intro hle
      have hsz:(a.eval x).cells.size=n:=by omega
      obtain ⟨w',hr,hst⟩:=run_storeCells (P:=P) (a:=b.add (i * ob.sz + off)) (add_spot hrel.spot _) (a.eval x).cells.toList 0 w
       (by
        intro v hv'
        obtain ⟨j,hj⟩:=List.getElem?_of_mem hv'
        exact f2 j v (by simpa using hj))
       ⟨fc,fe,(flo,fhi),by rw [add_block]; exact hf1,by rw [add_eq hrel.spot]; simp; have:=hbound hle; omega,hf2⟩
      refine ⟨w',?_,by simpa [Addr.add] using hst⟩
      simp only [execOp,ho,e1,Instr.storeAt,Instr.sureAddr,Sem.run_bind,Sem.run_pure,Result.andThen_ok,storeVar,run_sizeOf hn,hsz,ne_eq,not_true_eq_false,if_false,hr]
     have fin:∀ (new:AV) (nv:Value),off + n≤ob.sz→stor new=true→VRel (ctx w φ H) new nv→nv.cells.size=ob.sz→(∀ (j:Nat) (u:Value),nv.cells[j]? = some u→oneCell u=true) →
       (∀ (ov':Value),VRel (ctx w φ H) old ov'→ov'.cells.size=ob.sz→∀ (j:Nat),j < ob.sz→(∀ (q:Nat) (u:Value),ov'.cells[q]? = some u→w.cell? (b.add (i * ob.sz + q))=some u)→nv.cells[j]? = if off≤j∧j < off + n then (a.eval x).cells.toList[j - off]? else w.cell? (b.add (i * ob.sz + j))) →
       Does P o nt a w φ H o.dst E .undef (hupd H q { ob with es:=ob.es.set i new }) nx:=by
      intro new nv hle hs1 hs2 hs3 hs4 hs5
      obtain ⟨w',hr,hst⟩:=hrun hle
      obtain ⟨hext,hsim⟩:=sim_put hs.sim hob' g3 hb hold (by simp; omega) hle hst hs1 hs2 hs3 hs4 hs5
      intro K Q hK
      unfold Oper.wp
      rw [hr,Oper.upon_skip]
      refine hK _ _ φ ⟨hsim,?_,by rw [put_size]; exact hs.size⟩ hext (put_defers' _ _ _)
      exact EnvRel.put (hs.env.mono (hext.leCtx hs.sim.pl)) (fun _=>trivial) (fun d h=>by rw [hs.size]; exact hd d h)
     split at hv
     ·rename_i new hnew
      obtain rfl:=Option.some.inj hv
      split at hnew
      ·rename_i hc
       obtain ⟨rfl,rfl,_⟩:=hc
       obtain rfl:=Option.some.inj hnew
       refine fin _ (a.eval x) (by omega) g5 h2 (by omega) f2 ?_
       intro ov' _ _ j hj _
       rw [if_pos (by omega)]
       simp
      ·split at hnew
       ·rename_i cs hcs
        unfold putCells at hcs
        split at hcs
        ·rename_i hle
         obtain rfl:=Option.some.inj hcs
         have hle':off + n≤ob.sz:=by omega
         obtain ⟨on1,on2⟩:=stor_ne hst0
         have hocl:=VRel.cells hov on1 on2
         have hcs2:VRels (ctx w φ H) (old.cells.take off++(ev E x').cells++old.cells.drop (off + (ev E x').cells.length)) (ov.cells.toList.take off++(a.eval x).cells.toList++ov.cells.toList.drop (off + (ev E x').cells.length)):=
          ((hocl.take off).append hcl).append (hocl.drop _)
         have hlenx:(ev E x').cells.length=(a.eval x).cells.toList.length:=by simp; omega
         have hput:∀ j,(ov.cells.toList.take off++(a.eval x).cells.toList++ov.cells.toList.drop (off + (ev E x').cells.length))[j]? = if off≤j∧j < off + n then (a.eval x).cells.toList[j - off]? else ov.cells.toList[j]?:=by
          intro j
          rw [hlenx,getElem?_put _ _ _ (by simp; omega)]
          have:(a.eval x).cells.toList.length=n:=by simp; omega
          rw [this]
         have hlen2:(ov.cells.toList.take off++(a.eval x).cells.toList++ov.cells.toList.drop (off + (ev E x').cells.length)).length=ob.sz:=by
          simp; omega
         have hmem:∀ j,j < ob.sz→ov.cells.toList[j]? = w.cell? (b.add (i * ob.sz + j)):=by
          intro j hj
          have:∃ u,ov.cells[j]? = some u:=⟨_,Array.getElem?_eq_getElem (by omega)⟩
          obtain ⟨u,hu⟩:=this
          rw [(hoc j u hu).2]; simpa using hu
         unfold reEl at hnew
         split at hnew
         ·obtain rfl:=Option.some.inj hnew
          refine fin _ (.agg (ov.cells.toList.take off++(a.eval x).cells.toList++ov.cells.toList.drop (off + (ev E x').cells.length)).toArray) hle' rfl ⟨_,rfl,hcs2⟩ (by rw [agg_cells,List.size_toArray]; exact hlen2) ?_ ?_
          ·intro j u hj
           rw [agg_cells,List.getElem?_toArray] at hj; exact hcs2.one (j:=j) hj
          ·intro ov' _ _ j hj _
           rw [agg_cells,List.getElem?_toArray,hput j]
           split
           ·rfl
           ·exact hmem j hj
         ·split at hnew
          ·rename_i y hy
           split at hnew
           case isFalse=>cases hnew
           rename_i hyst
           obtain rfl:=Option.some.inj hnew
           have hl1:(old.cells.take off++(ev E x').cells++old.cells.drop (off + (ev E x').cells.length)).length=1:=by rw [hy]; rfl
           have hsz1:ob.sz=1:=by
            have:=hcs2.length
            rw [hlen2,hl1] at this
            exact this.symm
           rw [hy] at hcs2
           generalize hq0:(ov.cells.toList.take off++(a.eval x).cells.toList++ov.cells.toList.drop (off + (ev E x').cells.length))=q0 at hcs2 hput hlen2
           cases q0 with
           | nil=>exact hcs2.elim
           | cons z r=>
            have hr0:r=[]:=by cases r with | nil=>rfl | cons=>exact hcs2.2.2.elim
            subst hr0
            refine fin y z hle' hyst hcs2.1 (by rw [cells_one hcs2.2.1,hsz1]; rfl) ?_ ?_
            ·intro j u hj
             rw [cells_one hcs2.2.1] at hj
             cases j with
             | zero=>simp at hj; subst hj; exact hcs2.2.1
             | succ j=>simp at hj
            ·intro ov' _ _ j hj _
             have hj0:j=0:=by omega
             subst hj0
             rw [cells_one hcs2.2.1]
             have:=hput 0
             simp only [List.getElem?_cons_zero] at this
             simp only [List.getElem?_toArray,List.getElem?_cons_zero]
             rw [this]
             split
             ·rfl
             ·exact hmem 0 (by omega)
          ·cases hnew
        ·cases hcs
       ·cases hnew
     ·cases hv
    ·cases hv
  ·cases hv
 ·cases hv
end
end Go.Am
/- One operation of Go's code against one of the small machine: what a slice holds; append. -/
namespace Go.Am
variable {P:Program}
def Row (w:World) (addr:Addr) (sz:Nat) (vs:List Value):Prop:=
 ∀ (i:Nat) (v:Value),vs[i]? = some v→v.cells.size=sz∧∀ (j:Nat) (u:Value),v.cells[j]? = some u→oneCell u=true∧w.cell? (addr.add (i * sz + j))=some u
theorem laid_get {sz:Nat}:∀ {vs:List Value},(∀ v∈vs,v.cells.size=sz)→∀ {k:Nat} {u:Value},(laid vs)[k]? = some u→∃ i j v,k=i * sz + j∧vs[i]? = some v∧v.cells[j]? = some u
 | [],_,k,u,h=>by simp [laid] at h
 | x :: r,hsz,k,u,h=>by
  simp only [laid,List.flatMap_cons] at h
  have hx:=hsz x (by simp)
  by_cases hk:k < x.cells.toList.length
  ·rw [List.getElem?_append_left hk] at h
   exact ⟨0,k,x,by simp,rfl,by simpa using h⟩
  ·rw [List.getElem?_append_right (by omega)] at h
   obtain ⟨i,j,v,h1,h2,h3⟩:=laid_get (vs:=r) (fun v hv=>hsz v (by simp [hv])) (k:=k - x.cells.toList.length) (u:=u) h
   refine ⟨i + 1,j,v,?_,by simpa using h2,h3⟩
   simp only [Array.length_toList] at h1 hk
   rw [Nat.add_mul]; omega
theorem Row.load {w:World} {addr:Addr} {sz:Nat} {vs:List Value} (h:Row w addr sz vs):(loadCells addr (vs.length * sz)).run P w = .ok (laid vs).toArray w:=by
 have hsz:∀ v∈vs,v.cells.size=sz:=by
  intro v hv
  obtain ⟨i,hi⟩:=List.getElem?_of_mem hv
  exact (h i v hi).1
 refine run_loadCells' (laid_length hsz) ?_
 intro k u hk
 obtain ⟨i,j,v,rfl,h2,h3⟩:=laid_get hsz hk
 exact ((h i v h2).2 j u h3).2
theorem Row.take {w:World} {addr:Addr} {sz:Nat} {vs:List Value} (h:Row w addr sz vs) (m:Nat):Row w addr sz (vs.take m):=by
 intro i v hi
 rw [List.getElem?_take] at hi
 split at hi
 ·exact h i v hi
 ·cases hi
theorem Row.drop {w:World} {addr:Addr} {sz:Nat} {vs:List Value} (hs:addr.spot=none) (h:Row w addr sz vs) (m:Nat):Row w (addr.add (m * sz)) sz (vs.drop m):=by
 intro i v hi
 rw [List.getElem?_drop] at hi
 obtain ⟨h1,h2⟩:=h _ v hi
 refine ⟨h1,fun j u hj=>⟨(h2 j u hj).1,?_⟩⟩
 rw [add_add hs,← Nat.add_assoc,← Nat.add_mul]
 exact (h2 j u hj).2
theorem obj_row {X:Ctx} {w:World} {ob:Obj} {b:Addr} (h:ObjRel X w ob b):∃ vs,VTup X ob.es vs∧Row w b ob.sz vs∧∀ x∈ob.es,stor x=true:=by
 have key:∀ (es:List AV) (i0:Nat),(∀ (i:Nat) (x:AV),es[i]? = some x→stor x=true∧∃ v,VRel X x v∧v.cells.size=ob.sz∧(∀ (j:Nat) (u:Value),v.cells[j]? = some u→oneCell u=true∧w.cell? (b.add ((i0 + i) * ob.sz + j))=some u)) →
   ∃ vs,VTup X es vs∧(∀ (i:Nat) (v:Value),vs[i]? = some v→v.cells.size=ob.sz∧∀ (j:Nat) (u:Value),v.cells[j]? = some u→oneCell u=true∧w.cell? (b.add ((i0 + i) * ob.sz + j))=some u)∧∀ x∈es,stor x=true:=by
  intro es
  induction es with
  | nil=>intro i0 _; exact ⟨[],trivial,fun i v h=>by simp at h,by simp⟩
  | cons x r ih=>
   intro i0 hh
   obtain ⟨h0,v,h1,h2,h3⟩:=hh 0 x rfl
   obtain ⟨vs,g1,g2,g3⟩:=ih (i0 + 1) (fun i y hy=>by
    have:=hh (i + 1) y (by simpa using hy)
    rw [show i0 + 1 + i=i0 + (i + 1) from by omega]; exact this)
   refine ⟨v :: vs,⟨h1,g1⟩,?_,?_⟩
   ·intro i u hu
    cases i with
    | zero=>simp at hu; subst hu; exact ⟨h2,h3⟩
    | succ i=>
     have:=g2 i u (by simpa using hu)
     rw [show i0 + (i + 1)=i0 + 1 + i from by omega]; exact this
   ·intro y hy
    rcases List.mem_cons.1 hy with rfl | hy
    ·exact h0
    ·exact g3 y hy
 obtain ⟨vs,h1,h2,h3⟩:=key ob.es 0 (fun i x hx=>by
  have:=h.el i x hx
  simpa using this)
 exact ⟨vs,h1,fun i v hv=>by simpa using h2 i v hv,h3⟩
theorem VTup.drop {X:Ctx}:∀ {l:List AV} {vs:List Value} (n:Nat),VTup X l vs→VTup X (l.drop n) (vs.drop n)
 | [],[],_,_=>by simp [VTup]
 | _ :: _,_ :: _,0,h=>h
 | _ :: _,_ :: _,n + 1,h=>by simpa using VTup.drop n h.2
 | [],_ :: _,_,h=>h.elim
 | _ :: _,[],_,h=>h.elim
theorem VTup.take {X:Ctx}:∀ {l:List AV} {vs:List Value} (n:Nat),VTup X l vs→VTup X (l.take n) (vs.take n)
 | [],[],_,_=>by simp [VTup]
 | _ :: _,_ :: _,0,_=>by simp [VTup]
 | _ :: _,_ :: _,n + 1,h=>by simpa using ⟨h.1,VTup.take n h.2⟩
 | [],_ :: _,_,h=>h.elim
 | _ :: _,[],_,h=>h.elim
theorem VTup.append {X:Ctx}:∀ {l:List AV} {vs:List Value} {l':List AV} {vs':List Value},VTup X l vs→VTup X l' vs'→VTup X (l++l') (vs++vs')
 | [],[],_,_,_,h=>h
 | _ :: _,_ :: _,_,_,h,k=>⟨h.1,VTup.append h.2 k⟩
 | [],_ :: _,_,_,h,_=>h.elim
 | _ :: _,[],_,_,h,_=>h.elim
theorem drew_cell (w:World) (dr:Nat) (a:Addr):({ w with drawn:=dr }:World).cell? a=w.cell? a:=rfl
structure Src (P:Program) (X:Ctx) (w:World) (sz:Nat) (new:List AV) (u:Value):Prop where
 len:(Builtin.lenOf u)=pure new.length
 vals:∃ vs,VTup X new vs∧(∀ v∈vs,v.cells.size=sz)∧∀ m dr,m≤new.length→(Builtin.firstCells sz m u).run P { w with drawn:=dr } = .ok (laid (vs.take m)).toArray { w with drawn:=dr }
theorem src_row {X:Ctx} {w:World} {sz:Nat} {new:List AV} {vs:List Value} {b:Addr} {cap:Nat} (h:VTup X new vs) (hr:Row w b sz vs):Src P X w sz new (.slice (some b) new.length cap):=by
 refine ⟨rfl,vs,h,?_,?_⟩
 ·intro v hv
  obtain ⟨i,hi⟩:=List.getElem?_of_mem hv
  exact (hr i v hi).1
 ·intro m dr hm
  have hl:=h.length
  have hr2:Row { w with drawn:=dr } b sz (vs.take m):=fun i v hi=>hr.take m i v hi
  have:=hr2.load (P:=P)
  rw [List.length_take,Nat.min_eq_left (by omega)] at this
  simp only [Builtin.firstCells]
  exact this
theorem src_empty {X:Ctx} {w:World} {sz:Nat} {a:Option Addr} {cap:Nat}:Src P X w sz [] (.slice a 0 cap):=by
 refine ⟨rfl,[],trivial,by simp,?_⟩
 intro m dr hm
 have:m=0:=by simpa using hm
 subst this
 cases a with
 | none=>rfl
 | some a=>simp [Builtin.firstCells,loadCells,loadCellsFrom,laid]
theorem bytes_vtup (X:Ctx) (s:ByteArray):VTup X (bytesVs s) (s.data.toList.map fun b=>Value.int .u8 b.toNat):=by
 unfold bytesVs
 induction s.data.toList with
 | nil=>trivial
 | cons b r ih=>exact ⟨⟨rfl,rfl⟩,ih⟩
theorem laid_flat:∀ (vs:List Value),(∀ v∈vs,oneCell v=true)→laid vs=vs
 | [],_=>rfl
 | x :: r,h=>by
  have:=laid_flat r (fun v hv=>h v (by simp [hv]))
  simp only [laid,List.flatMap_cons] at this ⊢
  rw [this,cells_one (h x (by simp))]
  rfl
theorem src_string {X:Ctx} {w:World} (s:ByteArray):Src P X w 1 (bytesVs s) (.string s):=by
 have hlen:(bytesVs s).length=s.size:=by simp [bytesVs]
 refine ⟨by simp [Builtin.lenOf,hlen],_,bytes_vtup X s,?_,?_⟩
 ·intro v hv
  obtain ⟨b,_,rfl⟩:=List.mem_map.1 hv
  rfl
 ·intro m dr hm
  rw [laid_flat _ (by
   intro v hv
   obtain ⟨b,_,rfl⟩:=List.mem_map.1 (List.mem_of_mem_take hv)
   rfl)]
  simp only [Builtin.firstCells,Sem.run_pure]
  congr 1
  apply Array.ext'
  simp [ByteArray.data_extract]
theorem tels_row {w:World} {φ:Id→Option Addr} {H:Heap} {sz:Nat} {addr:Addr}:∀ (xs:List TV) (i0:Nat),TElems (imm w φ H) sz addr i0 xs→(∀ x∈xs,(AV.c x).cells.length=sz) →
  ∃ vs,VTup (ctx w φ H) (xs.map .c) vs∧∀ (i:Nat) (v:Value),vs[i]? = some v→v.cells.size=sz∧∀ (j:Nat) (u:Value),v.cells[j]? = some u→oneCell u=true∧w.cell? (addr.add ((i0 + i) * sz + j))=some u
 | [],_,_,_=>⟨[],trivial,fun i v h=>by simp at h⟩
 | x :: r,i0,h,hl=>by
  obtain ⟨⟨v,h1,h2,h3⟩,h4⟩:=h
  obtain ⟨vs,g1,g2⟩:=tels_row r (i0 + 1) h4 (fun y hy=>hl y (by simp [hy]))
  refine ⟨v :: vs,⟨h1,g1⟩,?_⟩
  intro i u hu
  cases i with
  | zero=>
   simp at hu; subst hu
   refine ⟨h2,fun j z hz=>⟨?_,(imm_some.1 (h3 j z hz)).2⟩⟩
   exact (fit_cells (X:=ctx w φ H) (x:=.c x) h1 rfl).2 j z hz
  | succ i=>
   have:=g2 i u (by simpa using hu)
   rw [show i0 + (i + 1)=i0 + 1 + i from by omega]; exact this
theorem elems_src {w:World} {φ:Id→Option Addr} {H:Heap} {y:AV} {u:Value} {new:List AV} {sz:Nat} (hs:Sim w φ H) (hr:VRel (ctx w φ H) y u) (he:elems H y=some new) (hf:fits sz new=true):Src P (ctx w φ H) w sz new u:=by
 cases y with
 | nils=>
  simp only [elems] at he
  obtain rfl:=Option.some.inj he
  cases hr
  exact src_empty
 | c t=>
  cases t with
  | sl sz' xs=>
   simp only [elems] at he
   obtain rfl:=Option.some.inj he
   obtain ⟨a,len,cap,rfl,rfl,hc,hq⟩:=hr
   by_cases hx:xs=[]
   ·subst hx; exact src_empty
   ·rcases hq with hq | ⟨addr,rfl,hsp,hel⟩
    ·exact absurd (List.length_eq_zero_iff.1 hq) hx
    ·have hszs:∀ x∈xs,(AV.c x).cells.length=sz:=fun x hx=>(fits_mem hf (x:=.c x) (by simp [hx])).2
     have hsz:sz'=sz:=by
      cases xs with
      | nil=>exact absurd rfl hx
      | cons x r=>
       obtain ⟨⟨v,h1,h2,_⟩,_⟩:=hel
       have:=(fit_cells (X:=ctx w φ H) (x:=.c x) h1 rfl).1
       rw [h2,hszs x (by simp)] at this
       exact this
     subst hsz
     obtain ⟨vs,g1,g2⟩:=tels_row xs 0 hel hszs
     have:=src_row (P:=P) (X:=ctx w φ H) (w:=w) (sz:=sz') (cap:=cap) (b:=addr) g1 (fun i v hv=>by simpa using g2 i v hv)
     simpa using this
  | _=>simp [elems] at he
 | ref o g n off len=>
  simp only [elems,elemsOf] at he
  obtain ⟨a,cap,rfl,hc,ob,hob,hq⟩:=hr
  have hob':H o=some ob:=hob
  rw [hob'] at he
  simp only at he
  split at he
  ·rename_i hcond
   obtain rfl:=Option.some.inj he
   rcases hq with hq | ⟨q1,q2,q3,q4⟩
   ·unfold Stale at hq; omega
   ·obtain ⟨b,hb,hrel⟩:=hs.obj o ob hob'
    have hl:((ob.es.drop off).take len).length=len:=by simp; omega
    by_cases hz:len=0
    ·subst hz
     have hnil:(ob.es.drop off).take 0=[]:=by simp
     rw [hnil]
     exact src_empty
    ·rcases q4 with ⟨c0,_⟩ | ⟨b',hb',rfl,hn,hroom⟩
     ·omega
     ·obtain rfl:b=b':=Option.some.inj (hb.symm.trans hb')
      obtain ⟨vs,g1,g2,g3⟩:=obj_row hrel
      have hsz:ob.sz=sz:=by
       have:∃ x,((ob.es.drop off).take len)[0]? = some x:=⟨_,List.getElem?_eq_getElem (by omega)⟩
       obtain ⟨x,hx⟩:=this
       have hm:=fits_mem hf (List.mem_of_getElem? hx)
       have hx2:ob.es[off]? = some x:=by
        rw [List.getElem?_take] at hx
        split at hx
        ·rw [List.getElem?_drop] at hx; simpa using hx
        ·cases hx
       obtain ⟨_,v,h1,h2,_⟩:=hrel.el off x hx2
       have:=(fit_cells h1 hm.1).1
       omega
      have hrow:=(g2.drop hrel.spot off).take len
      rw [hsz] at hrow ⊢
      have:=src_row (P:=P) (cap:=cap) ((g1.drop off).take len) hrow
      rw [hl] at this
      exact this
  ·cases he
 | _=>simp [elems] at he
end Go.Am
/- One operation of Go's code against one of the small machine: append,copy,clear. -/
namespace Go.Am
variable {P:Program}
theorem zeroCells_size (z:Array Value) (n:Nat):(Builtin.zeroCells z n).size=n * z.size:=by simp [Builtin.zeroCells]
structure AppT (P:Program) (t u e:TypeId) (sz:Nat) (i:TypeInfo) (z:Value):Prop where
  ht:P.underlying t=some (.slice e)
  hu:∃ d,P.underlying u=some d∧∀ k,d ≠ .int k
  hi:P.info? e=some i
  hz:i.zero=some z
  hsz:i.size=sz
  hzs:z.cells.size=sz
  hby:i.bytes≤32 * sz
  pos:0 < sz
set_option maxHeartbeats 4000000 in
theorem run_append_room' {t u ty e:TypeId} {sz:Nat} {i:TypeInfo} {z:Value} (h:AppT P t u e sz i z) {X:Ctx} {w:World} {b:Option Addr} {sLen sCap:Nat} {x:Value} {new:List AV} (hs:Src P X w sz new x) (hroom:sLen + new.length≤sCap) :
    ∃ vs,VTup X new vs∧(∀ v∈vs,v.cells.size=sz)∧(Builtin.append_ #[t,u] ty #[.slice b sLen sCap,x]).run P w =
      ((match b with | some a=>storeCells (a.add (sLen * sz)) (laid vs) | none=>pure ()).run P w).andThen fun _ w2=>.ok (.slice b (sLen + new.length) sCap) w2:=by
  obtain ⟨d,hd,hdi⟩:=h.hu
  obtain ⟨vs,g1,g2,g3⟩:=hs.vals
  have hf:=g3 new.length w.drawn (Nat.le_refl _)
  rw [List.take_of_length_le (by rw [g1.length]; exact Nat.le_refl _)] at hf
  have hf':(Builtin.firstCells sz new.length x).run P w = .ok (laid vs).toArray w:=hf
  refine ⟨vs,g1,g2,?_⟩
  simp only [Builtin.append_]
  cases b with
  | none=>
    cases d <;> first
      | exact absurd rfl (hdi _)
      | simp [run_underlying h.ht,run_underlying hd,sizeOf,typeInfo,h.hi,h.hsz,hs.len,hroom,hf']
  | some a=>
    cases d <;> first
      | exact absurd rfl (hdi _)
      | simp [run_underlying h.ht,run_underlying hd,sizeOf,typeInfo,h.hi,h.hsz,hs.len,hroom,hf']
set_option maxHeartbeats 4000000 in
theorem run_append_grow' {t u ty e:TypeId} {sz:Nat} {i:TypeInfo} {z:Value} (h:AppT P t u e sz i z) {X:Ctx} {w:World} {b:Option Addr} {sLen sCap:Nat} {x:Value} {new olds:List AV} (hs:Src P X w sz new x)
    (ho:Src P X w sz olds (.slice b sLen sCap)) (hl:olds.length=sLen) (hroom:¬ (sLen + new.length≤sCap)) (hbig:(sLen + new.length) * sz≤4294967296) :
    ∃ vs dr cap rest,VTup X (olds++new) vs∧(∀ v∈vs,v.cells.size=sz)∧sLen + new.length≤cap∧(laid vs++rest).length=cap * sz∧(Builtin.append_ #[t,u] ty #[.slice b sLen sCap,x]).run P w =
      .ok (.slice (some ⟨w.heap.size,0,none⟩) (sLen + new.length) cap) (World.row { w with drawn:=dr } (laid vs++rest).toArray e 0 0):=by
  obtain ⟨d,hd,hdi⟩:=h.hu
  obtain ⟨vs,g1,g2,g3⟩:=hs.vals
  obtain ⟨us,k1,k2,k3⟩:=ho.vals
  have hf:=g3 new.length (w.drawn + 1) (Nat.le_refl _)
  rw [List.take_of_length_le (by rw [g1.length]; exact Nat.le_refl _)] at hf
  have hk:=k3 sLen (w.drawn + 1) (by omega)
  rw [List.take_of_length_le (by rw [← k1.length]; omega)] at hk
  have hpos:=h.pos
  have hle:sLen + new.length≤(sLen + new.length) * sz:=Nat.le_mul_of_pos_right _ hpos
  have h63:¬ (9223372036854775807 < ((sLen:Int) + (new.length:Int))):=by omega
  have hb1:(sLen + new.length) * i.bytes≤(sLen + new.length) * (32 * sz):=Nat.mul_le_mul_left _ h.hby
  have hb2:(sLen + new.length) * (32 * sz)=32 * ((sLen + new.length) * sz):=by rw [Nat.mul_left_comm]
  have h48:=growslice_fits (need:=sLen + new.length) (old:=sCap) (bytes:=i.bytes) (by omega) (by omega)
  have h48':¬ (281474976710656 < Builtin.nextslicecap (sLen + new.length) sCap * i.bytes):=by omega
  have hge:=grownCap_ge w (sLen + new.length) sCap e
  refine ⟨us++vs,w.drawn + 1,grownCap w (sLen + new.length) sCap e,(Builtin.zeroCells z.cells (grownCap w (sLen + new.length) sCap e - (sLen + new.length))).toList,k1.append g1,?_,hge,?_,?_⟩
  · intro v hv
    rcases List.mem_append.1 hv with hv | hv
    · exact k2 v hv
    · exact g2 v hv
  · have e1:laid (us++vs)=laid us++laid vs:=by simp [laid]
    rw [e1]
    simp only [List.length_append,laid_length k2,laid_length g2,Array.length_toList,zeroCells_size,h.hzs]
    rw [← k1.length,← g1.length,hl,← Nat.add_mul,← Nat.add_mul]
    congr 1; omega
  · have e2:(laid (us++vs)++(Builtin.zeroCells z.cells (grownCap w (sLen + new.length) sCap e - (sLen + new.length))).toList).toArray =
        (laid us).toArray++(laid vs).toArray++Builtin.zeroCells z.cells (grownCap w (sLen + new.length) sCap e - (sLen + new.length)):=by
      apply Array.ext'; simp [laid]
    rw [e2]
    simp only [Builtin.append_]
    have hf2:(Builtin.firstCells sz new.length x).run P w.drew = .ok (laid vs).toArray w.drew:=hf
    have hk2:(Builtin.firstCells sz sLen (.slice b sLen sCap)).run P w.drew = .ok (laid us).toArray w.drew:=hk
    generalize hzc:Builtin.zeroCells z.cells (grownCap w (sLen + new.length) sCap e - (sLen + new.length))=zc
    simp only [grownCap] at hzc
    cases d <;> first
      | exact absurd rfl (hdi _)
      | (simp [run_underlying h.ht,run_underlying hd,sizeOf,typeInfo,zeroValue,h.hi,h.hz,h.hsz,hs.len,hroom,h63,h48',Question.forced,hf2,hk2,newRow,grownCap,hzc]
         rw [show (laid us++laid vs).toArray++zc=(laid us).toArray++((laid vs).toArray++zc) from by apply Array.ext'; simp]
         rfl)
end Go.Am
