/- A small machine on data: what it says of Go's code is proved in the texts behind this one. Definitions and the equations by which it is run. -/
import Derived.Calls
import Derived.Orders
import Derived.RowKit
namespace Go.Am
set_option linter.unusedSimpArgs false
set_option linter.unusedVariables false

/-- Data that nobody writes: whole numbers, bools, strings; structs (their cells); slices (their elements). -/
inductive TV where
  | s (x : Value)
  | agg (cs : List TV)
  | sl (sz : Nat) (xs : List TV)
  deriving Inhabited

inductive Id where
  | st (d t : Nat)
  | dy (k : Nat)
  | ex (k : Nat)
  deriving DecidableEq, Inhabited

inductive AV where
  | c (t : TV)
  | agg (cs : List AV)
  | tup (cs : List AV)
  | nils
  | tptr (x : TV) (off : Nat)
  | ref (o : Id) (g n off len : Nat)
  | ptr (o : Id) (g n i off : Nat)
  | fn (f : Nat) (caps : List AV)
  | undef
  deriving Inhabited

def TV.cells : TV → List TV
  | .agg cs => cs
  | v => [v]

def AV.cells : AV → List AV
  | .agg cs => cs
  | .c t => t.cells.map .c
  | v => [v]

structure Obj where
  gen : Nat
  sz : Nat
  w : Bool
  es : List AV

abbrev Heap := Id → Option Obj
def hupd (H : Heap) (o : Id) (b : Obj) : Heap := fun p => if p = o then some b else H p
abbrev AEnv := Nat → AV
def upd (E : AEnv) (t : Nat) (v : AV) : AEnv := fun p => if p = t then v else E p
def updO (E : AEnv) : Option Nat → AV → AEnv
  | none, _ => E
  | some t, v => upd E t v

structure St where
  E : AEnv
  H : Heap
  nx : Nat

inductive Opd where
  | t (n : Nat)
  | k (v : AV)

def ev (E : AEnv) : Opd → AV
  | .t n => E n
  | .k v => v

/-- How a call is made. 'fz': its arguments are read as data, and so is its result; 'own': the result's slices are the caller's own; 'mu': it may write what its arguments reach. -/
inductive CMode where
  | fz | own | mu
  deriving DecidableEq

/-- What a cell holds. -/
inductive Lf where
  | i | s | b
  deriving DecidableEq

inductive AOp where
  | mov (x : Opd)
  | pick (c a b : Opd)
  | nilc (x : Opd)
  | alloc (z : AV)
  | box (x : Opd)
  | build (zero : List AV) (parts : List (Nat × Nat × Opd))
  | bslice (sz : Nat) (l : List Opd)
  | load (agg : Bool) (n : Nat) (a : Opd)
  | store (n : Nat) (a x : Opd)
  | bin (op : BinOp) (x y : Opd)
  | binB (op : BinOp) (x y : Opd)
  | binS (neg : Bool) (ls : List Lf) (x y : Opd)
  | un (op : UnOp) (x : Opd)
  | conv (k : IntKind) (x : Opd)
  | same (x : Opd)
  | b2s (x : Opd)
  | s2b (x : Opd)
  | mkfn (f : Nat) (caps : List Opd)
  | mksl (sz : Nat) (zero : AV) (n : Opd)
  | slice (sz : Nat) (x : Opd) (lo hi mx : Option Opd)
  | faddr (x : Opd) (off : Nat)
  | field (x : Opd) (off n : Nat) (agg : Bool)
  | iaddr (sz : Nat) (x i : Opd)
  | index (x i : Opd)
  | len (str : Bool) (x : Opd)
  | append (sz : Nat) (x y : Opd)
  | copy (sz : Nat) (x y : Opd)
  | clear (zero : AV) (x : Opd)
  | minmax (mx : Bool) (l : List Opd)
  | extract (x : Opd) (i : Nat)
  | call (f : Nat) (args : List Opd)
  | callv (f : Opd) (args : List Opd)

structure AOper where
  dst : Option Nat
  guard : Option (Nat × Bool)
  op : AOp

/-- What an operation touched of the heap. -/
structure Foot where
  rd : List Id
  wr : List Id
  lk : List Id
  nx : Bool
  all : Bool
  wall : Bool

inductive AC where
  | skip
  | ops (l : List AOper)
  | opsU (fs : List Foot) (l : List AOper) (prs : List (Nat × Nat))
  | seq (a b : AC)
  | cond (c : Opd) (a b : AC)
  | block (id : Nat) (b : AC)
  | loop (b : AC)
  | exit (id : Nat)
  | ret

inductive ARes where
  | tmp (t : Nat)
  | cell (t : Nat) (agg : Bool) (n : Nat)

structure AFn where
  np : Nat
  ntmps : Nat
  res : List ARes
  body : AC

structure Tab where
  fn : Nat → Option AFn
  mode : Nat → CMode
  nat : Nat → Option (List TV → Option (List TV))

/-! ### reading what is live as data -/
def elemsOf (H : Heap) (o : Id) (g n off len : Nat) : Option (List AV) :=
  match H o with
  | some b => if b.gen = g ∧ b.es.length = n ∧ off + len ≤ n then some ((b.es.drop off).take len) else none
  | none => none

def szOf (H : Heap) (o : Id) : Nat := match H o with | some b => b.sz | none => 0

def TV.plain : TV → Bool
  | .s _ => true
  | _ => false
def TV.scalar : TV → Bool
  | .s _ => true
  | .agg cs => cs.all TV.plain
  | .sl _ _ => false

mutual
/-- What is live, as data. -/
def frz (H : Heap) : Nat → AV → Option TV
  | _, .c t => some t
  | 0, _ => none
  | n + 1, .agg cs => match frzs H n cs with | some l => some (.agg l) | none => none
  | _ + 1, .nils => some (.sl 1 [])
  | n + 1, .ref o g m off len => match elemsOf H o g m off len with
    | some es => (match frzs H n es with | some l => some (.sl (szOf H o) l) | none => none)
    | none => none
  | _ + 1, _ => none
def frzs (H : Heap) : Nat → List AV → Option (List TV)
  | _, [] => some []
  | n, x :: r => match frz H n x with
    | some y => (match frzs H n r with | some ys => some (y :: ys) | none => none)
    | none => none
end

mutual
/-- The live slices in a value. -/
def idsOf (H : Heap) : Nat → AV → List Id
  | n + 1, .agg cs => idsOfs H n cs
  | n + 1, .ref o g m off len => o :: (match elemsOf H o g m off len with | some es => idsOfs H n es | none => [])
  | _, _ => []
def idsOfs (H : Heap) : Nat → List AV → List Id
  | _, [] => []
  | n, x :: r => idsOf H n x ++ idsOfs H n r
end

def lockL (H : Heap) : List Id → Heap
  | [] => H
  | o :: r => match lockL H r o with
    | some b => hupd (lockL H r) o { b with w := false }
    | none => lockL H r
def lockAll (H : Heap) : Heap := fun o => match H o with | some b => some { b with w := false } | none => none

def tupOf : List AV → AV
  | [x] => x
  | l => .tup l

/-! ### operations on values -/
def bytesVs (s : ByteArray) : List AV := s.data.toList.map fun b => .c (.s (.int .u8 b.toNat))
def bytesOf : List AV → Option ByteArray
  | l => (go l).map fun b => ⟨b.toArray⟩
where go : List AV → Option (List UInt8)
  | [] => some []
  | .c (.s (.int .u8 n)) :: r => match go r with
    | some b => some (UInt8.ofNat n.toNat :: b)
    | none => none
  | _ => none
def cmpV (op : BinOp) (lt eq : Bool) : Option Value :=
  match op with
  | .eql => some (.bool eq)
  | .neq => some (.bool !eq)
  | .lss => some (.bool lt)
  | .leq => some (.bool (lt || eq))
  | .gtr => some (.bool !(lt || eq))
  | .geq => some (.bool !lt)
  | _ => none

def intV (op : BinOp) (k : IntKind) (a b : Int) : Option Value :=
  match op with
  | .add => some (.int k (k.wrap (a + b)))
  | .sub => some (.int k (k.wrap (a - b)))
  | .mul => some (.int k (k.wrap (a * b)))
  | .quo => if b = 0 then none else some (.int k (k.wrap (a.tdiv b)))
  | .rem => if b = 0 then none else some (.int k (a.tmod b))
  | .and => some (.int k (k.wrap (BitVec.ofInt k.bits a &&& BitVec.ofInt k.bits b).toNat))
  | .or => some (.int k (k.wrap (BitVec.ofInt k.bits a ||| BitVec.ofInt k.bits b).toNat))
  | .xor => some (.int k (k.wrap (BitVec.ofInt k.bits a ^^^ BitVec.ofInt k.bits b).toNat))
  | .andNot => some (.int k (k.wrap (BitVec.ofInt k.bits a &&& ~~~(BitVec.ofInt k.bits b)).toNat))
  | .eql => some (.bool (a == b))
  | .neq => some (.bool (a != b))
  | .lss => some (.bool (decide (a < b)))
  | .leq => some (.bool (decide (a ≤ b)))
  | .gtr => some (.bool (decide (a > b)))
  | .geq => some (.bool (decide (a ≥ b)))
  | _ => none

def shiftV (op : BinOp) (k : IntKind) (a b : Int) : Option Value :=
  if b < 0 then none else
  match op with
  | .shl => some (.int k (k.wrap (a * 2 ^ (min b.toNat k.bits))))
  | .shr => some (.int k (a.fdiv (2 ^ (min b.toNat k.bits))))
  | _ => none

def strV (op : BinOp) (a b : ByteArray) : Option Value :=
  match op with
  | .add => if a.size + b.size ≤ 140737488355328 then some (.string (a ++ b)) else none
  | op => cmpV op (Op.bytesLess a.toList b.toList) (a.toList == b.toList)

/-- Two cells: are they one? -/
def sameV : Lf → Value → Value → Option Bool
  | .i, .int k a, .int k' b => if k = k' then some (a == b) else none
  | .s, .string a, .string b => some (a.toList == b.toList)
  | .b, .bool a, .bool b => some (a == b)
  | _, _, _ => none

def binV (op : BinOp) : Value → Value → Option Value
  | .int k a, .int k' b => match op with
    | .shl => shiftV .shl k a b
    | .shr => shiftV .shr k a b
    | op => if k = k' then intV op k a b else none
  | .string a, .string b => strV op a b
  | _, _ => none

def sameL : List Lf → List AV → List AV → Option Bool
  | [], [], [] => some true
  | l :: ls, .c (.s x) :: r, .c (.s y) :: q => match sameV l x y with
    | some b => (match sameL ls r q with | some b' => some (b && b') | none => none)
    | none => none
  | _, _, _ => none

def unV (op : UnOp) : Value → Option Value
  | .bool b => match op with | .not => some (.bool !b) | _ => none
  | .int k n => match op with
    | .neg => some (.int k (k.wrap (0 - n)))
    | _ => none
  | _ => none

/-- Cells put into others from a place on. -/
def putCells (cs : List AV) (off : Nat) (new : List AV) : Option (List AV) :=
  if off + new.length ≤ cs.length then some (cs.take off ++ new ++ cs.drop (off + new.length)) else none

/-- What may lie in memory. -/
def stor : AV → Bool
  | .undef | .tup _ => false
  | _ => true

/-- May these be elements of this size? -/
def fits (sz : Nat) (es : List AV) : Bool := es.all fun v => stor v && v.cells.length == sz

def AV.isAgg : AV → Bool
  | .agg _ => true
  | .c (.agg _) => true
  | _ => false

def reEl (old : AV) (cs : List AV) : Option AV :=
  if old.isAgg then some (.agg cs) else match cs with | [x] => if stor x then some x else none | _ => none

def fillCells : List AV → List (Nat × Nat × AV) → Option (List AV)
  | cs, [] => some cs
  | cs, (off, n, v) :: r =>
    if v.cells.length = n ∧ stor v = true then
      match putCells cs off v.cells with
      | some cs' => fillCells cs' r
      | none => none
    else none

/-- A slice's elements: those of live ones, and of data. -/
def elems (H : Heap) : AV → Option (List AV)
  | .nils => some []
  | .c (.sl _ xs) => some (xs.map .c)
  | .ref o g n off len => elemsOf H o g n off len
  | _ => none

def AV.isStr : AV → Bool
  | .c (.s (.string _)) => true
  | _ => false

def lenV : AV → Option Nat
  | .nils => some 0
  | .c (.sl _ xs) => some xs.length
  | .ref _ _ _ _ len => some len
  | .c (.s (.string s)) => some s.size
  | _ => none

def intOfV : AV → Option Int
  | .c (.s (.int _ n)) => some n
  | _ => none

def gInt (n : Int) : AV := .c (.s (.int .i64 n))
def gBool (b : Bool) : AV := .c (.s (.bool b))
def gStr (s : ByteArray) : AV := .c (.s (.string s))

/-- The next version of an object that is laid anew at a place. -/
def genAt (H : Heap) (o : Id) : Nat := match H o with | some b => b.gen + 1 | none => 0

def loadV (H : Heap) (agg : Bool) (n : Nat) : AV → Option AV
  | .tptr x off =>
    if agg then
      (match x with
       | .agg cs => if off = 0 ∧ cs.length = n then some (.c (.agg cs)) else if off + n ≤ cs.length then some (.c (.agg ((cs.drop off).take n))) else none
       | _ => none)
    else match x.cells[off]? with | some y => some (.c y) | none => none
  | .ptr o g m i off => match H o with
    | some b => if b.gen = g ∧ b.es.length = m then
        match b.es[i]? with
        | some x =>
          if agg then
            (if x.isAgg = true then
              (if off = 0 ∧ n = b.sz then some x
               else if off + n ≤ x.cells.length then some (.agg ((x.cells.drop off).take n)) else none)
             else none)
          else x.cells[off]?
        | none => none
      else none
    | none => none
  | _ => none

def storeV (H : Heap) (n : Nat) (x : AV) : AV → Option Heap
  | .ptr o g m i off => match H o with
    | some b => if b.gen = g ∧ b.es.length = m ∧ b.w = true ∧ x.cells.length = n ∧ stor x = true then
        match b.es[i]? with
        | some old => (match (if off = 0 ∧ n = b.sz ∧ x.isAgg = old.isAgg then some x else match putCells old.cells off x.cells with | some cs => reEl old cs | none => none) with
          | some new => some (hupd H o { b with es := b.es.set i new })
          | none => none)
        | none => none
      else none
    | none => none
  | _ => none

def optI (E : AEnv) : Option Opd → Option (Option Int)
  | none => some none
  | some y => match intOfV (ev E y) with | some n => some (some n) | none => none

def sliceV (H : Heap) (x : AV) (lo hi mx : Option Int) : Option AV :=
  match x with
  | .c (.s (.string s)) =>
    let l := lo.getD 0
    let h := hi.getD s.size
    if 0 ≤ l ∧ l ≤ h ∧ h ≤ s.size ∧ mx = none then some (gStr (s.extract l.toNat h.toNat)) else none
  | .c (.sl sz xs) =>
    let l := lo.getD 0
    let h := hi.getD xs.length
    if 0 ≤ l ∧ l ≤ h ∧ h ≤ xs.length ∧ mx = none then some (.c (.sl sz ((xs.drop l.toNat).take (h - l).toNat))) else none
  | .nils =>
    let l := lo.getD 0
    let h := hi.getD 0
    if l = 0 ∧ h = 0 ∧ mx = none then some .nils else none
  | .ref o g n off len => match H o with
    | some b =>
      let l := lo.getD 0
      let h := hi.getD len
      if b.gen = g ∧ b.es.length = n ∧ 0 ≤ l ∧ l ≤ h ∧ h + off ≤ n ∧ (mx = none ∨ (mx = some ((n : Int) - off) ∧ hi ≠ none)) then some (.ref o g n (off + l.toNat) (h - l).toNat) else none
    | none => none
  | _ => none

/-- Are a slice's elements of this size? -/
def szOk (H : Heap) (sz : Nat) : AV → Bool
  | .ref o _ _ _ _ => szOf H o == sz
  | .c (.sl sz' xs) => sz' == sz || xs.isEmpty
  | _ => true

def i64s : List AV → Option (List Int)
  | [] => some []
  | .c (.s (.int .i64 n)) :: r => match i64s r with | some l => some (n :: l) | none => none
  | _ => none

def minMax (mx : Bool) (l : List AV) : Option Int :=
  match i64s l with
  | some (x :: r) => some (r.foldl (fun a b => if mx then (if b > a then b else a) else (if b < a then b else a)) x)
  | _ => none

/-- What 'append' and 'copy' take from. -/
def srcE (H : Heap) (y : AV) : Option (List AV) := match y with | .c (.s (.string s)) => some (bytesVs s) | v => elems H v

/-! ### the machine -/
inductive It where
  | code (c : AC)
  | blk (id : Nat)
  | lp (b : AC)

def unwind (id : Nat) : List It → Option (List It)
  | [] => none
  | .blk i :: K => if i = id then some K else unwind id K
  | _ :: K => unwind id K

abbrev Run := Nat → List It → St → Option St

def bindArgs (l : List AV) : AEnv := fun i => l.getD i .undef

def resV (E : AEnv) (H : Heap) : List ARes → Option (List AV)
  | [] => some []
  | .tmp t :: r => match resV E H r with | some l => some (E t :: l) | none => none
  | .cell t ag n :: r => match loadV H ag n (E t), resV E H r with | some v, some l => some (v :: l) | _, _ => none

def callB (T : Tab) (R : Run) (d : Nat) (f : Nat) (args : List AV) (H : Heap) (nx : Nat) : Option (List AV × Heap × Nat) :=
  match T.fn f with
  | some F =>
    if args.length = F.np then
      match R d [.code F.body] ⟨bindArgs args, H, nx⟩ with
      | some s => (match resV s.E s.H F.res with | some rs => some (rs, s.H, s.nx) | none => none)
      | none => none
    else none
  | none => none

def H0 : Heap := fun _ => none

/-- A call that reads data and tells data. -/
def callC (T : Tab) (R : Run) (f : Nat) (ts : List TV) : Option (List TV) :=
  match T.nat f with
  | some g => g ts
  | none => match callB T R 0 f (ts.map .c) H0 0 with
    | some (rs, H, _) => frzs H 12 rs
    | none => none

def frzOr (H : Heap) (v : AV) : AV := match frz H 12 v with | some t => .c t | none => v

def callOp (T : Tab) (R : Run) (d : Nat) (f : Nat) (vs : List AV) (H : Heap) (nx : Nat) : Option (AV × Heap × Nat) :=
  match T.mode f with
  | .mu => match callB T R (d + 1) f vs H nx with
    | some (rs, H', nx') => some (tupOf rs, H', nx')
    | none => none
  | .own => none
  | .fz => match frzs H 12 vs with
    | some ts => (match callC T R f ts with
      | some us =>
        if us.all TV.scalar then some (tupOf (us.map .c), H, nx)
        else some (tupOf (us.map .c), lockL H (idsOfs H 12 vs), nx)
      | none => none)
    | none => match callB T R (d + 1) f (vs.map (frzOr H)) (lockAll H) nx with
      | some (rs, H', _) => (match frzs H' 12 rs with
        | some us => if us.all TV.scalar then some (tupOf (us.map .c), H, nx) else none
        | none => none)
      | none => none

def operV (T : Tab) (R : Run) (d : Nat) (dst : Option Nat) (E : AEnv) (H : Heap) (nx : Nat) : AOp → Option (AV × Heap × Nat)
  | .mov x => some (ev E x, H, nx)
  | .pick c a b => match ev E c with
    | .c (.s (.bool t)) => some (if t then ev E a else ev E b, H, nx)
    | _ => none
  | .nilc x => match ev E x with
    | .tptr y o => some (.tptr y o, H, nx)
    | .ptr o g n i f => some (.ptr o g n i f, H, nx)
    | .fn f l => some (.fn f l, H, nx)
    | _ => none
  | .alloc z => match dst with
    | some t => if stor z then
        some (.ptr (.st d t) (genAt H (.st d t)) 1 0 0, hupd H (.st d t) ⟨genAt H (.st d t), z.cells.length, true, [z]⟩, nx)
      else none
    | none => none
  | .box x => match dst with
    | some t => if stor (ev E x) = true ∧ 0 < (ev E x).cells.length then
        some (.ptr (.st d t) (genAt H (.st d t)) 1 0 0, hupd H (.st d t) ⟨genAt H (.st d t), (ev E x).cells.length, true, [ev E x]⟩, nx)
      else none
    | none => none
  | .build zero parts => match fillCells zero (parts.map fun p => (p.1, p.2.1, ev E p.2.2)) with
    | some cs => some (.agg cs, H, nx)
    | none => none
  | .bslice sz l => match dst with
    | some t => if fits sz (l.map (ev E)) then
        some (.ref (.st d t) (genAt H (.st d t)) l.length 0 l.length, hupd H (.st d t) ⟨genAt H (.st d t), sz, true, l.map (ev E)⟩, nx)
      else none
    | none => none
  | .load agg n a => match loadV H agg n (ev E a) with
    | some v => some (v, H, nx)
    | none => none
  | .store n a x => match storeV H n (ev E x) (ev E a) with
    | some H' => some (.undef, H', nx)
    | none => none
  | .bin op x y => match ev E x, ev E y with
    | .c (.s a), .c (.s b) => (match binV op a b with | some r => some (.c (.s r), H, nx) | none => none)
    | _, _ => none
  | .binB op x y => match ev E x, ev E y with
    | .c (.s (.bool a)), .c (.s (.bool b)) => (match op with
      | .eql => some (gBool (a == b), H, nx)
      | .neq => some (gBool (a != b), H, nx)
      | _ => none)
    | _, _ => none
  | .binS neg ls x y => match sameL ls (ev E x).cells (ev E y).cells with
    | some r => if (ev E x).isAgg = true ∧ (ev E y).isAgg = true then some (gBool (if neg then !r else r), H, nx) else none
    | none => none
  | .un op x => match ev E x with
    | .c (.s a) => (match unV op a with | some r => some (.c (.s r), H, nx) | none => none)
    | _ => none
  | .conv k x => match ev E x with
    | .c (.s (.int _ n)) => some (.c (.s (.int k (k.wrap n))), H, nx)
    | _ => none
  | .same x => if (ev E x).isStr = true then some (ev E x, H, nx) else none
  | .b2s x => match elems H (ev E x) with
    | some es => (match bytesOf es with | some b => some (gStr b, H, nx) | none => none)
    | none => none
  | .s2b x => match ev E x with
    | .c (.s (.string s)) => if s.size ≤ 4294967296 then some (.ref (.dy nx) (genAt H (.dy nx)) s.size 0 s.size, hupd H (.dy nx) ⟨genAt H (.dy nx), 1, true, bytesVs s⟩, nx + 1) else none
    | _ => none
  | .mkfn f caps => some (.fn f (caps.map (ev E)), H, nx)
  | .mksl sz zero n => match intOfV (ev E n) with
    | some m => if 0 ≤ m ∧ m * sz ≤ 4294967296 ∧ stor zero = true ∧ zero.cells.length = sz then
        some (.ref (.dy nx) (genAt H (.dy nx)) m.toNat 0 m.toNat, hupd H (.dy nx) ⟨genAt H (.dy nx), sz, true, List.replicate m.toNat zero⟩, nx + 1)
      else none
    | none => none
  | .slice sz x lo hi mx => match optI E lo, optI E hi, optI E mx with
    | some l, some h, some m => (match sliceV H (ev E x) l h m with
      | some v => if szOk H sz v = true ∧ (ev E x).isStr = (sz == 0) then some (v, H, nx) else none
      | none => none)
    | _, _, _ => none
  | .faddr x off => match ev E x with
    | .tptr y o => some (.tptr y (o + off), H, nx)
    | .ptr o g n i f => some (.ptr o g n i (f + off), H, nx)
    | _ => none
  | .field x off n agg => match (ev E x).cells, ev E x |>.isAgg with
    | cs, true => if off + n ≤ cs.length then
        (if agg then some (.agg ((cs.drop off).take n), H, nx) else match cs[off]? with | some v => some (v, H, nx) | none => none) else none
    | _, false => none
  | .iaddr sz x i => match intOfV (ev E i) with
    | some j => if 0 ≤ j then match ev E x with
      | .c (.sl sz' xs) => (match xs[j.toNat]? with | some y => if sz' = sz then some (.tptr y 0, H, nx) else none | none => none)
      | .ref o g n off len => (match H o with
        | some b => if b.gen = g ∧ b.es.length = n ∧ off + len ≤ n ∧ j.toNat < len ∧ b.sz = sz then some (.ptr o g n (off + j.toNat) 0, H, nx) else none
        | none => none)
      | _ => none
      else none
    | none => none
  | .index x i => match ev E x, intOfV (ev E i) with
    | .c (.s (.string s)), some j => if 0 ≤ j then (match s[j.toNat]? with | some b => some (.c (.s (.int .u8 b.toNat)), H, nx) | none => none) else none
    | _, _ => none
  | .len str x => match lenV (ev E x) with
    | some n => if (ev E x).isStr = str then some (gInt n, H, nx) else none
    | none => none
  | .append sz x y =>
    match srcE H (ev E y) with
    | some new =>
      if fits sz new then
        match ev E x with
        | .nils => if new = [] then some (.nils, H, nx)
          else if new.length * sz ≤ 4294967296 then some (.ref (.dy nx) (genAt H (.dy nx)) new.length 0 new.length, hupd H (.dy nx) ⟨genAt H (.dy nx), sz, true, new⟩, nx + 1) else none
        | .ref o g n off len => match H o with
          | some b =>
            if b.gen = g ∧ b.es.length = n ∧ off + len ≤ n ∧ b.w = true ∧ b.sz = sz then
              if new = [] then some (.ref o g n off len, H, nx)
              else if off + len + new.length ≤ n then
                some (.ref o g n off (len + new.length), hupd H o { b with es := b.es.take (off + len) ++ new ++ b.es.drop (off + len + new.length) }, nx)
              else if (len + new.length) * sz ≤ 4294967296 then
                let g' := if off = 0 then g else g + 1
                some (.ref o g' (len + new.length) 0 (len + new.length), hupd H o { b with gen := g', es := (b.es.drop off).take len ++ new }, nx)
              else none
            else none
          | none => none
        | _ => none
      else none
    | none => none
  | .copy sz x y => match srcE H (ev E y), ev E x with
    | some new, .ref o g n off len => (match H o with
      | some b =>
        if b.gen = g ∧ b.es.length = n ∧ off + len ≤ n ∧ b.w = true ∧ fits sz new = true ∧ b.sz = sz then
          let m := min len new.length
          some (gInt m, hupd H o { b with es := b.es.take off ++ new.take m ++ b.es.drop (off + m) }, nx)
        else none
      | none => none)
    | _, _ => none
  | .clear zero x => match ev E x with
    | .ref o g n off len => (match H o with
      | some b =>
        if b.gen = g ∧ b.es.length = n ∧ off + len ≤ n ∧ b.w = true ∧ zero.cells.length = b.sz ∧ stor zero = true then
          some (.tup [], hupd H o { b with es := b.es.take off ++ List.replicate len zero ++ b.es.drop (off + len) }, nx)
        else none
      | none => none)
    | .nils => some (.tup [], H, nx)
    | _ => none
  | .minmax mx l => match minMax mx (l.map (ev E)) with
    | some n => some (gInt n, H, nx)
    | none => none
  | .extract x i => match ev E x with
    | .tup l => (match l[i]? with | some v => some (v, H, nx) | none => none)
    | _ => none
  | .call f args => callOp T R d f (args.map (ev E)) H nx
  | .callv f args => match ev E f with
    | .fn g caps => callOp T R d g (args.map (ev E) ++ caps) H nx
    | _ => none

def wantedA (E : AEnv) : Option (Nat × Bool) → Option Bool
  | none => some true
  | some (t, want) => match E t with
    | .c (.s (.bool b)) => some (b == want)
    | .tup [] => some false
    | _ => none

def operF (T : Tab) (R : Run) (d : Nat) (o : AOper) (s : St) : Option St :=
  match wantedA s.E o.guard with
  | some true => (match operV T R d o.dst s.E s.H s.nx o.op with
    | some (v, H, nx) => some ⟨updO s.E o.dst v, H, nx⟩
    | none => none)
  | some false => some ⟨updO s.E o.dst (.tup []), s.H, s.nx⟩
  | none => none

/-! ### what an operation touches -/
abbrev F0 : Foot := ⟨[], [], [], false, false, false⟩

def vIds : AV → List Id
  | .ptr o _ _ _ _ => [o]
  | .ref o _ _ _ _ => [o]
  | _ => []

def footCall (T : Tab) (f : Nat) (vs : List AV) (H : Heap) : Foot :=
  match T.mode f with
  | .fz => match frzs H 12 vs with
    | some _ => ⟨idsOfs H 12 vs, [], idsOfs H 12 vs, false, false, false⟩
    | none => ⟨[], [], [], true, true, false⟩
  | _ => ⟨[], [], [], true, true, true⟩

def foot (T : Tab) (d : Nat) (dst : Option Nat) (E : AEnv) (H : Heap) (nx : Nat) : AOp → Foot
  | .alloc _ | .box _ | .bslice _ _ => ⟨[], (match dst with | some t => [.st d t] | none => []), [], false, false, false⟩
  | .load _ _ a => ⟨vIds (ev E a), [], [], false, false, false⟩
  | .store _ a _ => ⟨[], vIds (ev E a), [], false, false, false⟩
  | .b2s x => ⟨vIds (ev E x), [], [], false, false, false⟩
  | .slice _ x _ _ _ => ⟨vIds (ev E x), [], [], false, false, false⟩
  | .iaddr _ x _ => ⟨vIds (ev E x), [], [], false, false, false⟩
  | .s2b _ => ⟨[], [.dy nx], [], true, false, false⟩
  | .mksl _ _ _ => ⟨[], [.dy nx], [], true, false, false⟩
  | .append _ x y => ⟨vIds (ev E y), .dy nx :: vIds (ev E x), [], true, false, false⟩
  | .copy _ x y => ⟨vIds (ev E y), vIds (ev E x), [], false, false, false⟩
  | .clear _ x => ⟨[], vIds (ev E x), [], false, false, false⟩
  | .call f args => footCall T f (args.map (ev E)) H
  | .callv f args => match ev E f with
    | .fn g caps => footCall T g (args.map (ev E) ++ caps) H
    | _ => F0
  | _ => F0

def footO (T : Tab) (d : Nat) (o : AOper) (s : St) : Foot :=
  match wantedA s.E o.guard with
  | some true => foot T d o.dst s.E s.H s.nx o.op
  | _ => F0

def disj (a b : List Id) : Bool := a.all fun x => b.all fun y => decide (x ≠ y)

/-- May the two change places? -/
def indep (F G : Foot) : Bool :=
  !F.wall && !G.wall && (!F.all || (G.wr.isEmpty && G.lk.isEmpty)) && (!G.all || (F.wr.isEmpty && F.lk.isEmpty)) &&
    disj F.wr (G.rd ++ (G.wr ++ G.lk)) && disj G.wr (F.rd ++ F.lk) && disj F.lk G.lk && !(F.nx && G.nx)

def okPrs (fs : List Foot) (prs : List (Nat × Nat)) : Bool :=
  prs.all fun p => match fs[p.1]?, fs[p.2]? with | some F, some G => indep F G | _, _ => false

def runF (T : Tab) : Nat → Run
  | 0, _, _, _ => none
  | n + 1, d, K, s => match K with
    | [] => some s
    | .code .ret :: _ => some s
    | .code .skip :: K => runF T n d K s
    | .blk _ :: K => runF T n d K s
    | .code (.seq a b) :: K => runF T n d (.code a :: .code b :: K) s
    | .code (.cond c a b) :: K => match ev s.E c with
      | .c (.s (.bool t)) => runF T n d (.code (if t then a else b) :: K) s
      | _ => none
    | .code (.block i b) :: K => runF T n d (.code b :: .blk i :: K) s
    | .code (.loop b) :: K => runF T n d (.code b :: .lp b :: K) s
    | .lp b :: K => runF T n d (.code b :: .lp b :: K) s
    | .code (.exit i) :: K => match unwind i K with
      | some K' => runF T n d K' s
      | none => none
    | .code (.opsU fs [] prs) :: K => if okPrs fs prs = true then runF T n d K s else none
    | .code (.opsU fs (o :: r) prs) :: K => match operF T (runF T n) d o s with
      | some s' => runF T n d (.code (.opsU (fs ++ [footO T d o s]) r prs) :: K) s'
      | none => none
    | .code (.ops []) :: K => runF T n d K s
    | .code (.ops (o :: r)) :: K => match operF T (runF T n) d o s with
      | some s' => runF T n d (.code (.ops r) :: K) s'
      | none => none
end Go.Am
