/- Go's code as code of the small machine. -/
import Derived.Test.YtgncfkcabphccaaA2
namespace Go.Am
set_option linter.unusedSimpArgs false
set_option linter.unusedVariables false

def mapMO {α β : Type} (f : α → Option β) : List α → Option (List β)
  | [] => some []
  | x :: r => match f x with
    | some y => (match mapMO f r with | some ys => some (y :: ys) | none => none)
    | none => none

def flatV : Value → Bool
  | .bool _ | .int .. | .string _ | .nilFunc | .nilIface | .pointer none | .map none | .iface .. => true
  | _ => false

def cellOf (v : Value) : Option AV :=
  match v with
  | .slice none 0 0 => some .nils
  | v => if flatV v then some (.c (.s v)) else none

def valOf (v : Value) : Option AV :=
  match v with
  | .agg cs => match mapMO cellOf cs.toList with | some l => some (.agg l) | none => none
  | v => cellOf v

def opdOf : Operand → Option Opd
  | .tmp t => some (.t t)
  | .const v => match valOf v with | some a => some (.k a) | none => none
  | .func f => some (.k (.fn f []))
  | .global _ => none

section
variable (P : Program)
def sizeT (t : TypeId) : Option Nat := match P.info? t with | some i => if i.bytes ≤ 32 * i.size ∧ 0 < i.size then some i.size else none | none => none
def zeroT (t : TypeId) : Option AV := match P.info? t with
  | some i => match i.zero with
    | some v => match valOf v with
      | some a => if a.cells.length = i.size then some a else none
      | none => none
    | none => none
  | none => none
def aggT (t : TypeId) : Option Bool := match P.underlying t with
  | some (.struct _) => some true
  | some (.array _ _) => some true
  | some _ => some false
  | none => none
def elemT (t : TypeId) : Option TypeId := match P.underlying t with | some (.slice e) => some e | _ => none

def leavesF (g : TypeId → Option (List Lf)) : List Field → Nat → Option (List Lf)
  | [], _ => some []
  | f :: r, n => if f.name ≠ "_" ∧ f.offset = n then match g f.type with
      | some l => (match leavesF g r (n + l.length) with | some q => some (l ++ q) | none => none)
      | none => none
    else none
/-- What the cells of a type hold, where they can be told apart by '=='. -/
def leaves : Nat → TypeId → Option (List Lf)
  | 0, _ => none
  | d + 1, t => match P.underlying t with
    | some (.int _) => some [.i]
    | some .string => some [.s]
    | some .bool => some [.b]
    | some (.struct fs) => if P.stoodInHeld t = true then none else match leavesF (leaves d) fs.toList 0 with
      | some l => if sizeT P t = some l.length then some l else none
      | none => none
    | _ => none

def guardOf (ops : Array Oper) : Option (Nat × Bool) → Option (Option (Nat × Bool))
  | none => some none
  | some (j, b) => match ops[j]? with
    | some o => match o.dst with | some t => some (some (t, b)) | none => none
    | none => none

def idxParts : Nat → List (Nat × Opd) → Option (List Opd)
  | _, [] => some []
  | i, (j, x) :: r => if j = i then (match idxParts (i + 1) r with | some l => some (x :: l) | none => none) else none

def optO : Option Operand → Option (Option Opd)
  | none => some none
  | some x => match opdOf x with | some y => some (some y) | none => none

def callOf (c : Call) (t : TypeId) : Option AOp :=
  match mapMO opdOf c.args.toList with
  | none => none
  | some args => match c.callee with
    | .value (.func f) => some (.call f args)
    | .value (.tmp t) => some (.callv (.t t) args)
    | .builtin b => match b, args, c.argTypes.toList with
      | .len, [x], [t] => match P.underlying t with
        | some .string => some (.len true x)
        | some (.slice _) => some (.len false x)
        | _ => none
      | .append, [x, y], [t, u] => match elemT P t, P.underlying u with
        | some e, some uu => match uu with
          | .int _ => none
          | _ => match sizeT P e, zeroT P e with | some s, some _ => some (.append s x y) | _, _ => none
        | _, _ => none
      | .copy, [x, y], [t, _] => match elemT P t with
        | some e => match sizeT P e with | some s => some (.copy s x y) | none => none
        | none => none
      | .clear, [x], [t] => match elemT P t with
        | some e => match zeroT P e with | some z => some (.clear z x) | none => none
        | none => none
      | .min, l, _ => some (.minmax false l)
      | .max, l, _ => some (.minmax true l)
      | _, _, _ => none
    | _ => none

def opOf (o : Oper) : Option AOp :=
  match o.op with
  | .move x | .assign x => match opdOf x with | some y => some (.mov y) | none => none
  | .pick c a b => match opdOf c, opdOf a, opdOf b with | some c, some a, some b => some (.pick c a b) | _, _, _ => none
  | .nilCheck x => match opdOf x with | some y => some (.nilc y) | none => none
  | .alloc t => match zeroT P t, sizeT P t with
    | some z, some _ => some (.alloc z)
    | _, _ => none
  | .box _ x => match opdOf x with | some y => some (.box y) | none => none
  | .build t parts => match zeroT P t, P.underlying t, mapMO (fun p : Nat × Operand => match opdOf p.2 with | some y => some (p.1, y) | none => none) parts.toList with
    | some z, some (.struct fs), some ps =>
      if (fs.toList.all fun f => (sizeT P f.type).isSome) = false then none else
      match mapMO (fun p : Nat × Opd => match fs[p.1]? with
        | some f => match sizeT P f.type with | some s => some (f.offset, s, p.2) | none => none
        | none => none) ps with
      | some l => some (.build z.cells l)
      | none => none
    | _, _, _ => none
  | .buildSlice t len parts => match elemT P t, mapMO (fun p : Nat × Operand => match opdOf p.2 with | some y => some (p.1, y) | none => none) parts.toList with
    | some e, some ps => match sizeT P e, idxParts 0 ps, zeroT P e with
      | some s, some l, some _ => if l.length = len ∧ len ≤ 1000 ∧ s ≤ 1000 then some (.bslice s l) else none
      | _, _, _ => none
    | _, _ => none
  | .load t a => match aggT P t, sizeT P t, opdOf a with | some ag, some s, some y => some (.load ag s y) | _, _, _ => none
  | .store t a x => match sizeT P t, opdOf a, opdOf x with | some s, some y, some z => some (.store s y z) | _, _, _ => none
  | .binOp op t x y _ => match opdOf x, opdOf y with
    | some a, some b => match P.underlying t with
      | some (.int _) => some (.bin op a b)
      | some .string => some (.bin op a b)
      | some .bool => some (.binB op a b)
      | some (.struct _) => if P.eqGuardType P.depth t = true then none else match op, leaves P 5 t with
        | .eql, some l => some (.binS false l a b)
        | .neq, some l => some (.binS true l a b)
        | _, _ => none
      | _ => none
    | _, _ => none
  | .unOp op _ x => match opdOf x with | some y => some (.un op y) | none => none
  | .convert s d x => match P.underlying s, P.underlying d, opdOf x with
    | some (.int _), some (.int k), some y => some (.conv k y)
    | some .string, some .string, some y => some (.same y)
    | some (.slice e), some .string, some y => match P.underlying e with | some (.int .u8) => some (.b2s y) | _ => none
    | some .string, some (.slice e), some y => match P.underlying e with | some (.int .u8) => some (.s2b y) | _ => none
    | _, _, _ => none
  | .makeFunc (.func f) first caps => if first.isEmpty then match mapMO opdOf caps.toList with | some l => some (.mkfn f l) | none => none else none
  | .makeSlice t l c => match elemT P t, opdOf l, opdOf c with
    | some e, some n, some m => match zeroT P e, sizeT P e, n, m with
      | some z, some s, .t a, .t b => if a = b then some (.mksl s z (.t a)) else none
      | some z, some s, .k a, .k b => match intOfV a, intOfV b with | some i, some j => if i = j then some (.mksl s z (.k a)) else none | _, _ => none
      | _, _, _, _ => none
    | _, _, _ => none
  | .slice t x lo hi mx => match P.underlying t, opdOf x, optO lo, optO hi, optO mx with
    | some .string, some y, some l, some h, some m => some (.slice 0 y l h m)
    | some (.slice e), some y, some l, some h, some m => match sizeT P e with | some s => some (.slice s y l h m) | none => none
    | _, _, _, _, _ => none
  | .fieldAddr s x f => match P.underlying s, opdOf x with
    | some (.struct fs), some y => match fs[f]? with
      | some fd => match sizeT P fd.type with | some _ => some (.faddr y fd.offset) | none => none
      | none => none
    | _, _ => none
  | .field t x f => match P.underlying t, opdOf x with
    | some (.struct fs), some y => match fs[f]? with
      | some fd => match sizeT P fd.type, aggT P fd.type with | some s, some ag => some (.field y fd.offset s ag) | _, _ => none
      | none => none
    | _, _ => none
  | .indexAddr t x i => match elemT P t, opdOf x, opdOf i with
    | some e, some y, some j => match sizeT P e with | some s => some (.iaddr s y j) | none => none
    | _, _, _ => none
  | .index t x i => match P.underlying t, opdOf x, opdOf i with
    | some .string, some y, some j => some (.index y j)
    | _, _, _ => none
  | .extract x i => match opdOf x with | some y => some (.extract y i) | none => none
  | .call c => callOf P c o.type
  | _ => none

def operOf (ops : Array Oper) (o : Oper) : Option AOper :=
  match guardOf ops o.guard, opOf P o with
  | some g, some k => some ⟨o.dst, g, k⟩
  | _, _ => none

/-- Whom an operation waits for, one way or another: a set of numbers, as bits. -/
def ancMask (acc : List Nat) (o : Oper) : Nat := o.after.toList.foldl (fun s e => if Region.binds .any e = true then s ||| (2 ^ e.on ||| acc.getD e.on 0) else s) 0
def ancs : List Nat → List Oper → List Nat
  | acc, [] => acc
  | acc, o :: r => ancs (acc ++ [ancMask acc o]) r

/-- Does each operation wait for earlier ones alone? -/
def backB : Nat → List Oper → Bool
  | _, [] => true
  | j, o :: r => (o.after.toList.all fun e => !Region.binds .any e || decide (e.on < j)) && backB (j + 1) r

def Opd.tmps : Opd → List Nat
  | .t n => [n]
  | .k _ => []
def oTmps : Option Opd → List Nat
  | some x => x.tmps
  | none => []
def looks : AOp → List Nat
  | .mov x | .nilc x | .box x | .load _ _ x | .un _ x | .conv _ x | .same x | .b2s x | .s2b x | .mksl _ _ x | .faddr x _ | .field x _ _ _ | .len _ x | .clear _ x | .extract x _ => x.tmps
  | .pick c a b => c.tmps ++ (a.tmps ++ b.tmps)
  | .alloc _ => []
  | .build _ ps => ps.flatMap fun p => p.2.2.tmps
  | .bslice _ l | .mkfn _ l | .minmax _ l | .call _ l => l.flatMap Opd.tmps
  | .store _ x y | .bin _ x y | .binB _ x y | .binS _ _ x y | .iaddr _ x y | .index x y | .append _ x y | .copy _ x y => x.tmps ++ y.tmps
  | .slice _ x a b c => x.tmps ++ (oTmps a ++ (oTmps b ++ oTmps c))
  | .callv f l => f.tmps ++ l.flatMap Opd.tmps
def looksO (o : AOper) : List Nat := (match o.guard with | some (t, _) => [t] | none => []) ++ looks o.op
def apartA (x y : AOper) : Bool :=
  (match x.dst with | some t => !(looksO y).contains t | none => true) && ((match y.dst with | some t => !(looksO x).contains t | none => true) &&
    (match x.dst, y.dst with | some t, some u => decide (t ≠ u) | _, _ => true))

/-- How an operation may touch the heap: 0 never, 1 it reads, 2 it may write. -/
def kindA : AOp → Nat
  | .load .. | .b2s .. | .slice .. | .iaddr .. => 1
  | .alloc .. | .box .. | .bslice .. | .store .. | .s2b .. | .mksl .. | .append .. | .copy .. | .clear .. | .call .. | .callv .. => 2
  | _ => 0
def mayMeet (x y : AOper) : Bool := (kindA x.op == 2 && kindA y.op != 0) || (kindA y.op == 2 && kindA x.op != 0)

/-- The pairs of operations that are to be looked at, since neither waits for the other. -/
def prsOf (m : List Nat) (l : List AOper) : List (Nat × Nat) :=
  (List.range l.length).flatMap fun j => (List.range j).filterMap fun i =>
    if (m.getD j 0).testBit i then none else
    match l[i]?, l[j]? with | some x, some y => if mayMeet x y then some (i, j) else none | _, _ => none
def apartB (m : List Nat) (l : List AOper) : Bool :=
  (List.range l.length).all fun j => (List.range j).all fun i => (m.getD j 0).testBit i || (match l[i]?, l[j]? with | some x, some y => apartA x y | _, _ => true)

def drawOf (ops : List Oper) (l : List AOper) : Option AC :=
  if backB 0 ops = true ∧ apartB (ancs [] ops) l = true then
    some (match prsOf (ancs [] ops) l with | [] => .ops l | p => .opsU [] l p)
  else none

def codeOf : Code → Option AC
  | .skip => some .skip
  | .region _ ops draw => match mapMO (operOf P ops) ops.toList with
    | some l => if draw = true then drawOf ops.toList l else some (.ops l)
    | none => none
  | .seq a b => match codeOf a, codeOf b with | some x, some y => some (.seq x y) | _, _ => none
  | .cond c a b => match opdOf c, codeOf a, codeOf b with | some c, some x, some y => some (.cond c x y) | _, _, _ => none
  | .block i b => match codeOf b with | some x => some (.block i x) | none => none
  | .loop b => match codeOf b with | some x => some (.loop x) | none => none
  | .exit i => some (.exit i)
  | .ret => some .ret
  | _ => none

def resOf : List ResultVar → Option (List ARes)
  | [] => some []
  | .tmp t :: r => match resOf r with | some l => some (.tmp t :: l) | none => none
  | .cell t ty :: r => match aggT P ty, sizeT P ty, resOf r with | some ag, some n, some l => some (.cell t ag n :: l) | _, _, _ => none

def okD (n : Nat) : AC → Bool
  | .ops l | .opsU _ l _ => l.all fun o => match o.dst with | some t => decide (t < n) | none => true
  | .seq a b | .cond _ a b => okD n a && okD n b
  | .block _ b | .loop b => okD n b
  | _ => true

def fnOf (F : Func) : Option AFn :=
  match F.body, resOf P F.results.toList with
  | some c, some r => match codeOf P c with
    | some b => if okD F.ntmps b ∧ F.params.size + F.nfree ≤ F.ntmps then some ⟨F.params.size + F.nfree, F.ntmps, r, b⟩ else none
    | none => none
  | _, _ => none
end
end Go.Am
