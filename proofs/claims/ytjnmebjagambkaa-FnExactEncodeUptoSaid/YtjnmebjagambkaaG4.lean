/- Kinds of data, what they hold, and how a value of the small machine stands for it. -/
import Derived.Test.YtjnmebjagambkaaG3
namespace Go.Am
set_option linter.unusedSimpArgs false
set_option linter.unusedVariables false

inductive Kd where
  | int (k : IntKind)
  | bool
  | str
  | st (fs : List Kd)
  | sl (sz : Nat) (e : Kd)
  deriving Inhabited

mutual
def Kd.beq : Kd → Kd → Bool
  | .int k, .int k' => decide (k = k')
  | .bool, .bool => true
  | .str, .str => true
  | .st fs, .st gs => Kd.beqs fs gs
  | .sl n e, .sl m f => Nat.beq n m && Kd.beq e f
  | _, _ => false
def Kd.beqs : List Kd → List Kd → Bool
  | [], [] => true
  | a :: r, b :: q => Kd.beq a b && Kd.beqs r q
  | _, _ => false
end
mutual
theorem Kd.beq_eq : ∀ (a b : Kd), Kd.beq a b = true → a = b
  | .int k, b, h => by cases b <;> simp_all [Kd.beq]
  | .bool, b, h => by cases b <;> simp_all [Kd.beq]
  | .str, b, h => by cases b <;> simp_all [Kd.beq]
  | .st fs, b, h => by
    cases b with
    | st gs => simp only [Kd.beq] at h; rw [Kd.beqs_eq fs gs h]
    | _ => simp [Kd.beq] at h
  | .sl n e, b, h => by
    cases b with
    | sl m f =>
      simp only [Kd.beq, Bool.and_eq_true] at h
      rw [Nat.eq_of_beq_eq_true h.1, Kd.beq_eq e f h.2]
    | _ => simp [Kd.beq] at h
theorem Kd.beqs_eq : ∀ (a b : List Kd), Kd.beqs a b = true → a = b
  | [], b, h => by cases b <;> simp_all [Kd.beqs]
  | a :: r, b, h => by
    cases b with
    | nil => simp [Kd.beqs] at h
    | cons x q =>
      simp only [Kd.beqs, Bool.and_eq_true] at h
      rw [Kd.beq_eq a x h.1, Kd.beqs_eq r q h.2]
end

mutual
def Kd.den : Kd → Type
  | .int _ => Int
  | .bool => Bool
  | .str => List UInt8
  | .st fs => Kd.dens fs
  | .sl _ e => List (Kd.den e)
def Kd.dens : List Kd → Type
  | [] => Unit
  | t :: r => Kd.den t × Kd.dens r
end
mutual
def Kd.dflt : (t : Kd) → t.den
  | .int _ => (0 : Int)
  | .bool => false
  | .str => ([] : List UInt8)
  | .st fs => Kd.dflts fs
  | .sl _ _ => []
def Kd.dflts : (l : List Kd) → Kd.dens l
  | [] => ()
  | t :: r => (Kd.dflt t, Kd.dflts r)
end
/-- Has it slices in it? -/
def Kd.flat : Kd → Bool
  | .sl _ _ => false
  | .st fs => fs.all fun t => match t with | .int _ | .bool | .str => true | _ => false
  | _ => true
def Kd.isS : Kd → Bool
  | .st _ => true
  | _ => false
/-- How many cells. -/
def Kd.cn : Kd → Nat
  | .st fs => fs.length
  | _ => 1

def RepL {α : Type} (R : α → AV → List Id → Prop) : List α → List AV → List Id → Prop
  | [], [], L => L = []
  | x :: xs, v :: vs, L => ∃ L1 L2, R x v L1 ∧ RepL R xs vs L2 ∧ L = L1 ++ L2
  | _, _, _ => False

mutual
/-- A value stands for data; L: the live objects in it. own: these are its own, and nothing of it is frozen data. -/
def Rep (own : Bool) (H : Heap) : (t : Kd) → t.den → AV → List Id → Prop
  | .int k, n, v, L => v = .c (.s (.int k n)) ∧ L = []
  | .bool, b, v, L => v = .c (.s (.bool b)) ∧ L = []
  | .str, s, v, L => v = .c (.s (.string ⟨List.toArray s⟩)) ∧ L = []
  | .st fs, x, v, L => v.isAgg = true ∧ Reps own H fs x v.cells L
  | .sl sz e, xs, v, L =>
    (v = .nils ∧ xs = [] ∧ L = []) ∨
    (own = false ∧ ∃ z ts, v = .c (.sl z ts) ∧ (z = sz ∨ ts = []) ∧ RepL (Rep own H e) xs (ts.map .c) [] ∧ L = []) ∨
    (∃ o g n off len b L', v = .ref o g n off len ∧ H o = some b ∧ b.gen = g ∧ b.es.length = n ∧ off + len ≤ n ∧ b.sz = sz ∧
      RepL (Rep own H e) xs ((b.es.drop off).take len) L' ∧ L = o :: L' ∧ (own = true → b.w = true ∧ ∀ x ∈ b.es, stor x = true ∧ x.cells.length = sz ∧ fineV (· ∈ L') x) ∧ sz = e.cn)
def Reps (own : Bool) (H : Heap) : (fs : List Kd) → Kd.dens fs → List AV → List Id → Prop
  | [], _, [], L => L = []
  | t :: r, x, v :: vs, L => t.isS = false ∧ ∃ L1 L2, Rep own H t x.1 v L1 ∧ Reps own H r x.2 vs L2 ∧ L = L1 ++ L2
  | _, _, _, _ => False
end

theorem RepL.imp {α : Type} {R R' : α → AV → List Id → Prop} : ∀ {xs : List α} {vs : List AV} {L : List Id}, (∀ x v L', v ∈ vs → (∀ i ∈ L', i ∈ L) → R x v L' → R' x v L') → RepL R xs vs L → RepL R' xs vs L
  | [], [], L, _, h => h
  | [], _ :: _, L, _, h => h.elim
  | _ :: _, [], L, _, h => h.elim
  | x :: xs, v :: vs, L, hi, ⟨L1, L2, h1, h2, e⟩ => by
    subst e
    exact ⟨L1, L2, hi x v L1 (by simp) (fun i hi => by simp [hi]) h1, RepL.imp (fun x v L' hv hL h => hi x v L' (by simp [hv]) (fun i h' => by simp [hL i h']) h) h2, rfl⟩
theorem RepL.len {α : Type} {R : α → AV → List Id → Prop} : ∀ {xs : List α} {vs : List AV} {L : List Id}, RepL R xs vs L → xs.length = vs.length
  | [], [], L, h => rfl
  | [], _ :: _, L, h => h.elim
  | _ :: _, [], L, h => h.elim
  | x :: xs, v :: vs, L, ⟨L1, L2, h1, h2, e⟩ => by simp [RepL.len h2]
theorem RepL.get {α : Type} {R : α → AV → List Id → Prop} : ∀ {xs : List α} {vs : List AV} {L : List Id}, RepL R xs vs L → ∀ (i : Nat) (x : α), xs[i]? = some x → ∃ v L', vs[i]? = some v ∧ R x v L' ∧ ∀ j ∈ L', j ∈ L
  | [], [], L, h, i, x, hx => by simp at hx
  | [], _ :: _, L, h, _, _, _ => h.elim
  | _ :: _, [], L, h, _, _, _ => h.elim
  | y :: xs, v :: vs, L, ⟨L1, L2, h1, h2, e⟩, i, x, hx => by
    subst e
    cases i with
    | zero => simp at hx; subst hx; exact ⟨v, L1, rfl, h1, fun j hj => by simp [hj]⟩
    | succ i =>
      obtain ⟨u, L', a, b, c⟩ := RepL.get h2 i x (by simpa using hx)
      exact ⟨u, L', by simpa using a, b, fun j hj => by simp [c j hj]⟩
theorem RepL.append {α : Type} {R : α → AV → List Id → Prop} : ∀ {xs ys : List α} {vs us : List AV} {L M : List Id}, RepL R xs vs L → RepL R ys us M → RepL R (xs ++ ys) (vs ++ us) (L ++ M)
  | [], ys, [], us, L, M, h, k => by cases h; exact k
  | [], _, _ :: _, _, _, _, h, _ => h.elim
  | _ :: _, _, [], _, _, _, h, _ => h.elim
  | x :: xs, ys, v :: vs, us, L, M, ⟨L1, L2, h1, h2, e⟩, k => by
    subst e
    exact ⟨L1, L2 ++ M, h1, RepL.append h2 k, by simp⟩
theorem RepL.split {α : Type} {R : α → AV → List Id → Prop} : ∀ {xs : List α} {vs : List AV} {L : List Id} (n : Nat), RepL R xs vs L → ∃ L1 L2, RepL R (xs.take n) (vs.take n) L1 ∧ RepL R (xs.drop n) (vs.drop n) L2 ∧ L = L1 ++ L2
  | xs, vs, L, 0, h => ⟨[], L, by simp [RepL], by simpa using h, rfl⟩
  | [], [], L, n + 1, h => by cases h; exact ⟨[], [], by simp [RepL], by simp [RepL], rfl⟩
  | [], _ :: _, L, n + 1, h => h.elim
  | _ :: _, [], L, n + 1, h => h.elim
  | x :: xs, v :: vs, L, n + 1, ⟨L1, L2, h1, h2, e⟩ => by
    subst e
    obtain ⟨M1, M2, a, b, e⟩ := RepL.split n h2
    subst e
    exact ⟨L1 ++ M1, M2, ⟨L1, M1, h1, a, rfl⟩, b, by simp⟩

mutual
/-- What holds here holds where its objects are the same. -/
theorem Rep.frame {own : Bool} {H H' : Heap} : ∀ (t : Kd) (x : t.den) (v : AV) (L : List Id), (∀ i ∈ L, H' i = H i) → Rep own H t x v L → Rep own H' t x v L
  | .int k, n, v, L, _, h => h
  | .bool, n, v, L, _, h => h
  | .str, n, v, L, _, h => h
  | .st fs, x, v, L, hf, h => ⟨h.1, Reps.frame fs x v.cells L hf h.2⟩
  | .sl sz e, xs, v, L, hf, h => by
    rcases h with h | ⟨h0, z, ts, h1, h2, h3, h4⟩ | ⟨o, g, n, off, len, b, L', h1, h2, h3, h4, h5, h6, h7, h8, h9⟩
    · exact .inl h
    · exact .inr (.inl ⟨h0, z, ts, h1, h2, h3.imp (fun x v L' _ hL h => Rep.frame e x v L' (fun i hi => absurd (hL i hi) (by simp)) h), h4⟩)
    · subst h8
      exact .inr (.inr ⟨o, g, n, off, len, b, L', h1, (hf o (by simp)).trans h2, h3, h4, h5, h6, h7.imp (fun x v L'' _ hL h => Rep.frame e x v L'' (fun i hi => hf i (by simp [hL i hi])) h), rfl, h9⟩)
theorem Reps.frame {own : Bool} {H H' : Heap} : ∀ (fs : List Kd) (x : Kd.dens fs) (vs : List AV) (L : List Id), (∀ i ∈ L, H' i = H i) → Reps own H fs x vs L → Reps own H' fs x vs L
  | [], x, [], L, _, h => h
  | [], x, _ :: _, L, _, h => h.elim
  | t :: r, x, [], L, _, h => h.elim
  | t :: r, x, v :: vs, L, hf, ⟨h0, L1, L2, h1, h2, e⟩ => by
    subst e
    exact ⟨h0, L1, L2, Rep.frame t x.1 v L1 (fun i hi => hf i (by simp [hi])) h1, Reps.frame r x.2 vs L2 (fun i hi => hf i (by simp [hi])) h2, rfl⟩
end

theorem RepL.frame {own : Bool} {H H' : Heap} {e : Kd} {xs : List e.den} {vs : List AV} {L : List Id} (hf : ∀ i ∈ L, H' i = H i) (h : RepL (Rep own H e) xs vs L) : RepL (Rep own H' e) xs vs L :=
  h.imp fun x v L' _ hL h => Rep.frame e x v L' (fun i hi => hf i (hL i hi)) h

mutual
/-- What is its own can be read. -/
theorem Rep.read {own : Bool} {H : Heap} : ∀ (t : Kd) (x : t.den) (v : AV) (L : List Id), Rep own H t x v L → Rep false H t x v L
  | .int k, n, v, L, h => h
  | .bool, n, v, L, h => h
  | .str, n, v, L, h => h
  | .st fs, x, v, L, h => ⟨h.1, Reps.read fs x v.cells L h.2⟩
  | .sl sz e, xs, v, L, h => by
    rcases h with h | ⟨h0, z, ts, h1, h2, h3, h4⟩ | ⟨o, g, n, off, len, b, L', h1, h2, h3, h4, h5, h6, h7, h8, h9⟩
    · exact .inl h
    · exact .inr (.inl ⟨rfl, z, ts, h1, h2, h3.imp (fun x v L' _ _ h => Rep.read e x v L' h), h4⟩)
    · exact .inr (.inr ⟨o, g, n, off, len, b, L', h1, h2, h3, h4, h5, h6, h7.imp (fun x v L'' _ hL h => Rep.read e x v L'' h), h8, (fun h => by cases h), h9.2⟩)
theorem Reps.read {own : Bool} {H : Heap} : ∀ (fs : List Kd) (x : Kd.dens fs) (vs : List AV) (L : List Id), Reps own H fs x vs L → Reps false H fs x vs L
  | [], x, [], L, h => h
  | [], x, _ :: _, L, h => h.elim
  | t :: r, x, [], L, h => h.elim
  | t :: r, x, v :: vs, L, ⟨h0, L1, L2, h1, h2, e⟩ => ⟨h0, L1, L2, Rep.read t x.1 v L1 h1, Reps.read r x.2 vs L2 h2, e⟩
end

/-- Of a kind without slices, whoever owns it. -/
theorem Rep.leaf {own own' : Bool} {H H' : Heap} {t : Kd} {x : t.den} {v : AV} {L : List Id} (hs : t.isS = false) (hf : t.flat = true) (h : Rep own H t x v L) : Rep own' H' t x v L ∧ L = [] := by
  cases t with
  | st => simp [Kd.isS] at hs
  | sl => simp [Kd.flat] at hf
  | _ => exact ⟨h, h.2⟩
theorem Reps.flat {own own' : Bool} {H H' : Heap} : ∀ (fs : List Kd) (x : Kd.dens fs) (vs : List AV) (L : List Id), (Kd.st fs).flat = true → Reps own H fs x vs L → Reps own' H' fs x vs L ∧ L = []
  | [], x, [], L, _, h => ⟨h, h⟩
  | [], x, _ :: _, L, _, h => h.elim
  | t :: r, x, [], L, _, h => h.elim
  | t :: r, x, v :: vs, L, hf, ⟨h0, L1, L2, h1, h2, e⟩ => by
    simp only [Kd.flat, List.all_cons, Bool.and_eq_true] at hf
    obtain ⟨a, rfl⟩ := h1.leaf (own' := own') (H' := H') h0 (by cases t <;> simp_all [Kd.flat])
    obtain ⟨b, rfl⟩ := Reps.flat (own' := own') (H' := H') r x.2 vs L2 (by simpa only [Kd.flat] using hf.2) h2
    exact ⟨⟨h0, [], [], a, b, e⟩, by rw [e]; rfl⟩
theorem Rep.flat {own own' : Bool} {H H' : Heap} {t : Kd} {x : t.den} {v : AV} {L : List Id} (hf : t.flat = true) (h : Rep own H t x v L) : Rep own' H' t x v L ∧ L = [] := by
  cases t with
  | st fs => obtain ⟨a, b⟩ := Reps.flat (own' := own') (H' := H') fs x v.cells L hf h.2; exact ⟨⟨h.1, a⟩, b⟩
  | sl => simp [Kd.flat] at hf
  | _ => exact ⟨h, h.2⟩

theorem Reps.len {own : Bool} {H : Heap} : ∀ (fs : List Kd) (x : Kd.dens fs) (vs : List AV) (L : List Id), Reps own H fs x vs L → vs.length = fs.length
  | [], x, [], L, h => rfl
  | [], x, _ :: _, L, h => h.elim
  | t :: r, x, [], L, h => h.elim
  | t :: r, x, v :: vs, L, ⟨h0, L1, L2, h1, h2, e⟩ => by simp [Reps.len r x.2 vs L2 h2]

/-- It may lie in memory. -/
theorem Rep.stor {own : Bool} {H : Heap} {t : Kd} {x : t.den} {v : AV} {L : List Id} (h : Rep own H t x v L) : Go.Am.stor v = true ∧ v.cells.length = t.cn ∧ v.isAgg = t.isS := by
  cases t with
  | int => obtain ⟨rfl, _⟩ := h; exact ⟨rfl, rfl, rfl⟩
  | bool => obtain ⟨rfl, _⟩ := h; exact ⟨rfl, rfl, rfl⟩
  | str => obtain ⟨rfl, _⟩ := h; exact ⟨rfl, rfl, rfl⟩
  | st fs =>
    obtain ⟨h1, h2⟩ := h
    refine ⟨?_, Reps.len fs x _ L h2, h1⟩
    cases v <;> simp_all [AV.isAgg, Go.Am.stor]
  | sl sz e =>
    rcases h with ⟨rfl, _⟩ | ⟨_, z, ts, rfl, _⟩ | ⟨o, g, n, off, len, b, L', rfl, _⟩ <;> exact ⟨rfl, rfl, rfl⟩

theorem Reps.plain {H : Heap} : ∀ (fs : List Kd) (x : Kd.dens fs) (vs : List AV) (L : List Id), Reps true H fs x vs L → ∀ y, AV.c y ∈ vs → y.plain = true
  | [], x, [], L, h, y, hy => by cases hy
  | [], x, _ :: _, L, h, _, _ => h.elim
  | t :: r, x, [], L, h, _, _ => h.elim
  | t :: r, x, v :: vs, L, ⟨h0, L1, L2, h1, h2, e⟩, y, hy => by
    rcases List.mem_cons.1 hy with rfl | hy
    · cases t with
      | st => simp [Kd.isS] at h0
      | sl sz e =>
        rcases h1 with ⟨h, _⟩ | ⟨h, _⟩ | ⟨o, g, n, off, len, b, L', h, _⟩ <;> cases h
      | _ =>
        obtain ⟨h, _⟩ := h1
        cases h; rfl
    · exact Reps.plain r x.2 vs L2 h2 y hy

mutual
/-- What is its own names its own objects alone, and no frozen data. -/
theorem Rep.fine {H : Heap} : ∀ (t : Kd) (x : t.den) (v : AV) (L : List Id), Rep true H t x v L → fineV (· ∈ L) v
  | .int k, n, v, L, h => by obtain ⟨rfl, _⟩ := h; rfl
  | .bool, n, v, L, h => by obtain ⟨rfl, _⟩ := h; rfl
  | .str, n, v, L, h => by obtain ⟨rfl, _⟩ := h; rfl
  | .st fs, x, v, L, h => by
    obtain ⟨h1, h2⟩ := h
    have := Reps.fine fs x v.cells L h2
    cases v with
    | agg cs => exact this
    | c t =>
      cases t with
      | agg ts =>
        show TV.scalar (.agg ts) = true
        simp only [TV.scalar, List.all_eq_true]
        intro y hy
        exact Reps.plain fs x _ L h2 y (by simp [AV.cells, TV.cells]; exact hy)
      | _ => simp [AV.isAgg] at h1
    | _ => simp [AV.isAgg] at h1
  | .sl sz e, xs, v, L, h => by
    rcases h with ⟨rfl, _⟩ | ⟨h0, _⟩ | ⟨o, g, n, off, len, b, L', rfl, h2, h3, h4, h5, h6, h7, h8, h9⟩
    · trivial
    · cases h0
    · subst h8; show o ∈ o :: L'; simp
theorem Reps.fine {H : Heap} : ∀ (fs : List Kd) (x : Kd.dens fs) (vs : List AV) (L : List Id), Reps true H fs x vs L → fineVs (· ∈ L) vs
  | [], x, [], L, h => trivial
  | [], x, _ :: _, L, h => h.elim
  | t :: r, x, [], L, h => h.elim
  | t :: r, x, v :: vs, L, ⟨h0, L1, L2, h1, h2, e⟩ => by
    subst e
    exact ⟨fineV_mono (fun p hp => by simp [hp]) v (Rep.fine t x.1 v L1 h1), fineVs_mono (fun p hp => by simp [hp]) vs (Reps.fine r x.2 vs L2 h2)⟩
end
end Go.Am

/- A machine on typed data: its code is the small machine's; it tells a function of Lean. Definitions. -/
namespace Go.Am
set_option linter.unusedSimpArgs false
set_option linter.unusedVariables false

/-! ### words that the told functions are made of: what they are is told by theorems alone -/
namespace R
def guardK {ρ : Type} (c : Bool) (k : Option ρ) : Option ρ := bif c then k else none
def bndK {ρ : Type} (len : Nat) (l h : Int) (k : Nat → Nat → Option ρ) : Option ρ := if 0 ≤ l ∧ l ≤ h ∧ h ≤ len then k l.toNat (h - l).toNat else none
def iAdd (k : IntKind) (a b : Int) : Int := k.wrap (a + b)
def iSub (k : IntKind) (a b : Int) : Int := k.wrap (a - b)
def iMul (k : IntKind) (a b : Int) : Int := k.wrap (a * b)
def iQuo (k : IntKind) (a b : Int) : Int := k.wrap (a.tdiv b)
def iRem (a b : Int) : Int := a.tmod b
def iAnd (k : IntKind) (a b : Int) : Int := k.wrap (BitVec.ofInt k.bits a &&& BitVec.ofInt k.bits b).toNat
def iOr (k : IntKind) (a b : Int) : Int := k.wrap (BitVec.ofInt k.bits a ||| BitVec.ofInt k.bits b).toNat
def iXor (k : IntKind) (a b : Int) : Int := k.wrap (BitVec.ofInt k.bits a ^^^ BitVec.ofInt k.bits b).toNat
def iAndNot (k : IntKind) (a b : Int) : Int := k.wrap (BitVec.ofInt k.bits a &&& ~~~(BitVec.ofInt k.bits b)).toNat
def iShl (k : IntKind) (a b : Int) : Int := k.wrap (a * 2 ^ (min b.toNat k.bits))
def iShr (k : IntKind) (a b : Int) : Int := a.fdiv (2 ^ (min b.toNat k.bits))
def iEq (a b : Int) : Bool := a == b
def iNe (a b : Int) : Bool := a != b
def iLt (a b : Int) : Bool := decide (a < b)
def iLe (a b : Int) : Bool := decide (a ≤ b)
def iGt (a b : Int) : Bool := decide (a > b)
def iGe (a b : Int) : Bool := decide (a ≥ b)
def iConv (k : IntKind) (n : Int) : Int := k.wrap n
def bEq (a b : Bool) : Bool := a == b
def bNe (a b : Bool) : Bool := a != b
def bNot (a : Bool) : Bool := !a
def bAnd (a b : Bool) : Bool := a && b
def bOr (a b : Bool) : Bool := a || b
def gNz (b : Int) : Bool := decide (b ≠ 0)
def gNn (b : Int) : Bool := decide (0 ≤ b)
def gCat (a b : List UInt8) : Bool := decide (a.length + b.length ≤ 140737488355328)
def gApp {α : Type} (xs ys : List α) (sz : Nat) : Bool := decide ((xs.length + ys.length) * sz ≤ 4294967296)
def gMk (m : Int) (sz : Nat) : Bool := decide (0 ≤ m ∧ m * sz ≤ 4294967296)
def gS2b (s : List UInt8) : Bool := decide (s.length ≤ 4294967296)
def gLt (a b : Nat) : Bool := decide (a < b)
def gZero (a b : Int) : Bool := decide (a = 0 ∧ b = 0)
def strLess (a b : List UInt8) : Bool := Go.Op.bytesLess a b
def strEq (a b : List UInt8) : Bool := a == b
def cat {α : Type} (a b : List α) : List α := a ++ b
def lenI {α : Type} (a : List α) : Int := (a.length : Int)
def lenN {α : Type} (a : List α) : Nat := a.length
def ofN (n : Nat) : Int := n
def toN (n : Int) : Nat := n.toNat
def addN (n m : Nat) : Nat := n + m
def sub {α : Type} (a : List α) (l n : Nat) : List α := (a.drop l).take n
def dropL {α : Type} (l : Nat) (a : List α) : List α := a.drop l
def setL {α : Type} (a : List α) (i : Nat) (y : α) : List α := a.set i y
def repL {α : Type} (n : Nat) (y : α) : List α := List.replicate n y
def byteI (b : UInt8) : Int := (b.toNat : Int)
def bytesP (s : List UInt8) : List Int := s.map byteI
def strP (s : List Int) : List UInt8 := s.map fun n => UInt8.ofNat n.toNat
def litS (s : List Nat) : List UInt8 := s.map UInt8.ofNat
def iMin (a b : Int) : Int := if b < a then b else a
def iMax (a b : Int) : Int := if b > a then b else a
def idxK {α ρ : Type} (xs : List α) (i : Int) (k : α → Option ρ) : Option ρ := if 0 ≤ i then (match xs[i.toNat]? with | some x => k x | none => none) else none
def bindK {α ρ : Type} (o : Option α) (k : α → Option ρ) : Option ρ := match o with | some a => k a | none => none
def joinK {σ ρ : Type} (k : σ → Option ρ) (b : (σ → Option ρ) → Option ρ) : Option ρ := b k
def loopF {σ ρ : Type} (F : (σ → Option ρ) → σ → Option ρ) : Nat → σ → Option ρ
  | 0, _ => none
  | n + 1, s => F (loopF F n) s
end R
structure Words : Type 1 where
  guardK {ρ : Type} (c : Bool) (k : Option ρ) : Option ρ
  bndK {ρ : Type} (len : Nat) (l h : Int) (k : Nat → Nat → Option ρ) : Option ρ
  iAdd (k : IntKind) (a b : Int) : Int
  iSub (k : IntKind) (a b : Int) : Int
  iMul (k : IntKind) (a b : Int) : Int
  iQuo (k : IntKind) (a b : Int) : Int
  iRem (a b : Int) : Int
  iAnd (k : IntKind) (a b : Int) : Int
  iOr (k : IntKind) (a b : Int) : Int
  iXor (k : IntKind) (a b : Int) : Int
  iAndNot (k : IntKind) (a b : Int) : Int
  iShl (k : IntKind) (a b : Int) : Int
  iShr (k : IntKind) (a b : Int) : Int
  iEq (a b : Int) : Bool
  iNe (a b : Int) : Bool
  iLt (a b : Int) : Bool
  iLe (a b : Int) : Bool
  iGt (a b : Int) : Bool
  iGe (a b : Int) : Bool
  iConv (k : IntKind) (n : Int) : Int
  bEq (a b : Bool) : Bool
  bNe (a b : Bool) : Bool
  bNot (a : Bool) : Bool
  bAnd (a b : Bool) : Bool
  bOr (a b : Bool) : Bool
  gNz (b : Int) : Bool
  gNn (b : Int) : Bool
  gCat (a b : List UInt8) : Bool
  gApp {α : Type} (xs ys : List α) (sz : Nat) : Bool
  gMk (m : Int) (sz : Nat) : Bool
  gS2b (s : List UInt8) : Bool
  gLt (a b : Nat) : Bool
  gZero (a b : Int) : Bool
  strLess (a b : List UInt8) : Bool
  strEq (a b : List UInt8) : Bool
  cat {α : Type} (a b : List α) : List α
  lenI {α : Type} (a : List α) : Int
  lenN {α : Type} (a : List α) : Nat
  ofN (n : Nat) : Int
  toN (n : Int) : Nat
  addN (n m : Nat) : Nat
  sub {α : Type} (a : List α) (l n : Nat) : List α
  dropL {α : Type} (l : Nat) (a : List α) : List α
  setL {α : Type} (a : List α) (i : Nat) (y : α) : List α
  repL {α : Type} (n : Nat) (y : α) : List α
  byteI (b : UInt8) : Int
  bytesP (s : List UInt8) : List Int
  strP (s : List Int) : List UInt8
  litS (s : List Nat) : List UInt8
  iMin (a b : Int) : Int
  iMax (a b : Int) : Int
  idxK {α ρ : Type} (xs : List α) (i : Int) (k : α → Option ρ) : Option ρ
  bindK {α ρ : Type} (o : Option α) (k : α → Option ρ) : Option ρ
  joinK {σ ρ : Type} (k : σ → Option ρ) (b : (σ → Option ρ) → Option ρ) : Option ρ
  loopF {σ ρ : Type} (F : (σ → Option ρ) → σ → Option ρ) (n : Nat) (s : σ) : Option ρ
def RW : Words := { guardK := R.guardK, bndK := R.bndK, iAdd := R.iAdd, iSub := R.iSub, iMul := R.iMul, iQuo := R.iQuo, iRem := R.iRem, iAnd := R.iAnd, iOr := R.iOr, iXor := R.iXor, iAndNot := R.iAndNot, iShl := R.iShl, iShr := R.iShr, iEq := R.iEq, iNe := R.iNe, iLt := R.iLt, iLe := R.iLe, iGt := R.iGt, iGe := R.iGe, iConv := R.iConv, bEq := R.bEq, bNe := R.bNe, bNot := R.bNot, bAnd := R.bAnd, bOr := R.bOr, gNz := R.gNz, gNn := R.gNn, gCat := R.gCat, gApp := R.gApp, gMk := R.gMk, gS2b := R.gS2b, gLt := R.gLt, gZero := R.gZero, strLess := R.strLess, strEq := R.strEq, cat := R.cat, lenI := R.lenI, lenN := R.lenN, ofN := R.ofN, toN := R.toN, addN := R.addN, sub := R.sub, dropL := R.dropL, setL := R.setL, repL := R.repL, byteI := R.byteI, bytesP := R.bytesP, strP := R.strP, litS := R.litS, iMin := R.iMin, iMax := R.iMax, idxK := R.idxK, bindK := R.bindK, joinK := R.joinK, loopF := R.loopF }
theorem words_ex : ∃ W : Words, W = RW := ⟨RW, rfl⟩
noncomputable section
def WW : Words := Classical.choose words_ex
theorem WW_eq : WW = RW := Classical.choose_spec words_ex
def guardK {ρ : Type} (c : Bool) (k : Option ρ) : Option ρ := WW.guardK c k
def bndK {ρ : Type} (len : Nat) (l h : Int) (k : Nat → Nat → Option ρ) : Option ρ := WW.bndK len l h k
def iAdd (k : IntKind) (a b : Int) : Int := WW.iAdd k a b
def iSub (k : IntKind) (a b : Int) : Int := WW.iSub k a b
def iMul (k : IntKind) (a b : Int) : Int := WW.iMul k a b
def iQuo (k : IntKind) (a b : Int) : Int := WW.iQuo k a b
def iRem (a b : Int) : Int := WW.iRem a b
def iAnd (k : IntKind) (a b : Int) : Int := WW.iAnd k a b
def iOr (k : IntKind) (a b : Int) : Int := WW.iOr k a b
def iXor (k : IntKind) (a b : Int) : Int := WW.iXor k a b
def iAndNot (k : IntKind) (a b : Int) : Int := WW.iAndNot k a b
def iShl (k : IntKind) (a b : Int) : Int := WW.iShl k a b
def iShr (k : IntKind) (a b : Int) : Int := WW.iShr k a b
def iEq (a b : Int) : Bool := WW.iEq a b
def iNe (a b : Int) : Bool := WW.iNe a b
def iLt (a b : Int) : Bool := WW.iLt a b
def iLe (a b : Int) : Bool := WW.iLe a b
def iGt (a b : Int) : Bool := WW.iGt a b
def iGe (a b : Int) : Bool := WW.iGe a b
def iConv (k : IntKind) (n : Int) : Int := WW.iConv k n
def bEq (a b : Bool) : Bool := WW.bEq a b
def bNe (a b : Bool) : Bool := WW.bNe a b
def bNot (a : Bool) : Bool := WW.bNot a
def bAnd (a b : Bool) : Bool := WW.bAnd a b
def bOr (a b : Bool) : Bool := WW.bOr a b
def gNz (b : Int) : Bool := WW.gNz b
def gNn (b : Int) : Bool := WW.gNn b
def gCat (a b : List UInt8) : Bool := WW.gCat a b
def gApp {α : Type} (xs ys : List α) (sz : Nat) : Bool := WW.gApp xs ys sz
def gMk (m : Int) (sz : Nat) : Bool := WW.gMk m sz
def gS2b (s : List UInt8) : Bool := WW.gS2b s
def gLt (a b : Nat) : Bool := WW.gLt a b
def gZero (a b : Int) : Bool := WW.gZero a b
def strLess (a b : List UInt8) : Bool := WW.strLess a b
def strEq (a b : List UInt8) : Bool := WW.strEq a b
def cat {α : Type} (a b : List α) : List α := WW.cat a b
def lenI {α : Type} (a : List α) : Int := WW.lenI a
def lenN {α : Type} (a : List α) : Nat := WW.lenN a
def ofN (n : Nat) : Int := WW.ofN n
def toN (n : Int) : Nat := WW.toN n
def addN (n m : Nat) : Nat := WW.addN n m
def sub {α : Type} (a : List α) (l n : Nat) : List α := WW.sub a l n
def dropL {α : Type} (l : Nat) (a : List α) : List α := WW.dropL l a
def setL {α : Type} (a : List α) (i : Nat) (y : α) : List α := WW.setL a i y
def repL {α : Type} (n : Nat) (y : α) : List α := WW.repL n y
def byteI (b : UInt8) : Int := WW.byteI b
def bytesP (s : List UInt8) : List Int := WW.bytesP s
def strP (s : List Int) : List UInt8 := WW.strP s
def litS (s : List Nat) : List UInt8 := WW.litS s
def iMin (a b : Int) : Int := WW.iMin a b
def iMax (a b : Int) : Int := WW.iMax a b
def idxK {α ρ : Type} (xs : List α) (i : Int) (k : α → Option ρ) : Option ρ := WW.idxK xs i k
def bindK {α ρ : Type} (o : Option α) (k : α → Option ρ) : Option ρ := WW.bindK o k
def joinK {σ ρ : Type} (k : σ → Option ρ) (b : (σ → Option ρ) → Option ρ) : Option ρ := WW.joinK k b
def loopF {σ ρ : Type} (F : (σ → Option ρ) → σ → Option ρ) (n : Nat) (s : σ) : Option ρ := WW.loopF F n s
theorem guardK_def {ρ : Type} (c : Bool) (k : Option ρ) : guardK c k = (bif c then k else none) := by unfold guardK; rw [WW_eq]; rfl
theorem bndK_def {ρ : Type} (len : Nat) (l h : Int) (k : Nat → Nat → Option ρ) : bndK len l h k = (if 0 ≤ l ∧ l ≤ h ∧ h ≤ len then k l.toNat (h - l).toNat else none) := by unfold bndK; rw [WW_eq]; rfl
theorem iAdd_def (k : IntKind) (a b : Int) : iAdd k a b = (k.wrap (a + b)) := by unfold iAdd; rw [WW_eq]; rfl
theorem iSub_def (k : IntKind) (a b : Int) : iSub k a b = (k.wrap (a - b)) := by unfold iSub; rw [WW_eq]; rfl
theorem iMul_def (k : IntKind) (a b : Int) : iMul k a b = (k.wrap (a * b)) := by unfold iMul; rw [WW_eq]; rfl
theorem iQuo_def (k : IntKind) (a b : Int) : iQuo k a b = (k.wrap (a.tdiv b)) := by unfold iQuo; rw [WW_eq]; rfl
theorem iRem_def (a b : Int) : iRem a b = (a.tmod b) := by unfold iRem; rw [WW_eq]; rfl
theorem iAnd_def (k : IntKind) (a b : Int) : iAnd k a b = (k.wrap (BitVec.ofInt k.bits a &&& BitVec.ofInt k.bits b).toNat) := by unfold iAnd; rw [WW_eq]; rfl
theorem iOr_def (k : IntKind) (a b : Int) : iOr k a b = (k.wrap (BitVec.ofInt k.bits a ||| BitVec.ofInt k.bits b).toNat) := by unfold iOr; rw [WW_eq]; rfl
theorem iXor_def (k : IntKind) (a b : Int) : iXor k a b = (k.wrap (BitVec.ofInt k.bits a ^^^ BitVec.ofInt k.bits b).toNat) := by unfold iXor; rw [WW_eq]; rfl
theorem iAndNot_def (k : IntKind) (a b : Int) : iAndNot k a b = (k.wrap (BitVec.ofInt k.bits a &&& ~~~(BitVec.ofInt k.bits b)).toNat) := by unfold iAndNot; rw [WW_eq]; rfl
theorem iShl_def (k : IntKind) (a b : Int) : iShl k a b = (k.wrap (a * 2 ^ (min b.toNat k.bits))) := by unfold iShl; rw [WW_eq]; rfl
theorem iShr_def (k : IntKind) (a b : Int) : iShr k a b = (a.fdiv (2 ^ (min b.toNat k.bits))) := by unfold iShr; rw [WW_eq]; rfl
theorem iEq_def (a b : Int) : iEq a b = (a == b) := by unfold iEq; rw [WW_eq]; rfl
theorem iNe_def (a b : Int) : iNe a b = (a != b) := by unfold iNe; rw [WW_eq]; rfl
theorem iLt_def (a b : Int) : iLt a b = (decide (a < b)) := by unfold iLt; rw [WW_eq]; rfl
theorem iLe_def (a b : Int) : iLe a b = (decide (a ≤ b)) := by unfold iLe; rw [WW_eq]; rfl
theorem iGt_def (a b : Int) : iGt a b = (decide (a > b)) := by unfold iGt; rw [WW_eq]; rfl
theorem iGe_def (a b : Int) : iGe a b = (decide (a ≥ b)) := by unfold iGe; rw [WW_eq]; rfl
theorem iConv_def (k : IntKind) (n : Int) : iConv k n = (k.wrap n) := by unfold iConv; rw [WW_eq]; rfl
theorem bEq_def (a b : Bool) : bEq a b = (a == b) := by unfold bEq; rw [WW_eq]; rfl
theorem bNe_def (a b : Bool) : bNe a b = (a != b) := by unfold bNe; rw [WW_eq]; rfl
theorem bNot_def (a : Bool) : bNot a = (!a) := by unfold bNot; rw [WW_eq]; rfl
theorem bAnd_def (a b : Bool) : bAnd a b = (a && b) := by unfold bAnd; rw [WW_eq]; rfl
theorem bOr_def (a b : Bool) : bOr a b = (a || b) := by unfold bOr; rw [WW_eq]; rfl
theorem gNz_def (b : Int) : gNz b = (decide (b ≠ 0)) := by unfold gNz; rw [WW_eq]; rfl
theorem gNn_def (b : Int) : gNn b = (decide (0 ≤ b)) := by unfold gNn; rw [WW_eq]; rfl
theorem gCat_def (a b : List UInt8) : gCat a b = (decide (a.length + b.length ≤ 140737488355328)) := by unfold gCat; rw [WW_eq]; rfl
theorem gApp_def {α : Type} (xs ys : List α) (sz : Nat) : gApp xs ys sz = (decide ((xs.length + ys.length) * sz ≤ 4294967296)) := by unfold gApp; rw [WW_eq]; rfl
theorem gMk_def (m : Int) (sz : Nat) : gMk m sz = (decide (0 ≤ m ∧ m * sz ≤ 4294967296)) := by unfold gMk; rw [WW_eq]; rfl
theorem gS2b_def (s : List UInt8) : gS2b s = (decide (s.length ≤ 4294967296)) := by unfold gS2b; rw [WW_eq]; rfl
theorem gLt_def (a b : Nat) : gLt a b = (decide (a < b)) := by unfold gLt; rw [WW_eq]; rfl
theorem gZero_def (a b : Int) : gZero a b = (decide (a = 0 ∧ b = 0)) := by unfold gZero; rw [WW_eq]; rfl
theorem strLess_def (a b : List UInt8) : strLess a b = (Go.Op.bytesLess a b) := by unfold strLess; rw [WW_eq]; rfl
theorem strEq_def (a b : List UInt8) : strEq a b = (a == b) := by unfold strEq; rw [WW_eq]; rfl
theorem cat_def {α : Type} (a b : List α) : cat a b = (a ++ b) := by unfold cat; rw [WW_eq]; rfl
theorem lenI_def {α : Type} (a : List α) : lenI a = ((a.length : Int)) := by unfold lenI; rw [WW_eq]; rfl
theorem lenN_def {α : Type} (a : List α) : lenN a = (a.length) := by unfold lenN; rw [WW_eq]; rfl
theorem ofN_def (n : Nat) : ofN n = (n) := by unfold ofN; rw [WW_eq]; rfl
theorem toN_def (n : Int) : toN n = (n.toNat) := by unfold toN; rw [WW_eq]; rfl
theorem addN_def (n m : Nat) : addN n m = (n + m) := by unfold addN; rw [WW_eq]; rfl
theorem sub_def {α : Type} (a : List α) (l n : Nat) : sub a l n = ((a.drop l).take n) := by unfold sub; rw [WW_eq]; rfl
theorem dropL_def {α : Type} (l : Nat) (a : List α) : dropL l a = (a.drop l) := by unfold dropL; rw [WW_eq]; rfl
theorem setL_def {α : Type} (a : List α) (i : Nat) (y : α) : setL a i y = (a.set i y) := by unfold setL; rw [WW_eq]; rfl
theorem repL_def {α : Type} (n : Nat) (y : α) : repL n y = (List.replicate n y) := by unfold repL; rw [WW_eq]; rfl
theorem byteI_def (b : UInt8) : byteI b = ((b.toNat : Int)) := by unfold byteI; rw [WW_eq]; rfl
theorem bytesP_def (s : List UInt8) : bytesP s = s.map byteI := by
  unfold bytesP; rw [WW_eq]
  show s.map R.byteI = s.map byteI
  rw [show byteI = R.byteI from funext fun b => byteI_def b]
theorem strP_def (s : List Int) : strP s = (s.map fun n => UInt8.ofNat n.toNat) := by unfold strP; rw [WW_eq]; rfl
theorem litS_def (s : List Nat) : litS s = (s.map UInt8.ofNat) := by unfold litS; rw [WW_eq]; rfl
theorem iMin_def (a b : Int) : iMin a b = (if b < a then b else a) := by unfold iMin; rw [WW_eq]; rfl
theorem iMax_def (a b : Int) : iMax a b = (if b > a then b else a) := by unfold iMax; rw [WW_eq]; rfl
theorem idxK_def {α ρ : Type} (xs : List α) (i : Int) (k : α → Option ρ) : idxK xs i k = (if 0 ≤ i then (match xs[i.toNat]? with | some x => k x | none => none) else none) := by unfold idxK; rw [WW_eq]; rfl
theorem bindK_def {α ρ : Type} (o : Option α) (k : α → Option ρ) : bindK o k = (match o with | some a => k a | none => none) := by unfold bindK; rw [WW_eq]; rfl
theorem joinK_def {σ ρ : Type} (k : σ → Option ρ) (b : (σ → Option ρ) → Option ρ) : joinK k b = (b k) := by unfold joinK; rw [WW_eq]; rfl
theorem loopF_eq {σ ρ : Type} (F : (σ → Option ρ) → σ → Option ρ) (n : Nat) (s : σ) : loopF F n s = R.loopF F n s := by unfold loopF; rw [WW_eq]; rfl
theorem loopF_zero {σ ρ : Type} (F : (σ → Option ρ) → σ → Option ρ) (s : σ) : loopF F 0 s = none := loopF_eq F 0 s
theorem loopF_succ {σ ρ : Type} (F : (σ → Option ρ) → σ → Option ρ) (n : Nat) (s : σ) : loopF F (n + 1) s = F (loopF F n) s := by
  rw [loopF_eq]
  show F (R.loopF F n) s = _
  rw [show R.loopF F n = loopF F n from funext fun s => (loopF_eq F n s).symm]

/-! ### values -/
inductive PV where
  | d (p : Bool) (t : Kd) (x : t.den)
  | agg (cs : List PV)
  | nils
  | own (a : Nat)
  | win (a off len : Nat)
  | cp (a off : Nat)
  | ep (a ver i off : Nat) (e : Kd) (x : e.den)
  | tp (p : Bool) (e : Kd) (x : e.den) (off : Nat)
  | kp (tmp : Nat) (v : PV) (off : Nat)
  | fn (f : Nat) (caps : List PV)
  | tup (l : List PV)
  | undef
  deriving Inhabited

inductive PObj where
  | sl (ro : Bool) (ver : Nat) (tmp : Option Nat) (sz : Nat) (e : Kd) (deep : Bool) (xs : List e.den)
  | cell (ro : Bool) (tmp : Option Nat) (v : PV)

def tmpO : PObj → Option Nat
  | .sl _ _ tmp _ _ _ _ => tmp
  | .cell _ tmp _ => tmp
def roOf : PObj → Bool
  | .sl ro _ _ _ _ _ _ => ro
  | .cell ro _ _ => ro

structure PS where
  env : List (Nat × PV)
  anc : List PV
  heap : List (Option PObj)

def look : List (Nat × PV) → Nat → PV
  | [], _ => .undef
  | (a, v) :: r, t => match Nat.beq a t with | true => v | false => look r t
def hget : List (Option PObj) → Nat → Option PObj
  | [], _ => none
  | o :: _, 0 => o
  | _ :: r, n + 1 => hget r n
def hset : List (Option PObj) → Nat → Option PObj → List (Option PObj)
  | [], _, _ => []
  | _ :: r, 0, x => x :: r
  | o :: r, n + 1, x => o :: hset r n x
def PS.put (ps : PS) : Option Nat → PV → PS
  | none, _ => ps
  | some t, v => { ps with env := (t, v) :: ps.env }

def leafsP (p : Bool) : (fs : List Kd) → Kd.dens fs → List PV
  | [], _ => []
  | t :: r, x => .d p t x.1 :: leafsP p r x.2
def PV.cells : PV → List PV
  | .agg cs => cs
  | .d p (.st fs) x => leafsP p fs x
  | v => [v]
def PV.isAgg : PV → Bool
  | .agg _ => true
  | .d _ (.st _) _ => true
  | _ => false

def castK (t t' : Kd) (x : t.den) : Option t'.den := if h : Kd.beq t t' = true then some (Kd.beq_eq t t' h ▸ x) else none

/-! ### reading -/
def asLeaf (hp : List (Option PObj)) (t : Kd) : PV → Option t.den
  | .d _ t' x => castK t' t x
  | .nils => match t with | .sl sz e => some ([] : List e.den) | _ => none
  | .own a => match hget hp a with | some (.sl _ _ _ sz e _ xs) => castK (.sl sz e) t xs | _ => none
  | .win a off len => match hget hp a with | some (.sl _ _ _ sz e _ xs) => castK (.sl sz e) t (sub xs off len) | _ => none
  | _ => none
def asDs (hp : List (Option PObj)) : (fs : List Kd) → List PV → Option (Kd.dens fs)
  | [], [] => some ()
  | t :: r, v :: q => match t.isS, asLeaf hp t v, asDs hp r q with | false, some x, some y => some (x, y) | _, _, _ => none
  | _, _ => none
def asSt (hp : List (Option PObj)) (fs : List Kd) : PV → Option (Kd.dens fs)
  | .agg cs => asDs hp fs cs
  | .d _ t' x => castK t' (.st fs) x
  | _ => none
def asD (hp : List (Option PObj)) : (t : Kd) → PV → Option t.den
  | .st fs, v => asSt hp fs v
  | .int k, v => asLeaf hp (.int k) v
  | .bool, v => asLeaf hp .bool v
  | .str, v => asLeaf hp .str v
  | .sl sz e, v => asLeaf hp (.sl sz e) v

/-- No live object in it but those that are named. -/
def freeLeaf : PV → Bool
  | .d p t _ => p || t.flat
  | .nils | .own _ | .win _ _ _ => true
  | _ => false
def freeV : PV → Bool
  | .agg cs => cs.all freeLeaf
  | v => freeLeaf v
def nameLeaf : PV → List Nat
  | .own a => [a]
  | .win a _ _ => [a]
  | _ => []
def namesV : PV → List Nat
  | .agg cs => cs.flatMap nameLeaf
  | v => nameLeaf v

def intP : PV → Option (IntKind × Int)
  | .d _ (.int k) n => some (k, n)
  | _ => none
def boolP : PV → Option Bool
  | .d _ .bool b => some b
  | _ => none
def bytP : PV → Option (List UInt8)
  | .d _ .str s => some s
  | _ => none
def scalarLeaf : PV → Bool
  | .d _ t _ => t.flat && !t.isS
  | _ => false

/-! ### what is its own -/
def ownSl (hp : List (Option PObj)) (sz : Nat) (e : Kd) : PV → Option (List e.den × List Nat)
  | .nils => some ([], [])
  | .own a => match hget hp a with
    | some (.sl false _ none sz' e' true xs) => (match castK (.sl sz' e') (.sl sz e) xs with | some x => some (x, [a]) | none => none)
    | _ => none
  | _ => none
def plainL (hp : List (Option PObj)) (t : Kd) (v : PV) : Option (t.den × List Nat) := match asLeaf hp t v with | some x => some (x, []) | none => none
def ownLeaf (hp : List (Option PObj)) : (t : Kd) → PV → Option (t.den × List Nat)
  | .sl sz e, v => ownSl hp sz e v
  | .st fs, v => plainL hp (.st fs) v
  | .int k, v => plainL hp (.int k) v
  | .bool, v => plainL hp .bool v
  | .str, v => plainL hp .str v
def ownLeafs (hp : List (Option PObj)) : (fs : List Kd) → List PV → Option (Kd.dens fs × List Nat)
  | [], [] => some ((), [])
  | t :: r, v :: q => match t.isS, ownLeaf hp t v, ownLeafs hp r q with | false, some (x, a), some (y, b) => some ((x, y), a ++ b) | _, _, _ => none
  | _, _ => none
def asOwn (hp : List (Option PObj)) : (t : Kd) → PV → Option (t.den × List Nat)
  | .st fs, v => match v.isAgg with | true => ownLeafs hp fs v.cells | false => none
  | .int k, v => ownLeaf hp (.int k) v
  | .bool, v => ownLeaf hp .bool v
  | .str, v => ownLeaf hp .str v
  | .sl sz e, v => ownLeaf hp (.sl sz e) v

def ownifyL (n : Nat) : (t : Kd) → t.den → PV × List (Option PObj)
  | .sl sz e, x => (.own n, [some (.sl false 0 none sz e true x)])
  | t, x => (.d true t x, [])
def ownifyS : (n : Nat) → (fs : List Kd) → Kd.dens fs → List PV × List (Option PObj)
  | _, [], _ => ([], [])
  | n, t :: r, x => match ownifyL n t x.1 with
    | (v, o) => match ownifyS (n + o.length) r x.2 with | (vs, os) => (v :: vs, o ++ os)
def ownify (n : Nat) : (t : Kd) → t.den → PV × List (Option PObj)
  | .st fs, x => match ownifyS n fs x with | (vs, os) => (.agg vs, os)
  | t, x => ownifyL n t x

def delN : List (Option PObj) → List Nat → List (Option PObj)
  | hp, [] => hp
  | hp, a :: r => delN (hset hp a none) r

/-! ### operations -/
abbrev Hints := List (Nat × Kd × Bool)
def hintOf : Hints → Nat → Option (Kd × Bool)
  | [], _ => none
  | (a, k) :: r, t => match Nat.beq a t with | true => some k | false => hintOf r t
def elemHint (hn : Hints) : Option Nat → Option (Nat × Kd)
  | some t => match hintOf hn t with | some (.sl sz e, _) => some (sz, e) | _ => none
  | none => none

def constV : Value → PV
  | .int k n => .d true (.int k) n
  | .bool b => .d true .bool b
  | .string s => .d true .str (litS (s.data.toList.map UInt8.toNat))
  | _ => .undef
def constA : AV → PV
  | .c (.s v) => constV v
  | .agg cs => .agg (go cs)
  | .nils => .nils
  | .fn f [] => .fn f []
  | _ => .undef
where go : List AV → List PV
  | [] => []
  | .c (.s v) :: r => constV v :: go r
  | .nils :: r => .nils :: go r
  | _ :: r => .undef :: go r

def pev (ps : PS) : Opd → PV
  | .t n => look ps.env n
  | .k v => constA v

/-- A value that hangs on no object but such as are never written. -/
def pureLeaf : PV → Bool
  | .d p t _ => p || t.flat
  | .nils => true
  | _ => false
def pureV : PV → Bool
  | .agg cs => cs.all pureLeaf
  | .fn _ cs => cs.all pureLeaf
  | .tp p _ _ _ => p
  | .kp _ v _ => (match v with | .agg cs => cs.all pureLeaf | v => pureLeaf v)
  | v => pureLeaf v
mutual
/-- Does it point to what this place holds? -/
def hasKp (t : Nat) : PV → Bool
  | .kp t' _ _ => Nat.beq t t'
  | .fn _ cs => hasKps t cs
  | .agg cs => hasKps t cs
  | .tup cs => hasKps t cs
  | _ => false
def hasKps (t : Nat) : List PV → Bool
  | [] => false
  | v :: r => hasKp t v || hasKps t r
end
/-- What a place held that is laid anew. -/
def killE (t : Nat) : List (Nat × PV) → List (Nat × PV)
  | [] => []
  | (u, v) :: r => (u, match hasKp t v with | true => .undef | false => v) :: killE t r
/-- What a cell may hold. -/
def cellLeaf : PV → Bool
  | .d _ t _ => !t.isS
  | .nils | .own _ => true
  | _ => false
def cellOK : PV → Bool
  | .agg cs => cs.all cellLeaf && !cs.isEmpty
  | .d _ (.st fs) _ => !fs.isEmpty
  | v => cellLeaf v

/-- The cells and slices that an instruction made the last time are gone. -/
def delO (t : Nat) : Option PObj → Option PObj
  | some ob => (match tmpO ob with
    | some u => (match Nat.beq u t with | true => none | false => some ob)
    | none => some ob)
  | none => none
def delT (t : Nat) (hp : List (Option PObj)) : List (Option PObj) := hp.map (delO t)

def PS.new (ps : PS) (o : PObj) : PS := { ps with heap := ps.heap ++ [some o] }

section
variable {ρ : Type}

def binI (op : BinOp) (kd : IntKind) (a b : Int) (k : PV → Option ρ) : Option ρ :=
  match op with
  | .add => k (.d true (.int kd) (iAdd kd a b))
  | .sub => k (.d true (.int kd) (iSub kd a b))
  | .mul => k (.d true (.int kd) (iMul kd a b))
  | .quo => guardK (gNz b) (k (.d true (.int kd) (iQuo kd a b)))
  | .rem => guardK (gNz b) (k (.d true (.int kd) (iRem a b)))
  | .and => k (.d true (.int kd) (iAnd kd a b))
  | .or => k (.d true (.int kd) (iOr kd a b))
  | .xor => k (.d true (.int kd) (iXor kd a b))
  | .andNot => k (.d true (.int kd) (iAndNot kd a b))
  | .eql => k (.d true .bool (iEq a b))
  | .neq => k (.d true .bool (iNe a b))
  | .lss => k (.d true .bool (iLt a b))
  | .leq => k (.d true .bool (iLe a b))
  | .gtr => k (.d true .bool (iGt a b))
  | .geq => k (.d true .bool (iGe a b))
  | .shl => guardK (gNn b) (k (.d true (.int kd) (iShl kd a b)))
  | .shr => guardK (gNn b) (k (.d true (.int kd) (iShr kd a b)))
def isShift : BinOp → Bool
  | .shl | .shr => true
  | _ => false
def binS' (op : BinOp) (a b : List UInt8) (k : PV → Option ρ) : Option ρ :=
  match op with
  | .add => guardK (gCat a b) (k (.d true .str (cat a b)))
  | .eql => k (.d true .bool (strEq a b))
  | .neq => k (.d true .bool (bNot (strEq a b)))
  | .lss => k (.d true .bool (strLess a b))
  | .leq => k (.d true .bool (bOr (strLess a b) (strEq a b)))
  | .gtr => k (.d true .bool (bNot (bOr (strLess a b) (strEq a b))))
  | .geq => k (.d true .bool (bNot (strLess a b)))
  | _ => none

def eqLeaf (l : Lf) (x y : PV) : Option Bool :=
  match l with
  | .i => match intP x, intP y with | some (k, a), some (k', b) => if k = k' then some (iEq a b) else none | _, _ => none
  | .s => match bytP x, bytP y with | some a, some b => some (strEq a b) | _, _ => none
  | .b => match boolP x, boolP y with | some a, some b => some (bEq a b) | _, _ => none
def eqLeafs : List Lf → List PV → List PV → Option Bool
  | [], [], [] => some true
  | [l], [x], [y] => eqLeaf l x y
  | l :: ls, x :: r, y :: q => match eqLeaf l x y, eqLeafs ls r q with | some a, some b => some (bAnd a b) | _, _ => none
  | _, _, _ => none

def intsOf : List PV → Option (List Int)
  | [] => some []
  | v :: r => match intP v, intsOf r with | some (.i64, n), some l => some (n :: l) | _, _ => none
def minmaxI (mx : Bool) : List Int → Int → Int
  | [], a => a
  | b :: r, a => minmaxI mx r (match mx with | true => iMax a b | false => iMin a b)

def optP (ps : PS) : Option Opd → Option (Option Int)
  | none => some none
  | some y => match intP (pev ps y) with | some (_, n) => some (some n) | none => none

def boundK (len : Nat) (lo hi : Option Int) (k : Nat → Nat → Option ρ) : Option ρ :=
  bndK len (match lo with | some l => l | none => 0) (match hi with | some h => h | none => ofN len) k

/-- Elements out of values; the names that are used up; whether they are their own. -/
def elemsP (hp : List (Option PObj)) (e : Kd) : List PV → Option (List e.den × List Nat × Bool)
  | [] => some ([], [], true)
  | v :: r => match elemsP hp e r with
    | some (xs, ns, ow) => (match asOwn hp e v with
      | some (x, m) => some (x :: xs, m ++ ns, ow)
      | none => match asD hp e v, namesV v with | some x, [] => some (x :: xs, ns, false) | _, _ => none)
    | none => none

/-- What 'append' takes from: elements, the name used up, whether they are their own. -/
def srcP (hp : List (Option PObj)) (sz : Nat) (e : Kd) : PV → Option (List e.den × Option Nat × Bool)
  | .own a => match hget hp a with
    | some (.sl ro _ _ sz' e' dp xs) => (match castK (.sl sz' e') (.sl sz e) xs with | some x => some (x, some a, dp && !ro) | none => none)
    | _ => none
  | .win a off len => match hget hp a with
    | some (.sl _ _ _ sz' e' dp xs) => (match castK (.sl sz' e') (.sl sz e) (sub xs off len) with | some x => some (x, none, e.flat) | none => none)
    | _ => none
  | .d _ .str s => match castK (.sl 1 (.int .u8)) (.sl sz e) (bytesP s) with | some x => some (x, none, e.flat) | none => none
  | .d _ (.sl sz' e') x => match castK (.sl sz' e') (.sl sz e) x with | some x => some (x, none, e.flat) | none => none
  | .nils => some ([], none, true)
  | _ => none
def srcTy (hp : List (Option PObj)) : PV → Option (Nat × Kd)
  | .own a => match hget hp a with | some (.sl _ _ _ sz e _ _) => some (sz, e) | _ => none
  | .win a _ _ => match hget hp a with | some (.sl _ _ _ sz e _ _) => some (sz, e) | _ => none
  | .d _ (.sl sz e) _ => some (sz, e)
  | .d _ .str _ => some (1, .int .u8)
  | _ => none
def opt1 {α : Type} : Option α → List α
  | some a => [a]
  | none => []

def nodupB : List Nat → Bool
  | [] => true
  | a :: r => !r.elem a && nodupB r
def delTo : Option Nat → List (Option PObj) → List (Option PObj)
  | some t, hp => delT t hp
  | none, hp => hp
def killTo : Option Nat → List (Nat × PV) → List (Nat × PV)
  | some t, e => killE t e
  | none, e => e
/-- A new slice, for which some names are given up. -/
def PS.newSl (ps : PS) (tm : Option Nat) (ds : List Nat) (sz : Nat) (e : Kd) (dp : Bool) (xs : List e.den) : PS :=
  { ps with env := killTo tm ps.env, heap := delTo tm (delN ps.heap ds) ++ [some (.sl false 0 tm sz e dp xs)] }

/-- 'append' on a slice of a known kind. -/
def appendP (ps : PS) (sz : Nat) (e : Kd) (del : List Nat) (base : List e.den) (dp : Bool) (y : PV) (k : PV → PS → Option ρ) : Option ρ :=
  match srcP ps.heap sz e y with
  | some (ys, nm, ow) =>
    if (del.any fun a => (opt1 nm).elem a) = true then none else
    if (nm.isNone || e.flat || ow) = true then
      guardK (gApp base ys sz) (k (.own ps.heap.length) (ps.newSl none (del ++ (if (dp && ow && !e.flat) = true then opt1 nm else [])) sz e (dp && ow) (cat base ys)))
    else none
  | none => none

def opP (hn : Hints) (pm : List Nat) (dst : Option Nat) (ps : PS) (o : AOp) (k : PV → PS → Option ρ) : Option ρ :=
  match o with
  | .mov x => k (pev ps x) ps
  | .pick c a b => match boolP (pev ps c), pev ps a, pev ps b with
    | some t, .d p tx x, .d q ty y => (match castK ty tx y with
      | some y => k (.d (p && q) tx (bif t then x else y)) ps
      | none => none)
    | _, _, _ => none
  | .nilc x => match pev ps x with
    | .cp a f => k (.cp a f) ps
    | .ep a v i f e x => k (.ep a v i f e x) ps
    | .tp p e x f => k (.tp p e x f) ps
    | .kp t v f => k (.kp t v f) ps
    | .fn f l => k (.fn f l) ps
    | _ => none
  | .alloc z => match dst with
    | some t => (match cellOK (constA z) with
      | true => k (.cp ps.heap.length 0) { ps with env := killE t ps.env, heap := delT t ps.heap ++ [some (.cell false (some t) (constA z))] }
      | false => none)
    | none => none
  | .box x => match dst, cellOK (pev ps x) with
    | some t, true => (match pm.elem t && pureV (pev ps x) with
      | true => k (.kp t (pev ps x) 0) { ps with env := killE t ps.env, heap := delT t ps.heap }
      | false => k (.cp ps.heap.length 0) { ps with env := killE t ps.env, heap := delT t ps.heap ++ [some (.cell false (some t) (pev ps x))] })
    | _, _ => none
  | .build zero parts => match fillP (zero.map constA) (parts.map fun p => (p.1, p.2.1, pev ps p.2.2)) with
    | some cs => k (.agg cs) ps
    | none => none
  | .bslice sz l => match dst, elemHint hn dst with
    | some t, some (sz', e) => if sz = sz' ∧ sz = e.cn ∧ 0 < sz then (match elemsP ps.heap e (l.map (pev ps)) with
      | some (xs, ns, ow) => if nodupB ns = true ∧ (ow = true ∨ ns = []) then k (.own ps.heap.length) (ps.newSl (some t) ns sz e ow xs) else none
      | none => none) else none
    | _, _ => none
  | .bsliceD sz l => match elemHint hn dst with
    | some (sz', e) => if sz = sz' ∧ sz = e.cn ∧ 0 < sz then (match elemsP ps.heap e (l.map (pev ps)) with
      | some (xs, ns, ow) => if nodupB ns = true ∧ (ow = true ∨ ns = []) then k (.own ps.heap.length) (ps.newSl none ns sz e ow xs) else none
      | none => none) else none
    | _ => none
  | .load ag n a => match pev ps a with
    | .cp c off => (match hget ps.heap c with
      | some (.cell _ _ v) => loadP ag n off v k ps
      | _ => none)
    | .ep c ver i off e x => (match hget ps.heap c with
      | some (.sl ro ver' _ _ _ _ _) => (match Nat.beq ver ver' with | true => loadP ag n off (.d false e x) k ps | false => none)
      | _ => none)
    | .tp p e x off => loadP ag n off (.d p e x) k ps
    | .kp _ v off => loadP ag n off v k ps
    | _ => none
  | .store n a x => match pev ps a, cellOK (pev ps x) with
    | .cp c off, true => (match hget ps.heap c with
      | some (.cell false tmp u) => (match storeP n off u (pev ps x) with
        | some u' => (match promT pm ps c off tmp u' with
          | some t => k .undef { ps with env := (t, .kp t u' 0) :: ps.env, heap := hset ps.heap c none }
          | none => k .undef { ps with heap := hset ps.heap c (some (.cell false tmp u')) })
        | none => none)
      | _ => none)
    | .ep c ver i off e x', true => (match hget ps.heap c with
      | some (.sl false ver' tmp sz e' dp xs) => (match Nat.beq ver ver', storeE ps.heap n off e x' (pev ps x) with
        | true, some y => (match castK e e' y with
            | some y => k .undef { ps with heap := hset ps.heap c (some (.sl false (ver' + 1) tmp sz e' dp (setL xs i y))) }
            | none => none)
        | _, _ => none)
      | _ => none)
    | _, _ => none
  | .bin op x y => match intP (pev ps x), intP (pev ps y) with
    | some (kd, a), some (kd', b) => if kd = kd' ∨ isShift op = true then binI op kd a b (fun v => k v ps) else none
    | _, _ => (match bytP (pev ps x), bytP (pev ps y) with
      | some a, some b => binS' op a b (fun v => k v ps)
      | _, _ => none)
  | .binB op x y => match boolP (pev ps x), boolP (pev ps y) with
    | some a, some b => (match op with
      | .eql => k (.d true .bool (bEq a b)) ps
      | .neq => k (.d true .bool (bNe a b)) ps
      | _ => none)
    | _, _ => none
  | .binS neg ls x y => match (pev ps x).isAgg, (pev ps y).isAgg, eqLeafs ls (pev ps x).cells (pev ps y).cells with
    | true, true, some r => k (.d true .bool (match neg with | true => bNot r | false => r)) ps
    | _, _, _ => none
  | .un op x => match op with
    | .not => (match boolP (pev ps x) with | some b => k (.d true .bool (bNot b)) ps | none => none)
    | .neg => (match intP (pev ps x) with | some (kd, n) => k (.d true (.int kd) (iSub kd 0 n)) ps | none => none)
    | _ => none
  | .conv kd x => match intP (pev ps x) with
    | some (_, n) => k (.d true (.int kd) (iConv kd n)) ps
    | none => none
  | .same x => match bytP (pev ps x) with
    | some s => k (.d true .str s) ps
    | none => none
  | .b2s x => match asLeaf ps.heap (.sl 1 (.int .u8)) (pev ps x) with
    | some xs => k (.d true .str (strP xs)) ps
    | none => none
  | .s2b x => match bytP (pev ps x) with
    | some s => guardK (gS2b s) (k (.own ps.heap.length) (ps.newSl none [] 1 (.int .u8) true (bytesP s)))
    | none => none
  | .mkfn f caps => k (.fn f (caps.map (pev ps))) ps
  | .mksl sz zero n => match elemHint hn dst, intP (pev ps n) with
    | some (sz', e), some (_, m) => if sz = sz' ∧ sz = e.cn ∧ 0 < sz then (match asOwn [] e (constA zero) with
      | some (z, _) => guardK (gMk m sz) (k (.own ps.heap.length) (ps.newSl none [] sz e true (repL (toN m) z)))
      | none => none) else none
    | _, _ => none
  | .slice sz x lo hi mx => match optP ps lo, optP ps hi, optP ps mx with
    | some lo, some hi, some none => (match bytP (pev ps x) with
      | some s => if sz = 0 then boundK (lenN s) lo hi (fun l n => k (.d true .str (sub s l n)) ps) else none
      | none => if sz = 0 then none else (match pev ps x with
        | .d p (.sl sz' e) s => if sz = sz' then boundK (lenN (s : List e.den)) lo hi (fun l n => k (.d p (.sl sz' e) (sub (s : List e.den) l n)) ps) else none
        | .own a => (match hget ps.heap a with
          | some (.sl _ _ _ sz' e _ s) => if sz = sz' then boundK (lenN s) lo hi (fun l n => k (.win a l n) ps) else none
          | _ => none)
        | .nils => guardK (gZero (match lo with | some l => l | none => 0) (match hi with | some h => h | none => 0)) (k .nils ps)
        | _ => none))
    | _, _, _ => none
  | .faddr x off => match pev ps x with
    | .cp a f => k (.cp a (f + off)) ps
    | .ep a v i f e x => k (.ep a v i (f + off) e x) ps
    | .tp p e x f => k (.tp p e x (f + off)) ps
    | .kp t v f => k (.kp t v (f + off)) ps
    | _ => none
  | .field x off n ag => match (pev ps x).isAgg with
    | true => if off + n ≤ (pev ps x).cells.length then
        (match ag with
        | true => k (.agg (((pev ps x).cells.drop off).take n)) ps
        | false => match (pev ps x).cells[off]? with | some v => k v ps | none => none) else none
    | false => none
  | .iaddr sz x i => match intP (pev ps i) with
    | some (_, j) => (match pev ps x with
      | .d p (.sl sz' e) xs => if sz = sz' then idxK xs j (fun y => k (.tp p e y 0) ps) else none
      | .own a => (match hget ps.heap a with
        | some (.sl _ ver _ sz' e _ xs) => if sz = sz' then idxK xs j (fun y => k (.ep a ver (toN j) 0 e y) ps) else none
        | _ => none)
      | .win a off len => (match hget ps.heap a with
        | some (.sl _ ver _ sz' e _ xs) => if sz = sz' then guardK (gLt (toN j) len) (idxK (dropL off xs) j (fun y => k (.ep a ver (addN off (toN j)) 0 e y) ps)) else none
        | _ => none)
      | _ => none)
    | none => none
  | .index x i => match bytP (pev ps x), intP (pev ps i) with
    | some s, some (_, j) => idxK s j (fun b => k (.d true (.int .u8) (byteI b)) ps)
    | _, _ => none
  | .len str x => match str with
    | true => (match bytP (pev ps x) with | some s => k (.d true (.int .i64) (lenI s)) ps | none => none)
    | false => (match pev ps x with
      | .d _ (.sl _ e) xs => k (.d true (.int .i64) (lenI (xs : List e.den))) ps
      | .nils => k (.d true (.int .i64) (0 : Int)) ps
      | .own a => (match hget ps.heap a with | some (.sl _ _ _ _ _ _ xs) => k (.d true (.int .i64) (lenI xs)) ps | _ => none)
      | .win _ _ len => k (.d true (.int .i64) (ofN len)) ps
      | _ => none)
  | .append sz x y => match pev ps x with
    | .nils => (match (match srcTy ps.heap (pev ps y) with | some q => some q | none => elemHint hn dst) with
      | some (sz', e) => if sz = sz' ∧ sz = e.cn ∧ 0 < sz then appendP ps sz e [] [] true (pev ps y) k else none
      | none => none)
    | .own a => (match hget ps.heap a with
      | some (.sl false _ none sz' e dp xs) => if sz = sz' then appendP ps sz e [a] xs dp (pev ps y) k else none
      | _ => none)
    | .win a off len => (match hget ps.heap a with
      | some (.sl false _ none sz' e dp xs) => if sz = sz' ∧ e.flat = true then appendP ps sz e [a] (sub xs off len) dp (pev ps y) k else none
      | _ => none)
    | _ => none
  | .minmax mx l => match intsOf (l.map (pev ps)) with
    | some (a :: r) => k (.d true (.int .i64) (minmaxI mx r a)) ps
    | _ => none
  | .extract x i => match pev ps x with
    | .tup l => (match l[i]? with | some v => k v ps | none => none)
    | _ => none
  | _ => none
where
  promT (pm : List Nat) (ps : PS) (c off : Nat) (tmp : Option Nat) (u : PV) : Option Nat :=
    match tmp, off with
    | some t, 0 => (match look ps.env t with
      | .cp c' 0 => if pm.elem t && (pureV u && Nat.beq c c') then some t else none
      | _ => none)
    | _, _ => none
  loadP (ag : Bool) (n off : Nat) (v : PV) (k : PV → PS → Option ρ) (ps : PS) : Option ρ :=
    match ag with
    | false => (match v.cells[off]? with | some u => k u ps | none => none)
    | true => (match v.isAgg with
      | true => if off = 0 ∧ n = v.cells.length then k v ps else if off + n ≤ v.cells.length then k (.agg ((v.cells.drop off).take n)) ps else none
      | false => none)
  storeP (n off : Nat) (u v : PV) : Option PV :=
    if v.cells.length = n ∧ off + n ≤ u.cells.length then
      (match u.isAgg with
      | true => if off = 0 ∧ n = u.cells.length ∧ v.isAgg = true then some v else some (.agg (u.cells.take off ++ v.cells ++ u.cells.drop (off + n)))
      | false => if off = 0 ∧ v.isAgg = false then some v else none)
    else none
  storeE (hp : List (Option PObj)) (n off : Nat) (e : Kd) (x : e.den) (v : PV) : Option e.den :=
    match e.flat with
    | true => (match storeP n off (.d true e x) v with | some u => asD hp e u | none => none)
    | false => none
  fillP : List PV → List (Nat × Nat × PV) → Option (List PV)
    | cs, [] => some cs
    | cs, (off, n, v) :: r => match cellOK v with
      | false => none
      | true => if v.cells.length = n ∧ off + n ≤ cs.length then fillP (cs.take off ++ v.cells ++ cs.drop (off + n)) r else none
end
end
end Go.Am

/- The machine on typed data: calls, joins, loops; what it tells. Definitions. -/
namespace Go.Am
set_option linter.unusedSimpArgs false
set_option linter.unusedVariables false
noncomputable section

/-! ### what is looked at behind a point -/
def insN (a : Nat) (l : List Nat) : List Nat := if l.elem a then l else a :: l
def uni : List Nat → List Nat → List Nat
  | [], l => l
  | a :: r, l => insN a (uni r l)
def minus (l m : List Nat) : List Nat := l.filter fun a => !m.elem a
def inter (l m : List Nat) : List Nat := l.filter fun a => m.elem a
def udOps : List AOper → List Nat × List Nat
  | [] => ([], [])
  | o :: r => match udOps r with
    | (u, df) => match o.guard, o.dst with
      | none, some t => (uni (looksO o) (u.filter fun a => !Nat.beq a t), insN t df)
      | _, _ => (uni (looksO o) u, df)
/-- Does it leave for a block that is not its own? -/
def escB : List Nat → AC → Bool
  | bs, .exit i => !bs.elem i
  | bs, .seq a b => escB bs a || escB bs b
  | bs, .cond _ a b => escB bs a || escB bs b
  | bs, .block i b => escB (i :: bs) b
  | bs, .loop b => escB bs b
  | _, _ => false
def hasExit (c : AC) : Bool := escB [] c
def asgL : List AOper → List Nat
  | [] => []
  | o :: r => match o.dst with | some t => t :: asgL r | none => asgL r
/-- What it may set. -/
def asgC : AC → List Nat
  | .ops l | .opsU _ l _ => asgL l
  | .seq a b | .cond _ a b => asgC a ++ asgC b
  | .block _ b | .loop b => asgC b
  | _ => []
/-- What it looks at before it sets it; what it sets for sure. -/
def falls : AC → Bool
  | .exit _ | .ret | .loop _ => false
  | .seq a b => falls a && falls b
  | .cond _ a b => falls a || falls b
  | .block i b => falls b || exitsTo i b
  | _ => true
where exitsTo (i : Nat) : AC → Bool
  | .exit j => Nat.beq i j
  | .seq a b | .cond _ a b => exitsTo i a || exitsTo i b
  | .block _ b | .loop b => exitsTo i b
  | _ => false
def udC (rt : List Nat) : AC → List Nat × List Nat
  | .ops l | .opsU _ l _ => udOps l
  | .seq a b => match udC rt a, udC rt b with
    | (u, df), (v, dg) => if hasExit a then (uni u v, []) else (uni u (minus v df), uni df dg)
  | .cond c a b => match udC rt a, udC rt b with
    | (u, df), (v, dg) => (uni c.tmps (uni u v), if falls a then (if falls b then inter df dg else df) else dg)
  | .block _ b => match udC rt b with | (u, df) => (u, if hasExit b then [] else df)
  | .loop b => match udC rt b with | (u, _) => (u, [])
  | .ret => (rt, [])
  | _ => ([], [])
def exitN (i : Nat) : AC → Nat
  | .exit j => if Nat.beq i j then 1 else 0
  | .seq a b | .cond _ a b => exitN i a + exitN i b
  | .block _ b | .loop b => exitN i b
  | _ => 0

/-! ### the form of a state -/
structure Dat where
  t : Kd
  x : t.den
inductive SK where
  | d (p : Bool) (t : Kd)
  | agg (cs : List SK)
  | nils
  | own (a : Nat)
  | cp (a off : Nat)
  | ep (a ver off : Nat) (e : Kd)
  | tp (p : Bool) (e : Kd) (off : Nat)
  | kp (tmp : Nat) (v : SK) (off : Nat)
  | fn (f : Nat) (caps : List SK)
  | undef
inductive OSK where
  | sl (ro : Bool) (ver : Nat) (tmp : Option Nat) (sz : Nat) (e : Kd) (deep : Bool)
  | cell (ro : Bool) (tmp : Option Nat) (v : SK)
structure Skel where
  env : List (Nat × SK)
  anc : List SK
  heap : List OSK

mutual
def skV : PV → SK
  | .d p t _ => .d p t
  | .agg cs => .agg (skVs cs)
  | .nils => .nils
  | .own a => .own a
  | .cp a off => .cp a off
  | .ep a v _ off e _ => .ep a v off e
  | .tp p e _ off => .tp p e off
  | .kp t v off => .kp t (skV v) off
  | .fn f caps => .fn f (skVs caps)
  | _ => .undef
def skVs : List PV → List SK
  | [] => []
  | v :: r => skV v :: skVs r
end
mutual
def tysV : SK → List Kd
  | .d _ t => [t]
  | .agg cs => tysVs cs
  | .ep _ _ _ e => [.int .i64, e]
  | .tp _ e _ => [e]
  | .kp _ v _ => tysV v
  | .fn _ caps => tysVs caps
  | _ => []
def tysVs : List SK → List Kd
  | [] => []
  | v :: r => tysV v ++ tysVs r
end
def tysE : List (Nat × SK) → List Kd
  | [] => []
  | (_, v) :: r => tysV v ++ tysE r
def tysO : List OSK → List Kd
  | [] => []
  | .sl _ _ _ sz e _ :: r => .sl sz e :: tysO r
  | .cell _ _ v :: r => tysV v ++ tysO r
def Skel.tys (s : Skel) : List Kd := tysVs s.anc ++ (tysE s.env ++ tysO s.heap)

def pureLeafK : SK → Bool
  | .d p t => p || t.flat
  | .nils => true
  | _ => false
def pureK : SK → Bool
  | .agg cs => cs.all pureLeafK
  | v => pureLeafK v
def cellLeafK : SK → Bool
  | .d _ t => !t.isS
  | .nils | .own _ => true
  | _ => false
def cellOKK : SK → Bool
  | .agg cs => cs.all cellLeafK && !cs.isEmpty
  | .d _ (.st fs) => !fs.isEmpty
  | v => cellLeafK v
mutual
/-- The data of a value of this form; none when it is of another. -/
def matV : SK → PV → Option (List Dat)
  | .d p t, .d q t' x => if (p && !q && !t.flat) = true then none else (match castK t' t x with | some y => some [⟨t, y⟩] | none => none)
  | .agg cs, .agg vs => matVs cs vs
  | .nils, .nils => some []
  | .own a, .own b => if Nat.beq a b then some [] else none
  | .cp a off, .cp b off' => if Nat.beq a b && Nat.beq off off' then some [] else none
  | .ep a v off e, .ep b v' i off' e' x => if Nat.beq a b && Nat.beq v v' && Nat.beq off off' then (match castK e' e x with | some y => some [⟨.int .i64, ofN i⟩, ⟨e, y⟩] | none => none) else none
  | .tp p e off, .tp q e' x off' => if (p && !q) || !Nat.beq off off' then none else (match castK e' e x with | some y => some [⟨e, y⟩] | none => none)
  | .kp t v off, .kp u w off' => if Nat.beq t u && (Nat.beq off off' && (pureK v && cellOKK v)) then matV v w else none
  | .fn f cs, .fn g vs => if Nat.beq f g then matVs cs vs else none
  | .undef, _ => some []
  | _, _ => none
def matVs : List SK → List PV → Option (List Dat)
  | [], [] => some []
  | s :: r, v :: q => match matV s v, matVs r q with | some a, some b => some (a ++ b) | _, _ => none
  | _, _ => none
end
mutual
def filV : SK → List Dat → Option (PV × List Dat)
  | .d p t, ⟨t', x⟩ :: r => match castK t' t x with | some y => some (.d p t y, r) | none => none
  | .agg cs, l => match filVs cs l with | some (vs, r) => some (.agg vs, r) | none => none
  | .nils, l => some (.nils, l)
  | .own a, l => some (.own a, l)
  | .cp a off, l => some (.cp a off, l)
  | .ep a v off e, ⟨t, i⟩ :: ⟨t', x⟩ :: r => match castK t (.int .i64) i, castK t' e x with | some i, some y => some (.ep a v (toN i) off e y, r) | _, _ => none
  | .tp p e off, ⟨t', x⟩ :: r => match castK t' e x with | some y => some (.tp p e y off, r) | none => none
  | .kp t v off, l => match filV v l with | some (w, r) => some (.kp t w off, r) | none => none
  | .fn f cs, l => match filVs cs l with | some (vs, r) => some (.fn f vs, r) | none => none
  | .undef, l => some (.undef, l)
  | _, _ => none
def filVs : List SK → List Dat → Option (List PV × List Dat)
  | [], l => some ([], l)
  | s :: q, l => match filV s l with
    | some (v, r) => (match filVs q r with | some (vs, r') => some (v :: vs, r') | none => none)
    | none => none
end
def matE : List (Nat × SK) → List (Nat × PV) → Option (List Dat)
  | [], [] => some []
  | (t, s) :: r, (u, v) :: q => if Nat.beq t u then (match matV s v, matE r q with | some a, some b => some (a ++ b) | _, _ => none) else none
  | _, _ => none
def filE : List (Nat × SK) → List Dat → Option (List (Nat × PV) × List Dat)
  | [], l => some ([], l)
  | (t, s) :: q, l => match filV s l with
    | some (v, r) => (match filE q r with | some (vs, r') => some ((t, v) :: vs, r') | none => none)
    | none => none
def beqO : Option Nat → Option Nat → Bool
  | none, none => true
  | some a, some b => Nat.beq a b
  | _, _ => false
def beqB : Bool → Bool → Bool
  | true, true | false, false => true
  | _, _ => false
def matO : List OSK → List (Option PObj) → Option (List Dat)
  | [], [] => some []
  | .sl ro ver tmp sz e dp :: r, some (.sl ro' ver' tmp' sz' e' dp' xs) :: q =>
    if beqB ro ro' && (Nat.beq ver ver' && (beqO tmp tmp' && beqB dp dp')) then
      (match castK (.sl sz' e') (.sl sz e) xs, matO r q with | some y, some b => some (⟨.sl sz e, y⟩ :: b) | _, _ => none) else none
  | .cell ro tmp s :: r, some (.cell ro' tmp' v) :: q =>
    if beqB ro ro' && (beqO tmp tmp' && cellOKK s) then (match matV s v, matO r q with | some a, some b => some (a ++ b) | _, _ => none) else none
  | _, _ => none
def filO : List OSK → List Dat → Option (List (Option PObj) × List Dat)
  | [], l => some ([], l)
  | .sl ro ver tmp sz e dp :: q, ⟨t, x⟩ :: l => match castK t (.sl sz e) x with
    | some y => (match filO q l with | some (os, r) => some (some (.sl ro ver tmp sz e dp y) :: os, r) | none => none)
    | none => none
  | .cell ro tmp s :: q, l => match filV s l with
    | some (v, l') => (match filO q l' with | some (os, r) => some (some (.cell ro tmp v) :: os, r) | none => none)
    | none => none
  | _, _ => none
def matS (s : Skel) (ps : PS) : Option (List Dat) :=
  match matVs s.anc ps.anc, matE s.env ps.env, matO s.heap ps.heap with
  | some a, some b, some c => some (a ++ (b ++ c))
  | _, _, _ => none
def filS (s : Skel) (l : List Dat) : Option PS :=
  match filVs s.anc l with
  | some (anc, l1) => (match filE s.env l1 with
    | some (env, l2) => (match filO s.heap l2 with | some (hp, _) => some ⟨env, anc, hp⟩ | none => none)
    | none => none)
  | none => none
def skE : List (Nat × PV) → List (Nat × SK)
  | [] => []
  | (t, v) :: r => (t, skV v) :: skE r
def skO : List (Option PObj) → List OSK
  | [] => []
  | some (.sl ro ver tmp sz e dp _) :: r => .sl ro ver tmp sz e dp :: skO r
  | some (.cell ro tmp v) :: r => .cell ro tmp (skV v) :: skO r
  | none :: r => skO r
def skS (ps : PS) : Skel := ⟨skE ps.env, skVs ps.anc, skO ps.heap⟩

def toDens : (l : List Kd) → List Dat → Option (Kd.dens l)
  | [], [] => some ()
  | t :: r, ⟨t', x⟩ :: q => match castK t' t x, toDens r q with | some a, some b => some (a, b) | _, _ => none
  | _, _ => none
def fromDens : (l : List Kd) → Kd.dens l → List Dat
  | [], _ => []
  | t :: r, x => ⟨t, x.1⟩ :: fromDens r x.2

/-! ### what belongs together in a state is told as one -/
structure Gp where
  st : Bool
  ix : List Nat
def singles : Nat → Nat → List Gp
  | _, 0 => []
  | p, n + 1 => ⟨false, [p]⟩ :: singles (p + 1) n
def lenK : List Kd → Nat
  | [] => 0
  | _ :: r => lenK r + 1
def slIx : List OSK → Nat → List (Option Nat)
  | [], _ => []
  | .sl _ _ _ _ _ _ :: r, p => some p :: slIx r (p + 1)
  | .cell _ _ v :: r, p => none :: slIx r (p + lenK (tysV v))
def ixGet : List (Option Nat) → Nat → Option Nat
  | [], _ => none
  | x :: _, 0 => x
  | _ :: r, n + 1 => ixGet r n
def leafIx (hs : List (Option Nat)) : List SK → Nat → Option (List Nat)
  | [], _ => some []
  | .d _ _ :: r, p => (match leafIx hs r (p + 1) with | some l => some (p :: l) | none => none)
  | .own a :: r, p => (match ixGet hs a, leafIx hs r p with | some j, some l => some (j :: l) | _, _ => none)
  | _, _ => none
def gpA (hs : List (Option Nat)) (cs : List SK) (p : Nat) : List Gp := match leafIx hs cs p with
  | some (j :: l) => [⟨true, j :: l⟩]
  | _ => singles p (lenK (tysVs cs))
mutual
def gpV (hs : List (Option Nat)) : SK → Nat → List Gp
  | .agg cs, p => gpA hs cs p
  | .kp _ v _, p => gpV hs v p
  | .fn _ cs, p => gpVs hs cs p
  | s, p => singles p (lenK (tysV s))
def gpVs (hs : List (Option Nat)) : List SK → Nat → List Gp
  | [], _ => []
  | s :: r, p => gpV hs s p ++ gpVs hs r (p + lenK (tysV s))
end
def gpE (hs : List (Option Nat)) : List (Nat × SK) → Nat → List Gp
  | [], _ => []
  | (_, s) :: r, p => gpV hs s p ++ gpE hs r (p + lenK (tysV s))
def gpO (hs : List (Option Nat)) : List OSK → Nat → List Gp
  | [], _ => []
  | .sl _ _ _ _ _ _ :: r, p => gpO hs r (p + 1)
  | .cell _ _ s :: r, p => gpV hs s p ++ gpO hs r (p + lenK (tysV s))
def inGp (gs : List Gp) (j : Nat) : Bool := gs.any fun g => g.ix.elem j
def loose (gs : List Gp) : List (Option Nat) → List Gp
  | [] => []
  | some j :: r => if inGp gs j then loose gs r else ⟨false, [j]⟩ :: loose gs r
  | none :: r => loose gs r
def Skel.gps (s : Skel) : List Gp :=
  let a := lenK (tysVs s.anc)
  let b := a + lenK (tysE s.env)
  let hs := slIx s.heap b
  let gs := gpVs hs s.anc 0 ++ (gpE hs s.env a ++ gpO hs s.heap b)
  gs ++ loose gs hs
def nthK : List Kd → Nat → Kd
  | [], _ => .bool
  | t :: _, 0 => t
  | _ :: r, n + 1 => nthK r n
def nthKs (l : List Kd) : List Nat → List Kd
  | [] => []
  | j :: r => nthK l j :: nthKs l r
def gty (l : List Kd) (g : Gp) : Kd := match g.st, g.ix with
  | true, ix => .st (nthKs l ix)
  | false, j :: _ => nthK l j
  | false, [] => .bool
def gtysL (l : List Kd) : List Gp → List Kd
  | [] => []
  | g :: r => gty l g :: gtysL l r
def Skel.gtys (s : Skel) : List Kd := gtysL s.tys s.gps
def covB (gs : List Gp) : Nat → Bool
  | 0 => true
  | n + 1 => inGp gs n && covB gs n
def nthD : List Dat → Nat → Option Dat
  | [], _ => none
  | x :: _, 0 => some x
  | _ :: r, n + 1 => nthD r n
def pickD (ds : List Dat) : List Nat → Option (List Dat)
  | [] => some []
  | j :: r => (match nthD ds j, pickD ds r with | some x, some l => some (x :: l) | _, _ => none)
def tysD : List Dat → List Kd
  | [] => []
  | x :: r => x.t :: tysD r
def tupD : (l : List Dat) → Kd.dens (tysD l)
  | [] => ()
  | x :: r => (x.x, tupD r)
def grpD (ds : List Dat) : List Gp → Option (List Dat)
  | [] => some []
  | ⟨true, ix⟩ :: r => (match pickD ds ix, grpD ds r with | some l, some q => some (⟨.st (tysD l), tupD l⟩ :: q) | _, _ => none)
  | ⟨false, [j]⟩ :: r => (match nthD ds j, grpD ds r with | some x, some q => some (x :: q) | _, _ => none)
  | _ => none
def zipD : List Nat → List Dat → List (Nat × Dat)
  | i :: r, x :: q => (i, x) :: zipD r q
  | _, _ => []
def ungD : List Gp → List Dat → Option (List (Nat × Dat))
  | [], [] => some []
  | ⟨true, ix⟩ :: r, ⟨.st fs, y⟩ :: q => (match ungD r q with | some l => some (zipD ix (fromDens fs y) ++ l) | none => none)
  | ⟨false, [j]⟩ :: r, x :: q => (match ungD r q with | some l => some ((j, x) :: l) | none => none)
  | _, _ => none
def lkD : List (Nat × Dat) → Nat → Option Dat
  | [], _ => none
  | (i, x) :: r, j => (match Nat.beq i j with | true => some x | false => lkD r j)
def collD (ps : List (Nat × Dat)) : Nat → Nat → Option (List Dat)
  | 0, _ => some []
  | n + 1, j => (match lkD ps j, collD ps n (j + 1) with | some x, some r => some (x :: r) | _, _ => none)
def lenD : List Dat → Nat
  | [] => 0
  | _ :: r => lenD r + 1
def Skel.ung (s : Skel) (l : List Dat) : Option (List Dat) := match ungD s.gps l with
  | some ps => collD ps (lenK s.tys) 0
  | none => none
def filG (s : Skel) (σ : Kd.dens s.gtys) : Option PS := match s.ung (fromDens s.gtys σ) with
  | some l => filS s l
  | none => none
def toG (s : Skel) (ds : List Dat) : Option (Kd.dens s.gtys) := match Nat.beq (lenD ds) (lenK s.tys) && covB s.gps (lenK s.tys) with
  | true => (match grpD ds s.gps with | some l => toDens s.gtys l | none => none)
  | false => none

/-! ### a state made plain: what is dead is dropped, what is there is told anew by place -/
def goodSl (sz : Nat) (e : Kd) : Bool := Nat.beq sz e.cn && Nat.blt 0 sz
/-- nil where a slice of its own is to come. -/
def thawL (b : Bool) (n : Nat) : Kd → PV → PV × List (Option PObj)
  | .sl sz e, .nils => match goodSl sz e, b with
    | true, true => (.own n, [some (.sl false 0 none sz e true [])])
    | _, _ => (.d false (.sl sz e) ([] : List e.den), [])
  | _, v => (v, [])
def thawLs (b : Bool) : Nat → List Kd → List PV → List PV × List (Option PObj)
  | n, t :: r, v :: q => match thawL b n t v with
    | (v', o) => match thawLs b (n + o.length) r q with | (vs, os) => (v' :: vs, o ++ os)
  | _, _, l => (l, [])
def thawV (hn : Option (Kd × Bool)) (n : Nat) (v : PV) : PV × List (Option PObj) :=
  match hn with
  | some (.st fs, b) => (match v with
    | .agg cs => (match thawLs b n fs cs with | (vs, os) => (.agg vs, os))
    | v => (v, []))
  | some (t, b) => thawL b n t v
  | none => (v, [])
def thawE (hn : Hints) : Nat → List (Nat × PV) → List (Nat × PV) × List (Option PObj)
  | _, [] => ([], [])
  | n, (t, v) :: r => match thawV (hintOf hn t) n v with
    | (v', os) => match thawE hn (n + os.length) r with | (r', os') => ((t, v') :: r', os ++ os')
def thawO (hn : Hints) : Nat → List (Option PObj) → List (Option PObj) × List (Option PObj)
  | _, [] => ([], [])
  | n, some (.cell false (some t) v) :: r => (match thawV (hintOf hn t) n v with
    | (v', os) => match thawO hn (n + os.length) r with | (r', os') => (some (.cell false (some t) v') :: r', os ++ os'))
  | n, o :: r => match thawO hn n r with | (r', os') => (o :: r', os')
def liveE (ps : PS) : List Nat → List (Nat × PV)
  | [] => []
  | t :: r => (t, look ps.env t) :: liveE ps r
def thawS (hn : Hints) (lv : List Nat) (ps : PS) : PS :=
  match thawE hn ps.heap.length (liveE ps lv) with
  | (env, os) => match thawO hn (ps.heap.length + os.length) ps.heap with
    | (hp, os') => ⟨env, ps.anc, hp ++ (os ++ os')⟩

/-! ### slices that are to be data from here on -/
def ownNs : PV → List Nat
  | .own a => [a]
  | .agg cs => cs.flatMap fun v => match v with | .own a => [a] | _ => []
  | _ => []
def datT (hn : Hints) (t : Nat) : Bool := match hintOf hn t with | some (_, false) => true | _ => false
def datTo (hn : Hints) : Option Nat → Bool
  | some t => datT hn t
  | none => false
def frzE (hn : Hints) (ps : PS) : List Nat → List Nat
  | [] => []
  | t :: r => match datT hn t with | true => ownNs (look ps.env t) ++ frzE hn ps r | false => frzE hn ps r
def frzH (hn : Hints) : List (Option PObj) → List Nat
  | [] => []
  | some (.cell _ tmp v) :: r => (match datTo hn tmp with | true => ownNs v ++ frzH hn r | false => frzH hn r)
  | _ :: r => frzH hn r
def frzOK (hp : List (Option PObj)) (a : Nat) : Bool := match hget hp a with | some (.sl _ _ none _ _ _ _) => true | _ => false
def frzL (hp : List (Option PObj)) (ns : List Nat) : PV → PV
  | .own a => match ns.elem a, hget hp a with
    | true, some (.sl _ _ none sz e _ xs) => .d false (.sl sz e) xs
    | _, _ => .own a
  | v => v
def wkL : PV → PV
  | .d p t x => .d (p && t.flat) t x
  | v => v
def frzW (hp : List (Option PObj)) (ns : List Nat) : Bool → PV → PV
  | true, v => wkL (frzL hp ns v)
  | false, v => frzL hp ns v
def frzV (hp : List (Option PObj)) (ns : List Nat) (w : Bool) : PV → PV
  | .agg cs => .agg (cs.map (frzW hp ns w))
  | v => frzW hp ns w v
def frzEn (hn : Hints) (hp : List (Option PObj)) (ns : List Nat) : List (Nat × PV) → List (Nat × PV)
  | [] => []
  | (t, v) :: r => (t, frzV hp ns (datT hn t) v) :: frzEn hn hp ns r
def frzO (hn : Hints) (hp : List (Option PObj)) (ns : List Nat) : Option PObj → Option PObj
  | some (.cell ro tmp v) => some (.cell ro tmp (frzV hp ns (datTo hn tmp) v))
  | o => o
def anyDat : Hints → Bool
  | [] => false
  | (_, _, b) :: r => match b with | false => true | true => anyDat r
def frzS (hn : Hints) (lv : List Nat) (ps : PS) : PS := match anyDat hn with
  | false => ps
  | true =>
    let ns := (frzE hn ps lv ++ frzH hn ps.heap).filter (frzOK ps.heap)
    ⟨frzEn hn ps.heap ns ps.env, ps.anc, delN (ps.heap.map (frzO hn ps.heap ns)) ns⟩

mutual
def colV : PV → List Nat → List Nat
  | .agg cs, l => colVs cs l
  | .own a, l => if l.elem a then l else l ++ [a]
  | .cp a _, l => if l.elem a then l else l ++ [a]
  | .ep a _ _ _ _ _, l => if l.elem a then l else l ++ [a]
  | .fn _ cs, l => colVs cs l
  | _, l => l
def colVs : List PV → List Nat → List Nat
  | [], l => l
  | v :: r, l => colVs r (colV v l)
end
def colE : List (Nat × PV) → List Nat → List Nat
  | [], l => l
  | (_, v) :: r, l => colE r (colV v l)
/-- And what the cells hold: n times over. -/
def colH (hp : List (Option PObj)) : Nat → List Nat → List Nat
  | 0, l => l
  | n + 1, l => colH hp n (step l l)
where step : List Nat → List Nat → List Nat
  | [], l => l
  | a :: r, l => (match hget hp a with | some (.cell _ _ v) => step r (colV v l) | _ => step r l)
def posN : List Nat → Nat → Nat → Option Nat
  | [], _, _ => none
  | b :: r, a, n => if Nat.beq a b then some n else posN r a (n + 1)
mutual
def renV (hp : List (Option PObj)) (nm : List Nat) : PV → PV
  | .agg cs => .agg (renVs hp nm cs)
  | .own a => match hget hp a, posN nm a 0 with | some (.sl _ _ _ _ _ _ _), some b => .own b | _, _ => .undef
  | .cp a off => match hget hp a, posN nm a 0 with | some (.cell _ _ _), some b => .cp b off | _, _ => .undef
  | .ep a ver i off e x => match hget hp a, posN nm a 0 with
    | some (.sl _ ver' _ _ _ _ _), some b => (match Nat.beq ver ver' with | true => .ep b 0 i off e x | false => .undef)
    | _, _ => .undef
  | .fn f cs => .fn f (renVs hp nm cs)
  | .d p t x => .d p t x
  | .nils => .nils
  | .tp p e x off => .tp p e x off
  | .kp t v off => .kp t v off
  | _ => .undef
def renVs (hp : List (Option PObj)) (nm : List Nat) : List PV → List PV
  | [] => []
  | v :: r => renV hp nm v :: renVs hp nm r
end
def renE (hp : List (Option PObj)) (nm : List Nat) : List (Nat × PV) → List (Nat × PV)
  | [] => []
  | (t, v) :: r => (t, renV hp nm v) :: renE hp nm r
def renO (hp : List (Option PObj)) (nm : List Nat) : List Nat → List (Option PObj)
  | [] => []
  | a :: r => (match hget hp a with
    | some (.sl ro _ tmp sz e dp xs) => some (.sl ro 0 tmp sz e dp xs)
    | some (.cell ro tmp v) => (match cellOK (renV hp nm v) with | true => some (.cell ro tmp (renV hp nm v)) | false => none)
    | none => none) :: renO hp nm r
def uniqN : List Nat → List Nat
  | [] => []
  | a :: r => if r.elem a then uniqN r else a :: uniqN r
def canon (hn : Hints) (lv : List Nat) (ps : PS) : PS :=
  let qs := thawS hn lv (frzS hn lv ps)
  let nm := uniqN (colH qs.heap 4 (colE qs.env (colVs qs.anc [])))
  ⟨renE qs.heap nm qs.env, renVs qs.heap nm qs.anc, renO qs.heap nm nm⟩

/-! ### calls -/
inductive PKd where
  | dat (t : Kd)
  | raw
  | cell (t : Kd)
  | kept (t : Kd)
  | own (t : Kd)
structure Sig where
  ps : List PKd
  rs : List Kd
def insK : List PKd → List Kd
  | [] => []
  | .dat t :: r | .cell t :: r | .kept t :: r | .own t :: r => t :: insK r
  | .raw :: r => insK r
def outK : List PKd → List Kd
  | [] => []
  | .cell t :: r | .kept t :: r => t :: outK r
  | _ :: r => outK r
def keepK : List PKd → List Bool
  | [] => []
  | .kept _ :: r | .own _ :: r => true :: keepK r
  | _ :: r => false :: keepK r
abbrev Sig.F (s : Sig) : Type := Kd.dens (insK s.ps) → Option (Kd.dens (s.rs ++ outK s.ps))
inductive CE where
  | con (fz : Bool) (sg : Sig) (F : sg.F)
  | inl (sg : Sig) (fn : AFn) (hn : Hints) (pm : List Nat)
abbrev PTab := Nat → Option CE

structure ArgsP (l : List PKd) where
  xs : Kd.dens (insK l)
  sn : List Nat      -- names that the call has for its own
  dn : List Nat      -- names that it reads
  fr : Bool          -- nothing live is read but these
def argsP (hp : List (Option PObj)) : (l : List PKd) → List PV → Option (ArgsP l)
  | [], [] => some ⟨(), [], [], true⟩
  | .dat t :: r, v :: q => match asD hp t v, argsP hp r q with
    | some x, some a => some ⟨(x, a.xs), a.sn, namesV v ++ a.dn, freeV v && a.fr⟩
    | _, _ => none
  | .cell t :: r, .cp c 0 :: q => match hget hp c with
    | some (.cell false _ u) => (match asOwn hp t u, argsP hp r q with
      | some (x, ns), some a => some ⟨(x, a.xs), c :: (ns ++ a.sn), a.dn, a.fr⟩
      | _, _ => none)
    | _ => none
  | .kept t :: r, v :: q => match asOwn hp t v, argsP hp r q with
    | some (x, ns), some a => some ⟨(x, a.xs), ns ++ a.sn, a.dn, a.fr⟩
    | _, _ => none
  | .own t :: r, v :: q => match asOwn hp t v, argsP hp r q with
    | some (x, ns), some a => some ⟨(x, a.xs), ns ++ a.sn, a.dn, a.fr⟩
    | _, _ => none
  | _, _ => none
/-- What the call leaves of its arguments. -/
def leftP : (l : List PKd) → List PV → Kd.dens (outK l) → List (Option PObj) → Option (List (Option PObj))
  | [], [], _, hp => some hp
  | .dat _ :: r, _ :: q, y, hp => leftP r q y hp
  | .raw :: r, _ :: q, y, hp => leftP r q y hp
  | .cell t :: r, .cp c 0 :: q, y, hp => match hget hp c with
    | some (.cell false tmp u) => (match asOwn hp t u with
      | some (_, ns) => (match ownify hp.length t y.1 with
        | (v, os) => leftP r q y.2 (hset (delN hp ns) c (some (.cell false tmp v)) ++ os))
      | none => none)
    | _ => none
  | .kept t :: r, v :: q, y, hp => match keptP t v y.1 hp with
    | some hp' => leftP r q y.2 hp'
    | none => none
  | .own t :: r, v :: q, y, hp => match asOwn hp t v with
    | some (_, ns) => leftP r q y (delN hp ns)
    | none => none
  | _, _, _, _ => none
where
  keptL (t : Kd) (v : PV) (y : t.den) (hp : List (Option PObj)) : Option (List (Option PObj)) :=
    match t, v, y with
    | .sl sz e, .own a, y => (match hget hp a with
      | some (.sl false ver tmp _ _ dp _) => some (hset hp a (some (.sl false (ver + 1) tmp sz e dp y)))
      | _ => none)
    | .sl _ _, .nils, _ => some hp
    | .sl _ _, _, _ => none
    | _, _, _ => some hp
  keptS : (fs : List Kd) → List PV → Kd.dens fs → List (Option PObj) → Option (List (Option PObj))
    | [], [], _, hp => some hp
    | t :: r, v :: q, y, hp => (match keptL t v y.1 hp with | some hp' => keptS r q y.2 hp' | none => none)
    | _, _, _, _ => none
  keptP (t : Kd) (v : PV) (y : t.den) (hp : List (Option PObj)) : Option (List (Option PObj)) :=
    match t, v, y with
    | .st fs, v, y => (match v.isAgg with | true => keptS fs v.cells y hp | false => none)
    | t, v, y => keptL t v y hp

def fstDens : (l m : List Kd) → Kd.dens (l ++ m) → Kd.dens l
  | [], _, _ => ()
  | _ :: r, m, x => (x.1, fstDens r m x.2)
def sndDens : (l m : List Kd) → Kd.dens (l ++ m) → Kd.dens m
  | [], _, x => x
  | _ :: r, m, x => sndDens r m x.2
def ownifyR : (n : Nat) → (l : List Kd) → Kd.dens l → List PV × List (Option PObj)
  | _, [], _ => ([], [])
  | n, t :: r, x => match ownify n t x.1 with
    | (v, o) => match ownifyR (n + o.length) r x.2 with | (vs, os) => (v :: vs, o ++ os)
def tupP : List PV → PV
  | [x] => x
  | l => .tup l

def roO : Option PObj → Option PObj
  | some (.sl _ ver tmp sz e dp xs) => some (.sl true ver tmp sz e dp xs)
  | some (.cell _ tmp v) => some (.cell true tmp v)
  | none => none
/-- Of another frame. -/
def roN : Option PObj → Option PObj
  | some (.sl _ ver _ sz e _ xs) => some (.sl true ver none sz e false xs)
  | some (.cell _ _ v) => some (.cell true none v)
  | none => none

mutual
/-- Does it hang on nothing but names and itself? -/
def freeP : PV → Bool
  | .d p t _ => p || t.flat
  | .agg cs | .fn _ cs | .tup cs => freePs cs
  | .tp p _ _ _ => p
  | _ => true
def freePs : List PV → Bool
  | [] => true
  | v :: r => freeP v && freePs r
end
def clnE : List (Nat × PV) → List (Nat × PV)
  | [] => []
  | (t, v) :: r => (t, match freeP v with | true => v | false => .undef) :: clnE r
def clnO : Option PObj → Option PObj
  | some (.sl ro ver tmp sz e dp xs) => (match dp || e.flat with | true => some (.sl ro ver tmp sz e dp xs) | false => none)
  | some (.cell ro tmp v) => (match freeP v with | true => some (.cell ro tmp v) | false => none)
  | none => none
/-- Are these slices through and through their own? -/
def deepB (hp : List (Option PObj)) : List Nat → Bool
  | [] => true
  | a :: r => (match hget hp a with | some (.sl _ _ _ _ e dp _) => dp || e.flat | _ => false) && deepB hp r

/-- What a place holds, for a frame within. -/
def downLs : List PV → Option ((fs : List Kd) × Kd.dens fs)
  | [] => some ⟨[], ()⟩
  | .d _ t x :: r => (match t.isS, downLs r with | false, some ⟨fs, y⟩ => some ⟨t :: fs, (x, y)⟩ | _, _ => none)
  | _ => none
def downU : PV → Option Dat
  | .d _ t x => some ⟨t, x⟩
  | .agg cs => (match downLs cs with | some ⟨fs, y⟩ => some ⟨.st fs, y⟩ | none => none)
  | _ => none
def downP : PV → Option PV
  | .cp a o => some (.cp a o)
  | .tp p e x o => some (.tp p e x o)
  | .kp _ u o => (match downU u with | some ⟨e, x⟩ => some (.tp false e x o) | none => none)
  | _ => none
def downPs : List PV → Option (List PV)
  | [] => some []
  | v :: r => (match downP v, downPs r with | some w, some l => some (w :: l) | _, _ => none)
def downV : PV → Option PV
  | .fn f cs => (match downPs cs with | some l => some (.fn f l) | none => none)
  | v => downP v
/-- The arguments of a call that is run in place. -/
def inlArgs (hp : List (Option PObj)) : List PKd → List PV → Option (List PV)
  | [], [] => some []
  | .dat t :: r, v :: q => match asD hp t v, inlArgs hp r q with | some x, some l => some (.d true t x :: l) | _, _ => none
  | .raw :: r, v :: q => match downV v, inlArgs hp r q with
    | some w, some l => some (w :: l)
    | _, _ => none
  | _, _ => none
def noRaw : List PKd → Bool
  | [] => true
  | .raw :: _ => false
  | _ :: r => noRaw r
def bindE : Nat → List PV → List (Nat × PV)
  | _, [] => []
  | n, v :: r => (n, v) :: bindE (n + 1) r
def scalK (t : Kd) : Bool := t.flat

/-- What a function tells at its end. -/
def resP (ps : PS) : List ARes → Option (List PV)
  | [] => some []
  | .tmp t :: r => match resP ps r with | some l => some (look ps.env t :: l) | none => none
  | .cell t ag n :: r => match resP ps r, loadR ps ag n (look ps.env t) with | some l, some v => some (v :: l) | _, _ => none
where loadR (ps : PS) (ag : Bool) (n : Nat) : PV → Option PV
  | .cp c 0 => match hget ps.heap c with
    | some (.cell _ _ v) => (match ag with
      | true => if v.isAgg = true ∧ n = v.cells.length then some v else none
      | false => v.cells[0]?)
    | _ => none
  | _ => none
def datsP (hp : List (Option PObj)) : (l : List Kd) → List PV → Option (Kd.dens l)
  | [], [] => some ()
  | t :: r, v :: q => match asD hp t v, datsP hp r q with | some x, some y => some (x, y) | _, _ => none
  | _, _ => none
def ownsP (hp : List (Option PObj)) : (l : List Kd) → List PV → Option (Kd.dens l × List Nat)
  | [], [] => some ((), [])
  | t :: r, v :: q => match asOwn hp t v, ownsP hp r q with | some (x, a), some (y, b) => some ((x, y), a ++ b) | _, _ => none
  | _, _ => none
/-- What is left of the arguments that were its own. -/
def ancP (hp : List (Option PObj)) : (l : List PKd) → List PV → Option (Kd.dens (outK l) × List Nat)
  | [], [] => some ((), [])
  | .cell t :: r, .cp c 0 :: q => match hget hp c with
    | some (.cell false none u) => (match asOwn hp t u, ancP hp r q with | some (x, a), some (y, b) => some ((x, y), c :: (a ++ b)) | _, _ => none)
    | _ => none
  | .kept t :: r, v :: q => match asOwn hp t v, ancP hp r q with | some (x, a), some (y, b) => some ((x, y), a ++ b) | _, _ => none
  | .own _ :: r, q => ancP hp r q
  | .dat _ :: r, q => ancP hp r q
  | .raw :: r, q => ancP hp r q
  | _, _ => none
def appDens : (l m : List Kd) → Kd.dens l → Kd.dens m → Kd.dens (l ++ m)
  | [], _, _, y => y
  | _ :: r, m, x, y => (x.1, appDens r m x.2 y)
/-- At the end of a function whose results and whose arguments' rest are its own. -/
def finC (sg : Sig) (res : List ARes) (ps : PS) : Option (Kd.dens (sg.rs ++ outK sg.ps)) :=
  match resP ps res with
  | some vs => (match ownsP ps.heap sg.rs vs, ancP ps.heap sg.ps ps.anc with
    | some (x, a), some (y, b) => if nodupB (a ++ b) = true then some (appDens _ _ x y) else none
    | _, _ => none)
  | none => none
def finI (sg : Sig) (res : List ARes) (ps : PS) : Option (Kd.dens sg.rs) :=
  match resP ps res with
  | some vs => datsP ps.heap sg.rs vs
  | none => none

def PV.known : PV → Bool
  | .undef => false
  | _ => true
/-! ### footprints -/
structure PF where
  rd : List Nat      -- names that are read
  rdI : Bool         -- it reads what is live and has no name
  wr : List Nat      -- names that are written
  wrT : List Nat     -- what it lays anew at its place
  tm : List Nat      -- the places of what it reads and writes
  w : Bool           -- it makes new objects
  nx : Bool
  all : Bool
  nn : Nat
  rs : List Nat      -- places of its own that are read
def tmpsOf (hp : List (Option PObj)) : List Nat → List Nat
  | [] => []
  | a :: r => match hget hp a with
    | some (.sl _ _ (some u) _ _ _ _) => u :: tmpsOf hp r
    | some (.cell _ (some u) _) => u :: tmpsOf hp r
    | _ => tmpsOf hp r
def mkPF (ps : PS) (rd : List Nat) (rdI : Bool) (wr wrT : List Nat) (w nx all : Bool) : PF := ⟨rd, rdI, wr, wrT, tmpsOf ps.heap (rd ++ wr), w, nx, all, ps.heap.length, []⟩
def ptrN : PV → List Nat
  | .own a => [a]
  | .win a _ _ => [a]
  | .cp a _ => [a]
  | .ep a _ _ _ _ _ => [a]
  | _ => []
def ptrT : PV → List Nat
  | .kp t _ _ => [t]
  | _ => []
def ptrI : PV → Bool
  | .d p t _ => !(p || t.flat)
  | .tp p _ _ _ => !p
  | _ => false
def pfCall (tb : PTab) (f : Nat) (vs : List PV) (ps : PS) : Option PF :=
  match tb f with
  | some (.con true sg _) => (match argsP ps.heap sg.ps vs with
    | some a => some (mkPF ps a.dn (!(a.fr && deepB ps.heap a.dn)) [] [] false false false)
    | none => none)
  | some (.con false sg _) => (match argsP ps.heap sg.ps vs with
    | some a => some (mkPF ps (a.dn ++ a.sn) (!(a.fr && deepB ps.heap a.dn)) a.sn [] true true false)
    | none => none)
  | some (.inl _ _ _ _) => some (mkPF ps [] false [] [] false true true)
  | none => none
/-- What is read by way of this. -/
def rsOf (ps : PS) : PV → Option Nat
  | .own a => match hget ps.heap a with
    | some (.sl _ _ (some u) _ e _ _) => (match e.flat with | true => some u | false => none)
    | _ => none
  | _ => none
def pfRd (ps : PS) (v : PV) : Option PF :=
  match rsOf ps v with
  | some u => some { mkPF ps [] false [] [] false false false with rs := [u] }
  | none => if v.known then some (let F := mkPF ps (ptrN v) (ptrI v || !(ptrT v).isEmpty) [] [] false false false; { F with tm := ptrT v ++ F.tm }) else none
def pfO0 (tb : PTab) (dst : Option Nat) (ps : PS) : AOp → Option PF
  | .alloc _ | .box _ | .bslice _ _ => some (mkPF ps [] false [] (opt1 dst) false false false)
  | .load _ _ x | .b2s x | .slice _ x _ _ _ | .iaddr _ x _ => pfRd ps (pev ps x)
  | .store _ a _ => if (pev ps a).known && (!ptrI (pev ps a) && (ptrT (pev ps a)).isEmpty) then some (mkPF ps [] false (ptrN (pev ps a)) [] false false false) else none
  | .s2b _ | .mksl _ _ _ | .bsliceD _ _ => some (mkPF ps [] false [] [] true true false)
  | .append _ x y => if (pev ps x).known && (!ptrI (pev ps x) && ((ptrT (pev ps x)).isEmpty && ((pev ps y).known && (ptrT (pev ps y)).isEmpty))) then some (mkPF ps (ptrN (pev ps y)) (ptrI (pev ps y)) (ptrN (pev ps x)) [] true true false) else none
  | .call f args => pfCall tb f (args.map (pev ps)) ps
  | .callv f args => match pev ps f with | .fn g caps => pfCall tb g (args.map (pev ps) ++ caps) ps | _ => none
  | .copy _ _ _ | .clear _ _ => none
  | _ => some (mkPF ps [] false [] [] false false false)
def liveB (hp : List (Option PObj)) (a : Nat) : Bool := (hget hp a).isSome
def pfO (tb : PTab) (dst : Option Nat) (ps : PS) (o : AOp) : Option PF :=
  match pfO0 tb dst ps o with
  | some F => if F.rd.all (liveB ps.heap) && F.wr.all (liveB ps.heap) then some F else none
  | none => none
def disN (a b : List Nat) : Bool := a.all fun x => !b.elem x
def PF.quiet (F : PF) : Bool := F.wr.isEmpty && (F.wrT.isEmpty && !F.w)
def PF.noisy (F : PF) : Bool := F.w || !F.wr.isEmpty
/-- F earlier, G later. -/
def pfInd (F G : PF) : Bool :=
  !(F.nx && G.nx) && (F.quiet && G.quiet ||
    !F.all && (!G.all && ((G.rd ++ G.wr).all (fun a => Nat.blt a F.nn) && (disN F.wr (G.rd ++ G.wr) && (disN G.wr F.rd && (disN F.wrT G.wrT && (disN F.wrT G.tm && (disN G.wrT F.tm && (!(G.rdI && F.noisy) && (!(F.rdI && G.noisy) && (disN F.wrT G.rs && (disN F.tm G.rs && (disN G.wrT F.rs && disN G.tm F.rs)))))))))))))
/-- Does it read alone, whatever its values? -/
def rdSt (tb : PTab) : AOp → Bool
  | .load _ _ _ | .b2s _ | .slice _ _ _ _ _ | .iaddr _ _ _ => true
  | .call f _ => match tb f with | some (.con true _ _) => true | _ => false
  | _ => false
def isCallO : AOp → Bool
  | .call _ _ | .callv _ _ => true
  | _ => false
def lookF : List (Nat × PF) → Nat → Option PF
  | [], _ => none
  | (a, v) :: r, t => match Nat.beq a t with | true => some v | false => lookF r t
def prsStat (tb : PTab) (l : List AOper) (prs : List (Nat × Nat)) : Bool :=
  prs.all fun p => Nat.blt p.1 p.2 && match l[p.1]?, l[p.2]? with
    | some x, some y => (x.guard.isNone && y.guard.isNone) || (rdSt tb x.op && (rdSt tb y.op && !(isCallO x.op && isCallO y.op)))
    | _, _ => false
def prsDyn (l : List AOper) (fs : List (Nat × PF)) (prs : List (Nat × Nat)) : Bool :=
  prs.all fun p => match l[p.1]?, l[p.2]? with
    | some x, some y => !(x.guard.isNone && y.guard.isNone) || (match lookF fs p.1, lookF fs p.2 with | some F, some G => pfInd F G | _, _ => false)
    | _, _ => false

/-! ### operations that hang on a condition -/
/-- What may stand there. -/
def calm (tb : PTab) : AOp → Bool
  | .alloc _ | .box _ | .bslice _ _ | .store _ _ _ | .append _ _ _ | .s2b _ | .mksl _ _ _ | .bsliceD _ _ | .copy _ _ _ | .clear _ _ => false
  | _ => true
/-- Up to the choice that ends them: those operations, where the choice is told, what is chosen from, and the rest. -/
def takeGrp (tb : PTab) (g : Nat) (want : Bool) (ds : List Nat) : List AOper → Option (List AOper × List Nat × Nat × Opd × Opd × List AOper)
  | [] => none
  | ⟨some q, none, .pick (.t g') a b⟩ :: r => if Nat.beq g g' then some ([], [], q, a, b, r) else none
  | ⟨some t, some (u, w), o⟩ :: r =>
    if calm tb o && (!Nat.beq t g && (ds.elem u || (Nat.beq u g && beqB w want))) then
      (match takeGrp tb g want (t :: ds) r with
      | some (l, ts, z) => some (⟨some t, if Nat.beq u g then none else some (u, w), o⟩ :: l, t :: ts, z)
      | none => none) else none
  | _ => none
def dropE : List Nat → List (Nat × PV) → List (Nat × PV)
  | [], e => e
  | t :: r, e => (t, .undef) :: dropE r e

/-! ### the machine -/
inductive Itp (ρ : Type) where
  | code (c : AC)
  | blk (id : Nat)
  | join (sk : Skel) (fx : List (Nat × PV)) (k : Kd.dens sk.gtys → Option ρ)
  | ou (l0 : List AOper) (i : Nat) (l : List AOper) (prs : List (Nat × Nat)) (fs : List (Nat × PF))
def unwP {ρ : Type} (id : Nat) : List (Itp ρ) → Option (List (Itp ρ))
  | [] => none
  | .blk i :: K => if i = id then some K else unwP id K
  | _ :: K => unwP id K
def bigK {ρ : Type} : List (Itp ρ) → Bool
  | [] => false
  | .blk _ :: K => bigK K
  | .code .skip :: K => bigK K
  | .code (.ops []) :: K => bigK K
  | .code .ret :: _ => false
  | .join _ _ _ :: _ => false
  | _ => true
def envT : List (Nat × SK) → List Nat
  | [] => []
  | (t, _) :: r => t :: envT r
def keysE : List (Nat × PV) → List Nat
  | [] => []
  | (t, _) :: r => t :: keysE r
def liveK {ρ : Type} (rt : List Nat) : List (Itp ρ) → List Nat
  | [] => rt
  | .code c :: K => match udC rt c with | (u, df) => if falls c || hasExit c then uni u (minus (liveK rt K) df) else u
  | .blk _ :: K => liveK rt K
  | .join sk fx _ :: _ => envT sk.env ++ keysE fx
  | .ou _ _ l _ _ :: K => match udOps l with | (u, df) => uni u (minus (liveK rt K) df)

structure Cx where
  hn : Hints
  pm : List Nat
  rt : List Nat
  N : Nat
def resT : List ARes → List Nat
  | [] => []
  | .tmp t :: r => t :: resT r
  | .cell t _ _ :: r => t :: resT r

def fxOK (env : List (Nat × PV)) : List (Nat × PV) → Bool
  | [] => true
  | (t, _) :: r => (look env t).known && fxOK env r
def toJoin {ρ : Type} (hn : Hints) (sk : Skel) (fx : List (Nat × PV)) (k : Kd.dens sk.gtys → Option ρ) (ps : PS) : Option ρ :=
  match fxOK ps.env fx with
  | true => (match matS sk (canon hn (envT sk.env) ps) with
    | some ds => (match toG sk ds with | some σ => k σ | none => none)
    | none => none)
  | false => none
def fromJoin {ρ : Type} (sk : Skel) (fx : List (Nat × PV)) (σ : Kd.dens sk.gtys) (k : PS → Option ρ) : Option ρ :=
  match filG sk σ with | some ps => k { ps with env := ps.env ++ fx } | none => none
/-- What stays as it is: of what is looked at behind, what is not set and hangs on no object. -/
def fixedE (ps : PS) (asg : List Nat) : List Nat → List (Nat × PV) × List Nat
  | [] => ([], [])
  | t :: r => match fixedE ps asg r with
    | (fx, lv) => if !asg.elem t && pureV (look ps.env t) then ((t, look ps.env t) :: fx, lv) else (fx, t :: lv)

abbrev RunP : Type 1 := ∀ {ρ : Type}, Cx → (PS → Option ρ) → List (Itp ρ) → PS → Option ρ

def caS (tb : PTab) (R : RunP) {ρ : Type} (cx : Cx) (f : Nat) (vs : List PV) (ps : PS) (k : PV → PS → Option ρ) : Option ρ :=
  match tb f with
  | some (.con fz sg F) => (match argsP ps.heap sg.ps vs with
    | some a => match a.sn with
      | [] => bindK (F a.xs) fun ys => (match ownifyR ps.heap.length sg.rs (fstDens sg.rs (outK sg.ps) ys) with
            | (ws, os) => k (tupP ws) { ps with heap := ps.heap ++ os })
      | _ :: _ => if nodupB a.sn && (disN a.dn a.sn && (a.fr && (deepB ps.heap a.dn && freePs ps.anc))) then
        bindK (F a.xs) fun ys => match leftP sg.ps vs (sndDens sg.rs (outK sg.ps) ys) (ps.heap.map clnO) with
          | some hp => (match ownifyR hp.length sg.rs (fstDens sg.rs (outK sg.ps) ys) with
            | (ws, os) => k (tupP ws) ⟨clnE ps.env, ps.anc, hp ++ os⟩)
          | none => none
      else none
    | none => none)
  | some (.inl sg fn hn pm) => (match inlArgs ps.heap sg.ps vs with
    | some l => bindK (R ⟨hn, pm, resT fn.res, cx.N⟩ (finI sg fn.res) [.code fn.body] ⟨bindE 0 l, [], ps.heap.map roN⟩) fun ys =>
        match ownifyR ps.heap.length sg.rs ys with
        | (ws, _) => k (tupP ws) ps
    | none => none)
  | none => none
def opS (tb : PTab) (R : RunP) {ρ : Type} (cx : Cx) (o : AOper) (ps : PS) (k : PV → PS → Option ρ) : Option ρ :=
  match o.op with
  | .call f args => caS tb R cx f (args.map (pev ps)) ps k
  | .callv f args => (match pev ps f with
    | .fn g caps => caS tb R cx g (args.map (pev ps) ++ caps) ps k
    | _ => none)
  | .store n a x => (match o.dst with | none => opP cx.hn cx.pm none ps (.store n a x) k | some _ => none)
  | op => opP cx.hn cx.pm o.dst ps op k
def grK {α : Type} (want b : Bool) (x y : α) : α := match want with | true => (bif b then x else y) | false => (bif b then y else x)
def grS (tb : PTab) (R : RunP) {ρ : Type} (cx : Cx) (o : AOper) (g : Nat) (want : Bool) (r : List AOper) (ps : PS) (k : Nat → List AOper → PS → Option ρ) : Option ρ :=
  match boolP (look ps.env g), takeGrp tb g want [] (o :: r) with
  | some b, some (grp, ts, q, x, y, rest) =>
    if disN (bif want then y else x).tmps ts then
      bindK (grK want b (R ⟨cx.hn, cx.pm, (bif want then x else y).tmps, cx.N⟩ (fun ps' => boolP (pev ps' (bif want then x else y))) [.code (.ops grp)] ⟨ps.env, [], ps.heap.map roO⟩) (boolP (pev ps (bif want then y else x)))) fun z =>
        k (grp.length + 1) rest { ps with env := (q, .d true .bool z) :: dropE ts ps.env }
    else none
  | _, _ => none

def evC (tb : PTab) : Nat → {ρ : Type} → Cx → (PS → Option ρ) → List (Itp ρ) → PS → Option ρ
  | 0, _, _, _, _, _ => none
  | n + 1, ρ, cx, fin, K, ps => match K with
    | [] => fin ps
    | .code .ret :: _ => fin ps
    | .code .skip :: K => evC tb n cx fin K ps
    | .blk _ :: K => evC tb n cx fin K ps
    | .join sk fx k :: _ => toJoin cx.hn sk fx k ps
    | .code (.seq a b) :: K => evC tb n cx fin (.code a :: .code b :: K) ps
    | .code (.exit i) :: K => match unwP i K with
      | some K' => evC tb n cx fin K' ps
      | none => none
    | .code (.block i b) :: K =>
      if Nat.ble 2 (exitN i b + (if falls b then 1 else 0)) && bigK K then
        let fl := fixedE ps (asgC b) (liveK cx.rt K)
        let sk := skS (canon cx.hn fl.2 ps)
        joinK (fun σ => fromJoin sk fl.1 σ fun ps' => evC tb n cx fin K ps') fun k => evC tb n cx fin (.code b :: .blk i :: .join sk fl.1 k :: K) ps
      else evC tb n cx fin (.code b :: .blk i :: K) ps
    | .code (.cond c a b) :: K => match boolP (pev ps c) with
      | some t => if falls a && (falls b && bigK K) then
          let fl := fixedE ps (asgC a ++ asgC b) (liveK cx.rt K)
          let sk := skS (canon cx.hn fl.2 ps)
          joinK (fun σ => fromJoin sk fl.1 σ fun ps' => evC tb n cx fin K ps') fun k =>
            bif t then evC tb n cx fin (.code a :: .join sk fl.1 k :: K) ps else evC tb n cx fin (.code b :: .join sk fl.1 k :: K) ps
        else bif t then evC tb n cx fin (.code a :: K) ps else evC tb n cx fin (.code b :: K) ps
      | none => none
    | .code (.loop b) :: K =>
      let fl := fixedE ps (asgC b) (liveK cx.rt (.code (.loop b) :: K))
      let sk := skS (canon cx.hn fl.2 ps)
      toJoin cx.hn sk fl.1 (fun σ0 => loopF (fun rec σ => fromJoin sk fl.1 σ fun ps' => evC tb n cx fin (.code b :: .join sk fl.1 rec :: K) ps') cx.N σ0) ps
    | .code (.ops []) :: K => evC tb n cx fin K ps
    | .code (.ops (o :: r)) :: K => match o.guard with
      | none => opS tb (@evC tb n) cx o ps fun v ps' => evC tb n cx fin (.code (.ops r) :: K) (ps'.put o.dst v)
      | some (g, want) => grS tb (@evC tb n) cx o g want r ps fun m rest ps' => evC tb n cx fin (.code (.ops rest) :: K) ps'
    | .code (.opsU (_ :: _) _ _) :: _ => none
    | .code (.opsU [] l prs) :: K => if prsStat tb l prs = true then evC tb n cx fin (.ou l 0 l prs [] :: K) ps else none
    | .ou l0 i [] prs fs :: K => if prsDyn l0 fs prs = true then evC tb n cx fin K ps else none
    | .ou l0 i (o :: r) prs fs :: K => match o.guard with
      | none => (match pfO tb o.dst ps o.op with
        | some F => opS tb (@evC tb n) cx o ps fun v ps' => evC tb n cx fin (.ou l0 (i + 1) r prs ((i, F) :: fs) :: K) (ps'.put o.dst v)
        | none => none)
      | some (g, want) => grS tb (@evC tb n) cx o g want r ps fun m rest ps' => evC tb n cx fin (.ou l0 (i + m) rest prs fs :: K) ps'
end
end Go.Am

/- The machine on typed data against the small machine: what a state stands for. -/
namespace Go.Am
set_option linter.unusedSimpArgs false
set_option linter.unusedVariables false

/-- What a state is seen in. -/
structure Vw where
  d : Nat
  hp : List (Option PObj)
  μ : Nat → AV
  L : Nat → List Id
  H : Heap
  nx : Nat

def live (hp : List (Option PObj)) (a : Nat) : Prop := (hget hp a).isSome = true
def Vw.top (X : Vw) (i : Id) : Prop := ∃ a, live X.hp a ∧ (X.L a).head? = some i
def oldI (d nx : Nat) : Id → Prop
  | .dy k => k < nx
  | .st d' _ => d' < d
  | .ex _ => False
/-- What nobody writes any more. -/
def Vw.Imm (X : Vw) (i : Id) : Prop := ¬ X.top i ∧ oldI X.d X.nx i

/-- The value that a promoted cell holds. -/
def Vw.KI (X : Vw) (t : Nat) (o : Id) : Prop := o = .st X.d t ∧ ¬ X.top o

def isRef : AV → Prop
  | .nils => True
  | .ref _ _ _ _ _ => True
  | _ => False

mutual
def VR (X : Vw) : PV → AV → Prop
  | .d p t x, v => ∃ Li, Rep false X.H t x v Li ∧ (p = true ∨ t.flat = true → Li = []) ∧ ∀ i ∈ Li, X.Imm i
  | .agg cs, v => v.isAgg = true ∧ VRs X cs v.cells
  | .nils, v => v = .nils
  | .own a, v => a < X.hp.length ∧ v = X.μ a ∧ isRef v
  | .win a off len, v => a < X.hp.length ∧ ((X.μ a = .nils ∧ v = .nils ∧ off = 0 ∧ len = 0) ∨ ∃ o g n off0 len0, X.μ a = .ref o g n off0 len0 ∧ off + len ≤ len0 ∧ v = .ref o g n (off0 + off) len)
  | .cp a off, v => a < X.hp.length ∧ ∃ o g, X.μ a = .ptr o g 1 0 0 ∧ v = .ptr o g 1 0 off
  | .ep a ver i off e x, v => a < X.hp.length ∧ ∃ o g n off0 len0, X.μ a = .ref o g n off0 len0 ∧ i < len0 ∧ v = .ptr o g n (off0 + i) off ∧
      ∀ ro ver' tmp sz e' dp xs, hget X.hp a = some (.sl ro ver' tmp sz e' dp xs) → ver ≤ ver' ∧ (ver = ver' → ∃ y, castK e e' x = some y ∧ xs[i]? = some y)
  | .tp p e x off, v => (∃ y, v = .tptr y off ∧ Rep false X.H e x (.c y) []) ∨
      (p = false ∧ ∃ o g n j b w Li, v = .ptr o g n j off ∧ X.H o = some b ∧ b.gen = g ∧ b.es.length = n ∧ b.sz = e.cn ∧ b.es[j]? = some w ∧ Rep false X.H e x w Li ∧ X.Imm o ∧ ∀ i ∈ Li, X.Imm i)
  | .kp t u off, v => pureV u = true ∧ cellOK u = true ∧ ∃ o g b w, X.KI t o ∧ v = .ptr o g 1 0 off ∧ X.H o = some b ∧ b.gen = g ∧ b.es = [w] ∧ b.sz = w.cells.length ∧ VR X u w
  | .fn f cs, v => ∃ vs, v = .fn f vs ∧ VRs X cs vs
  | .tup l, v => ∃ vs, v = .tup vs ∧ VRs X l vs
  | .undef, _ => True
def VRs (X : Vw) : List PV → List AV → Prop
  | [], [] => True
  | x :: r, v :: q => VR X x v ∧ VRs X r q
  | _, _ => False
end

/-- A slice's object. -/
def SlR (X : Vw) (a : Nat) (ro : Bool) (sz : Nat) (e : Kd) (dp : Bool) (xs : List e.den) : Prop :=
  sz = e.cn ∧ 0 < sz ∧ ((X.μ a = .nils ∧ xs = [] ∧ X.L a = []) ∨
    ∃ o g n off len b L', X.μ a = .ref o g n off len ∧ X.H o = some b ∧ b.gen = g ∧ b.es.length = n ∧ off + len ≤ n ∧ b.sz = sz ∧ (ro = false → b.w = true) ∧
      RepL (Rep dp X.H e) xs ((b.es.drop off).take len) L' ∧ (∀ x ∈ b.es, stor x = true ∧ x.cells.length = sz ∧ (dp = true → fineV (· ∈ L') x)) ∧
      X.L a = o :: (if dp = true then L' else []) ∧ (dp = false → ∀ i ∈ L', X.Imm i))
def ObR (X : Vw) (a : Nat) : PObj → Prop
  | .sl ro _ _ sz e dp xs => SlR X a ro sz e dp xs
  | .cell ro _ v => ∃ o g b w, X.μ a = .ptr o g 1 0 0 ∧ X.H o = some b ∧ b.gen = g ∧ b.es = [w] ∧ b.sz = w.cells.length ∧ 0 < b.sz ∧ stor w = true ∧ (ro = false → b.w = true) ∧ X.L a = [o] ∧ VR X v w ∧ cellOK v = true
def ageI (d nx : Nat) (tmp : Option Nat) : Id → Prop
  | .dy k => k < nx
  | .st d' t => d' < d ∨ (d' = d ∧ tmp = some t)
  | .ex _ => False

structure Rel (d : Nat) (anV : List AV) (P0 : Id → Prop) (H0 : Heap) (ps : PS) (μ : Nat → AV) (L : Nat → List Id) (E : AEnv) (H : Heap) (nx : Nat) : Prop where
  env : ∀ t, VR ⟨d, ps.heap, μ, L, H, nx⟩ (look ps.env t) (E t)
  anc : VRs ⟨d, ps.heap, μ, L, H, nx⟩ ps.anc anV
  ank : ∀ t, hasKps t ps.anc = false
  ob : ∀ a ob, hget ps.heap a = some ob → ObR ⟨d, ps.heap, μ, L, H, nx⟩ a ob
  dis : ∀ a b, a ≠ b → live ps.heap a → live ps.heap b → ∀ i ∈ L a, i ∉ L b
  nd : ∀ a, live ps.heap a → (L a).Nodup
  age : ∀ a ob, hget ps.heap a = some ob → ∀ i ∈ L a, ageI d nx (tmpO ob) i
  tl : ∀ a, live ps.heap a → ∀ i ∈ (L a).tail, oldI d nx i
  st : ∀ a ob t, hget ps.heap a = some ob → tmpO ob = some t → ∀ o, (L a).head? = some o → o = .st d t
  fresh : ∀ k, nx ≤ k → H (.dy k) = none
  p0 : ∀ i, P0 i → H i = H0 i
  p1 : ∀ a ob, hget ps.heap a = some ob → roOf ob = false → ∀ i ∈ L a, ¬ P0 i
  p2 : ∀ k, nx ≤ k → ¬ P0 (.dy k)

/-! ### lists -/
theorem hget_lt {hp : List (Option PObj)} : ∀ {a : Nat} {o : PObj}, hget hp a = some o → a < hp.length := by
  induction hp with
  | nil => intro a o h; simp [hget] at h
  | cons x r ih =>
    intro a o h
    cases a with
    | zero => simp
    | succ a => have := ih (a := a) (o := o) (by simpa [hget] using h); simp; omega
theorem hget_hset {hp : List (Option PObj)} {x : Option PObj} : ∀ {a b : Nat}, hget (hset hp a x) b = if b = a ∧ a < hp.length then x else hget hp b := by
  induction hp with
  | nil => intro a b; simp [hset, hget]
  | cons y r ih =>
    intro a b
    cases a with
    | zero => cases b <;> simp [hset, hget]
    | succ a =>
      cases b with
      | zero => simp [hset, hget]
      | succ b => simp only [hset, hget, ih]; simp
theorem hset_length {x : Option PObj} : ∀ {hp : List (Option PObj)} {a : Nat}, (hset hp a x).length = hp.length := by
  intro hp
  induction hp with
  | nil => intro a; rfl
  | cons y r ih => intro a; cases a <;> simp [hset, ih]
theorem hget_append {hp q : List (Option PObj)} : ∀ {a : Nat}, hget (hp ++ q) a = if a < hp.length then hget hp a else hget q (a - hp.length) := by
  induction hp with
  | nil => intro a; simp
  | cons y r ih =>
    intro a
    cases a with
    | zero => simp [hget]
    | succ a => simp only [List.cons_append, hget, ih, List.length_cons]; simp
theorem hget_ge {hp : List (Option PObj)} : ∀ {a : Nat}, hp.length ≤ a → hget hp a = none := by
  induction hp with
  | nil => intro a _; simp [hget]
  | cons y r ih => intro a h; cases a with
    | zero => simp at h
    | succ a => simp only [hget]; exact ih (by simpa using h)
theorem look_cons {e : List (Nat × PV)} {u : Nat} {v : PV} {t : Nat} : look ((u, v) :: e) t = if u = t then v else look e t := by
  simp only [look]
  by_cases h : u = t
  · subst h; simp
  · rw [if_neg h]
    have : Nat.beq u t = false := by
      cases hb : Nat.beq u t with
      | true => exact (h (Nat.eq_of_beq_eq_true hb)).elim
      | false => rfl
    rw [this]

/-! ### how the view may change -/
def laterO : Option PObj → Option PObj → Prop
  | o, none => True
  | some (.sl _ ver _ _ e _ xs), some (.sl _ ver' _ _ e' _ xs') => ver < ver' ∨ (ver = ver' ∧ ∃ h : e = e', h ▸ xs = xs')
  | some (.cell _ _ _), some (.cell _ _ _) => True
  | _, _ => False
theorem laterO.refl (o : Option PObj) : laterO o o := by
  cases o with
  | none => trivial
  | some o => cases o with
    | sl => exact .inr ⟨rfl, rfl, rfl⟩
    | cell => trivial

structure Grow (X Y : Vw) (tm : Option Nat) : Prop where
  d : Y.d = X.d
  len : X.hp.length ≤ Y.hp.length
  mu : ∀ a, a < X.hp.length → Y.μ a = X.μ a
  ob : ∀ a, a < X.hp.length → laterO (hget X.hp a) (hget Y.hp a)
  imm : ∀ i, X.Imm i → Y.H i = X.H i ∧ Y.Imm i
  ki : ∀ t o, tm ≠ some t → X.KI t o → Y.H o = X.H o ∧ Y.KI t o

theorem Grow.refl (X : Vw) : Grow X X none := ⟨rfl, Nat.le_refl _, fun _ _ => rfl, fun _ _ => laterO.refl _, fun _ h => ⟨rfl, h⟩, fun _ _ _ h => ⟨rfl, h⟩⟩

theorem castK_eq {t t' : Kd} {x : t.den} {y : t'.den} (h : castK t t' x = some y) : ∃ e : t = t', e ▸ x = y := by
  unfold castK at h
  split at h
  · rename_i hb
    exact ⟨Kd.beq_eq t t' hb, Option.some.inj h⟩
  · cases h
theorem Kd.beq_refl_aux : (∀ t : Kd, Kd.beq t t = true) ∧ True := by
  refine ⟨?_, trivial⟩
  intro t
  refine Kd.rec (motive_1 := fun t => Kd.beq t t = true) (motive_2 := fun l => Kd.beqs l l = true) ?_ ?_ ?_ ?_ ?_ ?_ ?_ t
  · intro k; simp [Kd.beq]
  · rfl
  · rfl
  · intro fs h; simpa [Kd.beq] using h
  · intro sz e h; simp [Kd.beq, h]
  · rfl
  · intro a r h1 h2; simp [Kd.beqs, h1, h2]
theorem castK_self {t : Kd} (x : t.den) : castK t t x = some x := by
  unfold castK
  rw [dif_pos (Kd.beq_refl_aux.1 t)]

theorem hasKps_pure {t : Nat} : ∀ {cs : List PV}, cs.all pureLeaf = true → hasKps t cs = false := by
  intro cs
  induction cs with
  | nil => intro _; rfl
  | cons x r ih =>
    intro h
    simp only [List.all_cons, Bool.and_eq_true] at h
    simp only [hasKps, ih h.2, Bool.or_false]
    cases x <;> first | rfl | simp [pureLeaf] at h
theorem hasKp_cell {t : Nat} {u : PV} (h0 : pureV u = true) (h1 : cellOK u = true) : hasKp t u = false := by
  cases u with
  | agg cs => exact hasKps_pure h0
  | d => rfl
  | nils => rfl
  | _ => first | (simp [cellOK, cellLeaf] at h1; done) | rfl

mutual
theorem VR.mono {X Y : Vw} {tm : Option Nat} (g : Grow X Y tm) : ∀ (v : PV) (a : AV), (∀ t, tm = some t → hasKp t v = false) → VR X v a → VR Y v a
  | .d p t x, a, _, ⟨Li, h1, h2, h3⟩ => ⟨Li, Rep.frame t x a Li (fun i hi => (g.imm i (h3 i hi)).1) h1, h2, fun i hi => (g.imm i (h3 i hi)).2⟩
  | .agg cs, a, hk, ⟨h1, h2⟩ => ⟨h1, VRs.mono g cs _ (fun t e => by simpa [hasKp] using hk t e) h2⟩
  | .nils, a, _, h => h
  | .own b, a, _, ⟨h1, h2, h3⟩ => ⟨Nat.lt_of_lt_of_le h1 g.len, h2.trans (g.mu b h1).symm, h3⟩
  | .win b off len, a, _, ⟨h1, h2⟩ => ⟨Nat.lt_of_lt_of_le h1 g.len, by rw [g.mu b h1]; exact h2⟩
  | .cp b off, a, _, ⟨h1, h2⟩ => ⟨Nat.lt_of_lt_of_le h1 g.len, by rw [g.mu b h1]; exact h2⟩
  | .ep b ver i off e x, a, _, ⟨h1, o, gg, n, off0, len0, h2, h3, h4, h5⟩ => by
    refine ⟨Nat.lt_of_lt_of_le h1 g.len, o, gg, n, off0, len0, by rw [g.mu b h1]; exact h2, h3, h4, ?_⟩
    intro ro ver' tmp sz e' dp xs hb
    have hl := g.ob b h1
    rw [hb] at hl
    cases hx : hget X.hp b with
    | none => rw [hx] at hl; exact hl.elim
    | some ob =>
      rw [hx] at hl
      cases ob with
      | cell => exact hl.elim
      | sl ro1 ver1 tmp1 sz1 e1 dp1 xs1 =>
        obtain ⟨k1, k2⟩ := h5 _ _ _ _ _ _ _ hx
        rcases hl with hl | ⟨hl, he, hxs⟩
        · exact ⟨by omega, fun e => by omega⟩
        · subst hl; subst he; subst hxs
          exact ⟨k1, k2⟩
  | .tp p e x off, a, _, h => by
    rcases h with ⟨y, h1, h2⟩ | ⟨h0, o, gg, n, j, b, w, Li, h1, h2, h3, h4, h5, h6, h7, h9, h10⟩
    · exact .inl ⟨y, h1, Rep.frame e x _ [] (fun i hi => by cases hi) h2⟩
    · exact .inr ⟨h0, o, gg, n, j, b, w, Li, h1, (g.imm o h9).1.trans h2, h3, h4, h5, h6, Rep.frame e x w Li (fun i hi => (g.imm i (h10 i hi)).1) h7, (g.imm o h9).2, fun i hi => (g.imm i (h10 i hi)).2⟩
  | .kp t u off, a, hk, ⟨h0, h0', o, gg, b, w, h1, h2, h3, h4, h5, h6, h7⟩ => by
    have hne : tm ≠ some t := fun e => by simpa [hasKp] using hk t e
    obtain ⟨k1, k2⟩ := g.ki t o hne h1
    refine ⟨h0, h0', o, gg, b, w, k2, h2, k1.trans h3, h4, h5, h6, VR.mono g u w (fun t' _ => ?_) h7⟩
    exact hasKp_cell h0 h0'
  | .fn f cs, a, hk, ⟨vs, h1, h2⟩ => ⟨vs, h1, VRs.mono g cs vs (fun t e => by simpa [hasKp] using hk t e) h2⟩
  | .tup l, a, hk, ⟨vs, h1, h2⟩ => ⟨vs, h1, VRs.mono g l vs (fun t e => by simpa [hasKp] using hk t e) h2⟩
  | .undef, _, _, _ => trivial
theorem VRs.mono {X Y : Vw} {tm : Option Nat} (g : Grow X Y tm) : ∀ (v : List PV) (a : List AV), (∀ t, tm = some t → hasKps t v = false) → VRs X v a → VRs Y v a
  | [], [], _, _ => trivial
  | x :: r, v :: q, hk, ⟨h1, h2⟩ => ⟨VR.mono g x v (fun t e => by have := hk t e; simp [hasKps] at this; exact this.1) h1, VRs.mono g r q (fun t e => by have := hk t e; simp [hasKps] at this; exact this.2) h2⟩
  | [], _ :: _, _, h => h.elim
  | _ :: _, [], _, h => h.elim
end
end Go.Am

/- The machine on typed data against the small machine: reading. -/
namespace Go.Am
set_option linter.unusedSimpArgs false
set_option linter.unusedVariables false

theorem litS_back (l : List UInt8) : litS (l.map UInt8.toNat) = l := by
  rw [litS_def]
  rw [List.map_map]
  conv => rhs; rw [← List.map_id l]
  refine List.map_congr_left fun b _ => ?_
  simp

section
variable {X : Vw}

theorem constV_rel (x : Value) : VR X (constV x) (.c (.s x)) := by
  cases x with
  | int k n => exact ⟨[], ⟨rfl, rfl⟩, fun _ => rfl, fun i hi => by cases hi⟩
  | bool b => exact ⟨[], ⟨rfl, rfl⟩, fun _ => rfl, fun i hi => by cases hi⟩
  | string s =>
    refine ⟨[], ⟨?_, rfl⟩, fun _ => rfl, fun i hi => by cases hi⟩
    rw [litS_back]
  | _ => trivial
theorem constA_go : ∀ (l : List AV), VRs X (constA.go l) l
  | [] => trivial
  | .c (.s v) :: r => ⟨constV_rel v, constA_go r⟩
  | .nils :: r => ⟨rfl, constA_go r⟩
  | .c (.agg _) :: r => ⟨trivial, constA_go r⟩
  | .c (.sl _ _) :: r => ⟨trivial, constA_go r⟩
  | .agg _ :: r => ⟨trivial, constA_go r⟩
  | .tup _ :: r => ⟨trivial, constA_go r⟩
  | .tptr _ _ :: r => ⟨trivial, constA_go r⟩
  | .ref _ _ _ _ _ :: r => ⟨trivial, constA_go r⟩
  | .ptr _ _ _ _ _ :: r => ⟨trivial, constA_go r⟩
  | .fn _ _ :: r => ⟨trivial, constA_go r⟩
  | .undef :: r => ⟨trivial, constA_go r⟩
theorem constA_rel (v : AV) : VR X (constA v) v := by
  cases v with
  | c t => cases t with
    | s x => exact constV_rel x
    | _ => trivial
  | agg cs => exact ⟨rfl, constA_go cs⟩
  | nils => rfl
  | fn f cs => cases cs with
    | nil => exact ⟨[], rfl, trivial⟩
    | cons => trivial
  | _ => trivial

theorem Rep.cells1 {own : Bool} {H : Heap} {t : Kd} {x : t.den} {a : AV} {L : List Id} (hs : t.isS = false) (h : Rep own H t x a L) : a.cells = [a] := by
  cases t with
  | st => simp [Kd.isS] at hs
  | sl sz e =>
    rcases h with ⟨rfl, _⟩ | ⟨_, z, ts, rfl, _⟩ | ⟨o, g, n, off, len, b, L', rfl, _⟩ <;> rfl
  | int => obtain ⟨rfl, _⟩ := h; rfl
  | bool => obtain ⟨rfl, _⟩ := h; rfl
  | str => obtain ⟨rfl, _⟩ := h; rfl

theorem leafsP_rel {p : Bool} : ∀ (fs : List Kd) (x : Kd.dens fs) (vs : List AV) (Li : List Id), Reps false X.H fs x vs Li → (p = true ∨ (Kd.st fs).flat = true → Li = []) → (∀ i ∈ Li, X.Imm i) → VRs X (leafsP p fs x) vs
  | [], x, [], Li, _, _, _ => trivial
  | [], x, _ :: _, Li, h, _, _ => h.elim
  | t :: r, x, [], Li, h, _, _ => h.elim
  | t :: r, x, v :: vs, Li, ⟨h0, L1, L2, h1, h2, e⟩, hp, hi => by
    subst e
    refine ⟨⟨L1, h1, fun q => ?_, fun i h => hi i (by simp [h])⟩, leafsP_rel r x.2 vs L2 h2 (fun q => ?_) (fun i h => hi i (by simp [h]))⟩
    · rcases q with q | q
      · have := hp (.inl q)
        simp at this; exact this.1
      · exact (h1.flat (own' := false) (H' := X.H) q).2
    · rcases q with q | q
      · have := hp (.inl q)
        simp at this; exact this.2
      · exact (Reps.flat (own' := false) (H' := X.H) r x.2 vs L2 q h2).2

theorem cells_rel : ∀ (v : PV) (a : AV), v.known = true → VR X v a → VRs X v.cells a.cells ∧ v.isAgg = a.isAgg
  | .d p t x, a, _, ⟨Li, h1, h2, h3⟩ => by
    cases t with
    | st fs => exact ⟨leafsP_rel fs x a.cells Li h1.2 h2 h3, h1.1.symm⟩
    | _ =>
      have hc := h1.cells1 rfl
      refine ⟨?_, ?_⟩
      · rw [hc]; exact ⟨⟨Li, h1, h2, h3⟩, trivial⟩
      · rw [h1.stor.2.2]; rfl
  | .agg cs, a, _, ⟨h1, h2⟩ => ⟨h2, h1.symm⟩
  | .nils, a, _, h => by obtain rfl : a = .nils := h; exact ⟨⟨rfl, trivial⟩, rfl⟩
  | .own b, a, _, h => by
    have h' := h
    obtain ⟨h1, h2, h3⟩ := h
    cases a with
    | nils => exact ⟨⟨h', trivial⟩, rfl⟩
    | ref o g n off len => exact ⟨⟨h', trivial⟩, rfl⟩
    | _ => exact h3.elim
  | .win b off len, a, _, ⟨h0, h⟩ => by
    rcases h with ⟨h1, rfl, h3, h4⟩ | ⟨o, g, n, off0, len0, h1, h2, rfl⟩
    · exact ⟨⟨⟨h0, .inl ⟨h1, rfl, h3, h4⟩⟩, trivial⟩, rfl⟩
    · exact ⟨⟨⟨h0, .inr ⟨o, g, n, off0, len0, h1, h2, rfl⟩⟩, trivial⟩, rfl⟩
  | .cp b off, a, _, h => by
    have h' := h
    obtain ⟨h0, o, g, h1, rfl⟩ := h
    exact ⟨⟨h', trivial⟩, rfl⟩
  | .ep b ver i off e x, a, _, h => by
    have h' := h
    obtain ⟨h0, o, g, n, off0, len0, h1, h2, rfl, h4⟩ := h
    exact ⟨⟨h', trivial⟩, rfl⟩
  | .tp p e x off, a, _, h => by
    have h' := h
    rcases h with ⟨y, rfl, h2⟩ | ⟨h0, o, gg, n, j, b, w, Li, rfl, h2⟩
    · exact ⟨⟨h', trivial⟩, rfl⟩
    · exact ⟨⟨h', trivial⟩, rfl⟩
  | .kp t u off, a, _, h => by
    have h' := h
    obtain ⟨_, _, o, gg, b, w, _, rfl, _⟩ := h
    exact ⟨⟨h', trivial⟩, rfl⟩
  | .fn f cs, a, _, ⟨vs, h1, h2⟩ => by subst h1; exact ⟨⟨⟨vs, rfl, h2⟩, trivial⟩, rfl⟩
  | .tup l, a, _, ⟨vs, h1, h2⟩ => by subst h1; exact ⟨⟨⟨vs, rfl, h2⟩, trivial⟩, rfl⟩

/-- What stays of the objects behind a view. -/
def Obs (X : Vw) : Prop := ∀ a ob, hget X.hp a = some ob → ObR X a ob

theorem take_drop_sub {α : Type} (l : List α) (off0 len0 off len : Nat) (h : off + len ≤ len0) : (l.drop (off0 + off)).take len = ((((l.drop off0).take len0).drop off).take len) := by
  rw [List.drop_take, List.take_take, List.drop_drop]
  congr 1
  omega

theorem RepL.sub {α : Type} {R : α → AV → List Id → Prop} {xs : List α} {vs : List AV} {L : List Id} (off len : Nat) (h : RepL R xs vs L) : ∃ L', RepL R ((xs.drop off).take len) ((vs.drop off).take len) L' ∧ ∀ i ∈ L', i ∈ L := by
  obtain ⟨L1, L2, _, h2, rfl⟩ := h.split off
  obtain ⟨M1, M2, h3, _, rfl⟩ := h2.split len
  exact ⟨M1, h3, fun i hi => by simp [hi]⟩

/-- How the names read tell of the live objects read. -/
def Bnd (X : Vw) (ns : List Nat) (fr : Bool) (Li : List Id) : Prop := ∀ i ∈ Li, (∃ a ∈ ns, live X.hp a ∧ i ∈ X.L a) ∨ X.Imm i

theorem own_read (hob : Obs X) {b : Nat} {a : AV} (h : VR X (.own b) a) {ro : Bool} {ver : Nat} {tmp : Option Nat} {sz : Nat} {e : Kd} {dp : Bool} {xs : List e.den} (hb : hget X.hp b = some (.sl ro ver tmp sz e dp xs)) :
    ∃ Li, Rep false X.H (.sl sz e) xs a Li ∧ ∀ i ∈ Li, i ∈ X.L b ∨ X.Imm i := by
  obtain ⟨h1, rfl, h3⟩ := h
  obtain ⟨k0, k1, k2⟩ := hob b _ hb
  rcases k2 with ⟨e1, e2, e3⟩ | ⟨o, g, n, off, len, ob, L', e1, e2, e3, e4, e5, e6, e7, e8, e9, e10, e11⟩
  · exact ⟨[], .inl ⟨e1, e2, rfl⟩, fun i hi => by cases hi⟩
  · refine ⟨o :: L', .inr (.inr ⟨o, g, n, off, len, ob, L', e1, e2, e3, e4, e5, e6, e8.imp (fun x v L'' _ _ h => ?_), rfl, (fun h => by cases h), k0⟩), ?_⟩
    · cases dp with
      | true => exact Rep.read e x v L'' h
      | false => exact h
    · intro i hi
      rw [e10]
      cases dp with
      | true => left; simpa using hi
      | false =>
        rcases List.mem_cons.1 hi with rfl | hi
        · left; simp
        · right; exact e11 rfl i hi

theorem win_read (hob : Obs X) {b off len : Nat} {a : AV} (h : VR X (.win b off len) a) {ro : Bool} {ver : Nat} {tmp : Option Nat} {sz : Nat} {e : Kd} {dp : Bool} {xs : List e.den} (hb : hget X.hp b = some (.sl ro ver tmp sz e dp xs)) :
    ∃ Li, Rep false X.H (.sl sz e) (sub xs off len) a Li ∧ ∀ i ∈ Li, i ∈ X.L b ∨ X.Imm i := by
  obtain ⟨h1, h2⟩ := h
  obtain ⟨k0, k1, k2⟩ := hob b _ hb
  rcases k2 with ⟨e1, e2, e3⟩ | ⟨o, g, n, off0, len0, ob, L', e1, e2, e3, e4, e5, e6, e7, e8, e9, e10, e11⟩
  · rcases h2 with ⟨_, rfl, rfl, rfl⟩ | ⟨o, g, n, off0, len0, q, _⟩
    · exact ⟨[], .inl ⟨rfl, by rw [e2, sub_def]; rfl, rfl⟩, fun i hi => by cases hi⟩
    · rw [e1] at q; cases q
  · rcases h2 with ⟨q, _⟩ | ⟨o', g', n', off0', len0', q, q2, rfl⟩
    · rw [e1] at q; cases q
    · rw [e1] at q
      obtain ⟨rfl, rfl, rfl, rfl, rfl⟩ := q
      obtain ⟨M, m1, m2⟩ := e8.sub off len
      refine ⟨o :: M, .inr (.inr ⟨o, g, n, off0 + off, len, ob, M, rfl, e2, e3, e4, by omega, e6, ?_, rfl, (fun h => by cases h), k0⟩), ?_⟩
      · rw [take_drop_sub _ _ _ _ _ q2, sub_def]
        refine m1.imp (fun x v L'' _ _ h => ?_)
        cases dp with
        | true => exact Rep.read e x v L'' h
        | false => exact h
      · intro i hi
        rw [e10]
        rcases List.mem_cons.1 hi with rfl | hi
        · left; simp
        · cases dp with
          | true => left; simp [m2 i hi]
          | false => right; exact e11 rfl i (m2 i hi)

theorem cast_rep {own : Bool} {H : Heap} {t t' : Kd} {x : t.den} {y : t'.den} {a : AV} {L : List Id} (h : castK t t' x = some y) (hr : Rep own H t x a L) : Rep own H t' y a L := by
  obtain ⟨rfl, rfl⟩ := castK_eq h; exact hr

theorem asLeaf_rel (hob : Obs X) {t : Kd} {v : PV} {a : AV} {x : t.den} (h : VR X v a) (hx : asLeaf X.hp t v = some x) :
    ∃ Li, Rep false X.H t x a Li ∧ Bnd X (nameLeaf v) false Li := by
  cases v with
  | d p t' y =>
    simp only [asLeaf] at hx
    obtain ⟨Li, h1, h2, h3⟩ := h
    exact ⟨Li, cast_rep hx h1, fun i hi => .inr (h3 i hi)⟩
  | nils =>
    obtain rfl : a = .nils := h
    simp only [asLeaf] at hx
    cases t with
    | sl sz e =>
      obtain rfl := Option.some.inj hx
      exact ⟨[], .inl ⟨rfl, rfl, rfl⟩, fun i hi => by cases hi⟩
    | _ => cases hx
  | own b =>
    simp only [asLeaf] at hx
    split at hx
    · rename_i ro ver tmp sz e dp xs hb
      obtain ⟨Li, h1, h2⟩ := own_read hob h hb
      have hl : live X.hp b := by unfold live; rw [hb]; rfl
      refine ⟨Li, cast_rep hx h1, fun i hi => (h2 i hi).imp (fun q => ⟨b, by simp [nameLeaf], hl, q⟩) id⟩
    · cases hx
  | win b off len =>
    simp only [asLeaf] at hx
    split at hx
    · rename_i ro ver tmp sz e dp xs hb
      obtain ⟨Li, h1, h2⟩ := win_read hob h hb
      have hl : live X.hp b := by unfold live; rw [hb]; rfl
      refine ⟨Li, cast_rep hx h1, fun i hi => (h2 i hi).imp (fun q => ⟨b, by simp [nameLeaf], hl, q⟩) id⟩
    · cases hx
  | _ => simp [asLeaf] at hx

theorem Bnd.app {ns ms : List Nat} {L M : List Id} (h : Bnd X ns false L) (k : Bnd X ms false M) : Bnd X (ns ++ ms) false (L ++ M) := by
  intro i hi
  rcases List.mem_append.1 hi with hi | hi
  · exact (h i hi).imp (fun ⟨a, b, c⟩ => ⟨a, by simp [b], c⟩) id
  · exact (k i hi).imp (fun ⟨a, b, c⟩ => ⟨a, by simp [b], c⟩) id

theorem asDs_rel (hob : Obs X) : ∀ (fs : List Kd) (vs : List PV) (as : List AV) (x : Kd.dens fs), VRs X vs as → asDs X.hp fs vs = some x → ∃ Li, Reps false X.H fs x as Li ∧ Bnd X (vs.flatMap nameLeaf) false Li
  | [], [], [], x, _, _ => ⟨[], rfl, fun i hi => by cases hi⟩
  | [], _ :: _, _, x, _, h => by simp [asDs] at h
  | [], [], _ :: _, x, h, _ => h.elim
  | t :: r, [], _, x, _, h => by simp [asDs] at h
  | t :: r, v :: q, [], x, h, _ => h.elim
  | t :: r, v :: q, a :: as, x, ⟨h1, h2⟩, h => by
    simp only [asDs] at h
    split at h
    · rename_i x1 x2 e1 e2 e3
      obtain rfl := Option.some.inj h
      obtain ⟨L1, k1, k2⟩ := asLeaf_rel hob h1 e2
      obtain ⟨L2, k3, k4⟩ := asDs_rel hob r q as _ h2 e3
      exact ⟨L1 ++ L2, ⟨e1, L1, L2, k1, k3, rfl⟩, by rw [List.flatMap_cons]; exact k2.app k4⟩
    · cases h

theorem bnd_leaf {t : Kd} {v : PV} {x : t.den} {Li : List Id} (hx : asLeaf X.hp t v = some x) (h : Bnd X (nameLeaf v) false Li) : Bnd X (namesV v) false Li := by
  cases v with
  | agg cs => simp only [asLeaf] at hx; cases hx
  | _ => exact h

theorem asSt_rel (hob : Obs X) {fs : List Kd} {v : PV} {a : AV} {x : Kd.dens fs} (h : VR X v a) (hx : asSt X.hp fs v = some x) :
    ∃ Li, Rep false X.H (.st fs) x a Li ∧ Bnd X (namesV v) false Li := by
  cases v with
  | agg cs =>
    obtain ⟨h1, h2⟩ := h
    obtain ⟨Li, k1, k2⟩ := asDs_rel hob fs cs _ x h2 hx
    exact ⟨Li, ⟨h1, k1⟩, k2⟩
  | d p t' y =>
    have hx' : castK t' (.st fs) y = some x := hx
    obtain ⟨Li, h1, h2, h3⟩ := h
    obtain ⟨rfl, rfl⟩ := castK_eq hx'
    exact ⟨Li, h1, fun i hi => .inr (h3 i hi)⟩
  | _ => exact nomatch (show (none : Option (Kd.dens fs)) = some x from hx)

theorem asD_rel (hob : Obs X) {t : Kd} {v : PV} {a : AV} {x : t.den} (h : VR X v a) (hx : asD X.hp t v = some x) :
    ∃ Li, Rep false X.H t x a Li ∧ Bnd X (namesV v) false Li := by
  have leaf : ∀ (t : Kd) (x : t.den), asLeaf X.hp t v = some x → ∃ Li, Rep false X.H t x a Li ∧ Bnd X (namesV v) false Li := by
    intro t x hx
    obtain ⟨Li, k1, k2⟩ := asLeaf_rel hob h hx
    exact ⟨Li, k1, bnd_leaf hx k2⟩
  cases t with
  | st fs => exact asSt_rel hob h hx
  | int k => exact leaf _ _ hx
  | bool => exact leaf _ _ hx
  | str => exact leaf _ _ hx
  | sl sz e => exact leaf _ _ hx

/-! ### what is its own -/
/-- The live objects of some names. -/
def idsN (L : Nat → List Id) : List Nat → List Id
  | [] => []
  | a :: r => L a ++ idsN L r
theorem idsN_app {L : Nat → List Id} : ∀ {a b : List Nat}, idsN L (a ++ b) = idsN L a ++ idsN L b
  | [], b => rfl
  | x :: r, b => by simp [idsN, idsN_app (a := r)]
theorem mem_idsN {L : Nat → List Id} {i : Id} : ∀ {l : List Nat}, i ∈ idsN L l ↔ ∃ a ∈ l, i ∈ L a
  | [] => by simp [idsN]
  | x :: r => by simp [idsN, mem_idsN (l := r)]

/-- Slices of its own that may be handed on. -/
def OwnN (X : Vw) (ns : List Nat) : Prop := ∀ a ∈ ns, ∃ ver sz e, ∃ xs : List (Kd.den e), hget X.hp a = some (.sl false ver none sz e true xs)

theorem own_own (hob : Obs X) {b : Nat} {a : AV} (h : VR X (.own b) a) {ver : Nat} {tmp : Option Nat} {sz : Nat} {e : Kd} {xs : List e.den} (hb : hget X.hp b = some (.sl false ver tmp sz e true xs)) :
    Rep true X.H (.sl sz e) xs a (X.L b) := by
  obtain ⟨h1, rfl, h3⟩ := h
  obtain ⟨k0, k1, k2⟩ := hob b _ hb
  rcases k2 with ⟨e1, e2, e3⟩ | ⟨o, g, n, off, len, ob, L', e1, e2, e3, e4, e5, e6, e7, e8, e9, e10, e11⟩
  · exact .inl ⟨e1, e2, e3⟩
  · exact .inr (.inr ⟨o, g, n, off, len, ob, L', e1, e2, e3, e4, e5, e6, e8, by rw [e10]; rfl, (fun _ => ⟨e7 rfl, fun x hx => ⟨(e9 x hx).1, (e9 x hx).2.1, (e9 x hx).2.2 rfl⟩⟩), k0⟩)

theorem ownLeaf_rel (hob : Obs X) {t : Kd} {v : PV} {a : AV} {x : t.den} {ns : List Nat} (hs : t.isS = false) (h : VR X v a) (hx : ownLeaf X.hp t v = some (x, ns)) :
    Rep true X.H t x a (idsN X.L ns) ∧ OwnN X ns := by
  have leaf : ∀ (t : Kd) (x : t.den), t.flat = true → plainL X.hp t v = some (x, ns) → Rep true X.H t x a (idsN X.L ns) ∧ OwnN X ns := by
    intro t x hf h2
    unfold plainL at h2
    split at h2
    · rename_i y hy
      cases h2
      obtain ⟨Li, k1, _⟩ := asLeaf_rel hob h hy
      obtain ⟨k2, rfl⟩ := k1.flat (own' := true) (H' := X.H) hf
      exact ⟨k2, fun a ha => by cases ha⟩
    · cases h2
  cases t with
  | st => simp [Kd.isS] at hs
  | int => exact leaf _ _ rfl hx
  | bool => exact leaf _ _ rfl hx
  | str => exact leaf _ _ rfl hx
  | sl sz e =>
    simp only [ownLeaf] at hx
    cases v with
    | nils =>
      obtain rfl : a = .nils := h
      simp only [ownSl] at hx
      cases hx
      exact ⟨.inl ⟨rfl, rfl, rfl⟩, fun a ha => by cases ha⟩
    | own b =>
      simp only [ownSl] at hx
      split at hx
      · rename_i ver sz' e' xs hb
        split at hx
        · rename_i y hy
          cases hx
          refine ⟨?_, fun c hc => ?_⟩
          · have := cast_rep hy (own_own hob h hb)
            simpa [idsN] using this
          · obtain rfl : c = b := by simpa using hc
            exact ⟨ver, sz', e', xs, hb⟩
        · cases hx
      · cases hx
    | _ => simp only [ownSl] at hx; cases hx

theorem OwnN.app {a b : List Nat} (h : OwnN X a) (k : OwnN X b) : OwnN X (a ++ b) := by
  intro x hx
  rcases List.mem_append.1 hx with hx | hx
  · exact h x hx
  · exact k x hx

theorem ownLeafs_rel (hob : Obs X) : ∀ (fs : List Kd) (vs : List PV) (as : List AV) (x : Kd.dens fs) (ns : List Nat), VRs X vs as → ownLeafs X.hp fs vs = some (x, ns) → Reps true X.H fs x as (idsN X.L ns) ∧ OwnN X ns
  | [], [], [], x, ns, _, h => by simp only [ownLeafs] at h; cases h; exact ⟨rfl, fun a ha => by cases ha⟩
  | [], _ :: _, _, x, _, _, h => by simp [ownLeafs] at h
  | [], [], _ :: _, x, _, h, _ => h.elim
  | t :: r, [], _, x, _, _, h => by simp [ownLeafs] at h
  | t :: r, v :: q, [], x, _, h, _ => h.elim
  | t :: r, v :: q, a :: as, x, ns, ⟨h1, h2⟩, h => by
    simp only [ownLeafs] at h
    split at h
    · rename_i x1 n1 x2 n2 e1 e2 e3
      cases h
      obtain ⟨k1, k2⟩ := ownLeaf_rel hob e1 h1 e2
      obtain ⟨k3, k4⟩ := ownLeafs_rel hob r q as _ _ h2 e3
      exact ⟨⟨e1, _, _, k1, k3, idsN_app⟩, k2.app k4⟩
    · cases h

theorem asOwn_rel (hob : Obs X) {t : Kd} {v : PV} {a : AV} {x : t.den} {ns : List Nat} (h : VR X v a) (hx : asOwn X.hp t v = some (x, ns)) :
    Rep true X.H t x a (idsN X.L ns) ∧ OwnN X ns := by
  cases t with
  | st fs =>
    simp only [asOwn] at hx
    split at hx
    · rename_i hag
      have hk : v.known = true := by cases v <;> first | rfl | cases hag
      obtain ⟨h1, h2⟩ := cells_rel v a hk h
      obtain ⟨k1, k2⟩ := ownLeafs_rel hob fs v.cells a.cells x ns h1 hx
      exact ⟨⟨by rw [← h2]; exact hag, k1⟩, k2⟩
    · cases hx
  | int k => exact ownLeaf_rel hob rfl h hx
  | bool => exact ownLeaf_rel hob rfl h hx
  | str => exact ownLeaf_rel hob rfl h hx
  | sl sz e => exact ownLeaf_rel hob rfl h hx
end
end Go.Am

/- The machine on typed data against the small machine: how a state may change. -/
namespace Go.Am
set_option linter.unusedSimpArgs false
set_option linter.unusedVariables false

/-- Ids that were not there. -/
def NewI (d nx : Nat) (tm : Option Nat) (i : Id) : Prop := (∃ k, i = .dy k ∧ nx ≤ k) ∨ ∃ t, i = .st d t ∧ tm = some t

theorem Grow.of {X Y : Vw} {tm : Option Nat} (hd : Y.d = X.d) (hlen : X.hp.length ≤ Y.hp.length) (hmu : ∀ a, a < X.hp.length → Y.μ a = X.μ a) (hob : ∀ a, a < X.hp.length → laterO (hget X.hp a) (hget Y.hp a))
    (hnx : X.nx ≤ Y.nx) (hH : ∀ i, ¬ X.top i → ¬ NewI X.d X.nx tm i → Y.H i = X.H i) (htop : ∀ i, Y.top i → X.top i ∨ NewI X.d X.nx tm i) : Grow X Y tm := by
  have new_imm : ∀ i, X.Imm i → ¬ NewI X.d X.nx tm i := by
    rintro i ⟨_, h2⟩ (⟨k, rfl, h3⟩ | ⟨t, rfl, _⟩)
    · have : k < X.nx := h2
      omega
    · have : X.d < X.d := h2
      omega
  have new_ki : ∀ t o, tm ≠ some t → X.KI t o → ¬ NewI X.d X.nx tm o := by
    rintro t o hne ⟨rfl, _⟩ (⟨k, h, _⟩ | ⟨t', h, h3⟩)
    · cases h
    · injection h with _ h; subst h; exact hne h3
  refine ⟨hd, hlen, hmu, hob, fun i hi => ⟨hH i hi.1 (new_imm i hi), ?_, ?_⟩, fun t o hne ho => ⟨hH o ho.2 (new_ki t o hne ho), ?_, ?_⟩⟩
  · intro ht
    rcases htop i ht with h | h
    · exact hi.1 h
    · exact new_imm i hi h
  · have h2 := hi.2
    cases i with
    | dy k => exact Nat.lt_of_lt_of_le h2 hnx
    | st d' t => rw [hd]; exact h2
    | ex => exact h2
  · rw [hd]; exact ho.1
  · intro ht
    rcases htop o ht with h | h
    · exact ho.2 h
    · exact new_ki t o hne ho h

theorem ageI_mono {d nx nx' : Nat} {tmp : Option Nat} {i : Id} (h : nx ≤ nx') (ha : ageI d nx tmp i) : ageI d nx' tmp i := by
  cases i with
  | dy k => exact Nat.lt_of_lt_of_le ha h
  | st => exact ha
  | ex => exact ha

theorem hasKp_ok {t : Nat} : ∀ {v : PV}, cellOK v = true → hasKp t v = false := by
  have leafs : ∀ (cs : List PV), cs.all cellLeaf = true → hasKps t cs = false := by
    intro cs
    induction cs with
    | nil => intro _; rfl
    | cons x r ih =>
      intro h
      simp only [List.all_cons, Bool.and_eq_true] at h
      simp only [hasKps, ih h.2, Bool.or_false]
      cases x <;> first | rfl | simp [cellLeaf] at h
  intro v h
  cases v with
  | agg cs =>
    simp only [cellOK, Bool.and_eq_true] at h
    exact leafs cs h.1
  | _ => first | rfl | (simp [cellOK, cellLeaf] at h; done)

/-- An object that nobody touched. -/
theorem ObR.mono {X Y : Vw} {tm : Option Nat} (g : Grow X Y tm) {a : Nat} {ob : PObj} (ha : a < X.hp.length) (hL : Y.L a = X.L a) (hH : ∀ i ∈ X.L a, Y.H i = X.H i) (h : ObR X a ob) : ObR Y a ob := by
  cases ob with
  | sl ro ver tmp sz e dp xs =>
    obtain ⟨h1, h2, h3⟩ := h
    refine ⟨h1, h2, ?_⟩
    rcases h3 with ⟨e1, e2, e3⟩ | ⟨o, gg, n, off, len, b, L', e1, e2, e3, e4, e5, e6, e7, e8, e9, e10, e11⟩
    · exact .inl ⟨(g.mu a ha).trans e1, e2, hL.trans e3⟩
    · refine .inr ⟨o, gg, n, off, len, b, L', (g.mu a ha).trans e1, (hH o (by rw [e10]; simp)).trans e2, e3, e4, e5, e6, e7, ?_, e9, hL.trans e10, fun q i hi => (g.imm i (e11 q i hi)).2⟩
      refine RepL.frame (fun i hi => ?_) e8
      cases dp with
      | true => exact hH i (by rw [e10]; simp [hi])
      | false => exact (g.imm i (e11 rfl i hi)).1
  | cell ro tmp v =>
    obtain ⟨o, gg, b, w, e1, e2, e3, e4, e5, e6, e7, e8, e9, e10, e11⟩ := h
    exact ⟨o, gg, b, w, (g.mu a ha).trans e1, (hH o (by rw [e9]; simp)).trans e2, e3, e4, e5, e6, e7, e8, hL.trans e9, VR.mono g v w (fun t _ => hasKp_ok e11) e10, e11⟩

section
variable {d : Nat} {anV : List AV} {P0 : Id → Prop} {H0 : Heap} {ps : PS} {μ : Nat → AV} {L : Nat → List Id} {E : AEnv} {H : Heap} {nx : Nat}

theorem Rel.obs (R : Rel d anV P0 H0 ps μ L E H nx) : Obs ⟨d, ps.heap, μ, L, H, nx⟩ := R.ob

theorem Rel.pev (R : Rel d anV P0 H0 ps μ L E H nx) (x : Opd) : VR ⟨d, ps.heap, μ, L, H, nx⟩ (pev ps x) (ev E x) := by
  cases x with
  | t n => exact R.env n
  | k v => exact constA_rel v
theorem Rel.pevs (R : Rel d anV P0 H0 ps μ L E H nx) : ∀ (l : List Opd), VRs ⟨d, ps.heap, μ, L, H, nx⟩ (l.map (Go.Am.pev ps)) (l.map (ev E))
  | [] => trivial
  | x :: r => ⟨R.pev x, R.pevs r⟩

theorem Rel.put (R : Rel d anV P0 H0 ps μ L E H nx) {dst : Option Nat} {v : PV} {av : AV} (h : dst ≠ none → VR ⟨d, ps.heap, μ, L, H, nx⟩ v av) : Rel d anV P0 H0 (ps.put dst v) μ L (updO E dst av) H nx := by
  cases dst with
  | none => exact R
  | some t =>
    refine ⟨fun u => ?_, R.anc, R.ank, R.ob, R.dis, R.nd, R.age, R.tl, R.st, R.fresh, R.p0, R.p1, R.p2⟩
    simp only [PS.put, updO, upd, look_cons]
    by_cases hu : t = u
    · subst hu; rw [if_pos rfl, if_pos rfl]; exact h (by simp)
    · rw [if_neg hu, if_neg (Ne.symm hu)]; exact R.env u

theorem Rel.setEnv (R : Rel d anV P0 H0 ps μ L E H nx) {env : List (Nat × PV)} (h : ∀ t, VR ⟨d, ps.heap, μ, L, H, nx⟩ (look env t) (E t)) : Rel d anV P0 H0 { ps with env := env } μ L E H nx :=
  ⟨h, R.anc, R.ank, R.ob, R.dis, R.nd, R.age, R.tl, R.st, R.fresh, R.p0, R.p1, R.p2⟩

theorem look_kill (t : Nat) : ∀ (e : List (Nat × PV)) (u : Nat), look (killE t e) u = .undef ∨ (look (killE t e) u = look e u ∧ hasKp t (look e u) = false)
  | [], u => .inl rfl
  | (w, v) :: r, u => by
    simp only [killE, look_cons]
    by_cases h : w = u
    · rw [if_pos h, if_pos h]
      cases hk : hasKp t v with
      | true => exact .inl rfl
      | false => exact .inr ⟨rfl, rfl⟩
    · rw [if_neg h, if_neg h]; exact look_kill t r u

/-- The next state, but for what an instruction tells. -/
theorem Rel.next (R : Rel d anV P0 H0 ps μ L E H nx) {tm : Option Nat} {env' : List (Nat × PV)} {hp' : List (Option PObj)} {μ' : Nat → AV} {L' : Nat → List Id} {H' : Heap} {nx' : Nat} (Ch : Nat → Prop)
    (g : Grow ⟨d, ps.heap, μ, L, H, nx⟩ ⟨d, hp', μ', L', H', nx'⟩ tm)
    (henv : ∀ u, look env' u = .undef ∨ (look env' u = look ps.env u ∧ ∀ t, tm = some t → hasKp t (look ps.env u) = false))
    (hob : ∀ a ob, hget hp' a = some ob → ¬ Ch a → hget ps.heap a = some ob ∧ L' a = L a ∧ ∀ i ∈ L a, H' i = H i)
    (hch : ∀ a ob, hget hp' a = some ob → Ch a → ObR ⟨d, hp', μ', L', H', nx'⟩ a ob ∧ (L' a).Nodup ∧ (∀ i ∈ L' a, ageI d nx' (tmpO ob) i) ∧ (roOf ob = false → ∀ i ∈ L' a, ¬ P0 i) ∧ (∀ i ∈ (L' a).tail, oldI d nx' i) ∧ (∀ t, tmpO ob = some t → ∀ o, (L' a).head? = some o → o = .st d t) ∧
      ∀ b, b ≠ a → live hp' b → ∀ i ∈ L' a, i ∉ L' b)
    (hnx : nx ≤ nx') (hf : ∀ k, nx' ≤ k → H' (.dy k) = none) (hp0 : ∀ i, P0 i → H' i = H i) : Rel d anV P0 H0 ⟨env', ps.anc, hp'⟩ μ' L' E H' nx' := by
  have liv : ∀ {a : Nat}, live hp' a → ∃ ob, hget hp' a = some ob := fun h => Option.isSome_iff_exists.1 h
  refine ⟨fun u => ?_, VRs.mono g _ _ (fun t _ => R.ank t) R.anc, R.ank, ?_, ?_, ?_, ?_, ?_, ?_, hf, fun i hi => (hp0 i hi).trans (R.p0 i hi), ?_, fun k hk => R.p2 k (Nat.le_trans hnx hk)⟩
  · show VR _ (look env' u) (E u)
    rcases henv u with h | ⟨h, h2⟩
    · rw [h]; trivial
    · rw [h]; exact VR.mono g _ _ h2 (R.env u)
  · intro a ob ha
    by_cases hc : Ch a
    · exact (hch a ob ha hc).1
    · obtain ⟨h1, h2, h3⟩ := hob a ob ha hc
      exact ObR.mono g (hget_lt h1) h2 h3 (R.ob a ob h1)
  · intro a b hab hla hlb
    obtain ⟨oa, ha⟩ := liv hla
    obtain ⟨ob, hb⟩ := liv hlb
    by_cases hca : Ch a
    · exact (hch a oa ha hca).2.2.2.2.2.2 b (Ne.symm hab) hlb
    · by_cases hcb : Ch b
      · exact fun i hi hj => (hch b ob hb hcb).2.2.2.2.2.2 a hab hla i hj hi
      · obtain ⟨h1, h2, _⟩ := hob a oa ha hca
        obtain ⟨k1, k2, _⟩ := hob b ob hb hcb
        show ∀ i ∈ L' a, i ∉ L' b
        rw [h2, k2]
        exact R.dis a b hab (by unfold live; rw [h1]; rfl) (by unfold live; rw [k1]; rfl)
  · intro a hla
    obtain ⟨oa, ha⟩ := liv hla
    by_cases hca : Ch a
    · exact (hch a oa ha hca).2.1
    · obtain ⟨h1, h2, _⟩ := hob a oa ha hca
      rw [h2]; exact R.nd a (by unfold live; rw [h1]; rfl)
  · intro a oa ha
    by_cases hca : Ch a
    · exact (hch a oa ha hca).2.2.1
    · obtain ⟨h1, h2, _⟩ := hob a oa ha hca
      rw [h2]; exact fun i hi => ageI_mono hnx (R.age a oa h1 i hi)
  · intro a hla
    obtain ⟨oa, ha⟩ := liv hla
    by_cases hca : Ch a
    · exact (hch a oa ha hca).2.2.2.2.1
    · obtain ⟨h1, h2, _⟩ := hob a oa ha hca
      rw [h2]
      intro i hi
      have := R.tl a (by unfold live; rw [h1]; rfl) i hi
      cases i with
      | dy k => exact Nat.lt_of_lt_of_le this hnx
      | st => exact this
      | ex => exact this
  · intro a oa t ha ht
    by_cases hca : Ch a
    · exact (hch a oa ha hca).2.2.2.2.2.1 t ht
    · obtain ⟨h1, h2, _⟩ := hob a oa ha hca
      rw [h2]; exact R.st a oa t h1 ht
  · intro a oa ha hro
    by_cases hca : Ch a
    · exact (hch a oa ha hca).2.2.2.1 hro
    · obtain ⟨h1, h2, _⟩ := hob a oa ha hca
      rw [h2]; exact R.p1 a oa h1 hro

theorem Rel.live_ids (R : Rel d anV P0 H0 ps μ L E H nx) {a : Nat} (ha : live ps.heap a) : ∀ i ∈ L a, ∃ ob, hget ps.heap a = some ob ∧ ageI d nx (tmpO ob) i := by
  obtain ⟨ob, h⟩ := Option.isSome_iff_exists.1 ha
  exact fun i hi => ⟨ob, h, R.age a ob h i hi⟩

/-! ### names that are given up -/
theorem delN_length : ∀ {ns : List Nat} {hp : List (Option PObj)}, (delN hp ns).length = hp.length
  | [], hp => rfl
  | a :: r, hp => by simp only [delN]; rw [delN_length, hset_length]
theorem hget_delN : ∀ {ns : List Nat} {hp : List (Option PObj)} {a : Nat}, hget (delN hp ns) a = if a ∈ ns then none else hget hp a
  | [], hp, a => by simp [delN]
  | b :: r, hp, a => by
    simp only [delN]
    rw [hget_delN, hget_hset]
    by_cases h1 : a ∈ r
    · simp [h1]
    · rw [if_neg h1]
      by_cases h2 : a = b
      · subst h2
        simp only [List.mem_cons, true_or, if_true, true_and]
        split
        · rfl
        · rename_i h; exact hget_ge (by omega)
      · rw [if_neg (fun e => h2 e.1)]; simp [h1, h2]
theorem hget_map {f : Option PObj → Option PObj} (hf : f none = none) : ∀ {hp : List (Option PObj)} {a : Nat}, hget (hp.map f) a = f (hget hp a) := by
  intro hp
  induction hp with
  | nil => intro a; simp [hget, hf]
  | cons o r ih =>
    intro a
    cases a with
    | zero => rfl
    | succ a => exact ih
theorem delT_length {t : Nat} {hp : List (Option PObj)} : (delT t hp).length = hp.length := by simp [delT]
theorem hget_delT {t : Nat} {hp : List (Option PObj)} {a : Nat} {ob : PObj} : hget (delT t hp) a = some ob ↔ hget hp a = some ob ∧ tmpO ob ≠ some t := by
  unfold delT
  rw [hget_map rfl]
  cases hget hp a with
  | none => simp [delO]
  | some o =>
    simp only [delO]
    cases ht : tmpO o with
    | none =>
      simp only [Option.some.injEq]
      constructor
      · rintro rfl; exact ⟨rfl, by rw [ht]; simp⟩
      · rintro ⟨h', _⟩; exact h'
    | some u =>
      simp only
      by_cases h : u = t
      · subst h
        simp only [Nat.beq_eq_true_eq, Nat.beq_refl]
        constructor
        · intro h; cases h
        · rintro ⟨h', h⟩
          cases Option.some.inj h'
          exact (h ht).elim
      · have : Nat.beq u t = false := by
          cases hb : Nat.beq u t with
          | true => exact (h (Nat.eq_of_beq_eq_true hb)).elim
          | false => rfl
        rw [this]
        simp only [Option.some.injEq]
        constructor
        · rintro rfl; exact ⟨rfl, by rw [ht]; simpa using h⟩
        · rintro ⟨h', _⟩; exact h'

theorem look_killTo (tm : Option Nat) (e : List (Nat × PV)) (u : Nat) : look (killTo tm e) u = .undef ∨ (look (killTo tm e) u = look e u ∧ ∀ t, tm = some t → hasKp t (look e u) = false) := by
  cases tm with
  | none => exact .inr ⟨rfl, fun t h => by cases h⟩
  | some t => exact (look_kill t e u).imp id fun h => ⟨h.1, fun t' h' => by cases h'; exact h.2⟩
theorem delTo_length {tm : Option Nat} {hp : List (Option PObj)} : (delTo tm hp).length = hp.length := by cases tm <;> simp [delTo, delT_length]
theorem hget_delTo {tm : Option Nat} {hp : List (Option PObj)} {a : Nat} {ob : PObj} : hget (delTo tm hp) a = some ob ↔ hget hp a = some ob ∧ ∀ t, tm = some t → tmpO ob ≠ some t := by
  cases tm with
  | none => simp [delTo]
  | some t => simp [delTo, hget_delT]
end
end Go.Am
