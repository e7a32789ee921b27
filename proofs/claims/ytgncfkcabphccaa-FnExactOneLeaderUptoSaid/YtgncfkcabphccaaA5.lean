/- How the small machine's values and objects stand for Go's values and memory; what stays when memory grows. -/
import Derived.Test.YtgncfkcabphccaaA4
import Derived.Below
namespace Go.Am
set_option linter.unusedSimpArgs false
set_option linter.unusedVariables false

abbrev Mem := Addr → Option Value

/-- The value of one cell. -/
def oneCell : Value → Bool
  | .agg _ | .tuple _ => false
  | _ => true

theorem cells_one {v : Value} (h : oneCell v = true) : v.cells = #[v] := by
  cases v <;> first | rfl | simp [oneCell] at h

mutual
def TRel (m : Mem) : TV → Value → Prop
  | .s x, v => v = x ∧ flatV x = true
  | .agg cs, v => ∃ vs : List Value, v = .agg vs.toArray ∧ TRels m cs vs
  | .sl sz xs, v => ∃ a len cap, v = .slice a len cap ∧ len = xs.length ∧ len ≤ cap ∧
      (len = 0 ∨ ∃ addr, a = some addr ∧ addr.spot = none ∧ TElems m sz addr 0 xs)
def TRels (m : Mem) : List TV → List Value → Prop
  | [], [] => True
  | x :: r, v :: q => TRel m x v ∧ oneCell v = true ∧ TRels m r q
  | _, _ => False
def TElems (m : Mem) (sz : Nat) (addr : Addr) : Nat → List TV → Prop
  | _, [] => True
  | i, x :: r => (∃ v, TRel m x v ∧ v.cells.size = sz ∧ ∀ (j : Nat) (u : Value), v.cells[j]? = some u → m (addr.add (i * sz + j)) = some u) ∧ TElems m sz addr (i + 1) r
end

structure Ctx where
  m : Mem
  φ : Id → Option Addr
  H : Heap
  bs : Nat → Nat

def Newer (x' x : Obj) : Prop := x.gen < x'.gen ∨ (x.gen = x'.gen ∧ x.es.length < x'.es.length)
def Stale (ob : Obj) (g n : Nat) : Prop := g < ob.gen ∨ (g = ob.gen ∧ n < ob.es.length)

mutual
def VRel (X : Ctx) : AV → Value → Prop
  | .c t, v => TRel X.m t v
  | .agg cs, v => ∃ vs : List Value, v = .agg vs.toArray ∧ VRels X cs vs
  | .tup cs, v => ∃ vs : List Value, v = .tuple vs.toArray ∧ VTup X cs vs
  | .nils, v => v = .slice none 0 0
  | .tptr t off, v => ∃ (u : Value) (b : Addr), v = .pointer (some (b.add off)) ∧ b.spot = none ∧ TRel X.m t u ∧
      ∀ (j : Nat) (y : Value), u.cells[j]? = some y → X.m (b.add j) = some y
  | .ref o g n off len, v => ∃ a cap, v = .slice a len cap ∧ len ≤ cap ∧ ∃ ob, X.H o = some ob ∧
      (Stale ob g n ∨ (ob.gen = g ∧ ob.es.length = n ∧ off + len ≤ n ∧
        ((cap = 0 ∧ n = off) ∨ ∃ b : Addr, X.φ o = some b ∧ a = some (b.add (off * ob.sz)) ∧ n ≤ off + cap ∧ b.off + (off + cap) * ob.sz ≤ X.bs b.block)))
  | .ptr o g n i off, v => ∃ a, v = .pointer (some a) ∧ ∃ ob, X.H o = some ob ∧
      (Stale ob g n ∨ (ob.gen = g ∧ ob.es.length = n ∧ ∃ b : Addr, X.φ o = some b ∧ a = b.add (i * ob.sz + off)))
  | .fn f caps, v => ∃ vs : List Value, v = .func (.func f) #[] vs.toArray ∧ VTup X caps vs
  | .undef, _ => True
def VRels (X : Ctx) : List AV → List Value → Prop
  | [], [] => True
  | x :: r, v :: q => VRel X x v ∧ oneCell v = true ∧ VRels X r q
  | _, _ => False
def VTup (X : Ctx) : List AV → List Value → Prop
  | [], [] => True
  | x :: r, v :: q => VRel X x v ∧ VTup X r q
  | _, _ => False
end

/-! ### memory grows -/
def LeMem (m m' : Mem) : Prop := ∀ a v, m a = some v → m' a = some v

mutual
theorem TRel.mono {m m' : Mem} (h : LeMem m m') : ∀ (t : TV) (v : Value), TRel m t v → TRel m' t v
  | .s _, _ => fun e => e
  | .agg cs, _ => fun ⟨vs, e, r⟩ => ⟨vs, e, TRels.mono h cs vs r⟩
  | .sl sz xs, _ => fun ⟨a, len, cap, e, hl, hc, r⟩ => ⟨a, len, cap, e, hl, hc, r.imp id fun ⟨addr, ea, es, q⟩ => ⟨addr, ea, es, TElems.mono h sz addr 0 xs q⟩⟩
theorem TRels.mono {m m' : Mem} (h : LeMem m m') : ∀ (l : List TV) (vs : List Value), TRels m l vs → TRels m' l vs
  | [], [] => fun _ => trivial
  | x :: r, v :: q => fun ⟨a, b, c⟩ => ⟨TRel.mono h x v a, b, TRels.mono h r q c⟩
  | [], _ :: _ => fun e => e.elim
  | _ :: _, [] => fun e => e.elim
theorem TElems.mono {m m' : Mem} (h : LeMem m m') (sz : Nat) (addr : Addr) : ∀ (i : Nat) (l : List TV), TElems m sz addr i l → TElems m' sz addr i l
  | _, [] => fun _ => trivial
  | i, x :: r => fun ⟨⟨v, a, b, c⟩, d⟩ => ⟨⟨v, TRel.mono h x v a, b, fun j u hj => h _ _ (c j u hj)⟩, TElems.mono h sz addr (i + 1) r d⟩
end

/-- Another context in which all that was told still holds. -/
structure LeCtx (X X' : Ctx) : Prop where
  m : LeMem X.m X'.m
  ob : ∀ o x, X.H o = some x → ∃ x', X'.H o = some x' ∧
    (Newer x' x ∨ (x'.gen = x.gen ∧ x'.es.length = x.es.length ∧ x'.sz = x.sz ∧ X'.φ o = X.φ o))
  bs : ∀ o a, X.φ o = some a → X.bs a.block ≤ X'.bs a.block

theorem Stale.newer {x x' : Obj} {g n : Nat} (h : Stale x g n) (k : Newer x' x ∨ (x'.gen = x.gen ∧ x'.es.length = x.es.length)) : Stale x' g n := by
  unfold Stale Newer at *
  omega

theorem stale_of_newer {x x' : Obj} (k : Newer x' x) : Stale x' x.gen x.es.length := by
  unfold Stale Newer at *
  omega

mutual
theorem VRel.mono {X X' : Ctx} (h : LeCtx X X') : ∀ (t : AV) (v : Value), VRel X t v → VRel X' t v
  | .c t, v => fun r => TRel.mono h.m t v r
  | .agg cs, v => fun ⟨vs, e, r⟩ => ⟨vs, e, VRels.mono h cs vs r⟩
  | .tup cs, v => fun ⟨vs, e, r⟩ => ⟨vs, e, VTup.mono h cs vs r⟩
  | .nils, v => fun e => e
  | .tptr t off, v => fun ⟨u, b, e, hs, r, q⟩ => ⟨u, b, e, hs, TRel.mono h.m t u r, fun j y hj => h.m _ _ (q j y hj)⟩
  | .ref o g n off len, v => fun ⟨a, cap, e, hc, ob, ho, q⟩ => by
    obtain ⟨ob', ho', hq⟩ := h.ob o ob ho
    refine ⟨a, cap, e, hc, ob', ho', ?_⟩
    rcases q with q | ⟨q1, q2, q3, q4⟩
    · exact .inl (q.newer (hq.imp id fun z => ⟨z.1, z.2.1⟩))
    · rcases hq with hq | ⟨z1, z2, z3, z4⟩
      · left; rw [← q1, ← q2]; exact stale_of_newer hq
      · right
        refine ⟨z1.trans q1, z2.trans q2, q3, q4.imp id ?_⟩
        rintro ⟨b, hb, ha, hn, hr⟩
        exact ⟨b, z4.trans hb, by rw [z3]; exact ha, hn, by rw [z3]; exact Nat.le_trans hr (h.bs o b hb)⟩
  | .ptr o g n i off, v => fun ⟨a, e, ob, ho, q⟩ => by
    obtain ⟨ob', ho', hq⟩ := h.ob o ob ho
    refine ⟨a, e, ob', ho', ?_⟩
    rcases q with q | ⟨q1, q2, b, hb, ha⟩
    · exact .inl (q.newer (hq.imp id fun z => ⟨z.1, z.2.1⟩))
    · rcases hq with hq | ⟨z1, z2, z3, z4⟩
      · left; rw [← q1, ← q2]; exact stale_of_newer hq
      · exact .inr ⟨z1.trans q1, z2.trans q2, b, z4.trans hb, by rw [z3]; exact ha⟩
  | .fn f caps, v => fun ⟨vs, e, r⟩ => ⟨vs, e, VTup.mono h caps vs r⟩
  | .undef, _ => fun _ => trivial
theorem VRels.mono {X X' : Ctx} (h : LeCtx X X') : ∀ (l : List AV) (vs : List Value), VRels X l vs → VRels X' l vs
  | [], [] => fun _ => trivial
  | x :: r, v :: q => fun ⟨a, b, c⟩ => ⟨VRel.mono h x v a, b, VRels.mono h r q c⟩
  | [], _ :: _ => fun e => e.elim
  | _ :: _, [] => fun e => e.elim
theorem VTup.mono {X X' : Ctx} (h : LeCtx X X') : ∀ (l : List AV) (vs : List Value), VTup X l vs → VTup X' l vs
  | [], [] => fun _ => trivial
  | x :: r, v :: q => fun ⟨a, c⟩ => ⟨VRel.mono h x v a, VTup.mono h r q c⟩
  | [], _ :: _ => fun e => e.elim
  | _ :: _, [] => fun e => e.elim
end

/-! ### the world -/
def bsize (w : World) (b : Nat) : Nat := match w.heap[b]? with | some (.cells c _ _) => c.size | _ => 0

/-- A block that the machine may write. -/
def Mut (φ : Id → Option Addr) (H : Heap) (b : Nat) : Prop := (∃ o ob a, H o = some ob ∧ ob.w = true ∧ φ o = some a ∧ a.block = b) ∨ ∃ k a, φ (.ex k) = some a ∧ a.block = b

/-- An object of the machine, not a block that is fenced off. -/
def Id.real : Id → Prop
  | .ex _ => False
  | _ => True

open Classical in
noncomputable def imm (w : World) (φ : Id → Option Addr) (H : Heap) : Mem := fun a => if Mut φ H a.block then none else w.cell? a

noncomputable def ctx (w : World) (φ : Id → Option Addr) (H : Heap) : Ctx := ⟨imm w φ H, φ, H, bsize w⟩

theorem imm_some {w : World} {φ : Id → Option Addr} {H : Heap} {a : Addr} {v : Value} : imm w φ H a = some v ↔ ¬ Mut φ H a.block ∧ w.cell? a = some v := by
  unfold imm
  by_cases h : Mut φ H a.block <;> simp [h]

/-- No cell of a block is shared with a string. -/
def freeB (w : World) (b : Nat) : Prop := ∃ c e lo hi, w.heap[b]? = some (.cells c e (lo, hi)) ∧ (hi ≤ lo ∨ c.size ≤ lo)

structure ObjRel (X : Ctx) (w : World) (ob : Obj) (b : Addr) : Prop where
  spot : b.spot = none
  lt : b.block < w.heap.size
  pos : 0 < ob.sz
  el : ∀ (i : Nat) (x : AV), ob.es[i]? = some x → stor x = true ∧ ∃ v, VRel X x v ∧ v.cells.size = ob.sz ∧ (∀ (j : Nat) (u : Value), v.cells[j]? = some u → oneCell u = true ∧ w.cell? (b.add (i * ob.sz + j)) = some u)
  fr : ob.w = true → freeB w b.block

structure Sim (w : World) (φ : Id → Option Addr) (H : Heap) : Prop where
  pl : ∀ o a, φ o = some a → a.block < w.heap.size
  obj : ∀ o ob, H o = some ob → ∃ b, φ o = some b ∧ ObjRel (ctx w φ H) w ob b
  sep : ∀ o ob p oc b c, H o = some ob → ob.w = true → H p = some oc → o ≠ p → φ o = some b → φ p = some c → b.block ≠ c.block
  re : ∀ o ob, H o = some ob → o.real
  sx : ∀ o ob b k c, H o = some ob → φ o = some b → φ (.ex k) = some c → b.block ≠ c.block

/-- How a run may change the world and the objects. -/
structure Ext (w : World) (φ : Id → Option Addr) (H : Heap) (w' : World) (φ' : Id → Option Addr) (H' : Heap) : Prop where
  os : w'.os = w.os
  tape : w'.tape = w.tape
  output : w'.output = w.output
  size : w.heap.size ≤ w'.heap.size
  fr : ∀ b, b < w.heap.size → ¬ Mut φ H b → w'.heap[b]? = w.heap[b]?
  mu : ∀ b, b < w.heap.size → Mut φ' H' b → Mut φ H b
  bs : ∀ b, b < w.heap.size → bsize w b ≤ bsize w' b
  ob : ∀ o x, H o = some x → ∃ x', H' o = some x' ∧
    (Newer x' x ∨ (x'.gen = x.gen ∧ x'.es.length = x.es.length ∧ x'.sz = x.sz ∧ φ' o = φ o))
  ex : ∀ k, φ' (.ex k) = φ (.ex k)
  exh : ∀ k a, φ (.ex k) = some a → w'.heap[a.block]? = w.heap[a.block]?

theorem Ext.refl (w : World) (φ : Id → Option Addr) (H : Heap) : Ext w φ H w φ H :=
  ⟨rfl, rfl, rfl, Nat.le_refl _, fun _ _ _ => rfl, fun _ _ h => h, fun _ _ => Nat.le_refl _, fun _ x h => ⟨x, h, .inr ⟨rfl, rfl, rfl, rfl⟩⟩, fun _ => rfl, fun _ _ _ => rfl⟩

theorem Newer.trans {a b c : Obj} (h : Newer b a ∨ (b.gen = a.gen ∧ b.es.length = a.es.length)) (k : Newer c b) : Newer c a := by
  unfold Newer at *; omega
theorem Newer.trans' {a b c : Obj} (h : Newer b a) (k : Newer c b ∨ (c.gen = b.gen ∧ c.es.length = b.es.length)) : Newer c a := by
  unfold Newer at *; omega

theorem Ext.trans {w w1 w2 : World} {φ φ1 φ2 : Id → Option Addr} {H H1 H2 : Heap} (h : Ext w φ H w1 φ1 H1) (k : Ext w1 φ1 H1 w2 φ2 H2) : Ext w φ H w2 φ2 H2 := by
  refine ⟨k.os.trans h.os, k.tape.trans h.tape, k.output.trans h.output, Nat.le_trans h.size k.size, ?_, ?_, ?_, ?_, fun q => (k.ex q).trans (h.ex q), fun q a ha => (k.exh q a ((h.ex q).trans ha)).trans (h.exh q a ha)⟩
  · intro b hb hm
    rw [k.fr b (Nat.lt_of_lt_of_le hb h.size) (fun hx => hm (h.mu b hb hx)), h.fr b hb hm]
  · exact fun b hb hm => h.mu b hb (k.mu b (Nat.lt_of_lt_of_le hb h.size) hm)
  · exact fun b hb => Nat.le_trans (h.bs b hb) (k.bs b (Nat.lt_of_lt_of_le hb h.size))
  · intro o x hx
    obtain ⟨x1, h1, e1⟩ := h.ob o x hx
    obtain ⟨x2, h2, e2⟩ := k.ob o x1 h1
    refine ⟨x2, h2, ?_⟩
    rcases e2 with e2 | ⟨a1, a2, a3, a4⟩
    · exact .inl (e2.trans (e1.imp id fun z => ⟨z.1, z.2.1⟩))
    · rcases e1 with e1 | ⟨b1, b2, b3, b4⟩
      · exact .inl (e1.trans' (.inr ⟨a1, a2⟩))
      · exact .inr ⟨a1.trans b1, a2.trans b2, a3.trans b3, a4.trans b4⟩

theorem cell_lt {w : World} {a : Addr} {v : Value} (h : w.cell? a = some v) : a.block < w.heap.size := by
  unfold World.cell? at h
  split at h
  · rename_i hb
    exact (Array.getElem?_eq_some_iff.1 hb).1
  · cases h

theorem cell_same {w w' : World} {a : Addr} (h : w'.heap[a.block]? = w.heap[a.block]?) : w'.cell? a = w.cell? a := by
  simp only [World.cell?, h]

theorem Ext.leMem {w w' : World} {φ φ' : Id → Option Addr} {H H' : Heap} (h : Ext w φ H w' φ' H') : LeMem (imm w φ H) (imm w' φ' H') := by
  intro a v ha
  rw [imm_some] at ha ⊢
  have hlt := cell_lt ha.2
  exact ⟨fun hx => ha.1 (h.mu _ hlt hx), by rw [cell_same (h.fr _ hlt ha.1)]; exact ha.2⟩

/-- What is placed lies in a block that there is. -/
theorem Ext.leCtx {w w' : World} {φ φ' : Id → Option Addr} {H H' : Heap} (h : Ext w φ H w' φ' H') (hp : ∀ o a, φ o = some a → a.block < w.heap.size) : LeCtx (ctx w φ H) (ctx w' φ' H') :=
  ⟨h.leMem, h.ob, fun o a ha => h.bs _ (hp o a ha)⟩
end Go.Am
