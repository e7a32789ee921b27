/- One operation of Go's code against one of the small machine: what makes no memory. -/
import Derived.Test.YtgncfkcabphccaaA5
import Derived.WalkKit
namespace Go.Am
set_option linter.unusedSimpArgs false
set_option linter.unusedVariables false

theorem add_eq {a : Addr} (h : a.spot = none) (n : Nat) : a.add n = ⟨a.block, a.off + n, none⟩ := by
  unfold Addr.add
  split
  · rename_i h0; subst h0; obtain ⟨_, _, sp⟩ := a; cases h; rfl
  · rfl
theorem add_block (a : Addr) (n : Nat) : (a.add n).block = a.block := by unfold Addr.add; split <;> rfl
theorem add_spot {a : Addr} (h : a.spot = none) (n : Nat) : (a.add n).spot = none := by rw [add_eq h]
theorem add_add {a : Addr} (h : a.spot = none) (n m : Nat) : (a.add n).add m = a.add (n + m) := by
  rw [add_eq (add_spot h n), add_eq h, add_eq h]; simp [Nat.add_assoc]

def EnvRel (X : Ctx) (E : AEnv) (tmps : Array Value) : Prop := ∀ t, VRel X (E t) (tmps.getD t undef)

structure SR (nt : Nat) (w : World) (φ : Id → Option Addr) (s : St) (a : Act) : Prop where
  sim : Sim w φ s.H
  env : EnvRel (ctx w φ s.H) s.E a.tmps
  size : a.tmps.size = nt

theorem EnvRel.mono {X X' : Ctx} (h : LeCtx X X') {E : AEnv} {tmps : Array Value} (e : EnvRel X E tmps) : EnvRel X' E tmps := fun t => VRel.mono h _ _ (e t)

theorem getD_set (tmps : Array Value) (d t : Nat) (v : Value) (h : d < tmps.size) : (tmps.setIfInBounds d v).getD t undef = if t = d then v else tmps.getD t undef := by
  simp only [Array.getD_eq_getD_getElem?, Array.getElem?_setIfInBounds]
  split
  · rename_i e; subst e; simp
  · rename_i e; rw [if_neg (Ne.symm e)]

theorem EnvRel.put {X : Ctx} {E : AEnv} {a : Act} (e : EnvRel X E a.tmps) {dst : Option Nat} {v : AV} {x : Value} (hv : dst ≠ none → VRel X v x) (hd : ∀ d, dst = some d → d < a.tmps.size) :
    EnvRel X (updO E dst v) (a.put dst x).tmps := by
  cases dst with
  | none => exact e
  | some d =>
    intro t
    simp only [updO, Act.put, upd]
    rw [getD_set _ _ _ _ (hd d rfl)]
    split
    · exact hv (by simp)
    · exact e t

theorem put_size (a : Act) (dst : Option Nat) (x : Value) : (a.put dst x).tmps.size = a.tmps.size := by
  cases dst <;> simp [Act.put]
theorem put_defers' (a : Act) (dst : Option Nat) (x : Value) : (a.put dst x).defers = a.defers := by
  cases dst <;> simp [Act.put]

theorem flat_one {v : Value} (h : flatV v = true) : oneCell v = true := by
  cases v <;> first | rfl | simp [flatV] at h

theorem cellOf_rel (X : Ctx) {v : Value} {x : AV} (h : cellOf v = some x) : VRel X x v ∧ oneCell v = true := by
  unfold cellOf at h
  split at h
  · obtain rfl := Option.some.inj h
    exact ⟨rfl, rfl⟩
  · split at h
    · rename_i hf
      obtain rfl := Option.some.inj h
      exact ⟨⟨rfl, hf⟩, flat_one hf⟩
    · cases h

theorem cellsOf_rel (X : Ctx) : ∀ (vs : List Value) (l : List AV), mapMO cellOf vs = some l → VRels X l vs := by
  intro vs
  induction vs with
  | nil => intro l h; simp [mapMO] at h; subst h; trivial
  | cons v r ih =>
    intro l h
    simp only [mapMO] at h
    split at h
    · rename_i y hy
      split at h
      · rename_i ys hys
        obtain rfl := Option.some.inj h
        obtain ⟨h1, h2⟩ := cellOf_rel X hy
        exact ⟨h1, h2, ih _ hys⟩
      · cases h
    · cases h

theorem valOf_rel (X : Ctx) {v : Value} {x : AV} (h : valOf v = some x) : VRel X x v := by
  unfold valOf at h
  split at h
  · rename_i cs
    split at h
    · rename_i l hl
      obtain rfl := Option.some.inj h
      exact ⟨cs.toList, by simp, cellsOf_rel X _ _ hl⟩
    · cases h
  · exact (cellOf_rel X h).1

theorem opd_rel {X : Ctx} {E : AEnv} {a : Act} (e : EnvRel X E a.tmps) {x : Operand} {y : Opd} (h : opdOf x = some y) : VRel X (ev E y) (a.eval x) := by
  cases x with
  | tmp t => simp only [opdOf] at h; obtain rfl := Option.some.inj h; exact e t
  | const v =>
    simp only [opdOf] at h
    split at h
    · rename_i av hv
      obtain rfl := Option.some.inj h
      exact valOf_rel X hv
    · cases h
  | func f =>
    simp only [opdOf] at h
    obtain rfl := Option.some.inj h
    exact ⟨[], rfl, trivial⟩
  | global g => simp [opdOf] at h

theorem opds_rel {X : Ctx} {E : AEnv} {a : Act} (e : EnvRel X E a.tmps) : ∀ (xs : List Operand) (ys : List Opd), mapMO opdOf xs = some ys → VTup X (ys.map (ev E)) (xs.map a.eval) := by
  intro xs
  induction xs with
  | nil => intro l h; simp [mapMO] at h; subst h; trivial
  | cons v r ih =>
    intro l h
    simp only [mapMO] at h
    split at h
    · rename_i y hy
      split at h
      · rename_i ys hys
        obtain rfl := Option.some.inj h
        exact ⟨opd_rel e hy, ih _ hys⟩
      · cases h
    · cases h

/-- What one operation comes to. -/
def Does (P : Program) (o : Oper) (nt : Nat) (a : Act) (w : World) (φ : Id → Option Addr) (H : Heap) (dst : Option Nat) (E : AEnv) (v : AV) (H' : Heap) (nx' : Nat) : Prop :=
  ∀ (K : Act → World → Prop) (Q : Exit → Act → World → Prop),
    (∀ a' w' φ', SR nt w' φ' ⟨updO E dst v, H', nx'⟩ a' → Ext w φ H w' φ' H' → a'.defers = a.defers → K a' w') → o.wp P a w K Q

/-- An operation that makes a value and leaves the world. -/
theorem does_pure {P : Program} {o : Oper} {nt : Nat} {a : Act} {w : World} {φ : Id → Option Addr} {H : Heap} {nx : Nat} {E : AEnv} {v : AV} {x : Value}
    (hr : (execOp a.eval o).run P w = .ok (.value x) w) (hs : SR nt w φ ⟨E, H, nx⟩ a) (hv : VRel (ctx w φ H) v x) (hd : ∀ d, o.dst = some d → d < nt) {nx' : Nat} :
    Does P o nt a w φ H o.dst E v H nx' := by
  intro K Q hK
  unfold Oper.wp
  rw [hr, Oper.upon_value]
  refine hK _ w φ ⟨hs.sim, hs.env.put (fun _ => hv) (fun d h => by rw [hs.size]; exact hd d h), by rw [put_size]; exact hs.size⟩ (Ext.refl _ _ _) (put_defers' _ _ _)
end Go.Am
