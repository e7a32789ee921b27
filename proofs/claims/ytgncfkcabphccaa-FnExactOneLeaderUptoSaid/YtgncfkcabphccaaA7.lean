/- One operation of Go's code against one of the small machine: values. -/
import Derived.Test.YtgncfkcabphccaaA6
import Derived.Laws.StructEq
namespace Go.Am
set_option linter.unusedSimpArgs false
set_option linter.unusedVariables false
variable {P : Program}

theorem run_bin_int (w : World) (op : BinOp) (k k' : IntKind) (a b : Int) (r : Value) (t : TypeId) (x y : Operand) (h : binV op (.int k a) (.int k' b) = some r) :
    ((do eqGuard op t x y (.int k a) (.int k' b); binOp op t (.int k a) (.int k' b)) : Sem Value).run P w = .ok r w ∧ flatV r = true := by
  cases op
  case shl | shr =>
    simp only [binV, shiftV] at h
    split at h
    · cases h
    · rename_i hb
      obtain rfl := Option.some.inj h
      simp [eqGuard, binOp, Op.shift, hb, flatV]
  case quo | rem =>
    simp only [binV, intV] at h
    split at h
    · rename_i hk
      subst hk
      split at h
      · cases h
      · rename_i hb
        obtain rfl := Option.some.inj h
        simp [eqGuard, binOp, Op.intDiv, hb, flatV]
    · cases h
  all_goals
    simp only [binV, intV] at h
    split at h
    · rename_i hk
      subst hk
      obtain rfl := Option.some.inj h
      simp [eqGuard, binOp, Op.intArith, Op.intBits, Op.intCmp, flatV]
    · cases h

theorem run_bin_str (w : World) (op : BinOp) (a b : ByteArray) (r : Value) (t : TypeId) (x y : Operand) (h : binV op (.string a) (.string b) = some r) :
    ((do eqGuard op t x y (.string a) (.string b); binOp op t (.string a) (.string b)) : Sem Value).run P w = .ok r w ∧ flatV r = true := by
  cases op
  case add =>
    simp only [binV, strV] at h
    split at h
    · rename_i hs
      obtain rfl := Option.some.inj h
      have : ¬ (((a.size + b.size : Nat) : Int) > IntKind.i64.max) := by
        simp only [IntKind.max, IntKind.signed, IntKind.bits]; simp; omega
      simp only [eqGuard, binOp, Op.stringOp, this]
      simp [flatV]
    · cases h
  all_goals
    simp only [binV, strV, cmpV] at h
    first
    | (obtain rfl := Option.some.inj h
       simp [eqGuard, binOp, Op.stringOp, flatV]; done)
    | (cases h; done)

theorem run_bool_eq (w : World) (op : BinOp) (a b : Bool) (t : TypeId) (x y : Operand) (ht : P.underlying t = some .bool) :
    (op = .eql → ((do eqGuard op t x y (.bool a) (.bool b); binOp op t (.bool a) (.bool b)) : Sem Value).run P w = .ok (.bool (a == b)) w) ∧
    (op = .neq → ((do eqGuard op t x y (.bool a) (.bool b); binOp op t (.bool a) (.bool b)) : Sem Value).run P w = .ok (.bool (a != b)) w) := by
  constructor
  · rintro rfl
    have := run_eql_bool (P := P) w t a b ht
    simp [eqGuard, this]
  · rintro rfl
    have := run_neq_bool (P := P) w t a b ht
    cases a <;> cases b <;> simp [eqGuard, this]

theorem scalar_rel {X : Ctx} {x : Value} {v : Value} (h : VRel X (.c (.s x)) v) : v = x ∧ flatV x = true := h

theorem rel_scalar {X : Ctx} {x : Value} (h : flatV x = true) : VRel X (.c (.s x)) x := ⟨rfl, h⟩

section
variable {o : Oper} {ops : Array Oper} {nt : Nat} {a : Act} {w : World} {φ : Id → Option Addr} {H : Heap} {nx : Nat} {E : AEnv} {T : Tab} {R : Run} {d : Nat}

theorem does_mov {x : Operand} {y : Opd} (ho : o.op = .move x ∨ o.op = .assign x) (hx : opdOf x = some y) (hs : SR nt w φ ⟨E, H, nx⟩ a) (hd : ∀ d, o.dst = some d → d < nt) :
    Does P o nt a w φ H o.dst E (ev E y) H nx := by
  refine does_pure (x := a.eval x) ?_ hs (opd_rel hs.env hx) hd
  rcases ho with ho | ho <;> simp [execOp, ho]

theorem does_pick {c x y : Operand} {c' x' y' : Opd} {b : Bool} (ho : o.op = .pick c x y) (hc : opdOf c = some c') (hx : opdOf x = some x') (hy : opdOf y = some y') (hs : SR nt w φ ⟨E, H, nx⟩ a) (hd : ∀ d, o.dst = some d → d < nt)
    (hb : ev E c' = .c (.s (.bool b))) : Does P o nt a w φ H o.dst E (if b then ev E x' else ev E y') H nx := by
  have hc' := opd_rel hs.env hc
  rw [hb] at hc'
  obtain ⟨e, _⟩ := scalar_rel hc'
  refine does_pure (x := if b then a.eval x else a.eval y) ?_ hs ?_ hd
  · simp only [execOp, ho, e]
    cases b <;> simp [asBool]
  · cases b
    · exact opd_rel hs.env hy
    · exact opd_rel hs.env hx

theorem does_bin {op : BinOp} {t t' : TypeId} {x y : Operand} {x' y' : Opd} {u v r : Value} (ho : o.op = .binOp op t x y t') (hx : opdOf x = some x') (hy : opdOf y = some y') (hs : SR nt w φ ⟨E, H, nx⟩ a) (hd : ∀ d, o.dst = some d → d < nt)
    (hu : ev E x' = .c (.s u)) (hv : ev E y' = .c (.s v)) (hr : binV op u v = some r) : Does P o nt a w φ H o.dst E (.c (.s r)) H nx := by
  have h1 := opd_rel hs.env hx
  have h2 := opd_rel hs.env hy
  rw [hu] at h1
  rw [hv] at h2
  obtain ⟨e1, _⟩ := scalar_rel h1
  obtain ⟨e2, _⟩ := scalar_rel h2
  have key : ((do eqGuard op t x y u v; binOp op t u v) : Sem Value).run P w = .ok r w ∧ flatV r = true := by
    cases u <;> cases v <;> first
      | exact run_bin_int w _ _ _ _ _ _ _ _ _ hr
      | exact run_bin_str w _ _ _ _ _ _ _ hr
      | (simp [binV] at hr)
  refine does_pure (x := r) ?_ hs (rel_scalar key.2) hd
  simp only [execOp, ho, e1, e2]
  have := key.1
  simp only [Sem.run_bind] at this ⊢
  rw [this]
  simp

theorem does_binB {op : BinOp} {t t' : TypeId} {x y : Operand} {x' y' : Opd} {u v : Bool} (ho : o.op = .binOp op t x y t') (ht : P.underlying t = some .bool) (hx : opdOf x = some x') (hy : opdOf y = some y') (hs : SR nt w φ ⟨E, H, nx⟩ a) (hd : ∀ d, o.dst = some d → d < nt)
    (hu : ev E x' = .c (.s (.bool u))) (hv : ev E y' = .c (.s (.bool v))) {r : Bool} (hr : (op = .eql ∧ r = (u == v)) ∨ (op = .neq ∧ r = (u != v))) : Does P o nt a w φ H o.dst E (gBool r) H nx := by
  have h1 := opd_rel hs.env hx
  have h2 := opd_rel hs.env hy
  rw [hu] at h1
  rw [hv] at h2
  obtain ⟨e1, _⟩ := scalar_rel h1
  obtain ⟨e2, _⟩ := scalar_rel h2
  have key := run_bool_eq (P := P) w op u v t x y ht
  refine does_pure (x := .bool r) ?_ hs (rel_scalar rfl) hd
  simp only [execOp, ho, e1, e2]
  rcases hr with ⟨h, rfl⟩ | ⟨h, rfl⟩
  · have := key.1 h
    simp only [Sem.run_bind] at this ⊢
    rw [this]; simp
  · have := key.2 h
    simp only [Sem.run_bind] at this ⊢
    rw [this]; simp

theorem does_un {op : UnOp} {t : TypeId} {x : Operand} {x' : Opd} {u r : Value} (ho : o.op = .unOp op t x) (hx : opdOf x = some x') (hs : SR nt w φ ⟨E, H, nx⟩ a) (hd : ∀ d, o.dst = some d → d < nt)
    (hu : ev E x' = .c (.s u)) (hr : unV op u = some r) : Does P o nt a w φ H o.dst E (.c (.s r)) H nx := by
  have h1 := opd_rel hs.env hx
  rw [hu] at h1
  obtain ⟨e1, _⟩ := scalar_rel h1
  have key : (Op.unary op u).run P w = .ok r w ∧ flatV r = true := by
    cases u <;> cases op <;> simp [unV] at hr <;> subst hr <;> simp [Op.unary, Op.intArith, flatV]
  refine does_pure (x := r) ?_ hs (rel_scalar key.2) hd
  simp only [execOp, ho, e1]
  simp [key.1]

theorem does_conv {s t : TypeId} {x : Operand} {x' : Opd} {k k' k2 : IntKind} {n : Int} (ho : o.op = .convert s t x) (hs1 : P.underlying s = some (.int k2)) (ht : P.underlying t = some (.int k)) (hx : opdOf x = some x') (hs : SR nt w φ ⟨E, H, nx⟩ a) (hd : ∀ d, o.dst = some d → d < nt)
    (hu : ev E x' = .c (.s (.int k' n))) : Does P o nt a w φ H o.dst E (.c (.s (.int k (k.wrap n)))) H nx := by
  have h1 := opd_rel hs.env hx
  rw [hu] at h1
  obtain ⟨e1, _⟩ := scalar_rel h1
  refine does_pure (x := .int k (k.wrap n)) ?_ hs (rel_scalar rfl) hd
  simp only [execOp, ho, e1]
  simp [convert, run_underlying hs1, run_underlying ht, Conv.intToInt]

theorem does_same {s t : TypeId} {x : Operand} {x' : Opd} {b : ByteArray} (ho : o.op = .convert s t x) (hs1 : P.underlying s = some .string) (ht : P.underlying t = some .string) (hx : opdOf x = some x') (hs : SR nt w φ ⟨E, H, nx⟩ a) (hd : ∀ d, o.dst = some d → d < nt)
    (hu : ev E x' = .c (.s (.string b))) : Does P o nt a w φ H o.dst E (ev E x') H nx := by
  have h1 := opd_rel hs.env hx
  have h2 := h1
  rw [hu] at h1
  obtain ⟨e1, _⟩ := scalar_rel h1
  refine does_pure (x := .string b) ?_ hs (by rw [e1] at h2; exact h2) hd
  simp only [execOp, ho, e1]
  simp [convert, run_underlying hs1, run_underlying ht]

theorem does_extract {x : Operand} {i : Nat} {x' : Opd} {l : List AV} {v : AV} (ho : o.op = .extract x i) (hx : opdOf x = some x') (hs : SR nt w φ ⟨E, H, nx⟩ a) (hd : ∀ d, o.dst = some d → d < nt)
    (hu : ev E x' = .tup l) (hv : l[i]? = some v) : Does P o nt a w φ H o.dst E v H nx := by
  have h1 := opd_rel hs.env hx
  rw [hu] at h1
  obtain ⟨vs, e, hr⟩ := h1
  have : ∃ u, vs[i]? = some u ∧ VRel (ctx w φ H) v u := by
    clear e hu ho
    induction l generalizing vs i with
    | nil => simp at hv
    | cons y r ih =>
      cases vs with
      | nil => exact hr.elim
      | cons u q =>
        cases i with
        | zero => simp at hv; subst hv; exact ⟨u, rfl, hr.1⟩
        | succ i => exact ih (i := i) (by simpa using hv) q hr.2
  obtain ⟨u, hu1, hu2⟩ := this
  refine does_pure (x := u) ?_ hs hu2 hd
  simp only [execOp, ho, e]
  simp [Instr.extract, hu1]

theorem does_nilc {x : Operand} {x' : Opd} (ho : o.op = .nilCheck x) (hx : opdOf x = some x') (hs : SR nt w φ ⟨E, H, nx⟩ a) (hd : ∀ d, o.dst = some d → d < nt)
    (hu : (∃ y i, ev E x' = .tptr y i) ∨ (∃ p g n i f, ev E x' = .ptr p g n i f) ∨ (∃ f l, ev E x' = .fn f l)) : Does P o nt a w φ H o.dst E (ev E x') H nx := by
  have h1 := opd_rel hs.env hx
  refine does_pure (x := a.eval x) ?_ hs h1 hd
  rcases hu with ⟨y, i, e⟩ | ⟨p, g, n, i, f, e⟩ | ⟨f, l, e⟩
  · rw [e] at h1
    obtain ⟨u, b, e1, _⟩ := h1
    simp only [execOp, ho, e1]
    simp
  · rw [e] at h1
    obtain ⟨b, e1, _⟩ := h1
    simp only [execOp, ho, e1]
    simp
  · rw [e] at h1
    obtain ⟨vs, e1, _⟩ := h1
    simp only [execOp, ho, e1]
    simp

theorem does_mkfn {f : Nat} {caps : Array Operand} {l : List Opd} (ho : o.op = .makeFunc (.func f) #[] caps) (hx : mapMO opdOf caps.toList = some l) (hs : SR nt w φ ⟨E, H, nx⟩ a) (hd : ∀ d, o.dst = some d → d < nt) :
    Does P o nt a w φ H o.dst E (.fn f (l.map (ev E))) H nx := by
  have h1 := opds_rel hs.env _ _ hx
  refine does_pure (v := .fn f (l.map (ev E))) (x := .func (.func f) #[] (caps.map a.eval)) ?_ hs ⟨caps.toList.map a.eval, by rw [← Array.toList_map, Array.toArray_toList], h1⟩ hd
  simp only [execOp, ho]
  simp [Instr.makeFunc]

theorem len_rel {X : Ctx} {v : AV} {x : Value} {n : Nat} (h : VRel X v x) (hn : lenV v = some n) : (∃ s, x = .string s ∧ s.size = n) ∨ (∃ b c, x = .slice b n c) := by
  unfold lenV at hn
  split at hn
  · obtain rfl := Option.some.inj hn
    exact .inr ⟨none, 0, h⟩
  · obtain rfl := Option.some.inj hn
    obtain ⟨b, len, cap, e, hl, _⟩ := h
    exact .inr ⟨b, cap, by rw [e, hl]⟩
  · obtain rfl := Option.some.inj hn
    obtain ⟨b, cap, e, _⟩ := h
    exact .inr ⟨b, cap, e⟩
  · obtain rfl := Option.some.inj hn
    exact .inl ⟨_, h.1, rfl⟩
  · cases hn

theorem does_len {c : Call} {x : Operand} {x' : Opd} {t : TypeId} {n : Nat} (ho : o.op = .call c) (hc : c.callee = .builtin .len) (hargs : c.args = #[x]) (hty : c.argTypes = #[t])
    (ht : (P.underlying t = some .string ∧ ∃ s, a.eval x = .string s) ∨ ∃ e, P.underlying t = some (.slice e) ∧ ∃ b n c, a.eval x = .slice b n c) (hx : opdOf x = some x') (hs : SR nt w φ ⟨E, H, nx⟩ a) (hd : ∀ d, o.dst = some d → d < nt)
    (hn : lenV (ev E x') = some n) : Does P o nt a w φ H o.dst E (gInt n) H nx := by
  have h1 := opd_rel hs.env hx
  refine does_pure (x := .int .i64 n) ?_ hs (rel_scalar rfl) hd
  have := len_rel h1 hn
  simp only [execOp, ho]
  rcases this with ⟨s, e, rfl⟩ | ⟨b, cc, e⟩
  · rcases ht with ⟨ht, _⟩ | ⟨el, ht, b, n, c, e'⟩
    · simp [resolve, hc, hargs, hty, invoke, builtin, Builtin.len_, run_underlying ht, e, goInt]
    · rw [e] at e'; cases e'
  · rcases ht with ⟨ht, s, e'⟩ | ⟨el, ht, _⟩
    · rw [e] at e'; cases e'
    · simp [resolve, hc, hargs, hty, invoke, builtin, Builtin.len_, run_underlying ht, e, goInt]
end
end Go.Am
