/- One operation of Go's code against one of the small machine: all of them; calls. -/
import Derived.Test.YtgncfkcabphccaaA18
namespace Go.Am
set_option linter.unusedSimpArgs false
set_option linter.unusedVariables false
variable {P : Program}

/-- A function that can be entered. -/
def Callable (P : Program) (f : Nat) : Prop := ∃ fn, P.funcs[f]? = some fn ∧ fn.name ≠ "runtime.NumGoroutine" ∧ fn.body.isSome = true

def CallOK (P : Program) (T : Tab) (R : Run) : Prop := ∀ d f vs H nx v H' nx', callOp T R d f vs H nx = some (v, H', nx') → Callable P f ∧
  ∀ w φ vals, Sim w φ H → VTup (ctx w φ H) vs vals → Calls P f vals.toArray w (fun e w' => ∃ x φ', e = .returned x ∧ VRel (ctx w' φ' H') v x ∧ Sim w' φ' H' ∧ Ext w φ H w' φ' H')

theorem callFunc_run {f : Nat} (h : Callable P f) (args : Array Value) (w : World) : (callFunc f args).run P w = .ok (.enter f args) w := by
  obtain ⟨fn, h1, h2, h3⟩ := h
  have hb : fn.body.isNone = false := by cases hx : fn.body <;> simp [hx] at h3 ⊢
  simp only [callFunc, Sem.run_bind, run_program, Result.andThen_ok, h1]
  simp [h2, hb]

section
variable {o : Oper} {ops : Array Oper} {nt : Nat} {a : Act} {w : World} {φ : Id → Option Addr} {H : Heap} {nx : Nat} {E : AEnv} {T : Tab} {R : Run} {d : Nat}

/-- A call. -/
theorem does_calls {f : Nat} {vs : List AV} {vals : List Value} {v : AV} {H' : Heap} {nx' : Nat} (hok : CallOK P T R) (hc : callOp T R d f vs H nx = some (v, H', nx')) (hs : SR nt w φ ⟨E, H, nx⟩ a) (hd : ∀ d, o.dst = some d → d < nt)
    (hv : VTup (ctx w φ H) vs vals) (hr : ∀ w, (execOp a.eval o).run P w = (callFunc f vals.toArray).run P w) : Does P o nt a w φ H o.dst E v H' nx' := by
  obtain ⟨h1, h2⟩ := hok _ _ _ _ _ _ _ _ hc
  intro K Q hK
  unfold Oper.wp
  rw [hr, callFunc_run h1, Oper.upon_enter]
  refine (h2 w φ vals hs.sim hv).mono ?_
  rintro e w' ⟨x, φ', rfl, h3, h4, h5⟩
  refine hK _ _ φ' ⟨h4, ?_, by rw [put_size]; exact hs.size⟩ h5 (put_defers' _ _ _)
  exact EnvRel.put (hs.env.mono (h5.leCtx hs.sim.pl)) (fun _ => h3) (fun d h => by rw [hs.size]; exact hd d h)

theorem mapMO_arr {xs : Array Operand} {ys : List Opd} (h : mapMO opdOf xs.toList = some ys) {X : Ctx} (e : EnvRel X E a.tmps) : VTup X (ys.map (ev E)) (xs.map a.eval).toList := by
  rw [Array.toList_map]; exact opds_rel e _ _ h

theorem isInt_of {X : Ctx} {x : Operand} {y : Opd} {n : Int} (e : EnvRel X E a.tmps) (h : opdOf x = some y) (hn : intOfV (ev E y) = some n) : isInt (some (a.eval x)) (some n) := by
  obtain ⟨k, ek⟩ := intOf_rel (opd_rel e h) hn
  exact .inr ⟨k, n, by rw [ek], rfl⟩

theorem stor_cells_pos {t : TypeId} {z : AV} {n : Nat} (hz : zeroT P t = some z) (hn : sizeT P t = some n) : 0 < z.cells.length := by
  obtain ⟨i, v, h1, _, _, h2⟩ := zeroT_info hz
  obtain ⟨i', h3, h4, h5, _⟩ := sizeT_info hn
  obtain rfl : i = i' := Option.some.inj (h1.symm.trans h3)
  omega

theorem appT_of {t u e : TypeId} {uu : TypeDesc} {sz : Nat} {z : AV} (he : elemT P t = some e) (hu : P.underlying u = some uu) (hni : ∀ k, uu ≠ .int k) (hs : sizeT P e = some sz) (hz : zeroT P e = some z) :
    ∃ i zv, AppT P t u e sz i zv := by
  obtain ⟨i, v, h1, h2, h3, h4⟩ := zeroT_info hz
  obtain ⟨i', h5, h6, h7, h8⟩ := sizeT_info hs
  obtain rfl : i = i' := Option.some.inj (h1.symm.trans h5)
  obtain ⟨f1, _⟩ := fit_cells (valOf_rel ⟨fun _ => none, fun _ => none, fun _ => none, fun _ => 0⟩ h3) (valOf_stor h3)
  exact ⟨i, v, elemT_und he, ⟨uu, hu, hni⟩, h1, h2, h6, by omega, by omega, h7⟩
end
end Go.Am
