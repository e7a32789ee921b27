/- The small machine against Go's: whole bodies. -/
import Derived.Test.YtgncfkcabphccaaA25
import Derived.Laws.Sem
namespace Go.Am
set_option linter.unusedSimpArgs false
set_option linter.unusedVariables false
variable {P : Program}

/-! ### results -/
theorem load_addr {X : Ctx} {H : Heap} {ag : Bool} {n : Nat} {x v : AV} {p : Value} (hp : VRel X x p) (hv : loadV H ag n x = some v) : ∃ ad, p = .pointer (some ad) := by
  cases x with
  | tptr y off => obtain ⟨u, b, rfl, _⟩ := hp; exact ⟨_, rfl⟩
  | ptr q g m i off => obtain ⟨ad, rfl, _⟩ := hp; exact ⟨_, rfl⟩
  | _ => simp [loadV] at hv

section
variable {nt : Nat} {w : World} {φ : Id → Option Addr} {s : St} {a : Act}

def resF (tmps : Array Value) : ResultVar → Sem Value
  | .tmp t => pure (tmps.getD t undef)
  | .cell ad t => do loadVar t (← asAddr (tmps.getD ad undef))

theorem asAddr_some (ad : Addr) : asAddr (.pointer (some ad)) = pure ad := rfl

theorem results_eq (fn : Func) (tmps : Array Value) : results fn tmps = (do let vs ← fn.results.toList.mapM (resF tmps); pure (if h : vs.toArray.size = 1 then vs.toArray[0] else .tuple vs.toArray)) := by
  have key : ∀ f : ResultVar → Sem Value, (∀ r, f r = resF tmps r) → ((do let vs ← fn.results.mapM f; pure (if h : vs.size = 1 then vs[0] else .tuple vs)) : Sem Value) =
      (do let vs ← fn.results.toList.mapM (resF tmps); pure (if h : vs.toArray.size = 1 then vs.toArray[0] else .tuple vs.toArray)) := by
    intro f hf
    rw [Array.mapM_eq_mapM_toList, show f = resF tmps from funext hf, bind_map_left]
  refine key _ fun r => ?_
  cases r <;> rfl

theorem results_list {w : World} {φ : Id → Option Addr} {s : St} {a : Act} (hs : SR nt w φ s a) : ∀ (l : List ResultVar) (r : List ARes) (rs : List AV), resOf P l = some r → resV s.E s.H r = some rs →
    ∃ vs : List Value, (l.mapM (resF a.tmps)).run P w = .ok vs w ∧ VTup (ctx w φ s.H) rs vs := by
  intro l
  induction l with
  | nil =>
    intro r rs h1 h2
    simp only [resOf] at h1
    obtain rfl := Option.some.inj h1
    simp only [resV] at h2
    obtain rfl := Option.some.inj h2
    exact ⟨[], by simp, trivial⟩
  | cons x l ih =>
    intro r rs h1 h2
    cases x with
    | tmp t =>
      simp only [resOf] at h1
      split at h1
      · rename_i r' hr'
        obtain rfl := Option.some.inj h1
        simp only [resV] at h2
        split at h2
        · rename_i rs' hrs'
          obtain rfl := Option.some.inj h2
          obtain ⟨vs, e1, e2⟩ := ih r' rs' hr' hrs'
          refine ⟨a.tmps.getD t undef :: vs, ?_, hs.env t, e2⟩
          simp only [List.mapM_cons, resF, Sem.run_bind, Sem.run_pure, Result.andThen_ok, e1]
        · cases h2
      · cases h1
    | cell t ty =>
      simp only [resOf] at h1
      split at h1
      · rename_i ag n r' hag hn hr'
        obtain rfl := Option.some.inj h1
        simp only [resV] at h2
        split at h2
        · rename_i v rs' hv hrs'
          obtain rfl := Option.some.inj h2
          obtain ⟨vs, e1, e2⟩ := ih r' rs' hr' hrs'
          have ht := hs.env t
          obtain ⟨ad, ead⟩ := load_addr ht hv
          obtain ⟨u, hu, hrel⟩ := load_rel hag hn hs.sim ht hv
          rw [ead] at hu
          simp only [Instr.loadAt, Instr.sureAddr, Sem.run_bind, Sem.run_pure, Result.andThen_ok] at hu
          refine ⟨u :: vs, ?_, hrel, e2⟩
          simp only [List.mapM_cons, resF, Sem.run_bind, Sem.run_pure, Result.andThen_ok, ead, asAddr_some, hu, e1]
        · cases h2
      · cases h1

theorem results_rel {fn : Func} {r : List ARes} {rs : List AV} (hs : SR nt w φ s a) (h : resOf P fn.results.toList = some r) (hr : resV s.E s.H r = some rs) :
    ∃ v, (results fn a.tmps).run P w = .ok v w ∧ VRel (ctx w φ s.H) (tupOf rs) v := by
  obtain ⟨vs, e1, e2⟩ := results_list (P := P) hs _ _ _ h hr
  have hrun : (results fn a.tmps).run P w = .ok (if h : vs.toArray.size = 1 then vs.toArray[0] else .tuple vs.toArray) w := by
    rw [results_eq]
    simp only [Sem.run_bind, Sem.run_pure, Result.andThen_ok, e1]
  refine ⟨_, hrun, ?_⟩
  have hl := e2.length
  unfold tupOf
  split
  · rename_i x
    cases vs with
    | nil => simp at hl
    | cons v q =>
      cases q with
      | nil => simpa using e2.1
      | cons => simp at hl
  · rename_i hne
    rw [dif_neg]
    · exact ⟨vs, rfl, e2⟩
    · intro h1
      simp at h1
      rw [h1] at hl
      cases rs with
      | nil => simp at hl
      | cons x q => cases q with
        | nil => exact hne x rfl
        | cons => simp at hl
end
end Go.Am
