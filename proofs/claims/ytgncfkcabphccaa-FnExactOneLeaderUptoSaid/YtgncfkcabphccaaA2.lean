/- The small machine without its rounds: equations by which it is run. -/
import Derived.Test.YtgncfkcabphccaaA1
namespace Go.Am
set_option linter.unusedSimpArgs false
set_option linter.unusedVariables false

/-- R' tells all that R tells. -/
def LeR (R R' : Run) : Prop := ∀ d K s r, R d K s = some r → R' d K s = some r

theorem callB_mono {T : Tab} {R R' : Run} (h : LeR R R') {d f args H nx r} (e : callB T R d f args H nx = some r) : callB T R' d f args H nx = some r := by
  unfold callB at *
  split at e
  · rename_i F hF
    split at e
    · rename_i ha
      simp only [ha, if_true]
      split at e
      · rename_i s hs
        rw [h _ _ _ _ hs]; exact e
      · cases e
    · cases e
  · cases e

theorem callC_mono {T : Tab} {R R' : Run} (h : LeR R R') {f ts r} (e : callC T R f ts = some r) : callC T R' f ts = some r := by
  unfold callC at *
  split at e
  · exact e
  · split at e
    · rename_i hb
      rw [callB_mono h hb]; exact e
    · cases e

theorem callOp_mono {T : Tab} {R R' : Run} (h : LeR R R') {d f vs H nx r} (e : callOp T R d f vs H nx = some r) : callOp T R' d f vs H nx = some r := by
  unfold callOp at *
  split at e
  · split at e
    · rename_i hb
      rw [callB_mono h hb]; exact e
    · cases e
  · cases e
  · split at e
    · rename_i ts hts
      split at e
      · rename_i us hus
        rw [callC_mono h hus]; exact e
      · cases e
    · split at e
      · rename_i hb
        rw [callB_mono h hb]; exact e
      · cases e

theorem operV_mono {T : Tab} {R R' : Run} (h : LeR R R') {d dst E H nx o r} (e : operV T R d dst E H nx o = some r) : operV T R' d dst E H nx o = some r := by
  cases o with
  | call f args => exact callOp_mono h e
  | callv f args =>
    simp only [operV] at *
    split at e
    · exact callOp_mono h e
    · cases e
  | _ => exact e

theorem operF_mono {T : Tab} {R R' : Run} (h : LeR R R') {d o s r} (e : operF T R d o s = some r) : operF T R' d o s = some r := by
  unfold operF at *
  split at e
  · split at e
    · rename_i hv
      rw [operV_mono h hv]; exact e
    · cases e
  · exact e
  · cases e

theorem runF_succ (T : Tab) : ∀ n, LeR (runF T n) (runF T (n + 1)) := by
  intro n
  induction n with
  | zero => intro d K s r h; simp [runF] at h
  | succ n ih =>
    intro d K s r h
    unfold runF at h ⊢
    split at h
    · exact h
    · exact h
    · exact ih _ _ _ _ h
    · exact ih _ _ _ _ h
    · exact ih _ _ _ _ h
    · split at h
      · rename_i hb
        exact ih _ _ _ _ h
      · cases h
    · exact ih _ _ _ _ h
    · exact ih _ _ _ _ h
    · exact ih _ _ _ _ h
    · split at h
      · exact ih _ _ _ _ h
      · cases h
    · split at h
      · rename_i hp
        rw [if_pos hp]; exact ih _ _ _ _ h
      · cases h
    · split at h
      · rename_i ho
        rw [operF_mono ih ho]; exact ih _ _ _ _ h
      · cases h
    · exact ih _ _ _ _ h
    · split at h
      · rename_i ho
        rw [operF_mono ih ho]; exact ih _ _ _ _ h
      · cases h

theorem runF_le (T : Tab) {n m : Nat} (h : n ≤ m) : LeR (runF T n) (runF T m) := by
  induction h with
  | refl => exact fun _ _ _ _ h => h
  | step _ ih => exact fun d K s r h => runF_succ T _ d K s r (ih d K s r h)

open Classical in
/-- What the machine tells, with rounds enough. -/
noncomputable def arun (T : Tab) : Run := fun d K s => if h : ∃ n r, runF T n d K s = some r then some h.choose_spec.choose else none

theorem arun_iff {T : Tab} {d K s r} : arun T d K s = some r ↔ ∃ n, runF T n d K s = some r := by
  unfold arun
  constructor
  · intro h
    split at h
    · rename_i hx
      exact ⟨_, (Option.some.inj h) ▸ hx.choose_spec.choose_spec⟩
    · cases h
  · rintro ⟨n, hn⟩
    have hx : ∃ n r, runF T n d K s = some r := ⟨n, r, hn⟩
    rw [dif_pos hx]
    have h1 := hx.choose_spec.choose_spec
    have h2 := runF_le T (Nat.le_max_left n hx.choose) _ _ _ _ hn
    have h3 := runF_le T (Nat.le_max_right n hx.choose) _ _ _ _ h1
    rw [h2] at h3
    exact h3.symm

theorem runF_arun {T : Tab} (n : Nat) : LeR (runF T n) (arun T) := fun _ _ _ _ h => arun_iff.2 ⟨n, h⟩

theorem arun_cont {T : Tab} {α : Type} (G : Run → Option α) (hm : ∀ R R' : Run, LeR R R' → ∀ r, G R = some r → G R' = some r)
    (hc : ∀ r, G (arun T) = some r → ∃ n, G (runF T n) = some r) {r : α} : G (arun T) = some r ↔ ∃ n, G (runF T n) = some r :=
  ⟨hc r, fun ⟨n, h⟩ => hm _ _ (runF_arun n) _ h⟩

theorem callB_cont {T : Tab} {d f args H nx r} (e : callB T (arun T) d f args H nx = some r) : ∃ n, callB T (runF T n) d f args H nx = some r := by
  unfold callB at *
  split at e
  · rename_i F hF
    split at e
    · rename_i ha
      split at e
      · rename_i s hs
        obtain ⟨n, hn⟩ := arun_iff.1 hs
        exact ⟨n, by simp only [ha, if_true, hn]; exact e⟩
      · cases e
    · cases e
  · cases e

theorem callC_cont {T : Tab} {f ts r} (e : callC T (arun T) f ts = some r) : ∃ n, callC T (runF T n) f ts = some r := by
  unfold callC at *
  split at e
  · exact ⟨0, e⟩
  · split at e
    · rename_i hb
      obtain ⟨n, hn⟩ := callB_cont hb
      exact ⟨n, by rw [hn]; exact e⟩
    · cases e

theorem callOp_cont {T : Tab} {d f vs H nx r} (e : callOp T (arun T) d f vs H nx = some r) : ∃ n, callOp T (runF T n) d f vs H nx = some r := by
  unfold callOp at *
  split at e
  · split at e
    · rename_i hb
      obtain ⟨n, hn⟩ := callB_cont hb
      exact ⟨n, by rw [hn]; exact e⟩
    · cases e
  · cases e
  · split at e
    · rename_i ts hts
      split at e
      · rename_i us hus
        obtain ⟨n, hn⟩ := callC_cont hus
        exact ⟨n, by rw [hn]; exact e⟩
      · cases e
    · split at e
      · rename_i hb
        obtain ⟨n, hn⟩ := callB_cont hb
        exact ⟨n, by rw [hn]; exact e⟩
      · cases e

theorem operV_cont {T : Tab} {d dst E H nx o r} (e : operV T (arun T) d dst E H nx o = some r) : ∃ n, operV T (runF T n) d dst E H nx o = some r := by
  cases o with
  | call f args => exact callOp_cont e
  | callv f args =>
    simp only [operV] at *
    split at e
    · exact callOp_cont e
    · cases e
  | _ => exact ⟨0, e⟩

theorem operF_cont {T : Tab} {d o s r} (e : operF T (arun T) d o s = some r) : ∃ n, operF T (runF T n) d o s = some r := by
  unfold operF at *
  split at e
  · split at e
    · rename_i hv
      obtain ⟨n, hn⟩ := operV_cont hv
      exact ⟨n, by rw [hn]; exact e⟩
    · cases e
  · exact ⟨0, e⟩
  · cases e

theorem opt_ext {α : Type} {a b : Option α} (h : ∀ r, a = some r ↔ b = some r) : a = b := by
  cases a with
  | none => cases b with
    | none => rfl
    | some y => exact ((h y).2 rfl)
  | some x => exact ((h x).1 rfl).symm

theorem arun_step {T : Tab} {d K s} {d' K' s'} (h : ∀ n, runF T (n + 1) d K s = runF T n d' K' s') : arun T d K s = arun T d' K' s' := by
  refine opt_ext fun r => ?_
  rw [arun_iff, arun_iff]
  constructor
  · rintro ⟨n, hn⟩
    exact ⟨n, by rw [← h]; exact runF_succ T n _ _ _ _ hn⟩
  · rintro ⟨n, hn⟩
    exact ⟨n + 1, by rw [h]; exact hn⟩

theorem arun_const {T : Tab} {d K s} {r : Option St} (h : ∀ n, runF T (n + 1) d K s = r) : arun T d K s = r := by
  refine opt_ext fun q => ?_
  rw [arun_iff]
  constructor
  · rintro ⟨n, hn⟩
    rw [← h n]; exact runF_succ T n _ _ _ _ hn
  · intro hq
    exact ⟨1, by rw [h 0]; exact hq⟩

section
variable {T : Tab} {d : Nat} {K : List It} {s : St}
theorem arun_nil : arun T d [] s = some s := arun_const fun _ => rfl
theorem arun_ret : arun T d (.code .ret :: K) s = some s := arun_const fun _ => rfl
theorem arun_skip : arun T d (.code .skip :: K) s = arun T d K s := arun_step fun _ => rfl
theorem arun_blk {i : Nat} : arun T d (.blk i :: K) s = arun T d K s := arun_step fun _ => rfl
theorem arun_seq {a b : AC} : arun T d (.code (.seq a b) :: K) s = arun T d (.code a :: .code b :: K) s := arun_step fun _ => rfl
theorem arun_block {i : Nat} {b : AC} : arun T d (.code (.block i b) :: K) s = arun T d (.code b :: .blk i :: K) s := arun_step fun _ => rfl
theorem arun_loop {b : AC} : arun T d (.code (.loop b) :: K) s = arun T d (.code b :: .lp b :: K) s := arun_step fun _ => rfl
theorem arun_lp {b : AC} : arun T d (.lp b :: K) s = arun T d (.code b :: .lp b :: K) s := arun_step fun _ => rfl
theorem arun_ops0 : arun T d (.code (.ops []) :: K) s = arun T d K s := arun_step fun _ => rfl
theorem arun_exit {i : Nat} : arun T d (.code (.exit i) :: K) s = (match unwind i K with | some K' => arun T d K' s | none => none) := by
  cases h : unwind i K with
  | none => exact arun_const fun n => by simp [runF, h]
  | some K' => exact arun_step fun n => by simp [runF, h]
theorem arun_cond {c : Opd} {a b : AC} : arun T d (.code (.cond c a b) :: K) s = (match ev s.E c with
    | .c (.s (.bool t)) => arun T d (.code (if t then a else b) :: K) s
    | _ => none) := by
  split
  · rename_i t h
    exact arun_step fun n => by simp only [runF]; rw [h]
  · rename_i h
    refine arun_const fun n => ?_
    simp only [runF]
theorem arun_opsU0 {fs : List Foot} {prs : List (Nat × Nat)} : arun T d (.code (.opsU fs [] prs) :: K) s = (if okPrs fs prs = true then arun T d K s else none) := by
  split
  · rename_i h
    exact arun_step fun n => by simp only [runF]; rw [if_pos h]
  · rename_i h
    refine arun_const fun n => ?_
    simp only [runF]; rw [if_neg h]
theorem arun_opU {fs : List Foot} {prs : List (Nat × Nat)} {o : AOper} {r : List AOper} : arun T d (.code (.opsU fs (o :: r) prs) :: K) s = (match operF T (arun T) d o s with
    | some s' => arun T d (.code (.opsU (fs ++ [footO T d o s]) r prs) :: K) s'
    | none => none) := by
  refine opt_ext fun q => ?_
  rw [arun_iff]
  constructor
  · rintro ⟨n, hn⟩
    cases n with
    | zero => simp [runF] at hn
    | succ n =>
      simp only [runF] at hn
      split at hn
      · rename_i s' hs
        rw [operF_mono (runF_arun n) hs]
        exact arun_iff.2 ⟨n, hn⟩
      · cases hn
  · intro h
    split at h
    · rename_i s' hs
      obtain ⟨n, hn⟩ := operF_cont hs
      obtain ⟨m, hm⟩ := arun_iff.1 h
      refine ⟨max n m + 1, ?_⟩
      simp only [runF]
      rw [operF_mono (runF_le T (Nat.le_max_left n m)) hn]
      exact runF_le T (Nat.le_max_right n m) _ _ _ _ hm
    · cases h
theorem arun_op {o : AOper} {r : List AOper} : arun T d (.code (.ops (o :: r)) :: K) s = (match operF T (arun T) d o s with
    | some s' => arun T d (.code (.ops r) :: K) s'
    | none => none) := by
  refine opt_ext fun q => ?_
  rw [arun_iff]
  constructor
  · rintro ⟨n, hn⟩
    cases n with
    | zero => simp [runF] at hn
    | succ n =>
      simp only [runF] at hn
      split at hn
      · rename_i s' hs
        rw [operF_mono (runF_arun n) hs]
        exact arun_iff.2 ⟨n, hn⟩
      · cases hn
  · intro h
    split at h
    · rename_i s' hs
      obtain ⟨n, hn⟩ := operF_cont hs
      obtain ⟨m, hm⟩ := arun_iff.1 h
      refine ⟨max n m + 1, ?_⟩
      simp only [runF]
      rw [operF_mono (runF_le T (Nat.le_max_left n m)) hn]
      exact runF_le T (Nat.le_max_right n m) _ _ _ _ hm
    · cases h
end
end Go.Am
