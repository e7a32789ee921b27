/- The small machine against Go's: calls. -/
import Derived.Test.YtgncfkcabphccaaA28
namespace Go.Am
set_option linter.unusedSimpArgs false
set_option linter.unusedVariables false
variable {P : Program}

structure TabOK (P : Program) (T : Tab) : Prop where
  mix : P.follows .mixedOrders = true
  fn : ∀ f F, T.fn f = some F → ∃ fn, P.funcs[f]? = some fn ∧ fn.name ≠ "runtime.NumGoroutine" ∧ fnOf P fn = some F
  nat : ∀ f g, T.nat f = some g → Callable P f ∧ ∀ (ts us : List TV) (w : World) (φ : Id → Option Addr) (vals : List Value), g ts = some us → Sim w φ H0 → VTup (ctx w φ H0) (ts.map .c) vals →
    Calls P f vals.toArray w (fun e w' => ∃ v, e = .returned v ∧ VRel (ctx w' φ H0) (tupOf (us.map .c)) v ∧ Grown w w')

theorem fnOf_spec {fn : Func} {F : AFn} (h : fnOf P fn = some F) : ∃ c, fn.body = some c ∧ resOf P fn.results.toList = some F.res ∧ codeOf P c = some F.body ∧ okD fn.ntmps F.body = true ∧ F.np ≤ fn.ntmps := by
  unfold fnOf at h
  split at h
  · rename_i c r hc hr
    split at h
    · rename_i b hb
      split at h
      · rename_i hk
        obtain rfl := Option.some.inj h
        exact ⟨c, hc, hr, hb, hk.1, hk.2⟩
      · cases h
    · cases h
  · cases h

theorem TabOK.callable {T : Tab} (hT : TabOK P T) {f : Nat} {F : AFn} (h : T.fn f = some F) : Callable P f := by
  obtain ⟨fn, h1, h2, h3⟩ := hT.fn f F h
  obtain ⟨c, h4, _⟩ := fnOf_spec h3
  exact ⟨fn, h1, h2, by rw [h4]; rfl⟩

theorem VTup.get {X : Ctx} : ∀ {l : List AV} {vs : List Value}, VTup X l vs → ∀ t : Nat, VRel X (l.getD t .undef) (vs.getD t undef)
  | [], [], _, t => by simp [VRel]
  | x :: r, v :: q, h, t => by
    cases t with
    | zero => exact h.1
    | succ t => simpa using VTup.get h.2 t

theorem callB_sound {T : Tab} (hT : TabOK P T) {n : Nat} (hM : Main P T n) {d f : Nat} {args rs : List AV} {H H' : Heap} {nx nx' : Nat} (h : callB T (runF T n) d f args H nx = some (rs, H', nx')) {w : World} {φ : Id → Option Addr} {vals : List Value}
    (hs : Sim w φ H) (hv : VTup (ctx w φ H) args vals) :
    Callable P f ∧ Calls P f vals.toArray w (fun e w' => ∃ v φ', e = .returned v ∧ VRel (ctx w' φ' H') (tupOf rs) v ∧ Sim w' φ' H' ∧ Ext w φ H w' φ' H') := by
  unfold callB at h
  split at h
  · rename_i F hF
    split at h
    · rename_i hnp
      split at h
      · rename_i s hrun
        split at h
        · rename_i rs' hres
          obtain ⟨rfl, rfl, rfl⟩ := so3 h
          refine ⟨hT.callable hF, ?_⟩
          obtain ⟨fn, h1, h2, h3⟩ := hT.fn f F hF
          obtain ⟨c, h4, h5, h6, h7, h8⟩ := fnOf_spec h3
          have hlen := hv.length
          intro cs
          let b : Frame := { (default : Frame) with fn := f, kind := .normal }
          have henter : Frame.enter P f vals.toArray .normal =
              b.at { tmps := vals.toArray ++ Array.replicate (fn.ntmps - vals.toArray.size) undef, defers := [] } [.code c] := by
            simp [Frame.enter, Frame.at, h1, h4, b]
          have hsr : SR fn.ntmps w φ ⟨bindArgs args, H, nx⟩ { tmps := vals.toArray ++ Array.replicate (fn.ntmps - vals.toArray.size) undef, defers := [] } := by
            refine ⟨hs, ?_, by simp; omega⟩
            intro t
            have h9 := hv.get t
            by_cases hlt : t < vals.length
            · have : (vals.toArray ++ Array.replicate (fn.ntmps - vals.toArray.size) undef).getD t undef = vals.getD t undef := by
                rw [Array.getD_eq_getD_getElem?, Array.getElem?_append_left (by simpa using hlt)]
                simp
              simp only [bindArgs, this]
              exact h9
            · have : bindArgs args t = .undef := by
                simp only [bindArgs, List.getD_eq_getElem?_getD]
                rw [List.getElem?_eq_none (by omega)]; rfl
              simp only [this]
              trivial
          obtain ⟨a', w', φ', todo, g1, g2, g3, g4⟩ := hM d [.code F.body] _ s hrun fn.ntmps b [.code c] cs _ w φ ⟨h6, h7, trivial⟩ hsr
          rw [← henter] at g1
          obtain ⟨v, e1, e2⟩ := results_rel (P := P) g2 h5 hres
          exact ⟨.returned v, w', _, ⟨v, φ', rfl, e2, g2.sim, g3⟩, g1, rfl, rfl, g4, rfl, fn, h1, e1⟩
        · cases h
      · cases h
    · cases h
  · cases h

/-! ### data of results and of arguments -/
section
variable {w : World} {φ : Id → Option Addr} {H : Heap}

theorem frz_tup_rel (hs : Sim w φ H) {n : Nat} : ∀ {l : List AV} {ts : List TV} {vs : List Value}, NoW H (idsOfs H n l) → VTup (ctx w φ H) l vs → frzs H n l = some ts → VTup (ctx w φ H) (ts.map .c) vs
  | [], ts, vs, _, hr, hf => by
    simp only [frzs] at hf
    obtain rfl := Option.some.inj hf
    exact hr
  | x :: r, ts, vs, hn, hr, hf => by
    simp only [frzs] at hf
    simp only [idsOfs] at hn
    split at hf
    · rename_i y hy
      split at hf
      · rename_i ys hys
        obtain rfl := Option.some.inj hf
        cases vs with
        | nil => exact hr.elim
        | cons v q =>
          exact ⟨frz_rel hs n x y v (fun id hi => hn id (by simp [hi])) hr.1 hy, frz_tup_rel hs (fun id hi => hn id (by simp [hi])) hr.2 hys⟩
      · cases hf
    · cases hf

theorem frzs_length {n : Nat} : ∀ {l : List AV} {ts : List TV}, frzs H n l = some ts → ts.length = l.length
  | [], ts, hf => by simp only [frzs] at hf; obtain rfl := Option.some.inj hf; rfl
  | x :: r, ts, hf => by
    simp only [frzs] at hf
    split at hf
    · split at hf
      · rename_i ys hys
        obtain rfl := Option.some.inj hf
        simp [frzs_length hys]
      · cases hf
    · cases hf

theorem tupOf_rel {X : Ctx} {l : List AV} {v : Value} (h : VRel X (tupOf l) v) : ∃ vs : List Value, VTup X l vs ∧ ∀ (X' : Ctx) (l' : List AV), l'.length = l.length → VTup X' l' vs → VRel X' (tupOf l') v := by
  unfold tupOf at h
  split at h
  · rename_i x
    refine ⟨[v], ⟨h, trivial⟩, fun X' l' hl h' => ?_⟩
    cases l' with
    | nil => simp at hl
    | cons y q =>
      cases q with
      | nil => exact h'.1
      | cons => simp at hl
  · rename_i hne
    obtain ⟨vs, rfl, hvs⟩ := h
    refine ⟨vs, hvs, fun X' l' hl h' => ?_⟩
    unfold tupOf
    split
    · rename_i y
      cases l with
      | nil => simp at hl
      | cons x q => cases q with
        | nil => exact (hne x rfl).elim
        | cons => simp at hl
    · exact ⟨vs, rfl, h'⟩

theorem vtup_c {X X' : Ctx} (h : LeMem X.m X'.m) : ∀ {l : List TV} {vs : List Value}, VTup X (l.map .c) vs → VTup X' (l.map .c) vs
  | [], [], _ => trivial
  | [], _ :: _, e => e.elim
  | t :: r, [], e => e.elim
  | t :: r, v :: q, e => ⟨TRel.mono h t v e.1, vtup_c h e.2⟩

theorem plain_any {m m' : Mem} : ∀ {l : List TV} {vs : List Value}, l.all TV.plain = true → TRels m l vs → TRels m' l vs
  | [], [], _, _ => trivial
  | [], _ :: _, _, h => h.elim
  | _ :: _, [], _, h => h.elim
  | t :: r, v :: q, hp, h => by
    simp only [List.all_cons, Bool.and_eq_true] at hp
    refine ⟨?_, h.2.1, plain_any hp.2 h.2.2⟩
    cases t with
    | s x => exact h.1
    | agg => simp [TV.plain] at hp
    | sl => simp [TV.plain] at hp

theorem scalar_any {m m' : Mem} {t : TV} {v : Value} (hp : t.scalar = true) (h : TRel m t v) : TRel m' t v := by
  cases t with
  | s x => exact h
  | agg cs => obtain ⟨vs, e, hvs⟩ := h; exact ⟨vs, e, plain_any hp hvs⟩
  | sl => simp [TV.scalar] at hp

theorem vtup_scalar {X X' : Ctx} : ∀ {l : List TV} {vs : List Value}, l.all TV.scalar = true → VTup X (l.map .c) vs → VTup X' (l.map .c) vs
  | [], [], _, _ => trivial
  | [], _ :: _, _, h => h.elim
  | _ :: _, [], _, h => h.elim
  | t :: r, v :: q, hp, h => by
    simp only [List.all_cons, Bool.and_eq_true] at hp
    exact ⟨scalar_any hp.1 h.1, vtup_scalar hp.2 h.2⟩

theorem noW_lockL (l : List Id) : NoW (lockL H l) l := by
  intro id hi ob ho
  rw [lockL_at, if_pos hi] at ho
  split at ho
  · obtain rfl := Option.some.inj ho; rfl
  · cases ho
theorem noW_lockAll (l : List Id) : NoW (lockAll H) l := by
  intro id _ ob ho
  unfold lockAll at ho
  split at ho
  · obtain rfl := Option.some.inj ho; rfl
  · cases ho
theorem lockAll_ag (id : Id) : AgR H (lockAll H) id := by
  cases h : H id with
  | none => exact .inl ⟨h, by simp only [lockAll, h]⟩
  | some b => exact .inr ⟨b, { b with w := false }, h, by simp only [lockAll, h], rfl, rfl, rfl⟩

/-- A result, read as data: what it reaches is locked. -/
theorem freeze_result {w0 : World} {φ0 : Id → Option Addr} {Hs : Heap} (hs : Sim w φ H) (he : Ext w0 φ0 Hs w φ H) {rs : List AV} {us : List TV} {v : Value} (hr : VRel (ctx w φ H) (tupOf rs) v) (hf : frzs H 12 rs = some us) :
    ∃ Hc, VRel (ctx w φ Hc) (tupOf (us.map .c)) v ∧ Ext w0 φ0 Hs w φ Hc := by
  have hlk := lk_lockL H (idsOfs H 12 rs)
  have hs' := hlk.sim hs
  obtain ⟨e1, e2⟩ := frzs_ag (H := H) (H1 := lockL H (idsOfs H 12 rs)) 12 rs (fun id _ => lockL_ag _ _)
  refine ⟨lockL H (idsOfs H 12 rs), ?_, he.trans hlk.ext⟩
  have hr' := VRel.mono ((hlk.ext (w := w) (φ := φ)).leCtx hs.pl) _ _ hr
  obtain ⟨vs, h1, h2⟩ := tupOf_rel hr'
  refine h2 _ _ (by simp [frzs_length hf]) (frz_tup_rel hs' (n := 12) ?_ h1 (by rw [e1, hf]))
  rw [e2]
  exact noW_lockL _
end

/-- A call on data alone. -/
theorem closed_sound {T : Tab} (hT : TabOK P T) {n : Nat} (hM : Main P T n) {f : Nat} {ts us : List TV} (h : callC T (runF T n) f ts = some us) {w : World} {φ : Id → Option Addr} {vals : List Value}
    (hs : Sim w φ H0) (hv : VTup (ctx w φ H0) (ts.map .c) vals) :
    Callable P f ∧ Calls P f vals.toArray w (fun e w' => ∃ v φ' Hc, e = .returned v ∧ VRel (ctx w' φ' Hc) (tupOf (us.map .c)) v ∧ Ext w φ H0 w' φ' Hc) := by
  unfold callC at h
  split at h
  · rename_i g hg
    obtain ⟨h1, h2⟩ := hT.nat f g hg
    refine ⟨h1, (h2 ts us w φ vals h hs hv).mono ?_⟩
    rintro e w' ⟨v, rfl, h3, h4⟩
    exact ⟨v, φ, H0, rfl, h3, h4.ext hs⟩
  · split at h
    · rename_i rs Hc nx' hb
      obtain ⟨h1, h2⟩ := callB_sound hT hM hb hs hv
      refine ⟨h1, h2.mono ?_⟩
      rintro e w' ⟨v, φ', rfl, h3, h4, h5⟩
      obtain ⟨Hc', g1, g2⟩ := freeze_result h4 h5 h3 h
      exact ⟨v, φ', Hc', rfl, g1, g2⟩
    · cases h

open Classical in
/-- Every block that may be written is fenced off. -/
noncomputable def fence (φ : Id → Option Addr) (H : Heap) : Id → Option Addr := fun id => match id with
  | .ex b => if Mut φ H b then some ⟨b, 0, none⟩ else none
  | _ => none

theorem fence_mut {φ : Id → Option Addr} {H : Heap} {b : Nat} : Mut (fence φ H) H0 b ↔ Mut φ H b := by
  constructor
  · rintro (⟨o, ob, a, h1, _⟩ | ⟨k, a, h1, rfl⟩)
    · cases h1
    · unfold fence at h1
      simp only at h1
      split at h1
      · rename_i hm
        obtain rfl := Option.some.inj h1
        exact hm
      · cases h1
  · intro h
    exact .inr ⟨b, ⟨b, 0, none⟩, by unfold fence; simp only; rw [if_pos h], rfl⟩

theorem fence_imm {w : World} {φ : Id → Option Addr} {H : Heap} : imm w (fence φ H) H0 = imm w φ H := by
  funext a
  unfold imm
  by_cases h : Mut φ H a.block
  · rw [if_pos h, if_pos (fence_mut.2 h)]
  · rw [if_neg h, if_neg (fun e => h (fence_mut.1 e))]

theorem mut_lt {w : World} {φ : Id → Option Addr} {H : Heap} (hs : Sim w φ H) {b : Nat} (h : Mut φ H b) : b < w.heap.size := by
  rcases h with ⟨o, ob, a, _, _, h3, rfl⟩ | ⟨k, a, h1, rfl⟩
  · exact hs.pl o a h3
  · exact hs.pl _ a h1

theorem fence_sim {w : World} {φ : Id → Option Addr} {H : Heap} (hs : Sim w φ H) : Sim w (fence φ H) H0 := by
  refine ⟨?_, fun o ob h => (by cases h), fun o ob p oc b c h => (by cases h), fun o ob h => (by cases h), fun o ob b k c h => (by cases h)⟩
  intro o a h
  unfold fence at h
  split at h
  · split at h
    · rename_i hm
      obtain rfl := Option.some.inj h
      exact mut_lt hs hm
    · cases h
  · cases h

theorem fence_grown {w w' : World} {φ φ' : Id → Option Addr} {H Hc : Heap} (h : Ext w (fence φ H) H0 w' φ' Hc) : Grown w w' := by
  refine ⟨h.os, h.tape, h.output, h.size, fun b hb => ?_⟩
  by_cases hm : Mut φ H b
  · exact h.exh b ⟨b, 0, none⟩ (by unfold fence; simp only; rw [if_pos hm])
  · exact h.fr b hb (fun e => hm (fence_mut.1 e))

theorem fence_back {w w' : World} {φ φ' : Id → Option Addr} {H Hc : Heap} (h : Ext w (fence φ H) H0 w' φ' Hc) : LeMem (imm w' φ' Hc) (imm w' φ H) := by
  intro a v ha
  rw [imm_some] at ha ⊢
  refine ⟨fun hm => ha.1 (.inr ⟨a.block, ⟨a.block, 0, none⟩, ?_, rfl⟩), ha.2⟩
  rw [h.ex]
  unfold fence; simp only; rw [if_pos hm]

theorem callOK_of {T : Tab} (hT : TabOK P T) {n : Nat} (hM : Main P T n) : CallOK P T (runF T n) := by
  intro d f vs H nx v H' nx' h
  unfold callOp at h
  split at h
  · -- it may write
    split at h
    · rename_i rs H1 nx1 hb
      obtain ⟨rfl, rfl, rfl⟩ := so3 h
      constructor
      · unfold callB at hb
        split at hb
        · rename_i F hF; exact hT.callable hF
        · cases hb
      · intro w φ vals hs hv
        obtain ⟨_, h2⟩ := callB_sound hT hM hb hs hv
        exact h2
    · cases h
  · cases h
  · split at h
    · rename_i ts hts
      split at h
      · rename_i us hus
        have hcall : Callable P f := by
          unfold callC at hus
          split at hus
          · rename_i g hg; exact (hT.nat f g hg).1
          · split at hus
            · rename_i hb
              unfold callB at hb
              split at hb
              · rename_i F hF; exact hT.callable hF
              · cases hb
            · cases hus
        have key : ∀ (w : World) (φ : Id → Option Addr) (vals : List Value), Sim w φ H → VTup (ctx w φ H) vs vals →
            Calls P f vals.toArray w (fun e w' => ∃ x φ' Hc, e = .returned x ∧ VRel (ctx w' φ' Hc) (tupOf (us.map .c)) x ∧ Ext w (fence φ (lockL H (idsOfs H 12 vs))) H0 w' φ' Hc) := by
          intro w φ vals hs hv
          have hlk := lk_lockL H (idsOfs H 12 vs)
          have hs' := hlk.sim hs
          obtain ⟨e1, e2⟩ := frzs_ag (H := H) (H1 := lockL H (idsOfs H 12 vs)) 12 vs (fun id _ => lockL_ag _ _)
          have hv' := VTup.mono ((hlk.ext (w := w) (φ := φ)).leCtx hs.pl) _ _ hv
          have hv2 : VTup (ctx w φ (lockL H (idsOfs H 12 vs))) (ts.map .c) vals :=
            frz_tup_rel hs' (n := 12) (by rw [e2]; exact noW_lockL _) hv' (by rw [e1, hts])
          have hv3 : VTup (ctx w (fence φ (lockL H (idsOfs H 12 vs))) H0) (ts.map .c) vals :=
            vtup_c (X := ctx w φ (lockL H (idsOfs H 12 vs))) (by
              show LeMem (imm w φ (lockL H (idsOfs H 12 vs))) (imm w (fence φ (lockL H (idsOfs H 12 vs))) H0)
              rw [fence_imm]; exact fun _ _ h => h) hv2
          exact (closed_sound hT hM hus (fence_sim hs') hv3).2
        split at h
        · rename_i hsc
          obtain ⟨rfl, rfl, rfl⟩ := so3 h
          refine ⟨hcall, fun w φ vals hs hv => (key w φ vals hs hv).mono ?_⟩
          rintro e w' ⟨x, φ', Hc, rfl, h1, h2⟩
          have hg := fence_grown h2
          obtain ⟨us', g1, g2⟩ := tupOf_rel h1
          exact ⟨x, φ, rfl, g2 _ _ rfl (vtup_scalar hsc g1), hg.sim hs, hg.ext hs⟩
        · obtain ⟨rfl, rfl, rfl⟩ := so3 h
          refine ⟨hcall, fun w φ vals hs hv => (key w φ vals hs hv).mono ?_⟩
          rintro e w' ⟨x, φ', Hc, rfl, h1, h2⟩
          have hg := fence_grown h2
          have hlk := lk_lockL H (idsOfs H 12 vs)
          have hs' := hlk.sim hs
          obtain ⟨us', g1, g2⟩ := tupOf_rel h1
          exact ⟨x, φ, rfl, g2 _ _ rfl (vtup_c (fence_back h2) g1), hg.sim hs', hlk.ext.trans (hg.ext hs')⟩
      · cases h
    · split at h
      · rename_i rs Hc nx1 hb
        split at h
        · rename_i us hus
          split at h
          · rename_i hsc
            obtain ⟨rfl, rfl, rfl⟩ := so3 h
            constructor
            · unfold callB at hb
              split at hb
              · rename_i F hF; exact hT.callable hF
              · cases hb
            · intro w φ vals hs hv
              have hlk := lk_lockAll H
              have hs' := hlk.sim hs
              have hv' := VTup.mono ((hlk.ext (w := w) (φ := φ)).leCtx hs.pl) _ _ hv
              have hargs : ∀ (l : List AV) (q : List Value), VTup (ctx w φ (lockAll H)) l q → VTup (ctx w φ (lockAll H)) (l.map (frzOr H)) q := by
                intro l
                induction l with
                | nil => intro q h; exact h
                | cons x r ih =>
                  intro q h
                  cases q with
                  | nil => exact h.elim
                  | cons y q =>
                    refine ⟨?_, ih q h.2⟩
                    unfold frzOr
                    split
                    · rename_i t ht
                      obtain ⟨e1, e2⟩ := frz_ag (H := H) (H1 := lockAll H) 12 x (fun id _ => lockAll_ag id)
                      exact frz_rel hs' 12 x t y (noW_lockAll _) h.1 (by rw [e1, ht])
                    · exact h.1
              obtain ⟨_, h2⟩ := callB_sound hT hM hb hs' (hargs _ _ hv')
              refine h2.mono ?_
              rintro e w' ⟨x, φ', rfl, h3, h4, h5⟩
              obtain ⟨Hd, g1, g2⟩ := freeze_result h4 h5 h3 hus
              have hg : Grown w w' := by
                refine ⟨h5.os, h5.tape, h5.output, h5.size, fun b hb => ?_⟩
                by_cases hm : Mut φ (lockAll H) b
                · rcases hm with ⟨o, ob, a, k1, k2, _⟩ | ⟨k, a, k1, rfl⟩
                  · have := noW_lockAll (H := H) [o] o (by simp) ob k1
                    rw [this] at k2; cases k2
                  · exact h5.exh k a k1
                · exact h5.fr b hb hm
              obtain ⟨us', k1, k2⟩ := tupOf_rel g1
              exact ⟨x, φ, rfl, k2 _ _ rfl (vtup_scalar hsc k1), hg.sim hs, hg.ext hs⟩
          · cases h
        · cases h
      · cases h

theorem main_all {T : Tab} (hT : TabOK P T) : ∀ n, Main P T n := by
  intro n
  induction n using Nat.strongRecOn with
  | _ n ih => exact main_step hT.mix ih (fun m hm => callOK_of hT (ih m hm))

/-- What the small machine tells of a function on data, Go's code does. -/
theorem sound {T : Tab} (hT : TabOK P T) {f : Nat} {ts us : List TV} (h : callC T (arun T) f ts = some us) {w : World} {φ : Id → Option Addr} {vals : List Value} (hs : Sim w φ H0) (hv : VTup (ctx w φ H0) (ts.map .c) vals) :
    Calls P f vals.toArray w (fun e w' => ∃ v φ' Hc, e = .returned v ∧ VRel (ctx w' φ' Hc) (tupOf (us.map .c)) v ∧ Ext w φ H0 w' φ' Hc) := by
  obtain ⟨n, hn⟩ := callC_cont h
  exact (closed_sound hT (main_all hT n) hn hs hv).2
end Go.Am
