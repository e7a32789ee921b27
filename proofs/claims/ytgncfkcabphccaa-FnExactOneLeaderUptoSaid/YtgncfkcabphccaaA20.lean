/- One operation of Go's code against one of the small machine: whichever it is. -/
import Derived.Test.YtgncfkcabphccaaA19
namespace Go.Am
set_option linter.unusedSimpArgs false
set_option linter.unusedVariables false
variable {P : Program}

section
variable {o : Oper} {ops : Array Oper} {nt : Nat} {a : Act} {w : World} {φ : Id → Option Addr} {H : Heap} {nx : Nat} {E : AEnv} {T : Tab} {R : Run} {d : Nat}

theorem some3 {α β γ : Type} {a a' : α} {b b' : β} {c c' : γ} (h : some (a, b, c) = some (a', b', c')) : a = a' ∧ b = b' ∧ c = c' := by
  cases h; exact ⟨rfl, rfl, rfl⟩

theorem args_one {xs : Array Operand} {y : Opd} (h : mapMO opdOf xs.toList = some [y]) : ∃ q, xs = #[q] ∧ opdOf q = some y := by
  obtain ⟨hl, hg⟩ := mapMO_get h
  cases hca : xs.toList with
  | nil => rw [hca] at hl; simp at hl
  | cons q r =>
    have hr : r = [] := by rw [hca] at hl; simpa using hl
    subst hr
    obtain ⟨z, g1, g2⟩ := hg 0 q (by rw [hca]; rfl)
    simp at g2; subst g2
    exact ⟨q, by apply Array.ext'; rw [hca], g1⟩

theorem args_two {xs : Array Operand} {y y' : Opd} (h : mapMO opdOf xs.toList = some [y, y']) : ∃ q q', xs = #[q, q'] ∧ opdOf q = some y ∧ opdOf q' = some y' := by
  obtain ⟨hl, hg⟩ := mapMO_get h
  cases hca : xs.toList with
  | nil => rw [hca] at hl; simp at hl
  | cons q r =>
    cases r with
    | nil => rw [hca] at hl; simp at hl
    | cons q' r =>
      have hr : r = [] := by rw [hca] at hl; simpa using hl
      subst hr
      obtain ⟨z, g1, g2⟩ := hg 0 q (by rw [hca]; rfl)
      obtain ⟨z', g3, g4⟩ := hg 1 q' (by rw [hca]; rfl)
      simp at g2 g4; subst g2; subst g4
      exact ⟨q, q', by apply Array.ext'; rw [hca], g1, g3⟩

theorem map_arr (xs : Array Operand) : xs.map a.eval = (xs.map a.eval).toList.toArray := by rw [Array.toArray_toList]

theorem isStr_string {X : Ctx} {x : AV} {v : Value} (h : VRel X x v) (hs : x.isStr = true) : ∃ s, v = .string s ∧ x = .c (.s (.string s)) := by
  unfold AV.isStr at hs
  split at hs
  · rename_i s; exact ⟨s, h.1, rfl⟩
  · cases hs

theorem bytes_fits (s : ByteArray) : fits 1 (bytesVs s) = true := by
  unfold fits; rw [List.all_eq_true]
  intro q hq
  obtain ⟨c, _, rfl⟩ := List.mem_map.1 hq
  rfl

/-- What 'append' and 'copy' take from. -/
theorem src_any {y : AV} {u : Value} {new : List AV} {sz : Nat} (hs : Sim w φ H) (hn : srcE H y = some new) (hr : VRel (ctx w φ H) y u) (hf : fits sz new = true) (hp : 0 < sz) : Src P (ctx w φ H) w sz new u := by
  unfold srcE at hn
  split at hn
  · rename_i s
    obtain rfl := Option.some.inj hn
    obtain ⟨e1, _⟩ := hr
    subst e1
    by_cases h0 : s.size = 0
    · have hb : bytesVs s = [] := by
        have : (bytesVs s).length = 0 := by simp [bytesVs, h0]
        exact List.length_eq_zero_iff.1 this
      rw [hb]
      refine ⟨by simp [Builtin.lenOf, h0], [], trivial, by simp, ?_⟩
      intro m dr hm
      have : m = 0 := by simpa using hm
      subst this
      simp [Builtin.firstCells, laid]
    · have hsz : sz = 1 := by
        cases hb : bytesVs s with
        | nil =>
          have : (bytesVs s).length = s.size := by simp [bytesVs]
          rw [hb] at this; simp at this; omega
        | cons z r =>
          have h1 := bytes_fits s
          rw [hb] at hf h1
          have a1 := (fits_mem hf (x := z) (by simp)).2
          have a2 := (fits_mem h1 (x := z) (by simp)).2
          omega
      subst hsz
      exact src_string s
  · exact elems_src hs hr hn hf

theorem sound_call {c : Call} {k : AOp} {v : AV} {H' : Heap} {nx' : Nat} (hop : o.op = .call c) (h : callOf P c o.type = some k) (hs : SR nt w φ ⟨E, H, nx⟩ a) (hd : ∀ d, o.dst = some d → d < nt)
    (he : operV T R d o.dst E H nx k = some (v, H', nx')) (hok : CallOK P T R) : Does P o nt a w φ H o.dst E v H' nx' := by
  unfold callOf at h
  split at h
  · cases h
  · rename_i args hargs
    split at h
    · -- a function by its number
      rename_i f hcal
      obtain rfl := Option.some.inj h
      simp only [operV] at he
      refine does_calls hok he hs hd (mapMO_arr hargs hs.env) ?_
      intro w
      simp only [execOp, hop, resolve, hcal, Act.eval, Deferred.ofValue, Sem.run_bind, Sem.run_pure, Result.andThen_ok, invoke]
      rw [Array.toArray_toList, Array.empty_append, Array.append_empty]
    · -- a function value
      rename_i tm hcal
      obtain rfl := Option.some.inj h
      simp only [operV] at he
      split at he
      · rename_i g caps hg
        have h1 : VRel (ctx w φ H) (ev E (.t tm)) (a.eval (.tmp tm)) := opd_rel hs.env (x := .tmp tm) rfl
        rw [hg] at h1
        obtain ⟨vs, e1, hcv⟩ := h1
        refine does_calls hok he hs hd ((mapMO_arr hargs hs.env).append hcv) ?_
        intro w
        simp only [execOp, hop, resolve, hcal, e1, Deferred.ofValue, Sem.run_bind, Sem.run_pure, Result.andThen_ok, invoke]
        rw [show ((c.args.map a.eval).toList ++ vs).toArray = c.args.map a.eval ++ vs.toArray from by apply Array.ext'; simp]
        simp
      · cases he
    · -- a built-in
      rename_i b hcal
      split at h
      · -- len
        rename_i x t ht
        obtain ⟨q, hq1, hq2⟩ := args_one hargs
        have hty : c.argTypes = #[t] := by apply Array.ext'; rw [ht]
        have hrel : VRel (ctx w φ H) (ev E x) (a.eval q) := opd_rel hs.env hq2
        split at h
        · rename_i hu
          obtain rfl := Option.some.inj h
          simp only [operV] at he
          split at he
          · rename_i n hn
            split at he
            · rename_i hst
              obtain ⟨rfl, rfl, rfl⟩ := some3 he
              obtain ⟨s, e1, _⟩ := isStr_string hrel hst
              exact does_len hop hcal hq1 hty (.inl ⟨hu, s, e1⟩) hq2 hs hd hn
            · cases he
          · cases he
        · rename_i el hu
          obtain rfl := Option.some.inj h
          simp only [operV] at he
          split at he
          · rename_i n hn
            split at he
            · rename_i hst
              obtain ⟨rfl, rfl, rfl⟩ := some3 he
              rcases len_rel hrel hn with ⟨s, e1, _⟩ | ⟨bb, cc, e1⟩
              · exfalso
                unfold lenV at hn
                split at hn
                · rename_i e2; rw [e2] at hrel; rw [e1] at hrel; cases hrel
                · rename_i e2; rw [e2] at hrel; rw [e1] at hrel; obtain ⟨_, _, _, e3, _⟩ := hrel; cases e3
                · rename_i e2; rw [e2] at hrel; rw [e1] at hrel; obtain ⟨_, _, e3, _⟩ := hrel; cases e3
                · rename_i e2; rw [e2] at hst; simp [AV.isStr] at hst
                · cases hn
              · exact does_len hop hcal hq1 hty (.inr ⟨el, hu, bb, _, cc, e1⟩) hq2 hs hd hn
            · cases he
          · cases he
        · cases h
      · -- append
        rename_i x y t u htu
        obtain ⟨q, q', hq1, hq2, hq3⟩ := args_two hargs
        have hty : c.argTypes = #[t, u] := by apply Array.ext'; rw [htu]
        split at h
        · rename_i e uu hel hu
          split at h
          · cases h
          · rename_i hni
            split at h
            · rename_i s z hsz hz
              obtain rfl := Option.some.inj h
              obtain ⟨i, zv, hA⟩ := appT_of hel hu (fun k hk => hni k hk) hsz hz
              have hrel : VRel (ctx w φ H) (ev E y) (a.eval q') := opd_rel hs.env hq3
              simp only [operV] at he
              split at he
              · rename_i new hnew
                split at he
                · rename_i hf
                  have hsrc := src_any (P := P) (sz := s) hs.sim hnew hrel hf hA.pos
                  refine does_append hop hcal hq1 hty hA hq2 hq3 hs hd hsrc hf ?_
                  split at he
                  · rename_i hx
                    split at he
                    · rename_i hn0
                      obtain ⟨rfl, rfl, rfl⟩ := some3 he
                      exact .inl ⟨hx, hn0, rfl, rfl⟩
                    · rename_i hn0
                      split at he
                      · rename_i hbig
                        obtain ⟨rfl, rfl, rfl⟩ := some3 he
                        exact .inr (.inl ⟨hx, hn0, hbig, .dy nx, trivial, rfl, rfl⟩)
                      · cases he
                  · rename_i id g n off len hx
                    split at he
                    · rename_i ob hob
                      split at he
                      · rename_i hc
                        obtain ⟨g1, g2, g3, g4, g5⟩ := hc
                        refine .inr (.inr ⟨id, g, n, off, len, ob, hx, hob, g1, g2, g3, g4, g5, ?_⟩)
                        split at he
                        · rename_i hn0
                          obtain ⟨rfl, rfl, rfl⟩ := some3 he
                          exact .inl ⟨hn0, rfl, rfl⟩
                        · rename_i hn0
                          split at he
                          · rename_i hle
                            obtain ⟨rfl, rfl, rfl⟩ := some3 he
                            exact .inr (.inl ⟨hn0, hle, rfl, rfl⟩)
                          · rename_i hle
                            split at he
                            · rename_i hbig
                              obtain ⟨rfl, rfl, rfl⟩ := some3 he
                              exact .inr (.inr ⟨hn0, by omega, hbig, rfl, rfl⟩)
                            · cases he
                      · cases he
                    · cases he
                  · cases he
                · cases he
              · cases he
            · cases h
        · cases h
      · -- copy
        rename_i x y t u htu
        obtain ⟨q, q', hq1, hq2, hq3⟩ := args_two hargs
        have hty : c.argTypes = #[t, u] := by apply Array.ext'; rw [htu]
        split at h
        · rename_i e hel
          split at h
          · rename_i s hsz
            obtain rfl := Option.some.inj h
            have hrel : VRel (ctx w φ H) (ev E y) (a.eval q') := opd_rel hs.env hq3
            obtain ⟨_, _, _, hpos, _⟩ := sizeT_info hsz
            simp only [operV] at he
            split at he
            · rename_i new id g n off len hnew hx
              split at he
              · rename_i ob hob
                split at he
                · rename_i hc
                  obtain ⟨g1, g2, g3, g4, g5, g6⟩ := hc
                  obtain ⟨rfl, rfl, rfl⟩ := some3 he
                  subst g6
                  have hsrc := src_any (P := P) (sz := ob.sz) hs.sim hnew hrel g5 hpos
                  exact does_copy hop hcal hq1 hty hel hsz hq2 hs hd hsrc g5 hx hob g1 g2 g3 g4 rfl
                · cases he
              · cases he
            · cases he
          · cases h
        · cases h
      · -- clear
        rename_i x t ht
        obtain ⟨q, hq1, hq2⟩ := args_one hargs
        have hty : c.argTypes = #[t] := by apply Array.ext'; rw [ht]
        split at h
        · rename_i e hel
          split at h
          · rename_i z hz
            obtain rfl := Option.some.inj h
            simp only [operV] at he
            split at he
            · rename_i id g n off len hx
              split at he
              · rename_i ob hob
                split at he
                · rename_i hc
                  obtain ⟨g1, g2, g3, g4, g5, g6⟩ := hc
                  obtain ⟨rfl, rfl, rfl⟩ := some3 he
                  exact does_clear hop hcal hq1 hty hel hz hq2 hs hd rfl (.inr ⟨id, g, n, off, len, ob, hx, hob, g1, g2, g3, g4, g5, g6, rfl⟩)
                · cases he
              · cases he
            · rename_i hx
              obtain ⟨rfl, rfl, rfl⟩ := some3 he
              exact does_clear hop hcal hq1 hty hel hz hq2 hs hd rfl (.inl ⟨hx, rfl⟩)
            · cases he
          · cases h
        · cases h
      · obtain rfl := Option.some.inj h
        simp only [operV] at he
        split at he
        · rename_i n hn
          obtain ⟨rfl, rfl, rfl⟩ := some3 he
          exact does_minmax (b := false) hop hcal hargs hs hd hn
        · cases he
      · obtain rfl := Option.some.inj h
        simp only [operV] at he
        split at he
        · rename_i n hn
          obtain ⟨rfl, rfl, rfl⟩ := some3 he
          exact does_minmax (b := true) hop hcal hargs hs hd hn
        · cases he
      · cases h
    · cases h
end
end Go.Am
