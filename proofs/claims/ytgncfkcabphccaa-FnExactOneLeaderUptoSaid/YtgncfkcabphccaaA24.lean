/- Operations whose order is left open: whichever comes first, the small machine ends alike. -/
import Derived.Test.YtgncfkcabphccaaA23
namespace Go.Am
set_option linter.unusedSimpArgs false
set_option linter.unusedVariables false

theorem or_bit {a b i : Nat} : (a ||| b).testBit i = (a.testBit i || b.testBit i) := Nat.testBit_or a b i

theorem ancMask_spec {acc : List Nat} {o : Oper} {i : Nat} (h : (ancMask acc o).testBit i = true) : ∃ e, e ∈ o.after ∧ Region.binds .any e = true ∧ (i = e.on ∨ (acc.getD e.on 0).testBit i = true) := by
  unfold ancMask at h
  have key : ∀ (l : List Edge) (s : Nat), (l.foldl (fun s e => if Region.binds .any e = true then s ||| (2 ^ e.on ||| acc.getD e.on 0) else s) s).testBit i = true →
      s.testBit i = true ∨ ∃ e, e ∈ l ∧ Region.binds .any e = true ∧ (i = e.on ∨ (acc.getD e.on 0).testBit i = true) := by
    intro l
    induction l with
    | nil => intro s h; exact .inl h
    | cons e r ih =>
      intro s h
      rw [List.foldl_cons] at h
      rcases ih _ h with h1 | ⟨e', h1, h2⟩
      · split at h1
        · rename_i hb
          rw [or_bit, or_bit] at h1
          simp only [Bool.or_eq_true] at h1
          rcases h1 with h1 | h1 | h1
          · exact .inl h1
          · refine .inr ⟨e, by simp, hb, .inl ?_⟩
            rw [Nat.testBit_two_pow] at h1
            exact (of_decide_eq_true h1).symm
          · exact .inr ⟨e, by simp, hb, .inr h1⟩
        · exact .inl h1
      · exact .inr ⟨e', by simp [h1], h2⟩
  rcases key _ _ h with h | ⟨e, h1, h2⟩
  · simp at h
  · exact ⟨e, by simpa using h1, h2⟩

theorem ancs_spec : ∀ (ops : List Oper) (acc : List Nat), (ancs acc ops).length = acc.length + ops.length ∧ (∀ j, j < acc.length → (ancs acc ops)[j]? = acc[j]?) ∧
    ∀ j o, ops[j]? = some o → ∃ acc', (∀ q, q < acc.length + j → acc'[q]? = (ancs acc ops)[q]?) ∧ acc'.length = acc.length + j ∧ (ancs acc ops)[acc.length + j]? = some (ancMask acc' o) := by
  intro ops
  induction ops with
  | nil => intro acc; exact ⟨by simp [ancs], fun j _ => rfl, fun j o h => (by simp at h)⟩
  | cons o r ih =>
    intro acc
    obtain ⟨h1, h2, h3⟩ := ih (acc ++ [ancMask acc o])
    simp only [ancs]
    refine ⟨by rw [h1]; simp; omega, fun j hj => ?_, fun j o' h => ?_⟩
    · rw [h2 j (by simp; omega), List.getElem?_append_left hj]
    · cases j with
      | zero =>
        have : o = o' := by simpa using h
        subst this
        refine ⟨acc, fun q hq => ?_, rfl, ?_⟩
        · rw [h2 q (by simp; omega), List.getElem?_append_left (by omega)]
        · rw [Nat.add_zero, h2 _ (by simp)]; simp
      | succ j =>
        obtain ⟨acc', k1, k2, k3⟩ := h3 j o' (by simpa using h)
        simp only [List.length_append, List.length_cons, List.length_nil] at k1 k2 k3
        refine ⟨acc', fun q hq => k1 q (by omega), by omega, ?_⟩
        rw [← k3]; congr 1; omega

theorem anc_step {ops : List Oper} {j i : Nat} {o : Oper} (ho : ops[j]? = some o) (h : ((ancs [] ops).getD j 0).testBit i = true) :
    ∃ e, e ∈ o.after ∧ Region.binds .any e = true ∧ (i = e.on ∨ (e.on < j ∧ ((ancs [] ops).getD e.on 0).testBit i = true)) := by
  obtain ⟨acc', k1, k2, k3⟩ := (ancs_spec ops []).2.2 j o ho
  simp only [List.length_nil, Nat.zero_add] at k1 k2 k3
  rw [List.getD_eq_getElem?_getD, k3] at h
  obtain ⟨e, h1, h2, h3⟩ := ancMask_spec h
  refine ⟨e, h1, h2, h3.imp id fun h3 => ?_⟩
  by_cases hlt : e.on < j
  · refine ⟨hlt, ?_⟩
    rw [List.getD_eq_getElem?_getD, ← k1 _ hlt, ← List.getD_eq_getElem?_getD]; exact h3
  · rw [List.getD_eq_getElem?_getD, List.getElem?_eq_none (by omega)] at h3
    simp at h3

def Closed (ops : Array Oper) (listed : Array Bool) : Prop := ∀ j o, ops[j]? = some o → listed.getD j false = true → ∀ e ∈ o.after, Region.binds .any e = true → listed.getD e.on false = true

theorem anc_listed {ops : Array Oper} {listed : Array Bool} (hc : Closed ops listed) : ∀ (n j : Nat), j < n → ∀ o i, ops[j]? = some o → (∀ e ∈ o.after, Region.binds .any e = true → listed.getD e.on false = true) →
    ((ancs [] ops.toList).getD j 0).testBit i = true → listed.getD i false = true := by
  intro n
  induction n with
  | zero => intro j h; omega
  | succ n ih =>
    intro j hj o i ho hd hb
    obtain ⟨e, h1, h2, h3⟩ := anc_step (by rw [Array.getElem?_toList]; exact ho) hb
    have h4 := hd e h1 h2
    rcases h3 with rfl | ⟨h3, h5⟩
    · exact h4
    · have hlt : e.on < ops.size := by
        have : j < ops.size := (Array.getElem?_eq_some_iff.1 ho).1
        omega
      exact ih e.on (by omega) ops[e.on] i (by simp [hlt]) (hc e.on _ (by simp [hlt]) h4) h5

theorem Closed.set {ops : Array Oper} {listed : Array Bool} {i : Nat} (hc : Closed ops listed) (hr : i ∈ Region.ready .any ops listed) : Closed ops (listed.setIfInBounds i true) := by
  obtain ⟨_, oi, hoi, hall⟩ := mem_ready.1 hr
  intro j o hj hl e he hb
  by_cases hij : i = j
  · subst hij
    have : o = oi := Option.some.inj (hj.symm.trans hoi)
    subst this
    exact getD_set_true (hall e he hb)
  · rw [getD_set_ne false hij] at hl
    exact getD_set_true (hc j o hj hl e he hb)

section
variable (T : Tab) (R : Run) (d : Nat) (ops : Array Oper) (l : List AOper) (F : Nat → Foot)

/-- Whichever order: the same end. -/
def AnyRun : Nat → Array Bool → St → St → Prop
  | 0, listed, s, sf => Region.ready .any ops listed = [] ∧ s = sf
  | n + 1, listed, s, sf => (Region.ready .any ops listed = [] → s = sf) ∧ ∀ i ∈ Region.ready .any ops listed, ∃ o s', l[i]? = some o ∧ footO T d o s = F i ∧ operF T R d o s = some s' ∧ AnyRun n (listed.setIfInBounds i true) s' sf

/-- In the text's order. -/
def LexRun : List AOper → St → List Foot → St → Prop
  | [], s, fs, sf => fs = [] ∧ s = sf
  | o :: r, s, fs, sf => ∃ s' fs', operF T R d o s = some s' ∧ fs = footO T d o s :: fs' ∧ LexRun r s' fs' sf
end

section
variable {T : Tab} {R : Run} {d : Nat} {ops : Array Oper} {l : List AOper} {F : Nat → Foot}

theorem any_first {i : Nat} {x : AOper} (hx : l[i]? = some x) : ∀ (n : Nat) (listed : Array Bool) (s s1 sf : St), Closed ops listed →
    (∀ j y, l[j]? = some y → j ≠ i → listed.getD j true = false → ((ancs [] ops.toList).getD j 0).testBit i = false → apartA x y = true ∧ Indep2 (F i) (F j)) →
    i ∈ Region.ready .any ops listed → footO T d x s = F i → operF T R d x s = some s1 → AnyRun T R d ops l F n (listed.setIfInBounds i true) s1 sf → AnyRun T R d ops l F (n + 1) listed s sf := by
  intro n
  induction n with
  | zero =>
    intro listed s s1 sf hc hfree hr hf hy H
    refine ⟨fun h => (by rw [h] at hr; cases hr), fun j hj => ?_⟩
    by_cases hji : j = i
    · subst hji; exact ⟨x, s1, hx, hf, hy, H⟩
    · have := ready_mono hj hji
      rw [H.1] at this
      cases this
  | succ n ih =>
    intro listed s s1 sf hc hfree hr hf hy H
    refine ⟨fun h => (by rw [h] at hr; cases hr), fun j hj => ?_⟩
    by_cases hji : j = i
    · subst hji; exact ⟨x, s1, hx, hf, hy, H⟩
    · obtain ⟨y, s2, hy1, hy2, hy3, hy4⟩ := H.2 j (ready_mono hj hji)
      obtain ⟨hjun, oj, hoj, hall⟩ := mem_ready.1 hj
      have hiun := (mem_ready.1 hr).1
      have hnb : ((ancs [] ops.toList).getD j 0).testBit i = false := by
        cases hb : ((ancs [] ops.toList).getD j 0).testBit i with
        | false => rfl
        | true =>
          have h1 := anc_listed hc (j + 1) j (by omega) oj i hoj hall hb
          rcases Nat.lt_or_ge i listed.size with h' | h'
          · simp [h'] at hiun h1; rw [hiun] at h1; cases h1
          · simp [Array.getElem?_eq_none h'] at h1
      obtain ⟨hap, hin⟩ := hfree j y hy1 hji hjun hnb
      obtain ⟨s3, g1, g2, g3, g4⟩ := swap hap hy hy3 (by rw [hf, hy2]; exact hin)
      refine ⟨y, s3, hy1, by rw [g3, hy2], g1, ?_⟩
      refine ih (listed.setIfInBounds j true) s3 s2 sf (hc.set hj) ?_ (ready_mono hr (Ne.symm hji)) (by rw [g4, hf]) g2 ?_
      · intro k z hz hki hun hb
        refine hfree k z hz hki ?_ hb
        by_cases hjk : j = k
        · subst hjk; exact hjun
        · rw [getD_set_ne true hjk] at hun; exact hun
      · rw [Array.setIfInBounds_comm _ _ hji]
        exact hy4

theorem backB_spec : ∀ (ops : List Oper) (k : Nat), backB k ops = true → ∀ j o, ops[j]? = some o → ∀ e ∈ o.after, Region.binds .any e = true → e.on < k + j := by
  intro ops
  induction ops with
  | nil => intro k _ j o h; simp at h
  | cons o r ih =>
    intro k h j o' hj e he hb
    simp only [backB, Bool.and_eq_true, List.all_eq_true, Bool.or_eq_true, Bool.not_eq_true', decide_eq_true_eq] at h
    cases j with
    | zero =>
      have : o = o' := by simpa using hj
      subst this
      rcases h.1 e (by simpa using he) with h1 | h1
      · rw [h1] at hb; cases hb
      · exact h1
    | succ j =>
      have := ih (k + 1) h.2 j o' (by simpa using hj) e he hb
      omega

/-- All that come before k are listed, and no other. -/
def Upto (ops : Array Oper) (k : Nat) (listed : Array Bool) : Prop := listed.size = ops.size ∧ ∀ j, j < ops.size → listed[j]? = some (decide (j < k))

theorem Upto.closed {k : Nat} {listed : Array Bool} (h : Upto ops k listed) (hb : backB 0 ops.toList = true) : Closed ops listed := by
  intro j o ho hl e he hbi
  have hj : j < ops.size := (Array.getElem?_eq_some_iff.1 ho).1
  have h1 := backB_spec _ 0 hb j o (by rw [Array.getElem?_toList]; exact ho) e he hbi
  have h2 : e.on < ops.size := by omega
  rw [Array.getD_eq_getD_getElem?, h.2 j hj] at hl
  rw [Array.getD_eq_getD_getElem?, h.2 _ h2]
  simp only [Option.getD_some, decide_eq_true_eq] at hl ⊢
  omega

theorem any_lex (hb : backB 0 ops.toList = true) (hlen : l.length = ops.size)
    (hp : ∀ i j x y, i < j → l[i]? = some x → l[j]? = some y → ((ancs [] ops.toList).getD j 0).testBit i = false → apartA x y = true ∧ Indep2 (F i) (F j)) :
    ∀ (r : List AOper) (k : Nat) (listed : Array Bool) (s sf : St) (fs : List Foot), (∀ j, r[j]? = l[k + j]?) → Upto ops k listed → LexRun T R d r s fs sf → (∀ j f, fs[j]? = some f → F (k + j) = f) →
      k + r.length = ops.size → AnyRun T R d ops l F r.length listed s sf := by
  intro r
  induction r with
  | nil =>
    intro k listed s sf fs hr hu hL hF hk
    refine ⟨?_, hL.2⟩
    cases hrd : Region.ready .any ops listed with
    | nil => rfl
    | cons i q =>
      exfalso
      have hi : i ∈ Region.ready .any ops listed := by rw [hrd]; simp
      obtain ⟨h1, o, ho, _⟩ := mem_ready.1 hi
      have hlt : i < ops.size := (Array.getElem?_eq_some_iff.1 ho).1
      rw [Array.getD_eq_getD_getElem?, hu.2 i hlt] at h1
      simp at h1 hk
      omega
  | cons o r ih =>
    intro k listed s sf fs hr hu hL hF hk
    obtain ⟨s', fs', h1, rfl, h3⟩ := hL
    have hkl : k < ops.size := by simp at hk; omega
    have hlk : l[k]? = some o := by simpa using (hr 0).symm
    have hrd : k ∈ Region.ready .any ops listed := by
      refine mem_ready.2 ⟨?_, ops[k], by simp [hkl], fun e he hbi => ?_⟩
      · rw [Array.getD_eq_getD_getElem?, hu.2 k hkl]; simp
      · have h4 := backB_spec _ 0 hb k ops[k] (by rw [Array.getElem?_toList]; simp [hkl]) e he hbi
        rw [Array.getD_eq_getD_getElem?, hu.2 _ (by omega)]
        simp only [Option.getD_some, decide_eq_true_eq]; omega
    refine any_first hlk r.length listed s s' sf (hu.closed hb) ?_ hrd (hF 0 _ rfl).symm h1 ?_
    · intro j y hy hjk hun hnb
      have hjl : j < ops.size := by
        have := (List.getElem?_eq_some_iff.1 hy).1
        omega
      rw [Array.getD_eq_getD_getElem?, hu.2 j hjl] at hun
      simp only [Option.getD_some, decide_eq_false_iff_not] at hun
      exact hp k j o y (by omega) hlk hy hnb
    · refine ih (k + 1) _ s' sf fs' (fun j => ?_) ⟨by simp [hu.1], fun j hj => ?_⟩ h3 (fun j f hf => ?_) (by simp at hk; omega)
      · have := hr (j + 1)
        rw [List.getElem?_cons_succ] at this
        rw [this]; congr 1; omega
      · by_cases hjk : k = j
        · subst hjk
          rw [Array.getElem?_setIfInBounds_self_of_lt (by rw [hu.1]; exact hj)]
          simp
        · rw [Array.getElem?_setIfInBounds_ne hjk, hu.2 j hj]
          congr 1
          exact decide_eq_decide.2 (by omega)
      · have := hF (j + 1) f (by simpa using hf)
        rw [← this]; congr 1; omega

theorem kind0_foot {o : AOper} {s : St} (h : kindA o.op = 0) : footO T d o s = F0 := by
  unfold footO
  split
  · cases ho : o.op <;> rw [ho] at h <;> first | rfl | (exfalso; simp [kindA] at h)
  · rfl

theorem kind1_foot {o : AOper} {s : St} (h : kindA o.op = 1) : ∃ r, footO T d o s = ⟨r, [], [], false, false, false⟩ := by
  unfold footO
  split
  · cases ho : o.op <;> rw [ho] at h <;> first | exact ⟨_, rfl⟩ | (exfalso; simp [kindA] at h)
  · exact ⟨[], rfl⟩

theorem kind_le (k : AOp) : kindA k = 0 ∨ kindA k = 1 ∨ kindA k = 2 := by
  cases k <;> simp [kindA]

theorem not_meet {x y : AOper} {s s' : St} (h : mayMeet x y = false) : Indep2 (footO T d x s) (footO T d y s') := by
  rcases kind_le x.op with hx | hx | hx
  · exact .inl (kind0_foot hx)
  · rcases kind_le y.op with hy | hy | hy
    · exact .inr (.inl (kind0_foot hy))
    · obtain ⟨r, h1⟩ := kind1_foot (T := T) (d := d) (s := s) hx
      obtain ⟨q, h2⟩ := kind1_foot (T := T) (d := d) (s := s') hy
      rw [h1, h2]
      exact .inr (.inr ⟨rfl, rfl, fun e => (by cases e), fun e => (by cases e), fun _ h => (by cases h), fun _ h => (by cases h), fun _ h => (by cases h), fun _ h => (by cases h), fun _ h => (by cases h), fun _ h => (by cases h), fun e => (by cases e)⟩)
    · unfold mayMeet at h; rw [hx, hy] at h; simp at h
  · rcases kind_le y.op with hy | hy | hy
    · exact .inr (.inl (kind0_foot hy))
    · unfold mayMeet at h; rw [hx, hy] at h; simp at h
    · unfold mayMeet at h; rw [hx, hy] at h; simp at h

theorem LexRun.feet : ∀ {r : List AOper} {s sf : St} {fs : List Foot}, LexRun T R d r s fs sf → fs.length = r.length ∧ ∀ (j : Nat) (o : AOper), r[j]? = some o → ∃ s', fs[j]? = some (footO T d o s') := by
  intro r
  induction r with
  | nil => intro s sf fs h; exact ⟨by rw [h.1]; rfl, fun j o hj => (by simp at hj)⟩
  | cons o r ih =>
    intro s sf fs h
    obtain ⟨s', fs', h1, rfl, h3⟩ := h
    obtain ⟨k1, k2⟩ := ih h3
    refine ⟨by simp [k1], fun j o' hj => ?_⟩
    cases j with
    | zero => simp at hj; subst hj; exact ⟨s, rfl⟩
    | succ j => exact k2 j o' (by simpa using hj)

theorem mem_prs {m : List Nat} {i j : Nat} {x y : AOper} (hij : i < j) (hx : l[i]? = some x) (hy : l[j]? = some y) (hb : (m.getD j 0).testBit i = false) (hm : mayMeet x y = true) : (i, j) ∈ prsOf m l := by
  unfold prsOf
  rw [List.mem_flatMap]
  refine ⟨j, List.mem_range.2 (List.getElem?_eq_some_iff.1 hy).1, ?_⟩
  rw [List.mem_filterMap]
  refine ⟨i, List.mem_range.2 hij, ?_⟩
  rw [hb, hx, hy]
  simp [hm]

/-- A region's operations, in whichever order. -/
theorem any_region {s sf : St} {fs : List Foot} (hb : backB 0 ops.toList = true) (hlen : l.length = ops.size) (hap : apartB (ancs [] ops.toList) l = true) (hL : LexRun T R d l s fs sf) (hp : okPrs fs (prsOf (ancs [] ops.toList) l) = true) :
    ∃ F, AnyRun T R d ops l F ops.size (Array.replicate ops.size false) s sf := by
  obtain ⟨h1, h2⟩ := hL.feet
  refine ⟨fun j => fs.getD j F0, ?_⟩
  rw [← hlen]
  refine any_lex hb hlen ?_ l 0 (Array.replicate l.length false) s sf fs (fun j => by rw [Nat.zero_add]) ⟨by simp [hlen], fun j hj => by rw [hlen]; simp [hj]⟩ hL (fun j f hf => by rw [Nat.zero_add, List.getD_eq_getElem?_getD, hf]; rfl) (by rw [Nat.zero_add, hlen])
  intro i j x y hij hx hy hnb
  constructor
  · unfold apartB at hap
    rw [List.all_eq_true] at hap
    have h3 := hap j (List.mem_range.2 (List.getElem?_eq_some_iff.1 hy).1)
    rw [List.all_eq_true] at h3
    have h4 := h3 i (List.mem_range.2 hij)
    rw [hnb, hx, hy] at h4
    simpa using h4
  · obtain ⟨sx, ex⟩ := h2 i x hx
    obtain ⟨sy, ey⟩ := h2 j y hy
    simp only [List.getD_eq_getElem?_getD, ex, ey, Option.getD_some]
    cases hm : mayMeet x y with
    | false => exact not_meet hm
    | true =>
      have h3 := mem_prs hij hx hy hnb hm
      unfold okPrs at hp
      rw [List.all_eq_true] at hp
      have h4 := hp _ h3
      simp only [ex, ey] at h4
      exact .inr (.inr (indep_spec h4))
end
end Go.Am
