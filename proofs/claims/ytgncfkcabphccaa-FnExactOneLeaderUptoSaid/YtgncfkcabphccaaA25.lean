/- A region of Go's code against one of the small machine. -/
import Derived.Test.YtgncfkcabphccaaA21
import Derived.Test.YtgncfkcabphccaaA24
namespace Go.Am
set_option linter.unusedSimpArgs false
set_option linter.unusedVariables false
variable {P : Program}

section
variable {ops : Array Oper} {nt : Nat} {T : Tab} {R : Run} {d : Nat}

theorem wanted_rel {o : Oper} {g : Option (Nat × Bool)} {b : Bool} {X : Ctx} {E : AEnv} {tmps : Array Value} (hg : guardOf ops o.guard = some g) (he : EnvRel X E tmps) (hw : wantedA E g = some b) :
    Region.wanted o (yielded ops tmps) = b := by
  unfold guardOf at hg
  unfold Region.wanted
  split at hg
  · rename_i e
    obtain rfl := Option.some.inj hg
    rw [e]
    simp only [wantedA] at hw
    exact Option.some.inj hw
  · rename_i j want e
    rw [e]
    simp only
    split at hg
    · rename_i oj hoj
      split at hg
      · rename_i t ht
        obtain rfl := Option.some.inj hg
        simp only [wantedA] at hw
        have h1 := he t
        have hy : yielded ops tmps j = (match tmps[t]? with | some (.bool b) => some b | _ => none) := by
          unfold yielded; rw [hoj]; simp only [Option.bind_some, ht]; rfl
        rw [hy]
        split at hw
        · rename_i x hx
          obtain rfl := Option.some.inj hw
          rw [hx] at h1
          have h2 : tmps.getD t undef = .bool x := h1.1
          rw [Array.getD_eq_getD_getElem?] at h2
          cases ht2 : tmps[t]? with
          | none => rw [ht2] at h2; cases h2
          | some v =>
            rw [ht2] at h2
            simp only [Option.getD_some] at h2
            subst h2
            cases x <;> cases want <;> rfl
        · rename_i hx
          obtain rfl := Option.some.inj hw
          rw [hx] at h1
          obtain ⟨vs, h2, h3⟩ := h1
          have h4 : vs = [] := by cases vs with | nil => rfl | cons => exact h3.elim
          subst h4
          rw [Array.getD_eq_getD_getElem?] at h2
          cases ht2 : tmps[t]? with
          | none => rfl
          | some v =>
            rw [ht2] at h2
            simp only [Option.getD_some] at h2
            subst h2
            rfl
        · cases hw
      · cases hg
    · cases hg

theorem operOf_spec {o : Oper} {ao : AOper} (h : operOf P ops o = some ao) : guardOf ops o.guard = some ao.guard ∧ opOf P o = some ao.op ∧ ao.dst = o.dst := by
  unfold operOf at h
  split at h
  · rename_i g k hg hk
    obtain rfl := Option.some.inj h
    exact ⟨hg, hk, rfl⟩
  · cases h

theorem put_undef {o : Option Nat} {w : World} {φ : Id → Option Addr} {s : St} {a : Act} (hs : SR nt w φ s a) (hd : ∀ d, o = some d → d < nt) : SR nt w φ ⟨updO s.E o (.tup []), s.H, s.nx⟩ (a.put o undef) :=
  ⟨hs.sim, hs.env.put (fun _ => ⟨[], rfl, trivial⟩) (fun d h => by rw [hs.size]; exact hd d h), by rw [put_size]; exact hs.size⟩

/-- One operation of a region. -/
theorem sound_wpOp {i : Nat} {o : Oper} {ao : AOper} {s s' : St} {w : World} {φ : Id → Option Addr} {a : Act} (hi : ops[i]? = some o) (hop : operOf P ops o = some ao) (hs : SR nt w φ s a) (hd : ∀ d, ao.dst = some d → d < nt)
    (he : operF T R d ao s = some s') (hok : CallOK P T R) {K : Act → World → Prop} {Q : Exit → Act → World → Prop}
    (hK : ∀ a' w' φ', SR nt w' φ' s' a' → Ext w φ s.H w' φ' s'.H → a'.defers = a.defers → K a' w') : wpOp P ops Q i K a w := by
  obtain ⟨h1, h2, h3⟩ := operOf_spec hop
  rw [h3] at hd
  unfold wpOp
  simp only [hi]
  unfold operF at he
  split at he
  · rename_i hw
    rw [wanted_rel h1 hs.env hw, if_pos rfl]
    split at he
    · rename_i v H' nx' hv
      obtain rfl := Option.some.inj he
      rw [h3] at hv hK
      exact .inl (sound_op h2 hs hd hv hok K Q hK)
    · cases he
  · rename_i hw
    rw [wanted_rel h1 hs.env hw, if_neg (by simp)]
    obtain rfl := Option.some.inj he
    rw [h3] at hK
    exact hK _ _ φ (put_undef hs hd) (Ext.refl _ _ _) (put_defers' _ _ _)
  · cases he

theorem seq_sound {l : List AOper} (hl : mapMO (operOf P ops) ops.toList = some l) (hd : ∀ o ∈ l, ∀ d, o.dst = some d → d < nt) (hok : CallOK P T R) {Q : Exit → Act → World → Prop} : ∀ (r : List AOper) (k : Nat) (s sf : St) (fs : List Foot) (w : World) (φ : Id → Option Addr) (a : Act),
    (∀ j : Nat, r[j]? = l[k + j]?) → LexRun T R d r s fs sf → SR nt w φ s a → (∀ a' w' φ', SR nt w' φ' sf a' → Ext w φ s.H w' φ' sf.H → a'.defers = a.defers → Q .normal a' w') →
    wpOps P ops Q (List.range' k r.length) a w := by
  obtain ⟨hlen, hget⟩ := mapMO_get hl
  intro r
  induction r with
  | nil =>
    intro k s sf fs w φ a _ hL hs hQ
    obtain rfl := hL.2
    exact hQ a w φ hs (Ext.refl _ _ _) rfl
  | cons ao r ih =>
    intro k s sf fs w φ a hr hL hs hQ
    obtain ⟨s', fs', h1, _, h3⟩ := hL
    have hlk : l[k]? = some ao := by simpa using (hr 0).symm
    have hk : k < ops.size := by
      have := (List.getElem?_eq_some_iff.1 hlk).1
      rw [hlen] at this; simpa using this
    have hok' : ops[k]? = some ops[k] := by simp [hk]
    obtain ⟨ao', g1, g2⟩ := hget k ops[k] (by rw [Array.getElem?_toList]; exact hok')
    rw [hlk] at g2
    obtain rfl := Option.some.inj g2
    rw [List.length_cons, List.range'_succ, wpOps_cons]
    refine sound_wpOp hok' g1 hs (hd ao (List.mem_of_getElem? hlk)) h1 hok ?_
    intro a' w' φ' hs' hext hdef
    refine ih (k + 1) s' sf fs' w' φ' a' (fun j => ?_) h3 hs' ?_
    · have := hr (j + 1)
      rw [List.getElem?_cons_succ] at this
      rw [this]; congr 1; omega
    · intro a'' w'' φ'' hs'' hext' hdef'
      exact hQ a'' w'' φ'' hs'' (hext.trans hext') (hdef'.trans hdef)

theorem any_sound {l : List AOper} (hl : mapMO (operOf P ops) ops.toList = some l) (hd : ∀ o ∈ l, ∀ d, o.dst = some d → d < nt) (hok : CallOK P T R) {F : Nat → Foot} {Q : Exit → Act → World → Prop} : ∀ (n : Nat) (listed : Array Bool) (s sf : St) (w : World) (φ : Id → Option Addr) (a : Act),
    AnyRun T R d ops l F n listed s sf → SR nt w φ s a → (∀ a' w' φ', SR nt w' φ' sf a' → Ext w φ s.H w' φ' sf.H → a'.defers = a.defers → Q .normal a' w') →
    wpAny P .any ops Q n listed a w := by
  obtain ⟨hlen, hget⟩ := mapMO_get hl
  intro n
  induction n with
  | zero =>
    intro listed s sf w φ a hA hs hQ
    obtain ⟨h1, rfl⟩ := hA
    exact ⟨h1, hQ a w φ hs (Ext.refl _ _ _) rfl⟩
  | succ n ih =>
    intro listed s sf w φ a hA hs hQ
    refine ⟨fun h0 => ?_, fun i hi => ?_⟩
    · obtain rfl := hA.1 h0
      exact hQ a w φ hs (Ext.refl _ _ _) rfl
    · obtain ⟨ao, s', h1, _, h3, h4⟩ := hA.2 i hi
      obtain ⟨_, o, ho, _⟩ := mem_ready.1 hi
      obtain ⟨ao', g1, g2⟩ := hget i o (by rw [Array.getElem?_toList]; exact ho)
      rw [h1] at g2
      obtain rfl := Option.some.inj g2
      refine sound_wpOp ho g1 hs (hd ao (List.mem_of_getElem? h1)) h3 hok ?_
      intro a' w' φ' hs' hext hdef
      refine ih _ s' sf w' φ' a' h4 hs' ?_
      intro a'' w'' φ'' hs'' hext' hdef'
      exact hQ a'' w'' φ'' hs'' (hext.trans hext') (hdef'.trans hdef)

/-- A draw changes nothing that is looked at. -/
theorem sr_drawn {s : St} {w : World} {φ : Id → Option Addr} {a : Act} {n : Nat} (hs : SR nt w φ s a) : SR nt { w with drawn := n } φ s a :=
  ⟨⟨hs.sim.pl, fun p c hp => (let ⟨b, h1, h2⟩ := hs.sim.obj p c hp; ⟨b, h1, h2.spot, h2.lt, h2.pos, h2.el, h2.fr⟩), hs.sim.sep, hs.sim.re, hs.sim.sx⟩, hs.env, hs.size⟩
theorem ext_drawn {w w' : World} {φ φ' : Id → Option Addr} {H H' : Heap} {n : Nat} (h : Ext { w with drawn := n } φ H w' φ' H') : Ext w φ H w' φ' H' :=
  ⟨h.os, h.tape, h.output, h.size, h.fr, h.mu, h.bs, h.ob, h.ex, h.exh⟩

/-- What the small machine's region is, of a region. -/
def RegOf (P : Program) (ops : Array Oper) (draw : Bool) (c : AC) : Prop := ∃ l, mapMO (operOf P ops) ops.toList = some l ∧
  ((draw = false ∧ c = .ops l) ∨ (draw = true ∧ drawOf ops.toList l = some c))

/-- What a region's text in the small machine tells: its operations in the text's order, and that they may change places. -/
def RegRun (T : Tab) (R : Run) (d : Nat) (c : AC) (s sf : St) : Prop :=
  (∃ l fs, c = .ops l ∧ LexRun T R d l s fs sf) ∨ (∃ l fs prs, c = .opsU [] l prs ∧ LexRun T R d l s fs sf ∧ okPrs fs prs = true)

theorem region_sound {id : Nat} {draw : Bool} {c : AC} {s sf : St} {w : World} {φ : Id → Option Addr} {a : Act} (hm : P.follows .mixedOrders = true) (hc : RegOf P ops draw c) (hd : okD nt c = true) (hr : RegRun T R d c s sf) (hok : CallOK P T R) (hs : SR nt w φ s a)
    {Q : Exit → Act → World → Prop} (hQ : ∀ a' w' φ', SR nt w' φ' sf a' → Ext w φ s.H w' φ' sf.H → a'.defers = a.defers → Q .normal a' w') : (Code.region id ops draw).wp P Q a w := by
  obtain ⟨l, hl, hc⟩ := hc
  obtain ⟨hlen, _⟩ := mapMO_get hl
  have hlen' : l.length = ops.size := by simpa using hlen
  have hdst : ∀ l' : List AOper, okD nt (.ops l') = true → ∀ o ∈ l', ∀ d, o.dst = some d → d < nt := by
    intro l' h o ho d hd
    simp only [okD] at h
    rw [List.all_eq_true] at h
    have := h o ho
    rw [hd] at this
    simpa using this
  rcases hc with ⟨rfl, rfl⟩ | ⟨rfl, hc⟩
  · rcases hr with ⟨l', fs, e, hL⟩ | ⟨l', fs, prs, e, _⟩
    · cases e
      refine wp_region ?_
      rw [List.range_eq_range', ← hlen']
      exact seq_sound hl (hdst l hd) hok l 0 s sf fs w φ a (fun j => by rw [Nat.zero_add]) hL hs hQ
    · cases e
  · unfold drawOf at hc
    split at hc
    · rename_i hb
      have hc := Option.some.inj hc
      have key : ∃ fs, LexRun T R d l s fs sf ∧ okPrs fs (prsOf (ancs [] ops.toList) l) = true ∧ okD nt (.ops l) = true := by
        cases hp : prsOf (ancs [] ops.toList) l with
        | nil =>
          rw [hp] at hc
          simp only at hc
          subst hc
          rcases hr with ⟨l', fs, e, hL⟩ | ⟨l', fs, prs, e, _⟩
          · cases e; exact ⟨fs, hL, rfl, hd⟩
          · cases e
        | cons p q =>
          rw [hp] at hc
          simp only at hc
          subst hc
          rcases hr with ⟨l', fs, e, hL⟩ | ⟨l', fs, prs, e, hL, h⟩
          · cases e
          · cases e; exact ⟨fs, hL, h, by simp only [okD] at hd ⊢; exact hd⟩
      obtain ⟨fs, hL, hp, hdd⟩ := key
      obtain ⟨F, hA⟩ := any_region hb.1 hlen' hb.2 hL hp
      refine wp_region_any hm ?_
      refine any_sound hl (hdst l hdd) hok ops.size _ s sf _ φ a hA (sr_drawn hs) ?_
      intro a' w' φ' h1 h2 h3
      exact hQ a' w' φ' h1 (ext_drawn h2) h3
    · cases hc
end
end Go.Am
