/- The small machine against Go's: whole runs. -/
import Derived.Test.YtgncfkcabphccaaA27
namespace Go.Am
set_option linter.unusedSimpArgs false
set_option linter.unusedVariables false
variable {P : Program}

/-- What is still to be run, in both. -/
def KRel (P : Program) (nt : Nat) : List It → List Item → Prop
  | [], [] => True
  | .code c :: K, .code c' :: k => codeOf P c' = some c ∧ okD nt c = true ∧ KRel P nt K k
  | .blk i :: K, .inBlock j :: k => i = j ∧ KRel P nt K k
  | .lp c :: K, .inLoop c' :: k => codeOf P c' = some c ∧ okD nt c = true ∧ KRel P nt K k
  | _, _ => False

theorem unwind_rel {nt : Nat} {i : Nat} : ∀ {K : List It} {k : List Item} {K' : List It}, KRel P nt K k → unwind i K = some K' → ∃ k', exitTo i k = some k' ∧ KRel P nt K' k'
  | [], _, _, _, h => by simp [unwind] at h
  | .code c :: K, [], _, h, _ => h.elim
  | .code c :: K, .code c' :: k, _, h, hu => by
    simp only [unwind] at hu
    obtain ⟨k', h1, h2⟩ := unwind_rel h.2.2 hu
    exact ⟨k', by simp only [exitTo]; exact h1, h2⟩
  | .blk j :: K, .inBlock j' :: k, K', h, hu => by
    obtain ⟨rfl, h2⟩ := h
    simp only [unwind] at hu
    split at hu
    · rename_i e
      obtain rfl := Option.some.inj hu
      exact ⟨k, by simp [exitTo, e], h2⟩
    · rename_i e
      obtain ⟨k', h3, h4⟩ := unwind_rel h2 hu
      exact ⟨k', by simp only [exitTo]; rw [if_neg (by simpa using e)]; exact h3, h4⟩
  | .lp c :: K, .inLoop c' :: k, _, h, hu => by
    simp only [unwind] at hu
    obtain ⟨k', h1, h2⟩ := unwind_rel h.2.2 hu
    exact ⟨k', by simp only [exitTo]; exact h1, h2⟩

theorem LexRun.mono {T : Tab} {R R' : Run} (h : LeR R R') {d : Nat} : ∀ {l : List AOper} {s sf : St} {fs : List Foot}, LexRun T R d l s fs sf → LexRun T R' d l s fs sf
  | [], _, _, _, e => e
  | _ :: _, _, _, _, ⟨s', fs', h1, h2, h3⟩ => ⟨s', fs', operF_mono h h1, h2, LexRun.mono h h3⟩

section
variable {T : Tab} {d : Nat} {K : List It} {r : St}

theorem ops_split : ∀ (l : List AOper) (n : Nat) (s : St), runF T n d (.code (.ops l) :: K) s = some r → ∃ m s' fs, m < n ∧ LexRun T (runF T (n - 1)) d l s fs s' ∧ runF T m d K s' = some r := by
  intro l
  induction l with
  | nil =>
    intro n s h
    cases n with
    | zero => simp [runF] at h
    | succ n =>
      simp only [runF] at h
      exact ⟨n, s, [], by omega, ⟨rfl, rfl⟩, h⟩
  | cons o l ih =>
    intro n s h
    cases n with
    | zero => simp [runF] at h
    | succ n =>
      simp only [runF] at h
      split at h
      · rename_i s1 h1
        obtain ⟨m, s', fs, g1, g2, g3⟩ := ih n s1 h
        exact ⟨m, s', _ :: fs, by omega, ⟨s1, fs, h1, rfl, g2.mono (runF_le T (by omega))⟩, g3⟩
      · cases h

theorem opsU_split : ∀ (l : List AOper) (n : Nat) (s : St) (f0 : List Foot) (prs : List (Nat × Nat)), runF T n d (.code (.opsU f0 l prs) :: K) s = some r →
    ∃ m s' fs, m < n ∧ LexRun T (runF T (n - 1)) d l s fs s' ∧ okPrs (f0 ++ fs) prs = true ∧ runF T m d K s' = some r := by
  intro l
  induction l with
  | nil =>
    intro n s f0 prs h
    cases n with
    | zero => simp [runF] at h
    | succ n =>
      simp only [runF] at h
      split at h
      · rename_i hp
        exact ⟨n, s, [], by omega, ⟨rfl, rfl⟩, by rw [List.append_nil]; exact hp, h⟩
      · cases h
  | cons o l ih =>
    intro n s f0 prs h
    cases n with
    | zero => simp [runF] at h
    | succ n =>
      simp only [runF] at h
      split at h
      · rename_i s1 h1
        obtain ⟨m, s', fs, g1, g2, g3, g4⟩ := ih n s1 _ prs h
        exact ⟨m, s', _ :: fs, by omega, ⟨s1, fs, h1, rfl, g2.mono (runF_le T (by omega))⟩, by rw [List.append_assoc] at g3; exact g3, g4⟩
      · cases h

/-- A region's run, cut off from what follows. -/
theorem reg_split {c : AC} {n : Nat} {s : St} (hc : (∃ l, c = .ops l) ∨ ∃ l prs, c = .opsU [] l prs) (h : runF T n d (.code c :: K) s = some r) : ∃ m s', m < n ∧ RegRun T (runF T (n - 1)) d c s s' ∧ runF T m d K s' = some r := by
  rcases hc with ⟨l, rfl⟩ | ⟨l, prs, rfl⟩
  · obtain ⟨m, s', fs, h1, h2, h3⟩ := ops_split l n s h
    exact ⟨m, s', h1, .inl ⟨l, fs, rfl, h2⟩, h3⟩
  · obtain ⟨m, s', fs, h1, h2, h3, h4⟩ := opsU_split l n s [] prs h
    exact ⟨m, s', h1, .inr ⟨l, fs, prs, rfl, h2, h3⟩, h4⟩
end

theorem drawOf_shape {ops : List Oper} {l : List AOper} {c : AC} (h : drawOf ops l = some c) : (∃ l, c = .ops l) ∨ ∃ l prs, c = .opsU [] l prs := by
  unfold drawOf at h
  split at h
  · obtain rfl := Option.some.inj h
    split
    · exact .inl ⟨_, rfl⟩
    · exact .inr ⟨_, _, rfl⟩
  · cases h

/-- One run of the small machine is a run of Go's. -/
def Main (P : Program) (T : Tab) (n : Nat) : Prop := ∀ d K s r, runF T n d K s = some r → ∀ (nt : Nat) (b : Frame) (k : List Item) (cs : List Frame) (a : Act) (w : World) (φ : Id → Option Addr), KRel P nt K k → SR nt w φ s a →
  ∃ a' w' φ' todo, Steps P (lone (b.at a k) cs w) (lone { b.at a' todo with mode := .returning } cs w') ∧ SR nt w' φ' r a' ∧ Ext w φ s.H w' φ' r.H ∧ a'.defers = a.defers

theorem main_step {T : Tab} (hm : P.follows .mixedOrders = true) {n : Nat} (ih : ∀ m, m < n → Main P T m) (hcall : ∀ m, m < n → CallOK P T (runF T m)) : Main P T n := by
  intro d K s r h nt b k cs a w φ hK hs
  cases n with
  | zero => simp [runF] at h
  | succ n =>
    -- one step that changes nothing but what is still to be run
    have same : ∀ (K' : List It) (k' : List Item), runF T n d K' s = some r → KRel P nt K' k' → step P (lone (b.at a k) cs w) = .next (lone (b.at a k') cs w) →
        ∃ a' w' φ' todo, Steps P (lone (b.at a k) cs w) (lone { b.at a' todo with mode := .returning } cs w') ∧ SR nt w' φ' r a' ∧ Ext w φ s.H w' φ' r.H ∧ a'.defers = a.defers := by
      intro K' k' h1 h2 h3
      obtain ⟨a', w', φ', todo, g1, g2, g3, g4⟩ := ih n (by omega) d K' s r h1 nt b k' cs a w φ h2 hs
      exact ⟨a', w', φ', todo, .head h3 g1, g2, g3, g4⟩
    cases K with
    | nil =>
      cases k with
      | cons => exact hK.elim
      | nil =>
        simp only [runF] at h
        obtain rfl := Option.some.inj h
        exact ⟨a, w, φ, [], .one step_end, hs, Ext.refl _ _ _, rfl⟩
    | cons it K =>
      cases it with
      | blk i =>
        cases k with
        | nil => exact hK.elim
        | cons x k =>
          cases x <;> first | (exact hK.elim) | skip
          obtain ⟨rfl, hK⟩ := hK
          simp only [runF] at h
          exact same K k h hK step_inBlock
      | lp c =>
        cases k with
        | nil => exact hK.elim
        | cons x k =>
          cases x <;> first | (exact hK.elim) | skip
          obtain ⟨h1, h2, hK⟩ := hK
          simp only [runF] at h
          refine same _ _ h ?_ step_inLoop
          exact ⟨h1, h2, h1, h2, hK⟩
      | code c =>
        cases k with
        | nil => exact hK.elim
        | cons x k =>
          cases x <;> first | (exact hK.elim) | skip
          rename_i c'
          obtain ⟨h1, h2, hK⟩ := hK
          cases c' with
          | skip =>
            simp only [codeOf] at h1
            obtain rfl := Option.some.inj h1
            simp only [runF] at h
            exact same _ _ h hK step_skip
          | region id ops draw =>
            have hreg : RegOf P ops draw c ∧ ((∃ l, c = .ops l) ∨ ∃ l prs, c = .opsU [] l prs) := by
              simp only [codeOf] at h1
              split at h1
              · rename_i l hl
                split at h1
                · rename_i hd
                  exact ⟨⟨l, hl, .inr ⟨hd, h1⟩⟩, drawOf_shape h1⟩
                · rename_i hd
                  obtain rfl := Option.some.inj h1
                  exact ⟨⟨l, hl, .inl ⟨by simpa using hd, rfl⟩⟩, .inl ⟨l, rfl⟩⟩
              · cases h1
            obtain ⟨m, s', g1, g2, g3⟩ := reg_split hreg.2 h
            rw [Nat.add_sub_cancel] at g2
            have hwp := region_sound (P := P) (id := id) (Q := fun e a' w' => e = .normal ∧ ∃ φ', SR nt w' φ' s' a' ∧ Ext w φ s.H w' φ' s'.H ∧ a'.defers = a.defers) hm hreg.1 h2 g2 (hcall n (by omega)) hs
              (fun a' w' φ' e1 e2 e3 => ⟨rfl, φ', e1, e2, e3⟩)
            obtain ⟨e, a1, w1, ⟨rfl, φ1, e1, e2, e3⟩, harr⟩ := hwp b k cs
            obtain ⟨a', w', φ', todo, k1, k2, k3, k4⟩ := ih m (by omega) d K s' r g3 nt b k cs a1 w1 φ1 hK e1
            exact ⟨a', w', φ', todo, .trans harr k1, k2, e2.trans k3, k4.trans e3⟩
          | seq x y =>
            simp only [codeOf] at h1
            split at h1
            · rename_i x' y' hx hy
              obtain rfl := Option.some.inj h1
              simp only [okD, Bool.and_eq_true] at h2
              simp only [runF] at h
              refine same _ _ h ?_ step_seq
              exact ⟨hx, h2.1, hy, h2.2, hK⟩
            · cases h1
          | cond q x y =>
            simp only [codeOf] at h1
            split at h1
            · rename_i q' x' y' hq hx hy
              obtain rfl := Option.some.inj h1
              simp only [okD, Bool.and_eq_true] at h2
              simp only [runF] at h
              split at h
              · rename_i t ht
                have hrel := opd_rel hs.env hq
                rw [ht] at hrel
                have hq : a.eval q = .bool t := hrel.1
                refine same _ _ h ?_ (step_cond hq)
                cases t
                · exact ⟨hy, h2.2, hK⟩
                · exact ⟨hx, h2.1, hK⟩
              · cases h
            · cases h1
          | block i x =>
            simp only [codeOf] at h1
            split at h1
            · rename_i x' hx
              obtain rfl := Option.some.inj h1
              simp only [okD] at h2
              simp only [runF] at h
              refine same _ _ h ?_ step_block
              exact ⟨hx, h2, rfl, hK⟩
            · cases h1
          | loop x =>
            simp only [codeOf] at h1
            split at h1
            · rename_i x' hx
              obtain rfl := Option.some.inj h1
              simp only [okD] at h2
              simp only [runF] at h
              refine same _ _ h ?_ step_loop
              exact ⟨hx, h2, hx, h2, hK⟩
            · cases h1
          | exit i =>
            simp only [codeOf] at h1
            obtain rfl := Option.some.inj h1
            simp only [runF] at h
            split at h
            · rename_i K' hu
              obtain ⟨k', e1, e2⟩ := unwind_rel hK hu
              exact same _ _ h e2 (step_exit e1)
            · cases h
          | ret =>
            simp only [codeOf] at h1
            obtain rfl := Option.some.inj h1
            simp only [runF] at h
            obtain rfl := Option.some.inj h
            exact ⟨a, w, φ, _, .one step_ret, hs, Ext.refl _ _ _, rfl⟩
          | _ => simp [codeOf] at h1
end Go.Am
