/- Two operations of the small machine that change places. -/
import Derived.Test.YtgncfkcabphccaaA22
namespace Go.Am
set_option linter.unusedSimpArgs false
set_option linter.unusedVariables false

section
variable {T : Tab} {R : Run} {d : Nat} {dst : Option Nat} {E E' : AEnv} {H H' H1 : Heap} {nx nx' nx1 : Nat} {k : AOp} {v : AV}

theorem ev_congr {x : Opd} (h : ∀ t, t ∈ x.tmps → E' t = E t) : ev E' x = ev E x := by
  cases x with
  | t n => exact h n (by simp [Opd.tmps])
  | k v => rfl
theorem evs_congr {l : List Opd} (h : ∀ t, t ∈ l.flatMap Opd.tmps → E' t = E t) : l.map (ev E') = l.map (ev E) := by
  refine List.map_congr_left fun x hx => ev_congr fun t ht => h t ?_
  exact List.mem_flatMap.2 ⟨x, hx, ht⟩
theorem optI_congr {x : Option Opd} (h : ∀ t, t ∈ oTmps x → E' t = E t) : optI E' x = optI E x := by
  cases x with
  | none => rfl
  | some y => simp only [optI, ev_congr (x := y) h]

theorem operV_congr (h : ∀ t, t ∈ looks k → E' t = E t) : operV T R d dst E' H nx k = operV T R d dst E H nx k := by
  cases k
  case build z ps =>
    have : (ps.map fun p => (p.1, p.2.1, ev E' p.2.2)) = (ps.map fun p => (p.1, p.2.1, ev E p.2.2)) := by
      refine List.map_congr_left fun p hp => ?_
      rw [ev_congr (x := p.2.2) fun t ht => h t (List.mem_flatMap.2 ⟨p, hp, ht⟩)]
    simp only [operV, this]
  case slice sz x a b c =>
    simp only [looks, List.mem_append] at h
    have h1 := ev_congr (E := E) (E' := E') (x := x) fun t ht => h t (.inl ht)
    have h2 := optI_congr (E := E) (E' := E') (x := a) fun t ht => h t (.inr (.inl ht))
    have h3 := optI_congr (E := E) (E' := E') (x := b) fun t ht => h t (.inr (.inr (.inl ht)))
    have h4 := optI_congr (E := E) (E' := E') (x := c) fun t ht => h t (.inr (.inr (.inr ht)))
    simp only [operV, h1, h2, h3, h4]
  case pick x a b =>
    simp only [looks, List.mem_append] at h
    have h1 := ev_congr (E := E) (E' := E') (x := x) fun t ht => h t (.inl ht)
    have h2 := ev_congr (E := E) (E' := E') (x := a) fun t ht => h t (.inr (.inl ht))
    have h3 := ev_congr (E := E) (E' := E') (x := b) fun t ht => h t (.inr (.inr ht))
    simp only [operV, h1, h2, h3]
  case callv f l =>
    simp only [looks, List.mem_append] at h
    have h1 := ev_congr (E := E) (E' := E') (x := f) fun t ht => h t (.inl ht)
    have h2 := evs_congr (E := E) (E' := E') (l := l) fun t ht => h t (.inr ht)
    simp only [operV, h1, h2]
  case alloc z => rfl
  case bslice sz l => simp only [operV, evs_congr (E := E) (E' := E') (l := l) h]
  case mkfn f l => simp only [operV, evs_congr (E := E) (E' := E') (l := l) h]
  case minmax m l => simp only [operV, evs_congr (E := E) (E' := E') (l := l) h]
  case call f l => simp only [operV, evs_congr (E := E) (E' := E') (l := l) h]
  case store | bin | binB | binS | iaddr | index | append | copy =>
    rename_i x y
    simp only [looks, List.mem_append] at h
    have h1 := ev_congr (E := E) (E' := E') (x := x) fun t ht => h t (.inl ht)
    have h2 := ev_congr (E := E) (E' := E') (x := y) fun t ht => h t (.inr ht)
    simp only [operV, h1, h2]
  all_goals simp only [operV, ev_congr (E := E) (E' := E') h]

theorem foot_congr (h : ∀ t, t ∈ looks k → E' t = E t) : foot T d dst E' H nx k = foot T d dst E H nx k := by
  cases k
  case slice sz x a b c =>
    simp only [looks, List.mem_append] at h
    have h1 := ev_congr (E := E) (E' := E') (x := x) fun t ht => h t (.inl ht)
    simp only [foot, h1]
  case callv f l =>
    simp only [looks, List.mem_append] at h
    have h1 := ev_congr (E := E) (E' := E') (x := f) fun t ht => h t (.inl ht)
    have h2 := evs_congr (E := E) (E' := E') (l := l) fun t ht => h t (.inr ht)
    simp only [foot, h1, h2]
  case call f l => simp only [foot, evs_congr (E := E) (E' := E') (l := l) h]
  case store | iaddr | append | copy =>
    rename_i x y
    simp only [looks, List.mem_append] at h
    have h1 := ev_congr (E := E) (E' := E') (x := x) fun t ht => h t (.inl ht)
    have h2 := ev_congr (E := E) (E' := E') (x := y) fun t ht => h t (.inr ht)
    simp only [foot, h1, h2]
  case load n a x => simp only [foot, ev_congr (E := E) (E' := E') (x := x) h]
  case b2s x => simp only [foot, ev_congr (E := E) (E' := E') (x := x) h]
  case clear z x => simp only [foot, ev_congr (E := E) (E' := E') (x := x) h]
  all_goals rfl
end

theorem upd_other {E : AEnv} {dst : Option Nat} {v : AV} {t : Nat} (h : ∀ d, dst = some d → d ≠ t) : updO E dst v t = E t := by
  cases dst with
  | none => rfl
  | some d => simp only [updO, upd]; rw [if_neg (fun e => h d rfl e.symm)]

theorem updO_comm {E : AEnv} {x y : Option Nat} {u v : AV} (h : ∀ a b, x = some a → y = some b → a ≠ b) : updO (updO E x u) y v = updO (updO E y v) x u := by
  cases x with
  | none => rfl
  | some a =>
    cases y with
    | none => rfl
    | some b =>
      have := h a b rfl rfl
      funext t
      simp only [updO, upd]
      split
      · rename_i e; subst e; rw [if_neg (fun e => this e.symm)]
      · rfl

theorem apart_spec {x y : AOper} (h : apartA x y = true) : (∀ d, x.dst = some d → d ∉ looksO y) ∧ (∀ d, y.dst = some d → d ∉ looksO x) ∧ (∀ a b, x.dst = some a → y.dst = some b → a ≠ b) := by
  unfold apartA at h
  simp only [Bool.and_eq_true] at h
  obtain ⟨h1, h2, h3⟩ := h
  refine ⟨fun d hd => ?_, fun d hd => ?_, fun a b ha hb => ?_⟩
  · rw [hd] at h1; simpa using h1
  · rw [hd] at h2; simpa using h2
  · rw [ha, hb] at h3; simpa using h3

section
variable {T : Tab} {R : Run} {d : Nat}

/-- What an operation does hangs on what it looks at. -/
theorem wantedA_congr {E E' : AEnv} {o : AOper} (h : ∀ t, t ∈ looksO o → E' t = E t) : wantedA E' o.guard = wantedA E o.guard := by
  unfold wantedA
  cases hg : o.guard with
  | none => rfl
  | some p =>
    obtain ⟨t, want⟩ := p
    have := h t (by unfold looksO; rw [hg]; simp)
    simp only [this]

theorem disj_spec {a b : List Id} (h : disj a b = true) {x : Id} (hx : x ∈ a) (hy : x ∈ b) : False := by
  unfold disj at h
  rw [List.all_eq_true] at h
  have h1 := h x hx
  rw [List.all_eq_true] at h1
  simpa using h1 x hy

structure Indep (F G : Foot) : Prop where
  fw : F.wall = false
  gw : G.wall = false
  fa : F.all = true → G.wr = [] ∧ G.lk = []
  ga : G.all = true → F.wr = [] ∧ F.lk = []
  d1 : ∀ x, x ∈ F.wr → x ∈ G.rd → False
  d2 : ∀ x, x ∈ F.wr → x ∈ G.wr → False
  d3 : ∀ x, x ∈ F.wr → x ∈ G.lk → False
  d4 : ∀ x, x ∈ G.wr → x ∈ F.rd → False
  d5 : ∀ x, x ∈ G.wr → x ∈ F.lk → False
  d6 : ∀ x, x ∈ F.lk → x ∈ G.lk → False
  nn : F.nx = true → G.nx = true → False

theorem indep_spec {F G : Foot} (h : indep F G = true) : Indep F G := by
  unfold indep at h
  simp only [Bool.and_eq_true, Bool.not_eq_true', Bool.or_eq_true, List.isEmpty_iff] at h
  obtain ⟨⟨⟨⟨⟨⟨⟨h1, h2⟩, h3⟩, h4⟩, h5⟩, h6⟩, h7⟩, h8⟩ := h
  refine ⟨h1, h2, fun e => by rw [e] at h3; simpa using h3, fun e => by rw [e] at h4; simpa using h4,
    fun x a b => disj_spec h5 a (by simp [b]), fun x a b => disj_spec h5 a (by simp [b]), fun x a b => disj_spec h5 a (by simp [b]),
    fun x a b => disj_spec h6 a (by simp [b]), fun x a b => disj_spec h6 a (by simp [b]), fun x a b => disj_spec h7 a b, fun a b => by rw [a, b] at h8; cases h8⟩

theorem Indep.none_left {G : Foot} (h : G.wall = false) : Indep F0 G :=
  ⟨rfl, h, fun e => (by cases e), fun _ => ⟨rfl, rfl⟩, fun _ h => (by cases h), fun _ h => (by cases h), fun _ h => (by cases h), fun _ _ h => (by cases h), fun _ _ h => (by cases h), fun _ h => (by cases h), fun e => (by cases e)⟩

/-- Two operations on their values change places. -/
theorem swap_vals {d1 d2 : Option Nat} {E1 E2 : AEnv} {k1 k2 : AOp} {H H1 H2 : Heap} {n n1 n2 : Nat} {v1 v2 : AV}
    (h1 : operV T R d d1 E1 H n k1 = some (v1, H1, n1)) (h2 : operV T R d d2 E2 H1 n1 k2 = some (v2, H2, n2)) (hi : Indep (foot T d d1 E1 H n k1) (foot T d d2 E2 H1 n1 k2)) :
    ∃ H3 n3, operV T R d d2 E2 H n k2 = some (v2, H3, n3) ∧ operV T R d d1 E1 H3 n3 k1 = some (v1, H2, n2) ∧ foot T d d2 E2 H n k2 = foot T d d2 E2 H1 n1 k2 ∧ foot T d d1 E1 H3 n3 k1 = foot T d d1 E1 H n k1 := by
  -- the first, on its own heap
  obtain ⟨_, Ha, na, e1, f1⟩ := oper_frame (H1 := H) (nx1 := n) h1 hi.fw ⟨fun _ _ => .of_eq rfl, fun _ _ => rfl, fun _ _ => rfl, fun _ => rfl, fun _ => rfl⟩
  generalize hF : foot T d d1 E1 H n k1 = F at *
  generalize hG : foot T d d2 E2 H1 n1 k2 = G at *
  have agG : AgF G H1 H n1 n := by
    refine ⟨fun id hid => ?_, fun id hid => ?_, fun id hid => ?_, fun e => ?_, fun e => ?_⟩
    · exact (f1.lock id (fun c => hi.d1 id c hid)).symm
    · exact (f1.out id (fun c => hi.d2 id c hid) (fun c => hi.d5 id hid c)).symm
    · exact (f1.out id (fun c => hi.d3 id c hid) (fun c => hi.d6 id c hid)).symm
    · obtain ⟨a, b⟩ := hi.ga e
      funext id
      exact (f1.out id (by rw [a]; simp) (by rw [b]; simp)).symm
    · have : F.nx = false := by
        cases hx : F.nx
        · rfl
        · exact (hi.nn hx e).elim
      exact (f1.nx0 this).1.symm
  rw [← hG] at agG
  obtain ⟨e2, H3, n3, e3, f2⟩ := oper_frame h2 (by rw [hG]; exact hi.gw) agG
  rw [hG] at e2 f2 agG
  have agF : AgF F H H3 n n3 := by
    refine ⟨fun id hid => ?_, fun id hid => ?_, fun id hid => ?_, fun e => ?_, fun e => ?_⟩
    · by_cases hl : id ∈ G.lk
      · -- locked by the second
        have h5 : AgR H1 H2 id := f2.lock id (fun c => hi.d4 id c hid)
        have h6 : H3 id = H2 id := f2.same id (.inr hl)
        have h7 : AgR H H1 id := by
          by_cases hw : id ∈ F.wr
          · exact (hi.d3 id hw hl).elim
          · exact f1.lock id hw
        exact (h7.trans h5).trans (.of_eq h6)
      · exact .of_eq (f2.out1 id (fun c => hi.d4 id c hid) hl)
    · exact f2.out1 id (fun c => hi.d2 id hid c) (fun c => hi.d3 id hid c)
    · exact f2.out1 id (fun c => hi.d5 id c hid) (fun c => hi.d6 id hid c)
    · obtain ⟨a, b⟩ := hi.fa e
      funext id
      exact f2.out1 id (by rw [a]; simp) (by rw [b]; simp)
    · have : G.nx = false := by
        cases hx : G.nx
        · rfl
        · exact (hi.nn e hx).elim
      exact (f2.nx0 this).2
  rw [← hF] at agF
  obtain ⟨e4, H4, n4, e5, f3⟩ := oper_frame h1 (by rw [hF]; exact hi.fw) agF
  rw [hF] at e4 f3
  refine ⟨H3, n3, e3, ?_, e2, e4⟩
  have hH : H4 = H2 := by
    funext id
    by_cases hf : id ∈ F.wr ∨ id ∈ F.lk
    · rw [f3.same id hf]
      refine (f2.out id (fun c => ?_) (fun c => ?_)).symm
      · exact hf.elim (fun q => hi.d2 id q c) (fun q => hi.d5 id c q)
      · exact hf.elim (fun q => hi.d3 id q c) (fun q => hi.d6 id q c)
    · have a1 : id ∉ F.wr := fun c => hf (.inl c)
      have a2 : id ∉ F.lk := fun c => hf (.inr c)
      rw [f3.out1 id a1 a2]
      by_cases hg : id ∈ G.wr ∨ id ∈ G.lk
      · exact f2.same id hg
      · have b1 : id ∉ G.wr := fun c => hg (.inl c)
        have b2 : id ∉ G.lk := fun c => hg (.inr c)
        rw [f2.out1 id b1 b2, f2.out id b1 b2, f1.out id a1 a2]
  have hN : n4 = n2 := by
    cases hf : F.nx with
    | true =>
      have hg : G.nx = false := by
        cases hx : G.nx
        · rfl
        · exact (hi.nn hf hx).elim
      rw [f3.nxE hf, (f2.nx0 hg).1]
    | false =>
      rw [(f3.nx0 hf).2]
      cases hg : G.nx with
      | true => exact f2.nxE hg
      | false => rw [(f2.nx0 hg).2, (f2.nx0 hg).1, (f3.nx0 hf).1]
  rw [← hH, ← hN]
  exact e5

/-- What touches nothing. -/
theorem still_vals {d1 : Option Nat} {E1 : AEnv} {k1 : AOp} {H H1 : Heap} {n n1 : Nat} {v1 : AV} (h : operV T R d d1 E1 H n k1 = some (v1, H1, n1)) (hf : foot T d d1 E1 H n k1 = F0) :
    H1 = H ∧ n1 = n ∧ ∀ H2 n2, operV T R d d1 E1 H2 n2 k1 = some (v1, H2, n2) ∧ foot T d d1 E1 H2 n2 k1 = F0 := by
  have key : ∀ H2 n2, ∃ Ha na, operV T R d d1 E1 H2 n2 k1 = some (v1, Ha, na) ∧ Fr F0 H H1 H2 Ha n n1 n2 na ∧ foot T d d1 E1 H2 n2 k1 = F0 := by
    intro H2 n2
    obtain ⟨a, Ha, na, b, c⟩ := oper_frame (H1 := H2) (nx1 := n2) h (by rw [hf]) (by rw [hf]; exact ⟨fun _ hx => (by cases hx), fun _ hx => (by cases hx), fun _ hx => (by cases hx), fun e => (by cases e), fun e => (by cases e)⟩)
    rw [hf] at a c
    exact ⟨Ha, na, b, c, a⟩
  obtain ⟨Ha, na, _, b, _⟩ := key H n
  refine ⟨funext fun id => b.out id (by simp) (by simp), (b.nx0 rfl).1, fun H2 n2 => ?_⟩
  obtain ⟨Hb, nb, e, f, g⟩ := key H2 n2
  have h1 : Hb = H2 := funext fun id => f.out1 id (by simp) (by simp)
  have h2 : nb = n2 := (f.nx0 rfl).2
  subst h1; subst h2
  exact ⟨e, g⟩

def Indep2 (F G : Foot) : Prop := F = F0 ∨ G = F0 ∨ Indep F G

theorem swap_vals2 {d1 d2 : Option Nat} {E1 E2 : AEnv} {k1 k2 : AOp} {H H1 H2 : Heap} {n n1 n2 : Nat} {v1 v2 : AV}
    (h1 : operV T R d d1 E1 H n k1 = some (v1, H1, n1)) (h2 : operV T R d d2 E2 H1 n1 k2 = some (v2, H2, n2)) (hi : Indep2 (foot T d d1 E1 H n k1) (foot T d d2 E2 H1 n1 k2)) :
    ∃ H3 n3, operV T R d d2 E2 H n k2 = some (v2, H3, n3) ∧ operV T R d d1 E1 H3 n3 k1 = some (v1, H2, n2) ∧ foot T d d2 E2 H n k2 = foot T d d2 E2 H1 n1 k2 ∧ foot T d d1 E1 H3 n3 k1 = foot T d d1 E1 H n k1 := by
  rcases hi with hi | hi | hi
  · obtain ⟨rfl, rfl, h3⟩ := still_vals h1 hi
    obtain ⟨h4, h5⟩ := h3 H2 n2
    exact ⟨H2, n2, h2, h4, rfl, by rw [h5, hi]⟩
  · obtain ⟨rfl, rfl, h3⟩ := still_vals h2 hi
    obtain ⟨h4, h5⟩ := h3 H n
    exact ⟨H, n, h4, h1, by rw [h5, hi], rfl⟩
  · exact swap_vals h1 h2 hi

theorem indepO {o : AOper} {s : St} (h : wantedA s.E o.guard ≠ some true) : footO T d o s = F0 := by
  unfold footO
  split
  · rename_i e; exact (h e).elim
  · rfl

/-- Two operations change places. -/
theorem swap {x y : AOper} {s s1 s2 : St} (hap : apartA x y = true) (h1 : operF T R d x s = some s1) (h2 : operF T R d y s1 = some s2) (hi : Indep2 (footO T d x s) (footO T d y s1)) :
    ∃ s3, operF T R d y s = some s3 ∧ operF T R d x s3 = some s2 ∧ footO T d y s = footO T d y s1 ∧ footO T d x s3 = footO T d x s := by
  obtain ⟨p1, p2, p3⟩ := apart_spec hap
  have key : ∀ {v : AV} {s' : St}, s'.E = updO s.E x.dst v → (∀ t, t ∈ looksO y → s'.E t = s.E t) := fun e t ht => by
    rw [e]; exact upd_other fun d hd hne => p1 d hd (hne ▸ ht)
  have key2 : ∀ {v : AV} {E : AEnv}, (∀ t, t ∈ looksO x → updO E y.dst v t = E t) := fun t ht =>
    upd_other fun d hd hne => p2 d hd (hne ▸ ht)
  have lk : ∀ {o : AOper} {t : Nat}, t ∈ looks o.op → t ∈ looksO o := fun h => by unfold looksO; exact List.mem_append_right _ h
  unfold operF at h1
  split at h1
  · -- the first is carried out
    rename_i hwx
    split at h1
    · rename_i v1 H1 n1 e1
      obtain rfl := Option.some.inj h1
      have hl : ∀ t, t ∈ looksO y → updO s.E x.dst v1 t = s.E t := fun t ht => upd_other fun d hd hne => p1 d hd (hne ▸ ht)
      have hwy : wantedA (updO s.E x.dst v1) y.guard = wantedA s.E y.guard := wantedA_congr hl
      unfold operF at h2
      simp only [hwy] at h2
      split at h2
      · rename_i hy
        simp only [operV_congr (fun t ht => hl t (lk ht))] at h2
        split at h2
        · rename_i v2 H2 n2 e2
          obtain rfl := Option.some.inj h2
          have fx : footO T d x s = foot T d x.dst s.E s.H s.nx x.op := by unfold footO; rw [hwx]
          have fy : footO T d y ⟨updO s.E x.dst v1, H1, n1⟩ = foot T d y.dst s.E H1 n1 y.op := by
            unfold footO; simp only [hwy, hy]
            exact foot_congr fun t ht => hl t (lk ht)
          rw [fx, fy] at hi
          obtain ⟨H3, n3, g1, g2, g3, g4⟩ := swap_vals2 e1 e2 hi
          refine ⟨⟨updO s.E y.dst v2, H3, n3⟩, ?_, ?_, ?_, ?_⟩
          · unfold operF; rw [hy]; simp only [g1]
          · unfold operF
            simp only [wantedA_congr (o := x) (key2 (v := v2) (E := s.E)), hwx]
            simp only [operV_congr (fun t ht => key2 (v := v2) (E := s.E) t (lk ht)), g2]
            rw [updO_comm (fun a b ha hb => p3 a b ha hb)]
          · rw [fy]; unfold footO; rw [hy]; exact g3
          · rw [fx]; unfold footO
            simp only [wantedA_congr (o := x) (key2 (v := v2) (E := s.E)), hwx]
            rw [foot_congr (fun t ht => key2 (v := v2) (E := s.E) t (lk ht))]
            exact g4
        · cases h2
      · rename_i hy
        obtain rfl := Option.some.inj h2
        refine ⟨⟨updO s.E y.dst (.tup []), s.H, s.nx⟩, ?_, ?_, ?_, ?_⟩
        · unfold operF; rw [hy]
        · unfold operF
          simp only [wantedA_congr (o := x) (key2 (v := .tup []) (E := s.E)), hwx]
          simp only [operV_congr (fun t ht => key2 (v := .tup []) (E := s.E) t (lk ht)), e1]
          rw [updO_comm (fun a b ha hb => p3 a b ha hb)]
        · unfold footO; simp only [hwy, hy]
        · unfold footO
          simp only [wantedA_congr (o := x) (key2 (v := .tup []) (E := s.E)), hwx]
          rw [foot_congr (fun t ht => key2 (v := .tup []) (E := s.E) t (lk ht))]
      · cases h2
    · cases h1
  · rename_i hwx
    obtain rfl := Option.some.inj h1
    have hl : ∀ t, t ∈ looksO y → updO s.E x.dst (.tup []) t = s.E t := fun t ht => upd_other fun d hd hne => p1 d hd (hne ▸ ht)
    have hwy : wantedA (updO s.E x.dst (.tup [])) y.guard = wantedA s.E y.guard := wantedA_congr hl
    unfold operF at h2
    simp only [hwy] at h2
    split at h2
    · rename_i hy
      simp only [operV_congr (fun t ht => hl t (lk ht))] at h2
      split at h2
      · rename_i v2 H2 n2 e2
        obtain rfl := Option.some.inj h2
        refine ⟨⟨updO s.E y.dst v2, H2, n2⟩, ?_, ?_, ?_, ?_⟩
        · unfold operF; rw [hy]; simp only [e2]
        · unfold operF
          simp only [wantedA_congr (o := x) (key2 (v := v2) (E := s.E)), hwx]
          rw [updO_comm (fun a b ha hb => p3 a b ha hb)]
        · unfold footO; simp only [hwy, hy]
          rw [foot_congr (fun t ht => hl t (lk ht))]
        · unfold footO
          simp only [wantedA_congr (o := x) (key2 (v := v2) (E := s.E)), hwx]
      · cases h2
    · rename_i hy
      obtain rfl := Option.some.inj h2
      refine ⟨⟨updO s.E y.dst (.tup []), s.H, s.nx⟩, ?_, ?_, ?_, ?_⟩
      · unfold operF; rw [hy]
      · unfold operF
        simp only [wantedA_congr (o := x) (key2 (v := .tup []) (E := s.E)), hwx]
        rw [updO_comm (fun a b ha hb => p3 a b ha hb)]
      · unfold footO; simp only [hwy, hy]
      · unfold footO
        simp only [wantedA_congr (o := x) (key2 (v := .tup []) (E := s.E)), hwx]
    · cases h2
  · cases h1
end
end Go.Am
