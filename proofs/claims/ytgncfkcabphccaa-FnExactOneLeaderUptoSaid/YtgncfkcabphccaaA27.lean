/- What is live, read as data; objects that are locked; a world that has grown. -/
import Derived.Test.YtgncfkcabphccaaA26
namespace Go.Am
set_option linter.unusedSimpArgs false
set_option linter.unusedVariables false
variable {P : Program}

/-- H2 is H, some of its objects locked. -/
structure Lk (H H2 : Heap) : Prop where
  no : ∀ id, H id = none → H2 id = none
  so : ∀ id b, H id = some b → ∃ b2, H2 id = some b2 ∧ b2.gen = b.gen ∧ b2.sz = b.sz ∧ b2.es = b.es ∧ (b2.w = true → b.w = true)

theorem Lk.refl (H : Heap) : Lk H H := ⟨fun _ h => h, fun _ b h => ⟨b, h, rfl, rfl, rfl, fun h => h⟩⟩

theorem Lk.back {H H2 : Heap} (h : Lk H H2) {id : Id} {b2 : Obj} (e : H2 id = some b2) : ∃ b, H id = some b ∧ b2.gen = b.gen ∧ b2.sz = b.sz ∧ b2.es = b.es ∧ (b2.w = true → b.w = true) := by
  cases hh : H id with
  | none => rw [h.no id hh] at e; cases e
  | some b =>
    obtain ⟨b', h1, h2⟩ := h.so id b hh
    rw [e] at h1
    obtain rfl := Option.some.inj h1
    exact ⟨b, rfl, h2⟩

theorem lk_lockL (H : Heap) (l : List Id) : Lk H (lockL H l) := by
  constructor
  · intro id h
    rw [lockL_at, h]; simp
  · intro id b h
    rw [lockL_at, h]
    split
    · exact ⟨_, rfl, rfl, rfl, rfl, fun h => (by cases h)⟩
    · exact ⟨b, rfl, rfl, rfl, rfl, fun h => h⟩

theorem lk_lockAll (H : Heap) : Lk H (lockAll H) := by
  constructor
  · intro id h; simp only [lockAll, h]
  · intro id b h; exact ⟨{ b with w := false }, by simp only [lockAll, h], rfl, rfl, rfl, fun h => (by cases h)⟩

section
variable {w w' : World} {φ : Id → Option Addr} {H H2 : Heap}

theorem Lk.mut (h : Lk H H2) {b : Nat} (hm : Mut φ H2 b) : Mut φ H b := by
  rcases hm with ⟨o, ob, a, h1, h2, h3, h4⟩ | hr
  · obtain ⟨b, g1, _, _, _, g2⟩ := h.back h1
    exact .inl ⟨o, b, a, g1, g2 h2, h3, h4⟩
  · exact .inr hr

theorem Lk.ext (h : Lk H H2) : Ext w φ H w φ H2 :=
  ⟨rfl, rfl, rfl, Nat.le_refl _, fun _ _ _ => rfl, fun _ _ hm => h.mut hm, fun _ _ => Nat.le_refl _,
    fun o x hx => (let ⟨b2, g1, g2, g3, g4, _⟩ := h.so o x hx; ⟨b2, g1, .inr ⟨g2, by rw [g4], g3, rfl⟩⟩), fun _ => rfl, fun _ _ _ => rfl⟩

theorem Lk.sim (h : Lk H H2) (hs : Sim w φ H) : Sim w φ H2 := by
  have hctx : LeCtx (ctx w φ H) (ctx w φ H2) := h.ext.leCtx hs.pl
  refine ⟨hs.pl, ?_, ?_, ?_, ?_⟩
  · intro o ob ho
    obtain ⟨b, g1, g2, g3, g4, g5⟩ := h.back ho
    obtain ⟨ad, e1, e2⟩ := hs.obj o b g1
    refine ⟨ad, e1, e2.spot, e2.lt, by rw [g3]; exact e2.pos, ?_, fun hw => e2.fr (g5 hw)⟩
    intro i x hx
    rw [g4] at hx
    rw [g3]
    obtain ⟨k0, v, k1, k2, k3⟩ := e2.el i x hx
    exact ⟨k0, v, VRel.mono hctx _ _ k1, k2, k3⟩
  · intro o ob p oc b c ho hw hp hne hb hc
    obtain ⟨ob', g1, _, _, _, g5⟩ := h.back ho
    obtain ⟨oc', k1, _⟩ := h.back hp
    exact hs.sep o ob' p oc' b c g1 (g5 hw) k1 hne hb hc
  · intro o ob ho
    obtain ⟨ob', g1, _⟩ := h.back ho
    exact hs.re o ob' g1
  · intro o ob b k c ho hb hc
    obtain ⟨ob', g1, _⟩ := h.back ho
    exact hs.sx o ob' b k c g1 hb hc

/-- A world that has grown. -/
structure Grown (w w' : World) : Prop where
  os : w'.os = w.os
  tape : w'.tape = w.tape
  output : w'.output = w.output
  size : w.heap.size ≤ w'.heap.size
  fr : ∀ b, b < w.heap.size → w'.heap[b]? = w.heap[b]?

theorem Grown.ext (h : Grown w w') (hs : Sim w φ H) : Ext w φ H w' φ H :=
  ⟨h.os, h.tape, h.output, h.size, fun b hb _ => h.fr b hb, fun _ _ hm => hm, fun b hb => Nat.le_of_eq (by unfold bsize; rw [h.fr b hb]), fun _ x hx => ⟨x, hx, .inr ⟨rfl, rfl, rfl, rfl⟩⟩, fun _ => rfl, fun k a ha => h.fr _ (hs.pl _ a ha)⟩

theorem Grown.sim (h : Grown w w') (hs : Sim w φ H) : Sim w' φ H := by
  have hctx := (h.ext hs).leCtx hs.pl
  refine ⟨fun o a ha => Nat.lt_of_lt_of_le (hs.pl o a ha) h.size, ?_, hs.sep, hs.re, hs.sx⟩
  intro o ob ho
  obtain ⟨ad, e1, e2⟩ := hs.obj o ob ho
  refine ⟨ad, e1, e2.spot, Nat.lt_of_lt_of_le e2.lt h.size, e2.pos, ?_, ?_⟩
  · intro i x hx
    obtain ⟨k0, v, k1, k2, k3⟩ := e2.el i x hx
    refine ⟨k0, v, VRel.mono hctx _ _ k1, k2, fun j u hj => ⟨(k3 j u hj).1, ?_⟩⟩
    rw [cell_same (h.fr _ (by rw [add_block]; exact e2.lt))]
    exact (k3 j u hj).2
  · intro hw
    obtain ⟨c, e, lo, hi, g1, g2⟩ := e2.fr hw
    exact ⟨c, e, lo, hi, by rw [h.fr _ e2.lt]; exact g1, g2⟩

/-- The block of a locked object is not written. -/
theorem locked_imm (hs : Sim w φ H) {o : Id} {ob : Obj} {b : Addr} (ho : H o = some ob) (hw : ob.w = false) (hb : φ o = some b) : ¬ Mut φ H b.block := by
  rintro (⟨p, x, a, h1, h2, h3, h4⟩ | ⟨k, a, h1, h2⟩)
  · by_cases hpo : p = o
    · subst hpo
      rw [ho] at h1
      obtain rfl := Option.some.inj h1
      rw [hw] at h2; cases h2
    · exact hs.sep p x o ob a b h1 h2 ho hpo h3 hb h4
  · exact hs.sx o ob b k a ho hb h1 h2.symm

/-- No object among these may be written. -/
def NoW (H : Heap) (l : List Id) : Prop := ∀ id, id ∈ l → ∀ ob, H id = some ob → ob.w = false

mutual
theorem frz_rel (hs : Sim w φ H) : ∀ (n : Nat) (v : AV) (t : TV) (x : Value), NoW H (idsOf H n v) → VRel (ctx w φ H) v x → frz H n v = some t → TRel (imm w φ H) t x
  | _, .c t', t, x, _, hr, hf => by
    simp only [frz] at hf
    obtain rfl := Option.some.inj hf
    exact hr
  | 0, .agg _, t, x, _, _, hf => by simp [frz] at hf
  | 0, .tup _, t, x, _, _, hf => by simp [frz] at hf
  | 0, .nils, t, x, _, _, hf => by simp [frz] at hf
  | 0, .tptr _ _, t, x, _, _, hf => by simp [frz] at hf
  | 0, .ref _ _ _ _ _, t, x, _, _, hf => by simp [frz] at hf
  | 0, .ptr _ _ _ _ _, t, x, _, _, hf => by simp [frz] at hf
  | 0, .fn _ _, t, x, _, _, hf => by simp [frz] at hf
  | 0, .undef, t, x, _, _, hf => by simp [frz] at hf
  | n + 1, .agg cs, t, x, hn, hr, hf => by
    simp only [frz] at hf
    simp only [idsOf] at hn
    split at hf
    · rename_i l hl
      obtain rfl := Option.some.inj hf
      obtain ⟨vs, e, hvs⟩ := hr
      exact ⟨vs, e, frzs_rel hs n cs l vs hn hvs hl⟩
    · cases hf
  | _ + 1, .nils, t, x, _, hr, hf => by
    simp only [frz] at hf
    obtain rfl := Option.some.inj hf
    have hx : x = .slice none 0 0 := hr
    exact ⟨none, 0, 0, hx, rfl, Nat.le_refl _, .inl rfl⟩
  | n + 1, .ref o g m off len, t, x, hn, hr, hf => by
    simp only [frz] at hf
    simp only [idsOf] at hn
    split at hf
    · rename_i es hes
      split at hf
      · rename_i l hl
        obtain rfl := Option.some.inj hf
        rw [hes] at hn
        have hes' := hes
        unfold elemsOf at hes'
        split at hes'
        · rename_i ob hob
          split at hes'
          · rename_i hc
            obtain rfl := Option.some.inj hes'
            obtain ⟨a, cap, e, hlc, ob', hob', hq⟩ := hr
            have hob'' : H o = some ob' := hob'
            rw [hob] at hob''
            obtain rfl := Option.some.inj hob''
            obtain ⟨b, hb, hrel⟩ := hs.obj o ob hob
            have hw := hn o (by simp) ob hob
            have hsz : szOf H o = ob.sz := by simp only [szOf, hob]
            have hlen : l.length = len := by
              have h1 : ∀ (n : Nat) (q : List AV) (r : List TV), frzs H n q = some r → r.length = q.length := by
                intro n q
                induction q with
                | nil => intro r h; simp only [frzs] at h; obtain rfl := Option.some.inj h; rfl
                | cons y q ih =>
                  intro r h
                  simp only [frzs] at h
                  split at h
                  · split at h
                    · rename_i ys hys
                      obtain rfl := Option.some.inj h
                      simp [ih _ hys]
                    · cases h
                  · cases h
              rw [h1 _ _ _ hl]; simp; omega
            refine ⟨a, len, cap, e, hlen.symm, hlc, ?_⟩
            rcases hq with hq | ⟨q1, q2, q3, q4⟩
            · unfold Stale at hq; omega
            · rcases q4 with ⟨_, q4⟩ | ⟨b', hb', ea, hn', hroom⟩
              · left; omega
              · right
                obtain rfl : b = b' := Option.some.inj (hb.symm.trans hb')
                refine ⟨_, ea, add_spot hrel.spot _, ?_⟩
                rw [hsz]
                refine frz_elems hs n hob hb hw hrel ((ob.es.drop off).take len) l 0 off (fun k y hk => ?_) (fun id hi => hn id (by simp only [List.mem_cons]; exact .inr hi)) hl
                rw [List.getElem?_take] at hk
                split at hk
                · rw [List.getElem?_drop] at hk
                  rw [Nat.zero_add]; exact hk
                · cases hk
          · cases hes'
        · cases hes'
      · cases hf
    · cases hf
  | _ + 1, .tup _, t, x, _, _, hf => by simp [frz] at hf
  | _ + 1, .tptr _ _, t, x, _, _, hf => by simp [frz] at hf
  | _ + 1, .ptr _ _ _ _ _, t, x, _, _, hf => by simp [frz] at hf
  | _ + 1, .fn _ _, t, x, _, _, hf => by simp [frz] at hf
  | _ + 1, .undef, t, x, _, _, hf => by simp [frz] at hf
theorem frzs_rel (hs : Sim w φ H) : ∀ (n : Nat) (l : List AV) (ts : List TV) (vs : List Value), NoW H (idsOfs H n l) → VRels (ctx w φ H) l vs → frzs H n l = some ts → TRels (imm w φ H) ts vs
  | _, [], ts, vs, _, hr, hf => by
    simp only [frzs] at hf
    obtain rfl := Option.some.inj hf
    cases vs with
    | nil => trivial
    | cons => exact hr.elim
  | n, x :: r, ts, vs, hn, hr, hf => by
    simp only [frzs] at hf
    simp only [idsOfs] at hn
    split at hf
    · rename_i y hy
      split at hf
      · rename_i ys hys
        obtain rfl := Option.some.inj hf
        cases vs with
        | nil => exact hr.elim
        | cons v q =>
          exact ⟨frz_rel hs n x y v (fun id hi => hn id (by simp [hi])) hr.1 hy, hr.2.1, frzs_rel hs n r ys q (fun id hi => hn id (by simp [hi])) hr.2.2 hys⟩
      · cases hf
    · cases hf
theorem frz_elems (hs : Sim w φ H) : ∀ (n : Nat) {o : Id} {ob : Obj} {b : Addr} (_ : H o = some ob) (_ : φ o = some b) (_ : ob.w = false) (_ : ObjRel (ctx w φ H) w ob b) (es : List AV) (l : List TV) (i off : Nat),
    (∀ (k : Nat) (y : AV), es[k]? = some y → ob.es[off + (i + k)]? = some y) → NoW H (idsOfs H n es) → frzs H n es = some l → TElems (imm w φ H) ob.sz (b.add (off * ob.sz)) i l
  | _, _, _, _, _, _, _, _, [], l, i, off, _, _, hf => by
    simp only [frzs] at hf
    obtain rfl := Option.some.inj hf
    trivial
  | n, o, ob, b, ho, hb, hw, hrel, x :: r, l, i, off, hk, hn, hf => by
    simp only [frzs] at hf
    simp only [idsOfs] at hn
    split at hf
    · rename_i y hy
      split at hf
      · rename_i ys hys
        obtain rfl := Option.some.inj hf
        have h0 := hk 0 x rfl
        rw [Nat.add_zero] at h0
        obtain ⟨_, v, h1, h2, h3⟩ := hrel.el _ x h0
        refine ⟨⟨v, frz_rel hs n x y v (fun id hi => hn id (by simp [hi])) h1 hy, h2, fun j u hj => ?_⟩, ?_⟩
        · rw [imm_some]
          rw [add_add hrel.spot]
          refine ⟨by rw [add_block]; exact locked_imm hs ho hw hb, ?_⟩
          have := (h3 j u hj).2
          rw [show off * ob.sz + (i * ob.sz + j) = (off + i) * ob.sz + j from by rw [Nat.add_mul]; omega]
          exact this
        · refine frz_elems hs n ho hb hw hrel r ys (i + 1) off (fun k z hz => ?_) (fun id hi => hn id (by simp [hi])) hys
          have := hk (k + 1) z (by simpa using hz)
          rw [show off + (i + 1 + k) = off + (i + (k + 1)) from by omega]
          exact this
      · cases hf
    · cases hf
end
end
end Go.Am
