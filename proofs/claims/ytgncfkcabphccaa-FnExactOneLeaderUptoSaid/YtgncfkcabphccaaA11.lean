/- Memory that the small machine makes and writes, against Go's. -/
import Derived.Test.YtgncfkcabphccaaA10
namespace Go.Am
set_option linter.unusedSimpArgs false
set_option linter.unusedVariables false
variable {P : Program}

/-- The world with one more row. -/
def World.row (w : World) (cells : Array Value) (e : TypeId) (lo hi : Nat) : World := { w with heap := w.heap.push (.cells cells e (lo, hi)) }

theorem row_old (w : World) (cells : Array Value) (e : TypeId) (lo hi : Nat) {b : Nat} (h : b < w.heap.size) : (World.row w cells e lo hi).heap[b]? = w.heap[b]? := by
  simp only [World.row, Array.getElem?_push]
  rw [if_neg (by omega)]
theorem row_new (w : World) (cells : Array Value) (e : TypeId) (lo hi : Nat) : (World.row w cells e lo hi).heap[w.heap.size]? = some (.cells cells e (lo, hi)) := by
  simp only [World.row, Array.getElem?_push, if_true]
theorem row_cell (w : World) (cells : Array Value) (e : TypeId) (lo hi : Nat) (i : Nat) : (World.row w cells e lo hi).cell? ⟨w.heap.size, i, none⟩ = cells[i]? := by
  simp only [World.cell?, row_new]
  simp

def φupd (φ : Id → Option Addr) (o : Id) (a : Addr) : Id → Option Addr := fun p => if p = o then some a else φ p

theorem bsize_row (w : World) (cells : Array Value) (e : TypeId) (lo hi : Nat) {b : Nat} (h : b < w.heap.size) : bsize (World.row w cells e lo hi) b = bsize w b := by
  unfold bsize; rw [row_old _ _ _ _ _ h]

theorem sim_new {w : World} {φ : Id → Option Addr} {H : Heap} (hs : Sim w φ H) {o : Id} {ob : Obj} (hn : ∀ x, H o = some x → Newer ob x) (hre : o.real) {cells : Array Value} {e : TypeId} {lo hi : Nat} (hfr : hi ≤ lo ∨ cells.size ≤ lo) (hpos : 0 < ob.sz)
    (hel : ∀ (i : Nat) (x : AV), ob.es[i]? = some x → stor x = true ∧ ∃ v, VRel (ctx w φ H) x v ∧ v.cells.size = ob.sz ∧ ∀ (j : Nat) (u : Value), v.cells[j]? = some u → oneCell u = true ∧ cells[i * ob.sz + j]? = some u) :
    Ext w φ H (World.row w cells e lo hi) (φupd φ o ⟨w.heap.size, 0, none⟩) (hupd H o ob) ∧ Sim (World.row w cells e lo hi) (φupd φ o ⟨w.heap.size, 0, none⟩) (hupd H o ob) := by
  have hne : ∀ k, Id.ex k ≠ o := fun k e => by subst e; exact hre
  have hext : Ext w φ H (World.row w cells e lo hi) (φupd φ o ⟨w.heap.size, 0, none⟩) (hupd H o ob) := by
    refine ⟨rfl, rfl, rfl, by simp [World.row], fun b hb _ => row_old _ _ _ _ _ hb, ?_, fun b hb => Nat.le_of_eq (bsize_row _ _ _ _ _ hb).symm, ?_, fun k => by simp only [φupd, if_neg (hne k)], fun k a ha => row_old _ _ _ _ _ (hs.pl _ a ha)⟩
    · rintro b hb (⟨p, x, c, hp, hx, hc, rfl⟩ | ⟨k, c, hc, rfl⟩)
      case inr => simp only [φupd, if_neg (hne k)] at hc; exact .inr ⟨k, c, hc, rfl⟩
      by_cases hpo : p = o
      · subst hpo
        simp only [φupd, if_true] at hc
        obtain rfl := Option.some.inj hc
        simp at hb
      · rw [hupd_ne _ _ hpo] at hp
        simp only [φupd, if_neg hpo] at hc
        exact .inl ⟨p, x, c, hp, hx, hc, rfl⟩
    · intro p x hp
      by_cases hpo : p = o
      · subst hpo
        exact ⟨ob, hupd_same _ _ _, .inl (hn x hp)⟩
      · exact ⟨x, by rw [hupd_ne _ _ hpo]; exact hp, .inr ⟨rfl, rfl, rfl, by simp [φupd, hpo]⟩⟩
  refine ⟨hext, ?_⟩
  have hctx := hext.leCtx hs.pl
  refine ⟨?_, ?_, ?_, ?_, ?_⟩
  · intro p c hc
    by_cases hpo : p = o
    · simp only [φupd, if_pos hpo] at hc
      obtain rfl := Option.some.inj hc
      simp [World.row]
    · simp only [φupd, if_neg hpo] at hc
      have := hs.pl p c hc
      simp only [World.row, Array.size_push]; omega
  · intro p x hp
    by_cases hpo : p = o
    · subst hpo
      rw [hupd_same] at hp
      obtain rfl := Option.some.inj hp
      refine ⟨⟨w.heap.size, 0, none⟩, by simp [φupd], rfl, by simp [World.row], hpos, ?_, fun _ => ⟨cells, e, lo, hi, row_new _ _ _ _ _, hfr⟩⟩
      intro i y hy
      obtain ⟨h0, v, h1, h2, h3⟩ := hel i y hy
      refine ⟨h0, v, VRel.mono hctx _ _ h1, h2, fun j u hj => ⟨(h3 j u hj).1, ?_⟩⟩
      rw [add_eq rfl, Nat.zero_add, row_cell]
      exact (h3 j u hj).2
    · rw [hupd_ne _ _ hpo] at hp
      obtain ⟨c, hc, hr⟩ := hs.obj p x hp
      refine ⟨c, by simp [φupd, hpo, hc], hr.spot, by have := hr.lt; simp only [World.row, Array.size_push]; omega, hr.pos, ?_, ?_⟩
      · intro i y hy
        obtain ⟨h0, v, h1, h2, h3⟩ := hr.el i y hy
        refine ⟨h0, v, VRel.mono hctx _ _ h1, h2, fun j u hj => ⟨(h3 j u hj).1, ?_⟩⟩
        rw [cell_same (row_old _ _ _ _ _ (by rw [add_block]; exact hr.lt))]
        exact (h3 j u hj).2
      · intro hw
        obtain ⟨c0, e0, lo0, hi0, h1, h2⟩ := hr.fr hw
        exact ⟨c0, e0, lo0, hi0, by rw [row_old _ _ _ _ _ hr.lt]; exact h1, h2⟩
  · intro p x q y b c hp hx hq hpq hb hc
    by_cases hpo : p = o
    · subst hpo
      simp only [φupd, if_true] at hb
      obtain rfl := Option.some.inj hb
      have hqo : q ≠ p := Ne.symm hpq
      simp only [φupd, if_neg hqo] at hc
      have := hs.pl q c hc
      simp; omega
    · rw [hupd_ne _ _ hpo] at hp
      simp only [φupd, if_neg hpo] at hb
      by_cases hqo : q = o
      · subst hqo
        simp only [φupd, if_true] at hc
        obtain rfl := Option.some.inj hc
        have := hs.pl p b hb
        simp; omega
      · rw [hupd_ne _ _ hqo] at hq
        simp only [φupd, if_neg hqo] at hc
        exact hs.sep p x q y b c hp hx hq hpq hb hc
  · intro p x hp
    by_cases hpo : p = o
    · subst hpo; exact hre
    · rw [hupd_ne _ _ hpo] at hp; exact hs.re p x hp
  · intro p x b k c hp hb hc
    simp only [φupd, if_neg (hne k)] at hc
    by_cases hpo : p = o
    · subst hpo
      simp only [φupd, if_true] at hb
      obtain rfl := Option.some.inj hb
      have := hs.pl _ c hc
      simp; omega
    · rw [hupd_ne _ _ hpo] at hp
      simp only [φupd, if_neg hpo] at hb
      exact hs.sx p x b k c hp hb hc

/-- The world in which a row of cells has been written. -/
structure Stored (w w' : World) (a : Addr) (vs : List Value) : Prop where
  os : w'.os = w.os
  tape : w'.tape = w.tape
  output : w'.output = w.output
  size : w'.heap.size = w.heap.size
  other : ∀ k, k ≠ a.block → w'.heap[k]? = w.heap[k]?
  blk : ∃ c c' e f, w.heap[a.block]? = some (.cells c e f) ∧ w'.heap[a.block]? = some (.cells c' e f) ∧ c'.size = c.size ∧
    ∀ i, c'[i]? = if a.off ≤ i ∧ i < a.off + vs.length then vs[i - a.off]? else c[i]?

theorem run_storeCells {a : Addr} (hs : a.spot = none) : ∀ (vs : List Value) (i : Nat) (w1 : World), (∀ v ∈ vs, oneCell v = true) →
    (∃ c e f, w1.heap[a.block]? = some (.cells c e f) ∧ a.off + i + vs.length ≤ c.size ∧ (f.2 ≤ f.1 ∨ c.size ≤ f.1)) →
    ∃ w', (storeCells a vs i).run P w1 = .ok () w' ∧ Stored w1 w' (a.add i) vs := by
  intro vs
  induction vs with
  | nil =>
    intro i w1 _ ⟨c, e, f, h1, _, _⟩
    refine ⟨w1, rfl, rfl, rfl, rfl, rfl, fun _ _ => rfl, c, c, e, f, by rw [add_block]; exact h1, by rw [add_block]; exact h1, rfl, fun k => ?_⟩
    rw [if_neg (by simp only [List.length_nil]; omega)]
  | cons v vs ih =>
    intro i w1 hv ⟨c, e, f, h1, h2, h3⟩
    obtain ⟨lo, hi⟩ := f
    have hlt : a.off + i < c.size := by simp only [List.length_cons] at h2; omega
    have hcell : w1.cell? (a.add i) = some c[a.off + i] := by
      rw [add_eq hs]; simp only [World.cell?, h1]; simp [hlt]
    have hfroz : w1.frozen? (a.add i) = false := by
      rw [add_eq hs]; simp only [World.frozen?, h1]
      simp only [Bool.and_eq_false_iff, decide_eq_false_iff_not]
      simp only at h3
      omega
    have hone := hv v (by simp)
    have hstep : ∀ k : Sem Unit, (Sem.store .plain (a.add i) v k).run P w1 = k.run P (w1.setCell (a.add i) v) := by
      intro k
      cases v <;> first | (simp [oneCell] at hone; done) | (simp only [Sem.run, hcell, hfroz]; rfl)
    have hset : (w1.setCell (a.add i) v).heap[a.block]? = some (.cells (c.setIfInBounds (a.off + i) v) e (lo, hi)) := by
      rw [add_eq hs]
      simp only [World.setCell, Array.getElem?_modify, if_true, h1]
      rfl
    obtain ⟨w', hr, hst⟩ := ih (i + 1) (w1.setCell (a.add i) v) (fun u hu => hv u (by simp [hu]))
      ⟨_, e, (lo, hi), hset, by simp only [Array.size_setIfInBounds]; simp only [List.length_cons] at h2; omega, by simpa using h3⟩
    refine ⟨w', ?_, ?_⟩
    · simp only [storeCells, store, Sem.run_bind]
      rw [hstep]
      exact hr
    · obtain ⟨c0, c', e', f', g1, g2, g3, g4⟩ := hst.blk
      rw [add_block] at g1 g2
      rw [hset] at g1
      cases g1
      refine ⟨hst.os, hst.tape, hst.output, ?_, ?_, c, c', e, (lo, hi), by rw [add_block]; exact h1, by rw [add_block]; exact g2, by rw [g3]; simp, ?_⟩
      · rw [hst.size]; simp [World.setCell]
      · intro k hk
        rw [add_block] at hk
        rw [hst.other k (by rw [add_block]; exact hk)]
        simp only [World.setCell, Array.getElem?_modify, add_block]
        rw [if_neg (Ne.symm hk)]
      · intro k
        rw [g4 k]
        rw [add_eq hs, add_eq hs]
        simp only [List.length_cons]
        by_cases hk : k = a.off + i
        · subst hk
          rw [if_neg (by omega), if_pos (by omega)]
          simp [hlt]
        · by_cases hr2 : a.off + (i + 1) ≤ k ∧ k < a.off + (i + 1) + vs.length
          · rw [if_pos hr2, if_pos (by omega)]
            rw [show k - (a.off + i) = (k - (a.off + (i + 1))) + 1 from by omega]
            simp
          · rw [if_neg hr2, if_neg (by omega)]
            rw [Array.getElem?_setIfInBounds, if_neg (Ne.symm hk)]

theorem Stored.bsize {w w' : World} {a : Addr} {vs : List Value} (h : Stored w w' a vs) (b : Nat) : bsize w' b = bsize w b := by
  by_cases hb : b = a.block
  · subst hb
    obtain ⟨c, c', e, f, h1, h2, h3, _⟩ := h.blk
    simp only [Am.bsize, h1, h2, h3]
  · simp only [Am.bsize, h.other b hb]

theorem Stored.free {w w' : World} {a : Addr} {vs : List Value} (h : Stored w w' a vs) {b : Nat} (hf : freeB w b) : freeB w' b := by
  obtain ⟨c0, e0, lo, hi, g1, g2⟩ := hf
  by_cases hb : b = a.block
  · subst hb
    obtain ⟨c, c', e, f, h1, h2, h3, _⟩ := h.blk
    rw [g1] at h1
    cases h1
    exact ⟨c', e0, lo, hi, h2, by rw [h3]; exact g2⟩
  · exact ⟨c0, e0, lo, hi, by rw [h.other b hb]; exact g1, g2⟩

/-- A cell behind the writing. -/
theorem Stored.cell {w w' : World} {a : Addr} {vs : List Value} (h : Stored w w' a vs) (k : Nat) : w'.cell? ⟨a.block, k, none⟩ = if a.off ≤ k ∧ k < a.off + vs.length then vs[k - a.off]? else w.cell? ⟨a.block, k, none⟩ := by
  obtain ⟨c, c', e, f, h1, h2, h3, h4⟩ := h.blk
  simp only [World.cell?, h1, h2]
  simp [h4 k]

theorem sim_write {w w' : World} {φ : Id → Option Addr} {H : Heap} (hs : Sim w φ H) {o : Id} {ob : Obj} {b a : Addr} {vs : List Value} (ho : H o = some ob) (hw : ob.w = true) (hb : φ o = some b) (st : Stored w w' a vs) (hab : a.block = b.block)
    {es : List AV} (hlen : es.length = ob.es.length)
    (hel : ∀ (i : Nat) (x : AV), es[i]? = some x → stor x = true ∧ ∃ v, VRel (ctx w φ H) x v ∧ v.cells.size = ob.sz ∧ ∀ (j : Nat) (u : Value), v.cells[j]? = some u → oneCell u = true ∧ w'.cell? (b.add (i * ob.sz + j)) = some u) :
    Ext w φ H w' φ (hupd H o { ob with es := es }) ∧ Sim w' φ (hupd H o { ob with es := es }) := by
  have hmut : Mut φ H b.block := .inl ⟨o, ob, b, ho, hw, hb, rfl⟩
  have hother : ∀ k, ¬ Mut φ H k → w'.heap[k]? = w.heap[k]? := fun k hk => st.other k (fun e => hk (by rw [e, hab]; exact hmut))
  have hext : Ext w φ H w' φ (hupd H o { ob with es := es }) := by
    refine ⟨st.os, st.tape, st.output, Nat.le_of_eq st.size.symm, fun k _ hk => hother k hk, ?_, fun k _ => Nat.le_of_eq (st.bsize k).symm, ?_, fun _ => rfl, fun k c hc => st.other _ (by rw [hab]; exact Ne.symm (hs.sx o ob b k c ho hb hc))⟩
    · rintro k _ (⟨p, x, c, hp, hx, hc, rfl⟩ | hr)
      case inr => exact .inr hr
      by_cases hpo : p = o
      · subst hpo; exact .inl ⟨p, ob, c, ho, hw, hc, rfl⟩
      · rw [hupd_ne _ _ hpo] at hp; exact .inl ⟨p, x, c, hp, hx, hc, rfl⟩
    · intro p x hp
      by_cases hpo : p = o
      · subst hpo
        rw [ho] at hp
        obtain rfl := Option.some.inj hp
        exact ⟨_, hupd_same _ _ _, .inr ⟨rfl, hlen, rfl, rfl⟩⟩
      · exact ⟨x, by rw [hupd_ne _ _ hpo]; exact hp, .inr ⟨rfl, rfl, rfl, rfl⟩⟩
  refine ⟨hext, ?_⟩
  have hctx := hext.leCtx hs.pl
  refine ⟨fun p c hc => by rw [st.size]; exact hs.pl p c hc, ?_, ?_, ?_, ?_⟩
  · intro p x hp
    by_cases hpo : p = o
    · subst hpo
      rw [hupd_same] at hp
      obtain rfl := Option.some.inj hp
      obtain ⟨b', hb', hr⟩ := hs.obj p ob ho
      obtain rfl : b = b' := Option.some.inj (hb.symm.trans hb')
      refine ⟨b, hb, hr.spot, by rw [st.size]; exact hr.lt, hr.pos, ?_, fun _ => st.free (hr.fr hw)⟩
      intro i y hy
      obtain ⟨h0, v, h1, h2, h3⟩ := hel i y hy
      exact ⟨h0, v, VRel.mono hctx _ _ h1, h2, h3⟩
    · rw [hupd_ne _ _ hpo] at hp
      obtain ⟨c, hc, hr⟩ := hs.obj p x hp
      have hne : c.block ≠ a.block := by
        rw [hab]
        exact Ne.symm (hs.sep o ob p x b c ho hw hp (Ne.symm hpo) hb hc)
      refine ⟨c, hc, hr.spot, by rw [st.size]; exact hr.lt, hr.pos, ?_, fun hx => st.free (hr.fr hx)⟩
      intro i y hy
      obtain ⟨h0, v, h1, h2, h3⟩ := hr.el i y hy
      refine ⟨h0, v, VRel.mono hctx _ _ h1, h2, fun j u hj => ⟨(h3 j u hj).1, ?_⟩⟩
      rw [cell_same (st.other _ (by rw [add_block]; exact hne))]
      exact (h3 j u hj).2
  · intro p x q y c e hp hx hq hpq hc he
    have hp' : ∃ x', H p = some x' ∧ x'.w = true := by
      by_cases hpo : p = o
      · subst hpo; exact ⟨ob, ho, hw⟩
      · rw [hupd_ne _ _ hpo] at hp; exact ⟨x, hp, hx⟩
    have hq' : ∃ y', H q = some y' := by
      by_cases hqo : q = o
      · subst hqo; exact ⟨ob, ho⟩
      · rw [hupd_ne _ _ hqo] at hq; exact ⟨y, hq⟩
    obtain ⟨x', h1, h2⟩ := hp'
    obtain ⟨y', h3⟩ := hq'
    exact hs.sep p x' q y' c e h1 h2 h3 hpq hc he
  · intro p x hp
    by_cases hpo : p = o
    · subst hpo; exact hs.re p ob ho
    · rw [hupd_ne _ _ hpo] at hp; exact hs.re p x hp
  · intro p x c k e hp hc he
    by_cases hpo : p = o
    · subst hpo; exact hs.sx p ob c k e ho hc he
    · rw [hupd_ne _ _ hpo] at hp; exact hs.sx p x c k e hp hc he
end Go.Am
