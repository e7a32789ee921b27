/- One operation of Go's code against one of the small machine: append, copy, clear; slices that are made. -/
import Derived.Test.YtgncfkcabphccaaA15
namespace Go.Am
set_option linter.unusedSimpArgs false
set_option linter.unusedVariables false
variable {P : Program}

theorem fits_append {sz : Nat} {a b : List AV} (ha : fits sz a = true) (hb : fits sz b = true) : fits sz (a ++ b) = true := by
  unfold fits at *; rw [List.all_append, ha, hb]; rfl
theorem fits_take {sz : Nat} {a : List AV} (ha : fits sz a = true) (n : Nat) : fits sz (a.take n) = true := by
  unfold fits at *; rw [List.all_eq_true] at *; exact fun x hx => ha x (List.mem_of_mem_take hx)
theorem fits_drop {sz : Nat} {a : List AV} (ha : fits sz a = true) (n : Nat) : fits sz (a.drop n) = true := by
  unfold fits at *; rw [List.all_eq_true] at *; exact fun x hx => ha x (List.mem_of_mem_drop hx)

theorem obj_fits {X : Ctx} {w : World} {ob : Obj} {b : Addr} (h : ObjRel X w ob b) : fits ob.sz ob.es = true := by
  unfold fits
  rw [List.all_eq_true]
  intro x hx
  obtain ⟨i, hi⟩ := List.getElem?_of_mem hx
  obtain ⟨h0, v, h1, h2, _⟩ := h.el i x hi
  have := (fit_cells h1 h0).1
  simp [h0]; omega

section
variable {o : Oper} {ops : Array Oper} {nt : Nat} {a : Act} {w : World} {φ : Id → Option Addr} {H : Heap} {nx : Nat} {E : AEnv} {T : Tab} {R : Run} {d : Nat}

/-- Elements of a live object that are written anew. -/
theorem sim_elems {w' : World} {id : Id} {ob : Obj} {b : Addr} {off : Nat} {new : List AV} {vs : List Value} (hs : Sim w φ H) (ho : H id = some ob) (hw : ob.w = true) (hb : φ id = some b)
    (hv : VTup (ctx w φ H) new vs) (hf : fits ob.sz new = true) (hle : off + new.length ≤ ob.es.length) (st : Stored w w' (b.add (off * ob.sz)) (laid vs)) :
    Ext w φ H w' φ (hupd H id { ob with es := ob.es.take off ++ new ++ ob.es.drop (off + new.length) }) ∧ Sim w' φ (hupd H id { ob with es := ob.es.take off ++ new ++ ob.es.drop (off + new.length) }) := by
  obtain ⟨b', hb', hr⟩ := hs.obj id ob ho
  obtain rfl : b = b' := Option.some.inj (hb.symm.trans hb')
  have hll := laid_length (fits_vals hv hf)
  have hvl := hv.length
  refine sim_write hs ho hw hb st (by rw [add_block]) (by simp; omega) ?_
  intro k x hk
  rw [getElem?_put _ _ _ hle] at hk
  have hwc : ∀ q, w'.cell? (b.add q) = if off * ob.sz ≤ q ∧ q < off * ob.sz + vs.length * ob.sz then (laid vs)[q - off * ob.sz]? else w.cell? (b.add q) := by
    intro q
    have := st.cell (b.off + q)
    rw [add_eq hr.spot] at this
    rw [add_eq hr.spot]
    simp only at this
    rw [this, hll]
    by_cases hc : off * ob.sz ≤ q ∧ q < off * ob.sz + vs.length * ob.sz
    · rw [if_pos hc, if_pos (by omega)]; congr 1; omega
    · rw [if_neg hc, if_neg (by omega)]
  split at hk
  · rename_i hc
    obtain ⟨g0, v, g1, g2, g3⟩ := elem_laid hv hf hk
    refine ⟨g0, v, g1, g2, fun j u hj => ⟨(g3 j u hj).1, ?_⟩⟩
    have hjlt : j < ob.sz := by
      rw [← g2]
      rcases Nat.lt_or_ge j v.cells.size with h | h
      · exact h
      · simp [Array.getElem?_eq_none h] at hj
    have e1 : off * ob.sz + (k - off) * ob.sz = k * ob.sz := by rw [← Nat.add_mul]; congr 1; omega
    have e2 : (k - off + 1) * ob.sz ≤ vs.length * ob.sz := Nat.mul_le_mul_right _ (by omega)
    rw [Nat.add_mul] at e2
    rw [hwc, if_pos (by omega)]
    rw [show k * ob.sz + j - off * ob.sz = (k - off) * ob.sz + j from by omega]
    exact (g3 j u hj).2
  · rename_i hc
    obtain ⟨h0, v, h1, h2, h3⟩ := hr.el k x hk
    refine ⟨h0, v, h1, h2, fun j u hj => ⟨(h3 j u hj).1, ?_⟩⟩
    have hjlt : j < ob.sz := by
      rw [← h2]
      rcases Nat.lt_or_ge j v.cells.size with h | h
      · exact h
      · simp [Array.getElem?_eq_none h] at hj
    rw [hwc, if_neg ?_]
    · exact (h3 j u hj).2
    · intro hx
      by_cases hlt : k < off
      · have : (k + 1) * ob.sz ≤ off * ob.sz := Nat.mul_le_mul_right _ hlt
        rw [Nat.add_mul] at this; omega
      · have : (off + vs.length) * ob.sz ≤ k * ob.sz := Nat.mul_le_mul_right _ (by omega)
        rw [Nat.add_mul] at this; omega

/-- The room of a live slice. -/
theorem run_store_ref {id : Id} {ob : Obj} {b : Addr} {q : Nat} {new : List AV} {vs : List Value} (hs : Sim w φ H) (ho : H id = some ob) (hw : ob.w = true) (hb : φ id = some b)
    (hv : VTup (ctx w φ H) new vs) (hf : fits ob.sz new = true) (hroom : b.off + (q + new.length) * ob.sz ≤ bsize w b.block) :
    ∃ w', (storeCells (b.add (q * ob.sz)) (laid vs)).run P w = .ok () w' ∧ Stored w w' (b.add (q * ob.sz)) (laid vs) := by
  obtain ⟨b', hb', hr⟩ := hs.obj id ob ho
  obtain rfl : b = b' := Option.some.inj (hb.symm.trans hb')
  obtain ⟨fc, fe, flo, fhi, hf1, hf2⟩ := hr.fr hw
  have hsz := fits_vals hv hf
  have hll := laid_length hsz
  have hvl := hv.length
  have hbs : bsize w b.block = fc.size := by simp only [bsize, hf1]
  have hone : ∀ v ∈ laid vs, oneCell v = true := by
    intro v hv'
    obtain ⟨k, hk⟩ := List.getElem?_of_mem hv'
    obtain ⟨i, j, u, _, h2, h3⟩ := laid_get hsz hk
    have : ∃ x, new[i]? = some x := by
      have hlt := (List.getElem?_eq_some_iff.1 h2).1
      exact ⟨_, List.getElem?_eq_getElem (by omega)⟩
    obtain ⟨x, hx⟩ := this
    obtain ⟨v', hv1, hrel⟩ := hv.at hx
    rw [h2] at hv1
    obtain rfl := Option.some.inj hv1
    exact (fit_cells hrel (fits_mem hf (List.mem_of_getElem? hx)).1).2 j v h3
  obtain ⟨w', h1, h2⟩ := run_storeCells (P := P) (a := b.add (q * ob.sz)) (add_spot hr.spot _) (laid vs) 0 w hone
    ⟨fc, fe, (flo, fhi), by rw [add_block]; exact hf1, by rw [add_eq hr.spot]; simp only [Nat.add_zero]; rw [hll, ← hbs, ← hvl, Nat.add_assoc, ← Nat.add_mul]; exact hroom, hf2⟩
  exact ⟨w', h1, by simpa [Addr.add] using h2⟩

/-- An object that goes on from another place of its row, in a new version. -/
theorem sim_move {w' : World} {id : Id} {ob ob' : Obj} {b a c : Addr} {vs : List Value} (hs : Sim w φ H) (ho : H id = some ob) (hw : ob.w = true) (hb : φ id = some b) (st : Stored w w' a vs) (hab : a.block = b.block)
    (hcb : c.block = b.block) (hcs : c.spot = none) (hnew : Newer ob' ob) (hsz : ob'.sz = ob.sz)
    (hel : ∀ (i : Nat) (x : AV), ob'.es[i]? = some x → stor x = true ∧ ∃ v, VRel (ctx w φ H) x v ∧ v.cells.size = ob'.sz ∧ ∀ (j : Nat) (u : Value), v.cells[j]? = some u → oneCell u = true ∧ w'.cell? (c.add (i * ob'.sz + j)) = some u) :
    Ext w φ H w' (φupd φ id c) (hupd H id ob') ∧ Sim w' (φupd φ id c) (hupd H id ob') := by
  have hmut : Mut φ H b.block := .inl ⟨id, ob, b, ho, hw, hb, rfl⟩
  have hnx : ∀ k, Id.ex k ≠ id := fun k e => by subst e; exact hs.re _ _ ho
  have hother : ∀ k, ¬ Mut φ H k → w'.heap[k]? = w.heap[k]? := fun k hk => st.other k (fun e => hk (by rw [e, hab]; exact hmut))
  have hext : Ext w φ H w' (φupd φ id c) (hupd H id ob') := by
    refine ⟨st.os, st.tape, st.output, Nat.le_of_eq st.size.symm, fun k _ hk => hother k hk, ?_, fun k _ => Nat.le_of_eq (st.bsize k).symm, ?_, fun k => by simp only [φupd, if_neg (hnx k)], fun k e he => st.other _ (by rw [hab]; exact Ne.symm (hs.sx id ob b k e ho hb he))⟩
    · rintro k _ (⟨p, x, q, hp, hx, hq, rfl⟩ | ⟨k, e, he, rfl⟩)
      case inr => simp only [φupd, if_neg (hnx k)] at he; exact .inr ⟨k, e, he, rfl⟩
      by_cases hpo : p = id
      · subst hpo
        simp only [φupd, if_true] at hq
        obtain rfl := Option.some.inj hq
        rw [hcb]; exact hmut
      · rw [hupd_ne _ _ hpo] at hp
        simp only [φupd, if_neg hpo] at hq
        exact .inl ⟨p, x, q, hp, hx, hq, rfl⟩
    · intro p x hp
      by_cases hpo : p = id
      · subst hpo
        rw [ho] at hp
        obtain rfl := Option.some.inj hp
        exact ⟨_, hupd_same _ _ _, .inl hnew⟩
      · exact ⟨x, by rw [hupd_ne _ _ hpo]; exact hp, .inr ⟨rfl, rfl, rfl, by simp [φupd, hpo]⟩⟩
  refine ⟨hext, ?_⟩
  have hctx := hext.leCtx hs.pl
  obtain ⟨b', hb', hr⟩ := hs.obj id ob ho
  obtain rfl : b = b' := Option.some.inj (hb.symm.trans hb')
  refine ⟨?_, ?_, ?_, ?_, ?_⟩
  · intro p q hq
    rw [st.size]
    by_cases hpo : p = id
    · simp only [φupd, if_pos hpo] at hq
      obtain rfl := Option.some.inj hq
      rw [hcb]; exact hr.lt
    · simp only [φupd, if_neg hpo] at hq
      exact hs.pl p q hq
  · intro p x hp
    by_cases hpo : p = id
    · subst hpo
      rw [hupd_same] at hp
      obtain rfl := Option.some.inj hp
      refine ⟨c, by simp [φupd], hcs, by rw [st.size, hcb]; exact hr.lt, by rw [hsz]; exact hr.pos, ?_, fun _ => by rw [hcb]; exact st.free (hr.fr hw)⟩
      intro i y hy
      obtain ⟨h0, v, h1, h2, h3⟩ := hel i y hy
      exact ⟨h0, v, VRel.mono hctx _ _ h1, h2, h3⟩
    · rw [hupd_ne _ _ hpo] at hp
      obtain ⟨q, hq, hrq⟩ := hs.obj p x hp
      have hne : q.block ≠ a.block := by
        rw [hab]
        exact Ne.symm (hs.sep id ob p x b q ho hw hp (Ne.symm hpo) hb hq)
      refine ⟨q, by simp [φupd, hpo, hq], hrq.spot, by rw [st.size]; exact hrq.lt, hrq.pos, ?_, fun hx => st.free (hrq.fr hx)⟩
      intro i y hy
      obtain ⟨h0, v, h1, h2, h3⟩ := hrq.el i y hy
      refine ⟨h0, v, VRel.mono hctx _ _ h1, h2, fun j u hj => ⟨(h3 j u hj).1, ?_⟩⟩
      rw [cell_same (st.other _ (by rw [add_block]; exact hne))]
      exact (h3 j u hj).2
  · intro p x q y e f hp hx hq hpq he hf
    have hp' : ∃ x' e', H p = some x' ∧ x'.w = true ∧ φ p = some e' ∧ e'.block = e.block := by
      by_cases hpo : p = id
      · subst hpo
        simp only [φupd, if_true] at he
        obtain rfl := Option.some.inj he
        exact ⟨ob, b, ho, hw, hb, hcb.symm⟩
      · rw [hupd_ne _ _ hpo] at hp
        simp only [φupd, if_neg hpo] at he
        exact ⟨x, e, hp, hx, he, rfl⟩
    have hq' : ∃ y' f', H q = some y' ∧ φ q = some f' ∧ f'.block = f.block := by
      by_cases hqo : q = id
      · subst hqo
        simp only [φupd, if_true] at hf
        obtain rfl := Option.some.inj hf
        exact ⟨ob, b, ho, hb, hcb.symm⟩
      · rw [hupd_ne _ _ hqo] at hq
        simp only [φupd, if_neg hqo] at hf
        exact ⟨y, f, hq, hf, rfl⟩
    obtain ⟨x', e', h1, h2, h3, h4⟩ := hp'
    obtain ⟨y', f', h5, h6, h7⟩ := hq'
    rw [← h4, ← h7]
    exact hs.sep p x' q y' e' f' h1 h2 h5 hpq h3 h6
  · intro p x hp
    by_cases hpo : p = id
    · subst hpo; exact hs.re p ob ho
    · rw [hupd_ne _ _ hpo] at hp; exact hs.re p x hp
  · intro p x e k f hp he hf
    simp only [φupd, if_neg (hnx k)] at hf
    by_cases hpo : p = id
    · subst hpo
      simp only [φupd, if_true] at he
      obtain rfl := Option.some.inj he
      rw [hcb]; exact hs.sx p ob b k f ho hb hf
    · rw [hupd_ne _ _ hpo] at hp
      simp only [φupd, if_neg hpo] at he
      exact hs.sx p x e k f hp he hf

theorem does_append {c : Call} {x y : Operand} {x' y' : Opd} {t u e : TypeId} {sz : Nat} {i : TypeInfo} {z : Value} {new : List AV} {v : AV} {H' : Heap} {nx' : Nat}
    (ho : o.op = .call c) (hc : c.callee = .builtin .append) (hargs : c.args = #[x, y]) (hty : c.argTypes = #[t, u]) (ht : AppT P t u e sz i z) (hx : opdOf x = some x') (hy : opdOf y = some y')
    (hs : SR nt w φ ⟨E, H, nx⟩ a) (hd : ∀ d, o.dst = some d → d < nt) (hsrc : Src P (ctx w φ H) w sz new (a.eval y)) (hf : fits sz new = true)
    (hv : (ev E x' = .nils ∧ new = [] ∧ v = .nils ∧ H' = H) ∨
      (ev E x' = .nils ∧ new ≠ [] ∧ new.length * sz ≤ 4294967296 ∧ (∃ id : Id, id.real ∧ v = .ref id (genAt H id) new.length 0 new.length ∧ H' = hupd H id ⟨genAt H id, sz, true, new⟩)) ∨
      (∃ id g n off len ob, ev E x' = .ref id g n off len ∧ H id = some ob ∧ ob.gen = g ∧ ob.es.length = n ∧ off + len ≤ n ∧ ob.w = true ∧ ob.sz = sz ∧
        ((new = [] ∧ v = .ref id g n off len ∧ H' = H) ∨
         (new ≠ [] ∧ off + len + new.length ≤ n ∧ v = .ref id g n off (len + new.length) ∧ H' = hupd H id { ob with es := ob.es.take (off + len) ++ new ++ ob.es.drop (off + len + new.length) }) ∨
         (new ≠ [] ∧ n < off + len + new.length ∧ (len + new.length) * sz ≤ 4294967296 ∧ v = .ref id (if off = 0 then g else g + 1) (len + new.length) 0 (len + new.length) ∧
           H' = hupd H id { ob with gen := (if off = 0 then g else g + 1), es := (ob.es.drop off).take len ++ new })))) :
    Does P o nt a w φ H o.dst E v H' nx' := by
  have h1 : VRel (ctx w φ H) (ev E x') (a.eval x) := opd_rel hs.env hx
  have hexec : ∀ (bs : Option Addr) (sLen sCap : Nat), a.eval x = .slice bs sLen sCap → execOp a.eval o = (do pure (.value (← Builtin.append_ #[t, u] o.type #[.slice bs sLen sCap, a.eval y]))) := by
    intro bs sLen sCap ex
    simp only [execOp, ho, resolve, hc, hargs, hty, invoke, builtin]
    simp only [List.map_toArray, List.map_cons, List.map_nil, ex]
    rfl
  -- a new row
  have grow : ∀ (bs : Option Addr) (sLen sCap : Nat) (olds : List AV) (id : Id) (ob' : Obj), id.real → a.eval x = .slice bs sLen sCap → Src P (ctx w φ H) w sz olds (.slice bs sLen sCap) → olds.length = sLen → ¬ (sLen + new.length ≤ sCap) → (sLen + new.length) * sz ≤ 4294967296 →
      fits sz olds = true → ob'.es = olds ++ new → ob'.sz = sz → ob'.w = true → (∀ ob, H id = some ob → Newer ob' ob) → Does P o nt a w φ H o.dst E (.ref id ob'.gen (sLen + new.length) 0 (sLen + new.length)) (hupd H id ob') nx' := by
    intro bs sLen sCap olds id ob' hre ex hso hol hroom hbig hfo hes hsz hw hnew
    obtain ⟨vs, dr, cap, rest, q1, q2, q3, q4, q5⟩ := run_append_grow' (ty := o.type) ht hsrc hso hol hroom hbig
    refine does_new (x := .slice (some ⟨w.heap.size, 0, none⟩) (sLen + new.length) cap) (cells := (laid vs ++ rest).toArray) (e := e) (lo := 0) (hi := 0) (dr := dr) ?_ hs hd hnew hre (.inl (Nat.le_refl _)) (by rw [hsz]; exact ht.pos) ?_ ?_
    · rw [hexec _ _ _ ex]
      simp only [Sem.run_bind, q5, Result.andThen_ok, Sem.run_pure]
    · intro k xx hk
      rw [hes] at hk
      rw [hsz]
      obtain ⟨g0, v', g1, g2, g3⟩ := elem_laid q1 (fits_append hfo hf) hk
      refine ⟨g0, v', g1, g2, fun j uu hj => ⟨(g3 j uu hj).1, ?_⟩⟩
      have := (g3 j uu hj).2
      simp only [List.getElem?_toArray]
      rw [List.getElem?_append_left (List.getElem?_eq_some_iff.1 this).1]
      exact this
    · refine ⟨_, _, rfl, q3, ob', hupd_same _ _ _, .inr ⟨rfl, by rw [hes]; simp [hol], by omega, .inr ⟨⟨w.heap.size, 0, none⟩, by simp [ctx, φupd], by simp [Addr.add], by omega, ?_⟩⟩⟩
      have hbs : bsize (World.row w (laid vs ++ rest).toArray e 0 0) w.heap.size = (laid vs ++ rest).length := by
        simp only [bsize, row_new, List.size_toArray]
      show 0 + (0 + cap) * ob'.sz ≤ bsize (World.row w (laid vs ++ rest).toArray e 0 0) w.heap.size
      rw [hbs, q4, hsz, Nat.zero_add, Nat.zero_add]
      exact Nat.le_refl _
  have room : ∀ (bs : Option Addr) (sLen sCap : Nat), a.eval x = .slice bs sLen sCap → sLen + new.length ≤ sCap → new = [] → VRel (ctx w φ H) v (.slice bs sLen sCap) → H' = H → Does P o nt a w φ H o.dst E v H' nx' := by
    intro bs sLen sCap ex hroom hnil hrel hH
    subst hnil
    subst hH
    obtain ⟨vs, q1, q2, q3⟩ := run_append_room' (ty := o.type) (b := bs) (sLen := sLen) (sCap := sCap) ht hsrc hroom
    have hvs : vs = [] := by cases vs with | nil => rfl | cons => exact q1.elim
    subst hvs
    refine does_pure (x := .slice bs sLen sCap) ?_ hs hrel hd
    rw [hexec _ _ _ ex]
    simp only [Sem.run_bind, q3]
    cases bs with
    | none => simp [Result.andThen]
    | some b => simp [Result.andThen, laid, storeCells]
  rcases hv with ⟨ex, hnil, rfl, rfl⟩ | ⟨ex, hne, hbig, id, hre, rfl, rfl⟩ | ⟨id, g, n, off, len, ob, ex, hob, g1, g2, g3, g4, g5, hv⟩
  · rw [ex] at h1
    have h1' : a.eval x = .slice none 0 0 := h1
    subst hnil
    exact room none 0 0 h1' (by simp) rfl rfl rfl
  · rw [ex] at h1
    have h1' : a.eval x = .slice none 0 0 := h1
    have hpos : 0 < new.length := List.length_pos_iff.2 hne
    have := grow none 0 0 [] id ⟨genAt H id, sz, true, new⟩ hre h1' src_empty rfl (by omega) (by simpa using hbig) rfl (by simp) rfl rfl (genAt_newer rfl)
    simpa using this
  · rw [ex] at h1
    obtain ⟨bs, cap, ev1, hlc, ob', hob', hq⟩ := h1
    obtain rfl : ob = ob' := Option.some.inj (hob.symm.trans hob')
    obtain ⟨b, hb, hrel⟩ := hs.sim.obj id ob hob
    rcases hq with hq | ⟨q1, q2, q3, q4⟩
    · unfold Stale at hq; omega
    · rcases hv with ⟨hnil, rfl, rfl⟩ | ⟨hne, hle, rfl, rfl⟩ | ⟨hne, hlt, hbig, rfl, rfl⟩
      · exact room bs len cap ev1 (by rw [hnil]; simpa using hlc) hnil ⟨bs, cap, rfl, hlc, ob, hob, .inr ⟨q1, q2, q3, q4⟩⟩ rfl
      · have hpos : 0 < new.length := List.length_pos_iff.2 hne
        rcases q4 with ⟨c0, _⟩ | ⟨b', hb', rfl, hn, hroom⟩
        · omega
        · obtain rfl : b = b' := Option.some.inj (hb.symm.trans hb')
          subst g5
          obtain ⟨vs, r1, r2, r3⟩ := run_append_room' (ty := o.type) (b := some (b.add (off * ob.sz))) (sLen := len) (sCap := cap) ht hsrc (by omega)
          have hrm : b.off + (off + len + new.length) * ob.sz ≤ bsize w b.block := by
            refine Nat.le_trans (Nat.add_le_add_left (Nat.mul_le_mul_right _ ?_) _) hroom
            omega
          obtain ⟨w', s1, s2⟩ := run_store_ref (P := P) hs.sim hob g4 hb r1 hf hrm
          obtain ⟨hext, hsim⟩ := sim_elems (off := off + len) hs.sim hob g4 hb r1 hf (by omega) s2
          intro K Q hK
          unfold Oper.wp
          rw [hexec _ _ _ ev1]
          simp only [Sem.run_bind, r3]
          rw [add_add hrel.spot, ← Nat.add_mul, s1]
          simp only [Result.andThen_ok, Sem.run_pure, Oper.upon_value]
          refine hK _ _ φ ⟨hsim, ?_, by rw [put_size]; exact hs.size⟩ hext (put_defers' _ _ _)
          have hctx := hext.leCtx hs.sim.pl
          refine EnvRel.put (hs.env.mono hctx) (fun _ => ?_) (fun d h => by rw [hs.size]; exact hd d h)
          refine ⟨_, cap, rfl, by omega, _, hupd_same _ _ _, .inr ⟨g1, by simp; omega, by omega, .inr ⟨b, hb, rfl, by omega, ?_⟩⟩⟩
          exact Nat.le_trans hroom (hctx.bs id b hb)
      · have hpos : 0 < new.length := List.length_pos_iff.2 hne
        by_cases hroom : len + new.length ≤ cap
        · -- there is room behind the object's end
          rcases q4 with ⟨c0, _⟩ | ⟨b', hb', rfl, hn, hrm⟩
          · omega
          · obtain rfl : b = b' := Option.some.inj (hb.symm.trans hb')
            subst g5
            obtain ⟨vs, r1, r2, r3⟩ := run_append_room' (ty := o.type) (b := some (b.add (off * ob.sz))) (sLen := len) (sCap := cap) ht hsrc hroom
            have hrm2 : b.off + (off + len + new.length) * ob.sz ≤ bsize w b.block := by
              refine Nat.le_trans (Nat.add_le_add_left (Nat.mul_le_mul_right _ ?_) _) hrm
              omega
            obtain ⟨w', s1, s2⟩ := run_store_ref (P := P) hs.sim hob g4 hb r1 hf hrm2
            have hnewer : Newer { ob with gen := (if off = 0 then g else g + 1), es := (ob.es.drop off).take len ++ new } ob := by
              unfold Newer
              by_cases h0 : off = 0
              · right; simp [h0, g1]; omega
              · left; simp [h0]; omega
            have hfo : fits ob.sz ((ob.es.drop off).take len) = true := fits_take (fits_drop (obj_fits hrel) _) _
            have hlold : ((ob.es.drop off).take len).length = len := by simp; omega
            have hll := laid_length (fits_vals r1 hf)
            obtain ⟨hext, hsim⟩ := sim_move (c := b.add (off * ob.sz)) (ob' := { ob with gen := (if off = 0 then g else g + 1), es := (ob.es.drop off).take len ++ new }) hs.sim hob g4 hb s2 (by rw [add_block]) (by rw [add_block]) (add_spot hrel.spot _) hnewer rfl (by
              intro k xx hk
              simp only at hk ⊢
              by_cases hkl : k < len
              · rw [List.getElem?_append_left (by omega), List.getElem?_take, if_pos hkl, List.getElem?_drop] at hk
                obtain ⟨h0, v, h1, h2, h3⟩ := hrel.el (off + k) xx hk
                refine ⟨h0, v, h1, h2, fun j u hj => ⟨(h3 j u hj).1, ?_⟩⟩
                have hjlt : j < ob.sz := by
                  rw [← h2]
                  rcases Nat.lt_or_ge j v.cells.size with h | h
                  · exact h
                  · simp [Array.getElem?_eq_none h] at hj
                have hcell := (h3 j u hj).2
                rw [add_add hrel.spot, ← Nat.add_assoc, ← Nat.add_mul]
                have := s2.cell (b.off + ((off + k) * ob.sz + j))
                rw [add_eq hrel.spot] at this
                rw [add_eq hrel.spot] at hcell ⊢
                simp only at this
                rw [this, if_neg ?_]
                · exact hcell
                · have : (off + k + 1) * ob.sz ≤ (off + len) * ob.sz := Nat.mul_le_mul_right _ (by omega)
                  rw [Nat.add_mul (off + k)] at this
                  omega
              · rw [List.getElem?_append_right (by omega), hlold] at hk
                obtain ⟨h0, v, h1, h2, h3⟩ := elem_laid r1 hf hk
                refine ⟨h0, v, h1, h2, fun j u hj => ⟨(h3 j u hj).1, ?_⟩⟩
                have hlaid := (h3 j u hj).2
                have hlt := (List.getElem?_eq_some_iff.1 hlaid).1
                rw [add_add hrel.spot]
                have := s2.cell (b.off + (off * ob.sz + (k * ob.sz + j)))
                rw [add_eq hrel.spot] at this
                rw [add_eq hrel.spot]
                simp only at this
                have e1 : off * ob.sz + k * ob.sz = (off + len) * ob.sz + (k - len) * ob.sz := by rw [← Nat.add_mul, ← Nat.add_mul]; congr 1; omega
                rw [this, if_pos (by omega)]
                rw [show b.off + (off * ob.sz + (k * ob.sz + j)) - (b.off + (off + len) * ob.sz) = (k - len) * ob.sz + j from by omega]
                exact hlaid)
            intro K Q hK
            unfold Oper.wp
            rw [hexec _ _ _ ev1]
            simp only [Sem.run_bind, r3]
            rw [add_add hrel.spot, ← Nat.add_mul, s1]
            simp only [Result.andThen_ok, Sem.run_pure, Oper.upon_value]
            refine hK _ _ _ ⟨hsim, ?_, by rw [put_size]; exact hs.size⟩ hext (put_defers' _ _ _)
            have hctx := hext.leCtx hs.sim.pl
            refine EnvRel.put (hs.env.mono hctx) (fun _ => ?_) (fun d h => by rw [hs.size]; exact hd d h)
            refine ⟨_, cap, rfl, by omega, _, hupd_same _ _ _, .inr ⟨rfl, by simp; omega, by omega, .inr ⟨b.add (off * ob.sz), by simp [ctx, φupd], by simp [Addr.add], by omega, ?_⟩⟩⟩
            have hbs := hctx.bs id b hb
            rw [add_eq hrel.spot]
            show b.off + off * ob.sz + (0 + cap) * ob.sz ≤ bsize w' b.block
            have : bsize w b.block ≤ bsize w' b.block := hbs
            have hrm' : b.off + (off + cap) * ob.sz ≤ bsize w b.block := hrm
            rw [Nat.add_mul] at hrm'
            rw [Nat.zero_add]
            omega
        · have hso : Src P (ctx w φ H) w sz ((ob.es.drop off).take len) (.slice bs len cap) := by
            refine elems_src (y := .ref id g n off len) hs.sim ⟨bs, cap, rfl, hlc, ob, hob, .inr ⟨q1, q2, q3, q4⟩⟩ ?_ ?_
            · simp only [elems, elemsOf, hob]
              rw [if_pos ⟨g1, g2, g3⟩]
            · have := obj_fits hrel
              rw [g5] at this
              exact fits_take (fits_drop this _) _
          have hfo : fits sz ((ob.es.drop off).take len) = true := by
            have := obj_fits hrel
            rw [g5] at this
            exact fits_take (fits_drop this _) _
          have := grow bs len cap ((ob.es.drop off).take len) id { ob with gen := (if off = 0 then g else g + 1), es := (ob.es.drop off).take len ++ new } (hs.sim.re _ _ hob) ev1 hso (by simp; omega) hroom hbig hfo rfl g5 g4 (by
            intro ob2 hob2
            rw [hob] at hob2
            obtain rfl := Option.some.inj hob2
            unfold Newer
            by_cases h0 : off = 0
            · right; simp [h0, g1]; omega
            · left; simp [h0]; omega)
          exact this
end
end Go.Am
