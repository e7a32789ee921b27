/- One operation of Go's code against one of the small machine: copy, clear; slices and structs that are made; strings and bytes. -/
import Derived.Test.YtgncfkcabphccaaA16
import Derived.Laws.MakeOwn
import Derived.Laws.BytesArg
import Derived.Laws.Tables
namespace Go.Am
set_option linter.unusedSimpArgs false
set_option linter.unusedVariables false
variable {P : Program}

theorem hupd_id {H : Heap} {id : Id} {ob : Obj} (h : H id = some ob) : hupd H id ob = H := by
  funext p
  unfold hupd
  split
  · rename_i e; subst e; exact h.symm
  · rfl

section
variable {o : Oper} {ops : Array Oper} {nt : Nat} {a : Act} {w : World} {φ : Id → Option Addr} {H : Heap} {nx : Nat} {E : AEnv} {T : Tab} {R : Run} {d : Nat}

/-- Elements of a live slice, written anew by an operation. -/
theorem does_elems {id : Id} {g n off len : Nat} {ob : Obj} {new : List AV} {vs : List Value} {bs : Option Addr} {cap : Nat} {v : AV} {rv : Value} {x' : AV}
    (hs : SR nt w φ ⟨E, H, nx⟩ a) (hd : ∀ d, o.dst = some d → d < nt) (hx : x' = .ref id g n off len) (hrel : VRel (ctx w φ H) x' (.slice bs len cap)) (hob : H id = some ob) (g1 : ob.gen = g) (g2 : ob.es.length = n) (g3 : off + len ≤ n) (g4 : ob.w = true)
    (hv : VTup (ctx w φ H) new vs) (hf : fits ob.sz new = true) (hle : new.length ≤ len)
    (hrun : ∀ w', (match bs with | some b => (storeCells b (laid vs)).run P w = .ok () w' | none => w' = w) → (execOp a.eval o).run P w = .ok (.value rv) w')
    (hrv : ∀ X, VRel X v rv) {nx' : Nat} :
    Does P o nt a w φ H o.dst E v (hupd H id { ob with es := ob.es.take off ++ new ++ ob.es.drop (off + new.length) }) nx' := by
  subst hx
  obtain ⟨bs', cap', e1, hlc, ob', hob', hq⟩ := hrel
  cases e1
  obtain rfl : ob = ob' := Option.some.inj (hob.symm.trans hob')
  obtain ⟨b, hb, hr⟩ := hs.sim.obj id ob hob
  rcases hq with hq | ⟨q1, q2, q3, q4⟩
  · unfold Stale at hq; omega
  · by_cases hz : new.length = 0
    · have hnil : new = [] := List.length_eq_zero_iff.1 hz
      subst hnil
      have hvs : vs = [] := by cases vs with | nil => rfl | cons => exact hv.elim
      subst hvs
      have he : hupd H id { ob with es := ob.es.take off ++ [] ++ ob.es.drop (off + ([] : List AV).length) } = H := by
        simp only [List.append_nil, List.length_nil, Nat.add_zero, List.take_append_drop]
        exact hupd_id hob
      rw [he]
      have hw : (execOp a.eval o).run P w = .ok (.value rv) w := by
        refine hrun w ?_
        cases bs with
        | none => rfl
        | some b => rfl
      exact does_pure hw hs (hrv _) hd
    · rcases q4 with ⟨c0, _⟩ | ⟨b', hb', rfl, hn, hroom⟩
      · omega
      · obtain rfl : b = b' := Option.some.inj (hb.symm.trans hb')
        have hrm : b.off + (off + new.length) * ob.sz ≤ bsize w b.block := by
          refine Nat.le_trans (Nat.add_le_add_left (Nat.mul_le_mul_right _ ?_) _) hroom
          omega
        obtain ⟨w', s1, s2⟩ := run_store_ref (P := P) hs.sim hob g4 hb hv hf hrm
        obtain ⟨hext, hsim⟩ := sim_elems (off := off) hs.sim hob g4 hb hv hf (by omega) s2
        intro K Q hK
        unfold Oper.wp
        rw [hrun w' s1, Oper.upon_value]
        refine hK _ _ φ ⟨hsim, ?_, by rw [put_size]; exact hs.size⟩ hext (put_defers' _ _ _)
        exact EnvRel.put (hs.env.mono (hext.leCtx hs.sim.pl)) (fun _ => hrv _) (fun d h => by rw [hs.size]; exact hd d h)

theorem does_copy {c : Call} {x y : Operand} {x' : Opd} {t u e : TypeId} {new : List AV} {id : Id} {g n off len : Nat} {ob : Obj} {m : Nat}
    (ho : o.op = .call c) (hc : c.callee = .builtin .copy) (hargs : c.args = #[x, y]) (hty : c.argTypes = #[t, u]) (he : elemT P t = some e) (hsz : sizeT P e = some ob.sz) (hx : opdOf x = some x')
    (hs : SR nt w φ ⟨E, H, nx⟩ a) (hd : ∀ d, o.dst = some d → d < nt) (hsrc : Src P (ctx w φ H) w ob.sz new (a.eval y)) (hf : fits ob.sz new = true)
    (ex : ev E x' = .ref id g n off len) (hob : H id = some ob) (g1 : ob.gen = g) (g2 : ob.es.length = n) (g3 : off + len ≤ n) (g4 : ob.w = true) (hm : m = min len new.length) {nx' : Nat} :
    Does P o nt a w φ H o.dst E (gInt m) (hupd H id { ob with es := ob.es.take off ++ new.take m ++ ob.es.drop (off + m) }) nx' := by
  have h1 : VRel (ctx w φ H) (ev E x') (a.eval x) := opd_rel hs.env hx
  have h1' := h1
  rw [ex] at h1'
  obtain ⟨bs, cap, ev1, hlc, _⟩ := h1'
  obtain ⟨vs, k1, k2, k3⟩ := hsrc.vals
  have hf0 : (Builtin.firstCells ob.sz m (a.eval y)).run P w = .ok (laid (vs.take m)).toArray w := k3 m w.drawn (by omega)
  have hlt : (new.take m).length = m := by simp; omega
  have hund := elemT_und he
  rw [ev1] at h1
  have := does_elems (o := o) (P := P) (new := new.take m) (vs := vs.take m) (v := gInt m) (rv := .int .i64 m) (nx' := nx') hs hd ex h1 hob g1 g2 g3 g4 (k1.take m) (fits_take hf m) (by rw [hlt]; omega) ?_ (fun _ => ⟨rfl, rfl⟩)
  · rw [hlt] at this; exact this
  · intro w' hw'
    simp only [execOp, ho, resolve, hc, hargs, hty, invoke, builtin, List.map_toArray, List.map_cons, List.map_nil, ev1]
    have hmin : Nat.min new.length len = m := by rw [hm]; show min new.length len = _; omega
    cases bs with
    | none =>
      simp only at hw'
      subst hw'
      simp [Builtin.copy_, run_underlying hund, hsrc.len, hmin, run_sizeOf hsz, hf0, goInt]
    | some b =>
      simp only at hw'
      simp [Builtin.copy_, run_underlying hund, hsrc.len, hmin, run_sizeOf hsz, hf0, goInt, hw']

theorem does_clear {c : Call} {x : Operand} {x' : Opd} {t e : TypeId} {z : AV} {v0 : AV}
    (ho : o.op = .call c) (hc : c.callee = .builtin .clear) (hargs : c.args = #[x]) (hty : c.argTypes = #[t]) (he : elemT P t = some e) (hz : zeroT P e = some z) (hx : opdOf x = some x')
    (hs : SR nt w φ ⟨E, H, nx⟩ a) (hd : ∀ d, o.dst = some d → d < nt) {H' : Heap} (hv : v0 = .tup [])
    (hcase : (ev E x' = .nils ∧ H' = H) ∨ (∃ id g n off len ob, ev E x' = .ref id g n off len ∧ H id = some ob ∧ ob.gen = g ∧ ob.es.length = n ∧ off + len ≤ n ∧ ob.w = true ∧ z.cells.length = ob.sz ∧ stor z = true ∧
      H' = hupd H id { ob with es := ob.es.take off ++ List.replicate len z ++ ob.es.drop (off + len) })) {nx' : Nat} :
    Does P o nt a w φ H o.dst E v0 H' nx' := by
  subst hv
  have h1 : VRel (ctx w φ H) (ev E x') (a.eval x) := opd_rel hs.env hx
  have hund := elemT_und he
  obtain ⟨i, v, hi, hzv, hvo, hlen⟩ := zeroT_info hz
  rcases hcase with ⟨ex, rfl⟩ | ⟨id, g, n, off, len, ob, ex, hob, g1, g2, g3, g4, g5, g6, rfl⟩
  · rw [ex] at h1
    have h1' : a.eval x = .slice none 0 0 := h1
    refine does_pure (v := .tup []) (x := .tuple #[]) ?_ hs ⟨[], rfl, trivial⟩ hd
    simp only [execOp, ho, resolve, hc, hargs, hty, invoke, builtin, List.map_toArray, List.map_cons, List.map_nil, h1']
    simp [Builtin.clear_, run_underlying hund]
  · have h1' := h1
    rw [ex] at h1'
    obtain ⟨bs, cap, ev1, hlc, _⟩ := h1'
    rw [ev1] at h1
    have hzr := valOf_rel (ctx w φ H) hvo
    obtain ⟨f1, f2⟩ := fit_cells hzr g6
    have hfit : fits ob.sz (List.replicate len z) = true := by
      unfold fits; rw [List.all_eq_true]
      intro q hq
      obtain rfl := List.eq_of_mem_replicate hq
      simp [g6, g5]
    have hvt : ∀ k : Nat, VTup (ctx w φ H) (List.replicate k z) (List.replicate k v) := by
      intro k
      induction k with
      | zero => trivial
      | succ k ih => exact ⟨hzr, ih⟩
    replace hvt := hvt len
    have hlaid : laid (List.replicate len v) = (Builtin.zeroCells v.cells len).toList := by
      have hsz := fits_vals hvt hfit
      have hpos : 0 < v.cells.size := by
        obtain ⟨b, _, hr⟩ := hs.sim.obj id ob hob
        have := hr.pos; omega
      apply List.ext_getElem?
      intro k
      by_cases hk : k < len * v.cells.size
      · have h3 : k / v.cells.size < len := by rw [Nat.div_lt_iff_lt_mul hpos]; exact hk
        have h4 : k % v.cells.size < v.cells.size := Nat.mod_lt _ hpos
        have := laid_at (sz := ob.sz) hsz (i := k / v.cells.size) (v := v) (by simp [h3]) (k % v.cells.size) v.cells[k % v.cells.size] (by simp [h4])
        rw [show k / v.cells.size * ob.sz + k % v.cells.size = k from by
          have := Nat.div_add_mod k v.cells.size
          rw [show ob.sz = v.cells.size from by omega, Nat.mul_comm]; exact this] at this
        rw [this]
        simp [Builtin.zeroCells, hk, h4]
      · rw [List.getElem?_eq_none (by rw [laid_length hsz]; simp; rw [show ob.sz = v.cells.size from by omega]; omega)]
        rw [List.getElem?_eq_none (by simp [zeroCells_size]; omega)]
    have := does_elems (o := o) (P := P) (new := List.replicate len z) (vs := List.replicate len v) (v := .tup []) (rv := .tuple #[]) (nx' := nx') hs hd ex h1 hob g1 g2 g3 g4 hvt hfit (by simp) ?_ (fun _ => ⟨[], rfl, trivial⟩)
    · simpa using this
    · intro w' hw'
      simp only [execOp, ho, resolve, hc, hargs, hty, invoke, builtin, List.map_toArray, List.map_cons, List.map_nil, ev1]
      cases bs with
      | none =>
        simp only at hw'
        subst hw'
        simp [Builtin.clear_, run_underlying hund]
      | some b =>
        simp only at hw'
        cases len with
        | zero =>
          have : w' = w := by
            simp [laid, storeCells] at hw'
            exact hw'.symm
          subst this
          simp [Builtin.clear_, run_underlying hund]
        | succ k =>
          rw [hlaid] at hw'
          simp [Builtin.clear_, run_underlying hund, zeroValue, typeInfo, hi, hzv, hw']

theorem does_mksl {t e : TypeId} {l c : Operand} {z : AV} {sz : Nat} {m : Int} (ho : o.op = .makeSlice t l c) (he : elemT P t = some e) (hz : zeroT P e = some z) (hsz : sizeT P e = some sz)
    (hl : isInt (some (a.eval l)) (some m)) (hcc : isInt (some (a.eval c)) (some m))
    (hs : SR nt w φ ⟨E, H, nx⟩ a) (hd : ∀ d, o.dst = some d → d < nt) (h0 : 0 ≤ m) (hbig : m * sz ≤ 4294967296) (hst : stor z = true) {id : Id} {nx' : Nat} (hre : id.real := by trivial) :
    Does P o nt a w φ H o.dst E (.ref id (genAt H id) m.toNat 0 m.toNat) (hupd H id ⟨genAt H id, sz, true, List.replicate m.toNat z⟩) nx' := by
  obtain ⟨i, v, hi, hzv, hvo, hlen⟩ := zeroT_info hz
  obtain ⟨i', hi', hsi, hpos, hby⟩ := sizeT_info hsz
  obtain rfl : i = i' := Option.some.inj (hi.symm.trans hi')
  have hzr := valOf_rel (ctx w φ H) hvo
  obtain ⟨f1, f2⟩ := fit_cells hzr hst
  rcases hl with ⟨e1, _⟩ | ⟨kl, il, e1, e2⟩
  · cases e1
  rcases hcc with ⟨e3, _⟩ | ⟨kc, ic, e3, e4⟩
  · cases e3
  cases e2; cases e4
  have e1' := Option.some.inj e1
  have e3' := Option.some.inj e3
  have hmsz : m ≤ m * sz := by
    have : m * 1 ≤ m * sz := Int.mul_le_mul_of_nonneg_left (by omega) h0
    simpa using this
  have hmN : (m.toNat : Int) = m := Int.toNat_of_nonneg h0
  have hbytes : (i.bytes : Int) * m ≤ 281474976710656 := by
    have h1 : (i.bytes : Int) * m ≤ (32 * sz : Nat) * m := Int.mul_le_mul_of_nonneg_right (by omega) h0
    have h2 : ((32 * sz : Nat) : Int) * m = 32 * (m * sz) := by push_cast; rw [Int.mul_assoc, Int.mul_comm (sz : Int)]
    omega
  have hrun := run_make (P := P) w t e i v (elemT_und he) hi hzv kl kc m m h0 (Int.le_refl _) hbytes (by omega)
  refine does_new (x := .slice (some ⟨w.heap.size, 0, none⟩) m.toNat m.toNat) (cells := madeCells v.cells (m.toNat * i.size)) (e := e) (lo := 0) (hi := 0) (dr := w.drawn) ?_ hs hd (genAt_newer rfl) hre (.inl (Nat.le_refl _)) hpos ?_ ?_
  · simp only [execOp, ho, e1', e3', Sem.run_bind, hrun, Result.andThen_ok, Sem.run_pure]
    rfl
  · intro k xx hk
    rw [List.getElem?_replicate] at hk
    split at hk
    · rename_i hkl
      obtain rfl := Option.some.inj hk
      refine ⟨hst, v, hzr, by simp only; omega, fun j u hj => ⟨f2 j u hj, ?_⟩⟩
      have hjlt : j < v.cells.size := by
        rcases Nat.lt_or_ge j v.cells.size with h | h
        · exact h
        · simp [Array.getElem?_eq_none h] at hj
      have hvs : v.cells.size = sz := by omega
      have hlt : k * sz + j < m.toNat * i.size := by
        have : (k + 1) * sz ≤ m.toNat * sz := Nat.mul_le_mul_right _ hkl
        rw [Nat.add_mul] at this
        rw [hsi]; omega
      simp only [madeCells]
      simp only [Array.getElem?_map]
      rw [Array.getElem?_eq_getElem (by simpa using hlt)]
      simp only [Array.getElem_range, Option.map_some]
      rw [hvs, Nat.mul_comm k sz, Nat.mul_add_mod, Nat.mod_eq_of_lt (by omega)]
      rw [← hj]
      simp [hjlt]
    · cases hk
  · refine ⟨_, _, rfl, Nat.le_refl _, _, hupd_same _ _ _, .inr ⟨rfl, by simp, by omega, .inr ⟨⟨w.heap.size, 0, none⟩, by simp [ctx, φupd], by simp [Addr.add], by omega, ?_⟩⟩⟩
    have hbs : bsize (World.row w (madeCells v.cells (m.toNat * i.size)) e 0 0) w.heap.size = m.toNat * i.size := by
      simp only [bsize, row_new, size_madeCells]
    show 0 + (0 + m.toNat) * sz ≤ bsize (World.row w (madeCells v.cells (m.toNat * i.size)) e 0 0) w.heap.size
    rw [hbs, hsi, Nat.zero_add, Nat.zero_add]
    exact Nat.le_refl _
end
end Go.Am
