/- One operation of Go's code against one of the small machine: reading, new variables, storing. -/
import Derived.Test.YtgncfkcabphccaaA11
import Derived.Laws.Cells
namespace Go.Am
set_option linter.unusedSimpArgs false
set_option linter.unusedVariables false
variable {P : Program}

theorem run_loadCells' {w : World} {a : Addr} {n : Nat} {vs : List Value} (hl : vs.length = n) (h : ∀ (j : Nat) (v : Value), vs[j]? = some v → w.cell? (a.add j) = some v) : (loadCells a n).run P w = .ok vs.toArray w := by
  subst hl
  exact run_loadCells_list (P := P) w a vs h

theorem stor_ne {x : AV} (h : stor x = true) : x ≠ .undef ∧ ∀ l, x ≠ .tup l := by
  cases x <;> simp [stor] at h ⊢

theorem isAgg_rel {X : Ctx} {x : AV} {v : Value} (h : VRel X x v) (ha : x.isAgg = true) : ∃ vs : List Value, v = .agg vs.toArray ∧ VRels X x.cells vs := by
  cases x with
  | agg cs => exact h
  | c t =>
    cases t with
    | agg cs => obtain ⟨vs, e, hr⟩ := h; exact ⟨vs, e, TRels.toV hr⟩
    | _ => simp [AV.isAgg] at ha
  | _ => simp [AV.isAgg] at ha

theorem VRels.one {X : Ctx} : ∀ {l : List AV} {vs : List Value}, VRels X l vs → ∀ {j : Nat} {u : Value}, vs[j]? = some u → oneCell u = true
  | [], [], _, _, _, h => by simp at h
  | _ :: _, v :: _, hr, 0, _, h => by simp at h; subst h; exact hr.2.1
  | _ :: _, _ :: _, hr, j + 1, _, h => VRels.one hr.2.2 (j := j) (by simpa using h)
  | [], _ :: _, hr, _, _, _ => hr.elim
  | _ :: _, [], hr, _, _, _ => hr.elim

/-- An element that fits: its value's cells. -/
theorem fit_cells {X : Ctx} {x : AV} {v : Value} (h : VRel X x v) (hst : stor x = true) : v.cells.size = x.cells.length ∧ ∀ (j : Nat) (u : Value), v.cells[j]? = some u → oneCell u = true := by
  obtain ⟨n1, n2⟩ := stor_ne hst
  have hcl := VRel.cells h n1 n2
  refine ⟨?_, fun j u hj => hcl.one (j := j) (by simpa using hj)⟩
  have := hcl.length
  simp at this
  exact this.symm

section
variable {o : Oper} {ops : Array Oper} {nt : Nat} {a : Act} {w : World} {φ : Id → Option Addr} {H : Heap} {nx : Nat} {E : AEnv} {T : Tab} {R : Run} {d : Nat}

/-- What is read where an address points. -/
theorem load_rel {t : TypeId} {ag : Bool} {n : Nat} {x v : AV} {p : Value} (hag : aggT P t = some ag) (hn : sizeT P t = some n) (hs : Sim w φ H) (hp : VRel (ctx w φ H) x p) (hv : loadV H ag n x = some v) :
    ∃ u, (Instr.loadAt t p).run P w = .ok u w ∧ VRel (ctx w φ H) v u := by
  have hrunA : ∀ (ad : Addr) (vs : List Value), ag = true → vs.length = n → (∀ (j : Nat) (z : Value), vs[j]? = some z → w.cell? (ad.add j) = some z) →
      (Instr.loadAt t (.pointer (some ad))).run P w = .ok (.agg vs.toArray) w := by
    intro ad vs e hl hc
    subst e
    simp only [Instr.loadAt, Instr.sureAddr, Sem.run_bind, Sem.run_pure, Result.andThen_ok, loadVar, run_isAgg hag, if_true, run_sizeOf hn, run_loadCells' hl hc]
  have hrunO : ∀ (ad : Addr) (z : Value), ag = false → w.cell? ad = some z → (Instr.loadAt t (.pointer (some ad))).run P w = .ok z w := by
    intro ad z e hc
    subst e
    simp only [Instr.loadAt, Instr.sureAddr, Sem.run_bind, Sem.run_pure, Result.andThen_ok, loadVar, run_isAgg hag, Bool.false_eq_true, if_false]
    simp [hc]
  cases x with
  | tptr y off =>
    obtain ⟨u, b, rfl, hsp, hr, hm⟩ := hp
    have hm' : ∀ (j : Nat) (z : Value), u.cells[j]? = some z → w.cell? (b.add j) = some z := fun j z hj => (imm_some.1 (hm j z hj)).2
    simp only [loadV] at hv
    split at hv
    · rename_i hagt
      split at hv
      · rename_i cs
        obtain ⟨vs, rfl, hrs⟩ := hr
        have hlen := hrs.length
        have hcells : ∀ (k : Nat), (∀ (j : Nat) (z : Value), ((vs.drop off).take k)[j]? = some z → w.cell? ((b.add off).add j) = some z) := by
          intro k j z hj
          rw [add_add hsp]
          apply hm'
          simp only [Value.cells]
          rw [List.getElem?_take] at hj
          split at hj
          · rw [List.getElem?_drop] at hj
            simpa using hj
          · cases hj
        split at hv
        · rename_i hc
          obtain rfl := Option.some.inj hv
          obtain ⟨rfl, hcl⟩ := hc
          refine ⟨_, hrunA _ vs hagt (by omega) ?_, ⟨vs, rfl, hrs⟩⟩
          intro j z hj
          have := hcells vs.length j z (by simpa using hj)
          exact this
        · split at hv
          · rename_i hle
            obtain rfl := Option.some.inj hv
            refine ⟨_, hrunA _ ((vs.drop off).take n) hagt (by simp; omega) (hcells n), ?_⟩
            have h1 : TRels (imm w φ H) ((cs.drop off).take n) ((vs.drop off).take n) := by
              have hd : ∀ (l : List TV) (q : List Value) (k : Nat), TRels (imm w φ H) l q → TRels (imm w φ H) (l.drop k) (q.drop k) := by
                intro l
                induction l with
                | nil => intro q k h; cases q with | nil => simp [TRels] | cons => exact h.elim
                | cons z l ih => intro q k h; cases q with
                  | nil => exact h.elim
                  | cons y q => cases k with
                    | zero => exact h
                    | succ k => simpa using ih q k h.2.2
              have ht : ∀ (l : List TV) (q : List Value) (k : Nat), TRels (imm w φ H) l q → TRels (imm w φ H) (l.take k) (q.take k) := by
                intro l
                induction l with
                | nil => intro q k h; cases q with | nil => simp [TRels] | cons => exact h.elim
                | cons z l ih => intro q k h; cases q with
                  | nil => exact h.elim
                  | cons y q => cases k with
                    | zero => simp [TRels]
                    | succ k => simpa using ⟨h.1, h.2.1, ih q k h.2.2⟩
              exact ht _ _ _ (hd _ _ _ hrs)
            exact ⟨_, rfl, h1⟩
          · cases hv
      · cases hv
    · rename_i hagf
      have hagf : ag = false := by simpa using hagf
      split at hv
      · rename_i z hz
        obtain rfl := Option.some.inj hv
        have hc := TRels.toV (X := ctx w φ H) (TRel.cells hr)
        obtain ⟨q, hq, hrel, _⟩ := hc.at (i := off) (x := .c z) (by simp [hz])
        refine ⟨q, hrunO _ _ hagf (hm' off q (by simpa using hq)), hrel⟩
      · cases hv
  | ptr q g m i off =>
    obtain ⟨ad, rfl, ob, hob, hq⟩ := hp
    have hob' : H q = some ob := hob
    simp only [loadV, hob'] at hv
    split at hv
    · rename_i hc
      rcases hq with hq | ⟨q1, q2, b, hb, rfl⟩
      · unfold Stale at hq; omega
      · obtain ⟨b', hb', hrel⟩ := hs.obj _ _ hob'
        obtain rfl : b = b' := Option.some.inj (hb.symm.trans hb')
        split at hv
        · rename_i x hx
          obtain ⟨hst, u, hu, hsz, hcs⟩ := hrel.el i x hx
          have hcell : ∀ (j : Nat) (z : Value), u.cells[j]? = some z → w.cell? ((b.add (i * ob.sz)).add j) = some z := by
            intro j z hj
            rw [add_add hrel.spot]
            exact (hcs j z hj).2
          have hsp2 := add_spot hrel.spot (i * ob.sz)
          obtain ⟨n1, n2⟩ := stor_ne hst
          have hcl := VRel.cells hu n1 n2
          split at hv
          · rename_i hagt
            split at hv
            · rename_i hxa
              obtain ⟨vs, rfl, hrs⟩ := isAgg_rel hu hxa
              have hlen := hrs.length
              simp only [Value.cells] at hsz hcell
              simp at hsz
              split at hv
              · rename_i hz
                obtain rfl := Option.some.inj hv
                obtain ⟨rfl, rfl⟩ := hz
                refine ⟨.agg vs.toArray, hrunA _ vs hagt hsz ?_, hu⟩
                intro j z hj
                exact hcell j z (by simpa using hj)
              · split at hv
                · rename_i hle
                  obtain rfl := Option.some.inj hv
                  refine ⟨.agg ((vs.drop off).take n).toArray, hrunA _ ((vs.drop off).take n) hagt (by simp; omega) ?_, ⟨_, rfl, (hrs.drop _).take _⟩⟩
                  intro j z hj
                  rw [List.getElem?_take] at hj
                  split at hj
                  · rw [List.getElem?_drop] at hj
                    have := hcell (off + j) z (by simpa using hj)
                    rw [add_add hrel.spot] at this ⊢
                    rw [show i * ob.sz + off + j = i * ob.sz + (off + j) from by omega]
                    exact this
                  · cases hj
                · cases hv
            · cases hv
          · rename_i hagf
            have hagf : ag = false := by simpa using hagf
            obtain ⟨z, hz, hrz, _⟩ := hcl.at hv
            refine ⟨z, hrunO _ _ hagf ?_, hrz⟩
            have := hcell off z (by simpa using hz)
            rw [add_add hrel.spot] at this
            exact this
        · cases hv
    · cases hv
  | _ => simp [loadV] at hv

theorem does_load {t : TypeId} {x : Operand} {x' : Opd} {ag : Bool} {n : Nat} {v : AV} (ho : o.op = .load t x) (hag : aggT P t = some ag) (hn : sizeT P t = some n) (hx : opdOf x = some x')
    (hs : SR nt w φ ⟨E, H, nx⟩ a) (hd : ∀ d, o.dst = some d → d < nt) (hv : loadV H ag n (ev E x') = some v) : Does P o nt a w φ H o.dst E v H nx := by
  obtain ⟨u, hr, hu⟩ := load_rel hag hn hs.sim (opd_rel hs.env hx) hv
  refine does_pure (x := u) ?_ hs hu hd
  simp only [execOp, ho, Sem.run_bind, hr, Result.andThen_ok, Sem.run_pure]

/-- A value that is made in a new row. -/
theorem does_new {v : AV} {x : Value} {id : Id} {ob : Obj} {cells : Array Value} {e : TypeId} {lo hi dr : Nat} (hr : (execOp a.eval o).run P w = .ok (.value x) (World.row { w with drawn := dr } cells e lo hi))
    (hs : SR nt w φ ⟨E, H, nx⟩ a) (hd : ∀ d, o.dst = some d → d < nt) (hn : ∀ y, H id = some y → Newer ob y) (hre : id.real) (hfr : hi ≤ lo ∨ cells.size ≤ lo) (hpos : 0 < ob.sz)
    (hel : ∀ (i : Nat) (x : AV), ob.es[i]? = some x → stor x = true ∧ ∃ v, VRel (ctx w φ H) x v ∧ v.cells.size = ob.sz ∧ ∀ (j : Nat) (u : Value), v.cells[j]? = some u → oneCell u = true ∧ cells[i * ob.sz + j]? = some u)
    (hv : VRel (ctx (World.row w cells e lo hi) (φupd φ id ⟨w.heap.size, 0, none⟩) (hupd H id ob)) v x) {nx' : Nat} :
    Does P o nt a w φ H o.dst E v (hupd H id ob) nx' := by
  intro K Q hK
  unfold Oper.wp
  rw [hr, Oper.upon_value]
  obtain ⟨hext, hsim⟩ := sim_new (e := e) hs.sim hn hre hfr hpos hel
  refine hK _ _ (φupd φ id ⟨w.heap.size, 0, none⟩) ⟨?_, ?_, by rw [put_size]; exact hs.size⟩ ?_ (put_defers' _ _ _)
  · exact ⟨hsim.pl, fun p c hp => (let ⟨b, h1, h2⟩ := hsim.obj p c hp; ⟨b, h1, h2.spot, h2.lt, h2.pos, h2.el, h2.fr⟩), hsim.sep, hsim.re, hsim.sx⟩
  · refine EnvRel.put (X := ctx (World.row w cells e lo hi) (φupd φ id ⟨w.heap.size, 0, none⟩) (hupd H id ob)) (hs.env.mono (hext.leCtx hs.sim.pl)) (fun _ => hv) (fun d h => by rw [hs.size]; exact hd d h)
  · exact ⟨hext.os, hext.tape, hext.output, hext.size, hext.fr, hext.mu, hext.bs, hext.ob, hext.ex, hext.exh⟩

theorem genAt_newer {id : Id} {ob : Obj} (hg : ob.gen = genAt H id) : ∀ y, H id = some y → Newer ob y := by
  intro y hy
  left
  rw [hg]
  simp [genAt, hy]

theorem row_eq (w : World) (cells : Array Value) (e : TypeId) : ({ w with heap := w.heap.push (.cells cells e) } : World) = World.row { w with drawn := w.drawn } cells e 0 0 := rfl

theorem does_box {t : TypeId} {x : Operand} {x' : Opd} (ho : o.op = .box t x) (hx : opdOf x = some x') (hs : SR nt w φ ⟨E, H, nx⟩ a) (hd : ∀ d, o.dst = some d → d < nt) (hst : stor (ev E x') = true) (hpos : 0 < (ev E x').cells.length) {id : Id} (hre : id.real := by trivial) :
    Does P o nt a w φ H o.dst E (.ptr id (genAt H id) 1 0 0) (hupd H id ⟨genAt H id, (ev E x').cells.length, true, [ev E x']⟩) nx := by
  have h1 := opd_rel hs.env hx
  obtain ⟨f1, f2⟩ := fit_cells h1 hst
  refine does_new (x := .pointer (some ⟨w.heap.size, 0, none⟩)) (cells := (a.eval x).cells) (e := t) (lo := 0) (hi := 0) (dr := w.drawn) ?_ hs hd (genAt_newer rfl) hre (.inl (Nat.le_refl _)) hpos ?_ ?_
  · simp only [execOp, ho, Instr.box, newVar, newRow, Sem.run_bind, run_newObj, Result.andThen_ok, Sem.run_pure]
    rfl
  · intro i y hy
    cases i with
    | succ i => simp at hy
    | zero =>
      simp at hy
      subst hy
      exact ⟨hst, a.eval x, h1, f1, fun j u hj => ⟨f2 j u hj, by simpa using hj⟩⟩
  · exact ⟨_, rfl, _, hupd_same _ _ _, .inr ⟨rfl, rfl, ⟨w.heap.size, 0, none⟩, by simp [ctx, φupd], by simp [Addr.add]⟩⟩

theorem zeroT_info {t : TypeId} {z : AV} (h : zeroT P t = some z) : ∃ i v, P.info? t = some i ∧ i.zero = some v ∧ valOf v = some z ∧ z.cells.length = i.size := by
  unfold zeroT at h
  split at h
  · rename_i i hi
    split at h
    · rename_i v hv
      split at h
      · rename_i z' hz
        split at h
        · rename_i hl
          obtain rfl := Option.some.inj h
          exact ⟨i, v, hi, hv, hz, hl⟩
        · cases h
      · cases h
    · cases h
  · cases h

theorem does_alloc {t : TypeId} {z : AV} (ho : o.op = .alloc t) (hz : zeroT P t = some z) (hs : SR nt w φ ⟨E, H, nx⟩ a) (hd : ∀ d, o.dst = some d → d < nt) (hst : stor z = true) (hpos : 0 < z.cells.length) {id : Id} (hre : id.real := by trivial) :
    Does P o nt a w φ H o.dst E (.ptr id (genAt H id) 1 0 0) (hupd H id ⟨genAt H id, z.cells.length, true, [z]⟩) nx := by
  obtain ⟨i, v, hi, hv, hvo, hlen⟩ := zeroT_info hz
  have h1 := valOf_rel (ctx w φ H) hvo
  obtain ⟨f1, f2⟩ := fit_cells h1 hst
  refine does_new (x := .pointer (some ⟨w.heap.size, 0, none⟩)) (cells := v.cells) (e := t) (lo := 0) (hi := 0) (dr := w.drawn) ?_ hs hd (genAt_newer rfl) hre (.inl (Nat.le_refl _)) hpos ?_ ?_
  · simp only [execOp, ho, Instr.alloc, zeroValue, typeInfo, Sem.run_bind, run_program, Result.andThen_ok, hi, hv, Sem.run_pure, newVar, newRow, run_newObj]
    rfl
  · intro i y hy
    cases i with
    | succ i => simp at hy
    | zero =>
      simp at hy
      subst hy
      exact ⟨hst, v, h1, f1, fun j u hj => ⟨f2 j u hj, by simpa using hj⟩⟩
  · exact ⟨_, rfl, _, hupd_same _ _ _, .inr ⟨rfl, rfl, ⟨w.heap.size, 0, none⟩, by simp [ctx, φupd], by simp [Addr.add]⟩⟩

/-- Elements laid one behind the other. -/
def laid (vs : List Value) : List Value := vs.flatMap fun v => v.cells.toList

theorem laid_at {sz : Nat} : ∀ {vs : List Value}, (∀ v ∈ vs, v.cells.size = sz) → ∀ {i : Nat} {v : Value}, vs[i]? = some v → ∀ (j : Nat) (u : Value), v.cells[j]? = some u → (laid vs)[i * sz + j]? = some u
  | [], _, i, v, h, _, _, _ => by simp at h
  | x :: r, hsz, 0, v, h, j, u, hj => by
    simp at h; subst h
    have hlt : j < x.cells.size := by
      rcases Nat.lt_or_ge j x.cells.size with h | h
      · exact h
      · simp [Array.getElem?_eq_none h] at hj
    simp only [laid, List.flatMap_cons, Nat.zero_mul, Nat.zero_add]
    rw [List.getElem?_append_left (by simpa using hlt)]
    simpa using hj
  | x :: r, hsz, i + 1, v, h, j, u, hj => by
    have := laid_at (vs := r) (fun v hv => hsz v (by simp [hv])) (i := i) (v := v) (by simpa using h) j u hj
    simp only [laid, List.flatMap_cons] at this ⊢
    have hx := hsz x (by simp)
    rw [List.getElem?_append_right (by simp [hx, Nat.add_mul]; omega)]
    rw [show (i + 1) * sz + j - x.cells.toList.length = i * sz + j from by simp [hx, Nat.add_mul]; omega]
    exact this

theorem laid_length {sz : Nat} : ∀ {vs : List Value}, (∀ v ∈ vs, v.cells.size = sz) → (laid vs).length = vs.length * sz
  | [], _ => by simp [laid]
  | x :: r, h => by
    have := laid_length (vs := r) (fun v hv => h v (by simp [hv]))
    simp only [laid, List.flatMap_cons, List.length_append, List.length_cons] at this ⊢
    rw [this]
    have hx := h x (by simp)
    simp [hx, Nat.add_mul]; omega

theorem VTup.at {X : Ctx} : ∀ {l : List AV} {vs : List Value}, VTup X l vs → ∀ {i : Nat} {x : AV}, l[i]? = some x → ∃ v, vs[i]? = some v ∧ VRel X x v
  | [], [], _, _, _, h => by simp at h
  | _ :: _, v :: _, hr, 0, _, h => by simp at h; subst h; exact ⟨v, rfl, hr.1⟩
  | _ :: _, _ :: _, hr, i + 1, _, h => by simpa using VTup.at hr.2 (i := i) (by simpa using h)
  | [], _ :: _, hr, _, _, _ => hr.elim
  | _ :: _, [], hr, _, _, _ => hr.elim

theorem fits_mem {sz : Nat} {l : List AV} (h : fits sz l = true) {x : AV} (hx : x ∈ l) : stor x = true ∧ x.cells.length = sz := by
  unfold fits at h
  rw [List.all_eq_true] at h
  have := h x hx
  simp at this
  exact this

/-- Elements that fit, and their values. -/
theorem fits_vals {X : Ctx} {sz : Nat} : ∀ {l : List AV} {vs : List Value}, VTup X l vs → fits sz l = true → ∀ v ∈ vs, v.cells.size = sz
  | [], [], _, _ => by simp
  | x :: r, v :: q, hr, hf => by
    intro u hu
    rcases List.mem_cons.1 hu with rfl | hu
    · obtain ⟨h1, h2⟩ := fits_mem hf (x := x) (by simp)
      rw [(fit_cells hr.1 h1).1, h2]
    · refine fits_vals hr.2 ?_ u hu
      unfold fits at hf ⊢
      simp only [List.all_cons, Bool.and_eq_true] at hf
      exact hf.2
  | [], _ :: _, hr, _ => hr.elim
  | _ :: _, [], hr, _ => hr.elim

theorem elem_laid {X : Ctx} {sz : Nat} {l : List AV} {vs : List Value} (hr : VTup X l vs) (hf : fits sz l = true) {i : Nat} {x : AV} (hx : l[i]? = some x) :
    stor x = true ∧ ∃ v, VRel X x v ∧ v.cells.size = sz ∧ ∀ (j : Nat) (u : Value), v.cells[j]? = some u → oneCell u = true ∧ (laid vs)[i * sz + j]? = some u := by
  obtain ⟨v, hv, hrel⟩ := hr.at hx
  obtain ⟨h1, h2⟩ := fits_mem hf (List.mem_of_getElem? hx)
  obtain ⟨f1, f2⟩ := fit_cells hrel h1
  exact ⟨h1, v, hrel, by omega, fun j u hj => ⟨f2 j u hj, laid_at (fits_vals hr hf) hv j u hj⟩⟩
end
end Go.Am
