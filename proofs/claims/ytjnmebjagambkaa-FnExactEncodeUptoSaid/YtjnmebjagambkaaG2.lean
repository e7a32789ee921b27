/- One operation of Go's code against one of the small machine: reading, new variables, storing. -/
import Derived.Test.YtjnmebjagambkaaG1
import Derived.Laws.Cells
import Derived.Laws.AppendOwn
import Derived.Laws.MakeOwn
import Derived.Laws.BytesArg
import Derived.Laws.Tables
namespace Go.Am
set_option linter.unusedSimpArgs false
set_option linter.unusedVariables false
variable {P : Program}

theorem run_loadCells' {w : World} {a : Addr} {n : Nat} {vs : List Value} (hl : vs.length = n) (h : ∀ (j : Nat) (v : Value), vs[j]? = some v → w.cell? (a.add j) = some v) : (loadCells a n).run P w = .ok vs.toArray w := by
  subst hl
  exact run_loadCells_list (P := P) w a vs h

theorem stor_ne {x : AV} (h : stor x = true) : x ≠ .undef ∧ ∀ l, x ≠ .tup l := by
  cases x <;> simp [stor] at h ⊢

theorem isAgg_rel {X : Ctx} {x : AV} {v : Value} (h : VRel X x v) (ha : x.isAgg = true) : ∃ vs : List Value, v = .agg vs.toArray ∧ VRels X x.cells vs := by
  cases x with
  | agg cs => exact h
  | c t =>
    cases t with
    | agg cs => obtain ⟨vs, e, hr⟩ := h; exact ⟨vs, e, TRels.toV hr⟩
    | _ => simp [AV.isAgg] at ha
  | _ => simp [AV.isAgg] at ha

theorem VRels.one {X : Ctx} : ∀ {l : List AV} {vs : List Value}, VRels X l vs → ∀ {j : Nat} {u : Value}, vs[j]? = some u → oneCell u = true
  | [], [], _, _, _, h => by simp at h
  | _ :: _, v :: _, hr, 0, _, h => by simp at h; subst h; exact hr.2.1
  | _ :: _, _ :: _, hr, j + 1, _, h => VRels.one hr.2.2 (j := j) (by simpa using h)
  | [], _ :: _, hr, _, _, _ => hr.elim
  | _ :: _, [], hr, _, _, _ => hr.elim

/-- An element that fits: its value's cells. -/
theorem fit_cells {X : Ctx} {x : AV} {v : Value} (h : VRel X x v) (hst : stor x = true) : v.cells.size = x.cells.length ∧ ∀ (j : Nat) (u : Value), v.cells[j]? = some u → oneCell u = true := by
  obtain ⟨n1, n2⟩ := stor_ne hst
  have hcl := VRel.cells h n1 n2
  refine ⟨?_, fun j u hj => hcl.one (j := j) (by simpa using hj)⟩
  have := hcl.length
  simp at this
  exact this.symm

section
variable {o : Oper} {ops : Array Oper} {nt : Nat} {a : Act} {w : World} {φ : Id → Option Addr} {H : Heap} {nx : Nat} {E : AEnv} {T : Tab} {R : Run} {d : Nat}

/-- What is read where an address points. -/
theorem load_rel {t : TypeId} {ag : Bool} {n : Nat} {x v : AV} {p : Value} (hag : aggT P t = some ag) (hn : sizeT P t = some n) (hs : Sim w φ H) (hp : VRel (ctx w φ H) x p) (hv : loadV H ag n x = some v) :
    ∃ u, (Instr.loadAt t p).run P w = .ok u w ∧ VRel (ctx w φ H) v u := by
  have hrunA : ∀ (ad : Addr) (vs : List Value), ag = true → vs.length = n → (∀ (j : Nat) (z : Value), vs[j]? = some z → w.cell? (ad.add j) = some z) →
      (Instr.loadAt t (.pointer (some ad))).run P w = .ok (.agg vs.toArray) w := by
    intro ad vs e hl hc
    subst e
    simp only [Instr.loadAt, Instr.sureAddr, Sem.run_bind, Sem.run_pure, Result.andThen_ok, loadVar, run_isAgg hag, if_true, run_sizeOf hn, run_loadCells' hl hc]
  have hrunO : ∀ (ad : Addr) (z : Value), ag = false → w.cell? ad = some z → (Instr.loadAt t (.pointer (some ad))).run P w = .ok z w := by
    intro ad z e hc
    subst e
    simp only [Instr.loadAt, Instr.sureAddr, Sem.run_bind, Sem.run_pure, Result.andThen_ok, loadVar, run_isAgg hag, Bool.false_eq_true, if_false]
    simp [hc]
  cases x with
  | tptr y off =>
    obtain ⟨u, b, rfl, hsp, hr, hm⟩ := hp
    have hm' : ∀ (j : Nat) (z : Value), u.cells[j]? = some z → w.cell? (b.add j) = some z := fun j z hj => (imm_some.1 (hm j z hj)).2
    simp only [loadV] at hv
    split at hv
    · rename_i hagt
      split at hv
      · rename_i cs
        obtain ⟨vs, rfl, hrs⟩ := hr
        have hlen := hrs.length
        have hcells : ∀ (k : Nat), (∀ (j : Nat) (z : Value), ((vs.drop off).take k)[j]? = some z → w.cell? ((b.add off).add j) = some z) := by
          intro k j z hj
          rw [add_add hsp]
          apply hm'
          simp only [Value.cells]
          rw [List.getElem?_take] at hj
          split at hj
          · rw [List.getElem?_drop] at hj
            simpa using hj
          · cases hj
        split at hv
        · rename_i hc
          obtain rfl := Option.some.inj hv
          obtain ⟨rfl, hcl⟩ := hc
          refine ⟨_, hrunA _ vs hagt (by omega) ?_, ⟨vs, rfl, hrs⟩⟩
          intro j z hj
          have := hcells vs.length j z (by simpa using hj)
          exact this
        · split at hv
          · rename_i hle
            obtain rfl := Option.some.inj hv
            refine ⟨_, hrunA _ ((vs.drop off).take n) hagt (by simp; omega) (hcells n), ?_⟩
            have h1 : TRels (imm w φ H) ((cs.drop off).take n) ((vs.drop off).take n) := by
              have hd : ∀ (l : List TV) (q : List Value) (k : Nat), TRels (imm w φ H) l q → TRels (imm w φ H) (l.drop k) (q.drop k) := by
                intro l
                induction l with
                | nil => intro q k h; cases q with | nil => simp [TRels] | cons => exact h.elim
                | cons z l ih => intro q k h; cases q with
                  | nil => exact h.elim
                  | cons y q => cases k with
                    | zero => exact h
                    | succ k => simpa using ih q k h.2.2
              have ht : ∀ (l : List TV) (q : List Value) (k : Nat), TRels (imm w φ H) l q → TRels (imm w φ H) (l.take k) (q.take k) := by
                intro l
                induction l with
                | nil => intro q k h; cases q with | nil => simp [TRels] | cons => exact h.elim
                | cons z l ih => intro q k h; cases q with
                  | nil => exact h.elim
                  | cons y q => cases k with
                    | zero => simp [TRels]
                    | succ k => simpa using ⟨h.1, h.2.1, ih q k h.2.2⟩
              exact ht _ _ _ (hd _ _ _ hrs)
            exact ⟨_, rfl, h1⟩
          · cases hv
      · cases hv
    · rename_i hagf
      have hagf : ag = false := by simpa using hagf
      split at hv
      · rename_i z hz
        obtain rfl := Option.some.inj hv
        have hc := TRels.toV (X := ctx w φ H) (TRel.cells hr)
        obtain ⟨q, hq, hrel, _⟩ := hc.at (i := off) (x := .c z) (by simp [hz])
        refine ⟨q, hrunO _ _ hagf (hm' off q (by simpa using hq)), hrel⟩
      · cases hv
  | ptr q g m i off =>
    obtain ⟨ad, rfl, ob, hob, hq⟩ := hp
    have hob' : H q = some ob := hob
    simp only [loadV, hob'] at hv
    split at hv
    · rename_i hc
      rcases hq with hq | ⟨q1, q2, b, hb, rfl⟩
      · unfold Stale at hq; omega
      · obtain ⟨b', hb', hrel⟩ := hs.obj _ _ hob'
        obtain rfl : b = b' := Option.some.inj (hb.symm.trans hb')
        split at hv
        · rename_i x hx
          obtain ⟨hst, u, hu, hsz, hcs⟩ := hrel.el i x hx
          have hcell : ∀ (j : Nat) (z : Value), u.cells[j]? = some z → w.cell? ((b.add (i * ob.sz)).add j) = some z := by
            intro j z hj
            rw [add_add hrel.spot]
            exact (hcs j z hj).2
          have hsp2 := add_spot hrel.spot (i * ob.sz)
          obtain ⟨n1, n2⟩ := stor_ne hst
          have hcl := VRel.cells hu n1 n2
          split at hv
          · rename_i hagt
            split at hv
            · rename_i hxa
              obtain ⟨vs, rfl, hrs⟩ := isAgg_rel hu hxa
              have hlen := hrs.length
              simp only [Value.cells] at hsz hcell
              simp at hsz
              split at hv
              · rename_i hz
                obtain rfl := Option.some.inj hv
                obtain ⟨rfl, rfl⟩ := hz
                refine ⟨.agg vs.toArray, hrunA _ vs hagt hsz ?_, hu⟩
                intro j z hj
                exact hcell j z (by simpa using hj)
              · split at hv
                · rename_i hle
                  obtain rfl := Option.some.inj hv
                  refine ⟨.agg ((vs.drop off).take n).toArray, hrunA _ ((vs.drop off).take n) hagt (by simp; omega) ?_, ⟨_, rfl, (hrs.drop _).take _⟩⟩
                  intro j z hj
                  rw [List.getElem?_take] at hj
                  split at hj
                  · rw [List.getElem?_drop] at hj
                    have := hcell (off + j) z (by simpa using hj)
                    rw [add_add hrel.spot] at this ⊢
                    rw [show i * ob.sz + off + j = i * ob.sz + (off + j) from by omega]
                    exact this
                  · cases hj
                · cases hv
            · cases hv
          · rename_i hagf
            have hagf : ag = false := by simpa using hagf
            obtain ⟨z, hz, hrz, _⟩ := hcl.at hv
            refine ⟨z, hrunO _ _ hagf ?_, hrz⟩
            have := hcell off z (by simpa using hz)
            rw [add_add hrel.spot] at this
            exact this
        · cases hv
    · cases hv
  | _ => simp [loadV] at hv

theorem does_load {t : TypeId} {x : Operand} {x' : Opd} {ag : Bool} {n : Nat} {v : AV} (ho : o.op = .load t x) (hag : aggT P t = some ag) (hn : sizeT P t = some n) (hx : opdOf x = some x')
    (hs : SR nt w φ ⟨E, H, nx⟩ a) (hd : ∀ d, o.dst = some d → d < nt) (hv : loadV H ag n (ev E x') = some v) : Does P o nt a w φ H o.dst E v H nx := by
  obtain ⟨u, hr, hu⟩ := load_rel hag hn hs.sim (opd_rel hs.env hx) hv
  refine does_pure (x := u) ?_ hs hu hd
  simp only [execOp, ho, Sem.run_bind, hr, Result.andThen_ok, Sem.run_pure]

/-- A value that is made in a new row. -/
theorem does_new {v : AV} {x : Value} {id : Id} {ob : Obj} {cells : Array Value} {e : TypeId} {lo hi dr : Nat} (hr : (execOp a.eval o).run P w = .ok (.value x) (World.row { w with drawn := dr } cells e lo hi))
    (hs : SR nt w φ ⟨E, H, nx⟩ a) (hd : ∀ d, o.dst = some d → d < nt) (hn : ∀ y, H id = some y → Newer ob y) (hre : id.real) (hfr : hi ≤ lo ∨ cells.size ≤ lo) (hpos : 0 < ob.sz)
    (hel : ∀ (i : Nat) (x : AV), ob.es[i]? = some x → stor x = true ∧ ∃ v, VRel (ctx w φ H) x v ∧ v.cells.size = ob.sz ∧ ∀ (j : Nat) (u : Value), v.cells[j]? = some u → oneCell u = true ∧ cells[i * ob.sz + j]? = some u)
    (hv : VRel (ctx (World.row w cells e lo hi) (φupd φ id ⟨w.heap.size, 0, none⟩) (hupd H id ob)) v x) {nx' : Nat} :
    Does P o nt a w φ H o.dst E v (hupd H id ob) nx' := by
  intro K Q hK
  unfold Oper.wp
  rw [hr, Oper.upon_value]
  obtain ⟨hext, hsim⟩ := sim_new (e := e) hs.sim hn hre hfr hpos hel
  refine hK _ _ (φupd φ id ⟨w.heap.size, 0, none⟩) ⟨?_, ?_, by rw [put_size]; exact hs.size⟩ ?_ (put_defers' _ _ _)
  · exact ⟨hsim.pl, fun p c hp => (let ⟨b, h1, h2⟩ := hsim.obj p c hp; ⟨b, h1, h2.spot, h2.lt, h2.pos, h2.el, h2.fr⟩), hsim.sep, hsim.re, hsim.sx⟩
  · refine EnvRel.put (X := ctx (World.row w cells e lo hi) (φupd φ id ⟨w.heap.size, 0, none⟩) (hupd H id ob)) (hs.env.mono (hext.leCtx hs.sim.pl)) (fun _ => hv) (fun d h => by rw [hs.size]; exact hd d h)
  · exact ⟨hext.os, hext.tape, hext.output, hext.size, hext.fr, hext.mu, hext.bs, hext.ob, hext.ex, hext.exh⟩

theorem genAt_newer {id : Id} {ob : Obj} (hg : ob.gen = genAt H id) : ∀ y, H id = some y → Newer ob y := by
  intro y hy
  left
  rw [hg]
  simp [genAt, hy]

theorem row_eq (w : World) (cells : Array Value) (e : TypeId) : ({ w with heap := w.heap.push (.cells cells e) } : World) = World.row { w with drawn := w.drawn } cells e 0 0 := rfl

theorem does_box {t : TypeId} {x : Operand} {x' : Opd} (ho : o.op = .box t x) (hx : opdOf x = some x') (hs : SR nt w φ ⟨E, H, nx⟩ a) (hd : ∀ d, o.dst = some d → d < nt) (hst : stor (ev E x') = true) (hpos : 0 < (ev E x').cells.length) {id : Id} (hre : id.real := by trivial) :
    Does P o nt a w φ H o.dst E (.ptr id (genAt H id) 1 0 0) (hupd H id ⟨genAt H id, (ev E x').cells.length, true, [ev E x']⟩) nx := by
  have h1 := opd_rel hs.env hx
  obtain ⟨f1, f2⟩ := fit_cells h1 hst
  refine does_new (x := .pointer (some ⟨w.heap.size, 0, none⟩)) (cells := (a.eval x).cells) (e := t) (lo := 0) (hi := 0) (dr := w.drawn) ?_ hs hd (genAt_newer rfl) hre (.inl (Nat.le_refl _)) hpos ?_ ?_
  · simp only [execOp, ho, Instr.box, newVar, newRow, Sem.run_bind, run_newObj, Result.andThen_ok, Sem.run_pure]
    rfl
  · intro i y hy
    cases i with
    | succ i => simp at hy
    | zero =>
      simp at hy
      subst hy
      exact ⟨hst, a.eval x, h1, f1, fun j u hj => ⟨f2 j u hj, by simpa using hj⟩⟩
  · exact ⟨_, rfl, _, hupd_same _ _ _, .inr ⟨rfl, rfl, ⟨w.heap.size, 0, none⟩, by simp [ctx, φupd], by simp [Addr.add]⟩⟩

theorem zeroT_info {t : TypeId} {z : AV} (h : zeroT P t = some z) : ∃ i v, P.info? t = some i ∧ i.zero = some v ∧ valOf v = some z ∧ z.cells.length = i.size := by
  unfold zeroT at h
  split at h
  · rename_i i hi
    split at h
    · rename_i v hv
      split at h
      · rename_i z' hz
        split at h
        · rename_i hl
          obtain rfl := Option.some.inj h
          exact ⟨i, v, hi, hv, hz, hl⟩
        · cases h
      · cases h
    · cases h
  · cases h

theorem does_alloc {t : TypeId} {z : AV} (ho : o.op = .alloc t) (hz : zeroT P t = some z) (hs : SR nt w φ ⟨E, H, nx⟩ a) (hd : ∀ d, o.dst = some d → d < nt) (hst : stor z = true) (hpos : 0 < z.cells.length) {id : Id} (hre : id.real := by trivial) :
    Does P o nt a w φ H o.dst E (.ptr id (genAt H id) 1 0 0) (hupd H id ⟨genAt H id, z.cells.length, true, [z]⟩) nx := by
  obtain ⟨i, v, hi, hv, hvo, hlen⟩ := zeroT_info hz
  have h1 := valOf_rel (ctx w φ H) hvo
  obtain ⟨f1, f2⟩ := fit_cells h1 hst
  refine does_new (x := .pointer (some ⟨w.heap.size, 0, none⟩)) (cells := v.cells) (e := t) (lo := 0) (hi := 0) (dr := w.drawn) ?_ hs hd (genAt_newer rfl) hre (.inl (Nat.le_refl _)) hpos ?_ ?_
  · simp only [execOp, ho, Instr.alloc, zeroValue, typeInfo, Sem.run_bind, run_program, Result.andThen_ok, hi, hv, Sem.run_pure, newVar, newRow, run_newObj]
    rfl
  · intro i y hy
    cases i with
    | succ i => simp at hy
    | zero =>
      simp at hy
      subst hy
      exact ⟨hst, v, h1, f1, fun j u hj => ⟨f2 j u hj, by simpa using hj⟩⟩
  · exact ⟨_, rfl, _, hupd_same _ _ _, .inr ⟨rfl, rfl, ⟨w.heap.size, 0, none⟩, by simp [ctx, φupd], by simp [Addr.add]⟩⟩

/-- Elements laid one behind the other. -/
def laid (vs : List Value) : List Value := vs.flatMap fun v => v.cells.toList

theorem laid_at {sz : Nat} : ∀ {vs : List Value}, (∀ v ∈ vs, v.cells.size = sz) → ∀ {i : Nat} {v : Value}, vs[i]? = some v → ∀ (j : Nat) (u : Value), v.cells[j]? = some u → (laid vs)[i * sz + j]? = some u
  | [], _, i, v, h, _, _, _ => by simp at h
  | x :: r, hsz, 0, v, h, j, u, hj => by
    simp at h; subst h
    have hlt : j < x.cells.size := by
      rcases Nat.lt_or_ge j x.cells.size with h | h
      · exact h
      · simp [Array.getElem?_eq_none h] at hj
    simp only [laid, List.flatMap_cons, Nat.zero_mul, Nat.zero_add]
    rw [List.getElem?_append_left (by simpa using hlt)]
    simpa using hj
  | x :: r, hsz, i + 1, v, h, j, u, hj => by
    have := laid_at (vs := r) (fun v hv => hsz v (by simp [hv])) (i := i) (v := v) (by simpa using h) j u hj
    simp only [laid, List.flatMap_cons] at this ⊢
    have hx := hsz x (by simp)
    rw [List.getElem?_append_right (by simp [hx, Nat.add_mul]; omega)]
    rw [show (i + 1) * sz + j - x.cells.toList.length = i * sz + j from by simp [hx, Nat.add_mul]; omega]
    exact this

theorem laid_length {sz : Nat} : ∀ {vs : List Value}, (∀ v ∈ vs, v.cells.size = sz) → (laid vs).length = vs.length * sz
  | [], _ => by simp [laid]
  | x :: r, h => by
    have := laid_length (vs := r) (fun v hv => h v (by simp [hv]))
    simp only [laid, List.flatMap_cons, List.length_append, List.length_cons] at this ⊢
    rw [this]
    have hx := h x (by simp)
    simp [hx, Nat.add_mul]; omega

theorem VTup.at {X : Ctx} : ∀ {l : List AV} {vs : List Value}, VTup X l vs → ∀ {i : Nat} {x : AV}, l[i]? = some x → ∃ v, vs[i]? = some v ∧ VRel X x v
  | [], [], _, _, _, h => by simp at h
  | _ :: _, v :: _, hr, 0, _, h => by simp at h; subst h; exact ⟨v, rfl, hr.1⟩
  | _ :: _, _ :: _, hr, i + 1, _, h => by simpa using VTup.at hr.2 (i := i) (by simpa using h)
  | [], _ :: _, hr, _, _, _ => hr.elim
  | _ :: _, [], hr, _, _, _ => hr.elim

theorem fits_mem {sz : Nat} {l : List AV} (h : fits sz l = true) {x : AV} (hx : x ∈ l) : stor x = true ∧ x.cells.length = sz := by
  unfold fits at h
  rw [List.all_eq_true] at h
  have := h x hx
  simp at this
  exact this

/-- Elements that fit, and their values. -/
theorem fits_vals {X : Ctx} {sz : Nat} : ∀ {l : List AV} {vs : List Value}, VTup X l vs → fits sz l = true → ∀ v ∈ vs, v.cells.size = sz
  | [], [], _, _ => by simp
  | x :: r, v :: q, hr, hf => by
    intro u hu
    rcases List.mem_cons.1 hu with rfl | hu
    · obtain ⟨h1, h2⟩ := fits_mem hf (x := x) (by simp)
      rw [(fit_cells hr.1 h1).1, h2]
    · refine fits_vals hr.2 ?_ u hu
      unfold fits at hf ⊢
      simp only [List.all_cons, Bool.and_eq_true] at hf
      exact hf.2
  | [], _ :: _, hr, _ => hr.elim
  | _ :: _, [], hr, _ => hr.elim

theorem elem_laid {X : Ctx} {sz : Nat} {l : List AV} {vs : List Value} (hr : VTup X l vs) (hf : fits sz l = true) {i : Nat} {x : AV} (hx : l[i]? = some x) :
    stor x = true ∧ ∃ v, VRel X x v ∧ v.cells.size = sz ∧ ∀ (j : Nat) (u : Value), v.cells[j]? = some u → oneCell u = true ∧ (laid vs)[i * sz + j]? = some u := by
  obtain ⟨v, hv, hrel⟩ := hr.at hx
  obtain ⟨h1, h2⟩ := fits_mem hf (List.mem_of_getElem? hx)
  obtain ⟨f1, f2⟩ := fit_cells hrel h1
  exact ⟨h1, v, hrel, by omega, fun j u hj => ⟨f2 j u hj, laid_at (fits_vals hr hf) hv j u hj⟩⟩
end
end Go.Am

/- One operation of Go's code against one of the small machine: storing; slices that are made; bytes. -/
namespace Go.Am
set_option linter.unusedSimpArgs false
set_option linter.unusedVariables false
variable {P : Program}

theorem agg_cells (l : List Value) : (Value.agg l.toArray).cells = l.toArray := rfl

theorem getElem?_put {α : Type} (l new : List α) (off : Nat) (h : off + new.length ≤ l.length) (j : Nat) :
    (l.take off ++ new ++ l.drop (off + new.length))[j]? = if off ≤ j ∧ j < off + new.length then new[j - off]? else l[j]? := by
  have h1 : (l.take off).length = off := by simp; omega
  by_cases ha : j < off
  · rw [if_neg (by omega), List.append_assoc, List.getElem?_append_left (by omega), List.getElem?_take, if_pos ha]
  · by_cases hb : j < off + new.length
    · rw [if_pos ⟨by omega, hb⟩, List.append_assoc, List.getElem?_append_right (by omega), h1, List.getElem?_append_left (by omega)]
    · rw [if_neg (by omega), List.getElem?_append_right (by simp; omega)]
      simp only [List.length_append, h1, List.getElem?_drop]
      congr 1; omega

section
variable {o : Oper} {ops : Array Oper} {nt : Nat} {a : Act} {w : World} {φ : Id → Option Addr} {H : Heap} {nx : Nat} {E : AEnv} {T : Tab} {R : Run} {d : Nat}

/-- Cells that change in an element of a live object. -/
theorem sim_put {w' : World} {id : Id} {ob : Obj} {b : Addr} {i off n : Nat} {old new : AV} {vs : List Value} {nv : Value} (hs : Sim w φ H) (ho : H id = some ob) (hw : ob.w = true) (hb : φ id = some b)
    (hi : ob.es[i]? = some old) (hn : vs.length = n) (hoff : off + n ≤ ob.sz) (st : Stored w w' (b.add (i * ob.sz + off)) vs)
    (hst : stor new = true) (hnew : VRel (ctx w φ H) new nv) (hnc : nv.cells.size = ob.sz) (hone : ∀ (j : Nat) (u : Value), nv.cells[j]? = some u → oneCell u = true)
    (hcell : ∀ (ov : Value), VRel (ctx w φ H) old ov → ov.cells.size = ob.sz → ∀ (j : Nat), j < ob.sz → (∀ (q : Nat) (u : Value), ov.cells[q]? = some u → w.cell? (b.add (i * ob.sz + q)) = some u) → nv.cells[j]? = if off ≤ j ∧ j < off + n then vs[j - off]? else w.cell? (b.add (i * ob.sz + j))) :
    Ext w φ H w' φ (hupd H id { ob with es := ob.es.set i new }) ∧ Sim w' φ (hupd H id { ob with es := ob.es.set i new }) := by
  obtain ⟨b', hb', hr⟩ := hs.obj id ob ho
  obtain rfl : b = b' := Option.some.inj (hb.symm.trans hb')
  have hilt : i < ob.es.length := (List.getElem?_eq_some_iff.1 hi).1
  refine sim_write hs ho hw hb st (by rw [add_block]) (by simp) ?_
  intro k x hk
  have hwc : ∀ q, w'.cell? (b.add q) = if b.off + (i * ob.sz + off) ≤ b.off + q ∧ b.off + q < b.off + (i * ob.sz + off) + vs.length then vs[b.off + q - (b.off + (i * ob.sz + off))]? else w.cell? (b.add q) := by
    intro q
    have := st.cell (b.off + q)
    rw [add_eq hr.spot] at this
    rw [add_eq hr.spot]
    exact this
  by_cases hki : k = i
  · subst hki
    rw [List.getElem?_set_self hilt] at hk
    obtain rfl := Option.some.inj hk
    refine ⟨hst, nv, hnew, hnc, fun j u hj => ⟨hone j u hj, ?_⟩⟩
    obtain ⟨_, ov, h1, h2, h3⟩ := hr.el k old hi
    have hjlt : j < ob.sz := by
      rw [← hnc]
      rcases Nat.lt_or_ge j nv.cells.size with h | h
      · exact h
      · simp [Array.getElem?_eq_none h] at hj
    have := hcell ov h1 h2 j hjlt (fun q z hz => (h3 q z hz).2)
    rw [hj] at this
    rw [hwc]
    by_cases hc : off ≤ j ∧ j < off + n
    · rw [if_pos hc] at this
      rw [if_pos (by omega)]
      rw [this]; congr 1; omega
    · rw [if_neg hc] at this
      rw [if_neg (by omega)]
      exact this.symm
  · rw [List.getElem?_set_ne (Ne.symm hki)] at hk
    obtain ⟨h0, v, h1, h2, h3⟩ := hr.el k x hk
    refine ⟨h0, v, h1, h2, fun j u hj => ⟨(h3 j u hj).1, ?_⟩⟩
    have hjlt : j < ob.sz := by
      rw [← h2]
      rcases Nat.lt_or_ge j v.cells.size with h | h
      · exact h
      · simp [Array.getElem?_eq_none h] at hj
    rw [hwc, if_neg ?_]
    · exact (h3 j u hj).2
    · intro hc
      rcases Nat.lt_or_gt_of_ne hki with hlt | hgt
      · have : (k + 1) * ob.sz ≤ i * ob.sz := Nat.mul_le_mul_right _ hlt
        rw [Nat.add_mul] at this; omega
      · have : (i + 1) * ob.sz ≤ k * ob.sz := Nat.mul_le_mul_right _ hgt
        rw [Nat.add_mul] at this; omega

theorem does_store {t : TypeId} {p x : Operand} {p' x' : Opd} {n : Nat} {H' : Heap} (ho : o.op = .store t p x) (hn : sizeT P t = some n) (hp : opdOf p = some p') (hx : opdOf x = some x')
    (hs : SR nt w φ ⟨E, H, nx⟩ a) (hd : ∀ d, o.dst = some d → d < nt) (hv : storeV H n (ev E x') (ev E p') = some H') : Does P o nt a w φ H o.dst E .undef H' nx := by
  have h1 : VRel (ctx w φ H) (ev E p') (a.eval p) := opd_rel hs.env hp
  have h2 : VRel (ctx w φ H) (ev E x') (a.eval x) := opd_rel hs.env hx
  generalize hep : ev E p' = y at h1 hv
  unfold storeV at hv
  split at hv
  · rename_i q g m i off
    obtain ⟨ad, e1, ob, hob, hq⟩ := h1
    have hob' : H q = some ob := hob
    rw [hob'] at hv
    simp only at hv
    split at hv
    · rename_i hc
      obtain ⟨g1, g2, g3, g4, g5⟩ := hc
      rcases hq with hq | ⟨q1, q2, b, hb, rfl⟩
      · unfold Stale at hq; omega
      · obtain ⟨b', hb', hrel⟩ := hs.sim.obj _ _ hob'
        obtain rfl : b = b' := Option.some.inj (hb.symm.trans hb')
        obtain ⟨f1, f2⟩ := fit_cells h2 g5
        obtain ⟨n1, n2⟩ := stor_ne g5
        have hcl := VRel.cells h2 n1 n2
        split at hv
        · rename_i old hold
          obtain ⟨hst0, ov, hov, hosz, hoc⟩ := hrel.el i old hold
          obtain ⟨of1, of2⟩ := fit_cells hov hst0
          have holdl : old.cells.length = ob.sz := by omega
          have hilt : i < ob.es.length := (List.getElem?_eq_some_iff.1 hold).1
          obtain ⟨fc, fe, flo, fhi, hf1, hf2⟩ := hrel.fr g3
          -- the bound
          have hbound : off + n ≤ ob.sz → b.off + (i * ob.sz + off) + n ≤ fc.size := by
            intro hle
            -- the last cell of the element is there
            have hpos := hrel.pos
            have hlast : ∃ u, ov.cells[ob.sz - 1]? = some u := by
              have : ob.sz - 1 < ov.cells.size := by omega
              exact ⟨_, Array.getElem?_eq_getElem this⟩
            obtain ⟨u, hu⟩ := hlast
            have hcell := (hoc _ u hu).2
            rw [add_eq hrel.spot] at hcell
            simp only [World.cell?, hf1] at hcell
            simp only [Option.isSome_none, Bool.false_eq_true, if_false] at hcell
            have := (Array.getElem?_eq_some_iff.1 hcell).1
            omega
          have hrun : off + n ≤ ob.sz → ∃ w', (execOp a.eval o).run P w = .ok .skip w' ∧ Stored w w' (b.add (i * ob.sz + off)) (a.eval x).cells.toList := by
            intro hle
            have hsz : (a.eval x).cells.size = n := by omega
            obtain ⟨w', hr, hst⟩ := run_storeCells (P := P) (a := b.add (i * ob.sz + off)) (add_spot hrel.spot _) (a.eval x).cells.toList 0 w
              (by
                intro v hv'
                obtain ⟨j, hj⟩ := List.getElem?_of_mem hv'
                exact f2 j v (by simpa using hj))
              ⟨fc, fe, (flo, fhi), by rw [add_block]; exact hf1, by rw [add_eq hrel.spot]; simp; have := hbound hle; omega, hf2⟩
            refine ⟨w', ?_, by simpa [Addr.add] using hst⟩
            simp only [execOp, ho, e1, Instr.storeAt, Instr.sureAddr, Sem.run_bind, Sem.run_pure, Result.andThen_ok, storeVar, run_sizeOf hn, hsz, ne_eq, not_true_eq_false, if_false, hr]
          have fin : ∀ (new : AV) (nv : Value), off + n ≤ ob.sz → stor new = true → VRel (ctx w φ H) new nv → nv.cells.size = ob.sz → (∀ (j : Nat) (u : Value), nv.cells[j]? = some u → oneCell u = true) →
              (∀ (ov' : Value), VRel (ctx w φ H) old ov' → ov'.cells.size = ob.sz → ∀ (j : Nat), j < ob.sz → (∀ (q : Nat) (u : Value), ov'.cells[q]? = some u → w.cell? (b.add (i * ob.sz + q)) = some u) → nv.cells[j]? = if off ≤ j ∧ j < off + n then (a.eval x).cells.toList[j - off]? else w.cell? (b.add (i * ob.sz + j))) →
              Does P o nt a w φ H o.dst E .undef (hupd H q { ob with es := ob.es.set i new }) nx := by
            intro new nv hle hs1 hs2 hs3 hs4 hs5
            obtain ⟨w', hr, hst⟩ := hrun hle
            obtain ⟨hext, hsim⟩ := sim_put hs.sim hob' g3 hb hold (by simp; omega) hle hst hs1 hs2 hs3 hs4 hs5
            intro K Q hK
            unfold Oper.wp
            rw [hr, Oper.upon_skip]
            refine hK _ _ φ ⟨hsim, ?_, by rw [put_size]; exact hs.size⟩ hext (put_defers' _ _ _)
            exact EnvRel.put (hs.env.mono (hext.leCtx hs.sim.pl)) (fun _ => trivial) (fun d h => by rw [hs.size]; exact hd d h)
          split at hv
          · rename_i new hnew
            obtain rfl := Option.some.inj hv
            split at hnew
            · rename_i hc
              obtain ⟨rfl, rfl, _⟩ := hc
              obtain rfl := Option.some.inj hnew
              refine fin _ (a.eval x) (by omega) g5 h2 (by omega) f2 ?_
              intro ov' _ _ j hj _
              rw [if_pos (by omega)]
              simp
            · split at hnew
              · rename_i cs hcs
                unfold putCells at hcs
                split at hcs
                · rename_i hle
                  obtain rfl := Option.some.inj hcs
                  have hle' : off + n ≤ ob.sz := by omega
                  obtain ⟨on1, on2⟩ := stor_ne hst0
                  have hocl := VRel.cells hov on1 on2
                  have hcs2 : VRels (ctx w φ H) (old.cells.take off ++ (ev E x').cells ++ old.cells.drop (off + (ev E x').cells.length)) (ov.cells.toList.take off ++ (a.eval x).cells.toList ++ ov.cells.toList.drop (off + (ev E x').cells.length)) :=
                    ((hocl.take off).append hcl).append (hocl.drop _)
                  have hlenx : (ev E x').cells.length = (a.eval x).cells.toList.length := by simp; omega
                  have hput : ∀ j, (ov.cells.toList.take off ++ (a.eval x).cells.toList ++ ov.cells.toList.drop (off + (ev E x').cells.length))[j]? = if off ≤ j ∧ j < off + n then (a.eval x).cells.toList[j - off]? else ov.cells.toList[j]? := by
                    intro j
                    rw [hlenx, getElem?_put _ _ _ (by simp; omega)]
                    have : (a.eval x).cells.toList.length = n := by simp; omega
                    rw [this]
                  have hlen2 : (ov.cells.toList.take off ++ (a.eval x).cells.toList ++ ov.cells.toList.drop (off + (ev E x').cells.length)).length = ob.sz := by
                    simp; omega
                  have hmem : ∀ j, j < ob.sz → ov.cells.toList[j]? = w.cell? (b.add (i * ob.sz + j)) := by
                    intro j hj
                    have : ∃ u, ov.cells[j]? = some u := ⟨_, Array.getElem?_eq_getElem (by omega)⟩
                    obtain ⟨u, hu⟩ := this
                    rw [(hoc j u hu).2]; simpa using hu
                  unfold reEl at hnew
                  split at hnew
                  · obtain rfl := Option.some.inj hnew
                    refine fin _ (.agg (ov.cells.toList.take off ++ (a.eval x).cells.toList ++ ov.cells.toList.drop (off + (ev E x').cells.length)).toArray) hle' rfl ⟨_, rfl, hcs2⟩ (by rw [agg_cells, List.size_toArray]; exact hlen2) ?_ ?_
                    · intro j u hj
                      rw [agg_cells, List.getElem?_toArray] at hj; exact hcs2.one (j := j) hj
                    · intro ov' _ _ j hj _
                      rw [agg_cells, List.getElem?_toArray, hput j]
                      split
                      · rfl
                      · exact hmem j hj
                  · split at hnew
                    · rename_i y hy
                      split at hnew
                      case isFalse => cases hnew
                      rename_i hyst
                      obtain rfl := Option.some.inj hnew
                      -- one cell
                      have hl1 : (old.cells.take off ++ (ev E x').cells ++ old.cells.drop (off + (ev E x').cells.length)).length = 1 := by rw [hy]; rfl
                      have hsz1 : ob.sz = 1 := by
                        have := hcs2.length
                        rw [hlen2, hl1] at this
                        exact this.symm
                      rw [hy] at hcs2
                      generalize hq0 : (ov.cells.toList.take off ++ (a.eval x).cells.toList ++ ov.cells.toList.drop (off + (ev E x').cells.length)) = q0 at hcs2 hput hlen2
                      cases q0 with
                      | nil => exact hcs2.elim
                      | cons z r =>
                        have hr0 : r = [] := by cases r with | nil => rfl | cons => exact hcs2.2.2.elim
                        subst hr0
                        refine fin y z hle' hyst hcs2.1 (by rw [cells_one hcs2.2.1, hsz1]; rfl) ?_ ?_
                        · intro j u hj
                          rw [cells_one hcs2.2.1] at hj
                          cases j with
                          | zero => simp at hj; subst hj; exact hcs2.2.1
                          | succ j => simp at hj
                        · intro ov' _ _ j hj _
                          have hj0 : j = 0 := by omega
                          subst hj0
                          rw [cells_one hcs2.2.1]
                          have := hput 0
                          simp only [List.getElem?_cons_zero] at this
                          simp only [List.getElem?_toArray, List.getElem?_cons_zero]
                          rw [this]
                          split
                          · rfl
                          · exact hmem 0 (by omega)
                    · cases hnew
                · cases hcs
              · cases hnew
          · cases hv
        · cases hv
    · cases hv
  · cases hv
end
end Go.Am

/- One operation of Go's code against one of the small machine: what a slice holds; append. -/
namespace Go.Am
set_option linter.unusedSimpArgs false
set_option linter.unusedVariables false
variable {P : Program}

/-- Elements that lie one behind the other. -/
def Row (w : World) (addr : Addr) (sz : Nat) (vs : List Value) : Prop :=
  ∀ (i : Nat) (v : Value), vs[i]? = some v → v.cells.size = sz ∧ ∀ (j : Nat) (u : Value), v.cells[j]? = some u → oneCell u = true ∧ w.cell? (addr.add (i * sz + j)) = some u

theorem laid_get {sz : Nat} : ∀ {vs : List Value}, (∀ v ∈ vs, v.cells.size = sz) → ∀ {k : Nat} {u : Value}, (laid vs)[k]? = some u → ∃ i j v, k = i * sz + j ∧ vs[i]? = some v ∧ v.cells[j]? = some u
  | [], _, k, u, h => by simp [laid] at h
  | x :: r, hsz, k, u, h => by
    simp only [laid, List.flatMap_cons] at h
    have hx := hsz x (by simp)
    by_cases hk : k < x.cells.toList.length
    · rw [List.getElem?_append_left hk] at h
      exact ⟨0, k, x, by simp, rfl, by simpa using h⟩
    · rw [List.getElem?_append_right (by omega)] at h
      obtain ⟨i, j, v, h1, h2, h3⟩ := laid_get (vs := r) (fun v hv => hsz v (by simp [hv])) (k := k - x.cells.toList.length) (u := u) h
      refine ⟨i + 1, j, v, ?_, by simpa using h2, h3⟩
      simp only [Array.length_toList] at h1 hk
      rw [Nat.add_mul]; omega

theorem Row.load {w : World} {addr : Addr} {sz : Nat} {vs : List Value} (h : Row w addr sz vs) : (loadCells addr (vs.length * sz)).run P w = .ok (laid vs).toArray w := by
  have hsz : ∀ v ∈ vs, v.cells.size = sz := by
    intro v hv
    obtain ⟨i, hi⟩ := List.getElem?_of_mem hv
    exact (h i v hi).1
  refine run_loadCells' (laid_length hsz) ?_
  intro k u hk
  obtain ⟨i, j, v, rfl, h2, h3⟩ := laid_get hsz hk
  exact ((h i v h2).2 j u h3).2

theorem Row.take {w : World} {addr : Addr} {sz : Nat} {vs : List Value} (h : Row w addr sz vs) (m : Nat) : Row w addr sz (vs.take m) := by
  intro i v hi
  rw [List.getElem?_take] at hi
  split at hi
  · exact h i v hi
  · cases hi

theorem Row.drop {w : World} {addr : Addr} {sz : Nat} {vs : List Value} (hs : addr.spot = none) (h : Row w addr sz vs) (m : Nat) : Row w (addr.add (m * sz)) sz (vs.drop m) := by
  intro i v hi
  rw [List.getElem?_drop] at hi
  obtain ⟨h1, h2⟩ := h _ v hi
  refine ⟨h1, fun j u hj => ⟨(h2 j u hj).1, ?_⟩⟩
  rw [add_add hs, ← Nat.add_assoc, ← Nat.add_mul]
  exact (h2 j u hj).2

/-- The values of an object's elements. -/
theorem obj_row {X : Ctx} {w : World} {ob : Obj} {b : Addr} (h : ObjRel X w ob b) : ∃ vs, VTup X ob.es vs ∧ Row w b ob.sz vs ∧ ∀ x ∈ ob.es, stor x = true := by
  have key : ∀ (es : List AV) (i0 : Nat), (∀ (i : Nat) (x : AV), es[i]? = some x → stor x = true ∧ ∃ v, VRel X x v ∧ v.cells.size = ob.sz ∧ (∀ (j : Nat) (u : Value), v.cells[j]? = some u → oneCell u = true ∧ w.cell? (b.add ((i0 + i) * ob.sz + j)) = some u)) →
      ∃ vs, VTup X es vs ∧ (∀ (i : Nat) (v : Value), vs[i]? = some v → v.cells.size = ob.sz ∧ ∀ (j : Nat) (u : Value), v.cells[j]? = some u → oneCell u = true ∧ w.cell? (b.add ((i0 + i) * ob.sz + j)) = some u) ∧ ∀ x ∈ es, stor x = true := by
    intro es
    induction es with
    | nil => intro i0 _; exact ⟨[], trivial, fun i v h => by simp at h, by simp⟩
    | cons x r ih =>
      intro i0 hh
      obtain ⟨h0, v, h1, h2, h3⟩ := hh 0 x rfl
      obtain ⟨vs, g1, g2, g3⟩ := ih (i0 + 1) (fun i y hy => by
        have := hh (i + 1) y (by simpa using hy)
        rw [show i0 + 1 + i = i0 + (i + 1) from by omega]; exact this)
      refine ⟨v :: vs, ⟨h1, g1⟩, ?_, ?_⟩
      · intro i u hu
        cases i with
        | zero => simp at hu; subst hu; exact ⟨h2, h3⟩
        | succ i =>
          have := g2 i u (by simpa using hu)
          rw [show i0 + (i + 1) = i0 + 1 + i from by omega]; exact this
      · intro y hy
        rcases List.mem_cons.1 hy with rfl | hy
        · exact h0
        · exact g3 y hy
  obtain ⟨vs, h1, h2, h3⟩ := key ob.es 0 (fun i x hx => by
    have := h.el i x hx
    simpa using this)
  exact ⟨vs, h1, fun i v hv => by simpa using h2 i v hv, h3⟩

theorem VTup.drop {X : Ctx} : ∀ {l : List AV} {vs : List Value} (n : Nat), VTup X l vs → VTup X (l.drop n) (vs.drop n)
  | [], [], _, _ => by simp [VTup]
  | _ :: _, _ :: _, 0, h => h
  | _ :: _, _ :: _, n + 1, h => by simpa using VTup.drop n h.2
  | [], _ :: _, _, h => h.elim
  | _ :: _, [], _, h => h.elim
theorem VTup.take {X : Ctx} : ∀ {l : List AV} {vs : List Value} (n : Nat), VTup X l vs → VTup X (l.take n) (vs.take n)
  | [], [], _, _ => by simp [VTup]
  | _ :: _, _ :: _, 0, _ => by simp [VTup]
  | _ :: _, _ :: _, n + 1, h => by simpa using ⟨h.1, VTup.take n h.2⟩
  | [], _ :: _, _, h => h.elim
  | _ :: _, [], _, h => h.elim
theorem VTup.append {X : Ctx} : ∀ {l : List AV} {vs : List Value} {l' : List AV} {vs' : List Value}, VTup X l vs → VTup X l' vs' → VTup X (l ++ l') (vs ++ vs')
  | [], [], _, _, _, h => h
  | _ :: _, _ :: _, _, _, h, k => ⟨h.1, VTup.append h.2 k⟩
  | [], _ :: _, _, _, h, _ => h.elim
  | _ :: _, [], _, _, h, _ => h.elim

theorem drew_cell (w : World) (dr : Nat) (a : Addr) : ({ w with drawn := dr } : World).cell? a = w.cell? a := rfl

/-- What a slice or a string gives to 'append' and 'copy'. -/
structure Src (P : Program) (X : Ctx) (w : World) (sz : Nat) (new : List AV) (u : Value) : Prop where
  len : (Builtin.lenOf u) = pure new.length
  vals : ∃ vs, VTup X new vs ∧ (∀ v ∈ vs, v.cells.size = sz) ∧ ∀ m dr, m ≤ new.length → (Builtin.firstCells sz m u).run P { w with drawn := dr } = .ok (laid (vs.take m)).toArray { w with drawn := dr }

theorem src_row {X : Ctx} {w : World} {sz : Nat} {new : List AV} {vs : List Value} {b : Addr} {cap : Nat} (h : VTup X new vs) (hr : Row w b sz vs) : Src P X w sz new (.slice (some b) new.length cap) := by
  refine ⟨rfl, vs, h, ?_, ?_⟩
  · intro v hv
    obtain ⟨i, hi⟩ := List.getElem?_of_mem hv
    exact (hr i v hi).1
  · intro m dr hm
    have hl := h.length
    have hr2 : Row { w with drawn := dr } b sz (vs.take m) := fun i v hi => hr.take m i v hi
    have := hr2.load (P := P)
    rw [List.length_take, Nat.min_eq_left (by omega)] at this
    simp only [Builtin.firstCells]
    exact this

theorem src_empty {X : Ctx} {w : World} {sz : Nat} {a : Option Addr} {cap : Nat} : Src P X w sz [] (.slice a 0 cap) := by
  refine ⟨rfl, [], trivial, by simp, ?_⟩
  intro m dr hm
  have : m = 0 := by simpa using hm
  subst this
  cases a with
  | none => rfl
  | some a => simp [Builtin.firstCells, loadCells, loadCellsFrom, laid]

theorem bytes_vtup (X : Ctx) (s : ByteArray) : VTup X (bytesVs s) (s.data.toList.map fun b => Value.int .u8 b.toNat) := by
  unfold bytesVs
  induction s.data.toList with
  | nil => trivial
  | cons b r ih => exact ⟨⟨rfl, rfl⟩, ih⟩

theorem laid_flat : ∀ (vs : List Value), (∀ v ∈ vs, oneCell v = true) → laid vs = vs
  | [], _ => rfl
  | x :: r, h => by
    have := laid_flat r (fun v hv => h v (by simp [hv]))
    simp only [laid, List.flatMap_cons] at this ⊢
    rw [this, cells_one (h x (by simp))]
    rfl

theorem src_string {X : Ctx} {w : World} (s : ByteArray) : Src P X w 1 (bytesVs s) (.string s) := by
  have hlen : (bytesVs s).length = s.size := by simp [bytesVs]
  refine ⟨by simp [Builtin.lenOf, hlen], _, bytes_vtup X s, ?_, ?_⟩
  · intro v hv
    obtain ⟨b, _, rfl⟩ := List.mem_map.1 hv
    rfl
  · intro m dr hm
    rw [laid_flat _ (by
      intro v hv
      obtain ⟨b, _, rfl⟩ := List.mem_map.1 (List.mem_of_mem_take hv)
      rfl)]
    simp only [Builtin.firstCells, Sem.run_pure]
    congr 1
    apply Array.ext'
    simp [ByteArray.data_extract]

theorem tels_row {w : World} {φ : Id → Option Addr} {H : Heap} {sz : Nat} {addr : Addr} : ∀ (xs : List TV) (i0 : Nat), TElems (imm w φ H) sz addr i0 xs → (∀ x ∈ xs, (AV.c x).cells.length = sz) →
    ∃ vs, VTup (ctx w φ H) (xs.map .c) vs ∧ ∀ (i : Nat) (v : Value), vs[i]? = some v → v.cells.size = sz ∧ ∀ (j : Nat) (u : Value), v.cells[j]? = some u → oneCell u = true ∧ w.cell? (addr.add ((i0 + i) * sz + j)) = some u
  | [], _, _, _ => ⟨[], trivial, fun i v h => by simp at h⟩
  | x :: r, i0, h, hl => by
    obtain ⟨⟨v, h1, h2, h3⟩, h4⟩ := h
    obtain ⟨vs, g1, g2⟩ := tels_row r (i0 + 1) h4 (fun y hy => hl y (by simp [hy]))
    refine ⟨v :: vs, ⟨h1, g1⟩, ?_⟩
    intro i u hu
    cases i with
    | zero =>
      simp at hu; subst hu
      refine ⟨h2, fun j z hz => ⟨?_, (imm_some.1 (h3 j z hz)).2⟩⟩
      exact (fit_cells (X := ctx w φ H) (x := .c x) h1 rfl).2 j z hz
    | succ i =>
      have := g2 i u (by simpa using hu)
      rw [show i0 + (i + 1) = i0 + 1 + i from by omega]; exact this

theorem elems_src {w : World} {φ : Id → Option Addr} {H : Heap} {y : AV} {u : Value} {new : List AV} {sz : Nat} (hs : Sim w φ H) (hr : VRel (ctx w φ H) y u) (he : elems H y = some new) (hf : fits sz new = true) : Src P (ctx w φ H) w sz new u := by
  cases y with
  | nils =>
    simp only [elems] at he
    obtain rfl := Option.some.inj he
    cases hr
    exact src_empty
  | c t =>
    cases t with
    | sl sz' xs =>
      simp only [elems] at he
      obtain rfl := Option.some.inj he
      obtain ⟨a, len, cap, rfl, rfl, hc, hq⟩ := hr
      by_cases hx : xs = []
      · subst hx; exact src_empty
      · rcases hq with hq | ⟨addr, rfl, hsp, hel⟩
        · exact absurd (List.length_eq_zero_iff.1 hq) hx
        · have hszs : ∀ x ∈ xs, (AV.c x).cells.length = sz := fun x hx => (fits_mem hf (x := .c x) (by simp [hx])).2
          have hsz : sz' = sz := by
            cases xs with
            | nil => exact absurd rfl hx
            | cons x r =>
              obtain ⟨⟨v, h1, h2, _⟩, _⟩ := hel
              have := (fit_cells (X := ctx w φ H) (x := .c x) h1 rfl).1
              rw [h2, hszs x (by simp)] at this
              exact this
          subst hsz
          obtain ⟨vs, g1, g2⟩ := tels_row xs 0 hel hszs
          have := src_row (P := P) (X := ctx w φ H) (w := w) (sz := sz') (cap := cap) (b := addr) g1 (fun i v hv => by simpa using g2 i v hv)
          simpa using this
    | _ => simp [elems] at he
  | ref o g n off len =>
    simp only [elems, elemsOf] at he
    obtain ⟨a, cap, rfl, hc, ob, hob, hq⟩ := hr
    have hob' : H o = some ob := hob
    rw [hob'] at he
    simp only at he
    split at he
    · rename_i hcond
      obtain rfl := Option.some.inj he
      rcases hq with hq | ⟨q1, q2, q3, q4⟩
      · unfold Stale at hq; omega
      · obtain ⟨b, hb, hrel⟩ := hs.obj o ob hob'
        have hl : ((ob.es.drop off).take len).length = len := by simp; omega
        by_cases hz : len = 0
        · subst hz
          have hnil : (ob.es.drop off).take 0 = [] := by simp
          rw [hnil]
          exact src_empty
        · rcases q4 with ⟨c0, _⟩ | ⟨b', hb', rfl, hn, hroom⟩
          · omega
          · obtain rfl : b = b' := Option.some.inj (hb.symm.trans hb')
            obtain ⟨vs, g1, g2, g3⟩ := obj_row hrel
            have hsz : ob.sz = sz := by
              have : ∃ x, ((ob.es.drop off).take len)[0]? = some x := ⟨_, List.getElem?_eq_getElem (by omega)⟩
              obtain ⟨x, hx⟩ := this
              have hm := fits_mem hf (List.mem_of_getElem? hx)
              have hx2 : ob.es[off]? = some x := by
                rw [List.getElem?_take] at hx
                split at hx
                · rw [List.getElem?_drop] at hx; simpa using hx
                · cases hx
              obtain ⟨_, v, h1, h2, _⟩ := hrel.el off x hx2
              have := (fit_cells h1 hm.1).1
              omega
            have hrow := (g2.drop hrel.spot off).take len
            rw [hsz] at hrow ⊢
            have := src_row (P := P) (cap := cap) ((g1.drop off).take len) hrow
            rw [hl] at this
            exact this
    · cases he
  | _ => simp [elems] at he
end Go.Am

/- One operation of Go's code against one of the small machine: append, copy, clear. -/
namespace Go.Am
set_option linter.unusedSimpArgs false
set_option linter.unusedVariables false
variable {P : Program}

theorem zeroCells_size (z : Array Value) (n : Nat) : (Builtin.zeroCells z n).size = n * z.size := by simp [Builtin.zeroCells]

/-- What append is told of its types. -/
structure AppT (P : Program) (t u e : TypeId) (sz : Nat) (i : TypeInfo) (z : Value) : Prop where
  ht : P.underlying t = some (.slice e)
  hu : ∃ d, P.underlying u = some d ∧ ∀ k, d ≠ .int k
  hi : P.info? e = some i
  hz : i.zero = some z
  hsz : i.size = sz
  hzs : z.cells.size = sz
  hby : i.bytes ≤ 32 * sz
  pos : 0 < sz

set_option maxHeartbeats 4000000 in
theorem run_append_room' {t u ty e : TypeId} {sz : Nat} {i : TypeInfo} {z : Value} (h : AppT P t u e sz i z) {X : Ctx} {w : World} {b : Option Addr} {sLen sCap : Nat} {x : Value} {new : List AV} (hs : Src P X w sz new x) (hroom : sLen + new.length ≤ sCap) :
    ∃ vs, VTup X new vs ∧ (∀ v ∈ vs, v.cells.size = sz) ∧ (Builtin.append_ #[t, u] ty #[.slice b sLen sCap, x]).run P w =
      ((match b with | some a => storeCells (a.add (sLen * sz)) (laid vs) | none => pure ()).run P w).andThen fun _ w2 => .ok (.slice b (sLen + new.length) sCap) w2 := by
  obtain ⟨d, hd, hdi⟩ := h.hu
  obtain ⟨vs, g1, g2, g3⟩ := hs.vals
  have hf := g3 new.length w.drawn (Nat.le_refl _)
  rw [List.take_of_length_le (by rw [g1.length]; exact Nat.le_refl _)] at hf
  have hf' : (Builtin.firstCells sz new.length x).run P w = .ok (laid vs).toArray w := hf
  refine ⟨vs, g1, g2, ?_⟩
  simp only [Builtin.append_]
  cases b with
  | none =>
    cases d <;> first
      | exact absurd rfl (hdi _)
      | simp [run_underlying h.ht, run_underlying hd, sizeOf, typeInfo, h.hi, h.hsz, hs.len, hroom, hf']
  | some a =>
    cases d <;> first
      | exact absurd rfl (hdi _)
      | simp [run_underlying h.ht, run_underlying hd, sizeOf, typeInfo, h.hi, h.hsz, hs.len, hroom, hf']

set_option maxHeartbeats 4000000 in
theorem run_append_grow' {t u ty e : TypeId} {sz : Nat} {i : TypeInfo} {z : Value} (h : AppT P t u e sz i z) {X : Ctx} {w : World} {b : Option Addr} {sLen sCap : Nat} {x : Value} {new olds : List AV} (hs : Src P X w sz new x)
    (ho : Src P X w sz olds (.slice b sLen sCap)) (hl : olds.length = sLen) (hroom : ¬ (sLen + new.length ≤ sCap)) (hbig : (sLen + new.length) * sz ≤ 4294967296) :
    ∃ vs dr cap rest, VTup X (olds ++ new) vs ∧ (∀ v ∈ vs, v.cells.size = sz) ∧ sLen + new.length ≤ cap ∧ (laid vs ++ rest).length = cap * sz ∧ (Builtin.append_ #[t, u] ty #[.slice b sLen sCap, x]).run P w =
      .ok (.slice (some ⟨w.heap.size, 0, none⟩) (sLen + new.length) cap) (World.row { w with drawn := dr } (laid vs ++ rest).toArray e 0 0) := by
  obtain ⟨d, hd, hdi⟩ := h.hu
  obtain ⟨vs, g1, g2, g3⟩ := hs.vals
  obtain ⟨us, k1, k2, k3⟩ := ho.vals
  have hf := g3 new.length (w.drawn + 1) (Nat.le_refl _)
  rw [List.take_of_length_le (by rw [g1.length]; exact Nat.le_refl _)] at hf
  have hk := k3 sLen (w.drawn + 1) (by omega)
  rw [List.take_of_length_le (by rw [← k1.length]; omega)] at hk
  have hpos := h.pos
  have hle : sLen + new.length ≤ (sLen + new.length) * sz := Nat.le_mul_of_pos_right _ hpos
  have h63 : ¬ (9223372036854775807 < ((sLen : Int) + (new.length : Int))) := by omega
  have hb1 : (sLen + new.length) * i.bytes ≤ (sLen + new.length) * (32 * sz) := Nat.mul_le_mul_left _ h.hby
  have hb2 : (sLen + new.length) * (32 * sz) = 32 * ((sLen + new.length) * sz) := by rw [Nat.mul_left_comm]
  have h48 := growslice_fits (need := sLen + new.length) (old := sCap) (bytes := i.bytes) (by omega) (by omega)
  have h48' : ¬ (281474976710656 < Builtin.nextslicecap (sLen + new.length) sCap * i.bytes) := by omega
  have hge := grownCap_ge w (sLen + new.length) sCap e
  refine ⟨us ++ vs, w.drawn + 1, grownCap w (sLen + new.length) sCap e, (Builtin.zeroCells z.cells (grownCap w (sLen + new.length) sCap e - (sLen + new.length))).toList, k1.append g1, ?_, hge, ?_, ?_⟩
  · intro v hv
    rcases List.mem_append.1 hv with hv | hv
    · exact k2 v hv
    · exact g2 v hv
  · have e1 : laid (us ++ vs) = laid us ++ laid vs := by simp [laid]
    rw [e1]
    simp only [List.length_append, laid_length k2, laid_length g2, Array.length_toList, zeroCells_size, h.hzs]
    rw [← k1.length, ← g1.length, hl, ← Nat.add_mul, ← Nat.add_mul]
    congr 1; omega
  · have e2 : (laid (us ++ vs) ++ (Builtin.zeroCells z.cells (grownCap w (sLen + new.length) sCap e - (sLen + new.length))).toList).toArray =
        (laid us).toArray ++ (laid vs).toArray ++ Builtin.zeroCells z.cells (grownCap w (sLen + new.length) sCap e - (sLen + new.length)) := by
      apply Array.ext'; simp [laid]
    rw [e2]
    simp only [Builtin.append_]
    have hf2 : (Builtin.firstCells sz new.length x).run P w.drew = .ok (laid vs).toArray w.drew := hf
    have hk2 : (Builtin.firstCells sz sLen (.slice b sLen sCap)).run P w.drew = .ok (laid us).toArray w.drew := hk
    generalize hzc : Builtin.zeroCells z.cells (grownCap w (sLen + new.length) sCap e - (sLen + new.length)) = zc
    simp only [grownCap] at hzc
    cases d <;> first
      | exact absurd rfl (hdi _)
      | (simp [run_underlying h.ht, run_underlying hd, sizeOf, typeInfo, zeroValue, h.hi, h.hz, h.hsz, hs.len, hroom, h63, h48', Question.forced, hf2, hk2, newRow, grownCap, hzc]
         rw [show (laid us ++ laid vs).toArray ++ zc = (laid us).toArray ++ ((laid vs).toArray ++ zc) from by apply Array.ext'; simp]
         rfl)
end Go.Am

/- One operation of Go's code against one of the small machine: append, copy, clear; slices that are made. -/
namespace Go.Am
set_option linter.unusedSimpArgs false
set_option linter.unusedVariables false
variable {P : Program}

theorem fits_append {sz : Nat} {a b : List AV} (ha : fits sz a = true) (hb : fits sz b = true) : fits sz (a ++ b) = true := by
  unfold fits at *; rw [List.all_append, ha, hb]; rfl
theorem fits_take {sz : Nat} {a : List AV} (ha : fits sz a = true) (n : Nat) : fits sz (a.take n) = true := by
  unfold fits at *; rw [List.all_eq_true] at *; exact fun x hx => ha x (List.mem_of_mem_take hx)
theorem fits_drop {sz : Nat} {a : List AV} (ha : fits sz a = true) (n : Nat) : fits sz (a.drop n) = true := by
  unfold fits at *; rw [List.all_eq_true] at *; exact fun x hx => ha x (List.mem_of_mem_drop hx)

theorem obj_fits {X : Ctx} {w : World} {ob : Obj} {b : Addr} (h : ObjRel X w ob b) : fits ob.sz ob.es = true := by
  unfold fits
  rw [List.all_eq_true]
  intro x hx
  obtain ⟨i, hi⟩ := List.getElem?_of_mem hx
  obtain ⟨h0, v, h1, h2, _⟩ := h.el i x hi
  have := (fit_cells h1 h0).1
  simp [h0]; omega

section
variable {o : Oper} {ops : Array Oper} {nt : Nat} {a : Act} {w : World} {φ : Id → Option Addr} {H : Heap} {nx : Nat} {E : AEnv} {T : Tab} {R : Run} {d : Nat}

/-- Elements of a live object that are written anew. -/
theorem sim_elems {w' : World} {id : Id} {ob : Obj} {b : Addr} {off : Nat} {new : List AV} {vs : List Value} (hs : Sim w φ H) (ho : H id = some ob) (hw : ob.w = true) (hb : φ id = some b)
    (hv : VTup (ctx w φ H) new vs) (hf : fits ob.sz new = true) (hle : off + new.length ≤ ob.es.length) (st : Stored w w' (b.add (off * ob.sz)) (laid vs)) :
    Ext w φ H w' φ (hupd H id { ob with es := ob.es.take off ++ new ++ ob.es.drop (off + new.length) }) ∧ Sim w' φ (hupd H id { ob with es := ob.es.take off ++ new ++ ob.es.drop (off + new.length) }) := by
  obtain ⟨b', hb', hr⟩ := hs.obj id ob ho
  obtain rfl : b = b' := Option.some.inj (hb.symm.trans hb')
  have hll := laid_length (fits_vals hv hf)
  have hvl := hv.length
  refine sim_write hs ho hw hb st (by rw [add_block]) (by simp; omega) ?_
  intro k x hk
  rw [getElem?_put _ _ _ hle] at hk
  have hwc : ∀ q, w'.cell? (b.add q) = if off * ob.sz ≤ q ∧ q < off * ob.sz + vs.length * ob.sz then (laid vs)[q - off * ob.sz]? else w.cell? (b.add q) := by
    intro q
    have := st.cell (b.off + q)
    rw [add_eq hr.spot] at this
    rw [add_eq hr.spot]
    simp only at this
    rw [this, hll]
    by_cases hc : off * ob.sz ≤ q ∧ q < off * ob.sz + vs.length * ob.sz
    · rw [if_pos hc, if_pos (by omega)]; congr 1; omega
    · rw [if_neg hc, if_neg (by omega)]
  split at hk
  · rename_i hc
    obtain ⟨g0, v, g1, g2, g3⟩ := elem_laid hv hf hk
    refine ⟨g0, v, g1, g2, fun j u hj => ⟨(g3 j u hj).1, ?_⟩⟩
    have hjlt : j < ob.sz := by
      rw [← g2]
      rcases Nat.lt_or_ge j v.cells.size with h | h
      · exact h
      · simp [Array.getElem?_eq_none h] at hj
    have e1 : off * ob.sz + (k - off) * ob.sz = k * ob.sz := by rw [← Nat.add_mul]; congr 1; omega
    have e2 : (k - off + 1) * ob.sz ≤ vs.length * ob.sz := Nat.mul_le_mul_right _ (by omega)
    rw [Nat.add_mul] at e2
    rw [hwc, if_pos (by omega)]
    rw [show k * ob.sz + j - off * ob.sz = (k - off) * ob.sz + j from by omega]
    exact (g3 j u hj).2
  · rename_i hc
    obtain ⟨h0, v, h1, h2, h3⟩ := hr.el k x hk
    refine ⟨h0, v, h1, h2, fun j u hj => ⟨(h3 j u hj).1, ?_⟩⟩
    have hjlt : j < ob.sz := by
      rw [← h2]
      rcases Nat.lt_or_ge j v.cells.size with h | h
      · exact h
      · simp [Array.getElem?_eq_none h] at hj
    rw [hwc, if_neg ?_]
    · exact (h3 j u hj).2
    · intro hx
      by_cases hlt : k < off
      · have : (k + 1) * ob.sz ≤ off * ob.sz := Nat.mul_le_mul_right _ hlt
        rw [Nat.add_mul] at this; omega
      · have : (off + vs.length) * ob.sz ≤ k * ob.sz := Nat.mul_le_mul_right _ (by omega)
        rw [Nat.add_mul] at this; omega

/-- The room of a live slice. -/
theorem run_store_ref {id : Id} {ob : Obj} {b : Addr} {q : Nat} {new : List AV} {vs : List Value} (hs : Sim w φ H) (ho : H id = some ob) (hw : ob.w = true) (hb : φ id = some b)
    (hv : VTup (ctx w φ H) new vs) (hf : fits ob.sz new = true) (hroom : b.off + (q + new.length) * ob.sz ≤ bsize w b.block) :
    ∃ w', (storeCells (b.add (q * ob.sz)) (laid vs)).run P w = .ok () w' ∧ Stored w w' (b.add (q * ob.sz)) (laid vs) := by
  obtain ⟨b', hb', hr⟩ := hs.obj id ob ho
  obtain rfl : b = b' := Option.some.inj (hb.symm.trans hb')
  obtain ⟨fc, fe, flo, fhi, hf1, hf2⟩ := hr.fr hw
  have hsz := fits_vals hv hf
  have hll := laid_length hsz
  have hvl := hv.length
  have hbs : bsize w b.block = fc.size := by simp only [bsize, hf1]
  have hone : ∀ v ∈ laid vs, oneCell v = true := by
    intro v hv'
    obtain ⟨k, hk⟩ := List.getElem?_of_mem hv'
    obtain ⟨i, j, u, _, h2, h3⟩ := laid_get hsz hk
    have : ∃ x, new[i]? = some x := by
      have hlt := (List.getElem?_eq_some_iff.1 h2).1
      exact ⟨_, List.getElem?_eq_getElem (by omega)⟩
    obtain ⟨x, hx⟩ := this
    obtain ⟨v', hv1, hrel⟩ := hv.at hx
    rw [h2] at hv1
    obtain rfl := Option.some.inj hv1
    exact (fit_cells hrel (fits_mem hf (List.mem_of_getElem? hx)).1).2 j v h3
  obtain ⟨w', h1, h2⟩ := run_storeCells (P := P) (a := b.add (q * ob.sz)) (add_spot hr.spot _) (laid vs) 0 w hone
    ⟨fc, fe, (flo, fhi), by rw [add_block]; exact hf1, by rw [add_eq hr.spot]; simp only [Nat.add_zero]; rw [hll, ← hbs, ← hvl, Nat.add_assoc, ← Nat.add_mul]; exact hroom, hf2⟩
  exact ⟨w', h1, by simpa [Addr.add] using h2⟩

/-- An object that goes on from another place of its row, in a new version. -/
theorem sim_move {w' : World} {id : Id} {ob ob' : Obj} {b a c : Addr} {vs : List Value} (hs : Sim w φ H) (ho : H id = some ob) (hw : ob.w = true) (hb : φ id = some b) (st : Stored w w' a vs) (hab : a.block = b.block)
    (hcb : c.block = b.block) (hcs : c.spot = none) (hnew : Newer ob' ob) (hsz : ob'.sz = ob.sz)
    (hel : ∀ (i : Nat) (x : AV), ob'.es[i]? = some x → stor x = true ∧ ∃ v, VRel (ctx w φ H) x v ∧ v.cells.size = ob'.sz ∧ ∀ (j : Nat) (u : Value), v.cells[j]? = some u → oneCell u = true ∧ w'.cell? (c.add (i * ob'.sz + j)) = some u) :
    Ext w φ H w' (φupd φ id c) (hupd H id ob') ∧ Sim w' (φupd φ id c) (hupd H id ob') := by
  have hmut : Mut φ H b.block := .inl ⟨id, ob, b, ho, hw, hb, rfl⟩
  have hnx : ∀ k, Id.ex k ≠ id := fun k e => by subst e; exact hs.re _ _ ho
  have hother : ∀ k, ¬ Mut φ H k → w'.heap[k]? = w.heap[k]? := fun k hk => st.other k (fun e => hk (by rw [e, hab]; exact hmut))
  have hext : Ext w φ H w' (φupd φ id c) (hupd H id ob') := by
    refine ⟨st.os, st.tape, st.output, Nat.le_of_eq st.size.symm, fun k _ hk => hother k hk, ?_, fun k _ => Nat.le_of_eq (st.bsize k).symm, ?_, fun k => by simp only [φupd, if_neg (hnx k)], fun k e he => st.other _ (by rw [hab]; exact Ne.symm (hs.sx id ob b k e ho hb he))⟩
    · rintro k _ (⟨p, x, q, hp, hx, hq, rfl⟩ | ⟨k, e, he, rfl⟩)
      case inr => simp only [φupd, if_neg (hnx k)] at he; exact .inr ⟨k, e, he, rfl⟩
      by_cases hpo : p = id
      · subst hpo
        simp only [φupd, if_true] at hq
        obtain rfl := Option.some.inj hq
        rw [hcb]; exact hmut
      · rw [hupd_ne _ _ hpo] at hp
        simp only [φupd, if_neg hpo] at hq
        exact .inl ⟨p, x, q, hp, hx, hq, rfl⟩
    · intro p x hp
      by_cases hpo : p = id
      · subst hpo
        rw [ho] at hp
        obtain rfl := Option.some.inj hp
        exact ⟨_, hupd_same _ _ _, .inl hnew⟩
      · exact ⟨x, by rw [hupd_ne _ _ hpo]; exact hp, .inr ⟨rfl, rfl, rfl, by simp [φupd, hpo]⟩⟩
  refine ⟨hext, ?_⟩
  have hctx := hext.leCtx hs.pl
  obtain ⟨b', hb', hr⟩ := hs.obj id ob ho
  obtain rfl : b = b' := Option.some.inj (hb.symm.trans hb')
  refine ⟨?_, ?_, ?_, ?_, ?_⟩
  · intro p q hq
    rw [st.size]
    by_cases hpo : p = id
    · simp only [φupd, if_pos hpo] at hq
      obtain rfl := Option.some.inj hq
      rw [hcb]; exact hr.lt
    · simp only [φupd, if_neg hpo] at hq
      exact hs.pl p q hq
  · intro p x hp
    by_cases hpo : p = id
    · subst hpo
      rw [hupd_same] at hp
      obtain rfl := Option.some.inj hp
      refine ⟨c, by simp [φupd], hcs, by rw [st.size, hcb]; exact hr.lt, by rw [hsz]; exact hr.pos, ?_, fun _ => by rw [hcb]; exact st.free (hr.fr hw)⟩
      intro i y hy
      obtain ⟨h0, v, h1, h2, h3⟩ := hel i y hy
      exact ⟨h0, v, VRel.mono hctx _ _ h1, h2, h3⟩
    · rw [hupd_ne _ _ hpo] at hp
      obtain ⟨q, hq, hrq⟩ := hs.obj p x hp
      have hne : q.block ≠ a.block := by
        rw [hab]
        exact Ne.symm (hs.sep id ob p x b q ho hw hp (Ne.symm hpo) hb hq)
      refine ⟨q, by simp [φupd, hpo, hq], hrq.spot, by rw [st.size]; exact hrq.lt, hrq.pos, ?_, fun hx => st.free (hrq.fr hx)⟩
      intro i y hy
      obtain ⟨h0, v, h1, h2, h3⟩ := hrq.el i y hy
      refine ⟨h0, v, VRel.mono hctx _ _ h1, h2, fun j u hj => ⟨(h3 j u hj).1, ?_⟩⟩
      rw [cell_same (st.other _ (by rw [add_block]; exact hne))]
      exact (h3 j u hj).2
  · intro p x q y e f hp hx hq hpq he hf
    have hp' : ∃ x' e', H p = some x' ∧ x'.w = true ∧ φ p = some e' ∧ e'.block = e.block := by
      by_cases hpo : p = id
      · subst hpo
        simp only [φupd, if_true] at he
        obtain rfl := Option.some.inj he
        exact ⟨ob, b, ho, hw, hb, hcb.symm⟩
      · rw [hupd_ne _ _ hpo] at hp
        simp only [φupd, if_neg hpo] at he
        exact ⟨x, e, hp, hx, he, rfl⟩
    have hq' : ∃ y' f', H q = some y' ∧ φ q = some f' ∧ f'.block = f.block := by
      by_cases hqo : q = id
      · subst hqo
        simp only [φupd, if_true] at hf
        obtain rfl := Option.some.inj hf
        exact ⟨ob, b, ho, hb, hcb.symm⟩
      · rw [hupd_ne _ _ hqo] at hq
        simp only [φupd, if_neg hqo] at hf
        exact ⟨y, f, hq, hf, rfl⟩
    obtain ⟨x', e', h1, h2, h3, h4⟩ := hp'
    obtain ⟨y', f', h5, h6, h7⟩ := hq'
    rw [← h4, ← h7]
    exact hs.sep p x' q y' e' f' h1 h2 h5 hpq h3 h6
  · intro p x hp
    by_cases hpo : p = id
    · subst hpo; exact hs.re p ob ho
    · rw [hupd_ne _ _ hpo] at hp; exact hs.re p x hp
  · intro p x e k f hp he hf
    simp only [φupd, if_neg (hnx k)] at hf
    by_cases hpo : p = id
    · subst hpo
      simp only [φupd, if_true] at he
      obtain rfl := Option.some.inj he
      rw [hcb]; exact hs.sx p ob b k f ho hb hf
    · rw [hupd_ne _ _ hpo] at hp
      simp only [φupd, if_neg hpo] at he
      exact hs.sx p x e k f hp he hf

theorem does_append {c : Call} {x y : Operand} {x' y' : Opd} {t u e : TypeId} {sz : Nat} {i : TypeInfo} {z : Value} {new : List AV} {v : AV} {H' : Heap} {nx' : Nat}
    (ho : o.op = .call c) (hc : c.callee = .builtin .append) (hargs : c.args = #[x, y]) (hty : c.argTypes = #[t, u]) (ht : AppT P t u e sz i z) (hx : opdOf x = some x') (hy : opdOf y = some y')
    (hs : SR nt w φ ⟨E, H, nx⟩ a) (hd : ∀ d, o.dst = some d → d < nt) (hsrc : Src P (ctx w φ H) w sz new (a.eval y)) (hf : fits sz new = true)
    (hv : (ev E x' = .nils ∧ new = [] ∧ v = .nils ∧ H' = H) ∨
      (ev E x' = .nils ∧ new ≠ [] ∧ new.length * sz ≤ 4294967296 ∧ (∃ id : Id, id.real ∧ v = .ref id (genAt H id) new.length 0 new.length ∧ H' = hupd H id ⟨genAt H id, sz, true, new⟩)) ∨
      (∃ id g n off len ob, ev E x' = .ref id g n off len ∧ H id = some ob ∧ ob.gen = g ∧ ob.es.length = n ∧ off + len ≤ n ∧ ob.w = true ∧ ob.sz = sz ∧
        ((new = [] ∧ v = .ref id g n off len ∧ H' = H) ∨
         (new ≠ [] ∧ off + len + new.length ≤ n ∧ v = .ref id g n off (len + new.length) ∧ H' = hupd H id { ob with es := ob.es.take (off + len) ++ new ++ ob.es.drop (off + len + new.length) }) ∨
         (new ≠ [] ∧ n < off + len + new.length ∧ (len + new.length) * sz ≤ 4294967296 ∧ v = .ref id (if off = 0 then g else g + 1) (len + new.length) 0 (len + new.length) ∧
           H' = hupd H id { ob with gen := (if off = 0 then g else g + 1), es := (ob.es.drop off).take len ++ new })))) :
    Does P o nt a w φ H o.dst E v H' nx' := by
  have h1 : VRel (ctx w φ H) (ev E x') (a.eval x) := opd_rel hs.env hx
  have hexec : ∀ (bs : Option Addr) (sLen sCap : Nat), a.eval x = .slice bs sLen sCap → execOp a.eval o = (do pure (.value (← Builtin.append_ #[t, u] o.type #[.slice bs sLen sCap, a.eval y]))) := by
    intro bs sLen sCap ex
    simp only [execOp, ho, resolve, hc, hargs, hty, invoke, builtin]
    simp only [List.map_toArray, List.map_cons, List.map_nil, ex]
    rfl
  -- a new row
  have grow : ∀ (bs : Option Addr) (sLen sCap : Nat) (olds : List AV) (id : Id) (ob' : Obj), id.real → a.eval x = .slice bs sLen sCap → Src P (ctx w φ H) w sz olds (.slice bs sLen sCap) → olds.length = sLen → ¬ (sLen + new.length ≤ sCap) → (sLen + new.length) * sz ≤ 4294967296 →
      fits sz olds = true → ob'.es = olds ++ new → ob'.sz = sz → ob'.w = true → (∀ ob, H id = some ob → Newer ob' ob) → Does P o nt a w φ H o.dst E (.ref id ob'.gen (sLen + new.length) 0 (sLen + new.length)) (hupd H id ob') nx' := by
    intro bs sLen sCap olds id ob' hre ex hso hol hroom hbig hfo hes hsz hw hnew
    obtain ⟨vs, dr, cap, rest, q1, q2, q3, q4, q5⟩ := run_append_grow' (ty := o.type) ht hsrc hso hol hroom hbig
    refine does_new (x := .slice (some ⟨w.heap.size, 0, none⟩) (sLen + new.length) cap) (cells := (laid vs ++ rest).toArray) (e := e) (lo := 0) (hi := 0) (dr := dr) ?_ hs hd hnew hre (.inl (Nat.le_refl _)) (by rw [hsz]; exact ht.pos) ?_ ?_
    · rw [hexec _ _ _ ex]
      simp only [Sem.run_bind, q5, Result.andThen_ok, Sem.run_pure]
    · intro k xx hk
      rw [hes] at hk
      rw [hsz]
      obtain ⟨g0, v', g1, g2, g3⟩ := elem_laid q1 (fits_append hfo hf) hk
      refine ⟨g0, v', g1, g2, fun j uu hj => ⟨(g3 j uu hj).1, ?_⟩⟩
      have := (g3 j uu hj).2
      simp only [List.getElem?_toArray]
      rw [List.getElem?_append_left (List.getElem?_eq_some_iff.1 this).1]
      exact this
    · refine ⟨_, _, rfl, q3, ob', hupd_same _ _ _, .inr ⟨rfl, by rw [hes]; simp [hol], by omega, .inr ⟨⟨w.heap.size, 0, none⟩, by simp [ctx, φupd], by simp [Addr.add], by omega, ?_⟩⟩⟩
      have hbs : bsize (World.row w (laid vs ++ rest).toArray e 0 0) w.heap.size = (laid vs ++ rest).length := by
        simp only [bsize, row_new, List.size_toArray]
      show 0 + (0 + cap) * ob'.sz ≤ bsize (World.row w (laid vs ++ rest).toArray e 0 0) w.heap.size
      rw [hbs, q4, hsz, Nat.zero_add, Nat.zero_add]
      exact Nat.le_refl _
  have room : ∀ (bs : Option Addr) (sLen sCap : Nat), a.eval x = .slice bs sLen sCap → sLen + new.length ≤ sCap → new = [] → VRel (ctx w φ H) v (.slice bs sLen sCap) → H' = H → Does P o nt a w φ H o.dst E v H' nx' := by
    intro bs sLen sCap ex hroom hnil hrel hH
    subst hnil
    subst hH
    obtain ⟨vs, q1, q2, q3⟩ := run_append_room' (ty := o.type) (b := bs) (sLen := sLen) (sCap := sCap) ht hsrc hroom
    have hvs : vs = [] := by cases vs with | nil => rfl | cons => exact q1.elim
    subst hvs
    refine does_pure (x := .slice bs sLen sCap) ?_ hs hrel hd
    rw [hexec _ _ _ ex]
    simp only [Sem.run_bind, q3]
    cases bs with
    | none => simp [Result.andThen]
    | some b => simp [Result.andThen, laid, storeCells]
  rcases hv with ⟨ex, hnil, rfl, rfl⟩ | ⟨ex, hne, hbig, id, hre, rfl, rfl⟩ | ⟨id, g, n, off, len, ob, ex, hob, g1, g2, g3, g4, g5, hv⟩
  · rw [ex] at h1
    have h1' : a.eval x = .slice none 0 0 := h1
    subst hnil
    exact room none 0 0 h1' (by simp) rfl rfl rfl
  · rw [ex] at h1
    have h1' : a.eval x = .slice none 0 0 := h1
    have hpos : 0 < new.length := List.length_pos_iff.2 hne
    have := grow none 0 0 [] id ⟨genAt H id, sz, true, new⟩ hre h1' src_empty rfl (by omega) (by simpa using hbig) rfl (by simp) rfl rfl (genAt_newer rfl)
    simpa using this
  · rw [ex] at h1
    obtain ⟨bs, cap, ev1, hlc, ob', hob', hq⟩ := h1
    obtain rfl : ob = ob' := Option.some.inj (hob.symm.trans hob')
    obtain ⟨b, hb, hrel⟩ := hs.sim.obj id ob hob
    rcases hq with hq | ⟨q1, q2, q3, q4⟩
    · unfold Stale at hq; omega
    · rcases hv with ⟨hnil, rfl, rfl⟩ | ⟨hne, hle, rfl, rfl⟩ | ⟨hne, hlt, hbig, rfl, rfl⟩
      · exact room bs len cap ev1 (by rw [hnil]; simpa using hlc) hnil ⟨bs, cap, rfl, hlc, ob, hob, .inr ⟨q1, q2, q3, q4⟩⟩ rfl
      · have hpos : 0 < new.length := List.length_pos_iff.2 hne
        rcases q4 with ⟨c0, _⟩ | ⟨b', hb', rfl, hn, hroom⟩
        · omega
        · obtain rfl : b = b' := Option.some.inj (hb.symm.trans hb')
          subst g5
          obtain ⟨vs, r1, r2, r3⟩ := run_append_room' (ty := o.type) (b := some (b.add (off * ob.sz))) (sLen := len) (sCap := cap) ht hsrc (by omega)
          have hrm : b.off + (off + len + new.length) * ob.sz ≤ bsize w b.block := by
            refine Nat.le_trans (Nat.add_le_add_left (Nat.mul_le_mul_right _ ?_) _) hroom
            omega
          obtain ⟨w', s1, s2⟩ := run_store_ref (P := P) hs.sim hob g4 hb r1 hf hrm
          obtain ⟨hext, hsim⟩ := sim_elems (off := off + len) hs.sim hob g4 hb r1 hf (by omega) s2
          intro K Q hK
          unfold Oper.wp
          rw [hexec _ _ _ ev1]
          simp only [Sem.run_bind, r3]
          rw [add_add hrel.spot, ← Nat.add_mul, s1]
          simp only [Result.andThen_ok, Sem.run_pure, Oper.upon_value]
          refine hK _ _ φ ⟨hsim, ?_, by rw [put_size]; exact hs.size⟩ hext (put_defers' _ _ _)
          have hctx := hext.leCtx hs.sim.pl
          refine EnvRel.put (hs.env.mono hctx) (fun _ => ?_) (fun d h => by rw [hs.size]; exact hd d h)
          refine ⟨_, cap, rfl, by omega, _, hupd_same _ _ _, .inr ⟨g1, by simp; omega, by omega, .inr ⟨b, hb, rfl, by omega, ?_⟩⟩⟩
          exact Nat.le_trans hroom (hctx.bs id b hb)
      · have hpos : 0 < new.length := List.length_pos_iff.2 hne
        by_cases hroom : len + new.length ≤ cap
        · -- there is room behind the object's end
          rcases q4 with ⟨c0, _⟩ | ⟨b', hb', rfl, hn, hrm⟩
          · omega
          · obtain rfl : b = b' := Option.some.inj (hb.symm.trans hb')
            subst g5
            obtain ⟨vs, r1, r2, r3⟩ := run_append_room' (ty := o.type) (b := some (b.add (off * ob.sz))) (sLen := len) (sCap := cap) ht hsrc hroom
            have hrm2 : b.off + (off + len + new.length) * ob.sz ≤ bsize w b.block := by
              refine Nat.le_trans (Nat.add_le_add_left (Nat.mul_le_mul_right _ ?_) _) hrm
              omega
            obtain ⟨w', s1, s2⟩ := run_store_ref (P := P) hs.sim hob g4 hb r1 hf hrm2
            have hnewer : Newer { ob with gen := (if off = 0 then g else g + 1), es := (ob.es.drop off).take len ++ new } ob := by
              unfold Newer
              by_cases h0 : off = 0
              · right; simp [h0, g1]; omega
              · left; simp [h0]; omega
            have hfo : fits ob.sz ((ob.es.drop off).take len) = true := fits_take (fits_drop (obj_fits hrel) _) _
            have hlold : ((ob.es.drop off).take len).length = len := by simp; omega
            have hll := laid_length (fits_vals r1 hf)
            obtain ⟨hext, hsim⟩ := sim_move (c := b.add (off * ob.sz)) (ob' := { ob with gen := (if off = 0 then g else g + 1), es := (ob.es.drop off).take len ++ new }) hs.sim hob g4 hb s2 (by rw [add_block]) (by rw [add_block]) (add_spot hrel.spot _) hnewer rfl (by
              intro k xx hk
              simp only at hk ⊢
              by_cases hkl : k < len
              · rw [List.getElem?_append_left (by omega), List.getElem?_take, if_pos hkl, List.getElem?_drop] at hk
                obtain ⟨h0, v, h1, h2, h3⟩ := hrel.el (off + k) xx hk
                refine ⟨h0, v, h1, h2, fun j u hj => ⟨(h3 j u hj).1, ?_⟩⟩
                have hjlt : j < ob.sz := by
                  rw [← h2]
                  rcases Nat.lt_or_ge j v.cells.size with h | h
                  · exact h
                  · simp [Array.getElem?_eq_none h] at hj
                have hcell := (h3 j u hj).2
                rw [add_add hrel.spot, ← Nat.add_assoc, ← Nat.add_mul]
                have := s2.cell (b.off + ((off + k) * ob.sz + j))
                rw [add_eq hrel.spot] at this
                rw [add_eq hrel.spot] at hcell ⊢
                simp only at this
                rw [this, if_neg ?_]
                · exact hcell
                · have : (off + k + 1) * ob.sz ≤ (off + len) * ob.sz := Nat.mul_le_mul_right _ (by omega)
                  rw [Nat.add_mul (off + k)] at this
                  omega
              · rw [List.getElem?_append_right (by omega), hlold] at hk
                obtain ⟨h0, v, h1, h2, h3⟩ := elem_laid r1 hf hk
                refine ⟨h0, v, h1, h2, fun j u hj => ⟨(h3 j u hj).1, ?_⟩⟩
                have hlaid := (h3 j u hj).2
                have hlt := (List.getElem?_eq_some_iff.1 hlaid).1
                rw [add_add hrel.spot]
                have := s2.cell (b.off + (off * ob.sz + (k * ob.sz + j)))
                rw [add_eq hrel.spot] at this
                rw [add_eq hrel.spot]
                simp only at this
                have e1 : off * ob.sz + k * ob.sz = (off + len) * ob.sz + (k - len) * ob.sz := by rw [← Nat.add_mul, ← Nat.add_mul]; congr 1; omega
                rw [this, if_pos (by omega)]
                rw [show b.off + (off * ob.sz + (k * ob.sz + j)) - (b.off + (off + len) * ob.sz) = (k - len) * ob.sz + j from by omega]
                exact hlaid)
            intro K Q hK
            unfold Oper.wp
            rw [hexec _ _ _ ev1]
            simp only [Sem.run_bind, r3]
            rw [add_add hrel.spot, ← Nat.add_mul, s1]
            simp only [Result.andThen_ok, Sem.run_pure, Oper.upon_value]
            refine hK _ _ _ ⟨hsim, ?_, by rw [put_size]; exact hs.size⟩ hext (put_defers' _ _ _)
            have hctx := hext.leCtx hs.sim.pl
            refine EnvRel.put (hs.env.mono hctx) (fun _ => ?_) (fun d h => by rw [hs.size]; exact hd d h)
            refine ⟨_, cap, rfl, by omega, _, hupd_same _ _ _, .inr ⟨rfl, by simp; omega, by omega, .inr ⟨b.add (off * ob.sz), by simp [ctx, φupd], by simp [Addr.add], by omega, ?_⟩⟩⟩
            have hbs := hctx.bs id b hb
            rw [add_eq hrel.spot]
            show b.off + off * ob.sz + (0 + cap) * ob.sz ≤ bsize w' b.block
            have : bsize w b.block ≤ bsize w' b.block := hbs
            have hrm' : b.off + (off + cap) * ob.sz ≤ bsize w b.block := hrm
            rw [Nat.add_mul] at hrm'
            rw [Nat.zero_add]
            omega
        · have hso : Src P (ctx w φ H) w sz ((ob.es.drop off).take len) (.slice bs len cap) := by
            refine elems_src (y := .ref id g n off len) hs.sim ⟨bs, cap, rfl, hlc, ob, hob, .inr ⟨q1, q2, q3, q4⟩⟩ ?_ ?_
            · simp only [elems, elemsOf, hob]
              rw [if_pos ⟨g1, g2, g3⟩]
            · have := obj_fits hrel
              rw [g5] at this
              exact fits_take (fits_drop this _) _
          have hfo : fits sz ((ob.es.drop off).take len) = true := by
            have := obj_fits hrel
            rw [g5] at this
            exact fits_take (fits_drop this _) _
          have := grow bs len cap ((ob.es.drop off).take len) id { ob with gen := (if off = 0 then g else g + 1), es := (ob.es.drop off).take len ++ new } (hs.sim.re _ _ hob) ev1 hso (by simp; omega) hroom hbig hfo rfl g5 g4 (by
            intro ob2 hob2
            rw [hob] at hob2
            obtain rfl := Option.some.inj hob2
            unfold Newer
            by_cases h0 : off = 0
            · right; simp [h0, g1]; omega
            · left; simp [h0]; omega)
          exact this
end
end Go.Am

/- One operation of Go's code against one of the small machine: copy, clear; slices and structs that are made; strings and bytes. -/
namespace Go.Am
set_option linter.unusedSimpArgs false
set_option linter.unusedVariables false
variable {P : Program}

theorem hupd_id {H : Heap} {id : Id} {ob : Obj} (h : H id = some ob) : hupd H id ob = H := by
  funext p
  unfold hupd
  split
  · rename_i e; subst e; exact h.symm
  · rfl

section
variable {o : Oper} {ops : Array Oper} {nt : Nat} {a : Act} {w : World} {φ : Id → Option Addr} {H : Heap} {nx : Nat} {E : AEnv} {T : Tab} {R : Run} {d : Nat}

/-- Elements of a live slice, written anew by an operation. -/
theorem does_elems {id : Id} {g n off len : Nat} {ob : Obj} {new : List AV} {vs : List Value} {bs : Option Addr} {cap : Nat} {v : AV} {rv : Value} {x' : AV}
    (hs : SR nt w φ ⟨E, H, nx⟩ a) (hd : ∀ d, o.dst = some d → d < nt) (hx : x' = .ref id g n off len) (hrel : VRel (ctx w φ H) x' (.slice bs len cap)) (hob : H id = some ob) (g1 : ob.gen = g) (g2 : ob.es.length = n) (g3 : off + len ≤ n) (g4 : ob.w = true)
    (hv : VTup (ctx w φ H) new vs) (hf : fits ob.sz new = true) (hle : new.length ≤ len)
    (hrun : ∀ w', (match bs with | some b => (storeCells b (laid vs)).run P w = .ok () w' | none => w' = w) → (execOp a.eval o).run P w = .ok (.value rv) w')
    (hrv : ∀ X, VRel X v rv) {nx' : Nat} :
    Does P o nt a w φ H o.dst E v (hupd H id { ob with es := ob.es.take off ++ new ++ ob.es.drop (off + new.length) }) nx' := by
  subst hx
  obtain ⟨bs', cap', e1, hlc, ob', hob', hq⟩ := hrel
  cases e1
  obtain rfl : ob = ob' := Option.some.inj (hob.symm.trans hob')
  obtain ⟨b, hb, hr⟩ := hs.sim.obj id ob hob
  rcases hq with hq | ⟨q1, q2, q3, q4⟩
  · unfold Stale at hq; omega
  · by_cases hz : new.length = 0
    · have hnil : new = [] := List.length_eq_zero_iff.1 hz
      subst hnil
      have hvs : vs = [] := by cases vs with | nil => rfl | cons => exact hv.elim
      subst hvs
      have he : hupd H id { ob with es := ob.es.take off ++ [] ++ ob.es.drop (off + ([] : List AV).length) } = H := by
        simp only [List.append_nil, List.length_nil, Nat.add_zero, List.take_append_drop]
        exact hupd_id hob
      rw [he]
      have hw : (execOp a.eval o).run P w = .ok (.value rv) w := by
        refine hrun w ?_
        cases bs with
        | none => rfl
        | some b => rfl
      exact does_pure hw hs (hrv _) hd
    · rcases q4 with ⟨c0, _⟩ | ⟨b', hb', rfl, hn, hroom⟩
      · omega
      · obtain rfl : b = b' := Option.some.inj (hb.symm.trans hb')
        have hrm : b.off + (off + new.length) * ob.sz ≤ bsize w b.block := by
          refine Nat.le_trans (Nat.add_le_add_left (Nat.mul_le_mul_right _ ?_) _) hroom
          omega
        obtain ⟨w', s1, s2⟩ := run_store_ref (P := P) hs.sim hob g4 hb hv hf hrm
        obtain ⟨hext, hsim⟩ := sim_elems (off := off) hs.sim hob g4 hb hv hf (by omega) s2
        intro K Q hK
        unfold Oper.wp
        rw [hrun w' s1, Oper.upon_value]
        refine hK _ _ φ ⟨hsim, ?_, by rw [put_size]; exact hs.size⟩ hext (put_defers' _ _ _)
        exact EnvRel.put (hs.env.mono (hext.leCtx hs.sim.pl)) (fun _ => hrv _) (fun d h => by rw [hs.size]; exact hd d h)

theorem does_copy {c : Call} {x y : Operand} {x' : Opd} {t u e : TypeId} {new : List AV} {id : Id} {g n off len : Nat} {ob : Obj} {m : Nat}
    (ho : o.op = .call c) (hc : c.callee = .builtin .copy) (hargs : c.args = #[x, y]) (hty : c.argTypes = #[t, u]) (he : elemT P t = some e) (hsz : sizeT P e = some ob.sz) (hx : opdOf x = some x')
    (hs : SR nt w φ ⟨E, H, nx⟩ a) (hd : ∀ d, o.dst = some d → d < nt) (hsrc : Src P (ctx w φ H) w ob.sz new (a.eval y)) (hf : fits ob.sz new = true)
    (ex : ev E x' = .ref id g n off len) (hob : H id = some ob) (g1 : ob.gen = g) (g2 : ob.es.length = n) (g3 : off + len ≤ n) (g4 : ob.w = true) (hm : m = min len new.length) {nx' : Nat} :
    Does P o nt a w φ H o.dst E (gInt m) (hupd H id { ob with es := ob.es.take off ++ new.take m ++ ob.es.drop (off + m) }) nx' := by
  have h1 : VRel (ctx w φ H) (ev E x') (a.eval x) := opd_rel hs.env hx
  have h1' := h1
  rw [ex] at h1'
  obtain ⟨bs, cap, ev1, hlc, _⟩ := h1'
  obtain ⟨vs, k1, k2, k3⟩ := hsrc.vals
  have hf0 : (Builtin.firstCells ob.sz m (a.eval y)).run P w = .ok (laid (vs.take m)).toArray w := k3 m w.drawn (by omega)
  have hlt : (new.take m).length = m := by simp; omega
  have hund := elemT_und he
  rw [ev1] at h1
  have := does_elems (o := o) (P := P) (new := new.take m) (vs := vs.take m) (v := gInt m) (rv := .int .i64 m) (nx' := nx') hs hd ex h1 hob g1 g2 g3 g4 (k1.take m) (fits_take hf m) (by rw [hlt]; omega) ?_ (fun _ => ⟨rfl, rfl⟩)
  · rw [hlt] at this; exact this
  · intro w' hw'
    simp only [execOp, ho, resolve, hc, hargs, hty, invoke, builtin, List.map_toArray, List.map_cons, List.map_nil, ev1]
    have hmin : Nat.min new.length len = m := by rw [hm]; show min new.length len = _; omega
    cases bs with
    | none =>
      simp only at hw'
      subst hw'
      simp [Builtin.copy_, run_underlying hund, hsrc.len, hmin, run_sizeOf hsz, hf0, goInt]
    | some b =>
      simp only at hw'
      simp [Builtin.copy_, run_underlying hund, hsrc.len, hmin, run_sizeOf hsz, hf0, goInt, hw']

theorem does_clear {c : Call} {x : Operand} {x' : Opd} {t e : TypeId} {z : AV} {v0 : AV}
    (ho : o.op = .call c) (hc : c.callee = .builtin .clear) (hargs : c.args = #[x]) (hty : c.argTypes = #[t]) (he : elemT P t = some e) (hz : zeroT P e = some z) (hx : opdOf x = some x')
    (hs : SR nt w φ ⟨E, H, nx⟩ a) (hd : ∀ d, o.dst = some d → d < nt) {H' : Heap} (hv : v0 = .tup [])
    (hcase : (ev E x' = .nils ∧ H' = H) ∨ (∃ id g n off len ob, ev E x' = .ref id g n off len ∧ H id = some ob ∧ ob.gen = g ∧ ob.es.length = n ∧ off + len ≤ n ∧ ob.w = true ∧ z.cells.length = ob.sz ∧ stor z = true ∧
      H' = hupd H id { ob with es := ob.es.take off ++ List.replicate len z ++ ob.es.drop (off + len) })) {nx' : Nat} :
    Does P o nt a w φ H o.dst E v0 H' nx' := by
  subst hv
  have h1 : VRel (ctx w φ H) (ev E x') (a.eval x) := opd_rel hs.env hx
  have hund := elemT_und he
  obtain ⟨i, v, hi, hzv, hvo, hlen⟩ := zeroT_info hz
  rcases hcase with ⟨ex, rfl⟩ | ⟨id, g, n, off, len, ob, ex, hob, g1, g2, g3, g4, g5, g6, rfl⟩
  · rw [ex] at h1
    have h1' : a.eval x = .slice none 0 0 := h1
    refine does_pure (v := .tup []) (x := .tuple #[]) ?_ hs ⟨[], rfl, trivial⟩ hd
    simp only [execOp, ho, resolve, hc, hargs, hty, invoke, builtin, List.map_toArray, List.map_cons, List.map_nil, h1']
    simp [Builtin.clear_, run_underlying hund]
  · have h1' := h1
    rw [ex] at h1'
    obtain ⟨bs, cap, ev1, hlc, _⟩ := h1'
    rw [ev1] at h1
    have hzr := valOf_rel (ctx w φ H) hvo
    obtain ⟨f1, f2⟩ := fit_cells hzr g6
    have hfit : fits ob.sz (List.replicate len z) = true := by
      unfold fits; rw [List.all_eq_true]
      intro q hq
      obtain rfl := List.eq_of_mem_replicate hq
      simp [g6, g5]
    have hvt : ∀ k : Nat, VTup (ctx w φ H) (List.replicate k z) (List.replicate k v) := by
      intro k
      induction k with
      | zero => trivial
      | succ k ih => exact ⟨hzr, ih⟩
    replace hvt := hvt len
    have hlaid : laid (List.replicate len v) = (Builtin.zeroCells v.cells len).toList := by
      have hsz := fits_vals hvt hfit
      have hpos : 0 < v.cells.size := by
        obtain ⟨b, _, hr⟩ := hs.sim.obj id ob hob
        have := hr.pos; omega
      apply List.ext_getElem?
      intro k
      by_cases hk : k < len * v.cells.size
      · have h3 : k / v.cells.size < len := by rw [Nat.div_lt_iff_lt_mul hpos]; exact hk
        have h4 : k % v.cells.size < v.cells.size := Nat.mod_lt _ hpos
        have := laid_at (sz := ob.sz) hsz (i := k / v.cells.size) (v := v) (by simp [h3]) (k % v.cells.size) v.cells[k % v.cells.size] (by simp [h4])
        rw [show k / v.cells.size * ob.sz + k % v.cells.size = k from by
          have := Nat.div_add_mod k v.cells.size
          rw [show ob.sz = v.cells.size from by omega, Nat.mul_comm]; exact this] at this
        rw [this]
        simp [Builtin.zeroCells, hk, h4]
      · rw [List.getElem?_eq_none (by rw [laid_length hsz]; simp; rw [show ob.sz = v.cells.size from by omega]; omega)]
        rw [List.getElem?_eq_none (by simp [zeroCells_size]; omega)]
    have := does_elems (o := o) (P := P) (new := List.replicate len z) (vs := List.replicate len v) (v := .tup []) (rv := .tuple #[]) (nx' := nx') hs hd ex h1 hob g1 g2 g3 g4 hvt hfit (by simp) ?_ (fun _ => ⟨[], rfl, trivial⟩)
    · simpa using this
    · intro w' hw'
      simp only [execOp, ho, resolve, hc, hargs, hty, invoke, builtin, List.map_toArray, List.map_cons, List.map_nil, ev1]
      cases bs with
      | none =>
        simp only at hw'
        subst hw'
        simp [Builtin.clear_, run_underlying hund]
      | some b =>
        simp only at hw'
        cases len with
        | zero =>
          have : w' = w := by
            simp [laid, storeCells] at hw'
            exact hw'.symm
          subst this
          simp [Builtin.clear_, run_underlying hund]
        | succ k =>
          rw [hlaid] at hw'
          simp [Builtin.clear_, run_underlying hund, zeroValue, typeInfo, hi, hzv, hw']

theorem does_mksl {t e : TypeId} {l c : Operand} {z : AV} {sz : Nat} {m : Int} (ho : o.op = .makeSlice t l c) (he : elemT P t = some e) (hz : zeroT P e = some z) (hsz : sizeT P e = some sz)
    (hl : isInt (some (a.eval l)) (some m)) (hcc : isInt (some (a.eval c)) (some m))
    (hs : SR nt w φ ⟨E, H, nx⟩ a) (hd : ∀ d, o.dst = some d → d < nt) (h0 : 0 ≤ m) (hbig : m * sz ≤ 4294967296) (hst : stor z = true) {id : Id} {nx' : Nat} (hre : id.real := by trivial) :
    Does P o nt a w φ H o.dst E (.ref id (genAt H id) m.toNat 0 m.toNat) (hupd H id ⟨genAt H id, sz, true, List.replicate m.toNat z⟩) nx' := by
  obtain ⟨i, v, hi, hzv, hvo, hlen⟩ := zeroT_info hz
  obtain ⟨i', hi', hsi, hpos, hby⟩ := sizeT_info hsz
  obtain rfl : i = i' := Option.some.inj (hi.symm.trans hi')
  have hzr := valOf_rel (ctx w φ H) hvo
  obtain ⟨f1, f2⟩ := fit_cells hzr hst
  rcases hl with ⟨e1, _⟩ | ⟨kl, il, e1, e2⟩
  · cases e1
  rcases hcc with ⟨e3, _⟩ | ⟨kc, ic, e3, e4⟩
  · cases e3
  cases e2; cases e4
  have e1' := Option.some.inj e1
  have e3' := Option.some.inj e3
  have hmsz : m ≤ m * sz := by
    have : m * 1 ≤ m * sz := Int.mul_le_mul_of_nonneg_left (by omega) h0
    simpa using this
  have hmN : (m.toNat : Int) = m := Int.toNat_of_nonneg h0
  have hbytes : (i.bytes : Int) * m ≤ 281474976710656 := by
    have h1 : (i.bytes : Int) * m ≤ (32 * sz : Nat) * m := Int.mul_le_mul_of_nonneg_right (by omega) h0
    have h2 : ((32 * sz : Nat) : Int) * m = 32 * (m * sz) := by push_cast; rw [Int.mul_assoc, Int.mul_comm (sz : Int)]
    omega
  have hrun := run_make (P := P) w t e i v (elemT_und he) hi hzv kl kc m m h0 (Int.le_refl _) hbytes (by omega)
  refine does_new (x := .slice (some ⟨w.heap.size, 0, none⟩) m.toNat m.toNat) (cells := madeCells v.cells (m.toNat * i.size)) (e := e) (lo := 0) (hi := 0) (dr := w.drawn) ?_ hs hd (genAt_newer rfl) hre (.inl (Nat.le_refl _)) hpos ?_ ?_
  · simp only [execOp, ho, e1', e3', Sem.run_bind, hrun, Result.andThen_ok, Sem.run_pure]
    rfl
  · intro k xx hk
    rw [List.getElem?_replicate] at hk
    split at hk
    · rename_i hkl
      obtain rfl := Option.some.inj hk
      refine ⟨hst, v, hzr, by simp only; omega, fun j u hj => ⟨f2 j u hj, ?_⟩⟩
      have hjlt : j < v.cells.size := by
        rcases Nat.lt_or_ge j v.cells.size with h | h
        · exact h
        · simp [Array.getElem?_eq_none h] at hj
      have hvs : v.cells.size = sz := by omega
      have hlt : k * sz + j < m.toNat * i.size := by
        have : (k + 1) * sz ≤ m.toNat * sz := Nat.mul_le_mul_right _ hkl
        rw [Nat.add_mul] at this
        rw [hsi]; omega
      simp only [madeCells]
      simp only [Array.getElem?_map]
      rw [Array.getElem?_eq_getElem (by simpa using hlt)]
      simp only [Array.getElem_range, Option.map_some]
      rw [hvs, Nat.mul_comm k sz, Nat.mul_add_mod, Nat.mod_eq_of_lt (by omega)]
      rw [← hj]
      simp [hjlt]
    · cases hk
  · refine ⟨_, _, rfl, Nat.le_refl _, _, hupd_same _ _ _, .inr ⟨rfl, by simp, by omega, .inr ⟨⟨w.heap.size, 0, none⟩, by simp [ctx, φupd], by simp [Addr.add], by omega, ?_⟩⟩⟩
    have hbs : bsize (World.row w (madeCells v.cells (m.toNat * i.size)) e 0 0) w.heap.size = m.toNat * i.size := by
      simp only [bsize, row_new, size_madeCells]
    show 0 + (0 + m.toNat) * sz ≤ bsize (World.row w (madeCells v.cells (m.toNat * i.size)) e 0 0) w.heap.size
    rw [hbs, hsi, Nat.zero_add, Nat.zero_add]
    exact Nat.le_refl _
end
end Go.Am

/- One operation of Go's code against one of the small machine: strings and bytes; literals. -/
namespace Go.Am
set_option linter.unusedSimpArgs false
set_option linter.unusedVariables false
variable {P : Program}

section
variable {o : Oper} {ops : Array Oper} {nt : Nat} {a : Act} {w : World} {φ : Id → Option Addr} {H : Heap} {nx : Nat} {E : AEnv} {T : Tab} {R : Run} {d : Nat}

theorem row_freeze (w : World) (cells : Array Value) (e : TypeId) : World.freeze (World.row w cells e 0 0) ⟨w.heap.size, cells.size, none⟩ 1 = World.row w cells e cells.size (cells.size + 1) := by
  simp only [World.freeze, World.row]
  rw [if_neg (by omega)]
  congr 1
  apply Array.ext_getElem?
  intro i
  rw [Array.getElem?_modify]
  by_cases hi : w.heap.size = i
  · subst hi
    simp
  · rw [if_neg hi, Array.getElem?_push, Array.getElem?_push, if_neg (Ne.symm hi), if_neg (Ne.symm hi)]

theorem run_markStringish (w : World) (cells : Array Value) (e : TypeId) : (markStringish ⟨w.heap.size, 0, none⟩).run P (World.row w cells e 0 0) = .ok () (World.row w cells e cells.size (cells.size + 1)) := by
  have hsh : (World.row w cells e 0 0).shape? w.heap.size = some (e, cells.size) := by
    simp only [World.shape?, row_new]
  simp only [markStringish, Sem.run_bind, run_shape, Result.andThen_ok, hsh, run_freeze]
  rw [← row_freeze]

theorem run_newRow (w : World) (cells : Array Value) (e : TypeId) : (newRow e cells).run P w = .ok ⟨w.heap.size, 0, none⟩ (World.row w cells e 0 0) := rfl

theorem does_s2b {s t e : TypeId} {x : Operand} {x' : Opd} {b : ByteArray} (ho : o.op = .convert s t x) (hs1 : P.underlying s = some .string) (ht : P.underlying t = some (.slice e)) (he : P.underlying e = some (.int .u8)) (hx : opdOf x = some x')
    (hs : SR nt w φ ⟨E, H, nx⟩ a) (hd : ∀ d, o.dst = some d → d < nt) (hu : ev E x' = .c (.s (.string b))) {id : Id} {nx' : Nat} (hre : id.real := by trivial) :
    Does P o nt a w φ H o.dst E (.ref id (genAt H id) b.size 0 b.size) (hupd H id ⟨genAt H id, 1, true, bytesVs b⟩) nx' := by
  have h1 := opd_rel hs.env hx
  rw [hu] at h1
  obtain ⟨e1, _⟩ := scalar_rel h1
  have hge : b.size ≤ grownCap w b.size 0 e := grownCap_ge w b.size 0 e
  have hds : b.data.size = b.size := rfl
  let cells : Array Value := b.data.map (fun c : UInt8 => Value.int .u8 c.toNat) ++ Array.replicate (grownCap w b.size 0 e - b.size) (Value.int .u8 0)
  refine does_new (x := .slice (some ⟨w.heap.size, 0, none⟩) b.size (grownCap w b.size 0 e)) (cells := cells) (e := e)
    (lo := cells.size) (hi := cells.size + 1) (dr := w.drawn + 1) ?_ hs hd (genAt_newer rfl) hre (.inr (Nat.le_refl _)) (by simp) ?_ ?_
  · simp only [execOp, ho, e1]
    simp only [convert, Sem.run_bind, run_underlying hs1, run_underlying ht, run_underlying he, Result.andThen_ok, Conv.stringToBytes]
    have hch : (choose (.appendCap b.size 0 e)).run P w = .ok (grownCap w b.size 0 e) w.drew := rfl
    simp only [hch, Result.andThen_ok, run_newRow]
    have := run_markStringish (P := P) w.drew cells e
    rw [show w.drew.heap.size = w.heap.size from rfl] at this ⊢
    simp only [cells] at this ⊢
    rw [this]
    rfl
  · intro k xx hk
    have hv := bytes_vtup (ctx w φ H) b
    have hf : fits 1 (bytesVs b) = true := by
      unfold fits; rw [List.all_eq_true]
      intro q hq
      obtain ⟨c, _, rfl⟩ := List.mem_map.1 hq
      rfl
    obtain ⟨g0, v, g1, g2, g3⟩ := elem_laid hv hf hk
    refine ⟨g0, v, g1, g2, fun j u hj => ⟨(g3 j u hj).1, ?_⟩⟩
    have hl := (g3 j u hj).2
    rw [laid_flat _ (by intro v hv; obtain ⟨c, _, rfl⟩ := List.mem_map.1 hv; rfl)] at hl
    have hlt := (List.getElem?_eq_some_iff.1 hl).1
    rw [Array.getElem?_append, if_pos (by simpa using hlt)]
    simpa using hl
  · refine ⟨_, _, rfl, hge, _, hupd_same _ _ _, .inr ⟨rfl, by simp [bytesVs], by omega, .inr ⟨⟨w.heap.size, 0, none⟩, by simp [ctx, φupd], by simp [Addr.add], by omega, ?_⟩⟩⟩
    have hcs : cells.size = grownCap w b.size 0 e := by simp only [cells, Array.size_append, Array.size_map, Array.size_replicate]; omega
    simp only [ctx, bsize, row_new]
    omega

theorem bytes_go {X : Ctx} : ∀ (es : List AV) (l : List UInt8) (vs : List Value), bytesOf.go es = some l → VTup X es vs → ∃ ns : List Int, vs = ns.map (Value.int .u8) ∧ l = ns.map fun n => UInt8.ofNat n.toNat := by
  intro es
  induction es with
  | nil => intro l vs h hv; simp [bytesOf.go] at h; subst h; cases vs with | nil => exact ⟨[], rfl, rfl⟩ | cons => exact hv.elim
  | cons x r ih =>
    intro l vs h hv
    cases vs with
    | nil => exact hv.elim
    | cons v vs =>
      unfold bytesOf.go at h
      split at h
      · rename_i e; cases e
      · rename_i n r' e
        cases e
        split at h
        · rename_i b hb
          obtain rfl := Option.some.inj h
          obtain ⟨ns, h1, h2⟩ := ih _ _ hb hv.2
          obtain ⟨e1, _⟩ := hv.1
          exact ⟨n :: ns, by rw [e1, h1]; rfl, by rw [h2]; rfl⟩
        · cases h
      · cases h

theorem does_b2s {s t e : TypeId} {x : Operand} {x' : Opd} {es : List AV} {b : ByteArray} (ho : o.op = .convert s t x) (hs1 : P.underlying s = some (.slice e)) (ht : P.underlying t = some .string) (he : P.underlying e = some (.int .u8)) (hx : opdOf x = some x')
    (hs : SR nt w φ ⟨E, H, nx⟩ a) (hd : ∀ d, o.dst = some d → d < nt) (hes : elems H (ev E x') = some es) (hb : bytesOf es = some b) : Does P o nt a w φ H o.dst E (gStr b) H nx := by
  have h1 : VRel (ctx w φ H) (ev E x') (a.eval x) := opd_rel hs.env hx
  unfold bytesOf at hb
  obtain ⟨l, hl, rfl⟩ := Option.map_eq_some_iff.1 hb
  have hf : fits 1 es = true := by
    clear hes h1
    unfold fits
    rw [List.all_eq_true]
    induction es generalizing l with
    | nil => simp
    | cons y r ih =>
      unfold bytesOf.go at hl
      split at hl
      · rename_i e; cases e
      · rename_i n r' e'
        cases e'
        split at hl
        · rename_i b' hb'
          intro q hq
          rcases List.mem_cons.1 hq with rfl | hq
          · rfl
          · exact ih _ hb' (by simp [hb']) q hq
        · cases hl
      · cases hl
  have hsrc := elems_src (P := P) hs.sim h1 hes hf
  obtain ⟨vs, k1, k2, k3⟩ := hsrc.vals
  obtain ⟨ns, e1, e2⟩ := bytes_go es l vs hl k1
  have hfc : (Builtin.firstCells 1 es.length (a.eval x)).run P w = .ok (laid (vs.take es.length)).toArray w := k3 es.length w.drawn (Nat.le_refl _)
  rw [List.take_of_length_le (by rw [k1.length]; exact Nat.le_refl _)] at hfc
  have hone : ∀ v ∈ vs, oneCell v = true := by
    intro v hv; rw [e1] at hv; obtain ⟨n, _, rfl⟩ := List.mem_map.1 hv; rfl
  rw [laid_flat vs hone, e1] at hfc
  have hlen := hsrc.len
  refine does_pure (v := gStr ⟨l.toArray⟩) (x := .string ⟨l.toArray⟩) ?_ hs ⟨rfl, rfl⟩ hd
  have hval : ∃ bs len cap, a.eval x = .slice bs len cap ∧ len = es.length := by
    generalize a.eval x = u at *
    cases hx' : ev E x' with
    | nils => rw [hx'] at h1 hes; simp [elems] at hes; subst hes; exact ⟨none, 0, 0, h1, rfl⟩
    | c t =>
      cases t with
      | sl sz xs => rw [hx'] at h1 hes; simp [elems] at hes; subst hes; obtain ⟨a', len, cap, r1, r2, _⟩ := h1; exact ⟨a', len, cap, r1, by simpa using r2⟩
      | _ => rw [hx'] at hes; simp [elems] at hes
    | ref id g n off len =>
      rw [hx'] at h1 hes
      obtain ⟨a', cap, r1, _⟩ := h1
      simp only [elems, elemsOf] at hes
      split at hes
      · split at hes
        · rename_i hc
          obtain rfl := Option.some.inj hes
          exact ⟨a', len, cap, r1, by simp; omega⟩
        · cases hes
      · cases hes
    | _ => rw [hx'] at hes; simp [elems] at hes
  obtain ⟨bs, len, cap, ev1, rfl⟩ := hval
  rw [ev1] at hfc
  simp only [execOp, ho, ev1]
  simp only [convert, Sem.run_bind, run_underlying hs1, run_underlying ht, run_underlying he, Result.andThen_ok]
  cases bs with
  | none =>
    have hns : ns = [] := by
      have h2 := hfc
      simp only [Builtin.firstCells, Sem.run_pure] at h2
      have : (#[] : Array Value) = (ns.map (Value.int .u8)).toArray := by injection h2
      have := congrArg Array.size this
      simp at this
      exact List.length_eq_zero_iff.1 this.symm
    subst hns
    subst e2
    rfl
  | some ad =>
    simp only [Builtin.firstCells, Nat.mul_one] at hfc
    rw [run_bytesToString w ad es.length cap ns hfc, foldl_push_bytes]
    subst e2
    simp only [Result.andThen_ok, Sem.run_pure]
    congr 3
    simp [ByteArray.empty, ByteArray.emptyWithCapacity]
    rfl

/-! ### literals -/
theorem fold_put (l : List Value) (off : Nat) : ∀ (k : Nat) (z0 : List Value), off + k + l.length ≤ z0.length →
    (l.zipIdx k).foldl (fun (cs : Array Value) (x : Value × Nat) => cs.setIfInBounds (off + x.2) x.1) z0.toArray = (z0.take (off + k) ++ l ++ z0.drop (off + k + l.length)).toArray := by
  induction l with
  | nil => intro k z0 _; simp
  | cons y l ih2 =>
    intro k z0 hlen
    simp only [List.length_cons] at hlen
    simp only [List.zipIdx_cons, List.foldl_cons]
    rw [show (z0.toArray.setIfInBounds (off + k) y) = (z0.set (off + k) y).toArray from by simp]
    rw [ih2 (k + 1) (z0.set (off + k) y) (by simp; omega)]
    congr 1
    apply List.ext_getElem?
    intro j
    rw [show off + (k + 1) = off + k + 1 from by omega]
    rw [getElem?_put _ _ _ (by simp; omega)]
    rw [getElem?_put z0 (y :: l) (off + k) (by simp; omega) j]
    simp only [List.length_cons]
    rw [show off + k + 1 + l.length = off + k + (l.length + 1) from by omega]
    by_cases hj : j = off + k
    · subst hj
      rw [if_neg (by omega), if_pos (by omega), Nat.sub_self, List.getElem?_set_self (by omega)]
      rfl
    · by_cases hj2 : off + k + 1 ≤ j ∧ j < off + k + (l.length + 1)
      · rw [if_pos hj2, if_pos (by omega)]
        rw [show j - (off + k) = (j - (off + k + 1)) + 1 from by omega]
        simp
      · rw [if_neg hj2, if_neg (by omega)]
        rw [List.getElem?_set_ne (Ne.symm hj)]

theorem fill_one {place : Nat → Option (Nat × Nat)} {i off n : Nat} {u : Value} {zs : List Value} {rest : List (Nat × Value)} (h1 : place i = some (off, n)) (hn : u.cells.size = n) (hle : off + n ≤ zs.length) :
    Instr.fill place zs.toArray ((i, u) :: rest) = Instr.fill place (zs.take off ++ u.cells.toList ++ zs.drop (off + u.cells.toList.length)).toArray rest := by
  simp only [Instr.fill, h1]
  have hcond : (decide (u.cells.size ≠ n) || decide (off + u.cells.size > zs.toArray.size)) = false := by
    simp; omega
  rw [if_neg (by rw [hcond]; simp)]
  have := fold_put u.cells.toList off 0 zs (by simp; omega)
  rw [← Array.foldl_toList, Array.toList_zipIdx]
  simp only [Nat.add_zero] at this
  rw [this]

theorem fill_put {place : Nat → Option (Nat × Nat)} {X : Ctx} : ∀ (parts : List (Nat × Value)) (ps : List (Nat × Nat × AV)) (zc : List AV) (zs : List Value) (cs : List AV),
    VRels X zc zs → parts.length = ps.length → (∀ (k : Nat) (q : Nat × Value) (p : Nat × Nat × AV), parts[k]? = some q → ps[k]? = some p → place q.1 = some (p.1, p.2.1) ∧ VRel X p.2.2 q.2) → fillCells zc ps = some cs →
    ∃ rs : List Value, Instr.fill place zs.toArray parts = some rs.toArray ∧ VRels X cs rs := by
  intro parts
  induction parts with
  | nil =>
    intro ps zc zs cs hz hl _ hf
    cases ps with
    | nil => simp [fillCells] at hf; subst hf; exact ⟨zs, rfl, hz⟩
    | cons => simp at hl
  | cons q parts ih =>
    intro ps zc zs cs hz hl hp hf
    cases ps with
    | nil => simp at hl
    | cons p ps =>
      obtain ⟨off, n, v⟩ := p
      obtain ⟨i, u⟩ := q
      obtain ⟨h1, h2⟩ := hp 0 (i, u) (off, n, v) rfl rfl
      simp only [fillCells] at hf
      split at hf
      · rename_i hns
        obtain ⟨hn, h3⟩ := hns
        split at hf
        · rename_i cs' hput
          unfold putCells at hput
          split at hput
          · rename_i hle
            obtain rfl := Option.some.inj hput
            obtain ⟨f1, _⟩ := fit_cells h2 h3
            obtain ⟨n1, n2⟩ := stor_ne h3
            have hcl := VRel.cells h2 n1 n2
            have hzl := hz.length
            have f1' : u.cells.size = v.cells.length := f1
            have hul : u.cells.toList.length = v.cells.length := by simp; omega
            have hz2 : VRels X (zc.take off ++ v.cells ++ zc.drop (off + v.cells.length)) (zs.take off ++ u.cells.toList ++ zs.drop (off + u.cells.toList.length)) := by
              rw [hul]
              exact ((hz.take off).append hcl).append (hz.drop _)
            obtain ⟨rs, r1, r2⟩ := ih ps _ _ cs hz2 (by simpa using hl) (fun k q p hq hp' => hp (k + 1) q p (by simpa using hq) (by simpa using hp')) hf
            refine ⟨rs, ?_, r2⟩
            rw [fill_one h1 (by rw [f1']; exact hn) (by rw [← hn, ← hzl]; exact hle)]
            exact r1
          · cases hput
        · cases hf
      · cases hf

/-- Values one behind the other, from the k-th place on. -/
def partsFrom : Nat → List Value → List (Nat × Value)
  | _, [] => []
  | k, v :: r => (k, v) :: partsFrom (k + 1) r

theorem fill_row {sz : Nat} : ∀ (vals : List Value) (k : Nat) (zs : List Value), (∀ v ∈ vals, v.cells.size = sz) → zs.length = (k + vals.length) * sz →
    Instr.fill (fun i => some (i * sz, sz)) zs.toArray (partsFrom k vals) = some (zs.take (k * sz) ++ laid vals).toArray := by
  intro vals
  induction vals with
  | nil =>
    intro k zs _ hl
    simp only [partsFrom, Instr.fill, laid, List.flatMap_nil, List.append_nil]
    rw [List.take_of_length_le (by simp at hl; omega)]
  | cons v r ih =>
    intro k zs hv hl
    have hsz := hv v (by simp)
    have e1 : (k + (v :: r).length) * sz = k * sz + sz + r.length * sz := by simp [Nat.add_mul]; omega
    simp only [partsFrom]
    rw [fill_one rfl hsz (by omega)]
    rw [ih (k + 1) _ (fun u hu => hv u (by simp [hu])) (by
      simp only [List.length_append, List.length_take, List.length_drop, Array.length_toList, hsz]
      rw [show (k + 1 + r.length) * sz = k * sz + sz + r.length * sz from by simp [Nat.add_mul]; ]
      omega)]
    congr 2
    have hlen : (zs.take (k * sz) ++ v.cells.toList).length = (k + 1) * sz := by
      simp only [List.length_append, List.length_take, Array.length_toList, hsz, Nat.add_mul]; omega
    rw [← hlen, List.take_left]
    simp [laid]

theorem valOf_stor {v : Value} {z : AV} (h : valOf v = some z) : stor z = true := by
  have hc : ∀ {v : Value} {z : AV}, cellOf v = some z → stor z = true := by
    intro v z h
    unfold cellOf at h
    split at h
    · obtain rfl := Option.some.inj h; rfl
    · split at h
      · obtain rfl := Option.some.inj h; rfl
      · cases h
  unfold valOf at h
  split at h
  · split at h
    · obtain rfl := Option.some.inj h; rfl
    · cases h
  · exact hc h

theorem parts_rel {X : Ctx} {E : AEnv} {a : Act} (e : EnvRel X E a.tmps) : ∀ (xs : List (Nat × Operand)) (ys : List (Nat × Opd)), mapMO (fun p : Nat × Operand => match opdOf p.2 with | some y => some (p.1, y) | none => none) xs = some ys →
    ys.length = xs.length ∧ ∀ (k : Nat) (x : Nat × Operand) (y : Nat × Opd), xs[k]? = some x → ys[k]? = some y → x.1 = y.1 ∧ VRel X (ev E y.2) (a.eval x.2) := by
  intro xs
  induction xs with
  | nil => intro l h; simp [mapMO] at h; subst h; exact ⟨rfl, fun k x y hx => by simp at hx⟩
  | cons v r ih =>
    intro l h
    simp only [mapMO] at h
    split at h
    · rename_i y hy
      split at hy
      · rename_i z hz
        obtain rfl := Option.some.inj hy
        split at h
        · rename_i ys hys
          obtain rfl := Option.some.inj h
          obtain ⟨h1, h2⟩ := ih _ hys
          refine ⟨by simp [h1], ?_⟩
          intro k x y hx hy
          cases k with
          | zero => simp at hx hy; subst hx; subst hy; exact ⟨rfl, opd_rel e hz⟩
          | succ k => exact h2 k x y (by simpa using hx) (by simpa using hy)
        · cases h
      · cases hy
    · cases h

theorem mapMO_get {α β : Type} {f : α → Option β} : ∀ {xs : List α} {ys : List β}, mapMO f xs = some ys → ys.length = xs.length ∧ ∀ (k : Nat) (x : α), xs[k]? = some x → ∃ y, f x = some y ∧ ys[k]? = some y := by
  intro xs
  induction xs with
  | nil => intro ys h; simp [mapMO] at h; subst h; exact ⟨rfl, fun k x hx => by simp at hx⟩
  | cons v r ih =>
    intro ys h
    simp only [mapMO] at h
    split at h
    · rename_i y hy
      split at h
      · rename_i q hq
        obtain rfl := Option.some.inj h
        obtain ⟨h1, h2⟩ := ih hq
        refine ⟨by simp [h1], ?_⟩
        intro k x hx
        cases k with
        | zero => simp at hx; subst hx; exact ⟨y, hy, rfl⟩
        | succ k => obtain ⟨z, g1, g2⟩ := h2 k x (by simpa using hx); exact ⟨z, g1, by simpa using g2⟩
      · cases h
    · cases h

theorem does_build {t : TypeId} {parts : Array (Nat × Operand)} {z : AV} {fs : Array Field} {ps : List (Nat × Opd)} {l : List (Nat × Nat × Opd)} {cs : List AV} (ho : o.op = .build t parts) (hz : zeroT P t = some z) (ht : P.underlying t = some (.struct fs))
    (hps : mapMO (fun p : Nat × Operand => match opdOf p.2 with | some y => some (p.1, y) | none => none) parts.toList = some ps) (hall : (fs.toList.all fun f => (sizeT P f.type).isSome) = true)
    (hl : mapMO (fun p : Nat × Opd => match fs[p.1]? with
        | some f => match sizeT P f.type with | some s => some (f.offset, s, p.2) | none => none
        | none => none) ps = some l)
    (hs : SR nt w φ ⟨E, H, nx⟩ a) (hd : ∀ d, o.dst = some d → d < nt) (hf : fillCells z.cells (l.map fun p => (p.1, p.2.1, ev E p.2.2)) = some cs) : Does P o nt a w φ H o.dst E (.agg cs) H nx := by
  obtain ⟨i, v, hi, hzv, hvo, hlen⟩ := zeroT_info hz
  have hst := valOf_stor hvo
  obtain ⟨n1, n2⟩ := stor_ne hst
  have hzc := VRel.cells (valOf_rel (ctx w φ H) hvo) n1 n2
  obtain ⟨hpl, hprel⟩ := parts_rel hs.env _ _ hps
  obtain ⟨hll, hlget⟩ := mapMO_get hl
  -- the places
  have hplaces : ∃ places : List (Nat × Nat), fs.toList.mapM (fun f => (P.info? f.type).map fun i => (f.offset, i.size)) = some places ∧ ∀ (k : Nat) (f : Field), fs.toList[k]? = some f → ∀ s, sizeT P f.type = some s → places[k]? = some (f.offset, s) := by
    rw [List.all_eq_true] at hall
    generalize fs.toList = fl at hall
    induction fl with
    | nil => exact ⟨[], rfl, fun k f h => by simp at h⟩
    | cons f r ih =>
      obtain ⟨places, p1, p2⟩ := ih (fun g hg => hall g (by simp [hg]))
      have := hall f (by simp)
      obtain ⟨s, hs⟩ := Option.isSome_iff_exists.1 this
      obtain ⟨j, hj, hjs, _⟩ := sizeT_info hs
      refine ⟨(f.offset, s) :: places, by simp [List.mapM_cons, hj, hjs, p1], ?_⟩
      intro k g hg q hq
      cases k with
      | zero => simp at hg; subst hg; rw [hs] at hq; obtain rfl := Option.some.inj hq; rfl
      | succ k => exact p2 k g (by simpa using hg) q hq
  obtain ⟨places, hp1, hp2⟩ := hplaces
  obtain ⟨rs, hr1, hr2⟩ := fill_put (place := (places.toArray[·]?)) (X := ctx w φ H) ((parts.map fun (i, x) => (i, a.eval x)).toList) (l.map fun p => (p.1, p.2.1, ev E p.2.2)) z.cells v.cells.toList cs hzc (by simp [hll, hpl]) (by
    intro k q p hq hp
    simp only [Array.toList_map, List.getElem?_map] at hq hp
    obtain ⟨x, hx, rfl⟩ := Option.map_eq_some_iff.1 hq
    obtain ⟨y, hy, rfl⟩ := Option.map_eq_some_iff.1 hp
    have hklt : k < ps.length := by rw [← hll]; exact (List.getElem?_eq_some_iff.1 hy).1
    have hpk : ps[k]? = some ps[k] := List.getElem?_eq_getElem hklt
    obtain ⟨y', g1, g2⟩ := hlget k _ hpk
    rw [hy] at g2
    obtain rfl := Option.some.inj g2
    obtain ⟨e1, e2⟩ := hprel k x ps[k] hx hpk
    split at g1
    · rename_i f hf'
      split at g1
      · rename_i s hss
        obtain rfl := Option.some.inj g1
        refine ⟨?_, e2⟩
        simp only [List.getElem?_toArray]
        rw [e1]
        exact hp2 _ f (by simpa using hf') s hss
      · cases g1
    · cases g1) hf
  refine does_pure (v := .agg cs) (x := .agg rs.toArray) ?_ hs ⟨rs, rfl, hr2⟩ hd
  have hbuilt : P.built t (parts.map fun (i, x) => (i, a.eval x)).toList = some rs.toArray := by
    simp only [Program.built, hi, ht, hzv, hp1]
    simpa using hr1
  simp only [execOp, ho, Sem.run_bind]
  rw [run_build w t _ rs.toArray hbuilt]
  simp

theorem does_bslice {t e : TypeId} {len sz : Nat} {parts : Array (Nat × Operand)} {ps : List (Nat × Opd)} {l : List Opd} (ho : o.op = .buildSlice t len parts) (he : elemT P t = some e) (hsz : sizeT P e = some sz) (hzz : ∃ z, zeroT P e = some z)
    (hps : mapMO (fun p : Nat × Operand => match opdOf p.2 with | some y => some (p.1, y) | none => none) parts.toList = some ps) (hidx : idxParts 0 ps = some l) (hlen : l.length = len) (hl1 : len ≤ 1000) (hs1 : sz ≤ 1000)
    (hs : SR nt w φ ⟨E, H, nx⟩ a) (hd : ∀ d, o.dst = some d → d < nt) (hf : fits sz (l.map (ev E)) = true) {id : Id} {nx' : Nat} (hre : id.real := by trivial) :
    Does P o nt a w φ H o.dst E (.ref id (genAt H id) l.length 0 l.length) (hupd H id ⟨genAt H id, sz, true, l.map (ev E)⟩) nx' := by
  obtain ⟨z, hz⟩ := hzz
  obtain ⟨i, v, hi, hzv, hvo, hzl⟩ := zeroT_info hz
  obtain ⟨i', hi', hsi, hpos, _⟩ := sizeT_info hsz
  obtain rfl : i = i' := Option.some.inj (hi.symm.trans hi')
  have hst := valOf_stor hvo
  obtain ⟨f1, _⟩ := fit_cells (valOf_rel (ctx w φ H) hvo) hst
  obtain ⟨hpl, hprel⟩ := parts_rel hs.env _ _ hps
  -- the values in their order
  have hvals : ∀ (ps : List (Nat × Opd)) (xs : List (Nat × Operand)) (k : Nat) (l : List Opd), ps.length = xs.length → (∀ (j : Nat) (x : Nat × Operand) (y : Nat × Opd), xs[j]? = some x → ps[j]? = some y → x.1 = y.1 ∧ VRel (ctx w φ H) (ev E y.2) (a.eval x.2)) → idxParts k ps = some l →
      ∃ vals, VTup (ctx w φ H) (l.map (ev E)) vals ∧ xs.map (fun p => (p.1, a.eval p.2)) = partsFrom k vals := by
    intro ps
    induction ps with
    | nil => intro xs k l hl _ h; cases xs with
      | nil => simp [idxParts] at h; subst h; exact ⟨[], trivial, rfl⟩
      | cons => simp at hl
    | cons p ps ih => intro xs k l hl hr h; cases xs with
      | nil => simp at hl
      | cons x xs =>
        obtain ⟨j, y⟩ := p
        simp only [idxParts] at h
        split at h
        · rename_i hjk
          split at h
          · rename_i l' hl'
            obtain rfl := Option.some.inj h
            obtain ⟨vals, g1, g2⟩ := ih xs (k + 1) l' (by simpa using hl) (fun q x y hx hy => hr (q + 1) x y (by simpa using hx) (by simpa using hy)) hl'
            obtain ⟨e1, e2⟩ := hr 0 x (j, y) rfl rfl
            refine ⟨a.eval x.2 :: vals, ⟨e2, g1⟩, ?_⟩
            simp only [List.map_cons, partsFrom, g2, e1, hjk]
          · cases h
        · cases h
  obtain ⟨vals, hv1, hv2⟩ := hvals ps parts.toList 0 l hpl hprel hidx
  have hvl : vals.length = len := by rw [← hv1.length]; simpa using hlen
  have hsizes := fits_vals hv1 hf
  let zs : List Value := ((Array.range (len * sz)).map ((if len * sz = 0 then #[] else v.cells)[· % (if len * sz = 0 then #[] else v.cells).size]!)).toList
  have hzsl : zs.length = (0 + vals.length) * sz := by simp [zs, hvl]
  have hfill := fill_row (sz := sz) vals 0 zs hsizes hzsl
  simp only [Nat.zero_mul, List.take_zero, List.nil_append] at hfill
  refine does_new (x := .slice (some ⟨w.heap.size, 0, none⟩) len len) (cells := (laid vals).toArray) (e := e) (lo := 0) (hi := 0) (dr := w.drawn) ?_ hs hd (genAt_newer rfl) hre (.inl (Nat.le_refl _)) hpos ?_ ?_
  · have hparts : (parts.map fun (i, x) => (i, a.eval x)).toList = partsFrom 0 vals := by rw [← hv2]; simp
    have hbig : ¬ (len * sz > 2 ^ 24) := by
      have : len * sz ≤ 1000 * 1000 := Nat.mul_le_mul hl1 hs1
      omega
    have hzrun : ∀ (K : Array Value → Sem Value), ((if len * sz = 0 then pure #[] else do pure (← zeroValue e).cells : Sem (Array Value)) >>= K).run P w = (K (if len * sz = 0 then #[] else v.cells)).run P w := by
      intro K
      by_cases h0 : len * sz = 0
      · simp [h0]
      · simp [h0, zeroValue, typeInfo, hi, hzv]
    simp only [execOp, ho, Instr.buildSlice, Sem.run_bind, run_underlying (elemT_und he), Result.andThen_ok, run_sizeOf hsz, hbig, if_false]
    by_cases h0 : len * sz = 0
    · have hz0 : zs = [] := by simp [zs, h0]
      rw [hz0] at hfill
      have harr : ∀ f : Nat → Value, Array.map f (Array.range 0) = ([] : List Value).toArray := by intro f; apply Array.ext'; simp
      simp only [h0, if_true, Sem.run_bind, Sem.run_pure, Result.andThen_ok, harr, hparts]
      rw [hfill]
      simp [newRow]
      rfl
    · have hz1 : zs.toArray = (Array.range (len * sz)).map (v.cells[· % v.cells.size]!) := by simp only [zs, h0, if_false, Array.toArray_toList]
      rw [hz1] at hfill
      simp only [h0, if_false, Sem.run_bind, zeroValue, typeInfo, run_program, Result.andThen_ok, hi, hzv, Sem.run_pure, hparts]
      rw [hfill]
      simp [newRow]
      rfl
  · intro k xx hk
    obtain ⟨g0, u, g1, g2, g3⟩ := elem_laid hv1 hf hk
    exact ⟨g0, u, g1, g2, fun j q hj => ⟨(g3 j q hj).1, by simpa using (g3 j q hj).2⟩⟩
  · rw [hlen]
    refine ⟨_, _, rfl, Nat.le_refl _, _, hupd_same _ _ _, .inr ⟨rfl, by simp [hlen], by omega, .inr ⟨⟨w.heap.size, 0, none⟩, by simp [ctx, φupd], by simp [Addr.add], by omega, ?_⟩⟩⟩
    have hbs : bsize (World.row w (laid vals).toArray e 0 0) w.heap.size = len * sz := by
      simp only [bsize, row_new, List.size_toArray, laid_length hsizes, hvl]
    show 0 + (0 + len) * sz ≤ bsize (World.row w (laid vals).toArray e 0 0) w.heap.size
    rw [hbs, Nat.zero_add, Nat.zero_add]
    exact Nat.le_refl _
end
end Go.Am

/- One operation of Go's code against one of the small machine: all of them; calls. -/
namespace Go.Am
set_option linter.unusedSimpArgs false
set_option linter.unusedVariables false
variable {P : Program}

/-- A function that can be entered. -/
def Callable (P : Program) (f : Nat) : Prop := ∃ fn, P.funcs[f]? = some fn ∧ fn.name ≠ "runtime.NumGoroutine" ∧ fn.body.isSome = true

def CallOK (P : Program) (T : Tab) (R : Run) : Prop := ∀ d f vs H nx v H' nx', callOp T R d f vs H nx = some (v, H', nx') → Callable P f ∧
  ∀ w φ vals, Sim w φ H → VTup (ctx w φ H) vs vals → Calls P f vals.toArray w (fun e w' => ∃ x φ', e = .returned x ∧ VRel (ctx w' φ' H') v x ∧ Sim w' φ' H' ∧ Ext w φ H w' φ' H')

theorem callFunc_run {f : Nat} (h : Callable P f) (args : Array Value) (w : World) : (callFunc f args).run P w = .ok (.enter f args) w := by
  obtain ⟨fn, h1, h2, h3⟩ := h
  have hb : fn.body.isNone = false := by cases hx : fn.body <;> simp [hx] at h3 ⊢
  simp only [callFunc, Sem.run_bind, run_program, Result.andThen_ok, h1]
  simp [h2, hb]

section
variable {o : Oper} {ops : Array Oper} {nt : Nat} {a : Act} {w : World} {φ : Id → Option Addr} {H : Heap} {nx : Nat} {E : AEnv} {T : Tab} {R : Run} {d : Nat}

/-- A call. -/
theorem does_calls {f : Nat} {vs : List AV} {vals : List Value} {v : AV} {H' : Heap} {nx' : Nat} (hok : CallOK P T R) (hc : callOp T R d f vs H nx = some (v, H', nx')) (hs : SR nt w φ ⟨E, H, nx⟩ a) (hd : ∀ d, o.dst = some d → d < nt)
    (hv : VTup (ctx w φ H) vs vals) (hr : ∀ w, (execOp a.eval o).run P w = (callFunc f vals.toArray).run P w) : Does P o nt a w φ H o.dst E v H' nx' := by
  obtain ⟨h1, h2⟩ := hok _ _ _ _ _ _ _ _ hc
  intro K Q hK
  unfold Oper.wp
  rw [hr, callFunc_run h1, Oper.upon_enter]
  refine (h2 w φ vals hs.sim hv).mono ?_
  rintro e w' ⟨x, φ', rfl, h3, h4, h5⟩
  refine hK _ _ φ' ⟨h4, ?_, by rw [put_size]; exact hs.size⟩ h5 (put_defers' _ _ _)
  exact EnvRel.put (hs.env.mono (h5.leCtx hs.sim.pl)) (fun _ => h3) (fun d h => by rw [hs.size]; exact hd d h)

theorem mapMO_arr {xs : Array Operand} {ys : List Opd} (h : mapMO opdOf xs.toList = some ys) {X : Ctx} (e : EnvRel X E a.tmps) : VTup X (ys.map (ev E)) (xs.map a.eval).toList := by
  rw [Array.toList_map]; exact opds_rel e _ _ h

theorem isInt_of {X : Ctx} {x : Operand} {y : Opd} {n : Int} (e : EnvRel X E a.tmps) (h : opdOf x = some y) (hn : intOfV (ev E y) = some n) : isInt (some (a.eval x)) (some n) := by
  obtain ⟨k, ek⟩ := intOf_rel (opd_rel e h) hn
  exact .inr ⟨k, n, by rw [ek], rfl⟩

theorem stor_cells_pos {t : TypeId} {z : AV} {n : Nat} (hz : zeroT P t = some z) (hn : sizeT P t = some n) : 0 < z.cells.length := by
  obtain ⟨i, v, h1, _, _, h2⟩ := zeroT_info hz
  obtain ⟨i', h3, h4, h5, _⟩ := sizeT_info hn
  obtain rfl : i = i' := Option.some.inj (h1.symm.trans h3)
  omega

theorem appT_of {t u e : TypeId} {uu : TypeDesc} {sz : Nat} {z : AV} (he : elemT P t = some e) (hu : P.underlying u = some uu) (hni : ∀ k, uu ≠ .int k) (hs : sizeT P e = some sz) (hz : zeroT P e = some z) :
    ∃ i zv, AppT P t u e sz i zv := by
  obtain ⟨i, v, h1, h2, h3, h4⟩ := zeroT_info hz
  obtain ⟨i', h5, h6, h7, h8⟩ := sizeT_info hs
  obtain rfl : i = i' := Option.some.inj (h1.symm.trans h5)
  obtain ⟨f1, _⟩ := fit_cells (valOf_rel ⟨fun _ => none, fun _ => none, fun _ => none, fun _ => 0⟩ h3) (valOf_stor h3)
  exact ⟨i, v, elemT_und he, ⟨uu, hu, hni⟩, h1, h2, h6, by omega, by omega, h7⟩
end
end Go.Am

/- One operation of Go's code against one of the small machine: whichever it is. -/
namespace Go.Am
set_option linter.unusedSimpArgs false
set_option linter.unusedVariables false
variable {P : Program}

section
variable {o : Oper} {ops : Array Oper} {nt : Nat} {a : Act} {w : World} {φ : Id → Option Addr} {H : Heap} {nx : Nat} {E : AEnv} {T : Tab} {R : Run} {d : Nat}

theorem some3 {α β γ : Type} {a a' : α} {b b' : β} {c c' : γ} (h : some (a, b, c) = some (a', b', c')) : a = a' ∧ b = b' ∧ c = c' := by
  cases h; exact ⟨rfl, rfl, rfl⟩

theorem args_one {xs : Array Operand} {y : Opd} (h : mapMO opdOf xs.toList = some [y]) : ∃ q, xs = #[q] ∧ opdOf q = some y := by
  obtain ⟨hl, hg⟩ := mapMO_get h
  cases hca : xs.toList with
  | nil => rw [hca] at hl; simp at hl
  | cons q r =>
    have hr : r = [] := by rw [hca] at hl; simpa using hl
    subst hr
    obtain ⟨z, g1, g2⟩ := hg 0 q (by rw [hca]; rfl)
    simp at g2; subst g2
    exact ⟨q, by apply Array.ext'; rw [hca], g1⟩

theorem args_two {xs : Array Operand} {y y' : Opd} (h : mapMO opdOf xs.toList = some [y, y']) : ∃ q q', xs = #[q, q'] ∧ opdOf q = some y ∧ opdOf q' = some y' := by
  obtain ⟨hl, hg⟩ := mapMO_get h
  cases hca : xs.toList with
  | nil => rw [hca] at hl; simp at hl
  | cons q r =>
    cases r with
    | nil => rw [hca] at hl; simp at hl
    | cons q' r =>
      have hr : r = [] := by rw [hca] at hl; simpa using hl
      subst hr
      obtain ⟨z, g1, g2⟩ := hg 0 q (by rw [hca]; rfl)
      obtain ⟨z', g3, g4⟩ := hg 1 q' (by rw [hca]; rfl)
      simp at g2 g4; subst g2; subst g4
      exact ⟨q, q', by apply Array.ext'; rw [hca], g1, g3⟩

theorem map_arr (xs : Array Operand) : xs.map a.eval = (xs.map a.eval).toList.toArray := by rw [Array.toArray_toList]

theorem isStr_string {X : Ctx} {x : AV} {v : Value} (h : VRel X x v) (hs : x.isStr = true) : ∃ s, v = .string s ∧ x = .c (.s (.string s)) := by
  unfold AV.isStr at hs
  split at hs
  · rename_i s; exact ⟨s, h.1, rfl⟩
  · cases hs

theorem bytes_fits (s : ByteArray) : fits 1 (bytesVs s) = true := by
  unfold fits; rw [List.all_eq_true]
  intro q hq
  obtain ⟨c, _, rfl⟩ := List.mem_map.1 hq
  rfl

/-- What 'append' and 'copy' take from. -/
theorem src_any {y : AV} {u : Value} {new : List AV} {sz : Nat} (hs : Sim w φ H) (hn : srcE H y = some new) (hr : VRel (ctx w φ H) y u) (hf : fits sz new = true) (hp : 0 < sz) : Src P (ctx w φ H) w sz new u := by
  unfold srcE at hn
  split at hn
  · rename_i s
    obtain rfl := Option.some.inj hn
    obtain ⟨e1, _⟩ := hr
    subst e1
    by_cases h0 : s.size = 0
    · have hb : bytesVs s = [] := by
        have : (bytesVs s).length = 0 := by simp [bytesVs, h0]
        exact List.length_eq_zero_iff.1 this
      rw [hb]
      refine ⟨by simp [Builtin.lenOf, h0], [], trivial, by simp, ?_⟩
      intro m dr hm
      have : m = 0 := by simpa using hm
      subst this
      simp [Builtin.firstCells, laid]
    · have hsz : sz = 1 := by
        cases hb : bytesVs s with
        | nil =>
          have : (bytesVs s).length = s.size := by simp [bytesVs]
          rw [hb] at this; simp at this; omega
        | cons z r =>
          have h1 := bytes_fits s
          rw [hb] at hf h1
          have a1 := (fits_mem hf (x := z) (by simp)).2
          have a2 := (fits_mem h1 (x := z) (by simp)).2
          omega
      subst hsz
      exact src_string s
  · exact elems_src hs hr hn hf

theorem sound_call {c : Call} {k : AOp} {v : AV} {H' : Heap} {nx' : Nat} (hop : o.op = .call c) (h : callOf P c o.type = some k) (hs : SR nt w φ ⟨E, H, nx⟩ a) (hd : ∀ d, o.dst = some d → d < nt)
    (he : operV T R d o.dst E H nx k = some (v, H', nx')) (hok : CallOK P T R) : Does P o nt a w φ H o.dst E v H' nx' := by
  unfold callOf at h
  split at h
  · cases h
  · rename_i args hargs
    split at h
    · -- a function by its number
      rename_i f hcal
      obtain rfl := Option.some.inj h
      simp only [operV] at he
      refine does_calls hok he hs hd (mapMO_arr hargs hs.env) ?_
      intro w
      simp only [execOp, hop, resolve, hcal, Act.eval, Deferred.ofValue, Sem.run_bind, Sem.run_pure, Result.andThen_ok, invoke]
      rw [Array.toArray_toList, Array.empty_append, Array.append_empty]
    · -- a function value
      rename_i tm hcal
      obtain rfl := Option.some.inj h
      simp only [operV] at he
      split at he
      · rename_i g caps hg
        have h1 : VRel (ctx w φ H) (ev E (.t tm)) (a.eval (.tmp tm)) := opd_rel hs.env (x := .tmp tm) rfl
        rw [hg] at h1
        obtain ⟨vs, e1, hcv⟩ := h1
        refine does_calls hok he hs hd ((mapMO_arr hargs hs.env).append hcv) ?_
        intro w
        simp only [execOp, hop, resolve, hcal, e1, Deferred.ofValue, Sem.run_bind, Sem.run_pure, Result.andThen_ok, invoke]
        rw [show ((c.args.map a.eval).toList ++ vs).toArray = c.args.map a.eval ++ vs.toArray from by apply Array.ext'; simp]
        simp
      · cases he
    · -- a built-in
      rename_i b hcal
      split at h
      · -- len
        rename_i x t ht
        obtain ⟨q, hq1, hq2⟩ := args_one hargs
        have hty : c.argTypes = #[t] := by apply Array.ext'; rw [ht]
        have hrel : VRel (ctx w φ H) (ev E x) (a.eval q) := opd_rel hs.env hq2
        split at h
        · rename_i hu
          obtain rfl := Option.some.inj h
          simp only [operV] at he
          split at he
          · rename_i n hn
            split at he
            · rename_i hst
              obtain ⟨rfl, rfl, rfl⟩ := some3 he
              obtain ⟨s, e1, _⟩ := isStr_string hrel hst
              exact does_len hop hcal hq1 hty (.inl ⟨hu, s, e1⟩) hq2 hs hd hn
            · cases he
          · cases he
        · rename_i el hu
          obtain rfl := Option.some.inj h
          simp only [operV] at he
          split at he
          · rename_i n hn
            split at he
            · rename_i hst
              obtain ⟨rfl, rfl, rfl⟩ := some3 he
              rcases len_rel hrel hn with ⟨s, e1, _⟩ | ⟨bb, cc, e1⟩
              · exfalso
                unfold lenV at hn
                split at hn
                · rename_i e2; rw [e2] at hrel; rw [e1] at hrel; cases hrel
                · rename_i e2; rw [e2] at hrel; rw [e1] at hrel; obtain ⟨_, _, _, e3, _⟩ := hrel; cases e3
                · rename_i e2; rw [e2] at hrel; rw [e1] at hrel; obtain ⟨_, _, e3, _⟩ := hrel; cases e3
                · rename_i e2; rw [e2] at hst; simp [AV.isStr] at hst
                · cases hn
              · exact does_len hop hcal hq1 hty (.inr ⟨el, hu, bb, _, cc, e1⟩) hq2 hs hd hn
            · cases he
          · cases he
        · cases h
      · -- append
        rename_i x y t u htu
        obtain ⟨q, q', hq1, hq2, hq3⟩ := args_two hargs
        have hty : c.argTypes = #[t, u] := by apply Array.ext'; rw [htu]
        split at h
        · rename_i e uu hel hu
          split at h
          · cases h
          · rename_i hni
            split at h
            · rename_i s z hsz hz
              obtain rfl := Option.some.inj h
              obtain ⟨i, zv, hA⟩ := appT_of hel hu (fun k hk => hni k hk) hsz hz
              have hrel : VRel (ctx w φ H) (ev E y) (a.eval q') := opd_rel hs.env hq3
              simp only [operV] at he
              split at he
              · rename_i new hnew
                split at he
                · rename_i hf
                  have hsrc := src_any (P := P) (sz := s) hs.sim hnew hrel hf hA.pos
                  refine does_append hop hcal hq1 hty hA hq2 hq3 hs hd hsrc hf ?_
                  split at he
                  · rename_i hx
                    split at he
                    · rename_i hn0
                      obtain ⟨rfl, rfl, rfl⟩ := some3 he
                      exact .inl ⟨hx, hn0, rfl, rfl⟩
                    · rename_i hn0
                      split at he
                      · rename_i hbig
                        obtain ⟨rfl, rfl, rfl⟩ := some3 he
                        exact .inr (.inl ⟨hx, hn0, hbig, .dy nx, trivial, rfl, rfl⟩)
                      · cases he
                  · rename_i id g n off len hx
                    split at he
                    · rename_i ob hob
                      split at he
                      · rename_i hc
                        obtain ⟨g1, g2, g3, g4, g5⟩ := hc
                        refine .inr (.inr ⟨id, g, n, off, len, ob, hx, hob, g1, g2, g3, g4, g5, ?_⟩)
                        split at he
                        · rename_i hn0
                          obtain ⟨rfl, rfl, rfl⟩ := some3 he
                          exact .inl ⟨hn0, rfl, rfl⟩
                        · rename_i hn0
                          split at he
                          · rename_i hle
                            obtain ⟨rfl, rfl, rfl⟩ := some3 he
                            exact .inr (.inl ⟨hn0, hle, rfl, rfl⟩)
                          · rename_i hle
                            split at he
                            · rename_i hbig
                              obtain ⟨rfl, rfl, rfl⟩ := some3 he
                              exact .inr (.inr ⟨hn0, by omega, hbig, rfl, rfl⟩)
                            · cases he
                      · cases he
                    · cases he
                  · cases he
                · cases he
              · cases he
            · cases h
        · cases h
      · -- copy
        rename_i x y t u htu
        obtain ⟨q, q', hq1, hq2, hq3⟩ := args_two hargs
        have hty : c.argTypes = #[t, u] := by apply Array.ext'; rw [htu]
        split at h
        · rename_i e hel
          split at h
          · rename_i s hsz
            obtain rfl := Option.some.inj h
            have hrel : VRel (ctx w φ H) (ev E y) (a.eval q') := opd_rel hs.env hq3
            obtain ⟨_, _, _, hpos, _⟩ := sizeT_info hsz
            simp only [operV] at he
            split at he
            · rename_i new id g n off len hnew hx
              split at he
              · rename_i ob hob
                split at he
                · rename_i hc
                  obtain ⟨g1, g2, g3, g4, g5, g6⟩ := hc
                  obtain ⟨rfl, rfl, rfl⟩ := some3 he
                  subst g6
                  have hsrc := src_any (P := P) (sz := ob.sz) hs.sim hnew hrel g5 hpos
                  exact does_copy hop hcal hq1 hty hel hsz hq2 hs hd hsrc g5 hx hob g1 g2 g3 g4 rfl
                · cases he
              · cases he
            · cases he
          · cases h
        · cases h
      · -- clear
        rename_i x t ht
        obtain ⟨q, hq1, hq2⟩ := args_one hargs
        have hty : c.argTypes = #[t] := by apply Array.ext'; rw [ht]
        split at h
        · rename_i e hel
          split at h
          · rename_i z hz
            obtain rfl := Option.some.inj h
            simp only [operV] at he
            split at he
            · rename_i id g n off len hx
              split at he
              · rename_i ob hob
                split at he
                · rename_i hc
                  obtain ⟨g1, g2, g3, g4, g5, g6⟩ := hc
                  obtain ⟨rfl, rfl, rfl⟩ := some3 he
                  exact does_clear hop hcal hq1 hty hel hz hq2 hs hd rfl (.inr ⟨id, g, n, off, len, ob, hx, hob, g1, g2, g3, g4, g5, g6, rfl⟩)
                · cases he
              · cases he
            · rename_i hx
              obtain ⟨rfl, rfl, rfl⟩ := some3 he
              exact does_clear hop hcal hq1 hty hel hz hq2 hs hd rfl (.inl ⟨hx, rfl⟩)
            · cases he
          · cases h
        · cases h
      · obtain rfl := Option.some.inj h
        simp only [operV] at he
        split at he
        · rename_i n hn
          obtain ⟨rfl, rfl, rfl⟩ := some3 he
          exact does_minmax (b := false) hop hcal hargs hs hd hn
        · cases he
      · obtain rfl := Option.some.inj h
        simp only [operV] at he
        split at he
        · rename_i n hn
          obtain ⟨rfl, rfl, rfl⟩ := some3 he
          exact does_minmax (b := true) hop hcal hargs hs hd hn
        · cases he
      · cases h
    · cases h
end
end Go.Am

/- One operation of Go's code against one of the small machine: all of them. -/
namespace Go.Am
set_option linter.unusedSimpArgs false
set_option linter.unusedVariables false
variable {P : Program}

section
variable {o : Oper} {ops : Array Oper} {nt : Nat} {a : Act} {w : World} {φ : Id → Option Addr} {H : Heap} {nx : Nat} {E : AEnv} {T : Tab} {R : Run} {d : Nat}

set_option maxHeartbeats 1000000 in
theorem sound_op {k : AOp} {v : AV} {H' : Heap} {nx' : Nat} (h : opOf P o = some k) (hs : SR nt w φ ⟨E, H, nx⟩ a) (hd : ∀ d, o.dst = some d → d < nt)
    (he : operV T R d o.dst E H nx k = some (v, H', nx')) (hok : CallOK P T R) : Does P o nt a w φ H o.dst E v H' nx' := by
  unfold opOf at h
  split at h
  · -- move
    rename_i x hop
    split at h
    · rename_i y hy
      obtain rfl := Option.some.inj h
      simp only [operV] at he
      obtain ⟨rfl, rfl, rfl⟩ := some3 he
      exact does_mov (.inl hop) hy hs hd
    · cases h
  · -- assign
    rename_i x hop
    split at h
    · rename_i y hy
      obtain rfl := Option.some.inj h
      simp only [operV] at he
      obtain ⟨rfl, rfl, rfl⟩ := some3 he
      exact does_mov (.inr hop) hy hs hd
    · cases h
  · -- pick
    rename_i c x y hop
    split at h
    · rename_i c' x' y' hc hx hy
      obtain rfl := Option.some.inj h
      simp only [operV] at he
      split at he
      · rename_i t ht
        obtain ⟨rfl, rfl, rfl⟩ := some3 he
        exact does_pick hop hc hx hy hs hd ht
      · cases he
    · cases h
  · -- nilCheck
    rename_i x hop
    split at h
    · rename_i y hy
      obtain rfl := Option.some.inj h
      simp only [operV] at he
      split at he
      · rename_i e
        obtain ⟨rfl, rfl, rfl⟩ := some3 he
        rw [← e]; exact does_nilc hop hy hs hd (.inl ⟨_, _, e⟩)
      · rename_i e
        obtain ⟨rfl, rfl, rfl⟩ := some3 he
        rw [← e]; exact does_nilc hop hy hs hd (.inr (.inl ⟨_, _, _, _, _, e⟩))
      · rename_i e
        obtain ⟨rfl, rfl, rfl⟩ := some3 he
        rw [← e]; exact does_nilc hop hy hs hd (.inr (.inr ⟨_, _, e⟩))
      · cases he
    · cases h
  · -- alloc
    rename_i t hop
    split at h
    · rename_i z n hz hn
      obtain rfl := Option.some.inj h
      simp only [operV] at he
      split at he
      · rename_i tm hdst
        split at he
        · rename_i hst
          obtain ⟨rfl, rfl, rfl⟩ := some3 he
          have h1 := does_alloc (id := .st d tm) hop hz hs hd hst (stor_cells_pos hz hn)
          exact h1
        · cases he
      · cases he
    · cases h
  · -- box
    rename_i t x hop
    split at h
    · rename_i y hy
      obtain rfl := Option.some.inj h
      simp only [operV] at he
      split at he
      · rename_i tm hdst
        split at he
        · rename_i hst
          obtain ⟨rfl, rfl, rfl⟩ := some3 he
          exact does_box (id := .st d tm) hop hy hs hd hst.1 hst.2
        · cases he
      · cases he
    · cases h
  · -- build
    rename_i t parts hop
    split at h
    · rename_i z fs ps hz ht hps
      split at h
      · cases h
      · rename_i hall
        split at h
        · rename_i l hl
          obtain rfl := Option.some.inj h
          simp only [operV] at he
          split at he
          · rename_i cs hcs
            obtain ⟨rfl, rfl, rfl⟩ := some3 he
            exact does_build hop hz ht hps (by cases hq : (fs.toList.all fun f => (sizeT P f.type).isSome) <;> simp_all) hl hs hd hcs
          · cases he
        · cases h
    · cases h
  · -- buildSlice
    rename_i t len parts hop
    split at h
    · rename_i e ps hel hps
      split at h
      · rename_i s l z hsz hidx hz
        split at h
        · rename_i hc
          obtain rfl := Option.some.inj h
          by_cases hu8 : (isU8 P e && !l.isEmpty) = true
          · rw [if_pos hu8] at he
            simp only [operV] at he
            split at he
            · rename_i tm hdst
              split at he
              · rename_i hf
                obtain ⟨rfl, rfl, rfl⟩ := some3 he
                exact does_bslice (id := .st d tm) hop hel hsz ⟨_, hz⟩ hps hidx hc.1 hc.2.1 hc.2.2 hs hd hf
              · cases he
            · cases he
          · rw [if_neg hu8] at he
            simp only [operV] at he
            split at he
            · rename_i hf
              obtain ⟨rfl, rfl, rfl⟩ := some3 he
              exact does_bslice (id := .dy nx) hop hel hsz ⟨_, hz⟩ hps hidx hc.1 hc.2.1 hc.2.2 hs hd hf
            · cases he
        · cases h
      · cases h
    · cases h
  · -- load
    rename_i t x hop
    split at h
    · rename_i ag s y hag hsz hy
      obtain rfl := Option.some.inj h
      simp only [operV] at he
      split at he
      · rename_i u hu
        obtain ⟨rfl, rfl, rfl⟩ := some3 he
        exact does_load hop hag hsz hy hs hd hu
      · cases he
    · cases h
  · -- store
    rename_i t p x hop
    split at h
    · rename_i s y z hsz hy hz
      obtain rfl := Option.some.inj h
      simp only [operV] at he
      split at he
      · rename_i H1 hH
        obtain ⟨rfl, rfl, rfl⟩ := some3 he
        exact does_store hop hsz hy hz hs hd hH
      · cases he
    · cases h
  · -- binOp
    rename_i op t x y t' hop
    split at h
    · rename_i x' y' hx hy
      split at h
      · rename_i kk ht
        obtain rfl := Option.some.inj h
        simp only [operV] at he
        split at he
        · rename_i u1 u2 e1 e2
          split at he
          · rename_i r hr
            obtain ⟨rfl, rfl, rfl⟩ := some3 he
            exact does_bin hop hx hy hs hd e1 e2 hr
          · cases he
        · cases he
      · rename_i ht
        obtain rfl := Option.some.inj h
        simp only [operV] at he
        split at he
        · rename_i u1 u2 e1 e2
          split at he
          · rename_i r hr
            obtain ⟨rfl, rfl, rfl⟩ := some3 he
            exact does_bin hop hx hy hs hd e1 e2 hr
          · cases he
        · cases he
      · rename_i ht
        obtain rfl := Option.some.inj h
        simp only [operV] at he
        split at he
        · rename_i u1 u2 e1 e2
          split at he
          · obtain ⟨rfl, rfl, rfl⟩ := some3 he
            exact does_binB hop ht hx hy hs hd e1 e2 (.inl ⟨rfl, rfl⟩)
          · obtain ⟨rfl, rfl, rfl⟩ := some3 he
            exact does_binB hop ht hx hy hs hd e1 e2 (.inr ⟨rfl, rfl⟩)
          · cases he
        · cases he
      · rename_i fs ht
        split at h
        · cases h
        · rename_i hg
          split at h
          · rename_i l hl
            obtain rfl := Option.some.inj h
            simp only [operV] at he
            split at he
            · rename_i r hr
              split at he
              · rename_i hag
                obtain ⟨rfl, rfl, rfl⟩ := some3 he
                exact does_binS hop ht (by simpa using hg) hl hx hy hs hd hag.1 hag.2 hr (.inl ⟨rfl, rfl⟩)
              · cases he
            · cases he
          · rename_i l hl
            obtain rfl := Option.some.inj h
            simp only [operV] at he
            split at he
            · rename_i r hr
              split at he
              · rename_i hag
                obtain ⟨rfl, rfl, rfl⟩ := some3 he
                exact does_binS hop ht (by simpa using hg) hl hx hy hs hd hag.1 hag.2 hr (.inr ⟨rfl, rfl⟩)
              · cases he
            · cases he
          · cases h
      · cases h
    · cases h
  · -- unOp
    rename_i op t x hop
    split at h
    · rename_i y hy
      obtain rfl := Option.some.inj h
      simp only [operV] at he
      split at he
      · rename_i u hu
        split at he
        · rename_i r hr
          obtain ⟨rfl, rfl, rfl⟩ := some3 he
          exact does_un hop hy hs hd hu hr
        · cases he
      · cases he
    · cases h
  · -- convert
    rename_i s t x hop
    split at h
    · rename_i k1 k2 y h1 h2 hy
      obtain rfl := Option.some.inj h
      simp only [operV] at he
      split at he
      · rename_i k3 n hn
        obtain ⟨rfl, rfl, rfl⟩ := some3 he
        exact does_conv hop h1 h2 hy hs hd hn
      · cases he
    · rename_i y h1 h2 hy
      obtain rfl := Option.some.inj h
      simp only [operV] at he
      split at he
      · rename_i hst
        obtain ⟨rfl, rfl, rfl⟩ := some3 he
        have : ∃ s, ev E y = .c (.s (.string s)) := by
          unfold AV.isStr at hst
          split at hst
          · rename_i s e; exact ⟨s, e⟩
          · cases hst
        obtain ⟨b, hb⟩ := this
        exact does_same hop h1 h2 hy hs hd hb
      · cases he
    · rename_i e y h1 h2 hy
      split at h
      · rename_i hu8
        obtain rfl := Option.some.inj h
        simp only [operV] at he
        split at he
        · rename_i es hes
          split at he
          · rename_i b hb
            obtain ⟨rfl, rfl, rfl⟩ := some3 he
            exact does_b2s hop h1 h2 hu8 hy hs hd hes hb
          · cases he
        · cases he
      · cases h
    · rename_i e y h1 h2 hy
      split at h
      · rename_i hu8
        obtain rfl := Option.some.inj h
        simp only [operV] at he
        split at he
        · rename_i b hb
          split at he
          · obtain ⟨rfl, rfl, rfl⟩ := some3 he
            exact does_s2b hop h1 h2 hu8 hy hs hd hb
          · cases he
        · cases he
      · cases h
    · cases h
  · -- makeFunc
    rename_i f first caps hop
    split at h
    · rename_i hfirst
      split at h
      · rename_i l hl
        obtain rfl := Option.some.inj h
        simp only [operV] at he
        obtain ⟨rfl, rfl, rfl⟩ := some3 he
        have : first = #[] := by simpa using hfirst
        subst this
        exact does_mkfn hop hl hs hd
      · cases h
    · cases h
  · -- makeSlice
    rename_i t l c hop
    split at h
    · rename_i e n m hel hl hc
      split at h
      · rename_i z s qa qb hz hsz
        split at h
        · rename_i hab
          subst hab
          obtain rfl := Option.some.inj h
          simp only [operV] at he
          split at he
          · rename_i mm hm
            split at he
            · rename_i hcnd
              obtain ⟨rfl, rfl, rfl⟩ := some3 he
              exact does_mksl hop hel hz hsz (isInt_of hs.env hl hm) (isInt_of hs.env hc hm) hs hd hcnd.1 hcnd.2.1 hcnd.2.2.1
            · cases he
          · cases he
        · cases h
      · rename_i z s q1 q2 hz hsz
        split at h
        · rename_i i1 i2 g1 g2
          split at h
          · rename_i hij
            subst hij
            obtain rfl := Option.some.inj h
            simp only [operV] at he
            split at he
            · rename_i mm hm
              have hmi : mm = i1 := by
                have : intOfV (ev E (.k q1)) = some i1 := g1
                rw [this] at hm; exact (Option.some.inj hm).symm
              subst hmi
              split at he
              · rename_i hcnd
                obtain ⟨rfl, rfl, rfl⟩ := some3 he
                exact does_mksl hop hel hz hsz (isInt_of hs.env hl hm) (isInt_of hs.env hc g2) hs hd hcnd.1 hcnd.2.1 hcnd.2.2.1
              · cases he
            · cases he
          · cases h
        · cases h
      · cases h
    · cases h
  · -- slice
    rename_i t x lo hi mx hop
    split at h
    · rename_i y l hh m ht hy hl hhi hm
      obtain rfl := Option.some.inj h
      simp only [operV] at he
      split at he
      · rename_i l' h' m' el eh em
        split at he
        · rename_i u hu
          split at he
          · rename_i hcnd
            obtain ⟨rfl, rfl, rfl⟩ := some3 he
            have hstr : (ev E y).isStr = true := by simpa using hcnd.2
            have : ∃ s, ev E y = .c (.s (.string s)) := by
              unfold AV.isStr at hstr
              split at hstr
              · rename_i s e; exact ⟨s, e⟩
              · cases hstr
            exact does_slice hop (.inl ⟨ht, this⟩) hy hl hhi hm hs hd el eh em hu
          · cases he
        · cases he
      · cases he
    · rename_i e y l hh m ht hy hl hhi hm
      split at h
      · rename_i sz hsz
        obtain rfl := Option.some.inj h
        obtain ⟨_, _, _, hpos, _⟩ := sizeT_info hsz
        simp only [operV] at he
        split at he
        · rename_i l' h' m' el eh em
          split at he
          · rename_i u hu
            split at he
            · rename_i hcnd
              obtain ⟨rfl, rfl, rfl⟩ := some3 he
              have hstr : (ev E y).isStr = false := by
                rw [hcnd.2]
                simp; omega
              refine does_slice hop (.inr ⟨e, sz, ?_, hsz, ?_, ?_, ?_⟩) hy hl hhi hm hs hd el eh em hu
              · unfold elemT; rw [ht]
              · intro s e1; rw [e1] at hstr; simp [AV.isStr] at hstr
              · intro sz2 xs2 e2
                rw [e2] at hu
                simp only [sliceV] at hu
                split at hu
                · rename_i hb
                  obtain rfl := Option.some.inj hu
                  have h4 := hcnd.1
                  simp only [szOk, Bool.or_eq_true, beq_iff_eq, List.isEmpty_iff] at h4
                  rcases h4 with h4 | h4
                  · exact .inl h4
                  · right
                    have h5 := congrArg List.length h4
                    simp only [List.length_take, List.length_drop, List.length_nil] at h5
                    omega
                · cases hu
              · intro p g q f k e2
                rw [e2] at hu
                simp only [sliceV] at hu
                split at hu
                · rename_i ob hob
                  split at hu
                  · obtain rfl := Option.some.inj hu
                    have h4 := hcnd.1
                    simp only [szOk, szOf, hob, beq_iff_eq] at h4
                    exact ⟨ob, hob, h4⟩
                  · cases hu
                · cases hu
            · cases he
          · cases he
        · cases he
      · cases h
    · cases h
  · -- fieldAddr
    rename_i s x f hop
    split at h
    · rename_i fs y ht hy
      split at h
      · rename_i fd hf
        split at h
        · rename_i n hn
          obtain rfl := Option.some.inj h
          simp only [operV] at he
          split at he
          · rename_i e
            obtain ⟨rfl, rfl, rfl⟩ := some3 he
            exact does_faddr hop ht hf hn hy hs hd (.inl ⟨_, _, e, rfl⟩)
          · rename_i e
            obtain ⟨rfl, rfl, rfl⟩ := some3 he
            exact does_faddr hop ht hf hn hy hs hd (.inr ⟨_, _, _, _, _, e, rfl⟩)
          · cases he
        · cases h
      · cases h
    · cases h
  · -- field
    rename_i t x f hop
    split at h
    · rename_i fs y ht hy
      split at h
      · rename_i fd hf
        split at h
        · rename_i s ag hsz hag
          obtain rfl := Option.some.inj h
          simp only [operV] at he
          split at he
          · rename_i hi
            split at he
            · rename_i hle
              split at he
              · rename_i hagt
                obtain ⟨rfl, rfl, rfl⟩ := some3 he
                exact does_field hop ht hf hsz hag hy hs hd hi hle (.inl ⟨hagt, rfl⟩)
              · rename_i hagf
                split at he
                · rename_i u hu
                  obtain ⟨rfl, rfl, rfl⟩ := some3 he
                  exact does_field hop ht hf hsz hag hy hs hd hi hle (.inr ⟨by simpa using hagf, hu⟩)
                · cases he
            · cases he
          · cases he
        · cases h
      · cases h
    · cases h
  · -- indexAddr
    rename_i t x i hop
    split at h
    · rename_i e y j hel hy hj
      split at h
      · rename_i s hsz
        obtain rfl := Option.some.inj h
        simp only [operV] at he
        split at he
        · rename_i jj hjj
          split at he
          · rename_i h0
            split at he
            · rename_i sz' xs hx
              split at he
              · rename_i u hu
                split at he
                · rename_i hss
                  obtain ⟨rfl, rfl, rfl⟩ := some3 he
                  refine does_iaddr hop hel hsz hy hj hs hd hjj h0 (.inl ⟨_, _, _, hx, hu, rfl⟩) ?_
                  intro sz2 xs2 e2
                  rw [hx] at e2
                  cases e2
                  exact hss
                · cases he
              · cases he
            · rename_i p g n off len hx
              split at he
              · rename_i ob hob
                split at he
                · rename_i hcnd
                  obtain ⟨g1, g2, g3, g4, g5⟩ := hcnd
                  obtain ⟨rfl, rfl, rfl⟩ := some3 he
                  refine does_iaddr hop hel hsz hy hj hs hd hjj h0 (.inr ⟨_, _, _, _, _, hx, g4, ⟨ob, hob, g1, g2, g5⟩, rfl⟩) ?_
                  intro sz2 xs2 e2
                  rw [hx] at e2
                  cases e2
                · cases he
              · cases he
            · cases he
          · cases he
        · cases he
      · cases h
    · cases h
  · -- index
    rename_i t x i hop
    split at h
    · rename_i y j ht hy hj
      obtain rfl := Option.some.inj h
      simp only [operV] at he
      split at he
      · rename_i s jj es ej
        split at he
        · rename_i h0
          split at he
          · rename_i b hb
            obtain ⟨rfl, rfl, rfl⟩ := some3 he
            exact does_index hop ht hy hj hs hd es ej h0 hb
          · cases he
        · cases he
      · cases he
    · cases h
  · -- extract
    rename_i x i hop
    split at h
    · rename_i y hy
      obtain rfl := Option.some.inj h
      simp only [operV] at he
      split at he
      · rename_i l hl
        split at he
        · rename_i u hu
          obtain ⟨rfl, rfl, rfl⟩ := some3 he
          exact does_extract hop hy hs hd hl hu
        · cases he
      · cases he
    · cases h
  · -- call
    rename_i c hop
    exact sound_call hop h hs hd he hok
  · cases h
end
end Go.Am
