/- One operation of Go's code against one of the small machine: parts of values, addresses. -/
import Derived.Test.YtgncfkcabphccaaA7
namespace Go.Am
set_option linter.unusedSimpArgs false
set_option linter.unusedVariables false
variable {P : Program}

theorem TRels.length {m : Mem} : ∀ {l : List TV} {vs : List Value}, TRels m l vs → l.length = vs.length
  | [], [], _ => rfl
  | _ :: _, _ :: _, h => by simp [TRels.length h.2.2]
  | [], _ :: _, h => h.elim
  | _ :: _, [], h => h.elim
theorem VRels.length {X : Ctx} : ∀ {l : List AV} {vs : List Value}, VRels X l vs → l.length = vs.length
  | [], [], _ => rfl
  | _ :: _, _ :: _, h => by simp [VRels.length h.2.2]
  | [], _ :: _, h => h.elim
  | _ :: _, [], h => h.elim
theorem VTup.length {X : Ctx} : ∀ {l : List AV} {vs : List Value}, VTup X l vs → l.length = vs.length
  | [], [], _ => rfl
  | _ :: _, _ :: _, h => by simp [VTup.length h.2]
  | [], _ :: _, h => h.elim
  | _ :: _, [], h => h.elim

theorem TRels.toV {X : Ctx} : ∀ {l : List TV} {vs : List Value}, TRels X.m l vs → VRels X (l.map .c) vs
  | [], [], _ => trivial
  | _ :: _, _ :: _, h => ⟨h.1, h.2.1, TRels.toV h.2.2⟩
  | [], _ :: _, h => h.elim
  | _ :: _, [], h => h.elim

/-- A value that lies in cells. -/
def lies : Value → Bool
  | .tuple _ => false
  | _ => true

theorem TRel.cells {m : Mem} {t : TV} {v : Value} (h : TRel m t v) : TRels m t.cells v.cells.toList := by
  cases t with
  | s x =>
    obtain ⟨rfl, hf⟩ := h
    rw [cells_one (flat_one hf)]
    exact ⟨⟨rfl, hf⟩, flat_one hf, trivial⟩
  | agg cs =>
    obtain ⟨vs, rfl, hr⟩ := h
    exact hr
  | sl sz xs =>
    have h' := h
    obtain ⟨a, len, cap, rfl, _⟩ := h
    exact ⟨h', rfl, trivial⟩

theorem VRel.cells {X : Ctx} {t : AV} {v : Value} (h : VRel X t v) (hn : t ≠ .undef) (ht : ∀ l, t ≠ .tup l) : VRels X t.cells v.cells.toList := by
  cases t with
  | c t => exact TRels.toV (TRel.cells h)
  | agg cs =>
    obtain ⟨vs, rfl, hr⟩ := h
    exact hr
  | tup l => exact absurd rfl (ht l)
  | nils => cases h; exact ⟨rfl, rfl, trivial⟩
  | tptr t off => have h' := h; obtain ⟨u, b, rfl, _⟩ := h; exact ⟨h', rfl, trivial⟩
  | ref o g n off len => have h' := h; obtain ⟨a, cap, rfl, _⟩ := h; exact ⟨h', rfl, trivial⟩
  | ptr o g n i off => have h' := h; obtain ⟨a, rfl, _⟩ := h; exact ⟨h', rfl, trivial⟩
  | fn f caps => have h' := h; obtain ⟨vs, rfl, _⟩ := h; exact ⟨h', rfl, trivial⟩
  | undef => exact absurd rfl hn

theorem VRels.at {X : Ctx} : ∀ {l : List AV} {vs : List Value}, VRels X l vs → ∀ {i : Nat} {x : AV}, l[i]? = some x → ∃ v, vs[i]? = some v ∧ VRel X x v ∧ oneCell v = true
  | [], [], _, _, _, h => by simp at h
  | _ :: _, v :: _, hr, 0, _, h => by simp at h; subst h; exact ⟨v, rfl, hr.1, hr.2.1⟩
  | _ :: _, _ :: _, hr, i + 1, _, h => by simpa using VRels.at hr.2.2 (i := i) (by simpa using h)
  | [], _ :: _, hr, _, _, _ => hr.elim
  | _ :: _, [], hr, _, _, _ => hr.elim

theorem VRels.drop {X : Ctx} : ∀ {l : List AV} {vs : List Value} (n : Nat), VRels X l vs → VRels X (l.drop n) (vs.drop n)
  | [], [], _, _ => by simp [VRels]
  | _ :: _, _ :: _, 0, h => h
  | _ :: _, _ :: _, n + 1, h => by simpa using VRels.drop n h.2.2
  | [], _ :: _, _, h => h.elim
  | _ :: _, [], _, h => h.elim
theorem VRels.take {X : Ctx} : ∀ {l : List AV} {vs : List Value} (n : Nat), VRels X l vs → VRels X (l.take n) (vs.take n)
  | [], [], _, _ => by simp [VRels]
  | _ :: _, _ :: _, 0, _ => by simp [VRels]
  | _ :: _, _ :: _, n + 1, h => by simpa using ⟨h.1, h.2.1, VRels.take n h.2.2⟩
  | [], _ :: _, _, h => h.elim
  | _ :: _, [], _, h => h.elim
theorem VRels.append {X : Ctx} : ∀ {l : List AV} {vs : List Value} {l' : List AV} {vs' : List Value}, VRels X l vs → VRels X l' vs' → VRels X (l ++ l') (vs ++ vs')
  | [], [], _, _, _, h => h
  | _ :: _, _ :: _, _, _, h, k => ⟨h.1, h.2.1, VRels.append h.2.2 k⟩
  | [], _ :: _, _, _, h, _ => h.elim
  | _ :: _, [], _, _, h, _ => h.elim

theorem sizeT_info {t : TypeId} {n : Nat} (h : sizeT P t = some n) : ∃ i, P.info? t = some i ∧ i.size = n ∧ 0 < n ∧ i.bytes ≤ 32 * n := by
  unfold sizeT at h
  split at h
  · rename_i i hi
    split at h
    · rename_i hb
      obtain rfl := Option.some.inj h
      exact ⟨i, hi, rfl, hb.2, hb.1⟩
    · cases h
  · cases h

theorem run_sizeOf {t : TypeId} {n : Nat} (h : sizeT P t = some n) (w : World) : (sizeOf t).run P w = .ok n w := by
  obtain ⟨i, hi, e, _⟩ := sizeT_info h
  simp [sizeOf, typeInfo, hi, e]

theorem run_isAgg {t : TypeId} {b : Bool} (h : aggT P t = some b) (w : World) : (isAgg t).run P w = .ok b w := by
  unfold aggT at h
  split at h
  · rename_i fs hu; obtain rfl := Option.some.inj h; simp [isAgg, run_underlying hu]
  · rename_i hu; obtain rfl := Option.some.inj h; simp [isAgg, run_underlying hu]
  · rename_i d hu n1 n2
    obtain rfl := Option.some.inj h
    simp only [isAgg, Sem.run_bind, run_underlying n2, Result.andThen_ok]
    rfl
  · cases h

theorem elemT_und {t e : TypeId} (h : elemT P t = some e) : P.underlying t = some (.slice e) := by
  unfold elemT at h
  split at h
  · rename_i hu; obtain rfl := Option.some.inj h; exact hu
  · cases h

/-- A part of a struct. -/
theorem run_part {t : TypeId} {n : Nat} {ag : Bool} (hs : sizeT P t = some n) (ha : aggT P t = some ag) (w : World) (cs : List Value) (off : Nat) (hle : off + n ≤ cs.length) :
    (part t cs.toArray off).run P w = .ok (if ag then .agg ((cs.drop off).take n).toArray else cs.getD off undef) w := by
  cases ag with
  | true =>
    simp only [part, Sem.run_bind, run_isAgg ha, Result.andThen_ok, if_true, run_sizeOf hs, Sem.run_pure]
    congr 2
    simp
  | false =>
    have hlt : off < cs.length := by obtain ⟨_, _, _, hp, _⟩ := sizeT_info hs; omega
    simp only [part, Sem.run_bind, run_isAgg ha, Result.andThen_ok, Bool.false_eq_true, if_false]
    simp [hlt]

section
variable {o : Oper} {ops : Array Oper} {nt : Nat} {a : Act} {w : World} {φ : Id → Option Addr} {H : Heap} {nx : Nat} {E : AEnv} {T : Tab} {R : Run} {d : Nat}

theorem intOf_rel {X : Ctx} {v : AV} {x : Value} {n : Int} (h : VRel X v x) (hn : intOfV v = some n) : ∃ k, x = .int k n := by
  unfold intOfV at hn
  split at hn
  · rename_i k m
    obtain rfl := Option.some.inj hn
    exact ⟨k, h.1⟩
  · cases hn

theorem does_field {t : TypeId} {x : Operand} {f : Nat} {fs : Array Field} {fd : Field} {n : Nat} {ag : Bool} {x' : Opd} (ho : o.op = .field t x f) (ht : P.underlying t = some (.struct fs)) (hf : fs[f]? = some fd)
    (hn : sizeT P fd.type = some n) (hag : aggT P fd.type = some ag) (hx : opdOf x = some x') (hs : SR nt w φ ⟨E, H, nx⟩ a) (hd : ∀ d, o.dst = some d → d < nt)
    (hi : (ev E x').isAgg = true) (hle : fd.offset + n ≤ (ev E x').cells.length) {v : AV} (hv : (ag = true ∧ v = .agg (((ev E x').cells.drop fd.offset).take n)) ∨ (ag = false ∧ (ev E x').cells[fd.offset]? = some v)) :
    Does P o nt a w φ H o.dst E v H nx := by
  have h1 := opd_rel hs.env hx
  have hc : ∃ vs : List Value, a.eval x = .agg vs.toArray ∧ VRels (ctx w φ H) (ev E x').cells vs := by
    generalize ev E x' = y at h1 hi hle hv
    cases y with
    | agg cs => exact h1
    | c t =>
      cases t with
      | agg cs => obtain ⟨vs, e, hr⟩ := h1; exact ⟨vs, e, TRels.toV hr⟩
      | _ => simp [AV.isAgg] at hi
    | _ => simp [AV.isAgg] at hi
  obtain ⟨vs, e, hr⟩ := hc
  have hlen := hr.length
  refine does_pure (x := if ag then .agg ((vs.drop fd.offset).take n).toArray else vs.getD fd.offset undef) ?_ hs ?_ hd
  · simp only [execOp, ho, e]
    simp only [Instr.field, Sem.run_bind, run_underlying ht, Result.andThen_ok, hf, asAgg, Sem.run_pure]
    rw [run_part hn hag w vs fd.offset (by omega)]
    simp
  · rcases hv with ⟨rfl, rfl⟩ | ⟨rfl, hv⟩
    · exact ⟨_, rfl, (hr.drop _).take _⟩
    · obtain ⟨u, hu, hrel, _⟩ := hr.at hv
      have : vs.getD fd.offset undef = u := by simp [hu]
      simp only [Bool.false_eq_true, if_false]
      rw [this]; exact hrel

theorem does_faddr {s : TypeId} {x : Operand} {f : Nat} {fs : Array Field} {fd : Field} {n : Nat} {x' : Opd} (ho : o.op = .fieldAddr s x f) (ht : P.underlying s = some (.struct fs)) (hf : fs[f]? = some fd)
    (hn : sizeT P fd.type = some n) (hx : opdOf x = some x') (hs : SR nt w φ ⟨E, H, nx⟩ a) (hd : ∀ d, o.dst = some d → d < nt) {v : AV}
    (hv : (∃ y i, ev E x' = .tptr y i ∧ v = .tptr y (i + fd.offset)) ∨ (∃ p g m i k, ev E x' = .ptr p g m i k ∧ v = .ptr p g m i (k + fd.offset))) :
    Does P o nt a w φ H o.dst E v H nx := by
  have h1 := opd_rel hs.env hx
  have hpos : ¬ (n = 0) := by obtain ⟨_, _, _, hp, _⟩ := sizeT_info hn; omega
  have hrun : ∀ b : Addr, a.eval x = .pointer (some b) → (execOp a.eval o).run P w = .ok (.value (.pointer (some (b.add fd.offset)))) w := by
    intro b e
    simp only [execOp, ho, e]
    simp only [Instr.fieldAt, Sem.run_bind, run_underlying ht, Result.andThen_ok, hf, Instr.sureAddr, Sem.run_pure, fieldPlace, run_sizeOf hn, hpos, if_false]
  rcases hv with ⟨y, i, e, rfl⟩ | ⟨p, g, m, i, k, e, rfl⟩
  · rw [e] at h1
    obtain ⟨u, b, e1, hsp, hr, hm⟩ := h1
    refine does_pure (v := .tptr y (i + fd.offset)) (hrun _ e1) hs ⟨u, b, ?_, hsp, hr, hm⟩ hd
    rw [add_add hsp]
  · rw [e] at h1
    obtain ⟨b, e1, ob, hob, hq⟩ := h1
    refine does_pure (v := .ptr p g m i (k + fd.offset)) (hrun _ e1) hs ⟨_, rfl, ob, hob, hq.imp id ?_⟩ hd
    rintro ⟨q1, q2, c, hc, rfl⟩
    obtain ⟨c', hc', hrel⟩ := hs.sim.obj _ _ hob
    have hcc : c = c' := by
      have := hc.symm.trans hc'
      exact Option.some.inj this
    subst hcc
    exact ⟨q1, q2, c, hc, by rw [add_add hrel.spot]; congr 1; omega⟩

theorem TElems.at {m : Mem} {sz : Nat} {addr : Addr} : ∀ {l : List TV} {i0 : Nat}, TElems m sz addr i0 l → ∀ {j : Nat} {x : TV}, l[j]? = some x →
    ∃ v, TRel m x v ∧ v.cells.size = sz ∧ ∀ (q : Nat) (u : Value), v.cells[q]? = some u → m (addr.add ((i0 + j) * sz + q)) = some u
  | [], _, _, _, _, h => by simp at h
  | _ :: _, _, hr, 0, _, h => by simp at h; subst h; exact hr.1
  | _ :: _, i0, hr, j + 1, _, h => by
    have := TElems.at hr.2 (j := j) (by simpa using h)
    rw [show i0 + (j + 1) = i0 + 1 + j from by omega]
    exact this

theorem does_iaddr {t e : TypeId} {x i : Operand} {x' i' : Opd} {n : Nat} {j : Int} (ho : o.op = .indexAddr t x i) (he : elemT P t = some e) (hn : sizeT P e = some n) (hx : opdOf x = some x') (hi : opdOf i = some i')
    (hs : SR nt w φ ⟨E, H, nx⟩ a) (hd : ∀ d, o.dst = some d → d < nt) (hj : intOfV (ev E i') = some j) (h0 : 0 ≤ j) {v : AV}
    (hv : (∃ sz xs y, ev E x' = .c (.sl sz xs) ∧ xs[j.toNat]? = some y ∧ v = .tptr y 0) ∨ (∃ p g m off len, ev E x' = .ref p g m off len ∧ j.toNat < len ∧ (∃ ob, H p = some ob ∧ ob.gen = g ∧ ob.es.length = m ∧ ob.sz = n) ∧ v = .ptr p g m (off + j.toNat) 0))
    (hsz : ∀ sz xs, ev E x' = .c (.sl sz xs) → sz = n) :
    Does P o nt a w φ H o.dst E v H nx := by
  have h1 := opd_rel hs.env hx
  obtain ⟨k, e2⟩ := intOf_rel (opd_rel hs.env hi) hj
  have hrun : ∀ (b : Addr) (len cap : Nat), a.eval x = .slice (some b) len cap → j.toNat < len → (execOp a.eval o).run P w = .ok (.value (.pointer (some (b.add (j.toNat * n))))) w := by
    intro b len cap e1 hlt
    have hc : 0 ≤ j ∧ j < (len : Int) := ⟨h0, by omega⟩
    simp only [execOp, ho, e1, e2]
    simp only [Instr.indexAt, asIntOf, Sem.run_bind, Sem.run_pure, run_underlying (elemT_und he), Result.andThen_ok, hc, and_self, if_true, run_sizeOf hn]
  rcases hv with ⟨sz, xs, y, e1, hy, rfl⟩ | ⟨p, g, m, off, len, e1, hlt, hsp, rfl⟩
  · have hsz' := hsz _ _ e1
    subst hsz'
    rw [e1] at h1
    obtain ⟨b, len, cap, ev1, hl, hc, hr⟩ := h1
    have hlt : j.toNat < xs.length := (List.getElem?_eq_some_iff.1 hy).1
    rcases hr with hr | ⟨addr, rfl, hspot, hel⟩
    · omega
    · obtain ⟨u, hu, hcs, hm⟩ := hel.at hy
      refine does_pure (v := .tptr y 0) (hrun _ _ _ ev1 (by omega)) hs ⟨u, addr.add (j.toNat * sz), ?_, add_spot hspot _, hu, ?_⟩ hd
      · rw [add_eq (add_spot hspot _)]; rw [add_eq hspot]; simp
      · intro q z hz
        rw [add_add hspot]
        have := hm q z hz
        rw [Nat.zero_add] at this
        exact this
  · rw [e1] at h1
    obtain ⟨b, cap, ev1, hlc, ob, hob, hq⟩ := h1
    obtain ⟨ob', hob', g1, g2, hszo⟩ := hsp
    obtain rfl : ob = ob' := Option.some.inj (hob.symm.trans hob')
    rcases hq with hq | ⟨q1, q2, q3, q4⟩
    · unfold Stale at hq; omega
    · rcases q4 with ⟨c0, _⟩ | ⟨b', hb', rfl, hn', hroom⟩
      · omega
      · obtain ⟨c', hc', hrel⟩ := hs.sim.obj _ _ hob
        have hcc : b' = c' := Option.some.inj (hb'.symm.trans hc')
        subst hcc
        refine does_pure (v := .ptr p g m (off + j.toNat) 0) (hrun _ _ _ ev1 hlt) hs ⟨_, rfl, ob, hob, .inr ⟨q1, q2, b', hb', ?_⟩⟩ hd
        rw [add_add hrel.spot, hszo]
        congr 1
        rw [Nat.add_mul]; omega
end
end Go.Am
