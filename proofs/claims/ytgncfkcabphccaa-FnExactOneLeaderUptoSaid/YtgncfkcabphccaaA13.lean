/- One operation of Go's code against one of the small machine: storing; slices that are made; bytes. -/
import Derived.Test.YtgncfkcabphccaaA12
namespace Go.Am
set_option linter.unusedSimpArgs false
set_option linter.unusedVariables false
variable {P : Program}

theorem agg_cells (l : List Value) : (Value.agg l.toArray).cells = l.toArray := rfl

theorem getElem?_put {α : Type} (l new : List α) (off : Nat) (h : off + new.length ≤ l.length) (j : Nat) :
    (l.take off ++ new ++ l.drop (off + new.length))[j]? = if off ≤ j ∧ j < off + new.length then new[j - off]? else l[j]? := by
  have h1 : (l.take off).length = off := by simp; omega
  by_cases ha : j < off
  · rw [if_neg (by omega), List.append_assoc, List.getElem?_append_left (by omega), List.getElem?_take, if_pos ha]
  · by_cases hb : j < off + new.length
    · rw [if_pos ⟨by omega, hb⟩, List.append_assoc, List.getElem?_append_right (by omega), h1, List.getElem?_append_left (by omega)]
    · rw [if_neg (by omega), List.getElem?_append_right (by simp; omega)]
      simp only [List.length_append, h1, List.getElem?_drop]
      congr 1; omega

section
variable {o : Oper} {ops : Array Oper} {nt : Nat} {a : Act} {w : World} {φ : Id → Option Addr} {H : Heap} {nx : Nat} {E : AEnv} {T : Tab} {R : Run} {d : Nat}

/-- Cells that change in an element of a live object. -/
theorem sim_put {w' : World} {id : Id} {ob : Obj} {b : Addr} {i off n : Nat} {old new : AV} {vs : List Value} {nv : Value} (hs : Sim w φ H) (ho : H id = some ob) (hw : ob.w = true) (hb : φ id = some b)
    (hi : ob.es[i]? = some old) (hn : vs.length = n) (hoff : off + n ≤ ob.sz) (st : Stored w w' (b.add (i * ob.sz + off)) vs)
    (hst : stor new = true) (hnew : VRel (ctx w φ H) new nv) (hnc : nv.cells.size = ob.sz) (hone : ∀ (j : Nat) (u : Value), nv.cells[j]? = some u → oneCell u = true)
    (hcell : ∀ (ov : Value), VRel (ctx w φ H) old ov → ov.cells.size = ob.sz → ∀ (j : Nat), j < ob.sz → (∀ (q : Nat) (u : Value), ov.cells[q]? = some u → w.cell? (b.add (i * ob.sz + q)) = some u) → nv.cells[j]? = if off ≤ j ∧ j < off + n then vs[j - off]? else w.cell? (b.add (i * ob.sz + j))) :
    Ext w φ H w' φ (hupd H id { ob with es := ob.es.set i new }) ∧ Sim w' φ (hupd H id { ob with es := ob.es.set i new }) := by
  obtain ⟨b', hb', hr⟩ := hs.obj id ob ho
  obtain rfl : b = b' := Option.some.inj (hb.symm.trans hb')
  have hilt : i < ob.es.length := (List.getElem?_eq_some_iff.1 hi).1
  refine sim_write hs ho hw hb st (by rw [add_block]) (by simp) ?_
  intro k x hk
  have hwc : ∀ q, w'.cell? (b.add q) = if b.off + (i * ob.sz + off) ≤ b.off + q ∧ b.off + q < b.off + (i * ob.sz + off) + vs.length then vs[b.off + q - (b.off + (i * ob.sz + off))]? else w.cell? (b.add q) := by
    intro q
    have := st.cell (b.off + q)
    rw [add_eq hr.spot] at this
    rw [add_eq hr.spot]
    exact this
  by_cases hki : k = i
  · subst hki
    rw [List.getElem?_set_self hilt] at hk
    obtain rfl := Option.some.inj hk
    refine ⟨hst, nv, hnew, hnc, fun j u hj => ⟨hone j u hj, ?_⟩⟩
    obtain ⟨_, ov, h1, h2, h3⟩ := hr.el k old hi
    have hjlt : j < ob.sz := by
      rw [← hnc]
      rcases Nat.lt_or_ge j nv.cells.size with h | h
      · exact h
      · simp [Array.getElem?_eq_none h] at hj
    have := hcell ov h1 h2 j hjlt (fun q z hz => (h3 q z hz).2)
    rw [hj] at this
    rw [hwc]
    by_cases hc : off ≤ j ∧ j < off + n
    · rw [if_pos hc] at this
      rw [if_pos (by omega)]
      rw [this]; congr 1; omega
    · rw [if_neg hc] at this
      rw [if_neg (by omega)]
      exact this.symm
  · rw [List.getElem?_set_ne (Ne.symm hki)] at hk
    obtain ⟨h0, v, h1, h2, h3⟩ := hr.el k x hk
    refine ⟨h0, v, h1, h2, fun j u hj => ⟨(h3 j u hj).1, ?_⟩⟩
    have hjlt : j < ob.sz := by
      rw [← h2]
      rcases Nat.lt_or_ge j v.cells.size with h | h
      · exact h
      · simp [Array.getElem?_eq_none h] at hj
    rw [hwc, if_neg ?_]
    · exact (h3 j u hj).2
    · intro hc
      rcases Nat.lt_or_gt_of_ne hki with hlt | hgt
      · have : (k + 1) * ob.sz ≤ i * ob.sz := Nat.mul_le_mul_right _ hlt
        rw [Nat.add_mul] at this; omega
      · have : (i + 1) * ob.sz ≤ k * ob.sz := Nat.mul_le_mul_right _ hgt
        rw [Nat.add_mul] at this; omega

theorem does_store {t : TypeId} {p x : Operand} {p' x' : Opd} {n : Nat} {H' : Heap} (ho : o.op = .store t p x) (hn : sizeT P t = some n) (hp : opdOf p = some p') (hx : opdOf x = some x')
    (hs : SR nt w φ ⟨E, H, nx⟩ a) (hd : ∀ d, o.dst = some d → d < nt) (hv : storeV H n (ev E x') (ev E p') = some H') : Does P o nt a w φ H o.dst E .undef H' nx := by
  have h1 : VRel (ctx w φ H) (ev E p') (a.eval p) := opd_rel hs.env hp
  have h2 : VRel (ctx w φ H) (ev E x') (a.eval x) := opd_rel hs.env hx
  generalize hep : ev E p' = y at h1 hv
  unfold storeV at hv
  split at hv
  · rename_i q g m i off
    obtain ⟨ad, e1, ob, hob, hq⟩ := h1
    have hob' : H q = some ob := hob
    rw [hob'] at hv
    simp only at hv
    split at hv
    · rename_i hc
      obtain ⟨g1, g2, g3, g4, g5⟩ := hc
      rcases hq with hq | ⟨q1, q2, b, hb, rfl⟩
      · unfold Stale at hq; omega
      · obtain ⟨b', hb', hrel⟩ := hs.sim.obj _ _ hob'
        obtain rfl : b = b' := Option.some.inj (hb.symm.trans hb')
        obtain ⟨f1, f2⟩ := fit_cells h2 g5
        obtain ⟨n1, n2⟩ := stor_ne g5
        have hcl := VRel.cells h2 n1 n2
        split at hv
        · rename_i old hold
          obtain ⟨hst0, ov, hov, hosz, hoc⟩ := hrel.el i old hold
          obtain ⟨of1, of2⟩ := fit_cells hov hst0
          have holdl : old.cells.length = ob.sz := by omega
          have hilt : i < ob.es.length := (List.getElem?_eq_some_iff.1 hold).1
          obtain ⟨fc, fe, flo, fhi, hf1, hf2⟩ := hrel.fr g3
          -- the bound
          have hbound : off + n ≤ ob.sz → b.off + (i * ob.sz + off) + n ≤ fc.size := by
            intro hle
            -- the last cell of the element is there
            have hpos := hrel.pos
            have hlast : ∃ u, ov.cells[ob.sz - 1]? = some u := by
              have : ob.sz - 1 < ov.cells.size := by omega
              exact ⟨_, Array.getElem?_eq_getElem this⟩
            obtain ⟨u, hu⟩ := hlast
            have hcell := (hoc _ u hu).2
            rw [add_eq hrel.spot] at hcell
            simp only [World.cell?, hf1] at hcell
            simp only [Option.isSome_none, Bool.false_eq_true, if_false] at hcell
            have := (Array.getElem?_eq_some_iff.1 hcell).1
            omega
          have hrun : off + n ≤ ob.sz → ∃ w', (execOp a.eval o).run P w = .ok .skip w' ∧ Stored w w' (b.add (i * ob.sz + off)) (a.eval x).cells.toList := by
            intro hle
            have hsz : (a.eval x).cells.size = n := by omega
            obtain ⟨w', hr, hst⟩ := run_storeCells (P := P) (a := b.add (i * ob.sz + off)) (add_spot hrel.spot _) (a.eval x).cells.toList 0 w
              (by
                intro v hv'
                obtain ⟨j, hj⟩ := List.getElem?_of_mem hv'
                exact f2 j v (by simpa using hj))
              ⟨fc, fe, (flo, fhi), by rw [add_block]; exact hf1, by rw [add_eq hrel.spot]; simp; have := hbound hle; omega, hf2⟩
            refine ⟨w', ?_, by simpa [Addr.add] using hst⟩
            simp only [execOp, ho, e1, Instr.storeAt, Instr.sureAddr, Sem.run_bind, Sem.run_pure, Result.andThen_ok, storeVar, run_sizeOf hn, hsz, ne_eq, not_true_eq_false, if_false, hr]
          have fin : ∀ (new : AV) (nv : Value), off + n ≤ ob.sz → stor new = true → VRel (ctx w φ H) new nv → nv.cells.size = ob.sz → (∀ (j : Nat) (u : Value), nv.cells[j]? = some u → oneCell u = true) →
              (∀ (ov' : Value), VRel (ctx w φ H) old ov' → ov'.cells.size = ob.sz → ∀ (j : Nat), j < ob.sz → (∀ (q : Nat) (u : Value), ov'.cells[q]? = some u → w.cell? (b.add (i * ob.sz + q)) = some u) → nv.cells[j]? = if off ≤ j ∧ j < off + n then (a.eval x).cells.toList[j - off]? else w.cell? (b.add (i * ob.sz + j))) →
              Does P o nt a w φ H o.dst E .undef (hupd H q { ob with es := ob.es.set i new }) nx := by
            intro new nv hle hs1 hs2 hs3 hs4 hs5
            obtain ⟨w', hr, hst⟩ := hrun hle
            obtain ⟨hext, hsim⟩ := sim_put hs.sim hob' g3 hb hold (by simp; omega) hle hst hs1 hs2 hs3 hs4 hs5
            intro K Q hK
            unfold Oper.wp
            rw [hr, Oper.upon_skip]
            refine hK _ _ φ ⟨hsim, ?_, by rw [put_size]; exact hs.size⟩ hext (put_defers' _ _ _)
            exact EnvRel.put (hs.env.mono (hext.leCtx hs.sim.pl)) (fun _ => trivial) (fun d h => by rw [hs.size]; exact hd d h)
          split at hv
          · rename_i new hnew
            obtain rfl := Option.some.inj hv
            split at hnew
            · rename_i hc
              obtain ⟨rfl, rfl, _⟩ := hc
              obtain rfl := Option.some.inj hnew
              refine fin _ (a.eval x) (by omega) g5 h2 (by omega) f2 ?_
              intro ov' _ _ j hj _
              rw [if_pos (by omega)]
              simp
            · split at hnew
              · rename_i cs hcs
                unfold putCells at hcs
                split at hcs
                · rename_i hle
                  obtain rfl := Option.some.inj hcs
                  have hle' : off + n ≤ ob.sz := by omega
                  obtain ⟨on1, on2⟩ := stor_ne hst0
                  have hocl := VRel.cells hov on1 on2
                  have hcs2 : VRels (ctx w φ H) (old.cells.take off ++ (ev E x').cells ++ old.cells.drop (off + (ev E x').cells.length)) (ov.cells.toList.take off ++ (a.eval x).cells.toList ++ ov.cells.toList.drop (off + (ev E x').cells.length)) :=
                    ((hocl.take off).append hcl).append (hocl.drop _)
                  have hlenx : (ev E x').cells.length = (a.eval x).cells.toList.length := by simp; omega
                  have hput : ∀ j, (ov.cells.toList.take off ++ (a.eval x).cells.toList ++ ov.cells.toList.drop (off + (ev E x').cells.length))[j]? = if off ≤ j ∧ j < off + n then (a.eval x).cells.toList[j - off]? else ov.cells.toList[j]? := by
                    intro j
                    rw [hlenx, getElem?_put _ _ _ (by simp; omega)]
                    have : (a.eval x).cells.toList.length = n := by simp; omega
                    rw [this]
                  have hlen2 : (ov.cells.toList.take off ++ (a.eval x).cells.toList ++ ov.cells.toList.drop (off + (ev E x').cells.length)).length = ob.sz := by
                    simp; omega
                  have hmem : ∀ j, j < ob.sz → ov.cells.toList[j]? = w.cell? (b.add (i * ob.sz + j)) := by
                    intro j hj
                    have : ∃ u, ov.cells[j]? = some u := ⟨_, Array.getElem?_eq_getElem (by omega)⟩
                    obtain ⟨u, hu⟩ := this
                    rw [(hoc j u hu).2]; simpa using hu
                  unfold reEl at hnew
                  split at hnew
                  · obtain rfl := Option.some.inj hnew
                    refine fin _ (.agg (ov.cells.toList.take off ++ (a.eval x).cells.toList ++ ov.cells.toList.drop (off + (ev E x').cells.length)).toArray) hle' rfl ⟨_, rfl, hcs2⟩ (by rw [agg_cells, List.size_toArray]; exact hlen2) ?_ ?_
                    · intro j u hj
                      rw [agg_cells, List.getElem?_toArray] at hj; exact hcs2.one (j := j) hj
                    · intro ov' _ _ j hj _
                      rw [agg_cells, List.getElem?_toArray, hput j]
                      split
                      · rfl
                      · exact hmem j hj
                  · split at hnew
                    · rename_i y hy
                      split at hnew
                      case isFalse => cases hnew
                      rename_i hyst
                      obtain rfl := Option.some.inj hnew
                      -- one cell
                      have hl1 : (old.cells.take off ++ (ev E x').cells ++ old.cells.drop (off + (ev E x').cells.length)).length = 1 := by rw [hy]; rfl
                      have hsz1 : ob.sz = 1 := by
                        have := hcs2.length
                        rw [hlen2, hl1] at this
                        exact this.symm
                      rw [hy] at hcs2
                      generalize hq0 : (ov.cells.toList.take off ++ (a.eval x).cells.toList ++ ov.cells.toList.drop (off + (ev E x').cells.length)) = q0 at hcs2 hput hlen2
                      cases q0 with
                      | nil => exact hcs2.elim
                      | cons z r =>
                        have hr0 : r = [] := by cases r with | nil => rfl | cons => exact hcs2.2.2.elim
                        subst hr0
                        refine fin y z hle' hyst hcs2.1 (by rw [cells_one hcs2.2.1, hsz1]; rfl) ?_ ?_
                        · intro j u hj
                          rw [cells_one hcs2.2.1] at hj
                          cases j with
                          | zero => simp at hj; subst hj; exact hcs2.2.1
                          | succ j => simp at hj
                        · intro ov' _ _ j hj _
                          have hj0 : j = 0 := by omega
                          subst hj0
                          rw [cells_one hcs2.2.1]
                          have := hput 0
                          simp only [List.getElem?_cons_zero] at this
                          simp only [List.getElem?_toArray, List.getElem?_cons_zero]
                          rw [this]
                          split
                          · rfl
                          · exact hmem 0 (by omega)
                    · cases hnew
                · cases hcs
              · cases hnew
          · cases hv
        · cases hv
    · cases hv
  · cases hv
end
end Go.Am
