/- A right message comes back from its bytes, by both readers. -/
import Derived.Test.YtiamdibpgdkedaaDec5
namespace Go.Proofs.Ytiamdibpgdkedaa.De
open Go Go.Am
set_option linter.unusedVariables false
set_option linter.unusedSimpArgs false

noncomputable section
theorem spec_B {m : TMessage} (h : msgB m = true) (hl : (encB m).length ≤ 1048576) : F56 (encB m, ()) = some (m, true, ()) := by
  obtain ⟨x1, x2, x3, T, I, L, C, H⟩ := hd_of h
  have o := msgOk h
  have hk1 := H.k1; have hk2 := H.k2; have hk3 := H.k3; have hT := H.hT; have hI := H.hI; have hL := H.hL; have hC := H.hC
  have tx := H.tx
  have on := o.n; have oe := o.e; have of := o.f; have ofl := o.fl; have od := o.d
  have hfin := fin_B h
  generalize hs : encB m = s at tx hl hfin
  obtain ⟨k, f, t, mT, mI, mL, mC, ok, es, cf, d, lst, u⟩ := m
  cases u
  simp only at hk1 hk2 hk3 hT hI hL hC tx on oe of ofl od
  obtain ⟨rfl, hT⟩ := hT; obtain ⟨rfl, hI⟩ := hI; obtain ⟨rfl, hL⟩ := hL; obtain ⟨rfl, hC⟩ := hC
  have t3 : s = [] ++ ([x1, x2, x3] ++ (vb (T : Int) ++ (vb (I : Int) ++ (vb (L : Int) ++ (vb (C : Int) ++ ([flag ok] ++ ([flag lst] ++ (vb ((es.length : Nat) : Int) ++ (esB es ++ (shB (cB cf) ++ (shB d ++ []))))))))))) := tx
  have e0 : F129 ((s, 0, false, ()), 3, ()) = some ([x1, x2, x3], mk s [x1, x2, x3].length false, ()) := take_B t3 hl
  have i0 : ∀ q : UInt8 → Option (TMessage × Bool × Unit), idxK [x1, x2, x3] 0 q = q x1 := fun q => idxK_lt (n := 0) (xs := [x1, x2, x3]) (by simp)
  have i1 : ∀ q : UInt8 → Option (TMessage × Bool × Unit), idxK [x1, x2, x3] 1 q = q x2 := fun q => idxK_lt (n := 1) (xs := [x1, x2, x3]) (by simp)
  have i2 : ∀ q : UInt8 → Option (TMessage × Bool × Unit), idxK [x1, x2, x3] 2 q = q x3 := fun q => idxK_lt (n := 2) (xs := [x1, x2, x3]) (by simp)
  generalize hp0 : [x1, x2, x3] = p0 at e0 i0 i1 i2 t3
  rw [List.nil_append] at t3
  have e1 := num130_B t3 hT hl
  have t4 := t3; rw [← List.append_assoc] at t4
  generalize hp1 : p0 ++ vb (T : Int) = p1 at e1 t4
  have e2 := num130_B t4 hI hl
  have t5 := t4; rw [← List.append_assoc] at t5
  generalize hp2 : p1 ++ vb (I : Int) = p2 at e2 t5
  have e3 := num130_B t5 hL hl
  have t6 := t5; rw [← List.append_assoc] at t6
  generalize hp3 : p2 ++ vb (L : Int) = p3 at e3 t6
  have e4 := num130_B t6 hC hl
  have t7 := t6; rw [← List.append_assoc] at t7
  generalize hp4 : p3 ++ vb (C : Int) = p4 at e4 t7
  have e5 := take1_B t7 hl
  have t8 := t7; rw [← List.append_assoc] at t8
  generalize hp5 : p4 ++ [flag ok] = p5 at e5 t8
  have e6 := take1_B t8 hl
  have t9 := t8; rw [← List.append_assoc] at t9
  generalize hp6 : p5 ++ [flag lst] = p6 at e6 t9
  have e7 := num130_B t9 (by omega) hl
  have t10 := t9; rw [← List.append_assoc] at t10
  generalize hp7 : p6 ++ vb ((es.length : Nat) : Int) = p7 at e7 t10
  unfold F56
  simp only [e0, bindK_pure, cond_false, i0, i1, i2, e1, e2, e3, e4, e5, e6, e7, hk1, hk2, hk3, flag_eq]
  refine loop_list (xs := es) (a := TReader × TMessage × TMessage × Unit) (fun i st => (i, st)) (fun n st => st = (mk s (p7 ++ esB (es.take n)).length false, (k, f, t, (T : Int), (I : Int), (L : Int), (C : Int), ok, es.take n, [], litS [], lst, ()), zeroM, ())) (fun _ _ => some ((k, f, t, (T : Int), (I : Int), (L : Int), (C : Int), ok, es, cf, d, lst, ()), true, ())) (fun rec st hs => ?_) (fun rec n hn st hs hr => ?_) NN _ (by simp [esB, zeroM]) (NN_len (by omega))
  · subst hs
    rw [List.take_length]
    have eb : iLt (es.length : Int) (es.length : Int) = false := by rw [iLt_nat]; simp
    have t11 := t10; rw [← List.append_assoc] at t11
    have hcl : (cB cf).length ≤ 20000 := by rw [cB, strP_len, List.length_map]; omega
    have f1 := short1_B t11 hcl hl
    have t12 := t11; rw [← List.append_assoc] at t12
    have f2 := short1_B t12 (by omega) hl
    have f3 : F133 (cB cf, ()) = some (readC (cB cf)) := conf68 _ (by omega)
    have f4 : F134 ((k, f, t, (T : Int), (I : Int), (L : Int), (C : Int), ok, es, cf, d, lst, ()), ()) = some (enc (k, f, t, (T : Int), (I : Int), (L : Int), (C : Int), ok, es, cf, d, lst, ())) := enc30 _ (by simp only; omega) (by simp only; omega) (fun y hy => by have := (entryB_data (oe y hy)).2; omega)
    simp only [eb, cond_false, bindK_pure, f1, f2, f3, readC_cB of, f4]
    rw [finK] at hfin
    simp only [cond_false, bindK_pure] at hfin
    exact hfin
  · subst hs
    have eb : iLt (n : Int) (es.length : Int) = true := by rw [iLt_nat]; simpa using hn
    have e4' : iLe (n : Int) 4 = true := by rw [iLe_def, decide_eq_true (by omega)]
    have hy := oe _ (List.getElem_mem hn)
    have hlen := entB_len hy
    have t11 : s = (p7 ++ esB (es.take n)) ++ (shB (entB 1 es[n]) ++ (esB (es.drop (n + 1)) ++ (shB (cB cf) ++ (shB d ++ [])))) := by
      rw [t10, esB_split hn]; simp only [List.append_assoc]
    have f1 := short1_B t11 (by omega) hl
    have f2 : F131 (entB 1 es[n], ()) = some (1, es[n], true, ()) := spec_entry_B hy
    simp only [eb, e4', cond_true, cond_and, bNot_def, Bool.not_false, bindK_pure, f1, f2, Bool.and_self]
    rw [guardK_pos (gApp_pos (by simp only [List.length_take, List.length_cons, List.length_nil]; omega)), iAdd_nat (by omega), cat_def]
    refine hr _ ?_
    rw [esB_take hn, List.take_succ_eq_append_getElem hn, ← List.append_assoc p7]
theorem impl_B {m : TMessage} (h : msgB m = true) (hl : (encB m).length ≤ 1048576) : F57 (encB m, ()) = some (m, true, ()) := by
  obtain ⟨x1, x2, x3, T, I, L, C, H⟩ := hd_of h
  have o := msgOk h
  have hk1 := H.k1; have hk2 := H.k2; have hk3 := H.k3; have hT := H.hT; have hI := H.hI; have hL := H.hL; have hC := H.hC
  have tx := H.tx
  have on := o.n; have oe := o.e; have of := o.f; have ofl := o.fl; have od := o.d
  have hfin := fin_B h
  generalize hs : encB m = s at tx hl hfin
  obtain ⟨k, f, t, mT, mI, mL, mC, ok, es, cf, d, lst, u⟩ := m
  cases u
  simp only at hk1 hk2 hk3 hT hI hL hC tx on oe of ofl od
  obtain ⟨rfl, hT⟩ := hT; obtain ⟨rfl, hI⟩ := hI; obtain ⟨rfl, hL⟩ := hL; obtain ⟨rfl, hC⟩ := hC
  have t1 : s = [] ++ ([x1] ++ ([x2] ++ ([x3] ++ (vb (T : Int) ++ (vb (I : Int) ++ (vb (L : Int) ++ (vb (C : Int) ++ ([flag ok] ++ ([flag lst] ++ (vb ((es.length : Nat) : Int) ++ (esB es ++ (shB (cB cf) ++ (shB d ++ []))))))))))))) := tx
  have e01 : F135 ((s, 0, false, ()), ()) = some (iConv .i64 (byteI x1), mk s ([] ++ [x1]).length false, ()) := byte1_B t1 hl
  rw [← List.append_assoc] at t1
  generalize hp01 : [] ++ [x1] = p01 at e01 t1
  have e02 := byte1_B t1 hl
  have t2 := t1; rw [← List.append_assoc] at t2
  generalize hp02 : p01 ++ [x2] = p02 at e02 t2
  have e03 := byte1_B t2 hl
  have t3 := t2; rw [← List.append_assoc] at t3
  generalize hp0 : p02 ++ [x3] = p0 at e03 t3
  have e1 := num136_B t3 hT hl
  have t4 := t3; rw [← List.append_assoc] at t4
  generalize hp1 : p0 ++ vb (T : Int) = p1 at e1 t4
  have e2 := num136_B t4 hI hl
  have t5 := t4; rw [← List.append_assoc] at t5
  generalize hp2 : p1 ++ vb (I : Int) = p2 at e2 t5
  have e3 := num136_B t5 hL hl
  have t6 := t5; rw [← List.append_assoc] at t6
  generalize hp3 : p2 ++ vb (L : Int) = p3 at e3 t6
  have e4 := num136_B t6 hC hl
  have t7 := t6; rw [← List.append_assoc] at t7
  generalize hp4 : p3 ++ vb (C : Int) = p4 at e4 t7
  have e5 := byte1_B t7 hl
  have t8 := t7; rw [← List.append_assoc] at t8
  generalize hp5 : p4 ++ [flag ok] = p5 at e5 t8
  have e6 := byte1_B t8 hl
  have t9 := t8; rw [← List.append_assoc] at t9
  generalize hp6 : p5 ++ [flag lst] = p6 at e6 t9
  have e7 := num136_B t9 (by omega) hl
  have t10 := t9; rw [← List.append_assoc] at t10
  generalize hp7 : p6 ++ vb ((es.length : Nat) : Int) = p7 at e7 t10
  unfold F57
  simp only [e01, e02, e03, bindK_pure, cond_false, e1, e2, e3, e4, e5, e6, e7, hk1, hk2, hk3, flag_iEq]
  refine loop_list (xs := es) (a := TReader × TMessage × TMessage × Unit) (fun i st => (i, st)) (fun n st => st = (mk s (p7 ++ esB (es.take n)).length false, (k, f, t, (T : Int), (I : Int), (L : Int), (C : Int), ok, es.take n, [], litS [], lst, ()), zeroM, ())) (fun _ _ => some ((k, f, t, (T : Int), (I : Int), (L : Int), (C : Int), ok, es, cf, d, lst, ()), true, ())) (fun rec st hs => ?_) (fun rec n hn st hs hr => ?_) NN _ (by simp [esB, zeroM]) (NN_len (by omega))
  · subst hs
    rw [List.take_length]
    have eb : iLt (es.length : Int) (es.length : Int) = false := by rw [iLt_nat]; simp
    have t11 := t10; rw [← List.append_assoc] at t11
    have hcl : (cB cf).length ≤ 4 := by rw [cB, strP_len, List.length_map]; omega
    have f1 := text1_B t11 (by omega) hl
    have t12 := t11; rw [← List.append_assoc] at t12
    have f2 := text1_B t12 (by omega) hl
    have f4 : F141 ((k, f, t, (T : Int), (I : Int), (L : Int), (C : Int), ok, es, cf, d, lst, ()), ()) = some (enc (k, f, t, (T : Int), (I : Int), (L : Int), (C : Int), ok, es, cf, d, lst, ())) := enc31 _ (by simp only; omega) (by simp only; omega) (fun y hy => by have := (entryB_data (oe y hy)).2; omega)
    simp only [eb, cond_false, bindK_pure, f1]
    rw [guardK_pos (gS2b_pos (by omega))]
    have hbl := bytesP_len (cB cf)
    have hback : (bytesP (cB cf)).map (iConv .i64) = cf := by
      rw [bytesP_def, List.map_map]
      rcases of with of | rfl
      · exact conf_back of
      · rw [cB, strP_def]; rfl
    refine loop_list (xs := bytesP (cB cf)) (a := TMessage × TMessage × TReader × List Int × Unit) (fun i st => (i, st)) (fun n st => st = ((k, f, t, (T : Int), (I : Int), (L : Int), (C : Int), ok, es, ((bytesP (cB cf)).take n).map (iConv .i64), litS [], lst, ()), zeroM, mk s (p7 ++ esB es ++ shB (cB cf)).length false, bytesP (cB cf), ())) (fun _ _ => some ((k, f, t, (T : Int), (I : Int), (L : Int), (C : Int), ok, es, cf, d, lst, ()), true, ())) (fun rec st hs => ?_) (fun rec n hn st hs hr => ?_) NN _ (by simp) (NN_len (by omega))
    · subst hs
      rw [List.take_length]
      simp only [iLt_len, Nat.lt_irrefl, decide_false, cond_false, f2, bindK_pure, hback, f4]
      rw [finK] at hfin
      simp only [cond_false, bindK_pure] at hfin
      exact hfin
    · subst hs
      simp only [iLt_len, hn, decide_true, cond_true]
      rw [idxK_lt hn, guardK_pos (gApp_pos (by simp only [List.length_map, List.length_take, List.length_cons, List.length_nil]; omega)), iAdd_nat (by omega), cat_def]
      refine hr _ ?_
      rw [List.take_succ_eq_append_getElem hn, List.map_append]; rfl
  · subst hs
    have eb : iLt (n : Int) (es.length : Int) = true := by rw [iLt_nat]; simpa using hn
    have hy := oe _ (List.getElem_mem hn)
    have hlen := entB_len hy
    have t11 : s = (p7 ++ esB (es.take n)) ++ (shB (entB 1 es[n]) ++ (esB (es.drop (n + 1)) ++ (shB (cB cf) ++ (shB d ++ [])))) := by
      rw [t10, esB_split hn]; simp only [List.append_assoc]
    have f1 := text1_B t11 (by omega) hl
    have f2 : F139 (entB 1 es[n], ()) = some (1, es[n], true, ()) := impl_entry_B hy
    simp only [eb, cond_true, cond_and, bNot_def, Bool.not_false, bindK_pure, f1, f2, cond_or, Bool.not_true, Bool.or_self]
    rw [guardK_pos (gApp_pos (by simp only [List.length_take, List.length_cons, List.length_nil]; omega)), iAdd_nat (by omega), cat_def]
    refine hr _ ?_
    rw [esB_take hn, List.take_succ_eq_append_getElem hn, ← List.append_assoc p7]
/-- Both readers tell the same. -/
theorem both (s : List UInt8) (hl : s.length ≤ 1048576) : ∃ m b, F56 (s, ()) = some (m, b, ()) ∧ F57 (s, ()) = some (m, b, ()) ∧ (msgB m = true ∧ b = true ∨ m = zeroM) := by
  obtain ⟨r1, h1, t1⟩ := spec_A s hl
  obtain ⟨r2, h2, t2⟩ := impl_A s hl
  rcases t1 with ⟨m, rfl, hm, he⟩ | rfl
  · subst he
    exact ⟨m, true, h1, impl_B hm hl, .inl ⟨hm, rfl⟩⟩
  · rcases t2 with ⟨m, rfl, hm, he⟩ | rfl
    · subst he
      exact ⟨m, true, spec_B hm hl, h2, .inl ⟨hm, rfl⟩⟩
    · exact ⟨zeroM, false, h1, h2, .inr rfl⟩
end
end Go.Proofs.Ytiamdibpgdkedaa.De
