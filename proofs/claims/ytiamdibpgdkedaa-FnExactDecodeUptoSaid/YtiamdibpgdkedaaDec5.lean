/- Messages read: both readers tell always; what they tell is what was written. -/
import Derived.Test.YtiamdibpgdkedaaDec4
namespace Go.Proofs.Ytiamdibpgdkedaa.De
open Go Go.Am
set_option linter.unusedVariables false
set_option linter.unusedSimpArgs false

noncomputable section
def zeroM : TMessage := (0, 0, 0, 0, 0, 0, 0, false, [], [], litS [], false, ())
def encB (m : TMessage) : List UInt8 := hdB m ++ (esB m.2.2.2.2.2.2.2.2.1 ++ tlB m)
/-- What a reader may tell. -/
def Told (s : List UInt8) (r : TMessage × Bool × Unit) : Prop := (∃ m, r = (m, true, ()) ∧ msgB m = true ∧ encB m = s) ∨ r = (zeroM, false, ())
def finK (b : Bool) (m : TMessage) (s : List UInt8) : Option (TMessage × Bool × Unit) :=
  bindK (bif b then some true else some (bNot (enc m).2.1)) fun y => bindK (bif y then some true else some (bNot (strEq (enc m).1 s))) fun z => bif z then some (zeroM, false, ()) else some (m, true, ())
theorem fin_A (b : Bool) (m : TMessage) (s : List UInt8) : ∃ r, finK b m s = some r ∧ Told s r := by
  unfold finK
  simp only [cond_or, bindK_pure, bNot_def]
  by_cases h : ((b || !(enc m).2.1) || !(strEq (enc m).1 s)) = true
  · exact ⟨_, by rw [h]; rfl, .inr rfl⟩
  · have h : ((b || !(enc m).2.1) || !(strEq (enc m).1 s)) = false := by simpa using h
    refine ⟨(m, true, ()), by rw [h]; rfl, .inl ⟨m, rfl, ?_⟩⟩
    rw [Bool.or_eq_false_iff, Bool.or_eq_false_iff] at h
    obtain ⟨⟨_, h1⟩, h2⟩ := h
    rw [enc] at h1 h2
    cases hm : msgB m with
    | false => rw [hm] at h1; simp at h1
    | true =>
      rw [hm, strEq_def] at h2
      refine ⟨rfl, ?_⟩
      rw [encB]
      simpa using h2
theorem fin_B {m : TMessage} (h : msgB m = true) : finK false m (encB m) = some (m, true, ()) := by
  unfold finK
  have : enc m = (encB m, true, ()) := by rw [enc, h, encB]; rfl
  simp only [this, cond_false, bindK_pure, bNot_def, Bool.not_true, strEq_def, beq_self_eq_true]

/-! ### they tell always -/
theorem spec_A (s : List UInt8) (hl : s.length ≤ 1048576) : ∃ r, F56 (s, ()) = some r ∧ Told s r := by
  unfold F56
  obtain ⟨w0, a0, b0, e0, _, l0, _, h0⟩ := take_A (s := s) (a := 0) (n := 3) false (by omega) hl (by omega)
  have e0 : F129 ((s, 0, false, ()), 3, ()) = some (w0, mk s a0 b0, ()) := e0
  simp only [e0, bindK_pure]
  cases b0 with
  | true => exact ⟨_, by simp only [cond_true]; rfl, .inr rfl⟩
  | false =>
  obtain ⟨_, hw⟩ := h0 rfl
  have i0 : ∀ q : UInt8 → Option (TMessage × Bool × Unit), idxK w0 0 q = q (w0[0]'(by omega)) := fun q => idxK_lt (n := 0) (by omega)
  have i1 : ∀ q : UInt8 → Option (TMessage × Bool × Unit), idxK w0 1 q = q (w0[1]'(by omega)) := fun q => idxK_lt (n := 1) (by omega)
  have i2 : ∀ q : UInt8 → Option (TMessage × Bool × Unit), idxK w0 2 q = q (w0[2]'(by omega)) := fun q => idxK_lt (n := 2) (by omega)
  obtain ⟨v1, a1, b1, e1, g1, _⟩ := num_A (s := s) (a := a0) c1_le false l0
  obtain ⟨v2, a2, b2, e2, g2, _⟩ := num_A (s := s) (a := a1) c1_le b1 g1.len
  obtain ⟨v3, a3, b3, e3, g3, _⟩ := num_A (s := s) (a := a2) c1_le b2 g2.len
  obtain ⟨v4, a4, b4, e4, g4, _⟩ := num_A (s := s) (a := a3) c1_le b3 g3.len
  obtain ⟨w5, a5, b5, e5, _, l5, _, _⟩ := take_A (s := s) (a := a4) (n := 1) b4 g4.len hl (by omega)
  have e5 : F129 (mk s a4 b4, 1, ()) = some (w5, mk s a5 b5, ()) := e5
  obtain ⟨w6, a6, b6, e6, _, l6, _, _⟩ := take_A (s := s) (a := a5) (n := 1) b5 l5 hl (by omega)
  have e6 : F129 (mk s a5 b5, 1, ()) = some (w6, mk s a6 b6, ()) := e6
  obtain ⟨v7, a7, b7, e7, g7, _⟩ := num_A (s := s) (a := a6) c1_le b6 l6
  simp only [cond_false, i0, i1, i2, bindK_pure, num130 false l0 hl, e1, num130 b1 g1.len hl, e2, num130 b2 g2.len hl, e3, num130 b3 g3.len hl, e4, e5, e6, num130 b6 l6 hl, e7]
  generalize iConv .i64 (byteI w0[0]) = x1
  generalize iConv .i64 (byteI w0[1]) = x2
  generalize iConv .i64 (byteI w0[2]) = x3
  generalize strEq w5 (litS [1]) = x4
  generalize strEq w6 (litS [1]) = x5
  refine loop_post (σ := Int × TReader × TMessage × TMessage × Unit) (fun st => ∃ (a : Nat) (b : Bool) (es : List TEntry), st = ((es.length : Int), mk s a b, (x1, x2, x3, (v1 : Int), (v2 : Int), (v3 : Int), (v4 : Int), x4, es, [], litS [], x5, ()), zeroM, ()) ∧ a ≤ s.length ∧ es.length ≤ 5 ∧ ∀ y ∈ es, y.2.2.1.length ≤ s.length) (fun st => 5 - st.1.toNat) (fun _ r => Told s r) (fun rec st hs hr => ?_) NN _ ⟨a7, b7, [], rfl, g7.len, by simp, by simp⟩ (NN_len (by simp only; omega))
  obtain ⟨a, b, es, rfl, ha, he, hd⟩ := hs
  simp only [cond_and, bindK_pure]
  by_cases hc : ((iLt (es.length : Int) (v7 : Int) && bNot b) && iLe (es.length : Int) 4) = true
  · rw [hc, cond_true]
    have h4 : es.length ≤ 4 := by
      rw [Bool.and_eq_true, iLe_def] at hc
      have := of_decide_eq_true hc.2
      omega
    obtain ⟨w, a', b', e1, _, l1, lw⟩ := short_A (s := s) (a := a) b ha hl
    obtain ⟨i, e, ok, e2, le⟩ := spec_entry_A w (by omega)
    simp only [e1, e2, bindK_pure]
    rw [guardK_pos (gApp_pos (by simp only [List.length_cons, List.length_nil]; omega)), iAdd_nat (by omega), cat_def]
    refine hr _ ⟨a', b', es ++ [e], by simp, l1, by simp; omega, ?_⟩ (by simp only [Int.toNat_natCast]; omega)
    intro y hy
    rcases List.mem_append.1 hy with hy | hy
    · exact hd y hy
    · rw [List.mem_singleton.1 hy]; omega
  · have hc : ((iLt (es.length : Int) (v7 : Int) && bNot b) && iLe (es.length : Int) 4) = false := by simpa using hc
    rw [hc, cond_false]
    obtain ⟨w, a', b', e1, _, l1, lw⟩ := short_A (s := s) (a := a) b ha hl
    obtain ⟨w2, a2, b2, e2, _, l2, lw2⟩ := short_A (s := s) (a := a') b' l1 hl
    have e3 : F133 (w, ()) = some (readC w) := conf68 w (by omega)
    have hcl := readC_len w
    simp only [e1, e2, e3, bindK_pure]
    have e4 : F134 ((x1, x2, x3, (v1 : Int), (v2 : Int), (v3 : Int), (v4 : Int), x4, es, (readC w).1, w2, x5, ()), ()) = some (enc (x1, x2, x3, (v1 : Int), (v2 : Int), (v3 : Int), (v4 : Int), x4, es, (readC w).1, w2, x5, ())) := enc30 _ (by simp only; omega) (by simp only; omega) (fun y hy => Nat.le_trans (hd y hy) hl)
    rw [e4]
    simp only [bindK_pure]
    exact fin_A b2 _ s
theorem impl_A (s : List UInt8) (hl : s.length ≤ 1048576) : ∃ r, F57 (s, ()) = some r ∧ Told s r := by
  unfold F57
  obtain ⟨x1, a0, b0, e0, g0⟩ := byte_A (s := s) (a := 0) false (by omega) hl
  have e0 : F135 ((s, 0, false, ()), ()) = some (x1, mk s a0 b0, ()) := e0
  obtain ⟨x2, a1, b1, e1, g1⟩ := byte_A (s := s) (a := a0) b0 g0.len hl
  obtain ⟨x3, a2, b2, e2, g2⟩ := byte_A (s := s) (a := a1) b1 g1.len hl
  obtain ⟨v1, a3, b3, e3, g3, _⟩ := num_A (s := s) (a := a2) c2_le b2 g2.len
  obtain ⟨v2, a4, b4, e4, g4, _⟩ := num_A (s := s) (a := a3) c2_le b3 g3.len
  obtain ⟨v3, a5, b5, e5, g5, _⟩ := num_A (s := s) (a := a4) c2_le b4 g4.len
  obtain ⟨v4, a6, b6, e6, g6, _⟩ := num_A (s := s) (a := a5) c2_le b5 g5.len
  obtain ⟨w5, a7, b7, e7, g7⟩ := byte_A (s := s) (a := a6) b6 g6.len hl
  obtain ⟨w6, a8, b8, e8, g8⟩ := byte_A (s := s) (a := a7) b7 g7.len hl
  obtain ⟨v9, a9, b9, e9, g9, _⟩ := num_A (s := s) (a := a8) c2_le b8 g8.len
  simp only [e0, bindK_pure, e1, e2, num136 b2 g2.len hl, e3, num136 b3 g3.len hl, e4, num136 b4 g4.len hl, e5, num136 b5 g5.len hl, e6, e7, e8, num136 b8 g8.len hl, e9]
  generalize iEq w5 1 = x4
  generalize iEq w6 1 = x5
  refine loop_post (σ := Int × TReader × TMessage × TMessage × Unit) (fun st => ∃ (a : Nat) (b : Bool) (es : List TEntry), st = ((es.length : Int), mk s a b, (x1, x2, x3, (v1 : Int), (v2 : Int), (v3 : Int), (v4 : Int), x4, es, [], litS [], x5, ()), zeroM, ()) ∧ a ≤ s.length ∧ es.length ≤ s.length ∧ (b = false → es.length < a) ∧ ∀ y ∈ es, y.2.2.1.length ≤ s.length) (fun st => s.length + 1 - st.1.toNat) (fun _ r => Told s r) (fun rec st hs hr => ?_) NN _ ⟨a9, b9, [], rfl, g9.len, by simp, fun h => by have := g9.ok h; simp only [List.length_nil]; omega, by simp⟩ (NN_len (by simp only; omega))
  obtain ⟨a, b, es, rfl, ha, he, hp, hd⟩ := hs
  simp only [cond_and, bindK_pure]
  by_cases hc : (iLt (es.length : Int) (v9 : Int) && bNot b) = true
  · rw [hc, cond_true]
    have hb : b = false := by
      rw [Bool.and_eq_true, bNot_def] at hc
      simpa using hc.2
    have hp := hp hb
    obtain ⟨w, a', b', e1, g1, lw⟩ := text_A (s := s) (a := a) b ha hl
    obtain ⟨i, e, ok, e2, le⟩ := impl_entry_A w (by omega)
    simp only [e1, e2, bindK_pure, cond_or]
    rw [guardK_pos (gApp_pos (by simp only [List.length_cons, List.length_nil]; omega)), iAdd_nat (by omega), cat_def]
    refine hr _ ⟨a', b' || bNot ok, es ++ [e], by simp, g1.len, by simp; omega, fun h => ?_, ?_⟩ (by simp only [Int.toNat_natCast]; omega)
    · rw [Bool.or_eq_false_iff] at h
      have := (g1.ok h.1).2
      simp only [List.length_append, List.length_cons, List.length_nil]; omega
    · intro y hy
      rcases List.mem_append.1 hy with hy | hy
      · exact hd y hy
      · rw [List.mem_singleton.1 hy]; omega
  · have hc : (iLt (es.length : Int) (v9 : Int) && bNot b) = false := by simpa using hc
    rw [hc, cond_false]
    obtain ⟨w, a', b', e1, g1, lw⟩ := text_A (s := s) (a := a) b ha hl
    obtain ⟨w2, a2, b2, e2, g2, lw2⟩ := text_A (s := s) (a := a') b' g1.len hl
    simp only [e1, bindK_pure]
    rw [guardK_pos (gS2b_pos (by omega))]
    have hbl := bytesP_len w
    refine loop_listP (xs := bytesP w) (a := TMessage × TMessage × TReader × List Int × Unit) (σ := Int × TMessage × TMessage × TReader × List Int × Unit) (fun i st => (i, st)) (fun n st => ∃ cf : List Int, cf.length = n ∧ st = ((x1, x2, x3, (v1 : Int), (v2 : Int), (v3 : Int), (v4 : Int), x4, es, cf, litS [], x5, ()), zeroM, mk s a' b', bytesP w, ())) (fun r => Told s r) (fun rec st hs => ?_) (fun rec n hn st hs hr => ?_) NN _ ⟨[], rfl, rfl⟩ (NN_len (by omega))
    · obtain ⟨cf, hcf, rfl⟩ := hs
      simp only [iLt_len, Nat.lt_irrefl, decide_false, cond_false, e2, bindK_pure]
      have e4 : F141 ((x1, x2, x3, (v1 : Int), (v2 : Int), (v3 : Int), (v4 : Int), x4, es, cf, w2, x5, ()), ()) = some (enc (x1, x2, x3, (v1 : Int), (v2 : Int), (v3 : Int), (v4 : Int), x4, es, cf, w2, x5, ())) := enc31 _ (by simp only; omega) (by simp only; omega) (fun y hy => Nat.le_trans (hd y hy) hl)
      rw [e4]
      simp only [bindK_pure]
      exact fin_A b2 _ s
    · obtain ⟨cf, hcf, rfl⟩ := hs
      simp only [iLt_len, hn, decide_true, cond_true]
      rw [idxK_lt hn, guardK_pos (gApp_pos (by simp only [List.length_cons, List.length_nil]; omega)), iAdd_nat (by omega), cat_def]
      exact hr _ ⟨cf ++ [iConv .i64 (bytesP w)[n]], by simp; omega, rfl⟩

/-! ### what was written is read -/
theorem num130_B {s p q : List UInt8} {n : Nat} (hs : s = p ++ (vb n ++ q)) (hn : n ≤ 1000000000) (hl : s.length ≤ 1048576) : F130 (mk s p.length false, ()) = some ((n : Int), mk s (p ++ vb n).length false, ()) := by
  rw [num130 false (by rw [hs]; simp) hl, num_B c1_vb hs hn, List.length_append]
theorem num136_B {s p q : List UInt8} {n : Nat} (hs : s = p ++ (vb n ++ q)) (hn : n ≤ 1000000000) (hl : s.length ≤ 1048576) : F136 (mk s p.length false, ()) = some ((n : Int), mk s (p ++ vb n).length false, ()) := by
  rw [num136 false (by rw [hs]; simp) hl, num_B c2_vb hs hn, List.length_append]
theorem take1_B {s p q : List UInt8} {x : UInt8} (hs : s = p ++ ([x] ++ q)) (hl : s.length ≤ 1048576) : F129 (mk s p.length false, 1, ()) = some ([x], mk s (p ++ [x]).length false, ()) := by
  rw [List.length_append]; exact take_B (w := [x]) hs hl
theorem byte1_B {s p q : List UInt8} {x : UInt8} (hs : s = p ++ ([x] ++ q)) (hl : s.length ≤ 1048576) : F135 (mk s p.length false, ()) = some (iConv .i64 (byteI x), mk s (p ++ [x]).length false, ()) := by
  rw [List.length_append]; exact byte_B hs hl
theorem short1_B {s p w q : List UInt8} (hs : s = p ++ (shB w ++ q)) (hw : w.length ≤ 20000) (hl : s.length ≤ 1048576) : F132 (mk s p.length false, ()) = some (w, mk s (p ++ shB w).length false, ()) := by
  rw [List.length_append]; exact short_B hs hw hl
theorem text1_B {s p w q : List UInt8} (hs : s = p ++ (shB w ++ q)) (hw : w.length ≤ 20000) (hl : s.length ≤ 1048576) : F140 (mk s p.length false, ()) = some (w, mk s (p ++ shB w).length false, ()) := by
  rw [List.length_append]; exact text_B hs hw hl
def flag (b : Bool) : UInt8 := bif b then 1 else 0
theorem fB_flag (b : Bool) : fB b = [flag b] := by cases b <;> simp [fB, litS_def, flag]
theorem flag_eq (b : Bool) : strEq [flag b] (litS [1]) = b := by rw [strEq_def, litS_def]; cases b <;> rfl
theorem flag_iEq (b : Bool) : iEq (iConv .i64 (byteI (flag b))) 1 = b := by rw [conv_byte, iEq_def]; cases b <;> rfl
theorem esB_split {es : List TEntry} {n : Nat} (h : n < es.length) : esB es = esB (es.take n) ++ (shB (entB 1 es[n]) ++ esB (es.drop (n + 1))) := by
  have e : es = es.take n ++ (es[n] :: es.drop (n + 1)) := by rw [← List.drop_eq_getElem_cons h, List.take_append_drop]
  conv => lhs; rw [e]
  simp only [esB, List.map_append, List.map_cons, List.flatten_append, List.flatten_cons]
theorem esB_take {es : List TEntry} {n : Nat} (h : n < es.length) : esB (es.take (n + 1)) = esB (es.take n) ++ shB (entB 1 es[n]) := by
  rw [List.take_succ_eq_append_getElem h]
  simp only [esB, List.map_append, List.map_cons, List.map_nil, List.flatten_append, List.flatten_cons, List.flatten_nil, List.append_nil]
/-- What is known of a right message: its head's bytes. -/
structure Hd (m : TMessage) (x1 x2 x3 : UInt8) (T I L C : Nat) : Prop where
  k1 : iConv .i64 (byteI x1) = m.1
  k2 : iConv .i64 (byteI x2) = m.2.1
  k3 : iConv .i64 (byteI x3) = m.2.2.1
  hT : m.2.2.2.1 = T ∧ T ≤ 1000000000
  hI : m.2.2.2.2.1 = I ∧ I ≤ 1000000000
  hL : m.2.2.2.2.2.1 = L ∧ L ≤ 1000000000
  hC : m.2.2.2.2.2.2.1 = C ∧ C ≤ 1000000000
  tx : encB m = [x1] ++ ([x2] ++ ([x3] ++ (vb (T : Int) ++ (vb (I : Int) ++ (vb (L : Int) ++ (vb (C : Int) ++ ([flag m.2.2.2.2.2.2.2.1] ++ ([flag m.2.2.2.2.2.2.2.2.2.2.2.1] ++ (vb ((m.2.2.2.2.2.2.2.2.1.length : Nat) : Int) ++ (esB m.2.2.2.2.2.2.2.2.1 ++ (shB (cB m.2.2.2.2.2.2.2.2.2.1) ++ (shB m.2.2.2.2.2.2.2.2.2.2.1 ++ []))))))))))))
theorem hd_of {m : TMessage} (h : msgB m = true) : ∃ x1 x2 x3 T I L C, Hd m x1 x2 x3 T I L C := by
  have o := msgOk h
  have p : preB m = true := by rw [msgB, Bool.and_eq_true] at h; exact h.1
  simp only [preB, Bool.and_eq_true] at p
  obtain ⟨⟨⟨⟨p1, p2⟩, p3⟩, _⟩, _⟩ := p
  have p1 := inB_of p1; have p2 := inB_of p2; have p3 := inB_of p3
  have := o.t; have := o.i; have := o.l; have := o.c
  obtain ⟨T, hT⟩ := nat_of o.t.1
  obtain ⟨I, hI⟩ := nat_of o.i.1
  obtain ⟨L, hL⟩ := nat_of o.l.1
  obtain ⟨C, hC⟩ := nat_of o.c.1
  refine ⟨_, _, _, T, I, L, C, byte_back (x := m.1) (by omega), byte_back (x := m.2.1) (by omega), byte_back (x := m.2.2.1) (by omega), ⟨hT, by omega⟩, ⟨hI, by omega⟩, ⟨hL, by omega⟩, ⟨hC, by omega⟩, ?_⟩
  rw [encB, hdB, tlB, hT, hI, hL, hC, fB_flag, fB_flag, strP_cons, strP_cons, strP_cons, strP_nil, lenI_def]
  simp only [List.append_assoc, List.cons_append, List.nil_append, List.append_nil]
end
end Go.Proofs.Ytiamdibpgdkedaa.De
