/- How the readers of bytes, numbers and texts go on: they tell always, and what was written is read. -/
import Derived.Test.YtiamdibpgdkedaaDec2
namespace Go.Proofs.Ytiamdibpgdkedaa.De
open Go Go.Am
set_option linter.unusedVariables false
set_option linter.unusedSimpArgs false

noncomputable section
/-! ### bytes of numbers -/
theorem u8_id {x : Int} (h : 0 ≤ x ∧ x ≤ 255) : iConv .u8 x = x := by
  rw [iConv_def, Go.IntWalk.u8_in x h]
theorem ofNat_toNat {n : Nat} (h : n ≤ 255) : (UInt8.ofNat n).toNat = n := by
  simp; omega
theorem byte_back {x : Int} (h : 0 ≤ x ∧ x ≤ 255) : iConv .i64 (byteI (UInt8.ofNat (iConv .u8 x).toNat)) = x := by
  rw [conv_byte, u8_id h, ofNat_toNat (by omega)]; omega
theorem vb_small {n : Nat} (h : n ≤ 127) : vb n = [UInt8.ofNat n] := by
  rw [vb, varI, if_neg (by omega), u8_id (by omega), strP_def]; simp
theorem vb_big {n : Nat} (h : 127 < n) : vb n = UInt8.ofNat (n % 128 + 128) :: vb ((n / 128 : Nat) : Int) := by
  have e : iAdd .i64 (iRem (n : Int) 128) 128 = ((n % 128 + 128 : Nat) : Int) := by
    have : iRem (n : Int) 128 = ((n % 128 : Nat) : Int) := by
      rw [iRem_def, Int.tmod_eq_emod_of_nonneg (by omega)]; simp
    rw [this, iAdd64 (by omega)]; simp
  have e2 : (n : Int) / 128 = ((n / 128 : Nat) : Int) := by simp
  rw [vb, varI, if_pos (by omega), e, u8_id (by omega), e2, vb, strP_def, strP_def, List.map_cons, Int.toNat_natCast]
theorem digs_vb : ∀ (k n : Nat) (q : List UInt8), n < 128 ^ (k + 1) → digs (k + 1) (vb n ++ q) = some (vb n)
  | 0, n, q, h => by
    rw [vb_small (by omega)]
    have : (UInt8.ofNat n).toNat < 128 := by rw [ofNat_toNat (by omega)]; omega
    simp only [List.cons_append, List.nil_append, digs, this, if_true]
  | k + 1, n, q, h => by
    by_cases hn : 127 < n
    · rw [vb_big hn, List.cons_append, digs]
      have : ¬ (UInt8.ofNat (n % 128 + 128)).toNat < 128 := by rw [ofNat_toNat (by omega)]; omega
      rw [if_neg this, digs_vb k (n / 128) q (by rw [Nat.pow_succ] at h; omega)]; rfl
    · rw [vb_small (by omega)]
      have : (UInt8.ofNat n).toNat < 128 := by rw [ofNat_toNat (by omega)]; omega
      simp only [List.cons_append, List.nil_append, digs, this, if_true]
theorem val_vb : ∀ (k n : Nat), n < 128 ^ (k + 1) → val (vb n) = n
  | 0, n, h => by
    rw [vb_small (by omega)]
    simp only [val]
    rw [ofNat_toNat (by omega)]; omega
  | k + 1, n, h => by
    by_cases hn : 127 < n
    · rw [vb_big hn, val, val_vb k (n / 128) (by rw [Nat.pow_succ] at h; omega), ofNat_toNat (by omega)]; omega
    · rw [vb_small (by omega)]
      simp only [val]
      rw [ofNat_toNat (by omega)]; omega
theorem vb_pos (n : Nat) (h : n ≤ 1000000000) : 1 ≤ (vb n).length := by
  have := digs_len 5 (vb n ++ []) (vb n) (digs_vb 4 n [] (by omega))
  omega

/-! ### numbers -/
abbrev mk (s : List UInt8) (a : Nat) (b : Bool) : TReader := (s, (a : Int), b, ())
def numR (c : Nat → List UInt8 → Bool) (s : List UInt8) (a : Nat) (b : Bool) : Int × TReader × Unit :=
  match b, digs 5 (s.drop a) with
  | false, some ds => bif c (val ds) ds then ((val ds : Int), mk s (a + ds.length) false, ()) else (0, mk s a true, ())
  | _, _ => (0, mk s a true, ())
theorem num130 {s : List UInt8} {a : Nat} (b : Bool) (ha : a ≤ s.length) (hl : s.length ≤ 1048576) : F130 (mk s a b, ()) = some (numR c1 s a b) := by
  unfold F130
  have h : F182 (s, (a : Int), ()) = _ := rv182 s a ha hl
  simp only [mk, h, bindK_pure, numR, rvR]
  cases b with
  | true => simp only [cond_true, bindK_pure]
  | false =>
    simp only [cond_false, bindK_pure]
    cases hd : digs 5 (s.drop a) with
    | none => simp only [bNot_def, Bool.not_false, cond_true]
    | some ds =>
      simp only [bNot_def]
      cases c1 (val ds) ds <;> rfl
theorem num136 {s : List UInt8} {a : Nat} (b : Bool) (ha : a ≤ s.length) (hl : s.length ≤ 1048576) : F136 (mk s a b, ()) = some (numR c2 s a b) := by
  unfold F136
  have h : F188 (s, (a : Int), ()) = _ := rv188 s a ha hl
  simp only [mk, h, bindK_pure, numR, rvR]
  cases b with
  | true => simp only [cond_true, bindK_pure]
  | false =>
    simp only [cond_false, bindK_pure]
    cases hd : digs 5 (s.drop a) with
    | none => simp only [bNot_def, Bool.not_false, cond_true]
    | some ds =>
      simp only [bNot_def]
      cases c2 (val ds) ds <;> rfl
/-- From a state to the next. -/
structure Go1 (s : List UInt8) (a : Nat) (b : Bool) (a' : Nat) (b' : Bool) : Prop where
  le : a ≤ a'
  len : a' ≤ s.length
  ok : b' = false → b = false ∧ a < a'
theorem num_A {c : Nat → List UInt8 → Bool} (hc : ∀ n ds, c n ds = true → n ≤ 1000000000) {s : List UInt8} {a : Nat} (b : Bool) (ha : a ≤ s.length) :
    ∃ (v a' : Nat) (b' : Bool), numR c s a b = ((v : Int), mk s a' b', ()) ∧ Go1 s a b a' b' ∧ v ≤ 1000000000 := by
  unfold numR
  cases b with
  | true => exact ⟨0, a, true, rfl, ⟨by omega, ha, fun h => by cases h⟩, by omega⟩
  | false =>
    cases hd : digs 5 (s.drop a) with
    | none => exact ⟨0, a, true, rfl, ⟨by omega, ha, fun h => by cases h⟩, by omega⟩
    | some ds =>
      cases hq : c (val ds) ds with
      | false => exact ⟨0, a, true, by simp only [hq]; rfl, ⟨by omega, ha, fun h => by cases h⟩, by omega⟩
      | true =>
        have := digs_len _ _ _ hd
        rw [List.length_drop] at this
        exact ⟨val ds, a + ds.length, false, by simp only [hq]; rfl, ⟨by omega, by omega, fun _ => ⟨rfl, by omega⟩⟩, hc _ _ hq⟩
theorem c1_le (n : Nat) (ds : List UInt8) (h : c1 n ds = true) : n ≤ 1000000000 := by
  simp only [c1, Bool.and_eq_true] at h
  exact of_decide_eq_true h.1
theorem c2_le (n : Nat) (ds : List UInt8) (h : c2 n ds = true) : n ≤ 1000000000 := by
  simp only [c2, Bool.and_eq_true] at h
  exact of_decide_eq_true h.1
theorem c1_vb (n : Nat) (h : n ≤ 1000000000) : c1 n (vb n) = true := by
  simp only [c1, decide_eq_true h, strEq_def, beq_self_eq_true, Bool.and_self]
theorem c2_vb (n : Nat) (h : n ≤ 1000000000) : c2 n (vb n) = true := by
  simp only [c2, decide_eq_true h, decide_true, Bool.and_self]
theorem num_B {c : Nat → List UInt8 → Bool} (hc : ∀ n : Nat, n ≤ 1000000000 → c n (vb n) = true) {s p q : List UInt8} {n : Nat} (hs : s = p ++ (vb n ++ q)) (hn : n ≤ 1000000000) :
    numR c s p.length false = ((n : Int), mk s (p.length + (vb n).length) false, ()) := by
  unfold numR
  have h1 : s.drop p.length = vb n ++ q := by rw [hs, List.drop_left]
  rw [h1, digs_vb 4 n q (by omega)]
  simp only [val_vb 4 n (by omega), hc n hn, cond_true]

/-! ### bytes -/
theorem byte_A {s : List UInt8} {a : Nat} (b : Bool) (ha : a ≤ s.length) (hl : s.length ≤ 1048576) : ∃ (v : Int) (a' : Nat) (b' : Bool), F135 (mk s a b, ()) = some (v, mk s a' b', ()) ∧ Go1 s a b a' b' := by
  unfold F135
  have eg : iGe (a : Int) (lenI s) = decide (s.length ≤ a) := by
    rw [iGe_def, lenI_def]; exact decide_eq_decide.2 (by omega)
  simp only [mk, eg, cond_or, bindK_pure]
  cases b with
  | true => exact ⟨0, a, true, by simp only [Bool.true_or, cond_true], ⟨by omega, ha, fun h => by cases h⟩⟩
  | false =>
    by_cases h : s.length ≤ a
    · exact ⟨0, a, true, by simp only [decide_eq_true h, Bool.false_or, cond_true], ⟨by omega, ha, fun h => by cases h⟩⟩
    · have e1 : iAdd .i64 (a : Int) 1 = ((a + 1 : Nat) : Int) := iAdd_nat (by omega)
      have e2 : iSub .i64 ((a + 1 : Nat) : Int) 1 = (a : Int) := by rw [iSub64 (by omega)]; omega
      have h' : a < s.length := by omega
      exact ⟨iConv .i64 (byteI s[a]), a + 1, false, by simp only [decide_eq_false h, Bool.or_self, cond_false, e1, e2, idxK_lt h'], ⟨by omega, by omega, fun _ => ⟨rfl, by omega⟩⟩⟩
theorem byte_B {s p q : List UInt8} {x : UInt8} (hs : s = p ++ ([x] ++ q)) (hl : s.length ≤ 1048576) : F135 (mk s p.length false, ()) = some (iConv .i64 (byteI x), mk s (p.length + 1) false, ()) := by
  unfold F135
  have hlen : p.length < s.length := by rw [hs]; simp
  have eg : iGe (p.length : Int) (lenI s) = false := by
    rw [iGe_def, lenI_def, decide_eq_false]; omega
  have e1 : iAdd .i64 (p.length : Int) 1 = ((p.length + 1 : Nat) : Int) := iAdd_nat (by omega)
  have e2 : iSub .i64 ((p.length + 1 : Nat) : Int) 1 = (p.length : Int) := by rw [iSub64 (by omega)]; omega
  have hx : s[p.length] = x := by simp [hs]
  simp only [mk, eg, cond_or, bindK_pure, Bool.or_self, cond_false, e1, e2, idxK_lt hlen, hx]

/-! ### some bytes -/
theorem take_A {s : List UInt8} {a n : Nat} (b : Bool) (ha : a ≤ s.length) (hl : s.length ≤ 1048576) (hn : n ≤ 1000000000) : ∃ (w : List UInt8) (a' : Nat) (b' : Bool), F129 (mk s a b, (n : Int), ()) = some (w, mk s a' b', ()) ∧ a ≤ a' ∧ a' ≤ s.length ∧ w.length ≤ s.length ∧ (b' = false → b = false ∧ w.length = n) := by
  unfold F129
  have es : iSub .i64 (lenI s) (a : Int) = ((s.length - a : Nat) : Int) := by rw [lenI_def, iSub64 (by omega)]; omega
  have eg : iGt (n : Int) ((s.length - a : Nat) : Int) = decide (s.length - a < n) := by rw [iGt_def]; exact decide_eq_decide.2 (by omega)
  simp only [mk, es, eg, cond_or, bindK_pure]
  have hz : (litS []).length ≤ s.length := by rw [litS_def]; simp
  cases b with
  | true => exact ⟨_, a, true, by simp only [Bool.true_or, cond_true], by omega, ha, hz, fun h => by cases h⟩
  | false =>
    by_cases h : s.length - a < n
    · exact ⟨_, a, true, by simp only [decide_eq_true h, Bool.false_or, cond_true], by omega, ha, hz, fun h => by cases h⟩
    · have e1 : iAdd .i64 (a : Int) (n : Int) = ((a + n : Nat) : Int) := by rw [iAdd64 (by omega)]; simp
      have e2 : iSub .i64 ((a + n : Nat) : Int) (n : Int) = (a : Int) := by rw [iSub64 (by omega)]; omega
      have e3 : ((a + n : Nat) : Int).toNat = a + n := Int.toNat_natCast _
      have e4 : (((a + n : Nat) : Int) - (a : Int)).toNat = n := by omega
      have e5 : ((a : Nat) : Int).toNat = a := by simp
      refine ⟨(s.drop a).take n, a + n, false, ?_, by omega, by omega, by rw [List.length_take, List.length_drop]; omega, fun _ => ⟨rfl, by rw [List.length_take, List.length_drop]; omega⟩⟩
      simp only [decide_eq_false h, Bool.or_self, cond_false, e1, e2]
      rw [bndK_def, if_pos (by rw [lenN_def]; omega), sub_def, e4, e5]
theorem take_B {s p w q : List UInt8} (hs : s = p ++ (w ++ q)) (hl : s.length ≤ 1048576) : F129 (mk s p.length false, (w.length : Int), ()) = some (w, mk s (p.length + w.length) false, ()) := by
  unfold F129
  have hlen : s.length = p.length + (w.length + q.length) := by rw [hs]; simp
  have es : iSub .i64 (lenI s) (p.length : Int) = ((s.length - p.length : Nat) : Int) := by rw [lenI_def, iSub64 (by omega)]; omega
  have eg : iGt (w.length : Int) ((s.length - p.length : Nat) : Int) = false := by rw [iGt_def, decide_eq_false (by omega)]
  have e1 : iAdd .i64 (p.length : Int) (w.length : Int) = ((p.length + w.length : Nat) : Int) := by rw [iAdd64 (by omega)]; simp
  have e2 : iSub .i64 ((p.length + w.length : Nat) : Int) (w.length : Int) = (p.length : Int) := by rw [iSub64 (by omega)]; omega
  have e4 : (((p.length + w.length : Nat) : Int) - (p.length : Int)).toNat = w.length := by omega
  have e5 : ((p.length : Nat) : Int).toNat = p.length := by simp
  simp only [mk, es, eg, cond_or, bindK_pure, Bool.or_self, cond_false, e1, e2]
  rw [bndK_def, if_pos (by rw [lenN_def]; omega), sub_def, e4, e5, hs, List.drop_left, List.take_left]

/-! ### texts -/
theorem text_A {s : List UInt8} {a : Nat} (b : Bool) (ha : a ≤ s.length) (hl : s.length ≤ 1048576) : ∃ (w : List UInt8) (a' : Nat) (b' : Bool), F140 (mk s a b, ()) = some (w, mk s a' b', ()) ∧ Go1 s a b a' b' ∧ w.length ≤ s.length := by
  have h := rv188 s a ha hl
  have hz : (litS []).length ≤ s.length := by rw [litS_def]; simp
  have hr : ∃ (w : List UInt8) (a' : Nat) (ok : Bool), F189 (s, (a : Int), ()) = some (w, (a' : Int), ok, ()) ∧ w.length ≤ s.length ∧ (ok = true → a < a' ∧ a' ≤ s.length) := by
    unfold F189
    simp only [h, bindK_pure, rvR]
    cases hd : digs 5 (s.drop a) with
    | none => exact ⟨_, 0, false, by simp only [bNot_def, Bool.not_false, cond_true, bindK_pure]; rfl, hz, fun h => by cases h⟩
    | some ds =>
      simp only [bNot_def]
      cases hq : c2 (val ds) ds with
      | false => exact ⟨_, 0, false, by simp only [cond_false, Bool.not_false, cond_true, bindK_pure]; rfl, hz, fun h => by cases h⟩
      | true =>
        have hdl := digs_len _ _ _ hd
        rw [List.length_drop] at hdl
        have hv := c2_le _ _ hq
        have es : iSub .i64 (lenI s) ((a + ds.length : Nat) : Int) = ((s.length - (a + ds.length) : Nat) : Int) := by rw [lenI_def, iSub64 (by omega)]; omega
        have eg : iGt (val ds : Int) ((s.length - (a + ds.length) : Nat) : Int) = decide (s.length - (a + ds.length) < val ds) := by rw [iGt_def]; exact decide_eq_decide.2 (by omega)
        simp only [cond_true, Bool.not_true, cond_false, bindK_pure, es, eg, cond_or]
        by_cases h2 : (iGt (val ds : Int) 20000 || decide (s.length - (a + ds.length) < val ds)) = true
        · exact ⟨_, 0, false, by simp only [h2, cond_true]; rfl, hz, fun h => by cases h⟩
        · have h2 : (iGt (val ds : Int) 20000 || decide (s.length - (a + ds.length) < val ds)) = false := by simpa using h2
          have h3 : ¬ s.length - (a + ds.length) < val ds := by
            rw [Bool.or_eq_false_iff] at h2
            exact of_decide_eq_false h2.2
          have e1 : iAdd .i64 ((a + ds.length : Nat) : Int) (val ds : Int) = ((a + ds.length + val ds : Nat) : Int) := by rw [iAdd64 (by omega)]; simp
          have e4 : (((a + ds.length + val ds : Nat) : Int) - ((a + ds.length : Nat) : Int)).toNat = val ds := by omega
          refine ⟨(s.drop (a + ds.length)).take (val ds), a + ds.length + val ds, true, ?_, by rw [List.length_take, List.length_drop]; omega, fun _ => by omega⟩
          simp only [h2, cond_false, e1]
          rw [bndK_def, if_pos (by rw [lenN_def]; omega), sub_def, e4]
          rfl
  obtain ⟨w, a', ok, e, h1, h2⟩ := hr
  unfold F140
  simp only [mk, e, bindK_pure, cond_or]
  cases b with
  | true => exact ⟨_, a, true, by simp only [Bool.true_or, cond_true], ⟨by omega, ha, fun h => by cases h⟩, hz⟩
  | false =>
    cases ok with
    | false => exact ⟨_, a, true, by simp only [bNot_def, Bool.not_false, Bool.or_true, cond_true], ⟨by omega, ha, fun h => by cases h⟩, hz⟩
    | true =>
      obtain ⟨g1, g2⟩ := h2 rfl
      exact ⟨w, a', false, by simp only [bNot_def, Bool.not_true, Bool.or_self, cond_false], ⟨by omega, g2, fun _ => ⟨rfl, g1⟩⟩, h1⟩
theorem text_B {s p w q : List UInt8} (hs : s = p ++ (shB w ++ q)) (hw : w.length ≤ 20000) (hl : s.length ≤ 1048576) : F140 (mk s p.length false, ()) = some (w, mk s (p.length + (shB w).length) false, ()) := by
  have hlen : s.length = p.length + ((shB w).length + q.length) := by rw [hs]; simp
  have hsh : (shB w).length = (vb (w.length : Int)).length + w.length := by rw [shB, lenI_def, List.length_append]
  have hs2 : s = p ++ (vb (w.length : Int) ++ (w ++ q)) := by rw [hs, shB, lenI_def, List.append_assoc]
  have hdr : s.drop p.length = vb (w.length : Int) ++ (w ++ q) := by rw [hs2, List.drop_left]
  have h := rv188 s p.length (by omega) hl
  unfold F140 F189
  rw [rvR, hdr, digs_vb 4 w.length (w ++ q) (by omega)] at h
  simp only [val_vb 4 w.length (by omega), c2_vb w.length (by omega), cond_true] at h
  have es : iSub .i64 (lenI s) ((p.length + (vb (w.length : Int)).length : Nat) : Int) = ((w.length + q.length : Nat) : Int) := by rw [lenI_def, iSub64 (by omega)]; omega
  have eg : iGt (w.length : Int) ((w.length + q.length : Nat) : Int) = false := by rw [iGt_def, decide_eq_false (by omega)]
  have eg2 : iGt (w.length : Int) 20000 = false := by rw [iGt_def, decide_eq_false (by omega)]
  have e1 : iAdd .i64 ((p.length + (vb (w.length : Int)).length : Nat) : Int) (w.length : Int) = ((p.length + (shB w).length : Nat) : Int) := by rw [iAdd64 (by omega)]; omega
  have e4 : (((p.length + (shB w).length : Nat) : Int) - ((p.length + (vb (w.length : Int)).length : Nat) : Int)).toNat = w.length := by omega
  have e5 : ((p.length + (vb (w.length : Int)).length : Nat) : Int).toNat = p.length + (vb (w.length : Int)).length := Int.toNat_natCast _
  have ed : s.drop (p.length + (vb (w.length : Int)).length) = w ++ q := by
    rw [← List.drop_drop, hdr, List.drop_left]
  have hb : ∀ k : Nat → Nat → Option (List UInt8 × Int × Bool × Unit), bndK (lenN s) ((p.length + (vb (w.length : Int)).length : Nat) : Int) ((p.length + (shB w).length : Nat) : Int) k = k (p.length + (vb (w.length : Int)).length) w.length := by
    intro k
    rw [bndK_def, if_pos (by rw [lenN_def]; omega), e4, e5]
  simp only [mk, h, bindK_pure, bNot_def, Bool.not_true, cond_false, es, eg, eg2, e1, cond_or, Bool.or_self, hb, sub_def, ed, List.take_left]
theorem short_A {s : List UInt8} {a : Nat} (b : Bool) (ha : a ≤ s.length) (hl : s.length ≤ 1048576) : ∃ (w : List UInt8) (a' : Nat) (b' : Bool), F132 (mk s a b, ()) = some (w, mk s a' b', ()) ∧ a ≤ a' ∧ a' ≤ s.length ∧ w.length ≤ s.length := by
  unfold F132
  obtain ⟨v, a1, b1, e1, g1, hv⟩ := num_A c1_le b ha
  rw [num130 b ha hl, e1, bindK_pure]
  obtain ⟨w, a2, b2, e2, h1, h2, h3, _⟩ := take_A (s := s) (a := a1) (n := v) b1 g1.len hl hv
  simp only [e2, bindK_pure]
  exact ⟨w, a2, b2, rfl, Nat.le_trans g1.le h1, h2, h3⟩
theorem short_B {s p w q : List UInt8} (hs : s = p ++ (shB w ++ q)) (hw : w.length ≤ 20000) (hl : s.length ≤ 1048576) : F132 (mk s p.length false, ()) = some (w, mk s (p.length + (shB w).length) false, ()) := by
  have hlen : s.length = p.length + ((shB w).length + q.length) := by rw [hs]; simp
  have hsh : (shB w).length = (vb (w.length : Int)).length + w.length := by rw [shB, lenI_def, List.length_append]
  have hs2 : s = p ++ (vb (w.length : Int) ++ (w ++ q)) := by rw [hs, shB, lenI_def, List.append_assoc]
  unfold F132
  rw [num130 false (by omega) hl, num_B c1_vb hs2 (by omega), bindK_pure]
  have ht := take_B (s := s) (p := p ++ vb (w.length : Int)) (w := w) (q := q) (by rw [hs2, List.append_assoc]) hl
  rw [List.length_append] at ht
  simp only [ht, bindK_pure, hsh, Nat.add_assoc]
end
end Go.Proofs.Ytiamdibpgdkedaa.De
