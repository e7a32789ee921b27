/- The law of Settle. -/
import Derived.Test.YtiamdibpgdkedaaNdc4
namespace Go.Proofs.Ytiamdibpgdkedaa.Nd
open Go Go.Am
set_option linter.unusedVariables false
set_option linter.unusedSimpArgs false

noncomputable section
theorem pre_of (x : TNode) (h : OK x) (hb : logB (nLog x) = true) : PRE x ∧ x.2.2.2.2.2.2.2.2.1.length ≤ 60 := by
  simp only [logB, Bool.and_eq_true] at hb
  have s1 := inB_iff.1 hb.1.1
  have s2 : x.2.2.2.2.2.2.2.2.1.length ≤ 60 := by
    have := hb.2.1.1
    rw [iGt_def, lenI_def] at this
    have : ((nLog x).2.2.1.length : Int) ≤ 60 := by simpa using this
    exact_mod_cast this
  exact ⟨⟨h.c, s1, h.e, h.t⟩, s2⟩
theorem copy94 (x : TNode) (h : OK x) : F94 (x, ()) = some (x, ()) := by
  have h1 := h.c; have h2 := h.e; have h3 := h.v; have h4 := h.p
  unfold F94 F168
  simp only [gApp_pos (xs := ([] : List Int)) (ys := x.2.2.2.2.2.1) (sz := 1) (by simp; omega), gApp_pos (xs := ([] : List TEntry)) (ys := x.2.2.2.2.2.2.2.2.1) (sz := 3) (by simp; omega), gApp_pos (xs := ([] : List Int)) (ys := x.2.2.2.2.2.2.2.2.2.2.2.2.1) (sz := 1) (by simp; omega), gApp_pos (xs := ([] : List TPeer)) (ys := x.2.2.2.2.2.2.2.2.2.2.2.2.2.1) (sz := 4) (by simp; omega), guardK_true, cat_def, List.nil_append, bindK_pure]
theorem copy142 (x : TNode) (h : OK x) : F142 (x, ()) = some (x, ()) := by
  have h1 := h.c; have h2 := h.e; have h3 := h.v; have h4 := h.p
  unfold F142
  simp only [gApp_pos (xs := ([] : List Int)) (ys := x.2.2.2.2.2.1) (sz := 1) (by simp; omega), gApp_pos (xs := ([] : List TEntry)) (ys := x.2.2.2.2.2.2.2.2.1) (sz := 3) (by simp; omega), gApp_pos (xs := ([] : List Int)) (ys := x.2.2.2.2.2.2.2.2.2.2.2.2.1) (sz := 1) (by simp; omega), gApp_pos (xs := ([] : List TPeer)) (ys := x.2.2.2.2.2.2.2.2.2.2.2.2.2.1) (sz := 4) (by simp; omega), guardK_true, cat_def, List.nil_append, bindK_pure]
theorem term_ok (x : TNode) (h : PRE x) (hl : x.2.2.2.2.2.2.2.2.1.length ≤ 60) (a : Int) (ha : x.2.2.2.2.2.2.1 ≤ a ∧ a ≤ x.2.2.2.2.2.2.1 + x.2.2.2.2.2.2.2.2.1.length) : ∃ t : Int, F109 (nLog x, a, ()) = some (t, ()) ∧ F145 (nLog x, a, ()) = some (t, ()) := by
  have h2 := h.2.1
  unfold nLog
  by_cases e : a = x.2.2.2.2.2.2.1
  · refine ⟨x.2.2.2.2.2.2.2.1, ?_, ?_⟩
    · unfold F109
      simp only [iEq_def, e, beq_self_eq_true, cond_true]
    · unfold F145
      simp only [iEq_def, e, beq_self_eq_true, cond_true]
  · obtain ⟨n, hn, hn2⟩ : ∃ n : Nat, a = x.2.2.2.2.2.2.1 + n + 1 ∧ n < x.2.2.2.2.2.2.2.2.1.length := ⟨(a - x.2.2.2.2.2.2.1 - 1).toNat, by omega, by omega⟩
    refine ⟨x.2.2.2.2.2.2.2.2.1[n].1, ?_, ?_⟩
    · have e0 : iEq a x.2.2.2.2.2.2.1 = false := by rw [iEq_def]; simpa using e
      have e1 : iSub .i64 a x.2.2.2.2.2.2.1 = (n : Int) + 1 := by rw [iSub64 (by omega)]; omega
      have e2 : iSub .i64 ((n : Int) + 1) 1 = (n : Int) := by rw [iSub64 (by omega)]; omega
      have e3 : inB ((n : Int) + 1) 1 (lenI x.2.2.2.2.2.2.2.2.1) = true := inB_iff.2 (by rw [lenI_def]; omega)
      have e4 : iGt a x.2.2.2.2.2.2.1 = true := by rw [iGt_def, decide_eq_true (by omega)]
      unfold F109 F176
      simp only [e0, e4, cond_false, cond_true, in87, e1, e2, e3, bindK_pure, idxK_lt hn2]
    · have e0 : iEq a x.2.2.2.2.2.2.1 = false := by rw [iEq_def]; simpa using e
      have e1 : iSub .i64 a x.2.2.2.2.2.2.1 = (n : Int) + 1 := by rw [iSub64 (by omega)]; omega
      have e2 : iSub .i64 ((n : Int) + 1) 1 = (n : Int) := by rw [iSub64 (by omega)]; omega
      have e3 : iLt a x.2.2.2.2.2.2.1 = false := by rw [iLt_def, decide_eq_false (by omega)]
      have e4 : iGt a (iAdd .i64 x.2.2.2.2.2.2.1 (lenI x.2.2.2.2.2.2.2.2.1)) = false := by rw [iGt_def, lenI_def, iAdd64 (by omega), decide_eq_false (by omega)]
      unfold F145 F150
      simp only [e0, e3, e4, cond_false, cond_true, e1, e2, bindK_pure, idxK_lt hn2]
theorem behind_ok (x : TNode) (ho : OK x) (hb : logB (nLog x) = true) (a t : Int) (ha : x.2.2.2.2.2.2.1 ≤ a ∧ a ≤ x.2.2.2.2.2.2.1 + x.2.2.2.2.2.2.2.2.1.length) (e1 : F109 (nLog x, a, ()) = some (t, ())) (e2 : F145 (nLog x, a, ()) = some (t, ())) :
    ∃ l : List TEntry, l.length ≤ 1048576 ∧ (∀ y ∈ l, y.2.2.1.length ≤ 1048576) ∧ F108 (nLog x, a, t, ()) = some ((a, t, l, ()), ()) ∧ F144 (nLog x, a, t, ()) = some ((a, t, l, ()), ()) := by
  obtain ⟨hp, hl⟩ := pre_of x ho hb
  have h2 := hp.2.1
  have l1 := log111 (nLog x) ho.e ho.t
  have l2 := log115 (nLog x) ho.e ho.t
  rw [hb] at l1 l2
  have ea : iAdd .i64 x.2.2.2.2.2.2.1 (lenI x.2.2.2.2.2.2.2.2.1) = x.2.2.2.2.2.2.1 + x.2.2.2.2.2.2.2.2.1.length := by rw [lenI_def, iAdd64 (by omega)]
  have ei : inB a x.2.2.2.2.2.2.1 (x.2.2.2.2.2.2.1 + x.2.2.2.2.2.2.2.2.1.length) = true := inB_iff.2 ha
  have et : iEq t t = true := by rw [iEq_def]; simp
  have es : iSub .i64 a x.2.2.2.2.2.2.1 = a - x.2.2.2.2.2.2.1 := iSub64 (by omega)
  have hsl : (((x.2.2.2.2.2.2.2.2.1.drop (a - x.2.2.2.2.2.2.1).toNat).take (((x.2.2.2.2.2.2.2.2.1.length : Nat) : Int) - (a - x.2.2.2.2.2.2.1)).toNat)).length ≤ 1048576 := by
    rw [List.length_take, List.length_drop]; omega
  refine ⟨(x.2.2.2.2.2.2.2.2.1.drop (a - x.2.2.2.2.2.2.1).toNat).take (((x.2.2.2.2.2.2.2.2.1.length : Nat) : Int) - (a - x.2.2.2.2.2.2.1)).toNat, hsl, fun y hy => ho.t y (List.mem_of_mem_drop (List.mem_of_mem_take hy)), ?_, ?_⟩
  · unfold nLog at l1 e1
    unfold F108 F102 nLog
    simp only [l1, e1, bindK_pure, in87, et, ea, ei, cond_true, joinK_def, es]
    rw [bndK_def, lenN_def, ofN_def, if_pos (by omega), sub_def, guardK_pos (gApp_pos (by simp only [List.length_nil]; omega)), cat_def, List.nil_append]
  · unfold nLog at l2 e2
    unfold F144 F150 nLog
    simp only [l2, e2, bindK_pure, in83, et, ea, ei, cond_true, joinK_def, es]
    rw [bndK_def, lenN_def, ofN_def, if_pos (by omega), sub_def, guardK_pos (gApp_pos (by simp only [List.length_nil]; omega)), cat_def, List.nil_append]
theorem settle_ok (x : TNode) (a : Int) (h : OK x) : ∃ (n : TNode) (b : Bool), OK n ∧ F41 (x, a, ()) = some (n, b, ()) ∧ F61 (x, a, ()) = some (n, b, ()) := by
  have hbad : ∀ b : Bool, F45 (x, ()) = some (b, ()) → F47 (x, ()) = some (b, ()) → (!b || !inB a x.2.2.2.2.2.2.1 x.2.2.2.2.2.2.2.2.2.1) = true → ∃ (n : TNode) (b : Bool), OK n ∧ F41 (x, a, ()) = some (n, b, ()) ∧ F61 (x, a, ()) = some (n, b, ()) := by
    intro b b1 b2 hb
    refine ⟨zeroN, false, ok_zero, ?_, ?_⟩
    · unfold F41
      simp only [b1, bindK_pure, in87, cond_or, bNot_def, hb, cond_true, zeroN]
    · unfold F61
      simp only [b2, bindK_pure, in83, cond_or, bNot_def, hb, cond_true, zeroN]
  rcases node45 x h.c h.e h.t h.v h.p with ⟨_, b1, b2⟩ | ⟨hlog, T, _, b1, b2⟩
  · exact hbad _ b1 b2 rfl
  · cases hq : (!(nodeB x T) || !inB a x.2.2.2.2.2.2.1 x.2.2.2.2.2.2.2.2.2.1) with
    | true => exact hbad _ b1 b2 hq
    | false =>
      have hq' := hq
      simp only [Bool.or_eq_false_iff, Bool.not_eq_false'] at hq'
      have ha := inB_iff.1 hq'.2
      have hn := hq'.1
      simp only [nodeB, Bool.and_eq_true] at hn
      have hc := inB_iff.1 hn.1.2.1.1
      obtain ⟨hp, hl⟩ := pre_of x h hlog
      have ha2 : x.2.2.2.2.2.2.1 ≤ a ∧ a ≤ x.2.2.2.2.2.2.1 + x.2.2.2.2.2.2.2.2.1.length := by omega
      obtain ⟨t, t1, t2⟩ := term_ok x hp hl a ha2
      obtain ⟨l, l1, l2, l3, l4⟩ := behind_ok x h hlog a t ha2 t1 t2
      have c1 := conf44 x a hp.1 hp.2.1 hp.2.2.1 hp.2.2.2
      have c2 := conf143 x a hp.1 hp.2.1 hp.2.2.1 hp.2.2.2
      have cp1 := copy94 x h
      have cp2 := copy142 x h
      refine ⟨(x.1, x.2.1, x.2.2.1, x.2.2.2.1, x.2.2.2.2.1, cfN x a, a, t, l, x.2.2.2.2.2.2.2.2.2), true, ⟨cfN_len x hp a, l1, l2, h.v, h.p⟩, ?_, ?_⟩
      · unfold nLog at t1 l3
        unfold F41
        simp only [b1, bindK_pure, in87, cond_or, bNot_def, hq, cond_false, cp1, c1, t1, l3]
      · unfold nLog at t2 l4
        unfold F61
        simp only [b2, bindK_pure, in83, cond_or, bNot_def, hq, cond_false, cp2, c2, t2, l4]
theorem law11_0 (x : TNode) (a : Int) (h : OK x) : F11 (x, a, ()) = some (true, ()) := by
  obtain ⟨r, hr⟩ := sz46 x (1048576, ()) (by have := h.e; omega)
  obtain ⟨n, b, hn, e1, e2⟩ := settle_ok x a h
  unfold F11
  simp only [hr, bindK_pure]
  cases iLt r.1 0 with
  | true => rfl
  | false =>
    simp only [cond_false, to48 x h, bindK_pure, e1, e2, eq49 n hn, eq49 x h, m1 x h, m2 x h, m3 x h, m4 x h, m1 n hn, m2 n hn, m3 n hn, m4 n hn, held55 n hn, nn (ks n hn).2.2.2.1, nn (ks x h).2.2.2.1, bNe_def, iNe_def, bne_self_eq_false, bNot_def, Bool.not_true]
theorem law11 (x : Kd.dens (insK (datL lawTys11))) (_ : Kd.inRs (insK (datL lawTys11)) x) (hb : Kd.bulks (insK (datL lawTys11)) x ≤ 1048576) : ∃ z, F11 x = some (true, z) :=
  ⟨(), law11_0 x.1 x.2.1 (ok_bulk _ (by
    have e : Kd.bulks (insK (datL lawTys11)) x = Kd.bulk KNode x.1 + (1 + 0) := rfl
    omega))⟩
end
end Go.Proofs.Ytiamdibpgdkedaa.Nd
