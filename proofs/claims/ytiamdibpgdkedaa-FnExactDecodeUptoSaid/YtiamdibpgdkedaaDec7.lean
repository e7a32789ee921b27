/- The law of Decode. -/
import Derived.Test.YtiamdibpgdkedaaDec6
import Derived.Test.YtiamdibpgdkedaaG10
namespace Go.Proofs.Ytiamdibpgdkedaa.De
open Go Go.Am
set_option linter.unusedVariables false
set_option linter.unusedSimpArgs false

noncomputable section
theorem text78 {k : Int} (h0 : 0 ≤ k) (h1 : k ≤ 9223372036854775807) : ∃ r, F78 (k, ()) = some (r, ()) := by
  unfold F78
  cases iLe k 0 with
  | true => exact ⟨_, rfl⟩
  | false =>
    refine text_ok (fun rec n s hn hb hs => ?_) h0 h1
    refine ⟨UInt8.ofNat (iConv .u8 (iAdd .i64 48 (iRem n 10))).toNat, ?_⟩
    have e1 : strP [iConv .u8 (iAdd .i64 48 (iRem n 10))] = [UInt8.ofNat (iConv .u8 (iAdd .i64 48 (iRem n 10))).toNat] := by rw [strP_def]; rfl
    simp only [e1, gNz_pos (show (10 : Int) ≠ 0 by omega), guardK_true, cat_def, iGt_def]
    by_cases hp : n > 0
    · rw [decide_eq_true hp, cond_true, cond_true, guardK_pos (gCat_pos (by simp; omega)), iQuo64 hn hb (by omega)]; rfl
    · rw [decide_eq_false hp, cond_false, cond_false, guardK_pos (gCat_pos (by rw [litS_def]; simp; omega))]
def mt (k : Int) : List UInt8 := ((F78 (k, ())).getD ([], ())).1
theorem mt78 {k : Int} (h0 : 0 ≤ k) (h1 : k ≤ 9223372036854775807) : F78 (k, ()) = some (mt k, ()) := by
  obtain ⟨r, h⟩ := text78 h0 h1
  rw [mt, h]; rfl
def mkI (k : Int) (_ : Int) : Int := k
theorem mark53 (xs : List Int) {c : Int} (hc : 0 ≤ c) (hc2 : c ≤ 1000000000) (hl : xs.length ≤ 1048576) : F53 (xs, c, ()) = some (c + ((1 : Nat) : Int) * (xs.length : Int), mkAll mkI 1 c xs, ()) := by
  unfold F53
  refine mark_ok (xs := xs) (k0 := c) mkI 1 hc (fun rec k ys hy => ?_) (fun rec n k ys hy h h0 h1 => ?_) (by omega)
  · simp only [lenI_def, hy, iLt_nat, Nat.lt_irrefl, decide_false, cond_false]
  · have hk : k ≤ 2000000000 := by omega
    simp only [iLt_len, h, decide_true, cond_true, toN_nat]
    rw [idxK_lt h]
    simp (disch := omega) only [iAdd64, setL_setL, idxK_setL, mt78, bindK_pure, iAdd_nat]
    simp only [setL_def, mkI]
    congr 2
theorem held126 (xs : List Int) {c : Int} (hc : 0 ≤ c) (hc2 : c ≤ 1000000000) (hl : xs.length ≤ 1048576) : F126 (mkAll mkI 1 c xs, c, ()) = some (c + ((1 : Nat) : Int) * (xs.length : Int), ()) := by
  unfold F126
  refine held_ok (xs := xs) (k0 := c) mkI 1 hc (fun rec k => ?_) (fun rec n k h y hy h0 h1 => ?_) (by omega)
  · simp only [lenI_def, iLt_nat, Nat.lt_irrefl, decide_false, cond_false]
  · have hk : k ≤ 2000000000 := by omega
    have hl2 : (mkAll mkI 1 c xs).length = xs.length := mkAll_length
    simp only [iLt_len, h, decide_true, cond_true]
    simp only [idxK_lt h, hy, mkI]
    simp (disch := omega) only [iAdd64, mt78, bindK_pure, iAdd_nat]
    simp only [iNe_def, bne_self_eq_false, cond_false, strEq_def, beq_self_eq_true, bNot_def, Bool.not_true]
    congr 2
def mkE (k : Int) (_ : TEntry) : TEntry := (k, k + 1, mt (k + 1 + 1), ())
theorem mark26 (xs : List TEntry) {c : Int} (hc : 0 ≤ c) (hc2 : c ≤ 1000000000) (hl : xs.length ≤ 1048576) : F26 (xs, c, ()) = some (c + ((3 : Nat) : Int) * (xs.length : Int), mkAll mkE 3 c xs, ()) := by
  unfold F26
  refine mark_ok (xs := xs) (k0 := c) mkE 3 hc (fun rec k ys hy => ?_) (fun rec n k ys hy h h0 h1 => ?_) (by omega)
  · simp only [lenI_def, hy, iLt_nat, Nat.lt_irrefl, decide_false, cond_false]
  · have hk : k ≤ 2000000000 := by omega
    simp only [iLt_len, h, decide_true, cond_true, toN_nat]
    rw [idxK_lt h]
    simp (disch := omega) only [iAdd64, setL_setL, idxK_setL, mt78, bindK_pure, iAdd_nat]
    simp only [setL_def, mkE]
    congr 2
    simp; omega
theorem held27 (xs : List TEntry) {c : Int} (hc : 0 ≤ c) (hc2 : c ≤ 1000000000) (hl : xs.length ≤ 1048576) : F27 (mkAll mkE 3 c xs, c, ()) = some (c + ((3 : Nat) : Int) * (xs.length : Int), ()) := by
  unfold F27
  refine held_ok (xs := xs) (k0 := c) mkE 3 hc (fun rec k => ?_) (fun rec n k h y hy h0 h1 => ?_) (by omega)
  · simp only [lenI_def, iLt_nat, Nat.lt_irrefl, decide_false, cond_false]
  · have hk : k ≤ 2000000000 := by omega
    have hl2 : (mkAll mkE 3 c xs).length = xs.length := mkAll_length
    simp only [iLt_len, h, decide_true, cond_true]
    simp only [idxK_lt h, hy, mkE]
    simp (disch := omega) only [iAdd64, mt78, bindK_pure, iAdd_nat]
    simp only [iNe_def, bne_self_eq_false, cond_false, strEq_def, beq_self_eq_true, bNot_def, Bool.not_true]
    congr 2
    simp; omega
/-- A message is as itself. -/
theorem eq76 (y : TEntry) : F76 (y, y, ()) = some (true, ()) := by
  unfold F76
  simp [iNe_def, strEq_def, bNot_def]
theorem eq58 (m : TMessage) (hl : m.2.2.2.2.2.2.2.2.1.length ≤ 1048576) (hl2 : m.2.2.2.2.2.2.2.2.2.1.length ≤ 1048576) : F58 (m, m, ()) = some (true, ()) := by
  unfold F58
  have h1 : F23 (m.2.2.2.2.2.2.2.2.1, m.2.2.2.2.2.2.2.2.1, ()) = some (true, ()) := eqS_refl (xs := m.2.2.2.2.2.2.2.2.1) (fun y _ => eq76 y) (by omega)
  have h2 : F52 (m.2.2.2.2.2.2.2.2.2.1, m.2.2.2.2.2.2.2.2.2.1, ()) = some (true, ()) := eqP_refl (xs := m.2.2.2.2.2.2.2.2.2.1) (ne := iNe) (fun y => by simp [iNe_def]) (by omega)
  simp only [h1, h2, bindK_pure]
  simp [iNe_def, strEq_def, bNot_def, bNe_def]
theorem nn {k : Int} (h : 0 ≤ k) : iLt k 0 = false := by rw [iLt_def, decide_eq_false (by omega)]
theorem law0 (s : List UInt8) (hl : s.length ≤ 1048576) : F10 (s, ()) = some (true, ()) := by
  obtain ⟨m, b, h1, h2, hm⟩ := both s hl
  have hs : m.2.2.2.2.2.2.2.2.1.length ≤ 4 ∧ m.2.2.2.2.2.2.2.2.2.1.length ≤ 4 := by
    rcases hm with ⟨hm, _⟩ | rfl
    · exact ⟨(msgOk hm).n, (msgOk hm).fl⟩
    · exact ⟨by simp [zeroM], by simp [zeroM]⟩
  have he := eq58 m (by omega) (by omega)
  have m1 := mark26 m.2.2.2.2.2.2.2.2.1 (c := 1) (by omega) (by omega) (by omega)
  have k1 : 0 ≤ 1 + ((3 : Nat) : Int) * (m.2.2.2.2.2.2.2.2.1.length : Int) ∧ 1 + ((3 : Nat) : Int) * (m.2.2.2.2.2.2.2.2.1.length : Int) ≤ 1000000000 := by omega
  have d1 := held27 m.2.2.2.2.2.2.2.2.1 (c := 1) (by omega) (by omega) (by omega)
  generalize 1 + ((3 : Nat) : Int) * (m.2.2.2.2.2.2.2.2.1.length : Int) = q1 at m1 k1 d1
  have m2 := mark53 m.2.2.2.2.2.2.2.2.2.1 (c := q1) k1.1 k1.2 (by omega)
  have d2 := held126 m.2.2.2.2.2.2.2.2.2.1 (c := q1) k1.1 k1.2 (by omega)
  have k2 : 0 ≤ q1 + ((1 : Nat) : Int) * (m.2.2.2.2.2.2.2.2.2.1.length : Int) := by omega
  generalize q1 + ((1 : Nat) : Int) * (m.2.2.2.2.2.2.2.2.2.1.length : Int) = q2 at m2 k2 d2
  have hg : iGt (lenI s) 1048576 = false := by rw [iGt_def, lenI_def, decide_eq_false (by omega)]
  unfold F10
  simp only [hg, cond_false, h1, h2, bindK_pure, he, m1, m2, bNot_def, Bool.not_true, bNe_def, bne_self_eq_false]
  have hh : F60 ((m.1, m.2.1, m.2.2.1, m.2.2.2.1, m.2.2.2.2.1, m.2.2.2.2.2.1, m.2.2.2.2.2.2.1, m.2.2.2.2.2.2.2.1, mkAll mkE 3 1 m.2.2.2.2.2.2.2.2.1, mkAll mkI 1 q1 m.2.2.2.2.2.2.2.2.2.1, m.2.2.2.2.2.2.2.2.2.2), 1, ()) = some (q2, ()) := by
    unfold F60
    simp only [d1, d2, bindK_pure, nn k1.1, nn k2, cond_false]
  simp only [hh, bindK_pure, nn k2, cond_false, iNe_def, bne_self_eq_false]
theorem law (x : Kd.dens (insK (datL lawTys))) (_ : Kd.inRs (insK (datL lawTys)) x) (hb : Kd.bulks (insK (datL lawTys)) x ≤ 1048576) : ∃ z, F10 x = some (true, z) :=
  ⟨(), law0 x.1 (by
    have e : Kd.bulks (insK (datL lawTys)) x = (x.1.length + 1) + 0 := rfl
    have : x.1.length ≤ 1048576 := by omega
    exact this)⟩
end
end Go.Proofs.Ytiamdibpgdkedaa.De
