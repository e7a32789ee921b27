/- FnAlone: the first number that is drawn is at least 0; the law. -/
import Derived.Test.YtiamdibpgdkedaaAlc1
import Derived.Test.YtiamdibpgdkedaaG10
namespace Go.Proofs.Ytiamdibpgdkedaa.Al
open Go Go.Am
set_option linter.unusedVariables false
set_option linter.unusedSimpArgs false

noncomputable section
theorem w1 {ρ : Type} (c : Bool) (k : Option ρ) : WW.guardK c k = guardK c k := rfl
theorem w2 {α ρ : Type} (o : Option α) (k : α → Option ρ) : WW.bindK o k = bindK o k := rfl
theorem w3 {α ρ : Type} (xs : List α) (i : Int) (k : α → Option ρ) : WW.idxK xs i k = idxK xs i k := rfl
theorem w4 {σ ρ : Type} (k : σ → Option ρ) (b : (σ → Option ρ) → Option ρ) : WW.joinK k b = joinK k b := rfl
theorem w5 {σ ρ : Type} (F : (σ → Option ρ) → σ → Option ρ) (n : Nat) (s : σ) : WW.loopF F n s = loopF F n s := rfl
theorem w6 (k : IntKind) (a b : Int) : WW.iAdd k a b = iAdd k a b := rfl
theorem w7 (k : IntKind) (a b : Int) : WW.iMul k a b = iMul k a b := rfl
theorem w8 (k : IntKind) (a b : Int) : WW.iAnd k a b = iAnd k a b := rfl
theorem w9 (k : IntKind) (a b : Int) : WW.iXor k a b = iXor k a b := rfl
theorem w10 (k : IntKind) (a b : Int) : WW.iShr k a b = iShr k a b := rfl
theorem w11 (a b : Int) : WW.iLt a b = iLt a b := rfl
theorem w12 (a b : Int) : WW.iLe a b = iLe a b := rfl
theorem w13 {α : Type} (a : List α) : WW.lenI a = lenI a := rfl
theorem w14 (a : Int) : WW.gNn a = gNn a := rfl
theorem w15 (a : Int) : WW.gNz a = gNz a := rfl
theorem w16 {α : Type} (xs ys : List α) (z : Nat) : WW.gApp xs ys z = gApp xs ys z := rfl
theorem w17 (a b : Int) : WW.iRem a b = iRem a b := rfl
theorem w18 (k : IntKind) (a : Int) : WW.iConv k a = iConv k a := rfl
theorem w19 {α : Type} (a b : List α) : WW.cat a b = cat a b := rfl
theorem w20 (a b : Int) : WW.iGt a b = iGt a b := rfl
theorem and255 (a : Int) : 0 ≤ iAnd .i64 a 255 ∧ iAnd .i64 a 255 ≤ 255 := by
  rw [iAnd_def]
  have h : (BitVec.ofInt (IntKind.bits .i64) a &&& BitVec.ofInt (IntKind.bits .i64) 255).toNat ≤ 255 := by
    rw [BitVec.toNat_and]
    exact Nat.le_trans Nat.and_le_right (by decide)
  rw [Go.IntWalk.i64_in _ (by omega)]
  omega
theorem joinL {σ ρ : Type} {K : σ → Option ρ} {b : (σ → Option ρ) → Option ρ} {Q : ρ → Prop} (P : σ → Prop) (hK : ∀ s, P s → ∃ r, K s = some r ∧ Q r) (hb : ∀ k, (∀ s, P s → ∃ r, k s = some r ∧ Q r) → ∃ r, b k = some r ∧ Q r) : ∃ r, joinK K b = some r ∧ Q r := by
  rw [joinK_def]; exact hb K hK
def BP {τ : Type} (x : List Int) (t : τ) (s : Int × TX0 × τ) : Prop := ∃ b i h : Int, s = (b, (x, i, h, ()), t) ∧ (0 ≤ b ∧ b ≤ 255) ∧ 0 ≤ i ∧ i ≤ x.length
theorem byteL {ρ τ : Type} {x : List Int} {i h' : Int} {t : τ} {e1 : Int → Int} {e2 : Int} {k : Int × TX0 × τ → Option ρ} {Q : ρ → Prop} (hl : x.length ≤ 1048576) (hi : 0 ≤ i ∧ i ≤ x.length) (hk : ∀ s, BP x t s → ∃ r, k s = some r ∧ Q r) :
    ∃ r, (bif iLt i (lenI x) then idxK x i fun y => k (iAnd .i64 (e1 y) 255, (x, iAdd .i64 i 1, h', ()), t) else k (iAnd .i64 e2 255, (x, i, h', ()), t)) = some r ∧ Q r := by
  obtain ⟨n, rfl⟩ : ∃ n : Nat, i = n := ⟨i.toNat, by omega⟩
  rw [iLt_len]
  by_cases h : n < x.length
  · rw [decide_eq_true h, cond_true, idxK_lt h, iAdd_nat (by omega)]
    exact hk _ ⟨_, _, _, rfl, and255 _, by omega, by omega⟩
  · rw [decide_eq_false h, cond_false]
    exact hk _ ⟨_, _, _, rfl, and255 _, by omega, by omega⟩
theorem f36 (x : List Int) (hl : x.length ≤ 1048576) : ∃ r : List Int × Unit, F36 WW (x, ()) = some r ∧ ∃ v q, r.1 = v :: q ∧ 0 ≤ v := by
  unfold F36
  simp only [w1, w2, w3, w4, w5, w6, w7, w8, w9, w10, w11, w12, w13, w14, w15, w16, w17, w18, w19]
  have g33 : gNn 33 = true := gNn_pos (by decide)
  have g45 : gNn 45 = true := gNn_pos (by decide)
  have gz : gNz 10000 = true := gNz_pos (by decide)
  have l1 : iLe 10000 0 = false := by rw [iLe_def]; rfl
  have l2 : iLe 10000 256 = false := by rw [iLe_def]; rfl
  refine loop_post (σ := Int × Int × Unit) (ρ := List Int × Unit) (fun s => 0 ≤ s.1 ∧ s.1 ≤ 4000) (fun s => 4000 - s.1.toNat) (fun _ r => ∃ v q, r.1 = v :: q ∧ 0 ≤ v) (fun rec s hs hr => ?_) NN _ ⟨by simp, by simp⟩ (NN_len (by simp only; omega))
  simp only [cond_and, bindK_pure]
  by_cases hc : (iLt s.1 (lenI x) && iLt s.1 4000) = true
  · rw [hc, cond_true]
    have h1 : s.1 < x.length ∧ s.1 < 4000 := by simpa [iLt_def, lenI_def] using hc
    obtain ⟨n, hn⟩ : ∃ n : Nat, s.1 = n := ⟨s.1.toNat, by omega⟩
    rw [hn, idxK_lt (by omega : n < x.length), iAdd_nat (by omega)]
    exact hr _ ⟨by simp only; omega, by simp only; omega⟩ (by simp only; omega)
  · have hc : (iLt s.1 (lenI x) && iLt s.1 4000) = false := by simpa using hc
    rw [hc, cond_false]
    simp only [g33, g45, guardK_true, l1, l2, cond_false, gz]
    refine joinL (BP x ()) (fun s4 hs4 => ?_) (fun k hk => byteL hl ⟨by omega, by omega⟩ hk)
    obtain ⟨b, i, h, rfl, hb, hi⟩ := hs4
    refine loop_post (σ := Int × TX0 × List Int × Unit) (ρ := List Int × Unit) (fun s => ∃ (n : Nat) (i h : Int) (out : List Int), s = ((n : Int), (x, i, h, ()), out, ()) ∧ n ≤ 12 ∧ (0 ≤ i ∧ i ≤ x.length) ∧ out.length = n ∧ ∀ v ∈ out, 0 ≤ v) (fun s => 12 - s.1.toNat) (fun _ r => ∃ v q, r.1 = v :: q ∧ 0 ≤ v) (fun rec s hs hr => ?_) NN _ ⟨0, i, h, [], rfl, by omega, hi, rfl, by simp⟩ (NN_len (by simp only; omega))
    obtain ⟨n, i, h, out, rfl, hn, hi, ho, hv⟩ := hs
    by_cases hc : n < 12
    · have e : iLt (n : Int) 12 = true := by rw [iLt_def, decide_eq_true (by omega)]
      simp only [e, cond_true]
      refine joinL (BP x (out, ())) (fun s1 h1 => ?_) (fun k hk => byteL hl hi hk)
      obtain ⟨b1, i1, h1, rfl, hb1, hi1⟩ := h1
      refine joinL (BP x (out, ())) (fun s2 h2 => ?_) (fun k hk => byteL hl hi1 hk)
      obtain ⟨b2, i2, h2, rfl, hb2, hi2⟩ := h2
      refine joinL (BP x (out, ())) (fun s3 h3 => ?_) (fun k hk => byteL hl hi2 hk)
      obtain ⟨b3, i3, h3, rfl, hb3, hi3⟩ := h3
      refine joinL (BP x (out, ())) (fun s4 h4 => ?_) (fun k hk => byteL hl hi3 hk)
      obtain ⟨b4, i4, h4, rfl, hb4, hi4⟩ := h4
      have m1 : iMul .i64 b1 16777216 = b1 * 16777216 := iMul64 (by omega)
      have m2 : iMul .i64 b2 65536 = b2 * 65536 := iMul64 (by omega)
      have m3 : iMul .i64 b3 256 = b3 * 256 := iMul64 (by omega)
      simp only [m1, m2, m3]
      rw [iAdd64 (a := b1 * 16777216) (by omega), iAdd64 (b := b3 * 256) (by omega), iAdd64 (b := b4) (by omega), guardK_pos (gApp_pos (by simp only [List.length_cons, List.length_nil]; omega)), iAdd_nat (by omega), cat_def]
      have hr0 : 0 ≤ iRem (b1 * 16777216 + b2 * 65536 + b3 * 256 + b4) 10000 := by
        rw [iRem_def, Int.tmod_eq_emod_of_nonneg (by omega)]; omega
      refine hr _ ⟨n + 1, i4, h4, out ++ [_], rfl, by omega, hi4, by simp; omega, fun v hm => ?_⟩ (by simp only [Int.toNat_natCast]; omega)
      rcases List.mem_append.1 hm with hm | hm
      · exact hv v hm
      · rw [List.mem_singleton.1 hm]; exact hr0
    · have e : iLt (n : Int) 12 = false := by rw [iLt_def, decide_eq_false (by omega)]
      simp only [e, cond_false]
      refine ⟨_, rfl, ?_⟩
      cases out with
      | nil => simp at ho; omega
      | cons v q => exact ⟨v, q, rfl, hv v (by simp)⟩
theorem F7_eq (W : Words) (x : List Int × Unit) : F7 W x = W.bindK (F35 W x) fun y0 => bif y0.1 then some (true, ()) else W.bindK (F36 W x) fun y1 => W.idxK y1.1 0 fun y2 => R7 W (W.iRem y2 4) := by kernel_rfl
theorem law0 (x : List Int) (hl : x.length ≤ 1048576) : F7 WW (x, ()) = some (true, ()) := by
  obtain ⟨⟨l, u⟩, h, v, q, hq, hv⟩ := f36 x hl
  have hq : l = v :: q := hq
  subst hq
  have e35 : ∃ b, F35 WW (x, ()) = some (b, ()) := ⟨_, rfl⟩
  obtain ⟨b, e35⟩ := e35
  have e : F7 WW (x, ()) = bif b then some (true, ()) else R7 WW (iRem v 4) := by
    rw [F7_eq, e35, h, w2, w2, bindK_pure, bindK_pure, w3]
    cases b with
    | true => rfl
    | false => exact idxK_lt (n := 0) (xs := v :: q) (by simp)
  rw [e]
  cases b with
  | true => rfl
  | false =>
    rw [cond_false, WW_eq]
    have h4 : iRem v 4 = v % 4 := by rw [iRem_def, Int.tmod_eq_emod_of_nonneg hv]
    rw [h4]
    have : v % 4 = 0 ∨ v % 4 = 1 ∨ v % 4 = 2 ∨ v % 4 = 3 := by omega
    rcases this with h | h | h | h <;> rw [h]
    · exact run0
    · exact run1
    · exact run2
    · exact run3
theorem law (x : Kd.dens (insK (datL lawTys))) (_ : Kd.inRs (insK (datL lawTys)) x) (hb : Kd.bulks (insK (datL lawTys)) x ≤ 1048576) : ∃ z, (F7 WW) x = some (true, z) :=
  ⟨(), law0 x.1 (by
    have e : Kd.bulks (insK (datL lawTys)) x = ((List.map (Kd.bulk (.int .u8)) x.1).sum + 1) + 0 := rfl
    have h1 : ∀ l : List Int, (List.map (Kd.bulk (.int .u8)) l).sum = l.length := by
      intro l
      induction l with
      | nil => rfl
      | cons a r ih =>
        show Kd.bulk (.int .u8) a + (List.map (Kd.bulk (.int .u8)) r).sum = r.length + 1
        have : Kd.bulk (.int .u8) a = 1 := rfl
        rw [ih]; omega
    have h2 : (List.map (Kd.bulk (.int .u8)) x.1).sum = List.length (α := Int) x.1 := h1 x.1
    have : List.length (α := Int) x.1 ≤ 1048576 := by omega
    exact this)⟩
end
end Go.Proofs.Ytiamdibpgdkedaa.Al
