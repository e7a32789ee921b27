/- How numbers and texts are read. -/
import Derived.Test.YtiamdibpgdkedaaDec1
namespace Go.Proofs.Ytiamdibpgdkedaa.De
open Go Go.Am
set_option linter.unusedVariables false
set_option linter.unusedSimpArgs false

noncomputable section
/-! ### figures -/
def digs : Nat → List UInt8 → Option (List UInt8)
  | 0, _ => none
  | _ + 1, [] => none
  | k + 1, b :: r => if b.toNat < 128 then some [b] else (digs k r).map (b :: ·)
def val : List UInt8 → Nat
  | [] => 0
  | b :: r => b.toNat % 128 + 128 * val r
theorem val_app : ∀ (a b : List UInt8), val (a ++ b) = val a + 128 ^ a.length * val b
  | [], b => by simp [val]
  | x :: r, b => by
    have := val_app r b
    simp only [List.cons_append, val, this, List.length_cons, Nat.pow_succ]
    have e : 128 ^ r.length * 128 * val b = 128 * (128 ^ r.length * val b) := by
      rw [Nat.mul_comm (128 ^ r.length) 128, Nat.mul_assoc]
    omega
theorem val_one (p : List UInt8) (b : UInt8) : val (p ++ [b]) = val p + 128 ^ p.length * (b.toNat % 128) := by
  rw [val_app]; simp [val]
theorem val_lt : ∀ (a : List UInt8), val a < 128 ^ a.length
  | [] => by simp [val]
  | x :: r => by
    have := val_lt r
    simp only [val, List.length_cons, Nat.pow_succ]
    omega
theorem digs_len : ∀ (k : Nat) (t ds : List UInt8), digs k t = some ds → 1 ≤ ds.length ∧ ds.length ≤ t.length ∧ ds.length ≤ k
  | 0, t, ds, h => by simp [digs] at h
  | k + 1, [], ds, h => by simp [digs] at h
  | k + 1, b :: r, ds, h => by
    rw [digs] at h
    split at h
    · cases h; simp
    · cases hd : digs k r with
      | none => rw [hd] at h; simp at h
      | some q =>
        rw [hd] at h
        simp at h
        subst h
        have := digs_len k r q hd
        simp only [List.length_cons]; omega
theorem byteI_nat (b : UInt8) : byteI b = (b.toNat : Int) := byteI_def b
theorem conv_byte (b : UInt8) : iConv .i64 (byteI b) = (b.toNat : Int) := by
  rw [iConv64 (by have := byteI_range b; omega), byteI_def]
theorem conv_nat (b : UInt8) : iConv .i64 (b.toNat : Int) = (b.toNat : Int) := by
  have := conv_byte b
  rwa [byteI_nat] at this
theorem lt128 (b : UInt8) : iLt (b.toNat : Int) 128 = decide (b.toNat < 128) := by
  rw [iLt_def]
  have : ((b.toNat : Int) < 128) ↔ b.toNat < 128 := by omega
  exact decide_eq_decide.2 this
theorem rem128 (b : UInt8) : iRem (b.toNat : Int) 128 = ((b.toNat % 128 : Nat) : Int) := by
  rw [iRem_def, Int.tmod_eq_emod_of_nonneg (by omega)]; simp
def c1 (n : Nat) (ds : List UInt8) : Bool := decide (n ≤ 1000000000) && strEq (vb n) ds
def c2 (n : Nat) (ds : List UInt8) : Bool := decide (n ≤ 1000000000) && decide ((vb n).length = ds.length)
def rvR (c : Nat → List UInt8 → Bool) (t : List UInt8) (a : Nat) : Int × Int × Bool × Unit :=
  match digs 5 t with
  | none => (0, 0, false, ())
  | some ds => bif c (val ds) ds then ((val ds : Int), ((a + ds.length : Nat) : Int), true, ()) else (0, 0, false, ())
theorem take_one {s : List UInt8} {a j : Nat} (h : a + j < s.length) : (s.drop a).take (j + 1) = (s.drop a).take j ++ [s[a + j]] := by
  rw [List.take_succ_eq_append_getElem (by rw [List.length_drop]; omega), List.getElem_drop]
theorem val_step {s : List UInt8} {a j : Nat} (h : a + j < s.length) : val ((s.drop a).take (j + 1)) = val ((s.drop a).take j) + 128 ^ j * (s[a + j].toNat % 128) := by
  have hl : ((s.drop a).take j).length = j := by rw [List.length_take, List.length_drop]; omega
  rw [take_one h, val_one, hl]
theorem pow_le {j : Nat} (h : j ≤ 5) : 128 ^ j ≤ 34359738368 := by
  have : (128 : Nat) ^ j ≤ 128 ^ 5 := Nat.pow_le_pow_right (by omega) h
  omega
theorem val_bnd {s : List UInt8} {a j : Nat} (h : j ≤ 5) : val ((s.drop a).take j) ≤ 34359738368 := by
  have := val_lt ((s.drop a).take j)
  have h2 : ((s.drop a).take j).length ≤ j := by rw [List.length_take]; omega
  have h3 : (128 : Nat) ^ ((s.drop a).take j).length ≤ 128 ^ 5 := Nat.pow_le_pow_right (by omega) (by omega)
  omega
theorem digs_step {s : List UInt8} {a j : Nat} (h : a + j < s.length) (hj : j < 5) (hd : digs 5 (s.drop a) = (digs (5 - j) (s.drop (a + j))).map ((s.drop a).take j ++ ·)) :
    (s[a + j].toNat < 128 → digs 5 (s.drop a) = some ((s.drop a).take (j + 1))) ∧ (¬ s[a + j].toNat < 128 → digs 5 (s.drop a) = (digs (5 - (j + 1)) (s.drop (a + (j + 1)))).map ((s.drop a).take (j + 1) ++ ·)) := by
  have e : 5 - j = (5 - (j + 1)) + 1 := by omega
  rw [List.drop_eq_getElem_cons h, e, digs] at hd
  constructor
  · intro hb
    rw [if_pos hb] at hd
    rw [hd, take_one h]; rfl
  · intro hb
    rw [if_neg hb] at hd
    rw [hd, take_one h, Option.map_map]
    congr 1
    funext q
    simp
theorem digs_stop {s : List UInt8} {a j : Nat} (h : ¬ (a + j < s.length ∧ j < 5)) (hj : a + j ≤ s.length) (hj5 : j ≤ 5) (hd : digs 5 (s.drop a) = (digs (5 - j) (s.drop (a + j))).map ((s.drop a).take j ++ ·)) : digs 5 (s.drop a) = none := by
  rw [hd]
  by_cases h5 : j = 5
  · subst h5; rfl
  · have : a + j = s.length := by omega
    have hn : s.drop (a + j) = [] := List.drop_of_length_le (by omega)
    have e : 5 - j = (5 - (j + 1)) + 1 := by omega
    rw [hn, e]; rfl
theorem nz128 : gNz 128 = true := gNz_pos (by decide)

theorem rv182 (s : List UInt8) (a : Nat) (ha : a ≤ s.length) (hl : s.length ≤ 1048576) : F182 (s, (a : Int), ()) = some (rvR c1 (s.drop a) a) := by
  unfold F182
  have h0 : inB (a : Int) 0 (lenI s) = true := inB_true (by rw [lenI_def]; omega)
  simp only [in58, h0, bindK_pure, bNot_def, Bool.not_true, cond_false]
  refine loop_eq (σ := Int × Int × Int × Unit) (fun st => ∃ j : Nat, j ≤ 5 ∧ a + j ≤ s.length ∧ st = ((val ((s.drop a).take j) : Int), ((128 ^ j : Nat) : Int), ((a + j : Nat) : Int), ()) ∧ digs 5 (s.drop a) = (digs (5 - j) (s.drop (a + j))).map ((s.drop a).take j ++ ·)) (fun st => s.length - st.2.2.1.toNat) (fun _ => some (rvR c1 (s.drop a) a)) (fun rec st hs hr => ?_) NN (0, 1, (a : Int), ()) ⟨0, by omega, by omega, by simp [val], by simp⟩ (NN_len (by simp only; omega))
  obtain ⟨j, hj5, hj, rfl, hd⟩ := hs
  have e5 : iAdd .i64 (a : Int) 5 = ((a + 5 : Nat) : Int) := by rw [iAdd64 (by omega)]; simp
  simp only [iLt_len, cond_and, bindK_pure, e5, iLt_nat]
  by_cases hc : a + j < s.length ∧ j < 5
  · have hb : (decide (a + j < s.length) && decide (a + j < a + 5)) = true := by simp; omega
    rw [hb, cond_true]
    simp only [idxK_lt hc.1, nz128, guardK_true, conv_nat, rem128, byteI_nat, lt128]
    obtain ⟨d1, d2⟩ := digs_step hc.1 hc.2 hd
    have hv := val_step hc.1
    have hp : 128 ^ j ≤ 34359738368 := pow_le hj5
    have hv2 : val ((s.drop a).take (j + 1)) ≤ 34359738368 := val_bnd (by omega)
    have hm : s[a + j].toNat % 128 < 128 := Nat.mod_lt _ (by omega)
    have hpm : 128 ^ j * (s[a + j].toNat % 128) ≤ 34359738368 := by omega
    have em : iMul .i64 ((s[a + j].toNat % 128 : Nat) : Int) ((128 ^ j : Nat) : Int) = ((128 ^ j * (s[a + j].toNat % 128) : Nat) : Int) := by
      have e : ((s[a + j].toNat % 128 : Nat) : Int) * ((128 ^ j : Nat) : Int) = ((128 ^ j * (s[a + j].toNat % 128) : Nat) : Int) := by
        rw [Nat.mul_comm, Int.natCast_mul]
      rw [iMul64 (by rw [e]; omega), e]
    have ea : iAdd .i64 (val ((s.drop a).take j) : Int) ((128 ^ j * (s[a + j].toNat % 128) : Nat) : Int) = (val ((s.drop a).take (j + 1)) : Int) := by
      rw [iAdd64 (by omega), hv]; omega
    simp only [em, ea]
    have ei : iAdd .i64 ((a + j : Nat) : Int) 1 = ((a + (j + 1) : Nat) : Int) := by rw [iAdd_nat (by omega)]; rfl
    rw [ei]
    by_cases hb : s[a + j].toNat < 128
    · rw [decide_eq_true hb, cond_true, rvR, d1 hb]
      have hlen : ((s.drop a).take (j + 1)).length = j + 1 := by rw [List.length_take, List.length_drop]; omega
      simp only [c1, hlen]
      by_cases hn : val ((s.drop a).take (j + 1)) ≤ 1000000000
      · have hg : iGt (val ((s.drop a).take (j + 1)) : Int) 1000000000 = false := by rw [iGt_def, decide_eq_false (by omega)]
        rw [hg, cond_false, var76 (by omega) (by omega), bindK_pure, bndK_def, if_pos (by rw [lenN_def]; omega)]
        have es : sub s ((a : Int).toNat) (((a + (j + 1) : Nat) : Int) - (a : Int)).toNat = (s.drop a).take (j + 1) := by
          rw [sub_def]
          have e1 : (a : Int).toNat = a := by simp
          have e2 : (((a + (j + 1) : Nat) : Int) - (a : Int)).toNat = j + 1 := by omega
          rw [e1, e2]
        rw [es, bindK_pure, decide_eq_true hn, Bool.true_and]
        cases strEq (vb _) _ <;> rfl
      · have hg : iGt (val ((s.drop a).take (j + 1)) : Int) 1000000000 = true := by rw [iGt_def, decide_eq_true (by omega)]
        rw [hg, cond_true, bindK_pure, cond_true, decide_eq_false hn]; rfl
    · rw [decide_eq_false hb, cond_false]
      have e128 : iMul .i64 ((128 ^ j : Nat) : Int) 128 = ((128 ^ (j + 1) : Nat) : Int) := by
        rw [Nat.pow_succ]
        have hp0 : 128 ^ j ≤ 34359738368 := pow_le hj5
        generalize 128 ^ j = P at hp0 ⊢
        rw [iMul64 (by omega)]; omega
      rw [e128]
      refine hr _ ⟨j + 1, by omega, by omega, rfl, d2 hb⟩ ?_
      simp only [Int.toNat_natCast]; omega
  · have hb : (decide (a + j < s.length) && decide (a + j < a + 5)) = false := by
      simp only [Bool.and_eq_false_iff, decide_eq_false_iff_not]; omega
    rw [hb, cond_false, rvR, digs_stop hc hj hj5 hd]
theorem rv188 (s : List UInt8) (a : Nat) (ha : a ≤ s.length) (hl : s.length ≤ 1048576) : F188 (s, (a : Int), ()) = some (rvR c2 (s.drop a) a) := by
  unfold F188
  have h0 : inB (a : Int) 0 (lenI s) = true := inB_true (by rw [lenI_def]; omega)
  simp only [in62, h0, bindK_pure, bNot_def, Bool.not_true, cond_false]
  refine loop_eq (σ := Int × Int × Unit) (fun st => ∃ j : Nat, j ≤ 5 ∧ a + j ≤ s.length ∧ st = ((val ((s.drop a).take j) : Int), (j : Int), ()) ∧ digs 5 (s.drop a) = (digs (5 - j) (s.drop (a + j))).map ((s.drop a).take j ++ ·)) (fun st => 5 - st.2.1.toNat) (fun _ => some (rvR c2 (s.drop a) a)) (fun rec st hs hr => ?_) NN (0, 0, ()) ⟨0, by omega, by omega, by simp [val], by simp⟩ (NN_len (by simp only; omega))
  obtain ⟨j, hj5, hj, rfl, hd⟩ := hs
  have e5 : iAdd .i64 (a : Int) (j : Int) = ((a + j : Nat) : Int) := by rw [iAdd64 (by omega)]; simp
  have ej : iLt (j : Int) 5 = decide (j < 5) := iLt_nat j 5
  simp only [cond_and, bindK_pure, e5, iLt_len, ej]
  by_cases hc : a + j < s.length ∧ j < 5
  · have hb : (decide (j < 5) && decide (a + j < s.length)) = true := by simp; omega
    rw [hb, cond_true]
    have e7 : iMul .i64 7 (j : Int) = ((7 * j : Nat) : Int) := by rw [iMul64 (by omega)]; simp
    simp only [idxK_lt hc.1, nz128, guardK_true, conv_nat, rem128, byteI_nat, lt128, e7, gNn_pos (show (0 : Int) ≤ ((7 * j : Nat) : Int) by omega)]
    obtain ⟨d1, d2⟩ := digs_step hc.1 hc.2 hd
    have hv := val_step hc.1
    have hp : 128 ^ j ≤ 34359738368 := pow_le hj5
    have hv2 : val ((s.drop a).take (j + 1)) ≤ 34359738368 := val_bnd (by omega)
    have hm : s[a + j].toNat % 128 < 128 := Nat.mod_lt _ (by omega)
    have em : iShl .i64 ((s[a + j].toNat % 128 : Nat) : Int) ((7 * j : Nat) : Int) = ((128 ^ j * (s[a + j].toNat % 128) : Nat) : Int) := by
      rw [iShl_def]
      have e1 : min ((7 * j : Nat) : Int).toNat (IntKind.bits .i64) = 7 * j := by
        have : IntKind.bits .i64 = 64 := rfl
        rw [this]; omega
      have e2 : (2 : Int) ^ (7 * j) = ((128 ^ j : Nat) : Int) := by
        rw [Int.pow_mul]; simp
      have e : ((s[a + j].toNat % 128 : Nat) : Int) * ((128 ^ j : Nat) : Int) = ((128 ^ j * (s[a + j].toNat % 128) : Nat) : Int) := by
        rw [Nat.mul_comm, Int.natCast_mul]
      rw [e1, e2, e, Go.IntWalk.i64_in _ (by omega)]
    have ea : iAdd .i64 (val ((s.drop a).take j) : Int) ((128 ^ j * (s[a + j].toNat % 128) : Nat) : Int) = (val ((s.drop a).take (j + 1)) : Int) := by
      rw [iAdd64 (by omega), hv]; omega
    simp only [em, ea]
    have ei : iAdd .i64 (j : Int) 1 = ((j + 1 : Nat) : Int) := by rw [iAdd_nat (by omega)]
    have ei2 : iAdd .i64 ((a + j : Nat) : Int) 1 = ((a + (j + 1) : Nat) : Int) := by rw [iAdd_nat (by omega)]; rfl
    rw [ei, ei2]
    by_cases hb : s[a + j].toNat < 128
    · rw [decide_eq_true hb, cond_true, rvR, d1 hb]
      have hlen : ((s.drop a).take (j + 1)).length = j + 1 := by rw [List.length_take, List.length_drop]; omega
      simp only [c2, hlen]
      by_cases hn : val ((s.drop a).take (j + 1)) ≤ 1000000000
      · rw [var82 (by omega) (by omega), bindK_pure]
        simp only [Bool.not_true, cond_false, bindK_pure, decide_eq_true hn, Bool.true_and]
        by_cases hq : (vb (val ((s.drop a).take (j + 1)) : Int)).length = j + 1
        · have : iNe (lenI (vb (val ((s.drop a).take (j + 1)) : Int))) ((j + 1 : Nat) : Int) = false := by
            rw [iNe_def, lenI_def, hq]; simp
          rw [this, decide_eq_true hq]; rfl
        · have : iNe (lenI (vb (val ((s.drop a).take (j + 1)) : Int))) ((j + 1 : Nat) : Int) = true := by
            rw [iNe_def, lenI_def]; simp; omega
          rw [this, decide_eq_false hq]; rfl
      · have h192 : F192 ((val ((s.drop a).take (j + 1)) : Int), ()) = some (litS [], false, ()) := by
          unfold F192
          have : inB (val ((s.drop a).take (j + 1)) : Int) 0 1000000000 = false := by
            cases hi : inB (val ((s.drop a).take (j + 1)) : Int) 0 1000000000 with
            | false => rfl
            | true => have := inB_of hi; omega
          simp only [in62, this, bindK_pure, bNot_def, Bool.not_false, cond_true]
        rw [h192, bindK_pure]
        simp only [Bool.not_false, cond_true, bindK_pure, decide_eq_false hn, Bool.false_and, cond_false]
    · rw [decide_eq_false hb, cond_false]
      refine hr _ ⟨j + 1, by omega, by omega, rfl, d2 hb⟩ ?_
      simp only [Int.toNat_natCast]; omega
  · have hb : (decide (j < 5) && decide (a + j < s.length)) = false := by
      simp only [Bool.and_eq_false_iff, decide_eq_false_iff_not]; omega
    rw [hb, cond_false, rvR, digs_stop hc hj hj5 hd]
end
end Go.Proofs.Ytiamdibpgdkedaa.De
