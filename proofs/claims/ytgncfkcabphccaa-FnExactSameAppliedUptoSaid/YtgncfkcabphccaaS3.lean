import Derived.Test.YtgncfkcabphccaaS2
namespace Go.Proofs.Ytgncfkcabphccaa.Am
open Go Go.Am

def sameE (x y : Ap) : Bool := (x.a == y.a) && ((x.b == y.b) && ((x.s.toList == y.s.toList) && true))
theorem sameL_entry (x y : Ap) : sameL [.i, .i, .s] [.c (tI x.a), .c (tI x.b), .c (tS x.s)] [.c (tI y.a), .c (tI y.b), .c (tS y.s)] = some (sameE x y) := by
  simp only [sameL, sameV, sameE, if_true]
def clash (x y : Ap) : Bool := (x.i == y.i) && !sameE x y
def clashAt (xs : List Ap) (i k : Nat) : Bool := match xs[i]?, xs[k]? with | some x, some y => clash x y | _, _ => false
def aps (xs : List Ap) : TV := .sl 6 (xs.map Ap.enc)

theorem elOK (x : Ap) : ElOK true 6 x.enc := ⟨fun H => by simp [loadV, Ap.enc], by simp [Ap.enc, AV.cells, TV.cells]⟩

theorem spec_in {xs : List Ap} {i : Nat} (hi : i < xs.length) (hlen : xs.length < 4611686018427387904) : ∀ (m k : Nat), i - k = m → k ≤ i → ∀ (d : Nat) (K : List It) (E : AEnv) (H : Heap) (nx : Nat), E 0 = .c (aps xs) → E 3 = kI i → E 4 = kI k →
    ((∃ k', k ≤ k' ∧ k' < i ∧ clashAt xs i k' = true) ∧ ∃ E', E' 2 = kB false ∧ arun T d (.lp c16_l0 :: .blk 2 :: K) ⟨E, H, nx⟩ = some ⟨E', H, nx⟩) ∨
    ((∀ k', k ≤ k' → k' < i → clashAt xs i k' = false) ∧ ∃ E', E' 0 = .c (aps xs) ∧ E' 3 = kI i ∧ arun T d (.lp c16_l0 :: .blk 2 :: K) ⟨E, H, nx⟩ = arun T d K ⟨E', H, nx⟩) := by
  intro m
  induction m with
  | zero =>
    intro k hm hk d K E H nx h0 h3 h4
    obtain rfl : k = i := by omega
    right
    refine ⟨fun k' h1 h2 => by omega, ?_⟩
    refine ⟨?_, ?_, ?_, ?_⟩
    rotate_left 3
    · rw [arun_lp, c16_l0]
      simp [arun_seq, arun_op, arun_ops0, arun_cond, arun_exit, operF, wantedA, operV, ev, updO, upd_at, binV, intV, h0, h3, h4, unwind]
      rfl
    · simp [upd_at, h0]
    · simp [upd_at, h3]
  | succ m ih =>
    intro k hm hk d K E H nx h0 h3 h4
    have hki : k < i := by omega
    have hki' : (k : Int) < (i : Int) := by omega
    have hgi : xs[i]? = some xs[i] := by simp [hi]
    have hgk : xs[k]? = some (xs[k]'(by omega)) := by simp [show k < xs.length from by omega]
    generalize xs[i] = x at hgi
    generalize xs[k]'(by omega) = y at hgk
    have hw : IntKind.i64.wrap ((k : Int) + 1) = ((k + 1 : Nat) : Int) := by rw [wrap_i64 (by omega)]; omega
    have hcl : clashAt xs i k = clash x y := by simp [clashAt, hgi, hgk]
    cases hc : clash x y with
    | true =>
      left
      refine ⟨⟨k, Nat.le_refl _, hki, by rw [hcl, hc]⟩, ?_⟩
      simp only [clash, Bool.and_eq_true, beq_iff_eq, Bool.not_eq_true'] at hc
      obtain ⟨hc1, hc2⟩ := hc
      refine ⟨?_, ?_, ?_⟩
      rotate_left 2
      · rw [arun_lp, c16_l0]
        simp [arun_seq, arun_op, arun_ops0, arun_cond, arun_exit, arun_block, arun_skip, arun_ret, operF, wantedA, operV, ev, updO, upd_at, binV, intV, cmpV, h0, h3, h4, hki', unwind, aps, intOfV, hgi, hgk, loadV, Ap.enc, TV.cells, AV.cells, sameL_entry, hc1, hc2, AV.isAgg, gBool]
        rfl
      · simp [upd_at]
    | false =>
      have key : ∃ E' : AEnv, E' 0 = .c (aps xs) ∧ E' 3 = kI i ∧ E' 4 = kI ((k + 1 : Nat) : Int) ∧
          arun T d (.lp c16_l0 :: .blk 2 :: K) ⟨E, H, nx⟩ = arun T d (.lp c16_l0 :: .blk 2 :: K) ⟨E', H, nx⟩ := by
        by_cases hc1 : x.i = y.i
        · have hc2 : sameE x y = true := by
            simp only [clash, hc1, beq_self_eq_true, Bool.true_and, Bool.not_eq_false'] at hc
            exact hc
          refine ⟨?_, ?_, ?_, ?_, ?_⟩
          rotate_left 4
          · rw [arun_lp]
            conv => lhs; rw [c16_l0]
            simp [arun_seq, arun_op, arun_ops0, arun_cond, arun_exit, arun_block, arun_blk, arun_skip, arun_ret, operF, wantedA, operV, ev, updO, upd_at, binV, intV, cmpV, h0, h3, h4, hki', unwind, aps, intOfV, hgi, hgk, loadV, Ap.enc, TV.cells, AV.cells, sameL_entry, hc1, hc2, AV.isAgg, gBool, hw]
            rfl
          all_goals simp [upd_at, h0, h3]
          all_goals rfl
        · have hc1' : (x.i == y.i) = false := by simpa using hc1
          refine ⟨?_, ?_, ?_, ?_, ?_⟩
          rotate_left 4
          · rw [arun_lp]
            conv => lhs; rw [c16_l0]
            simp [arun_seq, arun_op, arun_ops0, arun_cond, arun_exit, arun_block, arun_blk, arun_skip, arun_ret, operF, wantedA, operV, ev, updO, upd_at, binV, intV, cmpV, h0, h3, h4, hki', unwind, aps, intOfV, hgi, hgk, loadV, Ap.enc, TV.cells, AV.cells, sameL_entry, hc1', AV.isAgg, gBool, hw]
            rfl
          all_goals simp [upd_at, h0, h3]
          all_goals rfl
      obtain ⟨E', g0, g3, g4, hE⟩ := key
      rw [hE]
      rcases ih (k + 1) (by omega) (by omega) d K E' H nx g0 g3 g4 with ⟨⟨k', a1, a2, a3⟩, r⟩ | ⟨a1, r⟩
      · exact .inl ⟨⟨k', by omega, a2, a3⟩, r⟩
      · refine .inr ⟨fun k' b1 b2 => ?_, r⟩
        by_cases e : k' = k
        · subst e; rw [hcl, hc]
        · exact a1 k' (by omega) b2

theorem spec_out {xs : List Ap} (hlen : xs.length < 4611686018427387904) : ∀ (m i : Nat), xs.length - i = m → i ≤ xs.length → ∀ (d : Nat) (K : List It) (E : AEnv) (H : Heap) (nx : Nat), E 0 = .c (aps xs) → E 3 = kI i →
    ((∃ i' k', i' < xs.length ∧ k' < xs.length ∧ clashAt xs i' k' = true) ∧ ∃ E', E' 2 = kB false ∧ arun T d (.lp c16_l1 :: .blk 0 :: K) ⟨E, H, nx⟩ = some ⟨E', H, nx⟩) ∨
    ((∀ i' k', i ≤ i' → i' < xs.length → k' < i' → clashAt xs i' k' = false) ∧ ∃ E', arun T d (.lp c16_l1 :: .blk 0 :: K) ⟨E, H, nx⟩ = arun T d K ⟨E', H, nx⟩) := by
  intro m
  induction m with
  | zero =>
    intro i hm hi d K E H nx h0 h3
    obtain rfl : i = xs.length := by omega
    right
    refine ⟨fun i' k' h1 h2 => by omega, ?_⟩
    refine ⟨?_, ?_⟩
    rotate_left 1
    · rw [arun_lp, c16_l1]
      simp [arun_seq, arun_op, arun_ops0, arun_cond, arun_exit, operF, wantedA, operV, ev, updO, upd_at, binV, intV, h0, h3, unwind, aps, lenV, AV.isStr, gInt]
      rfl
  | succ m ih =>
    intro i hm hi d K E H nx h0 h3
    have hlt : i < xs.length := by omega
    have hlt' : (i : Int) < (xs.length : Int) := by omega
    have hw : IntKind.i64.wrap ((i : Int) + 1) = ((i + 1 : Nat) : Int) := by rw [wrap_i64 (by omega)]; omega
    have hin : ∃ E1 : AEnv, E1 0 = .c (aps xs) ∧ E1 3 = kI i ∧ E1 4 = kI ((0 : Nat) : Int) ∧ arun T d (.lp c16_l1 :: .blk 0 :: K) ⟨E, H, nx⟩ =
        arun T d (.lp c16_l0 :: .blk 2 :: .blk 1 :: .code (.ops [dO 9 (.mov (.t 3)), dO 10 (.bin .add (.t 9) (.k (kI 1))), dO 3 (.mov (.t 10))]) :: .lp c16_l1 :: .blk 0 :: K) ⟨E1, H, nx⟩ := by
      refine ⟨?_, ?_, ?_, ?_, ?_⟩
      rotate_left 4
      · conv => rhs; rw [arun_lp]
        rw [arun_lp]
        conv => lhs; rw [c16_l1]
        simp [arun_seq, arun_op, arun_ops0, arun_cond, arun_block, arun_loop, arun_skip, operF, wantedA, operV, ev, updO, upd_at, binV, intV, h0, h3, hlt', aps, lenV, AV.isStr, gInt]
        rfl
      all_goals simp [upd_at, h0, h3]
      all_goals rfl
    obtain ⟨E1, g0, g3, g4, hE1⟩ := hin
    rw [hE1]
    rcases spec_in hlt hlen i 0 (by omega) (by omega) d (.blk 1 :: .code (.ops [dO 9 (.mov (.t 3)), dO 10 (.bin .add (.t 9) (.k (kI 1))), dO 3 (.mov (.t 10))]) :: .lp c16_l1 :: .blk 0 :: K) E1 H nx g0 g3 g4 with ⟨⟨k', a1, a2, a3⟩, r⟩ | ⟨a1, E2, b0, b3, hE2⟩
    · exact .inl ⟨⟨i, k', hlt, by omega, a3⟩, r⟩
    · rw [hE2]
      have hnext : ∃ E3 : AEnv, E3 0 = .c (aps xs) ∧ E3 3 = kI ((i + 1 : Nat) : Int) ∧ arun T d (.blk 1 :: .code (.ops [dO 9 (.mov (.t 3)), dO 10 (.bin .add (.t 9) (.k (kI 1))), dO 3 (.mov (.t 10))]) :: .lp c16_l1 :: .blk 0 :: K) ⟨E2, H, nx⟩ =
          arun T d (.lp c16_l1 :: .blk 0 :: K) ⟨E3, H, nx⟩ := by
        refine ⟨?_, ?_, ?_, ?_⟩
        rotate_left 3
        · simp [arun_op, arun_ops0, arun_blk, operF, wantedA, operV, ev, updO, upd_at, binV, intV, b0, b3, hw]
          rfl
        all_goals simp [upd_at, b0]
        all_goals rfl
      obtain ⟨E3, c0, c3, hE3⟩ := hnext
      rw [hE3]
      rcases ih (i + 1) (by omega) (by omega) d K E3 H nx c0 c3 with ⟨q, r⟩ | ⟨q, r⟩
      · exact .inl ⟨q, r⟩
      · refine .inr ⟨fun i' k' e1 e2 e3 => ?_, r⟩
        by_cases e : i' = i
        · subst e; exact a1 k' (by omega) e3
        · exact q i' k' (by omega) e2 e3

theorem clash_symm (x y : Ap) : clash x y = clash y x := by
  have h : ∀ a b : Int, (a == b) = (b == a) := fun a b => BEq.comm
  have h2 : ∀ a b : List UInt8, (a == b) = (b == a) := fun a b => BEq.comm
  simp only [clash, sameE, h x.i, h x.a, h x.b, h2 x.s.toList]
theorem clashAt_symm (xs : List Ap) (i k : Nat) : clashAt xs i k = clashAt xs k i := by
  unfold clashAt
  cases xs[i]? <;> cases xs[k]? <;> simp [clash_symm]
theorem clashAt_self (xs : List Ap) (i : Nat) : clashAt xs i i = false := by
  unfold clashAt
  cases xs[i]? <;> simp [clash, sameE]

/-- Do two of them clash? -/
def Clashes (xs : List Ap) : Prop := ∃ i k, i < xs.length ∧ k < xs.length ∧ clashAt xs i k = true

theorem t16 : T.fn 16 = some fn16 := rfl
open Classical in
theorem specSame {xs : List Ap} (hlen : xs.length < 4611686018427387904) : callC T (arun T) 16 [aps xs] = some [.s (.bool (decide (¬ Clashes xs)))] := by
  have hE : ∃ E : AEnv, E 0 = .c (aps xs) ∧ E 3 = kI ((0 : Nat) : Int) ∧ arun T 0 [.code c16] ⟨bindArgs [.c (aps xs)], H0, 0⟩ =
      arun T 0 [.lp c16_l1, .blk 0, .code (.seq (.ops [dO 2 (.mov (.k (kB true)))]) (.ret))] ⟨E, H0, 0⟩ := by
    refine ⟨?_, ?_, ?_, ?_⟩
    rotate_left 3
    · conv => rhs; rw [arun_lp]
      rw [c16]
      simp [arun_seq, arun_op, arun_ops0, arun_block, arun_loop, operF, wantedA, operV, ev, updO]
      rfl
    all_goals simp [upd_at, bindArgs]
    all_goals rfl
  obtain ⟨E, h0, h3, hE⟩ := hE
  have key : ∃ E' : AEnv, E' 2 = kB (decide (¬ Clashes xs)) ∧ arun T 0 [.code c16] ⟨bindArgs [.c (aps xs)], H0, 0⟩ = some ⟨E', H0, 0⟩ := by
    rw [hE]
    rcases spec_out hlen xs.length 0 (by omega) (by omega) 0 [.code (.seq (.ops [dO 2 (.mov (.k (kB true)))]) (.ret))] E H0 0 h0 h3 with ⟨q, E', r1, r2⟩ | ⟨q, E', r⟩
    · have : Clashes xs := q
      exact ⟨E', by rw [r1]; simp [this], r2⟩
    · have hno : ¬ Clashes xs := by
        rintro ⟨i, k, h1, h2, h3⟩
        rcases Nat.lt_trichotomy k i with h | h | h
        · rw [q i k (by omega) h1 h] at h3; cases h3
        · subst h; rw [clashAt_self] at h3; cases h3
        · rw [clashAt_symm, q k i (by omega) h2 h] at h3; cases h3
      refine ⟨upd E' 2 (kB true), by rw [upd_same]; simp [hno], ?_⟩
      rw [r]
      simp [arun_seq, arun_op, arun_ops0, arun_ret, operF, wantedA, operV, ev, updO]
  obtain ⟨E', k1, k2⟩ := key
  simp only [callC, tn, callB, t16, fn16, List.map_cons, List.map_nil, List.length_cons, List.length_nil, Nat.zero_add, if_true, k2, resV, k1]
  simp [frzs, frz]
end Go.Proofs.Ytgncfkcabphccaa.Am
