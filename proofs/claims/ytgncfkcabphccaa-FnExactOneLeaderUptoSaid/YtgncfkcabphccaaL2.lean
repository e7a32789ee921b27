/- Two ways to tell whether no term has two leaders. -/
import Derived.Test.YtgncfkcabphccaaL1
namespace Go.Proofs.Ytgncfkcabphccaa.Ol
open Go Go.Am
set_option linter.unusedVariables false
set_option linter.unusedSimpArgs false
def clash (x y : Leader) : Bool := (x.f1 == y.f1) && !(x.f0 == y.f0)
def clashAt (xs : List Leader) (i k : Nat) : Bool := match xs[i]?, xs[k]? with | some x, some y => clash x y | _, _ => false
def aps (xs : List Leader) : TV := .sl 5 (xs.map Leader.enc)

theorem spec_in {xs : List Leader} {i : Nat} (hi : i < xs.length) (hlen : xs.length < 4611686018427387904) : ∀ (m k : Nat), i - k = m → k ≤ i → ∀ (d : Nat) (K : List It) (E : AEnv) (H : Heap) (nx : Nat), E 0 = .c (aps xs) → E 3 = kI i → E 4 = kI k →
    ((∃ k', k ≤ k' ∧ k' < i ∧ clashAt xs i k' = true) ∧ ∃ E', E' 2 = kB false ∧ arun T d (.lp c21_l0 :: .blk 2 :: K) ⟨E, H, nx⟩ = some ⟨E', H, nx⟩) ∨
    ((∀ k', k ≤ k' → k' < i → clashAt xs i k' = false) ∧ ∃ E', E' 0 = .c (aps xs) ∧ E' 3 = kI i ∧ arun T d (.lp c21_l0 :: .blk 2 :: K) ⟨E, H, nx⟩ = arun T d K ⟨E', H, nx⟩) := by
  intro m
  induction m with
  | zero =>
    intro k hm hk d K E H nx h0 h3 h4
    obtain rfl : k = i := by omega
    right
    refine ⟨fun k' h1 h2 => by omega, ?_⟩
    refine ⟨?_, ?_, ?_, ?_⟩
    rotate_left 3
    · rw [arun_lp, c21_l0]
      simp [arun_seq, arun_op, arun_ops0, arun_cond, arun_exit, operF, wantedA, operV, ev, updO, upd_at, binV, intV, h0, h3, h4, unwind]
      rfl
    · simp [upd_at, h0]
    · simp [upd_at, h3]
  | succ m ih =>
    intro k hm hk d K E H nx h0 h3 h4
    have hki : k < i := by omega
    have hki' : (k : Int) < (i : Int) := by omega
    have hgi : xs[i]? = some xs[i] := by simp [hi]
    have hgk : xs[k]? = some (xs[k]'(by omega)) := by simp [show k < xs.length from by omega]
    generalize xs[i] = x at hgi
    generalize xs[k]'(by omega) = y at hgk
    have hw : IntKind.i64.wrap ((k : Int) + 1) = ((k + 1 : Nat) : Int) := by rw [wrap_i64 (by omega)]; omega
    have hcl : clashAt xs i k = clash x y := by simp [clashAt, hgi, hgk]
    cases hc : clash x y with
    | true =>
      left
      refine ⟨⟨k, Nat.le_refl _, hki, by rw [hcl, hc]⟩, ?_⟩
      simp only [clash, Bool.and_eq_true, beq_iff_eq, Bool.not_eq_true'] at hc
      obtain ⟨hc1, hc2⟩ := hc
      have hc2 : ¬ x.f0 = y.f0 := by simpa using hc2
      refine ⟨?_, ?_, ?_⟩
      rotate_left 2
      · rw [arun_lp, c21_l0]
        simp [arun_seq, arun_op, arun_ops0, arun_cond, arun_exit, arun_block, arun_skip, arun_ret, operF, wantedA, operV, ev, updO, upd_at, binV, intV, cmpV, h0, h3, h4, hki', unwind, aps, intOfV, hgi, hgk, loadV, Leader.enc, TV.cells, AV.cells, hc1, hc2, AV.isAgg, gBool]
        rfl
      · simp [upd_at]
    | false =>
      have key : ∃ E' : AEnv, E' 0 = .c (aps xs) ∧ E' 3 = kI i ∧ E' 4 = kI ((k + 1 : Nat) : Int) ∧
          arun T d (.lp c21_l0 :: .blk 2 :: K) ⟨E, H, nx⟩ = arun T d (.lp c21_l0 :: .blk 2 :: K) ⟨E', H, nx⟩ := by
        by_cases hc1 : x.f1 = y.f1
        · have hc2 : x.f0 = y.f0 := by
            simp only [clash, hc1, beq_self_eq_true, Bool.true_and, Bool.not_eq_false'] at hc
            simpa using hc
          refine ⟨?_, ?_, ?_, ?_, ?_⟩
          rotate_left 4
          · rw [arun_lp]
            conv => lhs; rw [c21_l0]
            simp [arun_seq, arun_op, arun_ops0, arun_cond, arun_exit, arun_block, arun_blk, arun_skip, arun_ret, operF, wantedA, operV, ev, updO, upd_at, binV, intV, cmpV, h0, h3, h4, hki', unwind, aps, intOfV, hgi, hgk, loadV, Leader.enc, TV.cells, AV.cells, hc1, hc2, AV.isAgg, gBool, hw]
            rfl
          all_goals simp [upd_at, h0, h3]
          all_goals rfl
        · have hc1' : (x.f1 == y.f1) = false := by simpa using hc1
          refine ⟨?_, ?_, ?_, ?_, ?_⟩
          rotate_left 4
          · rw [arun_lp]
            conv => lhs; rw [c21_l0]
            simp [arun_seq, arun_op, arun_ops0, arun_cond, arun_exit, arun_block, arun_blk, arun_skip, arun_ret, operF, wantedA, operV, ev, updO, upd_at, binV, intV, cmpV, h0, h3, h4, hki', unwind, aps, intOfV, hgi, hgk, loadV, Leader.enc, TV.cells, AV.cells, hc1', AV.isAgg, gBool, hw]
            rfl
          all_goals simp [upd_at, h0, h3]
          all_goals rfl
      obtain ⟨E', g0, g3, g4, hE⟩ := key
      rw [hE]
      rcases ih (k + 1) (by omega) (by omega) d K E' H nx g0 g3 g4 with ⟨⟨k', a1, a2, a3⟩, r⟩ | ⟨a1, r⟩
      · exact .inl ⟨⟨k', by omega, a2, a3⟩, r⟩
      · refine .inr ⟨fun k' b1 b2 => ?_, r⟩
        by_cases e : k' = k
        · subst e; rw [hcl, hc]
        · exact a1 k' (by omega) b2

theorem spec_out {xs : List Leader} (hlen : xs.length < 4611686018427387904) : ∀ (m i : Nat), xs.length - i = m → i ≤ xs.length → ∀ (d : Nat) (K : List It) (E : AEnv) (H : Heap) (nx : Nat), E 0 = .c (aps xs) → E 3 = kI i →
    ((∃ i' k', i' < xs.length ∧ k' < xs.length ∧ clashAt xs i' k' = true) ∧ ∃ E', E' 2 = kB false ∧ arun T d (.lp c21_l1 :: .blk 0 :: K) ⟨E, H, nx⟩ = some ⟨E', H, nx⟩) ∨
    ((∀ i' k', i ≤ i' → i' < xs.length → k' < i' → clashAt xs i' k' = false) ∧ ∃ E', arun T d (.lp c21_l1 :: .blk 0 :: K) ⟨E, H, nx⟩ = arun T d K ⟨E', H, nx⟩) := by
  intro m
  induction m with
  | zero =>
    intro i hm hi d K E H nx h0 h3
    obtain rfl : i = xs.length := by omega
    right
    refine ⟨fun i' k' h1 h2 => by omega, ?_⟩
    refine ⟨?_, ?_⟩
    rotate_left 1
    · rw [arun_lp, c21_l1]
      simp [arun_seq, arun_op, arun_ops0, arun_cond, arun_exit, operF, wantedA, operV, ev, updO, upd_at, binV, intV, h0, h3, unwind, aps, lenV, AV.isStr, gInt]
      rfl
  | succ m ih =>
    intro i hm hi d K E H nx h0 h3
    have hlt : i < xs.length := by omega
    have hlt' : (i : Int) < (xs.length : Int) := by omega
    have hw : IntKind.i64.wrap ((i : Int) + 1) = ((i + 1 : Nat) : Int) := by rw [wrap_i64 (by omega)]; omega
    have hin : ∃ E1 : AEnv, E1 0 = .c (aps xs) ∧ E1 3 = kI i ∧ E1 4 = kI ((0 : Nat) : Int) ∧ arun T d (.lp c21_l1 :: .blk 0 :: K) ⟨E, H, nx⟩ =
        arun T d (.lp c21_l0 :: .blk 2 :: .blk 1 :: .code (.ops [dO 9 (.mov (.t 3)), dO 10 (.bin .add (.t 9) (.k (kI 1))), dO 3 (.mov (.t 10))]) :: .lp c21_l1 :: .blk 0 :: K) ⟨E1, H, nx⟩ := by
      refine ⟨?_, ?_, ?_, ?_, ?_⟩
      rotate_left 4
      · conv => rhs; rw [arun_lp]
        rw [arun_lp]
        conv => lhs; rw [c21_l1]
        simp [arun_seq, arun_op, arun_ops0, arun_cond, arun_block, arun_loop, arun_skip, operF, wantedA, operV, ev, updO, upd_at, binV, intV, h0, h3, hlt', aps, lenV, AV.isStr, gInt]
        rfl
      all_goals simp [upd_at, h0, h3]
      all_goals rfl
    obtain ⟨E1, g0, g3, g4, hE1⟩ := hin
    rw [hE1]
    rcases spec_in hlt hlen i 0 (by omega) (by omega) d (.blk 1 :: .code (.ops [dO 9 (.mov (.t 3)), dO 10 (.bin .add (.t 9) (.k (kI 1))), dO 3 (.mov (.t 10))]) :: .lp c21_l1 :: .blk 0 :: K) E1 H nx g0 g3 g4 with ⟨⟨k', a1, a2, a3⟩, r⟩ | ⟨a1, E2, b0, b3, hE2⟩
    · exact .inl ⟨⟨i, k', hlt, by omega, a3⟩, r⟩
    · rw [hE2]
      have hnext : ∃ E3 : AEnv, E3 0 = .c (aps xs) ∧ E3 3 = kI ((i + 1 : Nat) : Int) ∧ arun T d (.blk 1 :: .code (.ops [dO 9 (.mov (.t 3)), dO 10 (.bin .add (.t 9) (.k (kI 1))), dO 3 (.mov (.t 10))]) :: .lp c21_l1 :: .blk 0 :: K) ⟨E2, H, nx⟩ =
          arun T d (.lp c21_l1 :: .blk 0 :: K) ⟨E3, H, nx⟩ := by
        refine ⟨?_, ?_, ?_, ?_⟩
        rotate_left 3
        · simp [arun_op, arun_ops0, arun_blk, operF, wantedA, operV, ev, updO, upd_at, binV, intV, b0, b3, hw]
          rfl
        all_goals simp [upd_at, b0]
        all_goals rfl
      obtain ⟨E3, c0, c3, hE3⟩ := hnext
      rw [hE3]
      rcases ih (i + 1) (by omega) (by omega) d K E3 H nx c0 c3 with ⟨q, r⟩ | ⟨q, r⟩
      · exact .inl ⟨q, r⟩
      · refine .inr ⟨fun i' k' e1 e2 e3 => ?_, r⟩
        by_cases e : i' = i
        · subst e; exact a1 k' (by omega) e3
        · exact q i' k' (by omega) e2 e3

theorem clash_symm (x y : Leader) : clash x y = clash y x := by
  have h : ∀ a b : Int, (a == b) = (b == a) := fun a b => BEq.comm
  simp only [clash, h x.f1, h x.f0]
theorem clashAt_symm (xs : List Leader) (i k : Nat) : clashAt xs i k = clashAt xs k i := by
  unfold clashAt
  cases xs[i]? <;> cases xs[k]? <;> simp [clash_symm]
theorem clashAt_self (xs : List Leader) (i : Nat) : clashAt xs i i = false := by
  unfold clashAt
  cases xs[i]? <;> simp [clash]

/-- Do two of them clash? -/
def Clashes (xs : List Leader) : Prop := ∃ i k, i < xs.length ∧ k < xs.length ∧ clashAt xs i k = true

theorem t21 : T.fn 21 = some fn21 := rfl
open Classical in
theorem specSame {xs : List Leader} (hlen : xs.length < 4611686018427387904) : callC T (arun T) 21 [aps xs] = some [.s (.bool (decide (¬ Clashes xs)))] := by
  have hE : ∃ E : AEnv, E 0 = .c (aps xs) ∧ E 3 = kI ((0 : Nat) : Int) ∧ arun T 0 [.code c21] ⟨bindArgs [.c (aps xs)], H0, 0⟩ =
      arun T 0 [.lp c21_l1, .blk 0, .code (.seq (.ops [dO 2 (.mov (.k (kB true)))]) (.ret))] ⟨E, H0, 0⟩ := by
    refine ⟨?_, ?_, ?_, ?_⟩
    rotate_left 3
    · conv => rhs; rw [arun_lp]
      rw [c21]
      simp [arun_seq, arun_op, arun_ops0, arun_block, arun_loop, operF, wantedA, operV, ev, updO]
      rfl
    all_goals simp [upd_at, bindArgs]
    all_goals rfl
  obtain ⟨E, h0, h3, hE⟩ := hE
  have key : ∃ E' : AEnv, E' 2 = kB (decide (¬ Clashes xs)) ∧ arun T 0 [.code c21] ⟨bindArgs [.c (aps xs)], H0, 0⟩ = some ⟨E', H0, 0⟩ := by
    rw [hE]
    rcases spec_out hlen xs.length 0 (by omega) (by omega) 0 [.code (.seq (.ops [dO 2 (.mov (.k (kB true)))]) (.ret))] E H0 0 h0 h3 with ⟨q, E', r1, r2⟩ | ⟨q, E', r⟩
    · have : Clashes xs := q
      exact ⟨E', by rw [r1]; simp [this], r2⟩
    · have hno : ¬ Clashes xs := by
        rintro ⟨i, k, h1, h2, h3⟩
        rcases Nat.lt_trichotomy k i with h | h | h
        · rw [q i k (by omega) h1 h] at h3; cases h3
        · subst h; rw [clashAt_self] at h3; cases h3
        · rw [clashAt_symm, q k i (by omega) h2 h] at h3; cases h3
      refine ⟨upd E' 2 (kB true), by rw [upd_same]; simp [hno], ?_⟩
      rw [r]
      simp [arun_seq, arun_op, arun_ops0, arun_ret, operF, wantedA, operV, ev, updO]
  obtain ⟨E', k1, k2⟩ := key
  simp only [callC, tn, callB, t21, fn21, List.map_cons, List.map_nil, List.length_cons, List.length_nil, Nat.zero_add, if_true, k2, resV, k1]
  simp [frzs, frz]
theorem impl_in {xs : List Leader} {i : Nat} {x : Leader} (hgi : xs[i]? = some x) (hlen : xs.length < 4611686018427387904) : ∀ (m k : Nat), xs.length - k = m → k ≤ xs.length → ∀ (d : Nat) (K : List It) (E : AEnv) (H : Heap) (nx g4 : Nat),
    E 7 = .c (aps xs) → E 8 = kI xs.length → E 9 = kI i → E 13 = .c (aps xs) → E 14 = kI xs.length → E 15 = kI k → E 4 = .ptr (.st d 4) g4 1 0 0 → H (.st d 4) = some ⟨g4, 5, true, [.c x.enc]⟩ →
    ((∃ k', k' < xs.length ∧ clashAt xs i k' = true) ∧ ∃ E' H', E' 2 = kB false ∧ arun T d (.lp c23_l0 :: .blk 2 :: K) ⟨E, H, nx⟩ = some ⟨E', H', nx⟩) ∨
    ((∀ k', k ≤ k' → k' < xs.length → clashAt xs i k' = false) ∧ ∃ E' H', E' 7 = .c (aps xs) ∧ E' 8 = kI xs.length ∧ E' 9 = kI i ∧ E' 0 = E 0 ∧ arun T d (.lp c23_l0 :: .blk 2 :: K) ⟨E, H, nx⟩ = arun T d K ⟨E', H', nx⟩) := by
  intro m
  induction m with
  | zero =>
    intro k hm hk d K E H nx g4 h7 h8 h9 h13 h14 h15 h4 hH
    obtain rfl : k = xs.length := by omega
    right
    refine ⟨fun k' h1 h2 => by omega, ?_⟩
    refine ⟨?_, H, ?_, ?_, ?_, ?_, ?_⟩
    rotate_left 5
    · rw [arun_lp, c23_l0]
      simp [arun_seq, arun_op, arun_ops0, arun_cond, arun_exit, operF, wantedA, operV, ev, updO, upd_at, binV, intV, h14, h15, unwind]
      rfl
    all_goals simp [upd_at, h7, h8, h9]
  | succ m ih =>
    intro k hm hk d K E H nx g4 h7 h8 h9 h13 h14 h15 h4 hH
    have hki : k < xs.length := by omega
    have hki' : (k : Int) < (xs.length : Int) := by omega
    have hgk : xs[k]? = some (xs[k]'(by omega)) := by simp [hki]
    generalize xs[k]'(by omega) = y at hgk
    have hw : IntKind.i64.wrap ((k : Int) + 1) = ((k + 1 : Nat) : Int) := by rw [wrap_i64 (by omega)]; omega
    have hcl : clashAt xs i k = clash x y := by simp [clashAt, hgi, hgk]
    generalize hg6 : genAt H (.st d 6) = g6
    cases hc : clash x y with
    | true =>
      left
      refine ⟨⟨k, hki, by rw [hcl, hc]⟩, ?_⟩
      simp only [clash, Bool.and_eq_true, beq_iff_eq, Bool.not_eq_true'] at hc
      obtain ⟨hc1, hc2⟩ := hc
      have hc2 : ¬ x.f0 = y.f0 := by simpa using hc2
      refine ⟨?_, ?_, ?_, ?_⟩
      rotate_left 3
      · rw [arun_lp, c23_l0]
        simp [arun_seq, arun_op, arun_ops0, arun_cond, arun_block, arun_skip, arun_ret, operF, wantedA, operV, ev, updO, upd_at, binV, intV, cmpV, h13, h14, h15, h4, hH, hki', aps, intOfV, hgk, loadV, storeV, Leader.enc, TV.cells, AV.cells, hc1, hc2, AV.isAgg, gBool, stor, hupd, hg6]
        constructor
        · rfl
        · rfl
      · simp [upd_at]
    | false =>
      have key : ∃ (E' : AEnv) (H' : Heap), E' 7 = .c (aps xs) ∧ E' 8 = kI xs.length ∧ E' 9 = kI i ∧ E' 13 = .c (aps xs) ∧ E' 14 = kI xs.length ∧ E' 15 = kI ((k + 1 : Nat) : Int) ∧ E' 4 = .ptr (.st d 4) g4 1 0 0 ∧ E' 0 = E 0 ∧ H' (.st d 4) = some ⟨g4, 5, true, [.c x.enc]⟩ ∧
          arun T d (.lp c23_l0 :: .blk 2 :: K) ⟨E, H, nx⟩ = arun T d (.lp c23_l0 :: .blk 2 :: K) ⟨E', H', nx⟩ := by
        by_cases hc1 : x.f1 = y.f1
        · have hc2 : x.f0 = y.f0 := by
            simp only [clash, hc1, beq_self_eq_true, Bool.true_and, Bool.not_eq_false'] at hc
            simpa using hc
          refine ⟨?_, ?_, ?_, ?_, ?_, ?_, ?_, ?_, ?_, ?_, ?_, ?_⟩
          rotate_left 11
          · rw [arun_lp]
            conv => lhs; rw [c23_l0]
            simp [arun_seq, arun_op, arun_ops0, arun_cond, arun_block, arun_blk, arun_skip, operF, wantedA, operV, ev, updO, upd_at, binV, intV, cmpV, h13, h14, h15, h4, hH, hki', aps, intOfV, hgk, loadV, storeV, Leader.enc, TV.cells, AV.cells, hc1, hc2, AV.isAgg, gBool, stor, hupd, hg6, hw]
            rfl
          all_goals simp [upd_at, hupd, h7, h8, h9, h13, h14, h4, aps, hH, Leader.enc]
          all_goals rfl
        · have hc1' : (x.f1 == y.f1) = false := by simpa using hc1
          refine ⟨?_, ?_, ?_, ?_, ?_, ?_, ?_, ?_, ?_, ?_, ?_, ?_⟩
          rotate_left 11
          · rw [arun_lp]
            conv => lhs; rw [c23_l0]
            simp [arun_seq, arun_op, arun_ops0, arun_cond, arun_block, arun_blk, arun_skip, operF, wantedA, operV, ev, updO, upd_at, binV, intV, cmpV, h13, h14, h15, h4, hH, hki', aps, intOfV, hgk, loadV, storeV, Leader.enc, TV.cells, AV.cells, hc1', AV.isAgg, gBool, stor, hupd, hg6, hw]
            rfl
          all_goals simp [upd_at, hupd, h7, h8, h9, h13, h14, h4, aps, hH, Leader.enc]
          all_goals rfl
      obtain ⟨E', H', g7, g8, g9, g13, g14, g15, g4', g0, gH, hE⟩ := key
      rw [hE]
      rcases ih (k + 1) (by omega) (by omega) d K E' H' nx g4 g7 g8 g9 g13 g14 g15 g4' gH with ⟨q, r⟩ | ⟨a1, E2, H2, r1, r2, r3, r4, r5⟩
      · exact .inl ⟨q, r⟩
      · refine .inr ⟨fun k' b1 b2 => ?_, E2, H2, r1, r2, r3, r4.trans g0, r5⟩
        by_cases e : k' = k
        · subst e; rw [hcl, hc]
        · exact a1 k' (by omega) b2

theorem impl_out {xs : List Leader} (hlen : xs.length < 4611686018427387904) : ∀ (m i : Nat), xs.length - i = m → i ≤ xs.length → ∀ (d : Nat) (K : List It) (E : AEnv) (H : Heap) (nx : Nat), E 0 = .c (aps xs) → E 7 = .c (aps xs) → E 8 = kI xs.length → E 9 = kI i →
    ((∃ i' k', i' < xs.length ∧ k' < xs.length ∧ clashAt xs i' k' = true) ∧ ∃ E' H', E' 2 = kB false ∧ arun T d (.lp c23_l1 :: .blk 0 :: K) ⟨E, H, nx⟩ = some ⟨E', H', nx⟩) ∨
    ((∀ i' k', i ≤ i' → i' < xs.length → k' < xs.length → clashAt xs i' k' = false) ∧ ∃ E' H', arun T d (.lp c23_l1 :: .blk 0 :: K) ⟨E, H, nx⟩ = arun T d K ⟨E', H', nx⟩) := by
  intro m
  induction m with
  | zero =>
    intro i hm hi d K E H nx h0 h7 h8 h9
    obtain rfl : i = xs.length := by omega
    right
    refine ⟨fun i' k' h1 h2 => by omega, ?_⟩
    refine ⟨?_, H, ?_⟩
    rotate_left 1
    · rw [arun_lp, c23_l1]
      simp [arun_seq, arun_op, arun_ops0, arun_cond, arun_exit, operF, wantedA, operV, ev, updO, upd_at, binV, intV, h8, h9, unwind]
      rfl
  | succ m ih =>
    intro i hm hi d K E H nx h0 h7 h8 h9
    have hlt : i < xs.length := by omega
    have hlt' : (i : Int) < (xs.length : Int) := by omega
    have hgi : xs[i]? = some xs[i] := by simp [hlt]
    generalize xs[i] = x at hgi
    have hw : IntKind.i64.wrap ((i : Int) + 1) = ((i + 1 : Nat) : Int) := by rw [wrap_i64 (by omega)]; omega
    generalize hg4 : genAt H (.st d 4) = g4
    have hin : ∃ (E1 : AEnv) (H1 : Heap) (g4 : Nat), E1 7 = .c (aps xs) ∧ E1 8 = kI xs.length ∧ E1 9 = kI i ∧ E1 13 = .c (aps xs) ∧ E1 14 = kI xs.length ∧ E1 15 = kI ((0 : Nat) : Int) ∧ E1 4 = .ptr (.st d 4) g4 1 0 0 ∧ E1 0 = .c (aps xs) ∧ H1 (.st d 4) = some ⟨g4, 5, true, [.c x.enc]⟩ ∧
        arun T d (.lp c23_l1 :: .blk 0 :: K) ⟨E, H, nx⟩ =
        arun T d (.lp c23_l0 :: .blk 2 :: .blk 1 :: .code (.ops [dO 32 (.bin .add (.t 9) (.k (kI 1))), dO 9 (.mov (.t 32))]) :: .lp c23_l1 :: .blk 0 :: K) ⟨E1, H1, nx⟩ := by
      refine ⟨?_, ?_, g4, ?_, ?_, ?_, ?_, ?_, ?_, ?_, ?_, ?_, ?_⟩
      rotate_left 11
      · conv => rhs; rw [arun_lp]
        rw [arun_lp]
        conv => lhs; rw [c23_l1]
        simp [arun_seq, arun_op, arun_ops0, arun_cond, arun_block, arun_loop, arun_skip, operF, wantedA, operV, ev, updO, upd_at, binV, intV, h0, h7, h8, h9, hlt', aps, lenV, AV.isStr, gInt, intOfV, hgi, loadV, storeV, Leader.enc, TV.cells, AV.cells, AV.isAgg, stor, hupd, hg4]
        rfl
      all_goals simp [upd_at, hupd, h0, h7, h8, h9, aps, Leader.enc]
      all_goals rfl
    obtain ⟨E1, H1, g4, a7, a8, a9, a13, a14, a15, a4, a0, aH, hE1⟩ := hin
    rw [hE1]
    rcases impl_in hgi hlen xs.length 0 (by omega) (by omega) d (.blk 1 :: .code (.ops [dO 32 (.bin .add (.t 9) (.k (kI 1))), dO 9 (.mov (.t 32))]) :: .lp c23_l1 :: .blk 0 :: K) E1 H1 nx g4 a7 a8 a9 a13 a14 a15 a4 aH with ⟨⟨k', q1, q2⟩, r⟩ | ⟨q, E2, H2, b7, b8, b9, b0, hE2⟩
    · exact .inl ⟨⟨i, k', hlt, q1, q2⟩, r⟩
    · rw [hE2]
      have hnext : ∃ E3 : AEnv, E3 0 = .c (aps xs) ∧ E3 7 = .c (aps xs) ∧ E3 8 = kI xs.length ∧ E3 9 = kI ((i + 1 : Nat) : Int) ∧ arun T d (.blk 1 :: .code (.ops [dO 32 (.bin .add (.t 9) (.k (kI 1))), dO 9 (.mov (.t 32))]) :: .lp c23_l1 :: .blk 0 :: K) ⟨E2, H2, nx⟩ =
          arun T d (.lp c23_l1 :: .blk 0 :: K) ⟨E3, H2, nx⟩ := by
        refine ⟨?_, ?_, ?_, ?_, ?_, ?_⟩
        rotate_left 5
        · simp [arun_op, arun_ops0, arun_blk, operF, wantedA, operV, ev, updO, upd_at, binV, intV, b9, hw]
          rfl
        all_goals simp [upd_at, b0, a0, b7, b8]
        all_goals rfl
      obtain ⟨E3, c0, c7, c8, c9, hE3⟩ := hnext
      rw [hE3]
      rcases ih (i + 1) (by omega) (by omega) d K E3 H2 nx c0 c7 c8 c9 with ⟨q', r⟩ | ⟨q', r⟩
      · exact .inl ⟨q', r⟩
      · refine .inr ⟨fun i' k' e1 e2 e3 => ?_, r⟩
        by_cases e : i' = i
        · subst e; exact q k' (by omega) e3
        · exact q' i' k' (by omega) e2 e3

theorem t23 : T.fn 23 = some fn23 := rfl
open Classical in
theorem implSame {xs : List Leader} (hlen : xs.length < 4611686018427387904) : callC T (arun T) 23 [aps xs] = some [.s (.bool (decide (¬ Clashes xs)))] := by
  have hE : ∃ E : AEnv, E 0 = .c (aps xs) ∧ E 7 = .c (aps xs) ∧ E 8 = kI xs.length ∧ E 9 = kI ((0 : Nat) : Int) ∧ arun T 0 [.code c23] ⟨bindArgs [.c (aps xs)], H0, 0⟩ =
      arun T 0 [.lp c23_l1, .blk 0, .code (.seq (.ops [dO 2 (.mov (.k (kB true)))]) (.ret))] ⟨E, H0, 0⟩ := by
    refine ⟨?_, ?_, ?_, ?_, ?_, ?_⟩
    rotate_left 5
    · conv => rhs; rw [arun_lp]
      rw [c23]
      simp [arun_seq, arun_op, arun_ops0, arun_block, arun_loop, operF, wantedA, operV, ev, updO, upd_at, bindArgs, aps, lenV, AV.isStr, gInt]
      rfl
    all_goals simp [upd_at, bindArgs, aps]
    all_goals rfl
  obtain ⟨E, h0, h7, h8, h9, hE⟩ := hE
  have key : ∃ (E' : AEnv) (H' : Heap), E' 2 = kB (decide (¬ Clashes xs)) ∧ arun T 0 [.code c23] ⟨bindArgs [.c (aps xs)], H0, 0⟩ = some ⟨E', H', 0⟩ := by
    rw [hE]
    rcases impl_out hlen xs.length 0 (by omega) (by omega) 0 [.code (.seq (.ops [dO 2 (.mov (.k (kB true)))]) (.ret))] E H0 0 h0 h7 h8 h9 with ⟨q, E', H', r1, r2⟩ | ⟨q, E', H', r⟩
    · have : Clashes xs := q
      exact ⟨E', H', by rw [r1]; simp [this], r2⟩
    · have hno : ¬ Clashes xs := by
        rintro ⟨i, k, h1, h2, h3⟩
        rw [q i k (by omega) h1 h2] at h3; cases h3
      refine ⟨upd E' 2 (kB true), H', by rw [upd_same]; simp [hno], ?_⟩
      rw [r]
      simp [arun_seq, arun_op, arun_ops0, arun_ret, operF, wantedA, operV, ev, updO]
  obtain ⟨E', H', k1, k2⟩ := key
  simp only [callC, tn, callB, t23, fn23, List.map_cons, List.map_nil, List.length_cons, List.length_nil, Nat.zero_add, if_true, k2, resV, k1]
  simp [frzs, frz]
end Go.Proofs.Ytgncfkcabphccaa.Ol
