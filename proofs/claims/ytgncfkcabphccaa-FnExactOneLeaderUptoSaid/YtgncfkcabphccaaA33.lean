/- Shapes that come back in the laws' helpers: slices compared with themselves; how much a slice holds. -/
import Derived.Test.YtgncfkcabphccaaA32
namespace Go.Am
set_option linter.unusedSimpArgs false
set_option linter.unusedVariables false

def eqSC_l0 (z : Nat) (ag : Bool) (g : Nat) : AC := .seq (.seq (.ops [dO 11 (.mov (.t 5)), dO 12 (.mov (.t 0)), dO 13 (.len false (.t 12)), dO 14 (.bin .lss (.t 11) (.t 13))]) (.cond (.t 14) (.skip) (.exit 0)))
  (.seq (.block 1 (.seq (.ops [dO 17 (.mov (.t 0)), dO 18 (.mov (.t 5)), dO 19 (.iaddr z (.t 17) (.t 18)), dO 20 (.load ag z (.t 19)), dO 21 (.mov (.t 1)), dO 22 (.mov (.t 5)), dO 23 (.iaddr z (.t 21) (.t 22)), dO 24 (.load ag z (.t 23)), dO 25 (.call g [(.t 20), (.t 24)]), dO 26 (.un .not (.t 25))])
    (.cond (.t 26) (.seq (.ops [dO 4 (.mov (.k (kB false)))]) (.ret)) (.skip)))) (.ops [dO 15 (.mov (.t 5)), dO 16 (.bin .add (.t 15) (.k (kI 1))), dO 5 (.mov (.t 16))]))
def eqSC (z : Nat) (ag : Bool) (g : Nat) : AC := .seq (.ops [dO 4 (.mov (.k (kB false)))]) (.seq (.seq (.ops [dO 6 (.mov (.t 0)), dO 7 (.len false (.t 6)), dO 8 (.mov (.t 1)), dO 9 (.len false (.t 8)), dO 10 (.bin .neq (.t 7) (.t 9))])
  (.cond (.t 10) (.seq (.ops [dO 4 (.mov (.k (kB false)))]) (.ret)) (.skip))) (.seq (.seq (.ops [dO 5 (.mov (.k (kI 0)))]) (.block 0 (.loop (eqSC_l0 z ag g)))) (.seq (.ops [dO 4 (.mov (.k (kB true)))]) (.ret))))

theorem eqSC_loop {T : Tab} {z g : Nat} {ag : Bool} {xs : List TV} (hm : T.mode g = .fz) (hg : ∀ x ∈ xs, callC T (arun T) g [x, x] = some [.s (.bool true)]) (hx : ∀ x ∈ xs, ElOK ag z x) (hlen : xs.length < 4611686018427387904) :
    ∀ (m i : Nat), xs.length - i = m → i ≤ xs.length → ∀ (d : Nat) (K : List It) (E : AEnv) (H : Heap) (nx : Nat),
      E 0 = .c (.sl z xs) → E 1 = .c (.sl z xs) → E 5 = kI i → ∃ E', arun T d (.lp (eqSC_l0 z ag g) :: .blk 0 :: K) ⟨E, H, nx⟩ = arun T d K ⟨E', H, nx⟩ := by
  intro m
  induction m with
  | zero =>
    intro i hm' hi d K E H nx h0 h1 h5
    obtain rfl : i = xs.length := by omega
    refine ⟨?_, ?_⟩
    rotate_left 1
    · rw [arun_lp, eqSC_l0]
      simp [arun_seq, arun_op, arun_ops0, arun_cond, arun_exit, operF, wantedA, operV, ev, updO, upd_at, binV, intV, h0, h5, unwind, lenV, AV.isStr, gInt]
      rfl
  | succ m ih =>
    intro i hm' hi d K E H nx h0 h1 h5
    have hlt : i < xs.length := by omega
    have hlt' : (i : Int) < (xs.length : Int) := by omega
    have hmem : xs[i] ∈ xs := List.getElem_mem hlt
    obtain ⟨hl1, hl2⟩ := hx _ hmem
    have hw : IntKind.i64.wrap ((i : Int) + 1) = ((i + 1 : Nat) : Int) := by rw [wrap_i64 (by omega)]; omega
    have hcall : ∀ H : Heap, callOp T (arun T) d g [.c xs[i], .c xs[i]] H nx = some (kB true, H, nx) := fun H =>
      callOp_of (ts := [xs[i], xs[i]]) (us := [.s (.bool true)]) hm (by simp [frzs, frz]) (by simp [idsOfs, idsOf]) (hg _ hmem)
    have key : ∃ E' : AEnv, E' 0 = .c (.sl z xs) ∧ E' 1 = .c (.sl z xs) ∧ E' 5 = kI ((i + 1 : Nat) : Int) ∧
        arun T d (.lp (eqSC_l0 z ag g) :: .blk 0 :: K) ⟨E, H, nx⟩ = arun T d (.lp (eqSC_l0 z ag g) :: .blk 0 :: K) ⟨E', H, nx⟩ := by
      refine ⟨?_, ?_, ?_, ?_, ?_⟩
      rotate_left 4
      · rw [arun_lp]
        conv => lhs; rw [eqSC_l0]
        simp [arun_seq, arun_op, arun_ops0, arun_cond, arun_block, arun_blk, arun_skip, operF, wantedA, operV, ev, updO, upd_at, binV, intV, unV, h0, h1, h5, hlt', lenV, AV.isStr, gInt, intOfV, hl1, hcall, hlt, hw]
        rfl
      all_goals simp [upd_at, h0, h1]
      all_goals rfl
    obtain ⟨E', g0, g1, g5, hE⟩ := key
    rw [hE]
    exact ih (i + 1) (by omega) (by omega) d K E' H nx g0 g1 g5

theorem eqSC_ok {T : Tab} {f z g : Nat} {ag : Bool} {xs : List TV} (hf : T.fn f = some ⟨2, 27, [.tmp 4], eqSC z ag g⟩) (hn : T.nat f = none) (hm : T.mode g = .fz) (hg : ∀ x ∈ xs, callC T (arun T) g [x, x] = some [.s (.bool true)])
    (hx : ∀ x ∈ xs, ElOK ag z x) (hlen : xs.length < 4611686018427387904) : callC T (arun T) f [.sl z xs, .sl z xs] = some [.s (.bool true)] := by
  have key : ∃ E' : AEnv, arun T 0 [.code (eqSC z ag g)] ⟨bindArgs [.c (.sl z xs), .c (.sl z xs)], H0, 0⟩ = some ⟨upd E' 4 (kB true), H0, 0⟩ := by
    have hE : ∃ E : AEnv, E 0 = .c (.sl z xs) ∧ E 1 = .c (.sl z xs) ∧ E 5 = kI ((0 : Nat) : Int) ∧ arun T 0 [.code (eqSC z ag g)] ⟨bindArgs [.c (.sl z xs), .c (.sl z xs)], H0, 0⟩ =
        arun T 0 [.lp (eqSC_l0 z ag g), .blk 0, .code (.seq (.ops [dO 4 (.mov (.k (kB true)))]) (.ret))] ⟨E, H0, 0⟩ := by
      refine ⟨?_, ?_, ?_, ?_, ?_⟩
      rotate_left 4
      · conv => rhs; rw [arun_lp]
        rw [eqSC]
        simp [arun_seq, arun_op, arun_ops0, arun_block, arun_loop, arun_cond, arun_skip, operF, wantedA, operV, ev, updO, upd_at, bindArgs, lenV, AV.isStr, gInt, intOfV, binV, intV]
        rfl
      all_goals simp [upd_at]
      all_goals rfl
    obtain ⟨E, h0, h1, h5, hE⟩ := hE
    obtain ⟨E', k1⟩ := eqSC_loop hm hg hx hlen xs.length 0 (by omega) (by omega) 0 [.code (.seq (.ops [dO 4 (.mov (.k (kB true)))]) (.ret))] E H0 0 h0 h1 h5
    refine ⟨E', ?_⟩
    rw [hE, k1]
    simp [arun_seq, arun_op, arun_ops0, arun_ret, operF, wantedA, operV, ev, updO]
  obtain ⟨E', k3⟩ := key
  simp only [callC, hn, callB, hf, List.map_cons, List.map_nil, List.length_cons, List.length_nil, Nat.zero_add, if_true, k3, resV, upd_same]
  simp [frzs, frz]

def szSC_l0 (z : Nat) (ag : Bool) (g : Nat) : AC := .seq (.seq (.ops [dO 12 (.mov (.t 5)), dO 13 (.mov (.t 0)), dO 14 (.len false (.t 13)), dO 15 (.bin .lss (.t 12) (.t 14))]) (.cond (.t 15) (.skip) (.exit 0)))
  (.seq (.block 1 (.seq (.ops [dO 18 (.mov (.t 0)), dO 19 (.mov (.t 5)), dO 20 (.iaddr z (.t 18) (.t 19)), dO 21 (.load ag z (.t 20)), dO 22 (.mov (.t 1)), dO 23 (.call g [(.t 21), (.t 22)]), dO 1 (.mov (.t 23))])
    (.seq (.ops [dO 24 (.mov (.t 1)), dO 25 (.bin .lss (.t 24) (.k (kI 0)))]) (.cond (.t 25) (.seq (.ops [dO 4 (.mov (.k (kI (-1))))]) (.ret)) (.skip))))) (.ops [dO 16 (.mov (.t 5)), dO 17 (.bin .add (.t 16) (.k (kI 1))), dO 5 (.mov (.t 17))]))
def szSC (z : Nat) (ag : Bool) (g : Nat) : AC := .seq (.ops [dO 4 (.mov (.k (kI 0)))]) (.seq (.ops [dO 6 (.mov (.t 1)), dO 7 (.mov (.t 0)), dO 8 (.len false (.t 7)), dO 9 (.bin .sub (.t 6) (.t 8)), dO 1 (.mov (.t 9))])
  (.seq (.seq (.ops [dO 10 (.mov (.t 1)), dO 11 (.bin .lss (.t 10) (.k (kI 0)))]) (.cond (.t 11) (.seq (.ops [dO 4 (.mov (.k (kI (-1))))]) (.ret)) (.skip))) (.seq (.seq (.ops [dO 5 (.mov (.k (kI 0)))]) (.block 0 (.loop (szSC_l0 z ag g)))) (.seq (.ops [dO 26 (.mov (.t 1)), dO 4 (.mov (.t 26))]) (.ret)))))

theorem szSC_loop {T : Tab} {z g : Nat} {ag : Bool} {xs : List TV} (hm : T.mode g = .fz) (hg : ∀ x ∈ xs, ∀ l : Int, ∃ r : Int, callC T (arun T) g [x, .s (.int .i64 l)] = some [.s (.int .i64 r)]) (hx : ∀ x ∈ xs, ElOK ag z x) (hlen : xs.length < 4611686018427387904) :
    ∀ (m i : Nat), xs.length - i = m → i ≤ xs.length → ∀ (d : Nat) (K : List It) (E : AEnv) (H : Heap) (nx : Nat) (l : Int),
      E 0 = .c (.sl z xs) → E 1 = kI l → E 5 = kI i → (∃ E' r, E' 4 = kI r ∧ arun T d (.lp (szSC_l0 z ag g) :: .blk 0 :: K) ⟨E, H, nx⟩ = some ⟨E', H, nx⟩) ∨
        (∃ E' r, E' 1 = kI r ∧ arun T d (.lp (szSC_l0 z ag g) :: .blk 0 :: K) ⟨E, H, nx⟩ = arun T d K ⟨E', H, nx⟩) := by
  intro m
  induction m with
  | zero =>
    intro i hm' hi d K E H nx l h0 h1 h5
    obtain rfl : i = xs.length := by omega
    right
    refine ⟨?_, l, ?_, ?_⟩
    rotate_left 2
    · rw [arun_lp, szSC_l0]
      simp [arun_seq, arun_op, arun_ops0, arun_cond, arun_exit, operF, wantedA, operV, ev, updO, upd_at, binV, intV, h0, h5, unwind, lenV, AV.isStr, gInt]
      rfl
    · simp [upd_at, h1]
  | succ m ih =>
    intro i hm' hi d K E H nx l h0 h1 h5
    have hlt : i < xs.length := by omega
    have hlt' : (i : Int) < (xs.length : Int) := by omega
    have hmem : xs[i] ∈ xs := List.getElem_mem hlt
    obtain ⟨hl1, hl2⟩ := hx _ hmem
    obtain ⟨r, hr⟩ := hg _ hmem l
    have hw : IntKind.i64.wrap ((i : Int) + 1) = ((i + 1 : Nat) : Int) := by rw [wrap_i64 (by omega)]; omega
    have hcall : ∀ H : Heap, callOp T (arun T) d g [.c xs[i], kI l] H nx = some (kI r, H, nx) := fun H =>
      callOp_of (ts := [xs[i], .s (.int .i64 l)]) (us := [.s (.int .i64 r)]) hm (by simp [frzs, frz]) (by simp [idsOfs, idsOf]) hr
    by_cases hneg : r < 0
    · left
      refine ⟨?_, -1, ?_, ?_⟩
      rotate_left 2
      · rw [arun_lp]
        conv => lhs; rw [szSC_l0]
        simp [arun_seq, arun_op, arun_ops0, arun_cond, arun_block, arun_skip, arun_ret, operF, wantedA, operV, ev, updO, upd_at, binV, intV, h0, h1, h5, hlt', lenV, AV.isStr, gInt, intOfV, hl1, hcall, hlt, hneg]
        rfl
      · simp [upd_at]
    · have key : ∃ E' : AEnv, E' 0 = .c (.sl z xs) ∧ E' 1 = kI r ∧ E' 5 = kI ((i + 1 : Nat) : Int) ∧
          arun T d (.lp (szSC_l0 z ag g) :: .blk 0 :: K) ⟨E, H, nx⟩ = arun T d (.lp (szSC_l0 z ag g) :: .blk 0 :: K) ⟨E', H, nx⟩ := by
        refine ⟨?_, ?_, ?_, ?_, ?_⟩
        rotate_left 4
        · rw [arun_lp]
          conv => lhs; rw [szSC_l0]
          simp [arun_seq, arun_op, arun_ops0, arun_cond, arun_block, arun_blk, arun_skip, operF, wantedA, operV, ev, updO, upd_at, binV, intV, h0, h1, h5, hlt', lenV, AV.isStr, gInt, intOfV, hl1, hcall, hlt, hneg, hw]
          rfl
        all_goals simp [upd_at, h0]
        all_goals rfl
      obtain ⟨E', g0, g1, g5, hE⟩ := key
      rw [hE]
      exact ih (i + 1) (by omega) (by omega) d K E' H nx r g0 g1 g5

theorem szSC_ok {T : Tab} {f z g : Nat} {ag : Bool} {xs : List TV} (hf : T.fn f = some ⟨2, 27, [.tmp 4], szSC z ag g⟩) (hn : T.nat f = none) (hm : T.mode g = .fz) (hg : ∀ x ∈ xs, ∀ l : Int, ∃ r : Int, callC T (arun T) g [x, .s (.int .i64 l)] = some [.s (.int .i64 r)])
    (hx : ∀ x ∈ xs, ElOK ag z x) (hlen : xs.length < 4611686018427387904) (l : Int) : ∃ r : Int, callC T (arun T) f [.sl z xs, .s (.int .i64 l)] = some [.s (.int .i64 r)] := by
  have key : ∃ (E' : AEnv) (r : Int), E' 4 = kI r ∧ arun T 0 [.code (szSC z ag g)] ⟨bindArgs [.c (.sl z xs), kI l], H0, 0⟩ = some ⟨E', H0, 0⟩ := by
    by_cases hneg : IntKind.i64.wrap (l - xs.length) < 0
    · refine ⟨?_, -1, ?_, ?_⟩
      rotate_left 2
      · rw [szSC]
        simp [arun_seq, arun_op, arun_ops0, arun_cond, arun_ret, operF, wantedA, operV, ev, updO, upd_at, bindArgs, lenV, AV.isStr, gInt, intOfV, binV, intV, hneg]
        rfl
      · simp [upd_at]
    · have hE : ∃ E : AEnv, E 0 = .c (.sl z xs) ∧ E 1 = kI (IntKind.i64.wrap (l - xs.length)) ∧ E 5 = kI ((0 : Nat) : Int) ∧ arun T 0 [.code (szSC z ag g)] ⟨bindArgs [.c (.sl z xs), kI l], H0, 0⟩ =
          arun T 0 [.lp (szSC_l0 z ag g), .blk 0, .code (.seq (.ops [dO 26 (.mov (.t 1)), dO 4 (.mov (.t 26))]) (.ret))] ⟨E, H0, 0⟩ := by
        refine ⟨?_, ?_, ?_, ?_, ?_⟩
        rotate_left 4
        · conv => rhs; rw [arun_lp]
          rw [szSC]
          simp [arun_seq, arun_op, arun_ops0, arun_block, arun_loop, arun_cond, arun_skip, operF, wantedA, operV, ev, updO, upd_at, bindArgs, lenV, AV.isStr, gInt, intOfV, binV, intV, hneg]
          rfl
        all_goals simp [upd_at]
        all_goals rfl
      obtain ⟨E, h0, h1, h5, hE⟩ := hE
      rcases szSC_loop hm hg hx hlen xs.length 0 (by omega) (by omega) 0 [.code (.seq (.ops [dO 26 (.mov (.t 1)), dO 4 (.mov (.t 26))]) (.ret))] E H0 0 _ h0 h1 h5 with ⟨E', r, k1, k2⟩ | ⟨E', r, k1, k2⟩
      · exact ⟨E', r, k1, by rw [hE, k2]⟩
      · refine ⟨upd (upd E' 26 (E' 1)) 4 (E' 1), r, by rw [upd_same, k1], ?_⟩
        rw [hE, k2]
        simp [arun_seq, arun_op, arun_ops0, arun_ret, operF, wantedA, operV, ev, updO, upd_at]
  obtain ⟨E', r, k1, k3⟩ := key
  refine ⟨r, ?_⟩
  simp only [callC, hn, callB, hf, List.map_cons, List.map_nil, List.length_cons, List.length_nil, Nat.zero_add, if_true, k3, resV, k1]
  simp [frzs, frz]
end Go.Am
