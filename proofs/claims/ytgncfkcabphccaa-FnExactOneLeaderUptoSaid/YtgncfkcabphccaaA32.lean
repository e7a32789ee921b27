/- Shapes that come back in the laws' helpers: a slice copied element by element. -/
import Derived.Test.YtgncfkcabphccaaA4
namespace Go.Am
set_option linter.unusedSimpArgs false
set_option linter.unusedVariables false

theorem callOp_of {T : Tab} {R : Run} {d f : Nat} {vs : List AV} {H : Heap} {nx : Nat} {ts us : List TV} (hm : T.mode f = .fz) (hf : frzs H 12 vs = some ts) (hi : idsOfs H 12 vs = []) (hc : callC T R f ts = some us) :
    callOp T R d f vs H nx = some (tupOf (us.map .c), H, nx) := by
  unfold callOp
  simp only [hm, hf, hc, hi, lockL]
  split <;> rfl

/-- What a slice's element is loaded as. -/
def ElOK (ag : Bool) (z : Nat) (x : TV) : Prop := (∀ H : Heap, loadV H ag z (.tptr x 0) = some (.c x)) ∧ (AV.c x).cells.length = z

theorem set_next {α : Type} (xs : List α) (zero : α) (i : Nat) (hi : i < xs.length) : (xs.take i ++ List.replicate (xs.length - i) zero).set i xs[i] = xs.take (i + 1) ++ List.replicate (xs.length - (i + 1)) zero := by
  rw [show xs.length - i = (xs.length - (i + 1)) + 1 from by omega, List.replicate_succ]
  rw [List.set_append]
  have hl : (xs.take i).length = i := by simp; omega
  rw [if_neg (by omega), hl, Nat.sub_self, List.set_cons_zero]
  rw [List.take_succ_eq_append_getElem hi, List.append_assoc, List.singleton_append]

def toSC_l0 (z : Nat) (ag : Bool) (g : Nat) : AC := .seq (.seq (.ops [dO 8 (.mov (.t 4)), dO 9 (.mov (.t 0)), dO 10 (.len false (.t 9)), dO 11 (.bin .lss (.t 8) (.t 10))]) (.cond (.t 11) (.skip) (.exit 0)))
  (.seq (.block 1 (.ops [dO 14 (.mov (.t 3)), dO 15 (.mov (.t 4)), dO 16 (.mov (.t 0)), dO 17 (.mov (.t 4)), dO 18 (.iaddr z (.t 16) (.t 17)), dO 19 (.load ag z (.t 18)), dO 20 (.call g [(.t 19)]), dO 21 (.iaddr z (.t 14) (.t 15)), nO (.store z (.t 21) (.t 20))]))
    (.ops [dO 12 (.mov (.t 4)), dO 13 (.bin .add (.t 12) (.k (kI 1))), dO 4 (.mov (.t 13))]))
def toSC (z : Nat) (ag : Bool) (zero : AV) (g : Nat) : AC := .seq (.ops [dO 2 (.mov (.k .nils))]) (.seq (.ops [dO 5 (.mov (.t 0)), dO 6 (.len false (.t 5)), dO 7 (.mksl z zero (.t 6)), dO 3 (.mov (.t 7))])
  (.seq (.seq (.ops [dO 4 (.mov (.k (kI 0)))]) (.block 0 (.loop (toSC_l0 z ag g)))) (.seq (.ops [dO 22 (.mov (.t 3)), dO 2 (.mov (.t 22))]) (.ret))))

theorem toSC_loop {T : Tab} {z g : Nat} {ag : Bool} {zero : AV} {xs : List TV} (hm : T.mode g = .fz) (hg : ∀ x ∈ xs, callC T (arun T) g [x] = some [x]) (hx : ∀ x ∈ xs, ElOK ag z x ∧ (AV.c x).isAgg = zero.isAgg) (hlen : xs.length < 4611686018427387904) :
    ∀ (m i : Nat), xs.length - i = m → i ≤ xs.length → ∀ (d : Nat) (K : List It) (E : AEnv) (H : Heap) (nx : Nat) (o : Id) (gen : Nat),
      E 0 = .c (.sl z xs) → E 3 = .ref o gen xs.length 0 xs.length → E 4 = kI i → H o = some ⟨gen, z, true, (xs.map .c).take i ++ List.replicate ((xs.map AV.c).length - i) zero⟩ →
      ∃ E' H', E' 3 = E 3 ∧ H' o = some ⟨gen, z, true, xs.map .c⟩ ∧ arun T d (.lp (toSC_l0 z ag g) :: .blk 0 :: K) ⟨E, H, nx⟩ = arun T d K ⟨E', H', nx⟩ := by
  intro m
  induction m with
  | zero =>
    intro i hm' hi d K E H nx o gen h0 h3 h4 hH
    obtain rfl : i = xs.length := by omega
    have : ¬ ((xs.length : Int) < (xs.length : Int)) := by omega
    refine ⟨?_, H, ?_, ?_, ?_⟩
    rotate_left 2
    · rw [hH]; simp [List.take_of_length_le]
    · rw [arun_lp, toSC_l0]
      simp [arun_seq, arun_op, arun_ops0, arun_cond, arun_exit, operF, wantedA, operV, ev, updO, upd_at, binV, intV, h0, h4, this, unwind, lenV, AV.isStr, gInt, gBool]
      rfl
    · simp [upd_at]
  | succ m ih =>
    intro i hm' hi d K E H nx o gen h0 h3 h4 hH
    have hlt : i < xs.length := by omega
    have hlt' : (i : Int) < (xs.length : Int) := by omega
    have hget : xs[i]? = some xs[i] := by simp [hlt]
    have hmem : xs[i] ∈ xs := List.getElem_mem hlt
    obtain ⟨⟨hl1, hl2⟩, hl3⟩ := hx _ hmem
    have hw : IntKind.i64.wrap ((i : Int) + 1) = ((i + 1 : Nat) : Int) := by rw [wrap_i64 (by omega)]; omega
    have hcall : ∀ H : Heap, callOp T (arun T) d g [.c xs[i]] H nx = some (.c xs[i], H, nx) := fun H =>
      callOp_of (ts := [xs[i]]) (us := [xs[i]]) hm (by simp [frzs, frz]) (by simp [idsOfs, idsOf]) (hg _ hmem)
    have hl : ((xs.map AV.c).take i).length = i := by simp; omega
    have hes : ((xs.map AV.c).take i ++ List.replicate ((xs.map AV.c).length - i) zero).length = xs.length := by simp; omega
    have hold : ((xs.map AV.c).take i ++ List.replicate ((xs.map AV.c).length - i) zero)[i]? = some zero := by
      rw [List.getElem?_append_right (by rw [hl]; exact Nat.le_refl _), hl, Nat.sub_self, List.getElem?_replicate, if_pos (by simp; omega)]
    have hset := set_next (xs.map AV.c) zero i (by simpa using hlt)
    simp only [List.getElem_map] at hset
    generalize hes' : (xs.map AV.c).take (i + 1) ++ List.replicate ((xs.map AV.c).length - (i + 1)) zero = es' at hset
    generalize (xs.map AV.c).take i ++ List.replicate ((xs.map AV.c).length - i) zero = es at hes hold hset hH
    have hst : storeV H z (.c xs[i]) (.ptr o gen xs.length i 0) = some (hupd H o ⟨gen, z, true, es'⟩) := by
      simp only [storeV, hH]
      rw [if_pos ⟨trivial, hes, trivial, hl2, rfl⟩]
      simp only [hold]
      rw [if_pos ⟨trivial, trivial, hl3⟩]
      simp only [hset]
    have key : ∃ E' : AEnv, E' 0 = .c (.sl z xs) ∧ E' 3 = .ref o gen xs.length 0 xs.length ∧ E' 4 = kI ((i + 1 : Nat) : Int) ∧
        arun T d (.lp (toSC_l0 z ag g) :: .blk 0 :: K) ⟨E, H, nx⟩ = arun T d (.lp (toSC_l0 z ag g) :: .blk 0 :: K) ⟨E', hupd H o ⟨gen, z, true, es'⟩, nx⟩ := by
      refine ⟨?_, ?_, ?_, ?_, ?_⟩
      rotate_left 4
      · rw [arun_lp]
        conv => lhs; rw [toSC_l0]
        simp [arun_seq, arun_op, arun_ops0, arun_cond, arun_exit, arun_block, arun_blk, arun_skip, operF, wantedA, operV, ev, updO, upd_at, binV, intV, h0, h3, h4, hlt', unwind, lenV, AV.isStr, gInt, gBool, intOfV, hget, hl1, hcall, hH, hes, hlt, hst, hw]
        rfl
      all_goals simp [upd_at, h0, h3]
      all_goals rfl
    obtain ⟨E', g0, g3, g4, hE⟩ := key
    rw [hE]
    obtain ⟨E2, H2, k1, k2, k3⟩ := ih (i + 1) (by omega) (by omega) d K E' (hupd H o ⟨gen, z, true, es'⟩) nx o gen g0 g3 g4 (by rw [hupd_same, hes'])
    exact ⟨E2, H2, by rw [k1, g3, h3], k2, k3⟩

theorem frzs_c (H : Heap) (n : Nat) : ∀ xs : List TV, frzs H n (xs.map .c) = some xs
  | [] => by simp [frzs]
  | x :: r => by simp [frzs, frz, frzs_c H n r]

theorem frz_ref {H : Heap} {o : Id} {g z : Nat} {w : Bool} {xs : List TV} {n : Nat} (h : H o = some ⟨g, z, w, xs.map .c⟩) : frz H (n + 1) (.ref o g xs.length 0 xs.length) = some (.sl z xs) := by
  have he : elemsOf H o g xs.length 0 xs.length = some (xs.map .c) := by
    unfold elemsOf
    simp only [h]
    rw [if_pos (show True ∧ (xs.map AV.c).length = xs.length ∧ 0 + xs.length ≤ xs.length from ⟨trivial, List.length_map _, by omega⟩)]
    rw [List.drop_zero, List.take_of_length_le (by rw [List.length_map]; exact Nat.le_refl _)]
  simp only [frz, he, frzs_c, szOf, h]

theorem toSC_ok {T : Tab} {f z g : Nat} {ag : Bool} {zero : AV} {xs : List TV} (hf : T.fn f = some ⟨1, 23, [.tmp 2], toSC z ag zero g⟩) (hn : T.nat f = none) (hm : T.mode g = .fz) (hg : ∀ x ∈ xs, callC T (arun T) g [x] = some [x])
    (hx : ∀ x ∈ xs, ElOK ag z x ∧ (AV.c x).isAgg = zero.isAgg) (hs : stor zero = true) (hz : zero.cells.length = z) (hlen : xs.length < 4611686018427387904) (hb : xs.length * z ≤ 4294967296) :
    callC T (arun T) f [.sl z xs] = some [.sl z xs] := by
  have hb' : (xs.length : Int) * (z : Int) ≤ 4294967296 := by rw [← Int.natCast_mul]; omega
  have key : ∃ E' H', E' 3 = .ref (.dy 0) 0 xs.length 0 xs.length ∧ H' (.dy 0) = some ⟨0, z, true, xs.map .c⟩ ∧ arun T 0 [.code (toSC z ag zero g)] ⟨bindArgs [.c (.sl z xs)], H0, 0⟩ = some ⟨upd (upd E' 22 (E' 3)) 2 (E' 3), H', 1⟩ := by
    have hcond : (0 : Int) ≤ xs.length ∧ (xs.length : Int) * z ≤ 4294967296 ∧ stor zero = true ∧ zero.cells.length = z := ⟨by omega, hb', hs, hz⟩
    have hE : ∃ E : AEnv, E 0 = .c (.sl z xs) ∧ E 3 = .ref (.dy 0) 0 xs.length 0 xs.length ∧ E 4 = kI ((0 : Nat) : Int) ∧ arun T 0 [.code (toSC z ag zero g)] ⟨bindArgs [.c (.sl z xs)], H0, 0⟩ =
        arun T 0 [.lp (toSC_l0 z ag g), .blk 0, .code (.seq (.ops [dO 22 (.mov (.t 3)), dO 2 (.mov (.t 22))]) (.ret))] ⟨E, hupd H0 (.dy 0) ⟨0, z, true, List.replicate xs.length zero⟩, 1⟩ := by
      refine ⟨?_, ?_, ?_, ?_, ?_⟩
      rotate_left 4
      · conv => rhs; rw [arun_lp]
        rw [toSC]
        simp [arun_seq, arun_op, arun_ops0, arun_block, arun_loop, operF, wantedA, operV, ev, updO, upd_at, bindArgs, lenV, AV.isStr, gInt, intOfV, hcond, genAt, H0]
        rfl
      all_goals simp [upd_at]
      all_goals rfl
    obtain ⟨E, h0, h3, h4, hE⟩ := hE
    obtain ⟨E', H', k1, k2, k3⟩ := toSC_loop hm hg hx hlen xs.length 0 (by omega) (by omega) 0 [.code (.seq (.ops [dO 22 (.mov (.t 3)), dO 2 (.mov (.t 22))]) (.ret))] E (hupd H0 (.dy 0) ⟨0, z, true, List.replicate xs.length zero⟩) 1 (.dy 0) 0 h0 h3 h4 (by rw [hupd_same]; simp)
    refine ⟨E', H', k1.trans h3, k2, ?_⟩
    rw [hE, k3]
    simp [arun_seq, arun_op, arun_ops0, arun_ret, operF, wantedA, operV, ev, updO, upd_at]
  obtain ⟨E', H', k1, k2, k3⟩ := key
  simp only [callC, hn, callB, hf, List.map_cons, List.map_nil, List.length_cons, List.length_nil, Nat.zero_add, if_true, k3, resV]
  have : upd (upd E' 22 (E' 3)) 2 (E' 3) 2 = .ref (.dy 0) 0 xs.length 0 xs.length := by rw [upd_same, k1]
  simp only [this, frzs, frz_ref k2]
end Go.Am
