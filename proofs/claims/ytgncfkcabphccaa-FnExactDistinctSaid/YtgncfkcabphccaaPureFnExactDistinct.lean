/- The law of Distinct answers true at every list: both functions keep each number where it stands first; what is marked is held. No condition beyond those of the given statement. -/
import Derived.Test.YtgncfkcabphccaaPFnExactDistinctx2
namespace Go.Proofs.Ytgncfkcabphccaa.Pure
open Go.RowKit Go.Proofs.Ytgncfkcabphccaa.PFnExactDistinct Go.Proofs.YtgncfkcabphccaaW.PrintWords Go.Proofs.YtgncfkcabphccaaW.PrintLast

theorem wrap_nat {i : Nat} (h : i < 4611686018427387904) : wrap64 ((i : Int) + 1) = ((i + 1 : Nat) : Int) := by
  unfold wrap64; omega

theorem rd_nat (xs : List Int) (i : Nat) : rd xs (i : Int) = xs.getD i 0 := by simp [rd]

theorem getD_of_lt (xs : List Int) {i : Nat} (h : i < xs.length) : xs.getD i 0 = xs[i] := by simp [h]

def dist : List Int → List Int → List Int
  | acc, [] => acc
  | acc, x :: xs => if x ∈ acc then dist acc xs else dist (acc ++ [x]) xs

theorem dist_length (xs : List Int) : ∀ acc, (dist acc xs).length ≤ acc.length + xs.length := by
  induction xs with
  | nil => intro acc; simp [dist]
  | cons x xs ih =>
    intro acc
    simp only [dist]
    split
    · have := ih acc; simp; omega
    · have := ih (acc ++ [x]); simp at *; omega

theorem in_tells (xs : List Int) (v : Int) (hn : xs.length < 4611686018427387904) (d : Nat) : ∀ (k i : Nat), i ≤ xs.length → xs.length - i = d → d < k →
    spec_l05In.l0 k xs v (i : Int) = some (decide (v ∈ xs.drop i)) := by
  induction d with
  | zero =>
    intro k i hi hd hk
    obtain ⟨k, rfl⟩ : ∃ m, k = m + 1 := ⟨k - 1, by omega⟩
    simp only [spec_l05In.l0]
    rw [if_neg (by omega), List.drop_of_length_le (by omega)]
    simp
  | succ d ih =>
    intro k i hi hd hk
    obtain ⟨k, rfl⟩ : ∃ m, k = m + 1 := ⟨k - 1, by omega⟩
    have hlt : i < xs.length := by omega
    simp only [spec_l05In.l0]
    rw [if_pos (by omega), if_pos (by omega), rd_nat, getD_of_lt xs hlt]
    have hdrop : v ∈ xs.drop i ↔ v = xs[i] ∨ v ∈ xs.drop (i + 1) := by rw [List.drop_eq_getElem_cons hlt]; exact List.mem_cons
    by_cases e : xs[i] = v
    · rw [if_pos e, decide_eq_true (hdrop.2 (.inl e.symm))]
    · rw [if_neg e, wrap_nat (by omega), ih k (i + 1) (by omega) (by omega) (by omega)]
      congr 1
      exact decide_eq_decide.2 ⟨fun h => hdrop.2 (.inr h), fun h => (hdrop.1 h).resolve_left (Ne.symm e)⟩

theorem index_tells (xs : List Int) (v : Int) (hn : xs.length < 4611686018427387904) (d : Nat) : ∀ (k i : Nat), i ≤ xs.length → xs.length - i = d → d < k →
    ∃ r, slices_Index_int_int.l0 k xs v (xs.length : Int) (i : Int) = some r ∧ decide (r ≥ 0) = decide (v ∈ xs.drop i) := by
  induction d with
  | zero =>
    intro k i hi hd hk
    obtain ⟨k, rfl⟩ : ∃ m, k = m + 1 := ⟨k - 1, by omega⟩
    refine ⟨-1, ?_, ?_⟩
    · simp only [slices_Index_int_int.l0]
      rw [if_neg (by omega)]
    · rw [List.drop_of_length_le (by omega)]; simp
  | succ d ih =>
    intro k i hi hd hk
    obtain ⟨k, rfl⟩ : ∃ m, k = m + 1 := ⟨k - 1, by omega⟩
    have hlt : i < xs.length := by omega
    have hdrop : v ∈ xs.drop i ↔ v = xs[i] ∨ v ∈ xs.drop (i + 1) := by rw [List.drop_eq_getElem_cons hlt]; exact List.mem_cons
    by_cases e : v = xs[i]
    · refine ⟨i, ?_, ?_⟩
      · simp only [slices_Index_int_int.l0]
        rw [if_pos (by omega), if_pos (by omega), if_pos (by omega), rd_nat, getD_of_lt xs hlt, if_pos e]
      · rw [decide_eq_true (hdrop.2 (.inl e)), decide_eq_true (by omega)]
    · obtain ⟨r, hr, hq⟩ := ih k (i + 1) (by omega) (by omega) (by omega)
      refine ⟨r, ?_, ?_⟩
      · simp only [slices_Index_int_int.l0]
        rw [if_pos (by omega), if_pos (by omega), if_pos (by omega), rd_nat, getD_of_lt xs hlt, if_neg e, wrap_nat (by omega), hr]
      · rw [hq]
        exact decide_eq_decide.2 ⟨fun h => hdrop.2 (.inr h), fun h => (hdrop.1 h).resolve_left e⟩

theorem contains_tells (xs : List Int) (v : Int) (k : Nat) (hn : xs.length < 4611686018427387904) (hk : xs.length < k) :
    slices_Contains_int_int.f k xs v = some (decide (v ∈ xs)) := by
  obtain ⟨r, hr, hq⟩ := index_tells xs v hn xs.length k 0 (by omega) (by omega) hk
  unfold slices_Contains_int_int.f slices_Index_int_int.f
  rw [show (0 : Int) = ((0 : Nat) : Int) from rfl, hr]
  simp only [Option.bind_some]
  rw [List.drop_zero] at hq
  exact congrArg some hq

theorem specD_tells (xs : List Int) (hn : xs.length < 17592186044416) (d : Nat) : ∀ (k i : Nat) (acc : List Int), i ≤ xs.length → xs.length - i = d → acc.length ≤ i → xs.length + d < k →
    spec_Distinct.l0 k xs acc (i : Int) = some (dist acc (xs.drop i)) := by
  induction d with
  | zero =>
    intro k i acc hi hd ha hk
    obtain ⟨k, rfl⟩ : ∃ m, k = m + 1 := ⟨k - 1, by omega⟩
    simp only [spec_Distinct.l0]
    rw [if_neg (by omega), List.drop_of_length_le (by omega)]
    simp [dist]
  | succ d ih =>
    intro k i acc hi hd ha hk
    obtain ⟨k, rfl⟩ : ∃ m, k = m + 1 := ⟨k - 1, by omega⟩
    have hlt : i < xs.length := by omega
    simp only [spec_Distinct.l0]
    rw [if_pos (by omega), if_pos (by omega), rd_nat, getD_of_lt xs hlt, List.drop_eq_getElem_cons hlt]
    have hin := in_tells acc xs[i] (by omega) acc.length k 0 (by omega) (by omega) (by omega)
    unfold spec_l05In.f
    rw [show (0 : Int) = ((0 : Nat) : Int) from rfl, hin]
    simp only [Option.bind_some, List.drop_zero, decide_eq_true_eq, dist]
    by_cases e : xs[i] ∈ acc
    · rw [if_pos e, if_pos e, wrap_nat (by omega), ih k (i + 1) acc (by omega) (by omega) (by omega) (by omega)]
    · rw [if_neg e, if_neg e, if_pos (by omega), wrap_nat (by omega), ih k (i + 1) _ (by omega) (by omega) (by simp; omega) (by omega)]

theorem implD_tells (xs : List Int) (hn : xs.length < 17592186044416) (d : Nat) : ∀ (k i : Nat) (acc : List Int), i ≤ xs.length → xs.length - i = d → acc.length ≤ i → xs.length + d < k →
    impl_Distinct.l0 k acc xs (xs.length : Int) (i : Int) = some (dist acc (xs.drop i)) := by
  induction d with
  | zero =>
    intro k i acc hi hd ha hk
    obtain ⟨k, rfl⟩ : ∃ m, k = m + 1 := ⟨k - 1, by omega⟩
    simp only [impl_Distinct.l0]
    rw [if_neg (by omega), List.drop_of_length_le (by omega)]
    simp [dist]
  | succ d ih =>
    intro k i acc hi hd ha hk
    obtain ⟨k, rfl⟩ : ∃ m, k = m + 1 := ⟨k - 1, by omega⟩
    have hlt : i < xs.length := by omega
    simp only [impl_Distinct.l0]
    rw [if_pos (by omega), if_pos (by omega), if_pos (by omega), rd_nat, getD_of_lt xs hlt, List.drop_eq_getElem_cons hlt,
      contains_tells acc xs[i] k (by omega) (by omega)]
    simp only [Option.bind_some, decide_eq_true_eq, dist]
    by_cases e : xs[i] ∈ acc
    · rw [if_pos e, if_pos e, wrap_nat (by omega), ih k (i + 1) acc (by omega) (by omega) (by omega) (by omega)]
    · rw [if_neg e, if_neg e, if_pos (by omega), wrap_nat (by omega), ih k (i + 1) _ (by omega) (by omega) (by simp; omega) (by omega)]

theorem set_take (xs ys : List Int) (i : Nat) (hi : i < xs.length) (hl : ys.length = xs.length) (h : ys.take i = xs.take i) :
    (ys.set i xs[i]).take (i + 1) = xs.take (i + 1) := by
  rw [List.take_set, List.take_succ_eq_append_getElem (by omega), List.take_succ_eq_append_getElem hi, h]
  rw [List.set_append_right _ _ (by simp; omega)]
  simp [List.length_take, Nat.min_eq_left (Nat.le_of_lt hi)]

theorem to_tells (xs : List Int) (hn : xs.length < 4611686018427387904) (d : Nat) : ∀ (k i : Nat) (ys : List Int), i ≤ xs.length → xs.length - i = d → ys.length = xs.length → ys.take i = xs.take i → d < k →
    laws_toIntS.l0 k xs ys (i : Int) = some xs := by
  induction d with
  | zero =>
    intro k i ys hi hd hl ht hk
    obtain ⟨k, rfl⟩ : ∃ m, k = m + 1 := ⟨k - 1, by omega⟩
    simp only [laws_toIntS.l0]
    rw [if_neg (by omega)]
    rw [List.take_of_length_le (by omega), List.take_of_length_le (by omega)] at ht
    rw [ht]
  | succ d ih =>
    intro k i ys hi hd hl ht hk
    obtain ⟨k, rfl⟩ : ∃ m, k = m + 1 := ⟨k - 1, by omega⟩
    have hlt : i < xs.length := by omega
    simp only [laws_toIntS.l0]
    rw [if_pos (by omega), if_pos (by omega), if_pos (by omega), rd_nat, getD_of_lt xs hlt, wrap_nat (by omega), Int.toNat_natCast]
    exact ih k (i + 1) _ (by omega) (by omega) (by simp [hl]) (set_take xs ys i hlt hl ht) (by omega)

theorem toS (xs : List Int) (k : Nat) (hn : xs.length ≤ 1048576) (hk : xs.length < k) : laws_toIntS.f k xs = some xs := by
  unfold laws_toIntS.f
  rw [if_pos (by omega), if_pos (by omega), Int.toNat_natCast]
  exact to_tells xs (by omega) xs.length k 0 _ (by omega) (by omega) (by simp) (by simp) hk

theorem eq_tells (xs : List Int) (hn : xs.length < 4611686018427387904) (d : Nat) : ∀ (k i : Nat), i ≤ xs.length → xs.length - i = d → d < k →
    laws_eqIntS.l0 k xs xs (i : Int) = some true := by
  induction d with
  | zero =>
    intro k i hi hd hk
    obtain ⟨k, rfl⟩ : ∃ m, k = m + 1 := ⟨k - 1, by omega⟩
    simp only [laws_eqIntS.l0]
    rw [if_neg (by omega)]
  | succ d ih =>
    intro k i hi hd hk
    obtain ⟨k, rfl⟩ : ∃ m, k = m + 1 := ⟨k - 1, by omega⟩
    simp only [laws_eqIntS.l0, if_true]
    rw [if_pos (by omega), if_pos (by omega), if_pos (by omega), wrap_nat (by omega)]
    exact ih k (i + 1) (by omega) (by omega) (by omega)

theorem eqS (xs : List Int) (k : Nat) (hn : xs.length ≤ 1048576) (hk : xs.length < k) : laws_eqIntS.f k xs xs = some true := by
  unfold laws_eqIntS.f
  rw [if_pos rfl]
  exact eq_tells xs (by omega) xs.length k 0 (by omega) (by omega) hk

/-- What 'mark' leaves: from the number m on, one more in each place. -/
def marked (m : Nat) (n : Nat) : List Int := (List.range n).map fun j => ((m + j : Nat) : Int)

theorem mark_tells (n m : Nat) (hn : n + m < 4611686018427387904) (d : Nat) : ∀ (k i : Nat) (ys : List Int), i ≤ n → n - i = d → ys.length = n → ys.take i = (marked m n).take i → d < k →
    laws_markIntS.l0 k ys ((m + i : Nat) : Int) (i : Int) = some (((m + n : Nat) : Int), marked m n) := by
  induction d with
  | zero =>
    intro k i ys hi hd hl ht hk
    obtain ⟨k, rfl⟩ : ∃ m, k = m + 1 := ⟨k - 1, by omega⟩
    simp only [laws_markIntS.l0]
    rw [if_neg (by omega)]
    have hml : (marked m n).length = n := by simp [marked]
    rw [List.take_of_length_le (by omega), List.take_of_length_le (by omega)] at ht
    rw [ht, show i = n by omega]
  | succ d ih =>
    intro k i ys hi hd hl ht hk
    obtain ⟨k, rfl⟩ : ∃ m, k = m + 1 := ⟨k - 1, by omega⟩
    have hml : (marked m n).length = n := by simp [marked]
    have hlt : i < (marked m n).length := by omega
    simp only [laws_markIntS.l0]
    rw [if_pos (by omega), if_pos (by omega), wrap_nat (by omega), wrap_nat (by omega), Int.toNat_natCast]
    have hs := set_take (marked m n) ys i hlt (by omega) ht
    have hg : (marked m n)[i] = ((m + i : Nat) : Int) := by simp [marked]
    rw [hg] at hs
    exact ih k (i + 1) _ (by omega) (by omega) (by simp [hl]) hs (by omega)

theorem markS (ys : List Int) (k : Nat) (hn : ys.length ≤ 1048576) (hk : ys.length < k) : laws_markIntS.f k ys 1 = some (((1 + ys.length : Nat) : Int), marked 1 ys.length) := by
  unfold laws_markIntS.f
  exact mark_tells ys.length 1 (by omega) ys.length k 0 ys (by omega) (by omega) rfl (by simp) hk

theorem held_tells (n m : Nat) (hn : n + m < 4611686018427387904) (d : Nat) : ∀ (k i : Nat), i ≤ n → n - i = d → d < k →
    laws_heldIntS.l0 k (marked m n) ((m + i : Nat) : Int) (i : Int) = some ((m + n : Nat) : Int) := by
  induction d with
  | zero =>
    intro k i hi hd hk
    obtain ⟨k, rfl⟩ : ∃ m, k = m + 1 := ⟨k - 1, by omega⟩
    have hml : (marked m n).length = n := by simp [marked]
    simp only [laws_heldIntS.l0]
    rw [if_neg (by omega), show i = n by omega]
  | succ d ih =>
    intro k i hi hd hk
    obtain ⟨k, rfl⟩ : ∃ m, k = m + 1 := ⟨k - 1, by omega⟩
    have hml : (marked m n).length = n := by simp [marked]
    have hlt : i < (marked m n).length := by omega
    have hg : (marked m n)[i] = ((m + i : Nat) : Int) := by simp [marked]
    simp only [laws_heldIntS.l0]
    rw [if_pos (by omega), if_pos (by omega), rd_nat, getD_of_lt _ hlt, hg, if_pos rfl, wrap_nat (by omega), wrap_nat (by omega)]
    exact ih k (i + 1) (by omega) (by omega) (by omega)

theorem heldS (n k : Nat) (hn : n ≤ 1048576) (hk : n < k) : laws_heldIntS.f k (marked 1 n) 1 = some ((1 + n : Nat) : Int) := by
  unfold laws_heldIntS.f
  exact held_tells n 1 (by omega) n k 0 (by omega) (by omega) hk

theorem FnExactDistinct : laws_FnExactDistinct.Pure := by
  intro xs _ _ _
  by_cases hbig : (xs.length : Int) > 1048576
  · exact ⟨0, by unfold laws_FnExactDistinct.f; rw [if_pos hbig]⟩
  have hn : xs.length ≤ 1048576 := by omega
  have hdl : (dist [] xs).length ≤ xs.length := by have := dist_length xs []; simpa using this
  refine ⟨2 * xs.length + 2, ?_⟩
  have hto := toS xs (2 * xs.length + 2) hn (by omega)
  have hto1 := toS xs (2 * xs.length + 1) hn (by omega)
  have hsp : spec_Distinct.f (2 * xs.length + 2) xs = some (dist [] xs) := by
    unfold spec_Distinct.f
    exact specD_tells xs (by omega) xs.length _ 0 [] (by omega) (by omega) (by simp) (by omega)
  have him : impl_Distinct.f (2 * xs.length + 2) xs = some (dist [] xs) := by
    unfold impl_Distinct.f
    exact implD_tells xs (by omega) xs.length _ 0 [] (by omega) (by omega) (by simp) (by omega)
  have him1 : impl_Distinct.f (2 * xs.length + 1) xs = some (dist [] xs) := by
    unfold impl_Distinct.f
    exact implD_tells xs (by omega) xs.length _ 0 [] (by omega) (by omega) (by simp) (by omega)
  have heq := eqS (dist [] xs) (2 * xs.length + 2) (by omega) (by omega)
  have heq1 := eqS (dist [] xs) (2 * xs.length + 1) (by omega) (by omega)
  have heqx := eqS xs (2 * xs.length + 2) (by omega) (by omega)
  have hmx := markS xs (2 * xs.length + 2) hn (by omega)
  have hmd := markS (dist [] xs) (2 * xs.length + 1) (by omega) (by omega)
  have hhd := heldS (dist [] xs).length (2 * xs.length + 1) (by omega) (by omega)
  unfold laws_FnExactDistinct.f
  rw [if_neg hbig]
  simp only [hto, hsp, him, heq, heqx, hmx, Option.bind_some, if_true]
  rw [if_neg (by omega)]
  simp only [laws_FnExactDistinct.j0, Bool.not_true, Bool.false_eq_true, if_false]
  simp only [hmd, hhd, hto1, him1, heq1, Option.bind_some, if_true]
  rw [if_neg (by omega), if_neg (by omega)]

end Go.Proofs.Ytgncfkcabphccaa.Pure
