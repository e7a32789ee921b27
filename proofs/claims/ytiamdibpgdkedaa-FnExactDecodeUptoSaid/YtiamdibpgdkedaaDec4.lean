/- How entries and confs are read. -/
import Derived.Test.YtiamdibpgdkedaaDec3
namespace Go.Proofs.Ytiamdibpgdkedaa.De
open Go Go.Am
set_option linter.unusedVariables false
set_option linter.unusedSimpArgs false

noncomputable section
theorem riseB_in : ∀ {p : Option Int} {xs : List Int}, riseB p xs = true → ∀ y ∈ xs, inB y 1 4 = true
  | _, [], _, y, hy => by cases hy
  | p, z :: r, h, y, hy => by
    rw [riseB, Bool.and_eq_true, Bool.and_eq_true] at h
    rcases List.mem_cons.1 hy with rfl | hy
    · exact h.1.1
    · exact riseB_in h.2 y hy
theorem conf_back {xs : List Int} (h : confB xs = true) : toC (cB xs) = xs := by
  rw [confB, Bool.and_eq_true] at h
  have hi := riseB_in h.2
  rw [toC, cB, strP_def, List.map_map, List.map_map]
  have : ∀ y ∈ xs, ((fun b : UInt8 => iConv .i64 (byteI b)) ∘ ((fun n : Int => UInt8.ofNat n.toNat) ∘ iConv .u8)) y = y := by
    intro y hy
    have := inB_of (hi y hy)
    exact byte_back (by omega)
  exact (List.map_congr_left this).trans (by simp)
theorem conf_nil : confB [] = false := by
  rw [confB, inB, lenI_def, iGe_def]; simp
theorem readC_cB {xs : List Int} (h : confB xs = true ∨ xs = []) : (readC (cB xs)).1 = xs := by
  rcases h with h | rfl
  · rw [readC, conf_back h, h]; rfl
  · have : toC (cB []) = [] := by rw [toC, cB, strP_def]; rfl
    rw [readC, this, conf_nil]; rfl
theorem readC_len (t : List UInt8) : (readC t).1.length ≤ t.length := by
  rw [readC]
  cases confB (toC t)
  · simp
  · simp [toC]

theorem kind_of {y : TEntry} (h : entryB y = true) : 1 ≤ y.2.1 ∧ y.2.1 ≤ 3 := by
  rw [entryB, Bool.and_eq_true] at h
  have h := h.2
  cases h1 : iEq y.2.1 1 with
  | true => rw [iEq_def] at h1; have : y.2.1 = 1 := by simpa using h1
            omega
  | false =>
    rw [h1, cond_false] at h
    cases h2 : iEq y.2.1 2 with
    | true => rw [iEq_def] at h2; have : y.2.1 = 2 := by simpa using h2
              omega
    | false =>
      rw [h2, cond_false] at h
      cases h3 : iEq y.2.1 3 with
      | true => rw [iEq_def] at h3; have : y.2.1 = 3 := by simpa using h3
                omega
      | false => rw [h3, cond_false] at h; cases h
theorem ent183 (i : Int) (y : TEntry) (hl : y.2.2.1.length ≤ 1048576) : F183 (i, y, ()) = some (bif entryB y && inB i 1 1000000 then (entB i y, true, ()) else (litS [], false, ())) := by
  unfold F183
  have he : F146 (y, ()) = some (entryB y, ()) := entry59 y hl
  simp only [he, bindK_pure, in58, bNot_def, cond_or]
  cases h1 : entryB y with
  | false => rfl
  | true =>
    cases h2 : inB i 1 1000000 with
    | false => rfl
    | true =>
      obtain ⟨hr, hd⟩ := entryB_data h1
      have hi := inB_of h2
      have v1 := vb5 (n := i) (by omega)
      have v2 := vb5 (n := y.1) (by omega)
      have w1 : F185 (i, ()) = some (vb i, ()) := var76 (by omega) (by omega)
      have w2 : F185 (y.1, ()) = some (vb y.1, ()) := var76 hr.1 (by omega)
      have hc : ∀ l : List Nat, (litS l).length = l.length := fun l => by rw [litS_def, List.length_map]
      simp only [Bool.not_true, Bool.or_self, cond_false, w1, w2, bindK_pure, Bool.and_self, cond_true]
      rw [guardK_pos (gCat_pos (by rw [hc]; simp only [List.length_cons, List.length_nil]; omega)), guardK_pos (gCat_pos (by simp only [cat_def, List.length_append, hc, List.length_cons, List.length_nil]; omega)), guardK_pos (gCat_pos (by simp only [cat_def, List.length_append, hc, strP_len, List.length_cons, List.length_nil]; omega)), guardK_pos (gCat_pos (by simp only [cat_def, List.length_append, hc, strP_len, List.length_cons, List.length_nil]; omega))]
      simp only [cat_def, entB, List.append_assoc]

/-! ### an entry read -/
theorem bnd_all {ρ : Type} {x : List UInt8} {a : Nat} (ha : a ≤ x.length) (k : Nat → Nat → Option ρ) : bndK (lenN x) (a : Int) (ofN (lenN x)) k = k a (x.length - a) := by
  have e1 : ((x.length : Nat) : Int).toNat = x.length := Int.toNat_natCast _
  have e2 : (((x.length : Nat) : Int) - (a : Int)).toNat = x.length - a := by omega
  have e3 : ((a : Nat) : Int).toNat = a := Int.toNat_natCast _
  rw [bndK_def, ofN_def, lenN_def, if_pos (by omega), e2, e3]
theorem spec_entry_A (x : List UInt8) (hl : x.length ≤ 1048576) : ∃ (i : Int) (e : TEntry) (ok : Bool), F131 (x, ()) = some (i, e, ok, ()) ∧ e.2.2.1.length ≤ x.length := by
  unfold F131
  have hz : (litS []).length ≤ x.length := by rw [litS_def]; simp
  obtain ⟨w0, a0, b0, e0, _, l0, _⟩ := take_A (s := x) (a := 0) (n := 1) false (by omega) hl (by omega)
  have e0 : F129 ((x, 0, false, ()), 1, ()) = some (w0, mk x a0 b0, ()) := e0
  obtain ⟨v1, a1, b1, e1, g1, _⟩ := num_A (s := x) (a := a0) c1_le b0 l0
  obtain ⟨v2, a2, b2, e2, g2, _⟩ := num_A (s := x) (a := a1) c1_le b1 g1.len
  obtain ⟨w3, a3, b3, e3, _, l3, lw, h3⟩ := take_A (s := x) (a := a2) (n := 1) b2 g2.len hl (by omega)
  have e3 : F129 (mk x a2 b2, 1, ()) = some (w3, mk x a3 b3, ()) := e3
  simp only [e0, bindK_pure, num130 b0 l0 hl, e1, num130 b1 g1.len hl, e2, e3]
  cases b3 with
  | true => exact ⟨_, _, _, by simp only [cond_true]; rfl, hz⟩
  | false =>
    obtain ⟨_, hw⟩ := h3 rfl
    have hi : ∀ k : UInt8 → Option (Int × TEntry × Bool × Unit), idxK w3 0 k = k (w3[0]'(by omega)) := fun k => idxK_lt (n := 0) (by omega)
    have hsl : (sub x a3 (x.length - a3)).length ≤ 1048576 := by rw [sub_def, List.length_take]; omega
    have hsl2 : (sub x a3 (x.length - a3)).length ≤ x.length := by rw [sub_def, List.length_take]; omega
    simp only [cond_false, hi, bnd_all l3, ent183 _ (v2, iConv .i64 (byteI w3[0]), sub x a3 (x.length - a3), ()) hsl, bindK_pure, cond_or]
    generalize (bNot _ || bNot _) = B
    cases B with
    | true => exact ⟨_, _, _, by simp only [cond_true]; rfl, hz⟩
    | false => exact ⟨_, _, _, by simp only [cond_false]; rfl, hsl2⟩
theorem impl_entry_A (x : List UInt8) (hl : x.length ≤ 1048576) : ∃ (i : Int) (e : TEntry) (ok : Bool), F139 (x, ()) = some (i, e, ok, ()) ∧ e.2.2.1.length ≤ x.length := by
  unfold F139
  have hz : (litS []).length ≤ x.length := by rw [litS_def]; simp
  obtain ⟨w0, a0, b0, e0, g0⟩ := byte_A (s := x) (a := 0) false (by omega) hl
  have e0 : F135 ((x, 0, false, ()), ()) = some (w0, mk x a0 b0, ()) := e0
  obtain ⟨v1, a1, b1, e1, g1, _⟩ := num_A (s := x) (a := a0) c2_le b0 g0.len
  obtain ⟨v2, a2, b2, e2, g2, _⟩ := num_A (s := x) (a := a1) c2_le b1 g1.len
  obtain ⟨w3, a3, b3, e3, g3⟩ := byte_A (s := x) (a := a2) b2 g2.len hl
  have hsl : (sub x a3 (x.length - a3)).length ≤ 1048576 := by rw [sub_def, List.length_take]; omega
  have hsl2 : (sub x a3 (x.length - a3)).length ≤ x.length := by rw [sub_def, List.length_take]; omega
  have he : F103 (((v2 : Int), w3, sub x a3 (x.length - a3), ()), ()) = some (entryB ((v2 : Int), w3, sub x a3 (x.length - a3), ()), ()) := entry63 _ hsl
  simp only [e0, bindK_pure, num136 b0 g0.len hl, e1, num136 b1 g1.len hl, e2, e3, cond_or, bnd_all g3.len, he, in62]
  generalize (b3 || iNe w0 69) = B
  cases B with
  | true => exact ⟨_, _, _, by simp only [cond_true]; rfl, hz⟩
  | false =>
    simp only [cond_false]
    generalize (bNot _ || bNot _) = B
    cases B with
    | true => exact ⟨_, _, _, by simp only [cond_true]; rfl, hz⟩
    | false => exact ⟨_, _, _, by simp only [cond_false]; rfl, hsl2⟩
theorem strP_cons (x : Int) (l : List Int) : strP (x :: l) = UInt8.ofNat x.toNat :: strP l := by simp only [strP_def, List.map_cons]
theorem strP_nil : strP [] = [] := by rw [strP_def]; rfl
theorem lit69 : litS [69] = [69] := by rw [litS_def]; rfl
theorem lit_nil : litS [] = [] := by rw [litS_def]; rfl
theorem nat_of {x : Int} (h : 0 ≤ x) : ∃ n : Nat, x = n := ⟨x.toNat, by omega⟩
/-- The parts of an entry's text. -/
structure EntP (y : TEntry) (t : Nat) (k : UInt8) : Prop where
  ht : y.1 = t
  t5 : t ≤ 100000
  hk : iConv .i64 (byteI k) = y.2.1
  tx : entB 1 y = [69] ++ (vb ((1 : Nat) : Int) ++ (vb (t : Int) ++ ([k] ++ y.2.2.1)))
theorem ent_parts {y : TEntry} (h : entryB y = true) : ∃ t k, EntP y t k := by
  obtain ⟨hr, hd⟩ := entryB_data h
  obtain ⟨t, ht⟩ := nat_of hr.1
  have hk := kind_of h
  refine ⟨t, UInt8.ofNat (iConv .u8 y.2.1).toNat, ht, by omega, byte_back (by omega), ?_⟩
  rw [entB, ht, strP_cons, strP_nil, lit69]; rfl
theorem spec_entry_B {y : TEntry} (h : entryB y = true) : F131 (entB 1 y, ()) = some (1, y, true, ()) := by
  obtain ⟨t, k, P⟩ := ent_parts h
  have hlen := entB_len h
  have hl : (entB 1 y).length ≤ 1048576 := by omega
  obtain ⟨hr, hd⟩ := entryB_data h
  generalize hx : entB 1 y = x at hlen hl
  have h0 : x = [] ++ ([69] ++ (vb ((1 : Nat) : Int) ++ (vb (t : Int) ++ ([k] ++ y.2.2.1)))) := by rw [← hx]; exact P.tx
  have h1 : x = [69] ++ (vb ((1 : Nat) : Int) ++ (vb (t : Int) ++ ([k] ++ y.2.2.1))) := h0
  have h2 : x = ([69] ++ vb ((1 : Nat) : Int)) ++ (vb (t : Int) ++ ([k] ++ y.2.2.1)) := by rw [h1, List.append_assoc]
  have h3 : x = (([69] ++ vb ((1 : Nat) : Int)) ++ vb (t : Int)) ++ ([k] ++ y.2.2.1) := by rw [h2]; simp only [List.append_assoc]
  have h4 : x = ((([69] ++ vb ((1 : Nat) : Int)) ++ vb (t : Int)) ++ [k]) ++ y.2.2.1 := by rw [h3]; simp
  have e0 : F129 ((x, 0, false, ()), 1, ()) = some ([69], mk x 1 false, ()) := take_B h0 hl
  have l1 : ([69] : List UInt8).length ≤ x.length := by rw [h1]; simp
  have e1 : F130 (mk x 1 false, ()) = some (1, mk x ([69] ++ vb ((1 : Nat) : Int)).length false, ()) := by
    rw [num130 (a := 1) false l1 hl]
    have := num_B (p := [69]) c1_vb h1 (by omega)
    rw [List.length_append]
    exact congrArg some this
  have l2 : ([69] ++ vb ((1 : Nat) : Int)).length ≤ x.length := by rw [h2]; simp
  have e2 : F130 (mk x ([69] ++ vb ((1 : Nat) : Int)).length false, ()) = some ((t : Int), mk x (([69] ++ vb ((1 : Nat) : Int)) ++ vb (t : Int)).length false, ()) := by
    rw [num130 false l2 hl, num_B c1_vb h2 (by have := P.t5; omega), ← List.length_append]
  have e3 : F129 (mk x (([69] ++ vb ((1 : Nat) : Int)) ++ vb (t : Int)).length false, 1, ()) = some ([k], mk x ((([69] ++ vb ((1 : Nat) : Int)) ++ vb (t : Int)) ++ [k]).length false, ()) := by
    rw [List.length_append (bs := [k])]
    exact take_B (w := [k]) h3 hl
  have l4 : ((([69] ++ vb ((1 : Nat) : Int)) ++ vb (t : Int)) ++ [k]).length ≤ x.length := by rw [h4]; simp
  have e5 : sub x ((([69] ++ vb ((1 : Nat) : Int)) ++ vb (t : Int)) ++ [k]).length (x.length - ((([69] ++ vb ((1 : Nat) : Int)) ++ vb (t : Int)) ++ [k]).length) = y.2.2.1 := by
    rw [sub_def]
    have : x.drop ((([69] ++ vb ((1 : Nat) : Int)) ++ vb (t : Int)) ++ [k]).length = y.2.2.1 := by
      conv => lhs; rw [h4]
      rw [List.drop_left]
    rw [this, List.take_of_length_le]
    have := congrArg List.length this
    rw [List.length_drop] at this
    omega
  have hi : ∀ q : UInt8 → Option (Int × TEntry × Bool × Unit), idxK [k] 0 q = q k := fun q => idxK_lt (n := 0) (xs := [k]) (by simp)
  have ey : ((t : Int), y.2.1, y.2.2.1, ()) = y := by rw [← P.ht]
  unfold F131
  simp only [e0, e1, e2, e3, bindK_pure, cond_false, hi, bnd_all l4, e5, P.hk, ey]
  have e6 : F183 (1, y, ()) = some (x, true, ()) := by rw [ent183 1 y (by omega), h, one62, hx]; rfl
  simp only [e6, bindK_pure, cond_or, bNot_def, strEq_def, beq_self_eq_true, Bool.not_true, Bool.or_self, cond_false]
theorem impl_entry_B {y : TEntry} (h : entryB y = true) : F139 (entB 1 y, ()) = some (1, y, true, ()) := by
  obtain ⟨t, k, P⟩ := ent_parts h
  have hlen := entB_len h
  have hl : (entB 1 y).length ≤ 1048576 := by omega
  obtain ⟨hr, hd⟩ := entryB_data h
  generalize hx : entB 1 y = x at hlen hl
  have h0 : x = [] ++ ([69] ++ (vb ((1 : Nat) : Int) ++ (vb (t : Int) ++ ([k] ++ y.2.2.1)))) := by rw [← hx]; exact P.tx
  have h1 : x = [69] ++ (vb ((1 : Nat) : Int) ++ (vb (t : Int) ++ ([k] ++ y.2.2.1))) := h0
  have h2 : x = ([69] ++ vb ((1 : Nat) : Int)) ++ (vb (t : Int) ++ ([k] ++ y.2.2.1)) := by rw [h1, List.append_assoc]
  have h3 : x = (([69] ++ vb ((1 : Nat) : Int)) ++ vb (t : Int)) ++ ([k] ++ y.2.2.1) := by rw [h2]; simp only [List.append_assoc]
  have h4 : x = ((([69] ++ vb ((1 : Nat) : Int)) ++ vb (t : Int)) ++ [k]) ++ y.2.2.1 := by rw [h3]; simp
  have e0 : F135 ((x, 0, false, ()), ()) = some (69, mk x 1 false, ()) := by
    have := byte_B (p := []) h0 hl
    have e : iConv .i64 (byteI 69) = 69 := by rw [conv_byte]; rfl
    rw [e] at this
    exact this
  have l1 : ([69] : List UInt8).length ≤ x.length := by rw [h1]; simp
  have e1 : F136 (mk x 1 false, ()) = some (1, mk x ([69] ++ vb ((1 : Nat) : Int)).length false, ()) := by
    rw [num136 (a := 1) false l1 hl]
    have := num_B (p := [69]) c2_vb h1 (by omega)
    rw [List.length_append]
    exact congrArg some this
  have l2 : ([69] ++ vb ((1 : Nat) : Int)).length ≤ x.length := by rw [h2]; simp
  have e2 : F136 (mk x ([69] ++ vb ((1 : Nat) : Int)).length false, ()) = some ((t : Int), mk x (([69] ++ vb ((1 : Nat) : Int)) ++ vb (t : Int)).length false, ()) := by
    rw [num136 false l2 hl, num_B c2_vb h2 (by have := P.t5; omega), ← List.length_append]
  have e3 : F135 (mk x (([69] ++ vb ((1 : Nat) : Int)) ++ vb (t : Int)).length false, ()) = some (y.2.1, mk x ((([69] ++ vb ((1 : Nat) : Int)) ++ vb (t : Int)) ++ [k]).length false, ()) := by
    rw [List.length_append (bs := [k]), byte_B h3 hl, P.hk]; rfl
  have l4 : ((([69] ++ vb ((1 : Nat) : Int)) ++ vb (t : Int)) ++ [k]).length ≤ x.length := by rw [h4]; simp
  have e5 : sub x ((([69] ++ vb ((1 : Nat) : Int)) ++ vb (t : Int)) ++ [k]).length (x.length - ((([69] ++ vb ((1 : Nat) : Int)) ++ vb (t : Int)) ++ [k]).length) = y.2.2.1 := by
    rw [sub_def]
    have : x.drop ((([69] ++ vb ((1 : Nat) : Int)) ++ vb (t : Int)) ++ [k]).length = y.2.2.1 := by
      conv => lhs; rw [h4]
      rw [List.drop_left]
    rw [this, List.take_of_length_le]
    have := congrArg List.length this
    rw [List.length_drop] at this
    omega
  have ey : ((t : Int), y.2.1, y.2.2.1, ()) = y := by rw [← P.ht]
  have e6 : F103 (y, ()) = some (true, ()) := by rw [← h]; exact entry63 y (by omega)
  unfold F139
  have e69 : iNe 69 69 = false := by rw [iNe_def]; rfl
  simp only [e0, e1, e2, e3, bindK_pure, cond_or, e69, Bool.or_self, cond_false, bnd_all l4, e5, ey, e6, in62, one62, bNot_def, Bool.not_true]
end
end Go.Proofs.Ytiamdibpgdkedaa.De
