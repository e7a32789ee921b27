/- The two ways to tell the entries that were applied tell the same; and what is told is its own. -/
import Derived.Test.YtiamdibpgdkedaaEnb
import Derived.Test.YtiamdibpgdkedaaG10
namespace Go.Proofs.Ytiamdibpgdkedaa.En
open Go Go.Am
set_option linter.unusedVariables false
set_option linter.unusedSimpArgs false

noncomputable section
/-! ### the law's helpers -/
theorem sz157 (y : TEntry) (v : Int × Unit) : ∃ r, F157 (y, v) = some r := by unfold F157; rw [cond_some]; exact ⟨_, rfl⟩
theorem sz70 (y : TApplied) (v : Int × Unit) : ∃ r, F70 (y, v) = some r := by
  unfold F70
  obtain ⟨r, h⟩ := sz157 y.2.2.2 v
  simp only [h, bindK_pure, cond_some]; exact ⟨_, rfl⟩
theorem sz19 (xs : List TApplied) (v : Int × Unit) (hl : xs.length ≤ 4294967296) : ∃ r, F19 (xs, v) = some r := szS_ok (fun y _ v => sz70 y v) hl _
theorem to72 (y : TApplied) : F72 (y, ()) = some (y, ()) := by
  unfold F72
  have : F158 (y.2.2.2, ()) = some (y.2.2.2, ()) := rfl
  simp only [this, bindK_pure]
theorem to21 (xs : List TApplied) (hl : xs.length * 6 ≤ 4294967296) : F21 (xs, ()) = some (xs, ()) := toS_ok (xs := xs) (by omega) (fun y _ => to72 y) hl
theorem eq76 (y : TEntry) : F76 (y, y, ()) = some (true, ()) := by
  unfold F76
  simp [iNe_def, strEq_def, bNot_def]
theorem eq77 (y : TApplied) : F77 (y, y, ()) = some (true, ()) := by
  unfold F77
  simp [iNe_def, strEq_def, bNot_def, eq76, bindK_pure]
theorem eq23 (xs : List TEntry) (hl : xs.length ≤ 4294967296) : F23 (xs, xs, ()) = some (true, ()) := eqS_refl (xs := xs) (fun y _ => eq76 y) hl
theorem eq24 (xs : List TApplied) (hl : xs.length ≤ 4294967296) : F24 (xs, xs, ()) = some (true, ()) := eqS_refl (xs := xs) (fun y _ => eq77 y) hl
theorem text78 {k : Int} (h0 : 0 ≤ k) (h1 : k ≤ 9223372036854775807) : ∃ r, F78 (k, ()) = some (r, ()) := by
  unfold F78
  cases iLe k 0 with
  | true => exact ⟨_, rfl⟩
  | false =>
    refine text_ok (fun rec n s hn hb hs => ?_) h0 h1
    refine ⟨UInt8.ofNat (iConv .u8 (iAdd .i64 48 (iRem n 10))).toNat, ?_⟩
    have e1 : strP [iConv .u8 (iAdd .i64 48 (iRem n 10))] = [UInt8.ofNat (iConv .u8 (iAdd .i64 48 (iRem n 10))).toNat] := by rw [strP_def]; rfl
    simp only [e1, gNz_pos (show (10 : Int) ≠ 0 by omega), guardK_true, cat_def, iGt_def]
    by_cases hp : n > 0
    · rw [decide_eq_true hp, cond_true, cond_true, guardK_pos (gCat_pos (by simp; omega)), iQuo64 hn hb (by omega)]; rfl
    · rw [decide_eq_false hp, cond_false, cond_false, guardK_pos (gCat_pos (by rw [litS_def]; simp; omega))]
def mt (k : Int) : List UInt8 := ((F78 (k, ())).getD ([], ())).1
theorem mt78 {k : Int} (h0 : 0 ≤ k) (h1 : k ≤ 9223372036854775807) : F78 (k, ()) = some (mt k, ()) := by
  obtain ⟨r, h⟩ := text78 h0 h1
  rw [mt, h]; rfl
def mkA (k : Int) (_ : TApplied) : TApplied := (k, k + 1, k + 1 + 1, k + 1 + 1 + 1, k + 1 + 1 + 1 + 1, mt (k + 1 + 1 + 1 + 1 + 1), ())
theorem mark25 (xs : List TApplied) (hl : xs.length ≤ 1048576) : F25 (xs, 1, ()) = some ((1 : Int) + ((6 : Nat) : Int) * (xs.length : Int), mkAll mkA 6 1 xs, ()) := by
  unfold F25
  refine mark_ok (xs := xs) (k0 := 1) mkA 6 (by omega) (fun rec k ys hy => ?_) (fun rec n k ys hy h h0 h1 => ?_) (by omega)
  · simp only [lenI_def, hy, iLt_nat, Nat.lt_irrefl, decide_false, cond_false]
  · have hk : k ≤ 6291457 := by omega
    simp only [iLt_len, h, decide_true, cond_true, toN_nat]
    rw [idxK_lt h]
    simp (disch := omega) only [iAdd64, setL_setL, idxK_setL, mt78, bindK_pure, iAdd_nat]
    simp only [setL_def, mkA]
    congr 2
    simp; omega
def mkE (k : Int) (_ : TEntry) : TEntry := (k, k + 1, mt (k + 1 + 1), ())
theorem mark26 (xs : List TEntry) (hl : xs.length ≤ 1048576) : F26 (xs, 1, ()) = some ((1 : Int) + ((3 : Nat) : Int) * (xs.length : Int), mkAll mkE 3 1 xs, ()) := by
  unfold F26
  refine mark_ok (xs := xs) (k0 := 1) mkE 3 (by omega) (fun rec k ys hy => ?_) (fun rec n k ys hy h h0 h1 => ?_) (by omega)
  · simp only [lenI_def, hy, iLt_nat, Nat.lt_irrefl, decide_false, cond_false]
  · have hk : k ≤ 6291457 := by omega
    simp only [iLt_len, h, decide_true, cond_true, toN_nat]
    rw [idxK_lt h]
    simp (disch := omega) only [iAdd64, setL_setL, idxK_setL, mt78, bindK_pure, iAdd_nat]
    simp only [setL_def, mkE]
    congr 2
    simp; omega
theorem held27 (xs : List TEntry) (hl : xs.length ≤ 1048576) : F27 (mkAll mkE 3 1 xs, 1, ()) = some ((1 : Int) + ((3 : Nat) : Int) * (xs.length : Int), ()) := by
  unfold F27
  refine held_ok (xs := xs) (k0 := 1) mkE 3 (by omega) (fun rec k => ?_) (fun rec n k h y hy h0 h1 => ?_) (by omega)
  · simp only [lenI_def, iLt_nat, Nat.lt_irrefl, decide_false, cond_false]
  · have hk : k ≤ 6291457 := by omega
    have hl2 : (mkAll mkE 3 1 xs).length = xs.length := mkAll_length
    simp only [iLt_len, h, decide_true, cond_true]
    simp only [idxK_lt h, hy, mkE]
    simp (disch := omega) only [iAdd64, mt78, bindK_pure, iAdd_nat]
    simp only [iNe_def, bne_self_eq_false, cond_false, strEq_def, beq_self_eq_true, bNot_def, Bool.not_true]
    congr 2
    simp; omega

/-! ### both ways -/
def qB (a b : TApplied) : Bool := iEq a.2.2.1 b.2.2.1 && bNot (bAnd (iEq a.2.2.2.1 b.2.2.2.1) (bAnd (iEq a.2.2.2.2.1 b.2.2.2.2.1) (strEq a.2.2.2.2.2.1 b.2.2.2.2.2.1)))
theorem qB_irr (a : TApplied) : qB a a = false := by simp [qB, iEq_def, bNot_def, bAnd_def, strEq_def]
theorem qB_sym (a b : TApplied) : qB a b = qB b a := by
  simp only [qB, iEq_def, bNot_def, bAnd_def, strEq_def]
  rw [Bool.beq_comm (a := a.2.2.1), Bool.beq_comm (a := a.2.2.2.1), Bool.beq_comm (a := a.2.2.2.2.1), Bool.beq_comm (a := a.2.2.2.2.2.1)]
theorem impl73 (xs : List TApplied) (hl : xs.length ≤ 4294967296) : F73 (xs, ()) = some (!(xs.any fun a => xs.any (qB a)), ()) := by
  have e : some (!(xs.any fun a => xs.any (qB a)), ()) = bif (xs.any fun a => xs.any (qB a)) then some (false, ()) else some (true, ()) := by cases xs.any _ <;> rfl
  rw [e]
  unfold F73
  refine loop_any (fun a => xs.any (qB a)) _ _ (fun rec => ?_) (fun rec n h => ?_) hl
  · simp only [iLt_len, Nat.lt_irrefl, decide_false, cond_false]
  · simp only [iLt_len, h, decide_true, cond_true]
    rw [idxK_lt h]
    refine loop_any (xs := xs) (qB xs[n]) _ _ (fun rec2 => ?_) (fun rec2 m hm => ?_) hl
    · simp only [iLt_len, Nat.lt_irrefl, decide_false, cond_false, iAdd_nat (show n ≤ 4294967296 by omega)]
    · simp only [iLt_len, hm, decide_true, cond_true]
      rw [idxK_lt hm, cond_and, bindK_pure, iAdd_nat (by omega)]
      rfl
def q2 (xs : List TApplied) (n k : Nat) : Bool := match xs[n]?, xs[k]? with | some a, some b => qB a b | _, _ => false
theorem pairs_any (xs : List TApplied) : ((List.range xs.length).any fun n => (List.range n).any (q2 xs n)) = xs.any fun a => xs.any (qB a) := by
  rw [Bool.eq_iff_iff]
  simp only [List.any_eq_true, List.mem_range]
  constructor
  · rintro ⟨n, hn, k, hk, h⟩
    have hk' : k < xs.length := by omega
    rw [q2, List.getElem?_eq_getElem hn, List.getElem?_eq_getElem hk'] at h
    exact ⟨_, List.getElem_mem hn, _, List.getElem_mem hk', h⟩
  · rintro ⟨a, ha, b, hb, h⟩
    obtain ⟨i, hi, ei⟩ := List.getElem_of_mem ha
    obtain ⟨j, hj, ej⟩ := List.getElem_of_mem hb
    have hij : i ≠ j := by
      rintro rfl
      rw [ei] at ej
      subst ej
      rw [qB_irr] at h; cases h
    rcases Nat.lt_or_gt_of_ne hij with hlt | hlt
    · refine ⟨j, hj, i, hlt, ?_⟩
      rw [q2, List.getElem?_eq_getElem hi, List.getElem?_eq_getElem hj]
      show qB xs[j] xs[i] = true
      rw [ei, ej, qB_sym]; exact h
    · refine ⟨i, hi, j, hlt, ?_⟩
      rw [q2, List.getElem?_eq_getElem hi, List.getElem?_eq_getElem hj]
      show qB xs[i] xs[j] = true
      rw [ei, ej]; exact h
theorem spec71 (xs : List TApplied) (hl : xs.length ≤ 4294967296) : F71 (xs, ()) = some (!(xs.any fun a => xs.any (qB a)), ()) := by
  rw [← pairs_any]
  have e : ∀ b : Bool, some (!b, ()) = bif b then some (false, ()) else some (true, ()) := by intro b; cases b <;> rfl
  rw [e]
  unfold F71
  refine loop_range xs.length _ _ _ (fun rec => ?_) (fun rec n h => ?_) hl
  · simp only [iLt_len, Nat.lt_irrefl, decide_false, cond_false]
  · simp only [iLt_len, h, decide_true, cond_true]
    refine loop_range n (q2 xs n) _ _ (fun rec2 => ?_) (fun rec2 m hm => ?_) (by omega)
    · simp only [iLt_nat, Nat.lt_irrefl, decide_false, cond_false, iAdd_nat (show n ≤ 4294967296 by omega)]
    · have hm' : m < xs.length := by omega
      simp only [iLt_nat, hm, decide_true, cond_true]
      simp only [idxK_lt h, idxK_lt hm', cond_and, bindK_pure, iAdd_nat (show m ≤ 4294967296 by omega)]
      rw [q2, List.getElem?_eq_getElem h, List.getElem?_eq_getElem hm']
      rfl

/-- The entry that comes next. -/
def nxt (xs : List TApplied) (out : List TEntry) : Option TEntry := (xs.find? fun a => iEq a.2.2.1 ((out.length : Int) + 1)).map fun a => a.2.2.2
def stE (xs : List TApplied) (out : List TEntry) : (List TEntry × Bool × Unit) ⊕ List TEntry := match nxt xs out with | none => .inl (out, true, ()) | some e => .inr (out ++ [e])
def InvE (xs : List TApplied) (out : List TEntry) : Prop := ∀ i : Nat, 1 ≤ i → i ≤ out.length → (i : Int) ∈ xs.map fun a => a.2.2.1
theorem inv_len {xs : List TApplied} {out : List TEntry} (h : InvE xs out) : out.length ≤ xs.length := by
  have := pigeon out.length _ h
  simpa using this
theorem inv_step {xs : List TApplied} {out : List TEntry} {e : TEntry} (h : InvE xs out) (hn : nxt xs out = some e) : InvE xs (out ++ [e]) := by
  intro i h1 h2
  simp only [List.length_append, List.length_singleton] at h2
  by_cases hi : i ≤ out.length
  · exact h i h1 hi
  · have : i = out.length + 1 := by omega
    subst this
    unfold nxt at hn
    cases hf : xs.find? (fun a => iEq a.2.2.1 ((out.length : Int) + 1)) with
    | none => rw [hf] at hn; cases hn
    | some a =>
      have hp := List.find?_some hf
      have hm := List.mem_of_find?_eq_some hf
      refine List.mem_map.2 ⟨a, hm, ?_⟩
      rw [iEq_def] at hp
      have := eq_of_beq hp
      simpa using this
def gE (xs : List TApplied) (out : List TEntry) : Option (List TEntry × Bool × Unit) := iterG (stE xs) (xs.length + 1 - out.length) out
theorem gE_none {xs : List TApplied} {out : List TEntry} (h : InvE xs out) (hn : nxt xs out = none) : gE xs out = some (out, true, ()) := by
  have := inv_len h
  obtain ⟨k, hk⟩ : ∃ k, xs.length + 1 - out.length = k + 1 := ⟨xs.length - out.length, by omega⟩
  rw [gE, hk, iterG, stE, hn]
theorem gE_some {xs : List TApplied} {out : List TEntry} {e : TEntry} (h : InvE xs out) (hn : nxt xs out = some e) : gE xs out = gE xs (out ++ [e]) := by
  have := inv_len (inv_step h hn)
  simp only [List.length_append, List.length_singleton] at this
  obtain ⟨k, hk⟩ : ∃ k, xs.length + 1 - out.length = k + 1 := ⟨xs.length - out.length, by omega⟩
  rw [gE, hk, iterG, stE, hn]
  have : xs.length + 1 - (out ++ [e]).length = k := by simp; omega
  rw [gE, this]
theorem gE_ok {xs : List TApplied} : ∀ (k : Nat) (out : List TEntry), InvE xs out → xs.length - out.length = k → ∃ w, gE xs out = some (w, true, ()) ∧ w.length ≤ xs.length := by
  intro k
  induction k with
  | zero =>
    intro out h hk
    cases hn : nxt xs out with
    | none => exact ⟨out, gE_none h hn, inv_len h⟩
    | some e =>
      have := inv_len (inv_step h hn)
      simp only [List.length_append, List.length_singleton] at this
      omega
  | succ k ih =>
    intro out h hk
    cases hn : nxt xs out with
    | none => exact ⟨out, gE_none h hn, inv_len h⟩
    | some e =>
      rw [gE_some h hn]
      exact ih _ (inv_step h hn) (by simp; omega)

theorem find_idx (xs : List TApplied) (p : TApplied → Bool) : xs.find? p = (xs.findIdx? p).bind fun i => xs[i]? := by
  cases h : xs.findIdx? p with
  | none =>
    rw [List.findIdx?_eq_none_iff] at h
    simp only [Option.bind_none, List.find?_eq_none]
    intro x hx; rw [h x hx]; simp
  | some i =>
    rw [List.findIdx?_eq_some_iff_getElem] at h
    obtain ⟨hi, hp, hj⟩ := h
    simp only [Option.bind_some, List.getElem?_eq_getElem hi]
    rw [List.find?_eq_some_iff_getElem]
    exact ⟨hp, i, hi, rfl, fun j hj' => by simpa using hj j hj'⟩

theorem impl22 (xs : List TApplied) (hl : xs.length ≤ 1048576) (hs : (xs.any fun a => xs.any (qB a)) = false) : F22 (xs, ()) = gE xs [] := by
  unfold F22
  rw [impl73 xs (by omega), bindK_pure, hs]
  simp only [bNot_def, Bool.not_false, Bool.not_true, cond_false]
  refine loop_eq (σ := List TEntry × Unit) (fun s => InvE xs s.1) (fun s => xs.length - s.1.length) (fun s => gE xs s.1) (fun rec s hs hr => ?_) NN ([], ()) (fun i h1 h2 => by simp at h2; omega) (NN_len (by simp; omega))
  obtain ⟨out, u⟩ := s
  simp only at hs
  have hol := inv_len hs
  have hfind := loop_find (xs := xs) (F := fun rec3 (s4 : Int × List TEntry × Unit) =>
    bif iLt s4.1 (lenI xs) then idxK xs s4.1 fun y5 =>
    bindK (some (iEq y5.2.2.1 (iAdd .i64 (lenI s4.2.1) 1), ())) fun y6 =>
    bif y6.1 then some (s4.1, ()) else rec3 (iAdd .i64 s4.1 1, s4.2) else some ((-1), ())) (fun i => (i, out, ())) (fun a => iEq a.2.2.1 ((out.length : Int) + 1)) (fun i => some ((i : Int), ())) (some (-1, ()))
    (fun rec3 => by simp only [iLt_len, Nat.lt_irrefl, decide_false, cond_false])
    (fun rec3 n h => by
      simp only [iLt_len, h, decide_true, cond_true, idxK_lt h, bindK_pure]
      rw [lenI_def, iAdd64 (by omega), iAdd_nat (by omega)]) (by omega)
  rw [hfind]
  have hnx : nxt xs out = ((xs.findIdx? fun a => iEq a.2.2.1 ((out.length : Int) + 1)).bind fun i => xs[i]?).map fun a => a.2.2.2 := by rw [nxt, find_idx]
  cases hi : xs.findIdx? fun a => iEq a.2.2.1 ((out.length : Int) + 1) with
  | none =>
    rw [hi] at hnx
    simp only [bindK_pure]
    have : iLt (-1) 0 = true := by rw [iLt_def]; rfl
    rw [this, cond_true]
    exact (gE_none hs hnx).symm
  | some i =>
    rw [hi] at hnx
    rw [List.findIdx?_eq_some_iff_getElem] at hi
    obtain ⟨hlt, _⟩ := hi
    simp only [Option.bind_some, List.getElem?_eq_getElem hlt, Option.map_some] at hnx
    simp only [bindK_pure]
    have : iLt (i : Int) 0 = false := by rw [iLt_def]; simp
    rw [this, cond_false, idxK_lt hlt, guardK_pos (gApp_pos (by simp; omega)), cat_def]
    have hst := inv_step hs hnx
    have hsl := inv_len hst
    rw [hr (out ++ [xs[i].2.2.2], ()) hst (by simp at hsl ⊢; omega)]
    exact (gE_some hs hnx).symm

theorem spec20 (xs : List TApplied) (hl : xs.length ≤ 1048576) (hs : (xs.any fun a => xs.any (qB a)) = false) : F20 (xs, ()) = gE xs [] := by
  unfold F20
  rw [spec71 xs (by omega), bindK_pure, hs]
  simp only [bNot_def, Bool.not_false, Bool.not_true, cond_false]
  refine loop_eq (σ := Bool × List TEntry × Unit) (fun s => InvE xs s.2.1) (fun s => 2 * (xs.length - s.2.1.length) + (bif s.1 then 1 else 0)) (fun s => bif s.1 then gE xs s.2.1 else some (s.2.1, true, ())) (fun rec s hs hr => ?_) NN (true, [], ()) (fun i h1 h2 => by simp at h2; omega) (NN_len (by simp; omega))
  obtain ⟨fd, out, u⟩ := s
  simp only at hs
  cases fd with
  | false => rfl
  | true =>
    simp only [cond_true]
    have hol := inv_len hs
    have hnx : nxt xs out = (xs.find? fun a => iEq a.2.2.1 ((out.length : Int) + 1)).map fun a => a.2.2.2 := rfl
    have hin : ∀ N, xs.length < N → loopF (fun rec3 (s4 : Int × Bool × List TEntry × Unit) =>
      bindK (bif iLt s4.1 (lenI xs) then some (!s4.2.1) else some false) fun y5 =>
      bif y5 then idxK xs s4.1 fun y6 =>
      joinK (fun (s7 : Bool × List TEntry × Unit) =>
      rec3 (iAdd .i64 s4.1 1, s7)) fun k8 =>
      bif iEq y6.2.2.1 (iAdd .i64 (lenI s4.2.2.1) 1) then idxK xs s4.1 fun y9 =>
      guardK (gApp s4.2.2.1 [y9.2.2.2] 3) <|
      k8 (true, cat s4.2.2.1 [y9.2.2.2], ()) else k8 s4.2 else rec s4.2) N (0, false, out, ()) =
        match xs.find? (fun a => iEq a.2.2.1 ((out.length : Int) + 1)) with | some a => rec (true, out ++ [a.2.2.2], ()) | none => rec (false, out, ()) := by
      intro N hN
      have := loop_list (xs := xs) (a := Bool × List TEntry × Unit) (σ := Int × Bool × List TEntry × Unit) (F := fun rec3 (s4 : Int × Bool × List TEntry × Unit) =>
        bindK (bif iLt s4.1 (lenI xs) then some (!s4.2.1) else some false) fun y5 =>
        bif y5 then idxK xs s4.1 fun y6 =>
        joinK (fun (s7 : Bool × List TEntry × Unit) =>
        rec3 (iAdd .i64 s4.1 1, s7)) fun k8 =>
        bif iEq y6.2.2.1 (iAdd .i64 (lenI s4.2.2.1) 1) then idxK xs s4.1 fun y9 =>
        guardK (gApp s4.2.2.1 [y9.2.2.2] 3) <|
        k8 (true, cat s4.2.2.1 [y9.2.2.2], ()) else k8 s4.2 else rec s4.2) (fun i s => (i, s)) (fun n s => s.1 = true ∨ s = (false, out, ()))
        (fun s r => bif s.1 then rec s else match r.find? (fun a => iEq a.2.2.1 ((out.length : Int) + 1)) with | some a => rec (true, out ++ [a.2.2.2], ()) | none => rec (false, out, ()))
        (fun rec3 s hs => ?_) (fun rec3 n h s hs hr => ?_) N (false, out, ()) (.inr rfl) hN
      · exact this
      · simp only [iLt_len, Nat.lt_irrefl, decide_false, cond_false, bindK_pure]
        rcases hs with hs | rfl
        · rw [hs, cond_true]
        · rfl
      · simp only [iLt_len, h, decide_true, cond_true, bindK_pure]
        rcases hs with hs | rfl
        · rw [hs]; simp
        · simp only [Bool.not_false, cond_true, cond_false]
          rw [idxK_lt h, joinK_def]
          simp only [lenI_def]
          rw [iAdd64 (a := (out.length : Int)) (by omega), iAdd_nat (by omega)]
          simp only [List.find?_cons]
          cases hp : iEq xs[n].2.2.1 ((out.length : Int) + 1) with
          | true =>
            simp only [cond_true]
            rw [idxK_lt h, guardK_pos (gApp_pos (by simp; omega)), cat_def, hr _ (.inl rfl)]
            rfl
          | false =>
            simp only [cond_false]
            rw [hr _ (.inr rfl)]
            rfl
    rw [hin NN (NN_len (by omega))]
    cases hf : xs.find? (fun a => iEq a.2.2.1 ((out.length : Int) + 1)) with
    | none =>
      simp only
      rw [hf] at hnx
      rw [hr (false, out, ()) hs (by simp)]
      exact (gE_none hs hnx).symm
    | some a =>
      simp only
      rw [hf] at hnx
      have hst := inv_step hs hnx
      have hsl := inv_len hst
      rw [hr (true, out ++ [a.2.2.2], ()) hst (by simp at hsl ⊢; omega)]
      exact (gE_some hs hnx).symm

theorem both (xs : List TApplied) (hl : xs.length ≤ 1048576) : ∃ (w : List TEntry) (b : Bool), F20 (xs, ()) = some (w, b, ()) ∧ F22 (xs, ()) = some (w, b, ()) ∧ w.length ≤ 1048576 := by
  cases hs : (xs.any fun a => xs.any (qB a)) with
  | true =>
    refine ⟨[], false, ?_, ?_, by simp⟩
    · unfold F20; rw [spec71 xs (by omega), bindK_pure, hs]; simp [bNot_def]
    · unfold F22; rw [impl73 xs (by omega), bindK_pure, hs]; simp [bNot_def]
  | false =>
    obtain ⟨w, h1, h2⟩ := gE_ok _ [] (fun i h1 h2 => by simp at h2; omega) rfl
    exact ⟨w, true, (spec20 xs hl hs).trans h1, (impl22 xs hl hs).trans h1, by omega⟩

theorem law0 (xs : List TApplied) (hb : Kd.bulk (.sl 6 KApplied) xs ≤ 1048576) : F4 (xs, ()) = some (true, ()) := by
  have e1 : Kd.bulk (.sl 6 KApplied) xs = (List.map (Kd.bulk KApplied) xs).sum + 1 := rfl
  have he : ∀ y : TApplied, Kd.bulk KApplied y = (1 + (1 + (1 + (1 + (1 + (y.2.2.2.2.2.1.length + 1 + 0)))))) + 1 := fun y => rfl
  have l1 := bulk_mul (e := KApplied) (c := 6) xs fun y _ => by have := he y; omega
  have l1 : List.length (α := TApplied) xs * 6 ≤ (List.map (Kd.bulk KApplied) xs).sum := l1
  have hl6 : List.length (α := TApplied) xs * 6 ≤ 1048576 := by omega
  have hl : xs.length ≤ 1048576 := by omega
  obtain ⟨w, b, h1, h2, h3⟩ := both xs hl
  unfold F4
  obtain ⟨r, hr⟩ := sz19 xs (1048576, ()) (by omega)
  simp only [hr, bindK_pure]
  cases iLt r.1 0 with
  | true => rfl
  | false =>
    have p1 : ∀ (n : Nat), iLt ((1 : Int) + ((6 : Nat) : Int) * (n : Int)) 0 = false := by intro n; rw [iLt_def]; simp; omega
    have p2 : ∀ (n : Nat), iLt ((1 : Int) + ((3 : Nat) : Int) * (n : Int)) 0 = false := by intro n; rw [iLt_def]; simp; omega
    simp only [cond_false, to21 xs (by omega), bindK_pure, h1, h2, eq23 w (by omega), eq24 xs (by omega), mark25 xs hl, mark26 w h3, held27 w h3, bNot_def, Bool.not_true, bNe_def, bne_self_eq_false, p1, p2, iNe_def]
theorem law (x : Kd.dens (insK (datL lawTys))) (_ : Kd.inRs (insK (datL lawTys)) x) (hb : Kd.bulks (insK (datL lawTys)) x ≤ 1048576) : ∃ z, F4 x = some (true, z) :=
  ⟨(), law0 x.1 (Nat.le_trans (Nat.le_add_right _ _) hb)⟩
end
end Go.Proofs.Ytiamdibpgdkedaa.En
