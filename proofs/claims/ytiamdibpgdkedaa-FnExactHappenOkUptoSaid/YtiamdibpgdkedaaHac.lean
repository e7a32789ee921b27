/- The two ways to tell whether an event of a life is right tell the same. -/
import Derived.Test.YtiamdibpgdkedaaHab
import Derived.Test.YtiamdibpgdkedaaG10
namespace Go.Proofs.Ytiamdibpgdkedaa.Ha
open Go Go.Am
set_option linter.unusedVariables false
set_option linter.unusedSimpArgs false

noncomputable section
/-! ### the law's helpers -/
theorem sz82 (x : List Int × Int × Unit) : F82 x = some (bif iLt (iSub .i64 x.2.1 (lenI x.1)) 0 then ((-1), ()) else (iSub .i64 x.2.1 (lenI x.1), ())) := by unfold F82; rw [cond_some]
theorem sz159 (x : TEvent) (v : Int × Unit) : ∃ r, F159 (x, v) = some r := by
  unfold F159; simp only [sz82, bindK_pure, cond_some]; exact ⟨_, rfl⟩
theorem sz81 (x : TCommand) (v : Int × Unit) : ∃ r, F81 (x, v) = some r := by
  unfold F81
  obtain ⟨r, h⟩ := sz159 (x.2.2.2.1, x.2.2.2.2.1, x.2.2.2.2.2.1, x.2.2.2.2.2.2.1, x.2.2.2.2.2.2.2.1, x.2.2.2.2.2.2.2.2.1, x.2.2.2.2.2.2.2.2.2.1, x.2.2.2.2.2.2.2.2.2.2.1, x.2.2.2.2.2.2.2.2.2.2.2.1, ()) v
  simp only [h, bindK_pure, cond_some]; exact ⟨_, rfl⟩
theorem sz30 (x : THappen) (v : Int × Unit) : ∃ r, F30 (x, v) = some r := by
  unfold F30
  generalize hc : F81 _ = c
  obtain ⟨r, h⟩ : ∃ r, c = some r := by rw [← hc]; exact sz81 _ _
  rw [h]
  simp only [sz82, bindK_pure, cond_some]; exact ⟨_, rfl⟩
theorem to51 (xs : List Int) (hl : xs.length ≤ 1048576) : F51 (xs, ()) = some (xs, ()) := toP_ok (xs := xs) (by omega) (by omega)
theorem to163 (x : TEvent) (h1 : x.2.2.2.2.2.1.length ≤ 1048576) (h2 : x.2.2.2.2.2.2.2.1.length ≤ 1048576) : F163 (x, ()) = some (x, ()) := by
  unfold F163
  simp only [to51 _ h1, to51 _ h2, bindK_pure]
theorem to86 (x : TCommand) (h1 : x.2.2.2.2.2.2.2.2.1.length ≤ 1048576) (h2 : x.2.2.2.2.2.2.2.2.2.2.1.length ≤ 1048576) : F86 (x, ()) = some (x, ()) := by
  unfold F86
  rw [to163 _ h1 h2, bindK_pure]
theorem to32 (x : THappen) (h1 : x.2.2.2.2.2.2.2.2.2.2.2.2.1.length ≤ 1048576) (h2 : x.2.2.2.2.2.2.2.2.2.2.2.2.2.2.1.length ≤ 1048576) (h3 : x.2.2.2.2.2.2.2.2.2.2.2.2.2.2.2.2.2.2.1.length ≤ 1048576) (h4 : x.2.2.2.2.2.2.2.2.2.2.2.2.2.2.2.2.2.2.2.2.2.1.length ≤ 1048576) : F32 (x, ()) = some (x, ()) := by
  unfold F32
  rw [to86 _ h1 h2]
  simp only [to51 _ h3, to51 _ h4, bindK_pure]
theorem eq52 (xs : List Int) (hl : xs.length ≤ 1048576) : F52 (xs, xs, ()) = some (true, ()) := eqP_refl (xs := xs) (ne := iNe) (fun y => by simp [iNe_def]) (by omega)
theorem eq167 (x : TEvent) (h1 : x.2.2.2.2.2.1.length ≤ 1048576) (h2 : x.2.2.2.2.2.2.2.1.length ≤ 1048576) : F167 (x, x, ()) = some (true, ()) := by
  unfold F167
  simp only [eq52 _ h1, eq52 _ h2, bindK_pure, iNe_def, strEq_def, bNot_def, bne_self_eq_false, beq_self_eq_true, Bool.not_true, cond_false]
theorem eq90 (x : TCommand) (h1 : x.2.2.2.2.2.2.2.2.1.length ≤ 1048576) (h2 : x.2.2.2.2.2.2.2.2.2.2.1.length ≤ 1048576) : F90 (x, x, ()) = some (true, ()) := by
  unfold F90
  rw [eq167 _ h1 h2]
  simp only [bindK_pure, iNe_def, bNot_def, bne_self_eq_false, Bool.not_true, cond_false]
theorem eq34 (x : THappen) (h1 : x.2.2.2.2.2.2.2.2.2.2.2.2.1.length ≤ 1048576) (h2 : x.2.2.2.2.2.2.2.2.2.2.2.2.2.2.1.length ≤ 1048576) (h3 : x.2.2.2.2.2.2.2.2.2.2.2.2.2.2.2.2.2.2.1.length ≤ 1048576) (h4 : x.2.2.2.2.2.2.2.2.2.2.2.2.2.2.2.2.2.2.2.2.2.1.length ≤ 1048576) : F34 (x, x, ()) = some (true, ()) := by
  unfold F34
  rw [eq90 _ h1 h2]
  simp only [eq52 _ h3, eq52 _ h4, bindK_pure, iNe_def, bNe_def, bNot_def, bne_self_eq_false, Bool.not_true, cond_false]

/-! ### events -/
theorem in83 (x lo hi : Int) : F83 (x, lo, hi, ()) = some (inB x lo hi, ()) := in_ok x lo hi
theorem in87 (x lo hi : Int) : F87 (x, lo, hi, ()) = some (inB x lo hi, ()) := in_ok x lo hi
def lvB (xs : List Int) : Bool := !(xs.any fun n => !inB n 0 100) && iEq (lenI xs) 5
theorem lv200 (xs : List Int) (hl : xs.length ≤ 4294967296) : F200 (xs, ()) = some (lvB xs, ()) := by
  have e : some (lvB xs, ()) = bif (xs.any fun n => !inB n 0 100) then some (false, ()) else some (iEq (lenI xs) 5, ()) := by
    unfold lvB; cases xs.any _ <;> rfl
  rw [e]
  unfold F200
  refine loop_any _ _ _ (fun rec => ?_) (fun rec n h => ?_) hl
  · simp only [iLt_len, Nat.lt_irrefl, decide_false, cond_false]
  · simp only [iLt_len, h, decide_true, cond_true, idxK_lt h, in83, bindK_pure, bNot_def, iAdd_nat (show n ≤ 4294967296 by omega)]
theorem lv201 (x : TEvent) (hl : x.2.2.2.2.2.1.length ≤ 4294967296) : F201 (x, ()) = some (bif iEq x.2.1 3 then lvB x.2.2.2.2.2.1 else iEq (lenI x.2.2.2.2.2.1) 0, ()) := by
  unfold F201
  rw [iNe_eq]
  cases iEq x.2.1 3 with
  | false => rfl
  | true =>
    simp only [Bool.not_true, cond_false, cond_true]
    rw [← lv200 _ hl]
    rfl
def bodyB (x : TEvent) : Bool := (inB x.2.1 1 5 && inB x.2.2.1 1 5) && ((bif iEq x.2.1 2 then inB x.2.2.2.1 1 5 && inB x.2.2.2.2.1 0 3 else iEq x.2.2.2.1 0 && iEq x.2.2.2.2.1 0) &&
  ((bif iEq x.2.1 3 then lvB x.2.2.2.2.2.1 else iEq (lenI x.2.2.2.2.2.1) 0) && (bif iEq x.2.1 4 || iEq x.2.1 5 then iLe (lenI x.2.2.2.2.2.2.1) 24 else strEq x.2.2.2.2.2.2.1 (litS []))))
theorem body161 (x : TEvent) (hl : x.2.2.2.2.2.1.length ≤ 4294967296) : F161 (x, ()) = some (bodyB x, ()) := by
  unfold F161
  simp only [in83, lv200 _ hl, bindK_pure, cond_or, cond_and, bNot_def, cond_some, cond_pair, iNe_eq, len0, bodyB]
  congr 2
  generalize inB x.2.1 1 5 = a1; generalize inB x.2.2.1 1 5 = a2; generalize iEq x.2.1 2 = k2; generalize iEq x.2.1 3 = k3; generalize iEq x.2.1 4 = k4; generalize iEq x.2.1 5 = k5
  generalize inB x.2.2.2.1 1 5 = b1; generalize inB x.2.2.2.2.1 0 3 = b2; generalize iEq x.2.2.2.1 0 = b3; generalize iEq x.2.2.2.2.1 0 = b4
  generalize lvB x.2.2.2.2.2.1 = c1; generalize iEq (lenI x.2.2.2.2.2.1) 0 = c2; generalize iLe (lenI x.2.2.2.2.2.2.1) 24 = c3; generalize strEq _ _ = c4
  revert a1 a2 k2 k3 k4 k5 b1 b2 b3 b4 c1 c2 c3 c4
  decide +kernel
def prevB (x : TEvent) : Bool := (iLe (lenI x.2.2.2.2.2.2.2.1) 3 && bEq (iEq x.2.1 1) (iEq (lenI x.2.2.2.2.2.2.2.1) 0)) && riseP (fun n => inB n 1 1000000 && !iEq n x.1) none x.2.2.2.2.2.2.2.1
theorem prev202 (x : TEvent) (hl : x.2.2.2.2.2.2.2.1.length ≤ 4294967296) : F202 (x, ()) = some (prevB x, ()) := by
  have e : some (prevB x, ()) = bif riseP (fun n => inB n 1 1000000 && !iEq n x.1) none x.2.2.2.2.2.2.2.1 then some ((iLe (lenI x.2.2.2.2.2.2.2.1) 3 && bEq (iEq x.2.1 1) (iEq (lenI x.2.2.2.2.2.2.2.1) 0)), ()) else some (false, ()) := by
    unfold prevB; cases riseP _ _ _ <;> simp
  rw [e]
  unfold F202
  refine loop_rise _ _ _ (fun rec => ?_) (fun rec n h => ?_) hl
  · simp only [iLt_len, Nat.lt_irrefl, decide_false, cond_false, cond_and, bindK_pure]
  · simp only [iLt_len, h, decide_true, cond_true, idxK_lt h, in87, bindK_pure, bNot_def, cond_or, iAdd_nat (show n ≤ 4294967296 by omega)]
    rw [prev_get1 h _ hl, cond_or, bindK_pure]
    congr 1
    cases inB _ _ _ <;> cases iEq _ _ <;> simp
def eventB (x : TEvent) : Bool := (inB x.1 1 1000000 && inB x.2.2.2.2.2.2.2.2.1 0 1000000) && (bodyB x && prevB x)
theorem event162 (x : TEvent) (h1 : x.2.2.2.2.2.1.length ≤ 4294967296) (hl : x.2.2.2.2.2.2.2.1.length ≤ 4294967296) : F162 (x, ()) = some (eventB x, ()) := by
  unfold F162
  simp only [body161 x h1, in83, bindK_pure, cond_or, bNot_def]
  have hloop : ∀ L : Option (Bool × Unit), L = (bif riseP (fun n => inB n 1 1000000 && !iEq n x.1) none x.2.2.2.2.2.2.2.1 then some (true, ()) else some (false, ())) → (bif (!bodyB x || !inB x.1 1 1000000 || !inB x.2.2.2.2.2.2.2.2.1 0 1000000 || iGt (lenI x.2.2.2.2.2.2.2.1) 3 || bNe (iEq x.2.1 1) (iEq (lenI x.2.2.2.2.2.2.2.1) 0)) then some (false, ()) else L) = some (eventB x, ()) := by
    intro L hL
    rw [hL, gt_le]
    simp only [cond_some, cond_pair, eventB, prevB, bEq_def, bNe_def]
    congr 2
    generalize bodyB x = a1; generalize inB x.1 1 1000000 = a2; generalize inB x.2.2.2.2.2.2.2.2.1 0 1000000 = a3; generalize iLe _ 3 = a4; generalize iEq x.2.1 1 = a5; generalize iEq _ 0 = a6; generalize riseP _ _ _ = a7
    revert a1 a2 a3 a4 a5 a6 a7
    decide +kernel
  refine hloop _ ?_
  refine loop_rise _ _ _ (fun rec => ?_) (fun rec n h => ?_) hl
  · simp only [iLt_len, Nat.lt_irrefl, decide_false, cond_false]
  · simp only [iLt_len, h, decide_true, cond_true]
    rw [idxK_lt h]
    have e1 : (bif (!inB x.2.2.2.2.2.2.2.1[n] 1 1000000) then some true else idxK x.2.2.2.2.2.2.2.1 (n : Int) fun y11 => some (iEq y11 x.1)) = some (!inB x.2.2.2.2.2.2.2.1[n] 1 1000000 || iEq x.2.2.2.2.2.2.2.1[n] x.1) := by
      rw [idxK_lt h, cond_or]
    rw [e1, bindK_pure, prev_get h _ hl, cond_or, bindK_pure, iAdd_nat (show n ≤ 4294967296 by omega)]
    congr 1
    cases inB _ _ _ <;> cases iEq _ _ <;> simp
theorem kinds (k : Int) : (!(iEq k 1 && iEq k 2) && !(iEq k 2 && iEq k 3) && !(iEq k 2 && iEq k 4) && !(iEq k 2 && iEq k 5) && !(iEq k 1 && iEq k 3) && !(iEq k 1 && iEq k 4) && !(iEq k 1 && iEq k 5) && !(iEq k 3 && iEq k 4) && !(iEq k 3 && iEq k 5) && !(iEq k 4 && iEq k 5) && (inB k 1 5 == (iEq k 1 || (iEq k 2 || (iEq k 3 || (iEq k 4 || iEq k 5)))))) = true := by
  simp only [iEq_def, inB, iGe_def, iLe_def]
  by_cases h1 : k = 1
  · subst h1; decide
  by_cases h2 : k = 2
  · subst h2; decide
  by_cases h3 : k = 3
  · subst h3; decide
  by_cases h4 : k = 4
  · subst h4; decide
  by_cases h5 : k = 5
  · subst h5; decide
  have : (decide (k ≥ 1) && decide (k ≤ 5)) = false := by
    rw [Bool.eq_false_iff]
    intro e
    simp at e
    omega
  simp [h1, h2, h3, h4, h5, this]
theorem kinds6 (k : Int) : (iEq k 1 = true ∧ iEq k 2 = false ∧ iEq k 3 = false ∧ iEq k 4 = false ∧ iEq k 5 = false ∧ inB k 1 5 = true) ∨ (iEq k 1 = false ∧ iEq k 2 = true ∧ iEq k 3 = false ∧ iEq k 4 = false ∧ iEq k 5 = false ∧ inB k 1 5 = true) ∨
    (iEq k 1 = false ∧ iEq k 2 = false ∧ iEq k 3 = true ∧ iEq k 4 = false ∧ iEq k 5 = false ∧ inB k 1 5 = true) ∨ (iEq k 1 = false ∧ iEq k 2 = false ∧ iEq k 3 = false ∧ iEq k 4 = true ∧ iEq k 5 = false ∧ inB k 1 5 = true) ∨
    (iEq k 1 = false ∧ iEq k 2 = false ∧ iEq k 3 = false ∧ iEq k 4 = false ∧ iEq k 5 = true ∧ inB k 1 5 = true) ∨ (iEq k 1 = false ∧ iEq k 2 = false ∧ iEq k 3 = false ∧ iEq k 4 = false ∧ iEq k 5 = false ∧ inB k 1 5 = false) := by
  have h := kinds k
  revert h
  generalize iEq k 1 = k1; generalize iEq k 2 = k2; generalize iEq k 3 = k3; generalize iEq k 4 = k4; generalize iEq k 5 = k5; generalize inB k 1 5 = kk
  cases k1 <;> cases k2 <;> cases k3 <;> cases k4 <;> cases k5 <;> cases kk <;> simp
theorem text_len (s : List UInt8) : (!(strEq s (litS [])) || iLe (lenI s) 24) = true := by
  rw [strEq_def, litS_def]
  cases s with
  | nil => simp [iLe_def, lenI_def]
  | cons => simp
theorem event166 (x : TEvent) (h1 : x.2.2.2.2.2.1.length ≤ 4294967296) (hl : x.2.2.2.2.2.2.2.1.length ≤ 4294967296) : F166 (x, ()) = some (eventB x, ()) := by
  unfold F166
  simp only [lv201 x h1, prev202 x hl, in87, bindK_pure, cond_or, cond_and, bNot_def, cond_some, cond_pair, eventB, bodyB]
  congr 2
  have hk := kinds x.2.1
  have ht := text_len x.2.2.2.2.2.2.1
  revert hk ht
  generalize inB x.2.1 1 5 = a1; generalize inB x.2.2.1 1 5 = a2; generalize iEq x.2.1 1 = k1; generalize iEq x.2.1 2 = k2; generalize iEq x.2.1 3 = k3; generalize iEq x.2.1 4 = k4; generalize iEq x.2.1 5 = k5
  generalize (inB x.2.2.2.1 1 5) = b1; generalize inB x.2.2.2.2.1 0 3 = b2; generalize (iEq x.2.2.2.1 0) = b3; generalize iEq x.2.2.2.2.1 0 = b4
  generalize (bif k3 then lvB x.2.2.2.2.2.1 else iEq (lenI x.2.2.2.2.2.1) 0) = c1; generalize iLe (lenI x.2.2.2.2.2.2.1) 24 = c3; generalize strEq _ _ = c4
  generalize inB x.1 1 1000000 = d1; generalize inB x.2.2.2.2.2.2.2.2.1 0 1000000 = d2; generalize prevB x = d3
  intro hk ht
  cases d1 <;> cases d2 <;> cases d3 <;> cases a2 <;> cases c1 <;> simp only [Bool.not_true, Bool.not_false, Bool.true_or, Bool.or_true, Bool.false_or, Bool.or_false, Bool.true_and, Bool.and_true, Bool.false_and, Bool.and_false, cond_true, cond_false]
  all_goals (revert hk ht; revert a1 k1 k2 k3 k4 k5 b1 b2 b3 b4 c3 c4; decide +kernel)

/-! ### commands -/
def ev (x : TCommand) : TEvent := (x.2.2.2.1, x.2.2.2.2.1, x.2.2.2.2.2.1, x.2.2.2.2.2.2.1, x.2.2.2.2.2.2.2.1, x.2.2.2.2.2.2.2.2.1, x.2.2.2.2.2.2.2.2.2.1, x.2.2.2.2.2.2.2.2.2.2.1, x.2.2.2.2.2.2.2.2.2.2.2.1, ())
def noEv : TEvent := (0, 0, 0, 0, 0, [], litS [], [], 0, ())
def blankB (x : TEvent) : Bool := (iEq x.1 0 && (iEq x.2.1 0 && (iEq x.2.2.1 0 && (iEq x.2.2.2.1 0 && iEq x.2.2.2.2.1 0)))) && ((x.2.2.2.2.2.1 == []) && (strEq x.2.2.2.2.2.2.1 (litS []) && ((x.2.2.2.2.2.2.2.1 == []) && iEq x.2.2.2.2.2.2.2.2.1 0)))
theorem eq177 (xs ys : List Int) (hl : xs.length ≤ 4294967296) : F177 (xs, ys, ()) = some (xs == ys, ()) := eqI_ok xs ys hl
theorem eq204 (xs ys : List Int) (hl : xs.length ≤ 4294967296) : F204 (xs, ys, ()) = some (xs == ys, ()) := eqI_ok xs ys hl
theorem blank164 (x : TEvent) (h1 : x.2.2.2.2.2.1.length ≤ 4294967296) (hl : x.2.2.2.2.2.2.2.1.length ≤ 4294967296) : F164 (x, noEv, ()) = some (blankB x, ()) := by
  unfold F164 noEv
  simp only [eq177 _ _ h1, eq177 _ _ hl, bindK_pure, cond_and, blankB]
  congr 2
  generalize iEq x.1 0 = a1; generalize iEq x.2.1 0 = a2; generalize iEq x.2.2.1 0 = a3; generalize iEq x.2.2.2.1 0 = a4; generalize iEq x.2.2.2.2.1 0 = a5; generalize (x.2.2.2.2.2.1 == []) = a6; generalize strEq _ _ = a7; generalize (x.2.2.2.2.2.2.2.1 == []) = a8; generalize iEq _ 0 = a9
  revert a1 a2 a3 a4 a5 a6 a7 a8 a9
  decide +kernel
theorem blank160 (x : TEvent) (h1 : x.2.2.2.2.2.1.length ≤ 4294967296) (hl : x.2.2.2.2.2.2.2.1.length ≤ 4294967296) : F160 (x, ()) = some (blankB x, ()) := by
  unfold F160 F199
  simp only [eq204 _ _ h1, eq204 _ _ hl, bindK_pure, cond_and, blankB]
  congr 2
  generalize iEq x.1 0 = a1; generalize iEq x.2.1 0 = a2; generalize iEq x.2.2.1 0 = a3; generalize iEq x.2.2.2.1 0 = a4; generalize iEq x.2.2.2.2.1 0 = a5; generalize (x.2.2.2.2.2.1 == []) = a6; generalize strEq _ _ = a7; generalize (x.2.2.2.2.2.2.2.1 == []) = a8; generalize iEq _ 0 = a9
  revert a1 a2 a3 a4 a5 a6 a7 a8 a9
  decide +kernel
def sentB (x : TEvent) : Bool := bodyB x && (iEq x.1 0 && (iEq x.2.2.2.2.2.2.2.2.1 0 && iEq (lenI x.2.2.2.2.2.2.2.1) 0))
theorem sent165 (x : TEvent) (h1 : x.2.2.2.2.2.1.length ≤ 4294967296) (hl : x.2.2.2.2.2.2.2.1.length ≤ 4294967296) : F165 (x, ()) = some (sentB x, ()) := by
  unfold F165
  simp only [cond_or, bindK_pure, iNe_eq, len0]
  cases ha : iEq x.1 0 with
  | false => simp [sentB, ha]
  | true =>
    cases hd : iEq x.2.2.2.2.2.2.2.2.1 0 with
    | false => simp [sentB, ha, hd]
    | true =>
      cases hp : iEq (lenI x.2.2.2.2.2.2.2.1) 0 with
      | false => simp [sentB, ha, hd, hp]
      | true =>
        have hd0 : x.2.2.2.2.2.2.2.2.1 = 0 := by rw [iEq_def] at hd; exact eq_of_beq hd
        have hp0 : x.2.2.2.2.2.2.2.1 = [] := by
          rw [iEq_def, lenI_def] at hp
          have := eq_of_beq hp
          cases hx : x.2.2.2.2.2.2.2.1 with
          | nil => rfl
          | cons a b => rw [hx] at this; simp at this; omega
        have hs : sentB x = bodyB x := by simp [sentB, ha, hd, hp]
        rw [hs]
        simp only [Bool.not_true, Bool.or_false, cond_false, joinK_def]
        have i2 : inB 2 1 1000000 = true := by simp [inB, iGe_def, iLe_def]
        have i0 : inB 0 0 1000000 = true := by simp [inB, iGe_def, iLe_def]
        cases hk : iEq x.2.1 1 with
        | true =>
          simp only [Bool.not_true, cond_false]
          have hev := event166 (2, x.2) h1 (by show x.2.2.2.2.2.2.2.1.length ≤ _; rw [hp0]; simp)
          rw [hev, bindK_pure]
          congr 2
          simp only [eventB, bodyB, prevB, hk, hp0, hd0, i2, i0, riseP, lenI_def, iEq_def, iLe_def, bEq_def]
          simp
        | false =>
          simp only [Bool.not_false, cond_true]
          have hev := event166 (2, x.2.1, x.2.2.1, x.2.2.2.1, x.2.2.2.2.1, x.2.2.2.2.2.1, x.2.2.2.2.2.2.1, [1], x.2.2.2.2.2.2.2.2) h1 (by simp)
          rw [hev, bindK_pure]
          congr 2
          have i1 : inB 1 1 1000000 = true := by simp [inB, iGe_def, iLe_def]
          have e12 : iEq 1 2 = false := by rw [iEq_def]; rfl
          simp only [eventB, bodyB, prevB, hk, hd0, i2, i0, i1, e12, riseP, geO, lenI_def, bEq_def]
          have l1 : iLe (([1] : List Int).length : Int) 3 = true := by simp [iLe_def]
          have l0 : iEq (([1] : List Int).length : Int) 0 = false := by simp [iEq_def]
          rw [l1, l0]
          simp
def cmdB (x : TCommand) : Bool := (inB x.2.1 0 1000000 && inB x.2.2.1 0 1000000) && (bif iEq x.1 1 then (blankB (ev x) && (iEq x.2.2.2.2.2.2.2.2.2.2.2.2.1 0 && iEq x.2.2.2.2.2.2.2.2.2.2.2.2.2.1 0)) && (iEq x.2.1 0 && iEq x.2.2.1 0)
  else bif iEq x.1 2 then (iEq x.2.2.2.2.2.2.2.2.2.2.2.2.1 0 && iEq x.2.2.2.2.2.2.2.2.2.2.2.2.2.1 0) && sentB (ev x)
  else bif iEq x.1 3 then (iEq x.2.2.2.2.2.2.2.2.2.2.2.2.1 0 && iEq x.2.2.2.2.2.2.2.2.2.2.2.2.2.1 0) && (eventB (ev x) && iEq (iRem x.2.2.2.1 2) 1)
  else bif iEq x.1 4 then blankB (ev x) && (inB x.2.2.2.2.2.2.2.2.2.2.2.2.1 1 2 && inB x.2.2.2.2.2.2.2.2.2.2.2.2.2.1 0 1000000)
  else bif iEq x.1 5 then blankB (ev x) && (iEq x.2.2.2.2.2.2.2.2.2.2.2.2.1 0 && iEq x.2.2.2.2.2.2.2.2.2.2.2.2.2.1 0) else false)
theorem cmd88 (x : TCommand) (h1 : x.2.2.2.2.2.2.2.2.1.length ≤ 4294967296) (hl : x.2.2.2.2.2.2.2.2.2.2.1.length ≤ 4294967296) : F88 (x, ()) = some (cmdB x, ()) := by
  unfold F88
  have e1 := blank164 (ev x) h1 hl
  have e2 := sent165 (ev x) h1 hl
  have e3 := event166 (ev x) h1 hl
  unfold ev noEv at e1
  unfold ev at e2 e3
  simp only [e1, e2, e3, in87, bindK_pure, cond_or, cond_and, bNot_def, gNz_pos (show (2 : Int) ≠ 0 by omega), guardK_true, cond_some, cond_pair, cmdB, ev]
  congr 2
  generalize blankB _ = n; generalize sentB _ = b2; generalize eventB _ = b3; generalize iEq (iRem _ _) _ = b4
  generalize inB x.2.1 0 1000000 = r1; generalize inB x.2.2.1 0 1000000 = r2
  generalize iEq x.1 1 = k1; generalize iEq x.1 2 = k2; generalize iEq x.1 3 = k3; generalize iEq x.1 4 = k4; generalize iEq x.1 5 = k5
  generalize iEq x.2.2.2.2.2.2.2.2.2.2.2.2.1 0 = d0; generalize iEq x.2.2.2.2.2.2.2.2.2.2.2.2.2.1 0 = u0; generalize inB _ 1 2 = d1; generalize inB _ 0 1000000 = u1; generalize iEq x.2.1 0 = t0; generalize iEq x.2.2.1 0 = s0
  cases r1
  · rfl
  cases r2
  · rfl
  cases k1 <;> cases k2 <;> cases k3 <;> simp only [cond_true, cond_false, Bool.true_and] <;> decide +kernel +revert
theorem cmd84 (x : TCommand) (h1 : x.2.2.2.2.2.2.2.2.1.length ≤ 4294967296) (hl : x.2.2.2.2.2.2.2.2.2.2.1.length ≤ 4294967296) : F84 (x, ()) = some (cmdB x, ()) := by
  unfold F84
  have e1 := blank160 (ev x) h1 hl
  have e2 := body161 (ev x) h1
  have e3 := event162 (ev x) h1 hl
  unfold ev at e1 e2 e3
  simp only [e1, e2, e3, in83, bindK_pure, cond_or, cond_and, bNot_def, gNz_pos (show (2 : Int) ≠ 0 by omega), guardK_true, cond_some, cond_pair, cmdB, sentB, ev, iNe_eq]
  congr 2
  generalize blankB _ = n; generalize bodyB _ = b2; generalize eventB _ = b3; generalize iEq (iRem _ _) _ = b4
  generalize inB x.2.1 0 1000000 = r1; generalize inB x.2.2.1 0 1000000 = r2
  generalize iEq x.2.2.2.1 0 = i0; generalize iEq x.2.2.2.2.2.2.2.2.2.2.2.1 0 = p0; generalize iEq (lenI _) 0 = l0
  generalize iEq x.2.2.2.2.2.2.2.2.2.2.2.2.1 0 = d0; generalize iEq x.2.2.2.2.2.2.2.2.2.2.2.2.2.1 0 = u0; generalize inB _ 1 2 = d1; generalize inB x.2.2.2.2.2.2.2.2.2.2.2.2.2.1 0 1000000 = u1; generalize iEq x.2.1 0 = t0; generalize iEq x.2.2.1 0 = s0
  cases r1
  · cases r2 <;> simp
  cases r2
  · simp
  rcases kinds6 x.1 with ⟨e1, e2, e3, e4, e5, e6⟩ | ⟨e1, e2, e3, e4, e5, e6⟩ | ⟨e1, e2, e3, e4, e5, e6⟩ | ⟨e1, e2, e3, e4, e5, e6⟩ | ⟨e1, e2, e3, e4, e5, e6⟩ | ⟨e1, e2, e3, e4, e5, e6⟩ <;>
    simp only [e1, e2, e3, e4, e5, e6, cond_true, cond_false, Bool.not_true, Bool.not_false, Bool.true_and] <;> first | rfl | decide +kernel +revert

/-! ### confs, and the whole -/
def confB (xs : List Int) : Bool := inB (lenI xs) 1 4 && riseP (fun n => inB n 1 4) none xs
theorem rise117 (xs : List Int) (hl : xs.length ≤ 4294967296) : F117 (xs, 1, 4, ()) = some (riseP (fun n => inB n 1 4) none xs, ()) := by
  have e : some (riseP (fun n => inB n 1 4) none xs, ()) = bif riseP (fun n => inB n 1 4) none xs then some (true, ()) else some (false, ()) := by cases riseP _ _ _ <;> rfl
  rw [e]
  unfold F117
  refine loop_rise _ _ _ (fun rec => ?_) (fun rec n h => ?_) hl
  · simp only [iLt_len, Nat.lt_irrefl, decide_false, cond_false]
  · simp only [iLt_len, h, decide_true, cond_true]
    rw [idxK_lt h]
    simp only [in83, bindK_pure]
    have hb : ∀ (b : Bool), (bif bNot b then some true else bindK (bif iGt (n : Int) 0 then idxK xs (iSub .i64 (n : Int) 1) fun y4 => idxK xs (n : Int) fun y5 => some (iGe y4 y5) else some false) fun y6 => some y6) = some (!b || geO (prevO xs n) xs[n]) := by
      intro b
      rw [prev_get h _ hl, bNot_def, cond_or]
    rw [hb, bindK_pure, iAdd_nat (by omega)]
theorem conf85 (xs : List Int) (hl : xs.length ≤ 4294967296) : F85 (xs, ()) = some (confB xs, ()) := by
  unfold F85
  simp only [in83, rise117 xs hl, bindK_pure, cond_and, confB]
theorem conf89 (xs : List Int) (hl : xs.length ≤ 4294967296) : F89 (xs, ()) = some (confB xs, ()) := by
  have e : some (confB xs, ()) = bif riseP (fun n => inB n 1 4) none xs then some (inB (lenI xs) 1 4, ()) else some (false, ()) := by
    unfold confB; cases riseP _ _ _ <;> simp
  rw [e]
  unfold F89
  refine loop_rise _ _ _ (fun rec => ?_) (fun rec n h => ?_) hl
  · simp only [iLt_len, Nat.lt_irrefl, decide_false, cond_false, in87, bindK_pure]
  · simp only [iLt_len, h, decide_true, cond_true]
    rw [idxK_lt h]
    simp only [in87, bindK_pure]
    have hb : ∀ (b : Bool), (bif bNot b then some true else bindK (bif iGt (n : Int) 0 then idxK xs (iSub .i64 (n : Int) 1) fun y4 => some (iGe y4 xs[n]) else some false) fun y6 => some y6) = some (!b || geO (prevO xs n) xs[n]) := by
      intro b
      rw [prev_get1 h _ hl, bNot_def, cond_or]
    rw [hb, bindK_pure, iAdd_nat (by omega)]
def hcmd (x : THappen) : TCommand := (x.2.2.2.2.1, x.2.2.2.2.2.1, x.2.2.2.2.2.2.1, x.2.2.2.2.2.2.2.1, x.2.2.2.2.2.2.2.2.1, x.2.2.2.2.2.2.2.2.2.1, x.2.2.2.2.2.2.2.2.2.2.1, x.2.2.2.2.2.2.2.2.2.2.2.1, x.2.2.2.2.2.2.2.2.2.2.2.2.1, x.2.2.2.2.2.2.2.2.2.2.2.2.2.1, x.2.2.2.2.2.2.2.2.2.2.2.2.2.2.1, x.2.2.2.2.2.2.2.2.2.2.2.2.2.2.2.1, x.2.2.2.2.2.2.2.2.2.2.2.2.2.2.2.2.1, x.2.2.2.2.2.2.2.2.2.2.2.2.2.2.2.2.2.1, ())
theorem happen (n : Int) (x : THappen) (h1 : x.2.2.2.2.2.2.2.2.2.2.2.2.1.length ≤ 1048576) (h2 : x.2.2.2.2.2.2.2.2.2.2.2.2.2.2.1.length ≤ 1048576) (h3 : x.2.2.2.2.2.2.2.2.2.2.2.2.2.2.2.2.2.2.1.length ≤ 1048576) : ∃ b, F31 (n, x, ()) = some (b, ()) ∧ F33 (n, x, ()) = some (b, ()) := by
  have c1 := cmd84 (hcmd x) (Nat.le_trans h1 (by omega)) (Nat.le_trans h2 (by omega))
  have c2 := cmd88 (hcmd x) (Nat.le_trans h1 (by omega)) (Nat.le_trans h2 (by omega))
  have d1 := conf85 x.2.2.2.2.2.2.2.2.2.2.2.2.2.2.2.2.2.2.1 (Nat.le_trans h3 (by omega))
  have d2 := conf89 x.2.2.2.2.2.2.2.2.2.2.2.2.2.2.2.2.2.2.1 (Nat.le_trans h3 (by omega))
  have hix : ∃ q, bindK (bif confB x.2.2.2.2.2.2.2.2.2.2.2.2.2.2.2.2.2.2.1 then idxK x.2.2.2.2.2.2.2.2.2.2.2.2.2.2.2.2.2.2.1 (iSub .i64 (lenI x.2.2.2.2.2.2.2.2.2.2.2.2.2.2.2.2.2.2.1) 1) fun y12 => some (iLe y12 n) else some false) (fun y13 => some (y13, ())) = some (q, ()) := by
    cases hc : confB x.2.2.2.2.2.2.2.2.2.2.2.2.2.2.2.2.2.2.1 with
    | false => exact ⟨false, by rw [cond_false, bindK_pure]⟩
    | true =>
      simp only [confB, Bool.and_eq_true] at hc
      have hc1 := inB_iff.1 hc.1
      rw [lenI_def] at hc1
      rw [cond_true, lenI_def, iSub64 (by omega)]
      have : ((x.2.2.2.2.2.2.2.2.2.2.2.2.2.2.2.2.2.2.1.length : Int) - 1) = ((x.2.2.2.2.2.2.2.2.2.2.2.2.2.2.2.2.2.2.1.length - 1 : Nat) : Int) := by omega
      rw [this, idxK_lt (by omega), bindK_pure]
      exact ⟨_, rfl⟩
  obtain ⟨q, hq⟩ := hix
  unfold hcmd at c1 c2
  unfold F31 F33
  simp only [in83, in87, c1, c2, d1, d2, bindK_pure, cond_or, cond_and, joinK_def, hq, bNot_def]
  simp only [cond_some, cond_pair]
  exact ⟨_, rfl, rfl⟩

theorem bulkI : ∀ (xs : List (Kd.den I)), (List.map (Kd.bulk I) xs).sum = xs.length
  | [] => rfl
  | x :: r => by
    have := bulkI r
    have e : (List.map (Kd.bulk I) (x :: r)).sum = 1 + (List.map (Kd.bulk I) r).sum := by rw [List.map_cons, List.sum_cons]; rfl
    rw [e, this, List.length_cons]; omega
theorem law0 (n : Int) (x : THappen) (hb : Kd.bulk KHappen x ≤ 1048576) : F6 (n, x, ()) = some (true, ()) := by
  have e : Kd.bulk KHappen x = (1 + (1 + (1 + (1 + (1 + (1 + (1 + (1 + (1 + (1 + (1 + (1 + (Kd.bulk (.sl 1 I) x.2.2.2.2.2.2.2.2.2.2.2.2.1 + (Kd.bulk .str x.2.2.2.2.2.2.2.2.2.2.2.2.2.1 + (Kd.bulk (.sl 1 I) x.2.2.2.2.2.2.2.2.2.2.2.2.2.2.1 + (1 + (1 + (1 + (Kd.bulk (.sl 1 I) x.2.2.2.2.2.2.2.2.2.2.2.2.2.2.2.2.2.2.1 + (1 + (1 + (Kd.bulk (.sl 1 I) x.2.2.2.2.2.2.2.2.2.2.2.2.2.2.2.2.2.2.2.2.2.1 + (1 + 0))))))))))))))))))))))) + 1 := rfl
  have eL : ∀ xs : List Int, Kd.bulk (.sl 1 I) xs = xs.length + 1 := fun xs => by
    show (List.map (Kd.bulk I) xs).sum + 1 = _
    have : (List.map (Kd.bulk I) xs).sum = List.length (α := Kd.den I) xs := bulkI xs
    exact congrArg (· + 1) this
  simp only [eL] at e
  have h1 : x.2.2.2.2.2.2.2.2.2.2.2.2.1.length ≤ 1048576 := by omega
  have h2 : x.2.2.2.2.2.2.2.2.2.2.2.2.2.2.1.length ≤ 1048576 := by omega
  have h3 : x.2.2.2.2.2.2.2.2.2.2.2.2.2.2.2.2.2.2.1.length ≤ 1048576 := by omega
  have h4 : x.2.2.2.2.2.2.2.2.2.2.2.2.2.2.2.2.2.2.2.2.2.1.length ≤ 1048576 := by omega
  unfold F6
  obtain ⟨r, hr⟩ := sz30 x (1048576, ())
  obtain ⟨b, b1, b2⟩ := happen n x h1 h2 h3
  simp only [hr, bindK_pure]
  cases iLt r.1 0 with
  | true => rfl
  | false =>
    simp only [cond_false, to32 x h1 h2 h3 h4, bindK_pure, b1, b2, eq34 x h1 h2 h3 h4, bNe_def, bne_self_eq_false, bNot_def, Bool.not_true]
theorem law (x : Kd.dens (insK (datL lawTys))) (_ : Kd.inRs (insK (datL lawTys)) x) (hb : Kd.bulks (insK (datL lawTys)) x ≤ 1048576) : ∃ z, F6 x = some (true, z) :=
  ⟨(), law0 x.1 x.2.1 (by
    have e : Kd.bulks (insK (datL lawTys)) x = 1 + (Kd.bulk KHappen x.2.1 + 0) := rfl
    omega)⟩
end
end Go.Proofs.Ytiamdibpgdkedaa.Ha
