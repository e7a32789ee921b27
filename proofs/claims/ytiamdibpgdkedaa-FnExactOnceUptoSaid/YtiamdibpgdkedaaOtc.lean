/- Answers in time, and no two answers to one: asked in two ways. -/
import Derived.Test.YtiamdibpgdkedaaOtb
import Derived.Test.YtiamdibpgdkedaaG10
namespace Go.Proofs.Ytiamdibpgdkedaa.Ot
open Go Go.Am
set_option linter.unusedVariables false
set_option linter.unusedSimpArgs false

noncomputable section
theorem sz82 (x : List Int × Int × Unit) : F82 x = some (bif iLt (iSub .i64 x.2.1 (lenI x.1)) 0 then ((-1), ()) else (iSub .i64 x.2.1 (lenI x.1), ())) := by unfold F82; rw [cond_some]
theorem sz159 (x : TEvent) (v : Int × Unit) : ∃ r, F159 (x, v) = some r := by
  unfold F159; simp only [sz82, bindK_pure, cond_some]; exact ⟨_, rfl⟩
theorem sz81 (x : TCommand) (v : Int × Unit) : ∃ r, F81 (x, v) = some r := by
  unfold F81
  obtain ⟨r, h⟩ := sz159 (x.2.2.2.1, x.2.2.2.2.1, x.2.2.2.2.2.1, x.2.2.2.2.2.2.1, x.2.2.2.2.2.2.2.1, x.2.2.2.2.2.2.2.2.1, x.2.2.2.2.2.2.2.2.2.1, x.2.2.2.2.2.2.2.2.2.2.1, x.2.2.2.2.2.2.2.2.2.2.2.1, ()) v
  simp only [h, bindK_pure, cond_some]; exact ⟨_, rfl⟩
theorem to51 (xs : List Int) (hl : xs.length ≤ 1048576) : F51 (xs, ()) = some (xs, ()) := toP_ok (xs := xs) (by omega) (by omega)
theorem to163 (x : TEvent) (h1 : x.2.2.2.2.2.1.length ≤ 1048576) (h2 : x.2.2.2.2.2.2.2.1.length ≤ 1048576) : F163 (x, ()) = some (x, ()) := by
  unfold F163
  simp only [to51 _ h1, to51 _ h2, bindK_pure]
theorem to86 (x : TCommand) (h1 : x.2.2.2.2.2.2.2.2.1.length ≤ 1048576) (h2 : x.2.2.2.2.2.2.2.2.2.2.1.length ≤ 1048576) : F86 (x, ()) = some (x, ()) := by
  unfold F86
  rw [to163 _ h1 h2, bindK_pure]
theorem eq52 (xs : List Int) (hl : xs.length ≤ 1048576) : F52 (xs, xs, ()) = some (true, ()) := eqP_refl (xs := xs) (ne := iNe) (fun y => by simp [iNe_def]) (by omega)
theorem eq167 (x : TEvent) (h1 : x.2.2.2.2.2.1.length ≤ 1048576) (h2 : x.2.2.2.2.2.2.2.1.length ≤ 1048576) : F167 (x, x, ()) = some (true, ()) := by
  unfold F167
  simp only [eq52 _ h1, eq52 _ h2, bindK_pure, iNe_def, strEq_def, bNot_def, bne_self_eq_false, beq_self_eq_true, Bool.not_true, cond_false]
theorem eq90 (x : TCommand) (h1 : x.2.2.2.2.2.2.2.2.1.length ≤ 1048576) (h2 : x.2.2.2.2.2.2.2.2.2.2.1.length ≤ 1048576) : F90 (x, x, ()) = some (true, ()) := by
  unfold F90
  rw [eq167 _ h1 h2]
  simp only [bindK_pure, iNe_def, bNot_def, bne_self_eq_false, Bool.not_true, cond_false]

theorem sz67 (y : TReply) (v : Int × Unit) : ∃ r, F67 (y, v) = some r := by
  unfold F67
  generalize hc : F81 _ = c
  obtain ⟨r, h⟩ : ∃ r, c = some r := by rw [← hc]; exact sz81 _ _
  rw [h]
  simp only [bindK_pure, cond_some]; exact ⟨_, rfl⟩
theorem sz14 (xs : List TReply) (v : Int × Unit) (hl : xs.length ≤ 4294967296) : ∃ r, F14 (xs, v) = some r := szS_ok (fun y _ v => sz67 y v) hl _
def lv (y : TReply) : List Int := y.2.2.2.2.2.2.2.2.2.2.2.1
def pr (y : TReply) : List Int := y.2.2.2.2.2.2.2.2.2.2.2.2.2.1
theorem to68 (y : TReply) (h1 : (lv y).length ≤ 1048576) (h2 : (pr y).length ≤ 1048576) : F68 (y, ()) = some (y, ()) := by
  unfold F68
  rw [to86 _ h1 h2, bindK_pure]
theorem to16 (xs : List TReply) (hl : xs.length ≤ 1048576) (h : ∀ y ∈ xs, (lv y).length ≤ 1048576 ∧ (pr y).length ≤ 1048576) : F16 (xs, ()) = some (xs, ()) :=
  toS_ok (xs := xs) (by omega) (fun y hy => to68 y (h y hy).1 (h y hy).2) (by omega)
theorem eq69 (y : TReply) (h1 : (lv y).length ≤ 1048576) (h2 : (pr y).length ≤ 1048576) : F69 (y, y, ()) = some (true, ()) := by
  unfold F69
  rw [eq90 _ h1 h2]
  simp only [bindK_pure, iNe_def, strEq_def, bNot_def, bne_self_eq_false, beq_self_eq_true, Bool.not_true, cond_false]
theorem eq18 (xs : List TReply) (hl : xs.length ≤ 1048576) (h : ∀ y ∈ xs, (lv y).length ≤ 1048576 ∧ (pr y).length ≤ 1048576) : F18 (xs, xs, ()) = some (true, ()) :=
  eqS_refl (xs := xs) (fun y hy => eq69 y (h y hy).1 (h y hy).2) (by omega)

/-! ### in time -/
def tB (a b : TReply) : Bool := iGt a.1 b.2.1 && iLe a.2.2.1 b.2.2.1
theorem spec15 (xs : List TReply) (hl : xs.length ≤ 4294967296) : F15 (xs, ()) = some (!(xs.any fun a => xs.any (tB a)), ()) := by
  have e : ∀ b : Bool, some (!b, ()) = bif b then some (false, ()) else some (true, ()) := by intro b; cases b <;> rfl
  rw [e]
  unfold F15
  refine loop_any (fun a => xs.any (tB a)) _ _ (fun rec => ?_) (fun rec n h => ?_) hl
  · simp only [iLt_len, Nat.lt_irrefl, decide_false, cond_false]
  · simp only [iLt_len, h, decide_true, cond_true]
    refine loop_any (xs := xs) (tB xs[n]) _ _ (fun rec2 => ?_) (fun rec2 m hm => ?_) hl
    · simp only [iLt_len, Nat.lt_irrefl, decide_false, cond_false, iAdd_nat (show n ≤ 4294967296 by omega)]
    · simp only [iLt_len, hm, decide_true, cond_true]
      simp only [idxK_lt h, idxK_lt hm, cond_and, bindK_pure, iAdd_nat (show m ≤ 4294967296 by omega), tB]
theorem any_swap {α : Type} (p : α → α → Bool) (xs : List α) : (xs.any fun a => xs.any (p a)) = xs.any fun a => xs.any fun b => p b a := by
  rw [Bool.eq_iff_iff]
  simp only [List.any_eq_true]
  constructor <;> rintro ⟨a, ha, b, hb, h⟩ <;> exact ⟨b, hb, a, ha, h⟩
theorem impl17 (xs : List TReply) (hl : xs.length ≤ 4294967296) : F17 (xs, ()) = some (!(xs.any fun a => xs.any (tB a)), ()) := by
  rw [any_swap]
  have e : ∀ b : Bool, some (!b, ()) = bif b then some (false, ()) else some (true, ()) := by intro b; cases b <;> rfl
  rw [e]
  unfold F17
  refine loop_any (fun a => xs.any fun b => tB b a) _ _ (fun rec => ?_) (fun rec n h => ?_) hl
  · simp only [iLt_len, Nat.lt_irrefl, decide_false, cond_false]
  · simp only [iLt_len, h, decide_true, cond_true]
    rw [idxK_lt h]
    refine loop_any (xs := xs) (fun b => tB b xs[n]) _ _ (fun rec2 => ?_) (fun rec2 m hm => ?_) hl
    · simp only [iLt_len, Nat.lt_irrefl, decide_false, cond_false, iAdd_nat (show n ≤ 4294967296 by omega)]
    · simp only [iLt_len, hm, decide_true, cond_true]
      simp only [idxK_lt hm, cond_and, bindK_pure, iAdd_nat (show m ≤ 4294967296 by omega), tB]

/-! ### once -/
def tx (y : TReply) : List UInt8 := y.2.2.2.2.2.2.2.2.2.2.2.2.2.2.2.2.2.1
def noneB (s : List UInt8) : Bool := (strEq s (litS [103, 97, 112]) || strEq s (litS [110, 111, 110, 101])) || strEq s (litS [111, 108, 100])
theorem none79 (s : List UInt8) : F79 (s, ()) = some (noneB s, ()) := by
  unfold F79
  simp only [cond_or, bindK_pure, noneB]
def oB (a b : TReply) : Bool := ((((!(iEq a.2.2.2.2.1 0) && iEq a.2.2.2.2.1 b.2.2.2.2.1) && iEq a.2.2.2.2.2.1 b.2.2.2.2.2.1) && !(strEq (tx a) (tx b))) && !(noneB (tx a))) && !(noneB (tx b))
theorem oB_irr (a : TReply) : oB a a = false := by simp [oB, strEq_def]
theorem oB_sym (a b : TReply) : oB a b = oB b a := by
  simp only [oB, iEq_def, strEq_def]
  by_cases h : a.2.2.2.2.1 = b.2.2.2.2.1
  · rw [h, Bool.beq_comm (a := a.2.2.2.2.2.1), Bool.beq_comm (a := tx a)]
    generalize noneB (tx a) = p; generalize noneB (tx b) = q; generalize (b.2.2.2.2.2.1 == _) = u; generalize (tx b == _) = w; generalize (b.2.2.2.2.1 == 0) = z
    cases p <;> cases q <;> cases u <;> cases w <;> cases z <;> simp
  · have h1 : (a.2.2.2.2.1 == b.2.2.2.2.1) = false := by simpa using h
    have h2 : (b.2.2.2.2.1 == a.2.2.2.2.1) = false := by simpa using fun e => h e.symm
    simp [h1, h2]
def q2 (xs : List TReply) (n k : Nat) : Bool := match xs[n]?, xs[k]? with | some a, some b => oB a b | _, _ => false
theorem pairs_any (xs : List TReply) : ((List.range xs.length).any fun n => (List.range n).any (q2 xs n)) = xs.any fun a => xs.any (oB a) := by
  rw [Bool.eq_iff_iff]
  simp only [List.any_eq_true, List.mem_range]
  constructor
  · rintro ⟨n, hn, k, hk, h⟩
    have hk' : k < xs.length := by omega
    rw [q2, List.getElem?_eq_getElem hn, List.getElem?_eq_getElem hk'] at h
    exact ⟨_, List.getElem_mem hn, _, List.getElem_mem hk', h⟩
  · rintro ⟨a, ha, b, hb, h⟩
    obtain ⟨i, hi, ei⟩ := List.getElem_of_mem ha
    obtain ⟨j, hj, ej⟩ := List.getElem_of_mem hb
    have hij : i ≠ j := by
      rintro rfl
      rw [ei] at ej
      subst ej
      rw [oB_irr] at h; cases h
    rcases Nat.lt_or_gt_of_ne hij with hlt | hlt
    · refine ⟨j, hj, i, hlt, ?_⟩
      rw [q2, List.getElem?_eq_getElem hi, List.getElem?_eq_getElem hj]
      show oB xs[j] xs[i] = true
      rw [ei, ej, oB_sym]; exact h
    · refine ⟨i, hi, j, hlt, ?_⟩
      rw [q2, List.getElem?_eq_getElem hi, List.getElem?_eq_getElem hj]
      show oB xs[i] xs[j] = true
      rw [ei, ej]; exact h
theorem spec28 (xs : List TReply) (hl : xs.length ≤ 4294967296) : F28 (xs, ()) = some (!(xs.any fun a => xs.any (oB a)), ()) := by
  rw [← pairs_any]
  have e : ∀ b : Bool, some (!b, ()) = bif b then some (false, ()) else some (true, ()) := by intro b; cases b <;> rfl
  rw [e]
  unfold F28
  refine loop_range xs.length _ _ _ (fun rec => ?_) (fun rec n h => ?_) hl
  · simp only [iLt_len, Nat.lt_irrefl, decide_false, cond_false]
  · simp only [iLt_len, h, decide_true, cond_true]
    refine loop_range n (q2 xs n) _ _ (fun rec2 => ?_) (fun rec2 m hm => ?_) (by omega)
    · simp only [iLt_nat, Nat.lt_irrefl, decide_false, cond_false, iAdd_nat (show n ≤ 4294967296 by omega)]
    · have hm' : m < xs.length := by omega
      simp only [iLt_nat, hm, decide_true, cond_true]
      rw [idxK_lt h, idxK_lt hm']
      rw [show F79 xs[n].2.2.2.2.2.2.2.2.2.2.2.2.2.2.2.2.2 = some (noneB (tx xs[n]), ()) from none79 _, show F79 xs[m].2.2.2.2.2.2.2.2.2.2.2.2.2.2.2.2.2 = some (noneB (tx xs[m]), ()) from none79 _]
      simp only [cond_and, bindK_pure, iAdd_nat (show m ≤ 4294967296 by omega), bNot_def, iNe_eq]
      rw [q2, List.getElem?_eq_getElem h, List.getElem?_eq_getElem hm']
      rfl
theorem good80 (y : TReply) : F80 (y, ()) = some ((((!(strEq (tx y) (litS [103, 97, 112])) && !(strEq (tx y) (litS [110, 111, 110, 101]))) && !(strEq (tx y) (litS [111, 108, 100]))) && !(iEq y.2.2.2.2.1 0)), ()) := by
  unfold F80
  simp only [cond_and, bindK_pure, bNot_def, iNe_eq, tx]
theorem impl29 (xs : List TReply) (hl : xs.length ≤ 4294967296) : F29 (xs, ()) = some (!(xs.any fun a => xs.any (oB a)), ()) := by
  have e : ∀ b : Bool, some (!b, ()) = bif b then some (false, ()) else some (true, ()) := by intro b; cases b <;> rfl
  rw [e]
  unfold F29
  refine loop_any (fun a => xs.any (oB a)) _ _ (fun rec => ?_) (fun rec n h => ?_) hl
  · simp only [iLt_len, Nat.lt_irrefl, decide_false, cond_false]
  · simp only [iLt_len, h, decide_true, cond_true]
    rw [idxK_lt h]
    refine loop_any (xs := xs) (oB xs[n]) _ _ (fun rec2 => ?_) (fun rec2 m hm => ?_) hl
    · simp only [iLt_len, Nat.lt_irrefl, decide_false, cond_false, iAdd_nat (show n ≤ 4294967296 by omega)]
    · simp only [iLt_len, hm, decide_true, cond_true]
      rw [idxK_lt hm]
      simp only [good80, cond_and, bindK_pure, iAdd_nat (show m ≤ 4294967296 by omega), bNot_def, iNe_eq, oB, tx, noneB, iEq_def]
      congr 1
      by_cases hz : xs[n].2.2.2.2.1 = xs[m].2.2.2.2.1
      · rw [hz]
        generalize strEq xs[n].2.2.2.2.2.2.2.2.2.2.2.2.2.2.2.2.2.1 (litS [103, 97, 112]) = a1; generalize strEq xs[n].2.2.2.2.2.2.2.2.2.2.2.2.2.2.2.2.2.1 (litS [110, 111, 110, 101]) = a2; generalize strEq xs[n].2.2.2.2.2.2.2.2.2.2.2.2.2.2.2.2.2.1 (litS [111, 108, 100]) = a3
        generalize strEq xs[m].2.2.2.2.2.2.2.2.2.2.2.2.2.2.2.2.2.1 (litS [103, 97, 112]) = b1; generalize strEq xs[m].2.2.2.2.2.2.2.2.2.2.2.2.2.2.2.2.2.1 (litS [110, 111, 110, 101]) = b2; generalize strEq xs[m].2.2.2.2.2.2.2.2.2.2.2.2.2.2.2.2.2.1 (litS [111, 108, 100]) = b3
        generalize strEq _ _ = c1; generalize (xs[m].2.2.2.2.1 == 0) = c2; generalize (xs[m].2.2.2.2.1 == xs[m].2.2.2.2.1) = c3; generalize (xs[n].2.2.2.2.2.1 == _) = c4
        revert a1 a2 a3 b1 b2 b3 c1 c2 c3 c4
        decide +kernel
      · have h1 : (xs[n].2.2.2.2.1 == xs[m].2.2.2.2.1) = false := by simpa using hz
        simp only [h1, Bool.and_false, Bool.false_and]

/-! ### the laws -/
theorem bulkI : ∀ (xs : List (Kd.den I)), (List.map (Kd.bulk I) xs).sum = xs.length
  | [] => rfl
  | x :: r => by
    have := bulkI r
    have e : (List.map (Kd.bulk I) (x :: r)).sum = 1 + (List.map (Kd.bulk I) r).sum := by rw [List.map_cons, List.sum_cons]; rfl
    rw [e, this, List.length_cons]; omega
theorem reply_bulk (y : TReply) : (lv y).length ≤ Kd.bulk KReply y ∧ (pr y).length ≤ Kd.bulk KReply y ∧ 1 ≤ Kd.bulk KReply y := by
  have e : Kd.bulk KReply y = (1 + (1 + (1 + (1 + (1 + (1 + (1 + (1 + (1 + (1 + (1 + (Kd.bulk (.sl 1 I) y.2.2.2.2.2.2.2.2.2.2.2.1 + (Kd.bulk .str y.2.2.2.2.2.2.2.2.2.2.2.2.1 + (Kd.bulk (.sl 1 I) y.2.2.2.2.2.2.2.2.2.2.2.2.2.1 + (1 + (1 + (1 + (Kd.bulk .str y.2.2.2.2.2.2.2.2.2.2.2.2.2.2.2.2.2.1 + 0)))))))))))))))))) + 1 := rfl
  have eL : ∀ xs : List Int, Kd.bulk (.sl 1 I) xs = xs.length + 1 := fun xs => by
    show (List.map (Kd.bulk I) xs).sum + 1 = _
    have : (List.map (Kd.bulk I) xs).sum = List.length (α := Kd.den I) xs := bulkI xs
    exact congrArg (· + 1) this
  simp only [eL] at e
  unfold lv pr
  omega
theorem small (xs : List TReply) (hb : Kd.bulk (.sl 18 KReply) xs ≤ 1048576) : xs.length ≤ 1048576 ∧ ∀ y ∈ xs, (lv y).length ≤ 1048576 ∧ (pr y).length ≤ 1048576 := by
  have e : Kd.bulk (.sl 18 KReply) xs = (List.map (Kd.bulk KReply) xs).sum + 1 := rfl
  have l1 := bulk_len (e := KReply) xs fun y _ => (reply_bulk y).2.2
  have l1 : xs.length ≤ (List.map (Kd.bulk KReply) xs).sum := l1
  refine ⟨by omega, fun y hy => ?_⟩
  have := bulk_mem (e := KReply) xs y hy
  have := reply_bulk y
  omega
theorem law3_0 (xs : List TReply) (hb : Kd.bulk (.sl 18 KReply) xs ≤ 1048576) : F3 (xs, ()) = some (true, ()) := by
  obtain ⟨hl, h⟩ := small xs hb
  obtain ⟨r, hr⟩ := sz14 xs (1048576, ()) (by omega)
  unfold F3
  simp only [hr, bindK_pure]
  cases iLt r.1 0 with
  | true => rfl
  | false => simp only [cond_false, to16 xs hl h, bindK_pure, spec15 xs (by omega), impl17 xs (by omega), eq18 xs hl h, bNe_def, bne_self_eq_false, bNot_def, Bool.not_true]
theorem law5_0 (xs : List TReply) (hb : Kd.bulk (.sl 18 KReply) xs ≤ 1048576) : F5 (xs, ()) = some (true, ()) := by
  obtain ⟨hl, h⟩ := small xs hb
  obtain ⟨r, hr⟩ := sz14 xs (1048576, ()) (by omega)
  unfold F5
  simp only [hr, bindK_pure]
  cases iLt r.1 0 with
  | true => rfl
  | false => simp only [cond_false, to16 xs hl h, bindK_pure, spec28 xs (by omega), impl29 xs (by omega), eq18 xs hl h, bNe_def, bne_self_eq_false, bNot_def, Bool.not_true]
theorem law3 (x : Kd.dens (insK (datL lawTys3))) (_ : Kd.inRs (insK (datL lawTys3)) x) (hb : Kd.bulks (insK (datL lawTys3)) x ≤ 1048576) : ∃ z, F3 x = some (true, z) :=
  ⟨(), law3_0 x.1 (by
    have e : Kd.bulks (insK (datL lawTys3)) x = Kd.bulk (.sl 18 KReply) x.1 + 0 := rfl
    omega)⟩
theorem law5 (x : Kd.dens (insK (datL lawTys5))) (_ : Kd.inRs (insK (datL lawTys5)) x) (hb : Kd.bulks (insK (datL lawTys5)) x ≤ 1048576) : ∃ z, F5 x = some (true, z) :=
  ⟨(), law5_0 x.1 (by
    have e : Kd.bulks (insK (datL lawTys5)) x = Kd.bulk (.sl 18 KReply) x.1 + 0 := rfl
    omega)⟩
end
end Go.Proofs.Ytiamdibpgdkedaa.Ot
