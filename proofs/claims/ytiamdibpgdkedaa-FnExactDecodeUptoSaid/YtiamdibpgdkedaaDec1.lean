/- How messages are written: both ways write the same. -/
import Derived.Test.YtiamdibpgdkedaaDeb
import Derived.Test.YtiamdibpgdkedaaG10
namespace Go.Proofs.Ytiamdibpgdkedaa.De
open Go Go.Am
set_option linter.unusedVariables false
set_option linter.unusedSimpArgs false

noncomputable section
/-! ### what both ask -/
def inB (x lo hi : Int) : Bool := iGe x lo && iLe x hi
theorem in58 (x lo hi : Int) : F83 (x, lo, hi, ()) = some (inB x lo hi, ()) := by
  unfold F83
  simp only [cond_and, bindK_pure, inB]
theorem in62 (x lo hi : Int) : F87 (x, lo, hi, ()) = some (inB x lo hi, ()) := in58 x lo hi
def geO : Option Int → Int → Bool
  | none, _ => false
  | some q, y => iGe q y
def riseB : Option Int → List Int → Bool
  | _, [] => true
  | p, y :: r => (inB y 1 4 && !geO p y) && riseB (some y) r
def prevO (xs : List Int) : Nat → Option Int
  | 0 => none
  | n + 1 => xs[n]?
theorem prev_get {xs : List Int} {n : Nat} {ρ : Type} (hn : n < xs.length) (k : Bool → Option ρ) (hl : xs.length ≤ 4294967296) :
    bindK (bif iGt (n : Int) 0 then idxK xs (iSub .i64 (n : Int) 1) fun y4 => idxK xs (n : Int) fun y5 => some (iGe y4 y5) else some false) k = k (geO (prevO xs n) xs[n]) := by
  cases n with
  | zero => simp [iGt_def, bindK_pure, prevO, geO]
  | succ n =>
    have : iGt ((n + 1 : Nat) : Int) 0 = true := by rw [iGt_def]; simp <;> omega
    rw [this, cond_true, iSub64 (by omega)]
    have e : ((n + 1 : Nat) : Int) - 1 = (n : Int) := by omega
    rw [e, idxK_lt (by omega : n < xs.length), idxK_lt hn, bindK_pure]
    simp [prevO, geO, List.getElem?_eq_getElem (by omega : n < xs.length)]
theorem rise93 (xs : List Int) (hl : xs.length ≤ 4294967296) : F117 (xs, 1, 4, ()) = some (riseB none xs, ()) := by
  unfold F117
  refine loop_list (xs := xs) (a := Option Int) (fun i _ => (i, ())) (fun n p => p = prevO xs n) (fun p r => some (riseB p r, ())) (fun rec s hs => ?_) (fun rec n h s hs hr => ?_) NN none rfl (NN_len hl)
  · simp only [iLt_len, Nat.lt_irrefl, decide_false, cond_false, riseB]
  · subst hs
    simp only [iLt_len, h, decide_true, cond_true]
    rw [idxK_lt h]
    simp only [in58, bindK_pure]
    have hb : ∀ (b : Bool), (bif bNot b then some true else bindK (bif iGt (n : Int) 0 then idxK xs (iSub .i64 (n : Int) 1) fun y4 => idxK xs (n : Int) fun y5 => some (iGe y4 y5) else some false) fun y6 => some y6) = some (!b || geO (prevO xs n) xs[n]) := by
      intro b
      rw [prev_get h _ hl, bNot_def, cond_or]
    rw [hb, bindK_pure, iAdd_nat (by omega)]
    rw [hr (some xs[n]) (by simp [prevO, List.getElem?_eq_getElem h])]
    simp only [riseB, cond_some]
    cases inB xs[n] 1 4 <;> cases geO (prevO xs n) xs[n] <;> simp
theorem prev_get1 {xs : List Int} {n : Nat} {ρ : Type} (hn : n < xs.length) (k : Bool → Option ρ) (hl : xs.length ≤ 4294967296) :
    bindK (bif iGt (n : Int) 0 then idxK xs (iSub .i64 (n : Int) 1) fun y4 => some (iGe y4 xs[n]) else some false) k = k (geO (prevO xs n) xs[n]) := by
  cases n with
  | zero => simp [iGt_def, bindK_pure, prevO, geO]
  | succ n =>
    have : iGt ((n + 1 : Nat) : Int) 0 = true := by rw [iGt_def]; simp <;> omega
    rw [this, cond_true, iSub64 (by omega)]
    have e : ((n + 1 : Nat) : Int) - 1 = (n : Int) := by omega
    rw [e, idxK_lt (by omega : n < xs.length), bindK_pure]
    simp [prevO, geO, List.getElem?_eq_getElem (by omega : n < xs.length)]
def confB (xs : List Int) : Bool := inB (lenI xs) 1 4 && riseB none xs
theorem conf60 (xs : List Int) (hl : xs.length ≤ 4294967296) : F85 (xs, ()) = some (confB xs, ()) := by
  unfold F85
  simp only [in58, rise93 xs hl, bindK_pure, cond_and, confB]
theorem conf64 (xs : List Int) (hl : xs.length ≤ 4294967296) : F89 (xs, ()) = some (confB xs, ()) := by
  unfold F89
  have : some (confB xs, ()) = some (riseB none xs && inB (lenI xs) 1 4, ()) := by rw [confB, Bool.and_comm]
  rw [this]
  refine loop_list (xs := xs) (a := Option Int) (fun i _ => (i, ())) (fun n p => p = prevO xs n) (fun p r => some (riseB p r && inB (lenI xs) 1 4, ())) (fun rec s hs => ?_) (fun rec n h s hs hr => ?_) NN none rfl (NN_len hl)
  · simp only [iLt_len, Nat.lt_irrefl, decide_false, cond_false, riseB, in62, bindK_pure, Bool.true_and]
  · subst hs
    simp only [iLt_len, h, decide_true, cond_true]
    rw [idxK_lt h]
    simp only [in62, bindK_pure]
    have hb : ∀ (b : Bool), (bif bNot b then some true else bindK (bif iGt (n : Int) 0 then idxK xs (iSub .i64 (n : Int) 1) fun y4 => some (iGe y4 xs[n]) else some false) fun y6 => some y6) = some (!b || geO (prevO xs n) xs[n]) := by
      intro b
      rw [prev_get1 h _ hl, bNot_def, cond_or]
    rw [hb, bindK_pure, iAdd_nat (by omega)]
    rw [hr (some xs[n]) (by simp [prevO, List.getElem?_eq_getElem h])]
    simp only [riseB, cond_some]
    cases inB xs[n] 1 4 <;> cases geO (prevO xs n) xs[n] <;> simp

def toC (t : List UInt8) : List Int := t.map fun b => iConv .i64 (byteI b)
def readC (t : List UInt8) : List Int × Bool × Unit := bif confB (toC t) then (toC t, true, ()) else ([], false, ())
theorem conf71 (t : List UInt8) (hl : t.length ≤ 1048576) : F110 (t, ()) = some (readC t) := by
  unfold F110
  refine loop_list (xs := t) (a := List Int) (fun i s => (i, s, ())) (fun n s => s = toC (t.take n)) (fun s r => some (bif confB (s ++ toC r) then (s ++ toC r, true, ()) else ([], false, ()))) (fun rec s hs => ?_) (fun rec n h s hs hr => ?_) NN [] (by simp [toC]) (NN_len (by omega))
  · simp only [iLt_len, Nat.lt_irrefl, decide_false, cond_false]
    subst hs
    rw [conf64 _ (by simp [toC]; omega), bindK_pure]
    simp only [toC, List.map_nil, List.append_nil, bNot_def]
    cases confB _ <;> rfl
  · subst hs
    simp only [iLt_len, h, decide_true, cond_true]
    rw [idxK_lt h, guardK_pos (gApp_pos (by simp [toC]; omega)), iAdd_nat (by omega), cat_def]
    rw [hr _ (by rw [List.take_succ_eq_append_getElem h]; simp only [toC, List.map_append, List.map_cons, List.map_nil])]
    simp only [toC, List.map_cons, List.append_assoc, List.cons_append, List.nil_append]
theorem conf68 (t : List UInt8) (hl : t.length ≤ 1048576) : F133 (t, ()) = some (readC t) := by
  unfold F133
  refine loop_eq (σ := Int × List Int × Unit) (fun s => ∃ n : Nat, s.1 = n ∧ n ≤ t.length ∧ n ≤ 5 ∧ s.2.1 = toC (t.take n)) (fun s => t.length - s.1.toNat) (fun _ => some (readC t)) (fun rec s hs hr => ?_) NN (0, [], ()) ⟨0, rfl, by omega, by omega, by simp [toC]⟩ (NN_len (by omega))
  obtain ⟨n, h1, h2, h3, h4⟩ := hs
  obtain ⟨i, s, u⟩ := s
  simp only at h1 h4
  subst h1 h4
  simp only [cond_and, bindK_pure, iLt_len]
  by_cases hc : n < t.length ∧ n ≤ 4
  · have hb : (decide (n < t.length) && iLe (n : Int) 4) = true := by simp [iLe_def, hc.1]; omega
    rw [hb, cond_true, idxK_lt hc.1, guardK_pos (gApp_pos (by simp [toC]; omega)), iAdd_nat (by omega), cat_def]
    refine hr _ ⟨n + 1, rfl, by omega, by omega, ?_⟩ ?_
    · rw [List.take_succ_eq_append_getElem hc.1]; simp only [toC, List.map_append, List.map_cons, List.map_nil]
    · simp only [Int.toNat_natCast]; omega
  · have hb : (decide (n < t.length) && iLe (n : Int) 4) = false := by
      simp only [iLe_def, Bool.and_eq_false_iff, decide_eq_false_iff_not]
      by_cases h : n < t.length
      · right; omega
      · exact .inl h
    rw [hb, cond_false]
    have hlen : (toC (t.take n)).length = n := by simp [toC]; omega
    rw [conf60 _ (by rw [hlen]; omega), bindK_pure, iNe_def, lenI_def, lenI_def, hlen, cond_or, bindK_pure, bNot_def]
    by_cases hn : n = t.length
    · have : t.take n = t := by rw [hn, List.take_length]
      rw [this, readC]
      simp only [hn, bne_self_eq_false, Bool.false_or]
      cases confB (toC t) <;> rfl
    · have h5 : (((n : Int)) != (t.length : Int)) = true := by simp; omega
      rw [h5, Bool.true_or, cond_true, readC]
      have : confB (toC t) = false := by
        have : inB (lenI (toC t)) 1 4 = false := by
          rw [inB, lenI_def, iLe_def]
          simp only [toC, List.length_map, Bool.and_eq_false_iff, decide_eq_false_iff_not]
          right; omega
        rw [confB, this, Bool.false_and]
      rw [this]; rfl

def entryB (y : TEntry) : Bool := inB y.1 0 100000 && (bif iEq y.2.1 1 then strEq y.2.2.1 (litS []) else bif iEq y.2.1 2 then (readC y.2.2.1).2.1 else bif iEq y.2.1 3 then iLe (lenI y.2.2.1) 120 else false)
theorem entry59 (y : TEntry) (hl : y.2.2.1.length ≤ 1048576) : F146 (y, ()) = some (entryB y, ()) := by
  unfold F146
  have h := conf68 y.2.2.1 hl
  simp only [in58, bindK_pure, bNot_def, entryB]
  rw [show F133 y.2.2 = some (readC y.2.2.1) from h, bindK_pure]
  cases inB y.1 0 100000 <;> cases iEq y.2.1 1 <;> cases iEq y.2.1 2 <;> cases iEq y.2.1 3 <;> rfl
theorem entry63 (y : TEntry) (hl : y.2.2.1.length ≤ 1048576) : F103 (y, ()) = some (entryB y, ()) := by
  unfold F103
  have h := conf71 y.2.2.1 hl
  simp only [in62, bindK_pure, bNot_def, entryB]
  rw [show F110 y.2.2 = some (readC y.2.2.1) from h, bindK_pure]
  cases inB y.1 0 100000 <;> cases iEq y.2.1 1 <;> cases iEq y.2.1 2 <;> cases iEq y.2.1 3 <;> rfl

/-! ### messages -/
def entsB (T : Int) : Int → List TEntry → Bool
  | _, [] => true
  | p, y :: r => (entryB y && inB y.1 p T) && entsB T y.1 r
def finB (m : TMessage) : Bool := bif iEq m.1 5 then confB m.2.2.2.2.2.2.2.2.2.1 else (iEq (lenI m.2.2.2.2.2.2.2.2.2.1) 0 && strEq m.2.2.2.2.2.2.2.2.2.2.1 (litS [])) && bNot m.2.2.2.2.2.2.2.2.2.2.2.1
def preB (m : TMessage) : Bool := (((inB m.1 1 6 && inB m.2.1 1 4) && inB m.2.2.1 1 4) && !(iEq m.2.1 m.2.2.1)) && (((inB m.2.2.2.1 0 100000 && inB m.2.2.2.2.2.1 0 100000) && inB m.2.2.2.2.1 0 1000000) && inB m.2.2.2.2.2.2.1 0 1000000)
def msgB (m : TMessage) : Bool := preB m && (!(iGt (lenI m.2.2.2.2.2.2.2.2.1) 4) && (!(iGt (lenI m.2.2.2.2.2.2.2.2.2.2.1) 60) && ((m.2.2.2.2.2.2.2.2.1.isEmpty || iEq m.1 3) && (entsB m.2.2.2.1 m.2.2.2.2.2.1 m.2.2.2.2.2.2.2.2.1 && finB m))))
theorem lt_gt (a p T : Int) : (!(iLt a p) && !(iGt a T)) = inB a p T := by
  simp only [iLt_def, iGt_def, inB, iGe_def, iLe_def]
  rw [Bool.eq_iff_iff]
  simp

theorem msg15 (m : TMessage) (hl : m.2.2.2.2.2.2.2.2.1.length ≤ 1048576) (hl2 : m.2.2.2.2.2.2.2.2.2.1.length ≤ 1048576) (he : ∀ y ∈ m.2.2.2.2.2.2.2.2.1, y.2.2.1.length ≤ 1048576) : F184 (m, ()) = some (msgB m, ()) := by
  unfold F184
  simp only [in58, bindK_pure, cond_or, cond_and, bNot_def]
  generalize hX : loopF _ NN _ = X
  have hloop : X = some (entsB m.2.2.2.1 m.2.2.2.2.2.1 m.2.2.2.2.2.2.2.2.1 && (finB m && (bif iEq m.1 5 then iLe (lenI m.2.2.2.2.2.2.2.2.2.2.1) 60 else true)), ()) := by
    rw [← hX]
    refine loop_list (xs := m.2.2.2.2.2.2.2.2.1) (a := Int) (fun i p => (p, i, ())) (fun n _ => True) (fun p r => some (entsB m.2.2.2.1 p r && (finB m && (bif iEq m.1 5 then iLe (lenI m.2.2.2.2.2.2.2.2.2.2.1) 60 else true)), ())) (fun rec s _ => ?_) (fun rec n h s _ hr => ?_) NN _ trivial (NN_len (by omega))
    · simp only [iLt_len, Nat.lt_irrefl, decide_false, cond_false, conf60 _ (Nat.le_trans hl2 (by omega)), bindK_pure, cond_and, entsB, finB, Bool.true_and, cond_some]
      cases iEq m.1 5 <;> simp [bNot_def]
    · simp only [iLt_len, h, decide_true, cond_true]
      simp only [idxK_lt h, entry59 _ (he _ (List.getElem_mem h)), bindK_pure, cond_or, bNot_def, iAdd_nat (show n ≤ 4294967296 by omega)]
      rw [hr _ trivial]
      simp only [entsB, cond_some, ← lt_gt]
      cases entryB _ <;> cases iLt _ _ <;> cases iGt _ _ <;> simp
  rw [hloop]
  have hne : iGt (lenI m.2.2.2.2.2.2.2.2.1) 0 = !m.2.2.2.2.2.2.2.2.1.isEmpty := by
    rw [iGt_def, lenI_def]
    cases m.2.2.2.2.2.2.2.2.1 <;> simp <;> omega
  rw [hne]
  simp only [msgB, preB, cond_some]
  have hfin : (finB m && (bif iEq m.1 5 then iLe (lenI m.2.2.2.2.2.2.2.2.2.2.1) 60 else true)) = (!(iGt (lenI m.2.2.2.2.2.2.2.2.2.2.1) 60) && finB m) := by
    have hd : iLe (lenI m.2.2.2.2.2.2.2.2.2.2.1) 60 = !(iGt (lenI m.2.2.2.2.2.2.2.2.2.2.1) 60) := by
      rw [iLe_def, iGt_def, Bool.eq_iff_iff]; simp
    cases h5 : iEq m.1 5 with
    | true => simp only [cond_true, hd, Bool.and_comm]
    | false =>
      simp only [cond_false, Bool.and_true, finB, h5]
      cases hs : strEq m.2.2.2.2.2.2.2.2.2.2.1 (litS []) with
      | false => simp
      | true =>
        have : m.2.2.2.2.2.2.2.2.2.2.1 = [] := by
          rw [strEq_def, litS_def] at hs; simpa using hs
        rw [this]
        simp [iGt_def, lenI_def]
  rw [hfin]
  have h3 : iNe m.1 3 = !(iEq m.1 3) := by rw [iNe_def, iEq_def]; rfl
  rw [h3]
  generalize inB m.1 1 6 = a1; generalize inB m.2.1 1 4 = a2; generalize inB m.2.2.1 1 4 = a3; generalize iEq m.2.1 m.2.2.1 = a4
  generalize inB m.2.2.2.1 0 100000 = b1; generalize inB m.2.2.2.2.2.1 0 100000 = b2; generalize inB m.2.2.2.2.1 0 1000000 = b3; generalize inB m.2.2.2.2.2.2.1 0 1000000 = b4
  generalize iGt (lenI m.2.2.2.2.2.2.2.2.1) 4 = c1; generalize m.2.2.2.2.2.2.2.2.1.isEmpty = c2; generalize iEq m.1 3 = c3
  generalize entsB _ _ _ = d1; generalize finB m = d2; generalize iGt _ 60 = d3
  cases a1 <;> cases a2 <;> cases a3 <;> cases a4 <;> simp
  all_goals (cases b1 <;> cases b2 <;> cases b3 <;> cases b4 <;> simp)
  all_goals (cases c1 <;> cases c2 <;> cases c3 <;> simp)
  all_goals (cases d1 <;> cases d2 <;> cases d3 <;> rfl)

theorem msg17 (m : TMessage) (hl : m.2.2.2.2.2.2.2.2.1.length ≤ 1048576) (hl2 : m.2.2.2.2.2.2.2.2.2.1.length ≤ 1048576) (he : ∀ y ∈ m.2.2.2.2.2.2.2.2.1, y.2.2.1.length ≤ 1048576) : F190 (m, ()) = some (msgB m, ()) := by
  unfold F190
  simp only [in62, bindK_pure, cond_or, cond_and, bNot_def]
  generalize hX : loopF _ NN _ = X
  have hloop : X = some ((m.2.2.2.2.2.2.2.2.1.isEmpty || iEq m.1 3) && (entsB m.2.2.2.1 m.2.2.2.2.2.1 m.2.2.2.2.2.2.2.2.1 && finB m), ()) := by
    rw [← hX]
    refine loop_list (xs := m.2.2.2.2.2.2.2.2.1) (a := Int) (fun i p => (p, i, ())) (fun n _ => True) (fun p r => some ((r.isEmpty || iEq m.1 3) && (entsB m.2.2.2.1 p r && finB m), ())) (fun rec s _ => ?_) (fun rec n h s _ hr => ?_) NN _ trivial (NN_len (by omega))
    · simp only [iLt_len, Nat.lt_irrefl, decide_false, cond_false, conf64 _ (Nat.le_trans hl2 (by omega)), bindK_pure, cond_and, entsB, finB, Bool.true_and, cond_some, List.isEmpty_nil, Bool.true_or]
      cases iEq m.1 5 <;> simp [bNot_def]
    · simp only [iLt_len, h, decide_true, cond_true]
      simp only [idxK_lt h, entry63 _ (he _ (List.getElem_mem h)), in62, bindK_pure, cond_or, bNot_def, iAdd_nat (show n ≤ 4294967296 by omega)]
      rw [hr _ trivial]
      have h3 : iNe m.1 3 = !(iEq m.1 3) := by rw [iNe_def, iEq_def]; rfl
      simp only [entsB, cond_some, h3, List.isEmpty_cons, Bool.false_or]
      cases iEq m.1 3 <;> cases entryB _ <;> cases inB _ _ _ <;> simp
  rw [hloop]
  simp only [msgB, preB, cond_some]
  generalize inB m.1 1 6 = a1; generalize inB m.2.1 1 4 = a2; generalize inB m.2.2.1 1 4 = a3; generalize iEq m.2.1 m.2.2.1 = a4
  generalize inB m.2.2.2.1 0 100000 = b1; generalize inB m.2.2.2.2.2.1 0 100000 = b2; generalize inB m.2.2.2.2.1 0 1000000 = b3; generalize inB m.2.2.2.2.2.2.1 0 1000000 = b4
  generalize iGt (lenI m.2.2.2.2.2.2.2.2.1) 4 = c1; generalize m.2.2.2.2.2.2.2.2.1.isEmpty = c2; generalize iEq m.1 3 = c3
  generalize entsB _ _ _ = d1; generalize finB m = d2; generalize iGt _ 60 = d3
  cases a1 <;> cases a2 <;> cases a3 <;> cases a4 <;> simp
  all_goals (cases b1 <;> cases b2 <;> cases b3 <;> cases b4 <;> simp)
  all_goals (cases c1 <;> cases c2 <;> cases c3 <;> simp)
  all_goals (cases d1 <;> cases d2 <;> cases d3 <;> rfl)

/-! ### numbers in bytes -/
def varI (n : Int) : List Int := if 127 < n then iConv .u8 (iAdd .i64 (iRem n 128) 128) :: varI (n / 128) else [iConv .u8 n]
termination_by n.toNat
decreasing_by omega
def vb (n : Int) : List UInt8 := strP (varI n)
theorem varI_len : ∀ (k : Nat) (n : Int), n < 128 ^ (k + 1) → (varI n).length ≤ k + 1
  | 0, n, h => by
    rw [varI, if_neg (by omega)]; simp
  | k + 1, n, h => by
    rw [varI]
    split
    · have : n / 128 < 128 ^ (k + 1) := by
        rw [Int.pow_succ] at h
        exact Int.ediv_lt_of_lt_mul (by omega) h
      have := varI_len k _ this
      simp only [List.length_cons]; omega
    · simp
theorem strP_len (l : List Int) : (strP l).length = l.length := by rw [strP_def, List.length_map]
theorem strP_app (a b : List Int) : strP (a ++ b) = strP a ++ strP b := by simp only [strP_def, List.map_append]
theorem strP_bytes (b : List UInt8) : strP (bytesP b) = b := by
  rw [strP_def, bytesP_def, List.map_map]
  have : ((fun n : Int => UInt8.ofNat n.toNat) ∘ byteI) = id := by
    funext b
    simp only [Function.comp, byteI_def, Int.toNat_natCast, id]
    exact UInt8.ofNat_toNat
  rw [this, List.map_id]
theorem bytesP_len (b : List UInt8) : (bytesP b).length = b.length := by rw [bytesP_def, List.length_map]
theorem vb_len {n : Int} (k : Nat) (h : n < 128 ^ (k + 1)) : (vb n).length ≤ k + 1 := by rw [vb, strP_len]; exact varI_len k n h
theorem vb5 {n : Int} (h : n ≤ 1000000000) : (vb n).length ≤ 5 := vb_len 4 (by omega)
theorem iGt_ite (n m : Int) : iGt n m = decide (m < n) := by rw [iGt_def]
theorem quo128 {n : Int} (h : 0 ≤ n) (h2 : n ≤ 4000000000) : iQuo .i64 n 128 = n / 128 := by
  rw [iQuo_def, Int.tdiv_eq_ediv_of_nonneg h, Go.IntWalk.i64_in _ (by omega)]
theorem var76 {n : Int} (h0 : 0 ≤ n) (h : n ≤ 1000000000) : F185 (n, ()) = some (vb n, ()) := by
  unfold F185
  refine (loop_eq (σ := Int × List Int × Unit) (fun s => 0 ≤ s.1 ∧ s.2.1.length + s.1.toNat ≤ 2000000000) (fun s => s.1.toNat) (fun s => some (strP (s.2.1 ++ varI s.1), ())) (fun rec s hs hr => ?_) NN (n, [], ()) ⟨h0, by simp only [List.length_nil]; omega⟩ (NN_len (by simp only; omega))).trans (by simp only [List.nil_append, vb])
  obtain ⟨i, a, u⟩ := s
  obtain ⟨hs1, hs2⟩ := hs
  simp only at hs1 hs2 ⊢
  rw [iGt_ite, varI]
  by_cases hc : 127 < i
  · rw [decide_eq_true hc, cond_true, if_pos hc, guardK_pos (gNz_pos (by decide)), guardK_pos (gApp_pos (by simp only [List.length_cons, List.length_nil]; omega)), guardK_pos (gNz_pos (by decide)), quo128 hs1 (by omega), cat_def]
    rw [hr _ ⟨by simp only; omega, by simp only [List.length_append, List.length_cons, List.length_nil]; omega⟩ (by simp only; omega)]
    simp only [List.append_assoc, List.cons_append, List.nil_append]
  · rw [decide_eq_false hc, cond_false, if_neg hc, guardK_pos (gApp_pos (by simp only [List.length_cons, List.length_nil]; omega)), cat_def]
theorem inB_true {x lo hi : Int} (h : lo ≤ x ∧ x ≤ hi) : inB x lo hi = true := by
  simp only [inB, iGe_def, iLe_def, Bool.and_eq_true, decide_eq_true_eq]; exact h
theorem inB_of {x lo hi : Int} (h : inB x lo hi = true) : lo ≤ x ∧ x ≤ hi := by
  simpa only [inB, iGe_def, iLe_def, Bool.and_eq_true, decide_eq_true_eq] using h
theorem var82 {n : Int} (h0 : 0 ≤ n) (h : n ≤ 1000000000) : F192 (n, ()) = some (vb n, true, ()) := by
  unfold F192
  simp only [in62, bindK_pure, inB_true ⟨h0, h⟩, bNot_def, Bool.not_true, cond_false]
  refine (loop_eq (σ := Int × List Int × Unit) (fun s => 0 ≤ s.1 ∧ s.2.1.length + s.1.toNat ≤ 2000000000) (fun s => s.1.toNat) (fun s => some (strP (s.2.1 ++ varI s.1), true, ())) (fun rec s hs hr => ?_) NN (n, [], ()) ⟨h0, by simp only [List.length_nil]; omega⟩ (NN_len (by simp only; omega))).trans (by simp only [List.nil_append, vb])
  obtain ⟨i, a, u⟩ := s
  obtain ⟨hs1, hs2⟩ := hs
  simp only at hs1 hs2 ⊢
  rw [iGt_ite, varI]
  by_cases hc : 127 < i
  · rw [decide_eq_true hc, cond_true, if_pos hc, guardK_pos (gNz_pos (by decide)), guardK_pos (gApp_pos (by simp only [List.length_cons, List.length_nil]; omega)), guardK_pos (gNz_pos (by decide)), quo128 hs1 (by omega), cat_def]
    rw [hr _ ⟨by simp only; omega, by simp only [List.length_append, List.length_cons, List.length_nil]; omega⟩ (by simp only; omega)]
    simp only [List.append_assoc, List.cons_append, List.nil_append]
  · rw [decide_eq_false hc, cond_false, if_neg hc, guardK_pos (gApp_pos (by simp only [List.length_cons, List.length_nil]; omega)), cat_def]
def vars (l : List Int) : List UInt8 := (l.map vb).flatten
theorem vars_len : ∀ (l : List Int), (∀ y ∈ l, 0 ≤ y ∧ y ≤ 1000000000) → (vars l).length ≤ l.length * 5
  | [], _ => by simp [vars]
  | y :: r, h => by
    have := vars_len r fun y hy => h y (List.mem_cons_of_mem _ hy)
    have := vb5 (h y (List.mem_cons_self ..)).2
    simp only [vars, List.map_cons, List.flatten_cons, List.length_append, List.length_cons] at *
    omega
theorem vars81 (l : List Int) (hl : l.length ≤ 1000) (h : ∀ y ∈ l, 0 ≤ y ∧ y ≤ 1000000000) : F191 (l, ()) = some (vars l, true, ()) := by
  unfold F191
  refine (loop_list (xs := l) (a := List Int) (fun i s => (i, s, ())) (fun n s => s.length ≤ n * 5) (fun s r => some (strP s ++ vars r, true, ())) (fun rec s hs => ?_) (fun rec n hn s hs hr => ?_) NN [] (by simp) (NN_len (by omega))).trans (by simp only [strP_def, List.map_nil, List.nil_append])
  · simp only [iLt_len, Nat.lt_irrefl, decide_false, cond_false, vars, List.map_nil, List.flatten_nil, List.append_nil]
  · have hy := h _ (List.getElem_mem hn)
    have hv := vb5 hy.2
    simp only [iLt_len, hn, decide_true, cond_true]
    rw [idxK_lt hn, var82 hy.1 hy.2, bindK_pure]
    simp only [bNot_def, Bool.not_true, cond_false]
    rw [guardK_pos (gApp_pos (by rw [bytesP_len]; omega)), iAdd_nat (by omega), cat_def]
    rw [hr _ (by rw [List.length_append, bytesP_len]; omega)]
    simp only [strP_app, strP_bytes, vars, List.map_cons, List.flatten_cons, List.append_assoc]

/-! ### entries -/
def entB (i : Int) (y : TEntry) : List UInt8 := litS [69] ++ (vb i ++ (vb y.1 ++ (strP [iConv .u8 y.2.1] ++ y.2.2.1)))
theorem one62 : inB 1 1 1000000 = true := inB_true (by omega)
theorem entryB_data {y : TEntry} (h : entryB y = true) : (0 ≤ y.1 ∧ y.1 ≤ 100000) ∧ y.2.2.1.length ≤ 120 := by
  rw [entryB, Bool.and_eq_true] at h
  refine ⟨inB_of h.1, ?_⟩
  have h := h.2
  cases h1 : iEq y.2.1 1 with
  | true =>
    rw [h1, cond_true, strEq_def, litS_def] at h
    have : y.2.2.1 = [] := by simpa using h
    rw [this]; simp
  | false =>
    rw [h1, cond_false] at h
    cases h2 : iEq y.2.1 2 with
    | true =>
      rw [h2, cond_true, readC] at h
      have hc : confB (toC y.2.2.1) = true := by
        cases hc : confB (toC y.2.2.1) with
        | true => rfl
        | false => rw [hc] at h; exact h
      rw [confB, Bool.and_eq_true] at hc
      have := (inB_of hc.1).2
      rw [lenI_def, toC, List.length_map] at this
      omega
    | false =>
      rw [h2, cond_false] at h
      cases h3 : iEq y.2.1 3 with
      | true =>
        rw [h3, cond_true, iLe_def, lenI_def] at h
        have := of_decide_eq_true h
        omega
      | false => rw [h3, cond_false] at h; cases h
theorem ent78 {y : TEntry} (hl : y.2.2.1.length ≤ 1048576) (h : entryB y = true) : F183 (1, y, ()) = some (entB 1 y, true, ()) := by
  obtain ⟨hr, hd⟩ := entryB_data h
  have v1 := vb5 (n := 1) (by omega)
  have v2 := vb5 (n := y.1) (by omega)
  unfold F183
  simp only [entry59 y hl, h, bindK_pure, bNot_def, Bool.not_true, cond_false, in58, one62, var76 (n := 1) (by omega) (by omega), var76 (n := y.1) hr.1 (by omega)]
  have hc : ∀ l : List Nat, (litS l).length = l.length := fun l => by rw [litS_def, List.length_map]
  rw [guardK_pos (gCat_pos (by rw [hc]; simp only [List.length_cons, List.length_nil]; omega)), guardK_pos (gCat_pos (by simp only [cat_def, List.length_append, hc, List.length_cons, List.length_nil]; omega)), guardK_pos (gCat_pos (by simp only [cat_def, List.length_append, hc, strP_len, List.length_cons, List.length_nil]; omega)), guardK_pos (gCat_pos (by simp only [cat_def, List.length_append, hc, strP_len, List.length_cons, List.length_nil]; omega))]
  simp only [cat_def, entB, List.append_assoc]
theorem ent84 {y : TEntry} (hl : y.2.2.1.length ≤ 1048576) (h : entryB y = true) : F194 (1, y, ()) = some (entB 1 y, true, ()) := by
  obtain ⟨hr, hd⟩ := entryB_data h
  have v1 := vb5 (n := 1) (by omega)
  have v2 := vb5 (n := y.1) (by omega)
  have hv : F191 ([1, y.1], ()) = some (vb 1 ++ vb y.1, true, ()) := by
    rw [vars81 _ (by simp) (by intro z hz; simp only [List.mem_cons, List.not_mem_nil, or_false] at hz; rcases hz with rfl | rfl <;> omega)]
    simp only [vars, List.map_cons, List.map_nil, List.flatten_cons, List.flatten_nil, List.append_nil]
  unfold F194
  simp only [entry63 y hl, h, bindK_pure, bNot_def, Bool.not_true, cond_false, in62, one62, hv]
  have hc : ∀ l : List Nat, (litS l).length = l.length := fun l => by rw [litS_def, List.length_map]
  rw [guardK_pos (gCat_pos (by simp only [List.length_append, hc, List.length_cons, List.length_nil]; omega)), guardK_pos (gCat_pos (by simp only [cat_def, List.length_append, hc, strP_len, List.length_cons, List.length_nil]; omega)), guardK_pos (gCat_pos (by simp only [cat_def, List.length_append, hc, strP_len, List.length_cons, List.length_nil]; omega))]
  simp only [cat_def, entB, List.append_assoc]
theorem entB_len {y : TEntry} (h : entryB y = true) : (entB 1 y).length ≤ 140 := by
  obtain ⟨hr, hd⟩ := entryB_data h
  have v1 := vb5 (n := 1) (by omega)
  have v2 := vb5 (n := y.1) (by omega)
  simp only [entB, List.length_append, litS_def, List.length_map, strP_len, List.length_cons, List.length_nil]
  omega
def shB (s : List UInt8) : List UInt8 := vb (lenI s) ++ s
theorem sh79 {s : List UInt8} (h : s.length ≤ 20000) : F187 (s, ()) = some (shB s, ()) := by
  unfold F187
  have : lenI s ≤ 20000 := by rw [lenI_def]; omega
  have h0 : 0 ≤ lenI s := by rw [lenI_def]; omega
  have v := vb5 (n := lenI s) (by omega)
  simp only [var76 h0 (by omega), bindK_pure]
  rw [guardK_pos (gCat_pos (by omega)), cat_def, shB]
theorem sh85 {s : List UInt8} (h : s.length ≤ 20000) : F195 (s, ()) = some (shB s, true, ()) := by
  unfold F195
  have : lenI s ≤ 20000 := by rw [lenI_def]; omega
  have h0 : 0 ≤ lenI s := by rw [lenI_def]; omega
  have v := vb5 (n := lenI s) (by omega)
  simp only [var82 h0 (by omega), bindK_pure, iGt_ite, decide_eq_false (show ¬ (20000 < lenI s) by omega), cond_false]
  rw [guardK_pos (gCat_pos (by omega)), cat_def, shB]
theorem shB_len {s : List UInt8} {n : Nat} (h : s.length ≤ n) (hn : n ≤ 20000) : (shB s).length ≤ n + 5 := by
  have v := vb5 (n := lenI s) (by rw [lenI_def]; omega)
  rw [shB, List.length_append]; omega

/-! ### confs -/
def cB (xs : List Int) : List UInt8 := strP (xs.map (iConv .u8))
theorem cT80 (xs : List Int) (hl : xs.length ≤ 1000) (h : confB xs = true ∨ xs = []) : ∃ b, F40 (xs, ()) = some (cB xs, b, ()) := by
  unfold F40
  rw [conf60 _ (by omega), bindK_pure]
  rcases h with h | rfl
  · simp only [h, bNot_def, Bool.not_true, cond_false]
    refine ⟨true, (loop_list (xs := xs) (a := List Int) (fun i s => (i, s, ())) (fun n s => s.length = n) (fun s r => some (strP (s ++ r.map (iConv .u8)), true, ())) (fun rec s hs => ?_) (fun rec n hn s hs hr => ?_) NN [] rfl (NN_len (by omega))).trans (by simp only [List.nil_append, cB])⟩
    · simp only [iLt_len, Nat.lt_irrefl, decide_false, cond_false, List.map_nil, List.append_nil]
    · simp only [iLt_len, hn, decide_true, cond_true]
      rw [idxK_lt hn, guardK_pos (gApp_pos (by simp only [List.length_cons, List.length_nil]; omega)), iAdd_nat (by omega), cat_def]
      rw [hr _ (by simp only [List.length_append, List.length_cons, List.length_nil]; omega)]
      simp only [List.map_cons, List.append_assoc, List.cons_append, List.nil_append]
  · have : confB [] = false := by
      rw [confB, inB, lenI_def, iGe_def]; simp
    rw [this, bNot_def, Bool.not_false, cond_true]
    refine ⟨false, ?_⟩
    simp only [cB, List.map_nil, strP_def, litS_def]

/-! ### messages in bytes -/
def fB (b : Bool) : List UInt8 := bif b then litS [1] else litS [0]
theorem f77 (b : Bool) : F186 (b, ()) = some (fB b, ()) := by unfold F186; cases b <;> rfl
theorem f83 (a b : Bool) : ∃ i j, F193 (a, ()) = some (i, ()) ∧ F193 (b, ()) = some (j, ()) ∧ strP [i, j] = fB a ++ fB b := by
  unfold F193
  refine ⟨bif a then 1 else 0, bif b then 1 else 0, by cases a <;> rfl, by cases b <;> rfl, ?_⟩
  cases a <;> cases b <;> simp [fB, strP_def, litS_def]
def hdB (m : TMessage) : List UInt8 := strP [iConv .u8 m.1, iConv .u8 m.2.1, iConv .u8 m.2.2.1] ++ (vb m.2.2.2.1 ++ (vb m.2.2.2.2.1 ++ (vb m.2.2.2.2.2.1 ++ (vb m.2.2.2.2.2.2.1 ++ (fB m.2.2.2.2.2.2.2.1 ++ (fB m.2.2.2.2.2.2.2.2.2.2.2.1 ++ vb (lenI m.2.2.2.2.2.2.2.2.1)))))))
def esB (r : List TEntry) : List UInt8 := (r.map fun y => shB (entB 1 y)).flatten
def tlB (m : TMessage) : List UInt8 := shB (cB m.2.2.2.2.2.2.2.2.2.1) ++ shB m.2.2.2.2.2.2.2.2.2.2.1
def enc (m : TMessage) : List UInt8 × Bool × Unit := bif msgB m then (hdB m ++ (esB m.2.2.2.2.2.2.2.2.1 ++ tlB m), true, ()) else (litS [], false, ())
structure MsgOk (m : TMessage) : Prop where
  t : 0 ≤ m.2.2.2.1 ∧ m.2.2.2.1 ≤ 100000
  i : 0 ≤ m.2.2.2.2.1 ∧ m.2.2.2.2.1 ≤ 1000000
  l : 0 ≤ m.2.2.2.2.2.1 ∧ m.2.2.2.2.2.1 ≤ 100000
  c : 0 ≤ m.2.2.2.2.2.2.1 ∧ m.2.2.2.2.2.2.1 ≤ 1000000
  n : m.2.2.2.2.2.2.2.2.1.length ≤ 4
  e : ∀ y ∈ m.2.2.2.2.2.2.2.2.1, entryB y = true
  f : confB m.2.2.2.2.2.2.2.2.2.1 = true ∨ m.2.2.2.2.2.2.2.2.2.1 = []
  fl : m.2.2.2.2.2.2.2.2.2.1.length ≤ 4
  d : m.2.2.2.2.2.2.2.2.2.2.1.length ≤ 60
theorem entsB_all {T : Int} : ∀ {p : Int} {r : List TEntry}, entsB T p r = true → ∀ y ∈ r, entryB y = true
  | _, [], _, y, hy => by cases hy
  | p, z :: r, h, y, hy => by
    rw [entsB, Bool.and_eq_true, Bool.and_eq_true] at h
    rcases List.mem_cons.1 hy with rfl | hy
    · exact h.1.1
    · exact entsB_all h.2 y hy
theorem confB_len {xs : List Int} (h : confB xs = true) : xs.length ≤ 4 := by
  rw [confB, Bool.and_eq_true] at h
  have := (inB_of h.1).2
  rw [lenI_def] at this
  omega
theorem msgOk {m : TMessage} (h : msgB m = true) : MsgOk m := by
  simp only [msgB, preB, Bool.and_eq_true] at h
  obtain ⟨⟨_, ⟨⟨ht, hl⟩, hi⟩, hc⟩, hn, hd, _, he, hf⟩ := h
  have hf' : confB m.2.2.2.2.2.2.2.2.2.1 = true ∨ m.2.2.2.2.2.2.2.2.2.1 = [] := by
    rw [finB] at hf
    cases h5 : iEq m.1 5 with
    | true => rw [h5, cond_true] at hf; exact .inl hf
    | false =>
      rw [h5, cond_false, Bool.and_eq_true, Bool.and_eq_true] at hf
      have := hf.1.1
      rw [iEq_def, lenI_def] at this
      refine .inr ?_
      have : (m.2.2.2.2.2.2.2.2.2.1.length : Int) = 0 := by simpa using this
      exact List.eq_nil_of_length_eq_zero (by omega)
  refine ⟨inB_of ht, inB_of hi, inB_of hl, inB_of hc, ?_, entsB_all he, hf', ?_, ?_⟩
  · rw [iGt_ite, lenI_def] at hn
    have : ¬ ((4 : Int) < (m.2.2.2.2.2.2.2.2.1.length : Int)) := by simpa using hn
    omega
  · rcases hf' with h | h
    · exact confB_len h
    · rw [h]; simp
  · rw [iGt_ite, lenI_def] at hd
    have : ¬ ((60 : Int) < (m.2.2.2.2.2.2.2.2.2.2.1.length : Int)) := by simpa using hd
    omega
theorem fB_len (b : Bool) : (fB b).length = 1 := by cases b <;> simp [fB, litS_def]

theorem hd_len {m : TMessage} (h : MsgOk m) : (hdB m).length ≤ 40 := by
  have v1 := vb5 (n := m.2.2.2.1) (by have := h.t; omega)
  have v2 := vb5 (n := m.2.2.2.2.1) (by have := h.i; omega)
  have v3 := vb5 (n := m.2.2.2.2.2.1) (by have := h.l; omega)
  have v4 := vb5 (n := m.2.2.2.2.2.2.1) (by have := h.c; omega)
  have v5 := vb5 (n := lenI m.2.2.2.2.2.2.2.2.1) (by rw [lenI_def]; have := h.n; omega)
  simp only [hdB, List.length_append, strP_len, fB_len, List.length_cons, List.length_nil]
  omega
theorem enc30 (m : TMessage) (hl : m.2.2.2.2.2.2.2.2.1.length ≤ 1048576) (hl2 : m.2.2.2.2.2.2.2.2.2.1.length ≤ 1048576) (he : ∀ y ∈ m.2.2.2.2.2.2.2.2.1, y.2.2.1.length ≤ 1048576) : F134 (m, ()) = some (enc m) := by
  unfold F134
  rw [msg15 m hl hl2 he, bindK_pure, enc]
  cases hm : msgB m with
  | false => simp only [bNot_def, Bool.not_false, cond_true, cond_false]
  | true =>
    have h := msgOk hm
    have v1 := vb5 (n := m.2.2.2.1) (by have := h.t; omega)
    have v2 := vb5 (n := m.2.2.2.2.1) (by have := h.i; omega)
    have v3 := vb5 (n := m.2.2.2.2.2.1) (by have := h.l; omega)
    have v4 := vb5 (n := m.2.2.2.2.2.2.1) (by have := h.c; omega)
    have v5 := vb5 (n := lenI m.2.2.2.2.2.2.2.2.1) (by rw [lenI_def]; have := h.n; omega)
    have hl5 : 0 ≤ lenI m.2.2.2.2.2.2.2.2.1 ∧ lenI m.2.2.2.2.2.2.2.2.1 ≤ 4 := by rw [lenI_def]; have := h.n; omega
    simp only [bNot_def, Bool.not_true, cond_false, cond_true, var76 h.t.1 (by have := h.t; omega), var76 h.i.1 (by have := h.i; omega), var76 h.l.1 (by have := h.l; omega), var76 h.c.1 (by have := h.c; omega), var76 hl5.1 (by omega), show F186 m.2.2.2.2.2.2.2.2.2.2.2 = _ from f77 m.2.2.2.2.2.2.2.2.2.2.2.1, f77, bindK_pure]
    rw [guardK_pos (gCat_pos (by simp only [strP_len, List.length_cons, List.length_nil]; omega))]
    rw [guardK_pos (gCat_pos (by simp only [cat_def, List.length_append, strP_len, List.length_cons, List.length_nil]; omega))]
    rw [guardK_pos (gCat_pos (by simp only [cat_def, List.length_append, strP_len, List.length_cons, List.length_nil]; omega))]
    rw [guardK_pos (gCat_pos (by simp only [cat_def, List.length_append, strP_len, List.length_cons, List.length_nil]; omega))]
    rw [guardK_pos (gCat_pos (by simp only [cat_def, List.length_append, strP_len, fB_len, List.length_cons, List.length_nil]; omega))]
    rw [guardK_pos (gCat_pos (by simp only [cat_def, List.length_append, strP_len, fB_len, List.length_cons, List.length_nil]; omega))]
    rw [guardK_pos (gCat_pos (by simp only [cat_def, List.length_append, strP_len, fB_len, List.length_cons, List.length_nil]; omega))]
    obtain ⟨b, hcT⟩ := cT80 m.2.2.2.2.2.2.2.2.2.1 (by have := h.fl; omega) h.f
    have hcl : (cB m.2.2.2.2.2.2.2.2.2.1).length ≤ 4 := by rw [cB, strP_len, List.length_map]; exact h.fl
    have hs1 := shB_len hcl (by omega)
    have hs2 := shB_len h.d (by omega)
    have hh := hd_len h
    refine (loop_list (xs := m.2.2.2.2.2.2.2.2.1) (a := List UInt8) (fun i s => (i, s, ())) (fun n s => s.length ≤ 40 + n * 1000) (fun s r => some (s ++ (esB r ++ tlB m), true, ())) (fun rec s hs => ?_) (fun rec n hn s hs hr => ?_) NN _ ?_ (NN_len (by omega))).trans ?_
    · have := h.n
      simp only [iLt_len, Nat.lt_irrefl, decide_false, cond_false, hcT, bindK_pure, sh79 (show (cB m.2.2.2.2.2.2.2.2.2.1).length ≤ 20000 by omega), sh79 (show m.2.2.2.2.2.2.2.2.2.2.1.length ≤ 20000 by have := h.d; omega)]
      rw [guardK_pos (gCat_pos (by omega)), guardK_pos (gCat_pos (by rw [cat_def, List.length_append]; omega))]
      simp only [cat_def, esB, List.map_nil, List.flatten_nil, List.nil_append, tlB, List.append_assoc]
    · have hy := h.e _ (List.getElem_mem hn)
      have hyl := he _ (List.getElem_mem hn)
      have := entB_len hy
      have hsh := shB_len this (by omega)
      simp only [iLt_len, hn, decide_true, cond_true]
      rw [idxK_lt hn, ent78 hyl hy, bindK_pure]
      simp only [sh79 (show (entB 1 m.2.2.2.2.2.2.2.2.1[n]).length ≤ 20000 by omega), bindK_pure]
      rw [guardK_pos (gCat_pos (by omega)), iAdd_nat (by omega), cat_def]
      rw [hr _ (by rw [List.length_append]; omega)]
      simp only [esB, List.map_cons, List.flatten_cons, List.append_assoc]
    · simp only [cat_def, List.append_assoc]
      rw [hdB] at hh
      omega
    · simp only [hdB, cat_def, List.append_assoc]
theorem enc31 (m : TMessage) (hl : m.2.2.2.2.2.2.2.2.1.length ≤ 1048576) (hl2 : m.2.2.2.2.2.2.2.2.2.1.length ≤ 1048576) (he : ∀ y ∈ m.2.2.2.2.2.2.2.2.1, y.2.2.1.length ≤ 1048576) : F141 (m, ()) = some (enc m) := by
  unfold F141
  rw [msg17 m hl hl2 he, bindK_pure, enc]
  cases hm : msgB m with
  | false => simp only [bNot_def, Bool.not_false, cond_true, cond_false]
  | true =>
    have h := msgOk hm
    have v1 := vb5 (n := m.2.2.2.1) (by have := h.t; omega)
    have v2 := vb5 (n := m.2.2.2.2.1) (by have := h.i; omega)
    have v3 := vb5 (n := m.2.2.2.2.2.1) (by have := h.l; omega)
    have v4 := vb5 (n := m.2.2.2.2.2.2.1) (by have := h.c; omega)
    have v5 := vb5 (n := lenI m.2.2.2.2.2.2.2.2.1) (by rw [lenI_def]; have := h.n; omega)
    have hl5 : 0 ≤ lenI m.2.2.2.2.2.2.2.2.1 ∧ lenI m.2.2.2.2.2.2.2.2.1 ≤ 4 := by rw [lenI_def]; have := h.n; omega
    obtain ⟨i, j, hi, hj, hij⟩ := f83 m.2.2.2.2.2.2.2.1 m.2.2.2.2.2.2.2.2.2.2.2.1
    have hv : F191 ([m.2.2.2.1, m.2.2.2.2.1, m.2.2.2.2.2.1, m.2.2.2.2.2.2.1], ()) = some (vb m.2.2.2.1 ++ (vb m.2.2.2.2.1 ++ (vb m.2.2.2.2.2.1 ++ vb m.2.2.2.2.2.2.1)), true, ()) := by
      rw [vars81 _ (by simp) (by
        intro z hz
        have := h.t; have := h.i; have := h.l; have := h.c
        simp only [List.mem_cons, List.not_mem_nil, or_false] at hz
        rcases hz with rfl | rfl | rfl | rfl <;> omega)]
      simp only [vars, List.map_cons, List.map_nil, List.flatten_cons, List.flatten_nil, List.append_nil]
    simp only [bNot_def, Bool.not_true, cond_false, cond_true, hv, var82 hl5.1 (by omega), hi, show F193 m.2.2.2.2.2.2.2.2.2.2.2 = _ from hj, bindK_pure, hij]
    rw [guardK_pos (gCat_pos (by simp only [List.length_append, strP_len, List.length_cons, List.length_nil]; omega))]
    rw [guardK_pos (gCat_pos (by simp only [cat_def, List.length_append, strP_len, fB_len, List.length_cons, List.length_nil]; omega))]
    rw [guardK_pos (gCat_pos (by simp only [cat_def, List.length_append, strP_len, fB_len, List.length_cons, List.length_nil]; omega))]
    have hcl : (cB m.2.2.2.2.2.2.2.2.2.1).length ≤ 4 := by rw [cB, strP_len, List.length_map]; exact h.fl
    have hs1 := shB_len hcl (by omega)
    have hs2 := shB_len h.d (by omega)
    have hh := hd_len h
    refine (loop_list (xs := m.2.2.2.2.2.2.2.2.1) (a := List UInt8) (fun i s => (i, s, ())) (fun n s => s.length ≤ 40 + n * 1000) (fun s r => some (s ++ (esB r ++ tlB m), true, ())) (fun rec s hs => ?_) (fun rec n hn s hs hr => ?_) NN _ ?_ (NN_len (by omega))).trans ?_
    · have := h.n
      simp only [iLt_len, Nat.lt_irrefl, decide_false, cond_false]
      refine (loop_list (xs := m.2.2.2.2.2.2.2.2.2.1) (a := List Int) (fun i a => (i, a, ())) (fun n a => a = (m.2.2.2.2.2.2.2.2.2.1.take n).map (iConv .u8)) (fun a r => some (s ++ tlB m, true, ())) (fun rec a ha => ?_) (fun rec n hn a ha hr => ?_) NN [] (by simp) (NN_len (by omega))).trans (by simp only [esB, List.map_nil, List.flatten_nil, List.nil_append])
      · rw [List.take_length] at ha
        have : strP a = cB m.2.2.2.2.2.2.2.2.2.1 := by rw [ha, cB]
        simp only [iLt_len, Nat.lt_irrefl, decide_false, cond_false, this, sh85 (show (cB m.2.2.2.2.2.2.2.2.2.1).length ≤ 20000 by omega), sh85 (show m.2.2.2.2.2.2.2.2.2.2.1.length ≤ 20000 by have := h.d; omega), bindK_pure]
        rw [guardK_pos (gCat_pos (by omega)), guardK_pos (gCat_pos (by rw [cat_def, List.length_append]; omega))]
        simp only [cat_def, tlB, List.append_assoc]
      · simp only [iLt_len, hn, decide_true, cond_true]
        rw [idxK_lt hn, guardK_pos (gApp_pos (by rw [ha]; simp only [List.length_map, List.length_take, List.length_cons, List.length_nil]; omega)), iAdd_nat (by omega), cat_def]
        exact hr _ (by rw [ha, List.take_succ_eq_append_getElem hn]; simp only [List.map_append, List.map_cons, List.map_nil])
    · have hy := h.e _ (List.getElem_mem hn)
      have hyl := he _ (List.getElem_mem hn)
      have := entB_len hy
      have hsh := shB_len this (by omega)
      simp only [iLt_len, hn, decide_true, cond_true]
      rw [idxK_lt hn, ent84 hyl hy, bindK_pure]
      simp only [sh85 (show (entB 1 m.2.2.2.2.2.2.2.2.1[n]).length ≤ 20000 by omega), bindK_pure]
      rw [guardK_pos (gCat_pos (by omega)), iAdd_nat (by omega), cat_def]
      rw [hr _ (by rw [List.length_append]; omega)]
      simp only [esB, List.map_cons, List.flatten_cons, List.append_assoc]
    · simp only [cat_def, List.append_assoc]
      rw [hdB] at hh
      omega
    · simp only [hdB, cat_def, List.append_assoc]
end
end Go.Proofs.Ytiamdibpgdkedaa.De
