/- The two ways to tell whether a message is right tell the same. -/
import Derived.Test.YtjnmebjagambkaaMb
import Derived.Test.YtjnmebjagambkaaG11
namespace Go.Proofs.Ytjnmebjagambkaa.M
open Go Go.Am
set_option linter.unusedVariables false
set_option linter.unusedSimpArgs false

noncomputable section
/-! ### the law's helpers -/
theorem sz140 (y : TEntry) (v : Int × Unit) : ∃ r, F140 (y, v) = some r := by unfold F140; rw [cond_some]; exact ⟨_, rfl⟩
theorem sz56 (xs : List TEntry) (v : Int × Unit) (hl : xs.length ≤ 4294967296) : ∃ r, F56 (xs, v) = some r := szS_ok (fun y _ v => sz140 y v) hl _
theorem sz57 (xs : List Int) (v : Int × Unit) : ∃ r, F57 (xs, v) = some r := by unfold F57; rw [cond_some]; exact ⟨_, rfl⟩
theorem sz14 (m : TMessage) (v : Int × Unit) (hl : m.2.2.2.2.2.2.2.2.1.length ≤ 4294967296) : ∃ r, F14 (m, v) = some r := by
  unfold F14
  obtain ⟨r, h⟩ := sz56 m.2.2.2.2.2.2.2.2.1 v hl
  simp only [h, bindK_pure]
  cases iLt r.1 0 with
  | true => exact ⟨_, rfl⟩
  | false =>
    obtain ⟨q, h⟩ := sz57 m.2.2.2.2.2.2.2.2.2.1 r
    simp only [h, bindK_pure, cond_false]
    cases iLt q.1 0 with
    | true => exact ⟨_, rfl⟩
    | false => simp only [cond_false, cond_some]; exact ⟨_, rfl⟩
theorem to16 (m : TMessage) (hl : m.2.2.2.2.2.2.2.2.1.length ≤ 1048576) (hl2 : m.2.2.2.2.2.2.2.2.2.1.length ≤ 1048576) : F16 (m, ()) = some (m, ()) := by
  unfold F16
  have h1 : F61 (m.2.2.2.2.2.2.2.2.1, ()) = some (m.2.2.2.2.2.2.2.2.1, ()) := toS_ok (xs := m.2.2.2.2.2.2.2.2.1) (by omega) (fun y _ => rfl) (by omega)
  have h2 : F40 (m.2.2.2.2.2.2.2.2.2.1, ()) = some (m.2.2.2.2.2.2.2.2.2.1, ()) := toP_ok (xs := m.2.2.2.2.2.2.2.2.2.1) (by omega) (by omega)
  simp only [h1, h2, bindK_pure]
theorem eq142 (y : TEntry) : F142 (y, y, ()) = some (true, ()) := by
  unfold F142
  simp [iNe_def, strEq_def, bNot_def]
theorem eq18 (m : TMessage) (hl : m.2.2.2.2.2.2.2.2.1.length ≤ 1048576) (hl2 : m.2.2.2.2.2.2.2.2.2.1.length ≤ 1048576) : F18 (m, m, ()) = some (true, ()) := by
  unfold F18
  have h1 : F65 (m.2.2.2.2.2.2.2.2.1, m.2.2.2.2.2.2.2.2.1, ()) = some (true, ()) := eqS_refl (xs := m.2.2.2.2.2.2.2.2.1) (fun y _ => eq142 y) (by omega)
  have h2 : F23 (m.2.2.2.2.2.2.2.2.2.1, m.2.2.2.2.2.2.2.2.2.1, ()) = some (true, ()) := eqP_refl (xs := m.2.2.2.2.2.2.2.2.2.1) (ne := iNe) (fun y => by simp [iNe_def]) (by omega)
  simp only [h1, h2, bindK_pure]
  simp [iNe_def, strEq_def, bNot_def, bNe_def]

/-! ### what both ask -/
def inB (x lo hi : Int) : Bool := iGe x lo && iLe x hi
theorem in58 (x lo hi : Int) : F58 (x, lo, hi, ()) = some (inB x lo hi, ()) := by
  unfold F58
  simp only [cond_and, bindK_pure, inB]
theorem in62 (x lo hi : Int) : F62 (x, lo, hi, ()) = some (inB x lo hi, ()) := in58 x lo hi
def geO : Option Int → Int → Bool
  | none, _ => false
  | some q, y => iGe q y
def riseB : Option Int → List Int → Bool
  | _, [] => true
  | p, y :: r => (inB y 1 4 && !geO p y) && riseB (some y) r
def prevO (xs : List Int) : Nat → Option Int
  | 0 => none
  | n + 1 => xs[n]?
theorem prev_get {xs : List Int} {n : Nat} {ρ : Type} (hn : n < xs.length) (k : Bool → Option ρ) (hl : xs.length ≤ 4294967296) :
    bindK (bif iGt (n : Int) 0 then idxK xs (iSub .i64 (n : Int) 1) fun y4 => idxK xs (n : Int) fun y5 => some (iGe y4 y5) else some false) k = k (geO (prevO xs n) xs[n]) := by
  cases n with
  | zero => simp [iGt_def, bindK_pure, prevO, geO]
  | succ n =>
    have : iGt ((n + 1 : Nat) : Int) 0 = true := by rw [iGt_def]; simp <;> omega
    rw [this, cond_true, iSub64 (by omega)]
    have e : ((n + 1 : Nat) : Int) - 1 = (n : Int) := by omega
    rw [e, idxK_lt (by omega : n < xs.length), idxK_lt hn, bindK_pure]
    simp [prevO, geO, List.getElem?_eq_getElem (by omega : n < xs.length)]
theorem rise93 (xs : List Int) (hl : xs.length ≤ 4294967296) : F93 (xs, 1, 4, ()) = some (riseB none xs, ()) := by
  unfold F93
  refine loop_list (xs := xs) (a := Option Int) (fun i _ => (i, ())) (fun n p => p = prevO xs n) (fun p r => some (riseB p r, ())) (fun rec s hs => ?_) (fun rec n h s hs hr => ?_) NN none rfl (NN_len hl)
  · simp only [iLt_len, Nat.lt_irrefl, decide_false, cond_false, riseB]
  · subst hs
    simp only [iLt_len, h, decide_true, cond_true]
    rw [idxK_lt h]
    simp only [in58, bindK_pure]
    have hb : ∀ (b : Bool), (bif bNot b then some true else bindK (bif iGt (n : Int) 0 then idxK xs (iSub .i64 (n : Int) 1) fun y4 => idxK xs (n : Int) fun y5 => some (iGe y4 y5) else some false) fun y6 => some y6) = some (!b || geO (prevO xs n) xs[n]) := by
      intro b
      rw [prev_get h _ hl, bNot_def, cond_or]
    rw [hb, bindK_pure, iAdd_nat (by omega)]
    rw [hr (some xs[n]) (by simp [prevO, List.getElem?_eq_getElem h])]
    simp only [riseB, cond_some]
    cases inB xs[n] 1 4 <;> cases geO (prevO xs n) xs[n] <;> simp
theorem prev_get1 {xs : List Int} {n : Nat} {ρ : Type} (hn : n < xs.length) (k : Bool → Option ρ) (hl : xs.length ≤ 4294967296) :
    bindK (bif iGt (n : Int) 0 then idxK xs (iSub .i64 (n : Int) 1) fun y4 => some (iGe y4 xs[n]) else some false) k = k (geO (prevO xs n) xs[n]) := by
  cases n with
  | zero => simp [iGt_def, bindK_pure, prevO, geO]
  | succ n =>
    have : iGt ((n + 1 : Nat) : Int) 0 = true := by rw [iGt_def]; simp <;> omega
    rw [this, cond_true, iSub64 (by omega)]
    have e : ((n + 1 : Nat) : Int) - 1 = (n : Int) := by omega
    rw [e, idxK_lt (by omega : n < xs.length), bindK_pure]
    simp [prevO, geO, List.getElem?_eq_getElem (by omega : n < xs.length)]
def confB (xs : List Int) : Bool := inB (lenI xs) 1 4 && riseB none xs
theorem conf60 (xs : List Int) (hl : xs.length ≤ 4294967296) : F60 (xs, ()) = some (confB xs, ()) := by
  unfold F60
  simp only [in58, rise93 xs hl, bindK_pure, cond_and, confB]
theorem conf64 (xs : List Int) (hl : xs.length ≤ 4294967296) : F64 (xs, ()) = some (confB xs, ()) := by
  unfold F64
  have : some (confB xs, ()) = some (riseB none xs && inB (lenI xs) 1 4, ()) := by rw [confB, Bool.and_comm]
  rw [this]
  refine loop_list (xs := xs) (a := Option Int) (fun i _ => (i, ())) (fun n p => p = prevO xs n) (fun p r => some (riseB p r && inB (lenI xs) 1 4, ())) (fun rec s hs => ?_) (fun rec n h s hs hr => ?_) NN none rfl (NN_len hl)
  · simp only [iLt_len, Nat.lt_irrefl, decide_false, cond_false, riseB, in62, bindK_pure, Bool.true_and]
  · subst hs
    simp only [iLt_len, h, decide_true, cond_true]
    rw [idxK_lt h]
    simp only [in62, bindK_pure]
    have hb : ∀ (b : Bool), (bif bNot b then some true else bindK (bif iGt (n : Int) 0 then idxK xs (iSub .i64 (n : Int) 1) fun y4 => some (iGe y4 xs[n]) else some false) fun y6 => some y6) = some (!b || geO (prevO xs n) xs[n]) := by
      intro b
      rw [prev_get1 h _ hl, bNot_def, cond_or]
    rw [hb, bindK_pure, iAdd_nat (by omega)]
    rw [hr (some xs[n]) (by simp [prevO, List.getElem?_eq_getElem h])]
    simp only [riseB, cond_some]
    cases inB xs[n] 1 4 <;> cases geO (prevO xs n) xs[n] <;> simp

def toC (t : List UInt8) : List Int := t.map fun b => iConv .i64 (byteI b)
def readC (t : List UInt8) : List Int × Bool × Unit := bif confB (toC t) then (toC t, true, ()) else ([], false, ())
theorem conf71 (t : List UInt8) (hl : t.length ≤ 1048576) : F71 (t, ()) = some (readC t) := by
  unfold F71
  refine loop_list (xs := t) (a := List Int) (fun i s => (i, s, ())) (fun n s => s = toC (t.take n)) (fun s r => some (bif confB (s ++ toC r) then (s ++ toC r, true, ()) else ([], false, ()))) (fun rec s hs => ?_) (fun rec n h s hs hr => ?_) NN [] (by simp [toC]) (NN_len (by omega))
  · simp only [iLt_len, Nat.lt_irrefl, decide_false, cond_false]
    subst hs
    rw [conf64 _ (by simp [toC]; omega), bindK_pure]
    simp only [toC, List.map_nil, List.append_nil, bNot_def]
    cases confB _ <;> rfl
  · subst hs
    simp only [iLt_len, h, decide_true, cond_true]
    rw [idxK_lt h, guardK_pos (gApp_pos (by simp [toC]; omega)), iAdd_nat (by omega), cat_def]
    rw [hr _ (by rw [List.take_succ_eq_append_getElem h]; simp only [toC, List.map_append, List.map_cons, List.map_nil])]
    simp only [toC, List.map_cons, List.append_assoc, List.cons_append, List.nil_append]
theorem conf68 (t : List UInt8) (hl : t.length ≤ 1048576) : F68 (t, ()) = some (readC t) := by
  unfold F68
  refine loop_eq (σ := Int × List Int × Unit) (fun s => ∃ n : Nat, s.1 = n ∧ n ≤ t.length ∧ n ≤ 5 ∧ s.2.1 = toC (t.take n)) (fun s => t.length - s.1.toNat) (fun _ => some (readC t)) (fun rec s hs hr => ?_) NN (0, [], ()) ⟨0, rfl, by omega, by omega, by simp [toC]⟩ (NN_len (by omega))
  obtain ⟨n, h1, h2, h3, h4⟩ := hs
  obtain ⟨i, s, u⟩ := s
  simp only at h1 h4
  subst h1 h4
  simp only [cond_and, bindK_pure, iLt_len]
  by_cases hc : n < t.length ∧ n ≤ 4
  · have hb : (decide (n < t.length) && iLe (n : Int) 4) = true := by simp [iLe_def, hc.1]; omega
    rw [hb, cond_true, idxK_lt hc.1, guardK_pos (gApp_pos (by simp [toC]; omega)), iAdd_nat (by omega), cat_def]
    refine hr _ ⟨n + 1, rfl, by omega, by omega, ?_⟩ ?_
    · rw [List.take_succ_eq_append_getElem hc.1]; simp only [toC, List.map_append, List.map_cons, List.map_nil]
    · simp only [Int.toNat_natCast]; omega
  · have hb : (decide (n < t.length) && iLe (n : Int) 4) = false := by
      simp only [iLe_def, Bool.and_eq_false_iff, decide_eq_false_iff_not]
      by_cases h : n < t.length
      · right; omega
      · exact .inl h
    rw [hb, cond_false]
    have hlen : (toC (t.take n)).length = n := by simp [toC]; omega
    rw [conf60 _ (by rw [hlen]; omega), bindK_pure, iNe_def, lenI_def, lenI_def, hlen, cond_or, bindK_pure, bNot_def]
    by_cases hn : n = t.length
    · have : t.take n = t := by rw [hn, List.take_length]
      rw [this, readC]
      simp only [hn, bne_self_eq_false, Bool.false_or]
      cases confB (toC t) <;> rfl
    · have h5 : (((n : Int)) != (t.length : Int)) = true := by simp; omega
      rw [h5, Bool.true_or, cond_true, readC]
      have : confB (toC t) = false := by
        have : inB (lenI (toC t)) 1 4 = false := by
          rw [inB, lenI_def, iLe_def]
          simp only [toC, List.length_map, Bool.and_eq_false_iff, decide_eq_false_iff_not]
          right; omega
        rw [confB, this, Bool.false_and]
      rw [this]; rfl

def entryB (y : TEntry) : Bool := inB y.1 0 100000 && (bif iEq y.2.1 1 then strEq y.2.2.1 (litS []) else bif iEq y.2.1 2 then (readC y.2.2.1).2.1 else bif iEq y.2.1 3 then iLe (lenI y.2.2.1) 120 else false)
theorem entry59 (y : TEntry) (hl : y.2.2.1.length ≤ 1048576) : F59 (y, ()) = some (entryB y, ()) := by
  unfold F59
  have h := conf68 y.2.2.1 hl
  simp only [in58, bindK_pure, bNot_def, entryB]
  rw [show F68 y.2.2 = some (readC y.2.2.1) from h, bindK_pure]
  cases inB y.1 0 100000 <;> cases iEq y.2.1 1 <;> cases iEq y.2.1 2 <;> cases iEq y.2.1 3 <;> rfl
theorem entry63 (y : TEntry) (hl : y.2.2.1.length ≤ 1048576) : F63 (y, ()) = some (entryB y, ()) := by
  unfold F63
  have h := conf71 y.2.2.1 hl
  simp only [in62, bindK_pure, bNot_def, entryB]
  rw [show F71 y.2.2 = some (readC y.2.2.1) from h, bindK_pure]
  cases inB y.1 0 100000 <;> cases iEq y.2.1 1 <;> cases iEq y.2.1 2 <;> cases iEq y.2.1 3 <;> rfl

/-! ### messages -/
def entsB (T : Int) : Int → List TEntry → Bool
  | _, [] => true
  | p, y :: r => (entryB y && inB y.1 p T) && entsB T y.1 r
def finB (m : TMessage) : Bool := bif iEq m.1 5 then confB m.2.2.2.2.2.2.2.2.2.1 else (iEq (lenI m.2.2.2.2.2.2.2.2.2.1) 0 && strEq m.2.2.2.2.2.2.2.2.2.2.1 (litS [])) && bNot m.2.2.2.2.2.2.2.2.2.2.2.1
def preB (m : TMessage) : Bool := (((inB m.1 1 6 && inB m.2.1 1 4) && inB m.2.2.1 1 4) && !(iEq m.2.1 m.2.2.1)) && (((inB m.2.2.2.1 0 100000 && inB m.2.2.2.2.2.1 0 100000) && inB m.2.2.2.2.1 0 1000000) && inB m.2.2.2.2.2.2.1 0 1000000)
def msgB (m : TMessage) : Bool := preB m && (!(iGt (lenI m.2.2.2.2.2.2.2.2.1) 4) && (!(iGt (lenI m.2.2.2.2.2.2.2.2.2.2.1) 60) && ((m.2.2.2.2.2.2.2.2.1.isEmpty || iEq m.1 3) && (entsB m.2.2.2.1 m.2.2.2.2.2.1 m.2.2.2.2.2.2.2.2.1 && finB m))))
theorem lt_gt (a p T : Int) : (!(iLt a p) && !(iGt a T)) = inB a p T := by
  simp only [iLt_def, iGt_def, inB, iGe_def, iLe_def]
  rw [Bool.eq_iff_iff]
  simp

theorem msg15 (m : TMessage) (hl : m.2.2.2.2.2.2.2.2.1.length ≤ 1048576) (hl2 : m.2.2.2.2.2.2.2.2.2.1.length ≤ 1048576) (he : ∀ y ∈ m.2.2.2.2.2.2.2.2.1, y.2.2.1.length ≤ 1048576) : F15 (m, ()) = some (msgB m, ()) := by
  unfold F15
  simp only [in58, bindK_pure, cond_or, cond_and, bNot_def]
  generalize hX : loopF _ NN _ = X
  have hloop : X = some (entsB m.2.2.2.1 m.2.2.2.2.2.1 m.2.2.2.2.2.2.2.2.1 && (finB m && (bif iEq m.1 5 then iLe (lenI m.2.2.2.2.2.2.2.2.2.2.1) 60 else true)), ()) := by
    rw [← hX]
    refine loop_list (xs := m.2.2.2.2.2.2.2.2.1) (a := Int) (fun i p => (p, i, ())) (fun n _ => True) (fun p r => some (entsB m.2.2.2.1 p r && (finB m && (bif iEq m.1 5 then iLe (lenI m.2.2.2.2.2.2.2.2.2.2.1) 60 else true)), ())) (fun rec s _ => ?_) (fun rec n h s _ hr => ?_) NN _ trivial (NN_len (by omega))
    · simp only [iLt_len, Nat.lt_irrefl, decide_false, cond_false, conf60 _ (Nat.le_trans hl2 (by omega)), bindK_pure, cond_and, entsB, finB, Bool.true_and, cond_some]
      cases iEq m.1 5 <;> simp [bNot_def]
    · simp only [iLt_len, h, decide_true, cond_true]
      simp only [idxK_lt h, entry59 _ (he _ (List.getElem_mem h)), bindK_pure, cond_or, bNot_def, iAdd_nat (show n ≤ 4294967296 by omega)]
      rw [hr _ trivial]
      simp only [entsB, cond_some, ← lt_gt]
      cases entryB _ <;> cases iLt _ _ <;> cases iGt _ _ <;> simp
  rw [hloop]
  have hne : iGt (lenI m.2.2.2.2.2.2.2.2.1) 0 = !m.2.2.2.2.2.2.2.2.1.isEmpty := by
    rw [iGt_def, lenI_def]
    cases m.2.2.2.2.2.2.2.2.1 <;> simp <;> omega
  rw [hne]
  simp only [msgB, preB, cond_some]
  have hfin : (finB m && (bif iEq m.1 5 then iLe (lenI m.2.2.2.2.2.2.2.2.2.2.1) 60 else true)) = (!(iGt (lenI m.2.2.2.2.2.2.2.2.2.2.1) 60) && finB m) := by
    have hd : iLe (lenI m.2.2.2.2.2.2.2.2.2.2.1) 60 = !(iGt (lenI m.2.2.2.2.2.2.2.2.2.2.1) 60) := by
      rw [iLe_def, iGt_def, Bool.eq_iff_iff]; simp
    cases h5 : iEq m.1 5 with
    | true => simp only [cond_true, hd, Bool.and_comm]
    | false =>
      simp only [cond_false, Bool.and_true, finB, h5]
      cases hs : strEq m.2.2.2.2.2.2.2.2.2.2.1 (litS []) with
      | false => simp
      | true =>
        have : m.2.2.2.2.2.2.2.2.2.2.1 = [] := by
          rw [strEq_def, litS_def] at hs; simpa using hs
        rw [this]
        simp [iGt_def, lenI_def]
  rw [hfin]
  have h3 : iNe m.1 3 = !(iEq m.1 3) := by rw [iNe_def, iEq_def]; rfl
  rw [h3]
  generalize inB m.1 1 6 = a1; generalize inB m.2.1 1 4 = a2; generalize inB m.2.2.1 1 4 = a3; generalize iEq m.2.1 m.2.2.1 = a4
  generalize inB m.2.2.2.1 0 100000 = b1; generalize inB m.2.2.2.2.2.1 0 100000 = b2; generalize inB m.2.2.2.2.1 0 1000000 = b3; generalize inB m.2.2.2.2.2.2.1 0 1000000 = b4
  generalize iGt (lenI m.2.2.2.2.2.2.2.2.1) 4 = c1; generalize m.2.2.2.2.2.2.2.2.1.isEmpty = c2; generalize iEq m.1 3 = c3
  generalize entsB _ _ _ = d1; generalize finB m = d2; generalize iGt _ 60 = d3
  cases a1 <;> cases a2 <;> cases a3 <;> cases a4 <;> simp
  all_goals (cases b1 <;> cases b2 <;> cases b3 <;> cases b4 <;> simp)
  all_goals (cases c1 <;> cases c2 <;> cases c3 <;> simp)
  all_goals (cases d1 <;> cases d2 <;> cases d3 <;> rfl)

theorem msg17 (m : TMessage) (hl : m.2.2.2.2.2.2.2.2.1.length ≤ 1048576) (hl2 : m.2.2.2.2.2.2.2.2.2.1.length ≤ 1048576) (he : ∀ y ∈ m.2.2.2.2.2.2.2.2.1, y.2.2.1.length ≤ 1048576) : F17 (m, ()) = some (msgB m, ()) := by
  unfold F17
  simp only [in62, bindK_pure, cond_or, cond_and, bNot_def]
  generalize hX : loopF _ NN _ = X
  have hloop : X = some ((m.2.2.2.2.2.2.2.2.1.isEmpty || iEq m.1 3) && (entsB m.2.2.2.1 m.2.2.2.2.2.1 m.2.2.2.2.2.2.2.2.1 && finB m), ()) := by
    rw [← hX]
    refine loop_list (xs := m.2.2.2.2.2.2.2.2.1) (a := Int) (fun i p => (p, i, ())) (fun n _ => True) (fun p r => some ((r.isEmpty || iEq m.1 3) && (entsB m.2.2.2.1 p r && finB m), ())) (fun rec s _ => ?_) (fun rec n h s _ hr => ?_) NN _ trivial (NN_len (by omega))
    · simp only [iLt_len, Nat.lt_irrefl, decide_false, cond_false, conf64 _ (Nat.le_trans hl2 (by omega)), bindK_pure, cond_and, entsB, finB, Bool.true_and, cond_some, List.isEmpty_nil, Bool.true_or]
      cases iEq m.1 5 <;> simp [bNot_def]
    · simp only [iLt_len, h, decide_true, cond_true]
      simp only [idxK_lt h, entry63 _ (he _ (List.getElem_mem h)), in62, bindK_pure, cond_or, bNot_def, iAdd_nat (show n ≤ 4294967296 by omega)]
      rw [hr _ trivial]
      have h3 : iNe m.1 3 = !(iEq m.1 3) := by rw [iNe_def, iEq_def]; rfl
      simp only [entsB, cond_some, h3, List.isEmpty_cons, Bool.false_or]
      cases iEq m.1 3 <;> cases entryB _ <;> cases inB _ _ _ <;> simp
  rw [hloop]
  simp only [msgB, preB, cond_some]
  generalize inB m.1 1 6 = a1; generalize inB m.2.1 1 4 = a2; generalize inB m.2.2.1 1 4 = a3; generalize iEq m.2.1 m.2.2.1 = a4
  generalize inB m.2.2.2.1 0 100000 = b1; generalize inB m.2.2.2.2.2.1 0 100000 = b2; generalize inB m.2.2.2.2.1 0 1000000 = b3; generalize inB m.2.2.2.2.2.2.1 0 1000000 = b4
  generalize iGt (lenI m.2.2.2.2.2.2.2.2.1) 4 = c1; generalize m.2.2.2.2.2.2.2.2.1.isEmpty = c2; generalize iEq m.1 3 = c3
  generalize entsB _ _ _ = d1; generalize finB m = d2; generalize iGt _ 60 = d3
  cases a1 <;> cases a2 <;> cases a3 <;> cases a4 <;> simp
  all_goals (cases b1 <;> cases b2 <;> cases b3 <;> cases b4 <;> simp)
  all_goals (cases c1 <;> cases c2 <;> cases c3 <;> simp)
  all_goals (cases d1 <;> cases d2 <;> cases d3 <;> rfl)

theorem bulk_len {e : Kd} : ∀ (xs : List e.den), (∀ y ∈ xs, 1 ≤ e.bulk y) → xs.length ≤ (xs.map e.bulk).sum
  | [], _ => by simp
  | x :: r, h => by
    have := bulk_len r fun y hy => h y (List.mem_cons_of_mem _ hy)
    have := h x (List.mem_cons_self ..)
    simp only [List.length_cons, List.map_cons, List.sum_cons]; omega
theorem bulk_mem {e : Kd} : ∀ (xs : List e.den) (y : e.den), y ∈ xs → e.bulk y ≤ (xs.map e.bulk).sum
  | x :: r, y, h => by
    simp only [List.map_cons, List.sum_cons]
    rcases List.mem_cons.1 h with rfl | h
    · omega
    · have := bulk_mem r y h; omega
theorem law0 (m : TMessage) (hb : Kd.bulk KMessage m ≤ 1048576) : F3 (m, ()) = some (true, ()) := by
  have e : Kd.bulk KMessage m = (1 + (1 + (1 + (1 + (1 + (1 + (1 + (1 + (Kd.bulk (.sl 3 KEntry) m.2.2.2.2.2.2.2.2.1 + (Kd.bulk (.sl 1 I) m.2.2.2.2.2.2.2.2.2.1 + (Kd.bulk .str m.2.2.2.2.2.2.2.2.2.2.1 + (1 + 0)))))))))))) + 1 := rfl
  have e1 : Kd.bulk (.sl 3 KEntry) m.2.2.2.2.2.2.2.2.1 = (List.map (Kd.bulk KEntry) m.2.2.2.2.2.2.2.2.1).sum + 1 := rfl
  have e2 : Kd.bulk (.sl 1 I) m.2.2.2.2.2.2.2.2.2.1 = (List.map (Kd.bulk I) m.2.2.2.2.2.2.2.2.2.1).sum + 1 := rfl
  have he : ∀ y : TEntry, Kd.bulk KEntry y = (1 + (1 + (y.2.2.1.length + 1 + 0))) + 1 := fun y => rfl
  have l1 := bulk_len (e := KEntry) m.2.2.2.2.2.2.2.2.1 fun y _ => by have := he y; omega
  have l2 := bulk_len (e := I) m.2.2.2.2.2.2.2.2.2.1 fun y _ => Nat.le_refl _
  have l1 : m.2.2.2.2.2.2.2.2.1.length ≤ (List.map (Kd.bulk KEntry) m.2.2.2.2.2.2.2.2.1).sum := l1
  have l2 : m.2.2.2.2.2.2.2.2.2.1.length ≤ (List.map (Kd.bulk I) m.2.2.2.2.2.2.2.2.2.1).sum := l2
  have hl : m.2.2.2.2.2.2.2.2.1.length ≤ 1048576 := by omega
  have hl2 : m.2.2.2.2.2.2.2.2.2.1.length ≤ 1048576 := by omega
  have hes : ∀ y ∈ m.2.2.2.2.2.2.2.2.1, y.2.2.1.length ≤ 1048576 := fun y hy => by
    have := bulk_mem (e := KEntry) m.2.2.2.2.2.2.2.2.1 y hy
    have := he y
    omega
  unfold F3
  obtain ⟨r, hr⟩ := sz14 m (1048576, ()) (by omega)
  simp only [hr, bindK_pure]
  cases iLt r.1 0 with
  | true => rfl
  | false =>
    simp only [cond_false, to16 m hl hl2, bindK_pure, msg15 m hl hl2 hes, msg17 m hl hl2 hes, eq18 m hl hl2, bNe_def, bNot_def]
    simp
theorem law (x : Kd.dens (insK (datL lawTys))) (_ : Kd.inRs (insK (datL lawTys)) x) (hb : Kd.bulks (insK (datL lawTys)) x ≤ 1048576) : ∃ z, F3 x = some (true, z) :=
  ⟨(), law0 x.1 (Nat.le_trans (Nat.le_add_right _ _) hb)⟩
end
end Go.Proofs.Ytjnmebjagambkaa.M
