/- The law of FormatDisk. -/
import Derived.Test.YtlnehfgjfmamjaaGreatDoorFdc1
import Derived.Test.YtlnehfgjfmamjaaGreatDoorG10
namespace Go.Proofs.YtlnehfgjfmamjaaGreatDoor.Fd
open Go Go.Am
set_option linter.unusedVariables false
set_option linter.unusedSimpArgs false
set_option maxRecDepth 100000
noncomputable section
theorem bkW {α β : Type} {o : Option α} {a : α} {k : α → Option β} {r : Option β} (h : o = some a) (h2 : k a = r) : WW.bindK o k = r := by
  show bindK o k = r
  rw [h, bindK_pure]; exact h2
theorem f6 (xs : List Int) (hl : xs.length ≤ 1048576) : F6 WW (xs, ()) = some (xs, ()) := toP_ok (xs := xs) (d := 0) (z := 1) (by omega) (by omega)
theorem f9 (xs : List Int) (hl : xs.length ≤ 1048576) : F9 WW (xs, xs, ()) = some (true, ()) := eqP_refl (xs := xs) (ne := iNe) (fun y => by simp [iNe_def]) (by omega)
def mkI (k : Int) (_ : Int) : Int := k
theorem f10 (xs : List Int) (hl : xs.length ≤ 1048576) : F10 WW (xs, 1, ()) = some (1 + ((1 : Nat) : Int) * (xs.length : Int), mkAll mkI 1 1 xs, ()) := by
  show loopF (fun rec0 (s1 : Int × Int × List Int × Unit) => bif iLt s1.1 (lenI s1.2.2.1) then idxK s1.2.2.1 s1.1 fun y2 => rec0 (iAdd .i64 s1.1 1, iAdd .i64 s1.2.1 1, setL s1.2.2.1 (toN s1.1) s1.2.1, ()) else some s1.2) NN (0, 1, xs, ()) = _
  refine mark_ok (xs := xs) (k0 := 1) mkI 1 (by omega) (fun rec k ys hy => ?_) (fun rec n k ys hy h h0 h1 => ?_) (by omega)
  · simp only [lenI_def, hy, iLt_nat, Nat.lt_irrefl, decide_false, cond_false]
  · have hk : k ≤ 2000000000 := by omega
    simp only [iLt_len, h, decide_true, cond_true, toN_nat]
    rw [idxK_lt h]
    simp (disch := omega) only [iAdd64, iAdd_nat]
    simp only [setL_def, mkI]
    congr 2
theorem in52 (x lo hi : Int) : F52 WW (x, lo, hi, ()) = some (inB x lo hi, ()) := in_ok x lo hi
theorem in37 (x lo hi : Int) : F37 WW (x, lo, hi, ()) = some (inB x lo hi, ()) := in_ok x lo hi
def confB (xs : List Int) : Bool := inB (lenI xs) 1 4 && riseP (fun n => inB n 1 4) none xs
theorem conf25 (xs : List Int) (hl : xs.length ≤ 4294967296) : F25 WW (xs, ()) = some (confB xs, ()) := by
  have e : some (confB xs, ()) = bif riseP (fun n => inB n 1 4) none xs then some (inB (lenI xs) 1 4, ()) else some (false, ()) := by
    unfold confB; cases riseP _ _ _ <;> simp
  rw [e]
  show loopF (fun rec0 (s1 : Int × Unit) => bif iLt s1.1 (lenI xs) then idxK xs s1.1 fun y2 => bindK (F52 WW (y2, 1, 4, ())) fun y3 => bindK (bif bNot y3.1 then some true else bindK (bif iGt s1.1 0 then idxK xs (iSub .i64 s1.1 1) fun y4 => some (iGe y4 y2) else some false) fun y5 => some y5) fun y6 => bif y6 then some (false, ()) else rec0 (iAdd .i64 s1.1 1, ()) else bindK (F52 WW (lenI xs, 1, 4, ())) fun y7 => some y7) NN (0, ()) = _
  refine loop_rise _ _ _ (fun rec => ?_) (fun rec n h => ?_) hl
  · simp only [iLt_len, Nat.lt_irrefl, decide_false, cond_false, in52, bindK_pure]
  · simp only [iLt_len, h, decide_true, cond_true]
    rw [idxK_lt h]
    simp only [in52, bindK_pure]
    have hb : ∀ (b : Bool), (bif bNot b then some true else bindK (bif iGt (n : Int) 0 then idxK xs (iSub .i64 (n : Int) 1) fun y4 => some (iGe y4 xs[n]) else some false) fun y6 => some y6) = some (!b || geO (prevO xs n) xs[n]) := by
      intro b
      rw [prev_get1 h _ hl, bNot_def, cond_or]
    rw [hb, bindK_pure, iAdd_nat (by omega)]
theorem rise38 (xs : List Int) (hl : xs.length ≤ 4294967296) : F38 WW (xs, 1, 4, ()) = some (riseP (fun n => inB n 1 4) none xs, ()) := by
  have e : some (riseP (fun n => inB n 1 4) none xs, ()) = bif riseP (fun n => inB n 1 4) none xs then some (true, ()) else some (false, ()) := by cases riseP _ _ _ <;> rfl
  rw [e]
  show loopF (fun rec0 (s1 : Int × Unit) => bif iLt s1.1 (lenI xs) then idxK xs s1.1 fun y2 => bindK (F37 WW (y2, 1, 4, ())) fun y3 => bindK (bif bNot y3.1 then some true else bindK (bif iGt s1.1 0 then idxK xs (iSub .i64 s1.1 1) fun y4 => idxK xs s1.1 fun y5 => some (iGe y4 y5) else some false) fun y6 => some y6) fun y7 => bif y7 then some (false, ()) else rec0 (iAdd .i64 s1.1 1, ()) else some (true, ())) NN (0, ()) = _
  refine loop_rise _ _ _ (fun rec => ?_) (fun rec n h => ?_) hl
  · simp only [iLt_len, Nat.lt_irrefl, decide_false, cond_false]
  · simp only [iLt_len, h, decide_true, cond_true]
    rw [idxK_lt h]
    simp only [in37, bindK_pure]
    have hb : ∀ (b : Bool), (bif bNot b then some true else bindK (bif iGt (n : Int) 0 then idxK xs (iSub .i64 (n : Int) 1) fun y4 => idxK xs (n : Int) fun y5 => some (iGe y4 y5) else some false) fun y6 => some y6) = some (!b || geO (prevO xs n) xs[n]) := by
      intro b
      rw [prev_get h _ hl, bNot_def, cond_or]
    rw [hb, bindK_pure, iAdd_nat (by omega)]
theorem conf15 (xs : List Int) (hl : xs.length ≤ 4294967296) : F15 WW (xs, ()) = some (confB xs, ()) := by
  show (bindK (F37 WW (lenI xs, 1, 4, ())) fun y0 => bindK (bif y0.1 then bindK (F38 WW (xs, 1, 4, ())) fun y1 => some y1.1 else some false) fun y2 => some (y2, ())) = _
  simp only [in37, rise38 xs hl, bindK_pure, cond_and, confB]
theorem no61 (xs : List Int) (hl : xs.length ≤ 4294967296) (h : confB xs = false) : F61 WW (xs, ()) = some (WW.litS [], false, ()) := by
  unfold F61
  refine bkW (conf15 xs hl) ?_
  rw [h]
  show (bif bNot false then _ else _) = _
  rw [bNot_def]; rfl
theorem no21 (xs : List Int) (b : List UInt8 × Unit) (hl : xs.length ≤ 4294967296) (h : confB xs = false) : F21 WW ((0, 0, xs, b), ()) = some (WW.litS [], false, ()) := by
  have n0 : WW.bNot false = true := bNot_def false
  unfold F21
  refine bkW (no61 xs hl h) ?_
  refine bkW (a := true) ?_ ?_
  · show (bif WW.bNot false then some true else _) = _
    rw [n0]; rfl
  refine bkW (a := true) rfl ?_
  refine bkW (a := true) rfl ?_
  rfl
theorem no5 (xs : List Int) (hl : xs.length ≤ 4294967296) (h : confB xs = false) : F5 WW (xs, ()) = some (([], ()), false, ()) := by
  have n0 : WW.bNot false = true := bNot_def false
  obtain ⟨j, hj⟩ : ∃ j, F20 WW ((0, 0, 0, 0, 0, [], ()), ()) = some j := by rw [WW_eq]; exact Option.isSome_iff_exists.1 runJ
  obtain ⟨t, ht⟩ : ∃ t, F22 WW () = some t := by rw [WW_eq]; exact Option.isSome_iff_exists.1 runH
  unfold F5
  refine bkW hj ?_
  refine bkW ht ?_
  refine bkW (no21 xs t hl h) ?_
  show (bif WW.bNot false then _ else _) = _
  rw [n0]; rfl
theorem no7 (xs : List Int) (hl : xs.length ≤ 4294967296) (h : confB xs = false) : F7 WW (xs, ()) = some (([], ()), false, ()) := by
  have n0 : WW.bNot false = true := bNot_def false
  unfold F7
  refine bkW (conf25 xs hl) ?_
  rw [h]
  show (bif WW.bNot false then _ else _) = _
  rw [n0]; rfl
theorem law_no (xs : List Int) (hl : xs.length ≤ 1048576) (h : confB xs = false) : F3 WW (xs, ()) = some (true, ()) := by
  have n1 : ∀ b, WW.bNot b = !b := bNot_def
  have n2 : ∀ a b, WW.bNe a b = bne a b := bNe_def
  have n3 : ∀ a b : Int, WW.iLt a b = decide (a < b) := iLt_def
  have n4 : ∀ a b : Int, WW.iNe a b = bne a b := iNe_def
  have n5 : ∀ a b : Int, WW.iGt a b = decide (a > b) := iGt_def
  have e8 : F8 WW (([], ()), ([], ()), ()) = some (true, ()) := by rw [WW_eq]; exact runE
  have eM : F33 WW ([], 1, ()) = some (1, [], ()) := by rw [WW_eq]; exact runM
  have eK : F12 WW (([], ()), 1, ()) = some (1, ()) := by rw [WW_eq]; exact runK
  have a5 := no5 xs (by omega) h
  have a7 := no7 xs (by omega) h
  have hk : ∀ {α β : Type} (a : α) (k : α → Option β), WW.bindK (some a) k = k a := fun a k => bindK_pure a k
  have hz : decide (1 + ((1 : Nat) : Int) * (xs.length : Int) < 0) = false := decide_eq_false (by omega)
  have hg : decide (WW.lenI xs > 1048576) = false := by
    have e : WW.lenI xs = (xs.length : Int) := lenI_def xs
    rw [e, decide_eq_false (by omega)]
  unfold F3
  simp only [f6 xs hl, a5, a7, e8, eM, eK, hk, n1, n2, n3, n4, n5, f9 xs hl, f10 xs hl, hz, hg, bne_self_eq_false, Bool.not_true, cond_false]
  rfl
theorem rise_cons {p : Option Int} {y : Int} {r : List Int} (h : riseP (fun n => inB n 1 4) p (y :: r) = true) : (1 ≤ y ∧ y ≤ 4) ∧ (∀ q, p = some q → q < y) ∧ riseP (fun n => inB n 1 4) (some y) r = true := by
  rw [riseP, Bool.and_eq_true, Bool.and_eq_true] at h
  refine ⟨inB_iff.1 h.1.1, fun q hq => ?_, h.2⟩
  have := h.1.2
  rw [hq] at this
  simp only [geO, iGe_def] at this
  simp at this
  omega
theorem law_yes (xs : List Int) (h : confB xs = true) : F3 WW (xs, ()) = some (true, ()) := by
  rw [confB, Bool.and_eq_true] at h
  have h0 := inB_iff.1 h.1
  rw [lenI_def] at h0
  replace h := h.2
  rw [WW_eq]
  match xs, h, h0 with
  | [x], h, _ =>
    have h1 := (rise_cons h).1
    have : x = 1 ∨ x = 2 ∨ x = 3 ∨ x = 4 := by omega
    rcases this with rfl | rfl | rfl | rfl
    · exact run0
    · exact run1
    · exact run2
    · exact run3
  | [x, y], h, _ =>
    obtain ⟨h1, _, h⟩ := rise_cons h
    obtain ⟨h2, g2, h⟩ := rise_cons h
    replace g2 := g2 _ rfl
    have : (x = 1 ∧ y = 2) ∨ (x = 1 ∧ y = 3) ∨ (x = 1 ∧ y = 4) ∨ (x = 2 ∧ y = 3) ∨ (x = 2 ∧ y = 4) ∨ (x = 3 ∧ y = 4) := by omega
    rcases this with ⟨rfl, rfl⟩ | ⟨rfl, rfl⟩ | ⟨rfl, rfl⟩ | ⟨rfl, rfl⟩ | ⟨rfl, rfl⟩ | ⟨rfl, rfl⟩
    · exact run4
    · exact run5
    · exact run6
    · exact run7
    · exact run8
    · exact run9
  | [x, y, z], h, _ =>
    obtain ⟨h1, _, h⟩ := rise_cons h
    obtain ⟨h2, g2, h⟩ := rise_cons h
    obtain ⟨h3, g3, h⟩ := rise_cons h
    replace g2 := g2 _ rfl
    replace g3 := g3 _ rfl
    have : (x = 1 ∧ y = 2 ∧ z = 3) ∨ (x = 1 ∧ y = 2 ∧ z = 4) ∨ (x = 1 ∧ y = 3 ∧ z = 4) ∨ (x = 2 ∧ y = 3 ∧ z = 4) := by omega
    rcases this with ⟨rfl, rfl, rfl⟩ | ⟨rfl, rfl, rfl⟩ | ⟨rfl, rfl, rfl⟩ | ⟨rfl, rfl, rfl⟩
    · exact run10
    · exact run11
    · exact run12
    · exact run13
  | [x, y, z, w], h, _ =>
    obtain ⟨h1, _, h⟩ := rise_cons h
    obtain ⟨h2, g2, h⟩ := rise_cons h
    obtain ⟨h3, g3, h⟩ := rise_cons h
    obtain ⟨h4, g4, h⟩ := rise_cons h
    replace g2 := g2 _ rfl
    replace g3 := g3 _ rfl
    replace g4 := g4 _ rfl
    obtain ⟨rfl, rfl, rfl, rfl⟩ : x = 1 ∧ y = 2 ∧ z = 3 ∧ w = 4 := by omega
    exact run14
  | [], _, h0 => simp at h0
  | _ :: _ :: _ :: _ :: _ :: _, _, h0 => simp only [List.length_cons] at h0; omega
theorem law_fd (xs : List Int) : F3 WW (xs, ()) = some (true, ()) := by
  by_cases hl : xs.length ≤ 1048576
  · cases h : confB xs with
    | true => exact law_yes xs h
    | false => exact law_no xs hl h
  · have e : WW.lenI xs = (xs.length : Int) := lenI_def xs
    have n5 : WW.iGt (WW.lenI xs) 1048576 = true := by
      rw [e, show ∀ a b : Int, WW.iGt a b = decide (a > b) from iGt_def, decide_eq_true (by omega)]
    unfold F3
    show (bif WW.iGt (WW.lenI xs) 1048576 then _ else _) = _
    rw [n5]; rfl
theorem law (x : Kd.dens (insK (datL lawTys))) (_ : Kd.inRs (insK (datL lawTys)) x) (hb : Kd.bulks (insK (datL lawTys)) x ≤ 1048576) : ∃ z, F3 WW x = some (true, z) := ⟨(), law_fd x.1⟩
end
end Go.Proofs.YtlnehfgjfmamjaaGreatDoor.Fd
