import Derived.Test.YtgncfkcabphccaaS4
namespace Go.Proofs.Ytgncfkcabphccaa.Am
open Go Go.Am Go.ChangeShapes Go.WideShapes Go.ChangeAt Go.RowKit
set_option linter.unusedVariables false

theorem szApplied (x : Ap) (l : Int) : ∃ r : Int, callC T (arun T) 40 [x.enc, tI l] = some [tI r] := by
  obtain ⟨r, hr⟩ := szEntry x l
  have hc : ∀ (d : Nat) (H : Heap) (nx : Nat), callOp T (arun T) d 56 [.agg [.c (tI x.a), .c (tI x.b), .c (tS x.s)], kI l] H nx = some (kI r, H, nx) := fun d H nx =>
    callOp_of (ts := [x.entry, tI l]) (us := [tI r]) (tm _) (by simp [frzs, frz, Ap.entry]) (by simp [idsOfs, idsOf]) hr
  have t40 : T.fn 40 = some fn40 := rfl
  by_cases h : r < 0
  · refine ⟨-1, ?_⟩
    simp [callC, tn, callB, t40, fn40, c40, arun_seq, arun_op, arun_ops0, arun_ret, arun_cond, arun_skip, operF, wantedA, operV, ev, updO, upd_at, bindArgs, Ap.enc, AV.cells, TV.cells, stor, genAt, H0, hupd, loadV, AV.isAgg, resV, frzs, frz, kI, kE, kB, dO, nO, binV, intV, cmpV, hc, h]
  · refine ⟨r, ?_⟩
    simp [callC, tn, callB, t40, fn40, c40, arun_seq, arun_op, arun_ops0, arun_ret, arun_cond, arun_skip, operF, wantedA, operV, ev, updO, upd_at, bindArgs, Ap.enc, AV.cells, TV.cells, stor, genAt, H0, hupd, loadV, AV.isAgg, resV, frzs, frz, kI, kE, kB, dO, nO, binV, intV, cmpV, hc, h]

section
variable {xs : List Ap} (hlen : xs.length ≤ 1048576)
include hlen
theorem szS (l : Int) : ∃ r : Int, callC T (arun T) 15 [aps xs, tI l] = some [tI r] :=
  szSC_ok (z := 6) (ag := true) (g := 40) rfl rfl rfl (fun x hx l => by obtain ⟨a, _, rfl⟩ := List.mem_map.1 hx; exact szApplied a l) (fun x hx => by obtain ⟨a, _, rfl⟩ := List.mem_map.1 hx; exact elOK a) (by rw [List.length_map]; omega) l
theorem toS : callC T (arun T) 17 [aps xs] = some [aps xs] :=
  toSC_ok (z := 6) (ag := true) (g := 41) (zero := .agg [kI 0, kI 0, kI 0, kI 0, kI 0, kE]) rfl rfl rfl (fun x hx => by obtain ⟨a, _, rfl⟩ := List.mem_map.1 hx; exact toApplied a) (fun x hx => by obtain ⟨a, _, rfl⟩ := List.mem_map.1 hx; exact ⟨elOK a, rfl⟩) rfl rfl (by rw [List.length_map]; omega) (by rw [List.length_map]; omega)
theorem eqS : callC T (arun T) 19 [aps xs, aps xs] = some [.s (.bool true)] :=
  eqSC_ok (z := 6) (ag := true) (g := 42) rfl rfl rfl (fun x hx => by obtain ⟨a, _, rfl⟩ := List.mem_map.1 hx; exact eqApplied a) (fun x hx => by obtain ⟨a, _, rfl⟩ := List.mem_map.1 hx; exact elOK a) (by rw [List.length_map]; omega)

theorem law4 : callC T (arun T) 4 [aps xs] = some [.s (.bool true)] := by
  obtain ⟨r, hr⟩ := szS hlen 1048576
  have c15' : ∀ (d : Nat) (H : Heap) (nx : Nat), callOp T (arun T) d 15 [.c (aps xs), kI 1048576] H nx = some (kI r, H, nx) := fun d H nx =>
    callOp_of (ts := [aps xs, tI 1048576]) (us := [tI r]) (tm _) (by simp [frzs, frz]) (by simp [idsOfs, idsOf]) hr
  have c17' : ∀ (d : Nat) (H : Heap) (nx : Nat), callOp T (arun T) d 17 [.c (aps xs)] H nx = some (.c (aps xs), H, nx) := fun d H nx =>
    callOp_of (ts := [aps xs]) (us := [aps xs]) (tm _) (by simp [frzs, frz]) (by simp [idsOfs, idsOf]) (toS hlen)
  obtain ⟨q, hq16, hq18⟩ : ∃ q : Bool, callC T (arun T) 16 [aps xs] = some [.s (.bool q)] ∧ callC T (arun T) 18 [aps xs] = some [.s (.bool q)] := ⟨_, specSame (by omega), implSame (by omega)⟩
  have c16' : ∀ (d : Nat) (H : Heap) (nx : Nat), callOp T (arun T) d 16 [.c (aps xs)] H nx = some (kB q, H, nx) := fun d H nx =>
    callOp_of (ts := [aps xs]) (us := [.s (.bool q)]) (tm _) (by simp [frzs, frz]) (by simp [idsOfs, idsOf]) hq16
  have c18' : ∀ (d : Nat) (H : Heap) (nx : Nat), callOp T (arun T) d 18 [.c (aps xs)] H nx = some (kB q, H, nx) := fun d H nx =>
    callOp_of (ts := [aps xs]) (us := [.s (.bool q)]) (tm _) (by simp [frzs, frz]) (by simp [idsOfs, idsOf]) hq18
  have c19' : ∀ (d : Nat) (H : Heap) (nx : Nat), callOp T (arun T) d 19 [.c (aps xs), .c (aps xs)] H nx = some (kB true, H, nx) := fun d H nx =>
    callOp_of (ts := [aps xs, aps xs]) (us := [.s (.bool true)]) (tm _) (by simp [frzs, frz]) (by simp [idsOfs, idsOf]) (eqS hlen)
  have t4 : T.fn 4 = some fn4 := rfl
  by_cases h : r < 0
  · simp [callC, tn, callB, t4, fn4, c4, arun_seq, arun_op, arun_ops0, arun_ret, arun_cond, arun_skip, operF, wantedA, operV, ev, updO, upd_at, bindArgs, resV, frzs, frz, binV, intV, cmpV, unV, c15', h]
  · simp [callC, tn, callB, t4, fn4, c4, arun_seq, arun_op, arun_ops0, arun_ret, arun_cond, arun_skip, operF, wantedA, operV, ev, updO, upd_at, bindArgs, resV, frzs, frz, binV, intV, cmpV, unV, c15', c16', c17', c18', c19', gBool, h]
end

abbrev tyAp : Ty := .st [.int .i64, .int .i64, .int .i64, .st [.int .i64, .int .i64, .str]]
theorem wt_ap {y : TV} (h : WTc tyAp y.cells) (ha : y.isA = true) : ∃ a : Ap, y = a.enc := by
  cases y with
  | agg cs =>
    simp only [TV.cells, WTc, WTs] at h
    obtain ⟨_, _, rfl, ⟨n, rfl, _⟩, _, _, rfl, ⟨t, rfl, _⟩, _, _, rfl, ⟨i, rfl, _⟩, _, _, rfl, ⟨_, _, rfl, ⟨a, rfl, _⟩, _, _, rfl, ⟨b, rfl, _⟩, _, _, rfl, ⟨s, rfl⟩, rfl⟩, rfl⟩ := h
    exact ⟨⟨n, t, i, a, b, s⟩, rfl⟩
  | _ => simp [TV.isA] at ha
theorem wt_aps {x : TV} (h : WT (.sl 6 tyAp) x) : ∃ xs : List Ap, x = aps xs ∧ xs.length ≤ tvB x := by
  obtain ⟨h1, h2⟩ := h
  simp only [WTc] at h1
  obtain ⟨ys, h3, h4⟩ := h1
  have hx : x = .sl 6 ys := by
    cases x with
    | agg cs => simp [TV.isA, Ty.isSt] at h2
    | s v => simp [TV.cells] at h3
    | sl z zs => simpa [TV.cells] using h3
  subst hx
  have : ∃ xs : List Ap, ys = xs.map Ap.enc := by
    clear h3 h2
    induction ys with
    | nil => exact ⟨[], rfl⟩
    | cons y r ih =>
      obtain ⟨a, rfl⟩ := wt_ap (h4 y (by simp)).1 (h4 y (by simp)).2
      obtain ⟨xs, rfl⟩ := ih (fun z hz => h4 z (by simp [hz]))
      exact ⟨a :: xs, rfl⟩
  obtain ⟨xs, rfl⟩ := this
  refine ⟨xs, rfl, ?_⟩
  have hle : ∀ l : List TV, l.length ≤ cellsB l := by
    intro l
    induction l with
    | nil => simp [cellsB]
    | cons z r ih =>
      have : 1 ≤ tvB z := by
        cases z with
        | s v => cases v <;> simp [tvB]
        | _ => simp [tvB]
      simp only [cellsB, List.length_cons]; omega
  have := hle (xs.map Ap.enc)
  rw [List.length_map] at this
  simp only [tvB]; omega

theorem lookup_mem {f : Nat} {F : AFn} : ∀ {l : List (Nat × AFn)}, l.lookup f = some F → (f, F) ∈ l
  | [], h => by simp at h
  | (g, G) :: r, h => by
    simp only [List.lookup_cons] at h
    split at h
    · rename_i e
      obtain rfl := Option.some.inj h
      have : f = g := by simpa using e
      subst this; simp
    · exact List.mem_cons_of_mem _ (lookup_mem h)

def Good (p : Nat × AFn) : Prop := ∃ fn, Try.prog.funcs[p.1]? = some fn ∧ fn.name ≠ "runtime.NumGoroutine" ∧ fnOf Try.prog fn = some p.2
theorem good : ∀ p ∈ tabL, Good p := by
  unfold tabL
  simp only [List.forall_mem_cons]
  refine ⟨⟨_, Try.func4, of_decide_eq_true (by kernel_rfl), of4⟩, ⟨_, Try.func15, of_decide_eq_true (by kernel_rfl), of15⟩, ⟨_, Try.func16, of_decide_eq_true (by kernel_rfl), of16⟩, ⟨_, Try.func17, of_decide_eq_true (by kernel_rfl), of17⟩, ⟨_, Try.func18, of_decide_eq_true (by kernel_rfl), of18⟩, ⟨_, Try.func19, of_decide_eq_true (by kernel_rfl), of19⟩,
    ⟨_, Try.func40, of_decide_eq_true (by kernel_rfl), of40⟩, ⟨_, Try.func41, of_decide_eq_true (by kernel_rfl), of41⟩, ⟨_, Try.func42, of_decide_eq_true (by kernel_rfl), of42⟩, ⟨_, Try.func51, of_decide_eq_true (by kernel_rfl), of51⟩, ⟨_, Try.func56, of_decide_eq_true (by kernel_rfl), of56⟩, ⟨_, Try.func57, of_decide_eq_true (by kernel_rfl), of57⟩, fun x hx => (by cases hx)⟩
theorem tabOK : TabOK Try.prog T := ⟨by kernel_rfl, fun f F h => good _ (lookup_mem h), fun f g h => (by cases h)⟩
theorem own : ownKnob Try.prog.godebug = none := by kernel_rfl
theorem laidOut : laidOutB Try.prog = true := by kernel_rfl
theorem tys4 : mapMO (tyOf Try.prog 4) Try.f4.params.toList = some [.sl 6 tyAp] := by kernel_rfl
theorem read4 : (Try.f4.params.toList.all fun t => Try.prog.readableRec t && decide (t < Try.prog.types.size)) = true := by kernel_rfl

set_option maxRecDepth 100000 in
theorem lifted4 (os : Os) (started : os.Started) (H : Type) (enc : TypeId × Value → H) (F : Stop.Interp) :
    ReturnsInHanded {} Try.checked os 4 .any ((Rows.OpenSpec.upto Rows.fnExactSameAppliedSpec).pre6 enc Try.prog Try.f4 Rows.fnExactSameAppliedUptoRow.domain false) (((Rows.OpenSpec.upto Rows.fnExactSameAppliedSpec).at F).post enc Try.prog Try.f4 false true false false) := by
  refine returnsInHanded_of_cond (C := Try.checked) (s := Rows.OpenSpec.upto Rows.fnExactSameAppliedSpec) (k := Rows.uptoSmall) rfl own started (by kernel_rfl) Try.func4
    (OpenSpec.witness (enc := enc) (C := Try.checked) (s := Rows.OpenSpec.upto Rows.fnExactSameAppliedSpec) (k := Rows.uptoSmall) rfl false ⟨#[], #[.slice none 0 0], []⟩ 8 (by kernel_rfl) (by kernel_rfl) (by kernel_rfl)
      (x := ([.nil], [], [])) (by kernel_rfl) rfl (by kernel_rfl)) ?_
  intro W base args ds gs before hval hW _ hk _
  refine row_contract tabOK (fn := Try.f4) (s := Rows.fnExactSameAppliedSpec) (tb := 4) (n := 4) laidOut (by kernel_rfl) Try.underlying4 rfl tys4 read4 ?_ ?_ W base args ds gs before hval hW hk
  · intro ds hds
    match ds, hds with
    | [d], _ => rfl
  · intro xs hx hb
    match xs, hx with
    | [x], hx =>
      obtain ⟨aa, rfl, hl⟩ := wt_aps hx.1
      simp only [cellsB] at hb
      exact law4 (by omega)

theorem over4 : Rows.fnExactSameAppliedUptoRow.holds Try.pinned (Rows.OpenSpec.upto Rows.fnExactSameAppliedSpec) :=
  OpenClaim.holds_of_cond 4 Try.f4 rfl rfl rfl rfl rfl rfl rfl ⟨rfl, rfl, rfl, rfl, rfl⟩ rfl rfl rfl rfl rfl (by kernel_rfl) Try.func4 (by kernel_rfl)
    (of_decide_eq_true (by kernel_rfl)) (by unfold Func.isWrapper; first | (rw [if_pos (by decide +kernel)]; kernel_rfl) | (rw [if_neg (by decide +kernel)]; exact ⟨rfl, rfl⟩))
    (fun os started H enc _ F => lifted4 os started H enc F)
end Go.Proofs.Ytgncfkcabphccaa.Am
namespace Go.Proofs.Ytgncfkcabphccaa
/-- The row, under a short name, for the claim. -/
theorem fnExactSameApplied_upto : Rows.FnExactSameAppliedUptoSaid := Am.over4
end Go.Proofs.Ytgncfkcabphccaa
