/- The law of OneLeader answers true at every list of bulk at most 1048576, and leaves it as it was. No condition beyond those of the given statement. -/
import Derived.Test.YtgncfkcabphccaaL2
namespace Go.Proofs.Ytgncfkcabphccaa.Ol
open Go Go.Am Go.ChangeShapes Go.WideShapes Go.ChangeAt Go.RowKit
set_option linter.unusedVariables false
set_option linter.unusedSimpArgs false

theorem law5 {xs : List Leader} (hb : tvB (aps xs) ≤ 1048576) : callC T (arun T) 5 [aps xs] = some [.s (.bool true)] := by
  have hlen : xs.length ≤ 1048576 := by have := len_bulk (xs.map Leader.enc); simp only [aps, tvB, List.length_map] at hb this; omega
  obtain ⟨r, hr⟩ := szLeaderS xs hb 1048576
  have c15' : ∀ (d : Nat) (H : Heap) (nx : Nat), callOp T (arun T) d 20 [.c (aps xs), kI 1048576] H nx = some (kI r, H, nx) := fun d H nx =>
    callOp_of (ts := [aps xs, tI 1048576]) (us := [tI r]) (tm _) (by simp [frzs, frz]) (by simp [idsOfs, idsOf]) hr
  have c17' : ∀ (d : Nat) (H : Heap) (nx : Nat), callOp T (arun T) d 22 [.c (aps xs)] H nx = some (.c (aps xs), H, nx) := fun d H nx =>
    callOp_of (ts := [aps xs]) (us := [aps xs]) (tm _) (by simp [frzs, frz]) (by simp [idsOfs, idsOf]) (toLeaderS xs hb)
  obtain ⟨q, hq16, hq18⟩ : ∃ q : Bool, callC T (arun T) 21 [aps xs] = some [.s (.bool q)] ∧ callC T (arun T) 23 [aps xs] = some [.s (.bool q)] := ⟨_, specSame (by omega), implSame (by omega)⟩
  have c16' : ∀ (d : Nat) (H : Heap) (nx : Nat), callOp T (arun T) d 21 [.c (aps xs)] H nx = some (kB q, H, nx) := fun d H nx =>
    callOp_of (ts := [aps xs]) (us := [.s (.bool q)]) (tm _) (by simp [frzs, frz]) (by simp [idsOfs, idsOf]) hq16
  have c18' : ∀ (d : Nat) (H : Heap) (nx : Nat), callOp T (arun T) d 23 [.c (aps xs)] H nx = some (kB q, H, nx) := fun d H nx =>
    callOp_of (ts := [aps xs]) (us := [.s (.bool q)]) (tm _) (by simp [frzs, frz]) (by simp [idsOfs, idsOf]) hq18
  have c19' : ∀ (d : Nat) (H : Heap) (nx : Nat), callOp T (arun T) d 24 [.c (aps xs), .c (aps xs)] H nx = some (kB true, H, nx) := fun d H nx =>
    callOp_of (ts := [aps xs, aps xs]) (us := [.s (.bool true)]) (tm _) (by simp [frzs, frz]) (by simp [idsOfs, idsOf]) (eqLeaderS xs hb)
  have t5 : T.fn 5 = some fn5 := rfl
  by_cases h : r < 0
  · simp [callC, tn, callB, t5, fn5, c5, arun_seq, arun_op, arun_ops0, arun_ret, arun_cond, arun_skip, operF, wantedA, operV, ev, updO, upd_at, bindArgs, resV, frzs, frz, binV, intV, cmpV, unV, c15', h]
  · simp [callC, tn, callB, t5, fn5, c5, arun_seq, arun_op, arun_ops0, arun_ret, arun_cond, arun_skip, operF, wantedA, operV, ev, updO, upd_at, bindArgs, resV, frzs, frz, binV, intV, cmpV, unV, c15', c16', c17', c18', c19', gBool, h]

theorem wt_entry {y : TV} (h : WT Entry.ty y) : ∃ a : Entry, y = a.enc := by
  obtain ⟨cs, rfl, h'⟩ := wt_st (fs := [.int .i64, .int .i64, .str]) h
  simp only [WTs, WTc] at h'
  obtain ⟨_, _, rfl, ⟨a, rfl, _⟩, _, _, rfl, ⟨b, rfl, _⟩, _, _, rfl, ⟨c, rfl⟩, rfl⟩ := h'
  exact ⟨⟨a, b, c⟩, rfl⟩
theorem wt_leader {y : TV} (h : WT Leader.ty y) : ∃ a : Leader, y = a.enc := by
  obtain ⟨cs, rfl, h'⟩ := wt_st (fs := [.int .i64, .int .i64, .st [.int .i64, .int .i64, .sl 3 Entry.ty]]) h
  have e1 : ∀ (f : Ty) (r : List Ty) (cs : List TV), WTs (f :: r) cs = ∃ a b, cs = a ++ b ∧ WTc f a ∧ WTs r b := fun f r cs => by simp only [WTs]
  have e2 : ∀ cs : List TV, WTs [] cs = (cs = []) := fun cs => by simp only [WTs]
  have e3 : ∀ (fs : List Ty) (cs : List TV), WTc (.st fs) cs = WTs fs cs := fun f cs => by simp only [WTc]
  have e4 : ∀ (k : IntKind) (cs : List TV), WTc (.int k) cs = ∃ n, cs = [.s (.int k n)] ∧ k.min ≤ n ∧ n ≤ k.max := fun f cs => by simp only [WTc]
  have e5 : ∀ (z : Nat) (e : Ty) (cs : List TV), WTc (.sl z e) cs = ∃ xs, cs = [.sl z xs] ∧ ∀ x ∈ xs, WT e x := fun z e cs => by simp only [WTc, WT]
  simp only [e1, e2, e3, e4, e5] at h'
  obtain ⟨_, _, rfl, ⟨a, rfl, _⟩, _, _, rfl, ⟨b, rfl, _⟩, _, _, rfl, ⟨_, _, rfl, ⟨c, rfl, _⟩, _, _, rfl, ⟨d, rfl, _⟩, _, _, rfl, ⟨zs, rfl, hz⟩, rfl⟩, rfl⟩ := h'
  obtain ⟨es, rfl⟩ := list_of (enc := Entry.enc) (fun z hz' => wt_entry (hz z hz'))
  exact ⟨⟨a, b, ⟨c, d, es⟩⟩, rfl⟩

def Good (p : Nat × AFn) : Prop := ∃ fn, Try.prog.funcs[p.1]? = some fn ∧ fn.name ≠ "runtime.NumGoroutine" ∧ fnOf Try.prog fn = some p.2
theorem good : ∀ p ∈ tabL, Good p := by
  unfold tabL
  simp only [List.forall_mem_cons]
  refine ⟨⟨_, Try.func5, of_decide_eq_true (by kernel_rfl), of5⟩, ⟨_, Try.func20, of_decide_eq_true (by kernel_rfl), of20⟩, ⟨_, Try.func21, of_decide_eq_true (by kernel_rfl), of21⟩, ⟨_, Try.func22, of_decide_eq_true (by kernel_rfl), of22⟩, ⟨_, Try.func23, of_decide_eq_true (by kernel_rfl), of23⟩, ⟨_, Try.func24, of_decide_eq_true (by kernel_rfl), of24⟩, ⟨_, Try.func32, of_decide_eq_true (by kernel_rfl), of32⟩, ⟨_, Try.func43, of_decide_eq_true (by kernel_rfl), of43⟩, ⟨_, Try.func44, of_decide_eq_true (by kernel_rfl), of44⟩, ⟨_, Try.func45, of_decide_eq_true (by kernel_rfl), of45⟩, ⟨_, Try.func51, of_decide_eq_true (by kernel_rfl), of51⟩, ⟨_, Try.func56, of_decide_eq_true (by kernel_rfl), of56⟩, ⟨_, Try.func57, of_decide_eq_true (by kernel_rfl), of57⟩, ⟨_, Try.func58, of_decide_eq_true (by kernel_rfl), of58⟩, ⟨_, Try.func59, of_decide_eq_true (by kernel_rfl), of59⟩, ⟨_, Try.func60, of_decide_eq_true (by kernel_rfl), of60⟩, ⟨_, Try.func64, of_decide_eq_true (by kernel_rfl), of64⟩, ⟨_, Try.func65, of_decide_eq_true (by kernel_rfl), of65⟩, fun x hx => (by cases hx)⟩
theorem tabOK : TabOK Try.prog T := ⟨by kernel_rfl, fun f F h => good _ (lookup_mem h), fun f g h => (by cases h)⟩
theorem own : ownKnob Try.prog.godebug = none := by kernel_rfl
theorem laidOut : laidOutB Try.prog = true := by kernel_rfl
theorem tys5 : mapMO (tyOf Try.prog 6) Try.f5.params.toList = some [.sl 5 Leader.ty] := by kernel_rfl
theorem read5 : (Try.f5.params.toList.all fun t => Try.prog.readableRec t && decide (t < Try.prog.types.size)) = true := by kernel_rfl

set_option maxRecDepth 100000 in
theorem lifted5 (os : Os) (started : os.Started) (H : Type) (enc : TypeId × Value → H) (F : Stop.Interp) :
    ReturnsInHanded {} Try.checked os 5 .any ((Rows.OpenSpec.upto Rows.fnExactOneLeaderSpec).pre6 enc Try.prog Try.f5 Rows.fnExactOneLeaderUptoRow.domain false) (((Rows.OpenSpec.upto Rows.fnExactOneLeaderSpec).at F).post enc Try.prog Try.f5 false true false false) := by
  refine returnsInHanded_of_cond (C := Try.checked) (s := Rows.OpenSpec.upto Rows.fnExactOneLeaderSpec) (k := Rows.uptoSmall) rfl own started (by kernel_rfl) Try.func5
    (OpenSpec.witness (enc := enc) (C := Try.checked) (s := Rows.OpenSpec.upto Rows.fnExactOneLeaderSpec) (k := Rows.uptoSmall) rfl false ⟨#[], #[.slice none 0 0], []⟩ 8 (by kernel_rfl) (by kernel_rfl) (by kernel_rfl)
      (x := ([.nil], [], [])) (by kernel_rfl) rfl (by kernel_rfl)) ?_
  intro W base args ds gs before hval hW _ hk _
  refine row_contract tabOK (fn := Try.f5) (s := Rows.fnExactOneLeaderSpec) (tb := 4) (n := 6) laidOut (by kernel_rfl) Try.underlying4 rfl tys5 read5 ?_ ?_ W base args ds gs before hval hW hk
  · intro ds hds
    match ds, hds with
    | [d], _ => rfl
  · intro xs hx hb
    match xs, hx with
    | [x], hx =>
      obtain ⟨ys, rfl, hy⟩ := wt_sl hx.1
      obtain ⟨aa, rfl⟩ := list_of (enc := Leader.enc) (fun z hz => wt_leader (hy z hz))
      simp only [cellsB] at hb
      exact law5 (xs := aa) (by simp only [aps]; omega)

theorem over5 : Rows.fnExactOneLeaderUptoRow.holds Try.pinned (Rows.OpenSpec.upto Rows.fnExactOneLeaderSpec) :=
  OpenClaim.holds_of_cond 5 Try.f5 rfl rfl rfl rfl rfl rfl rfl ⟨rfl, rfl, rfl, rfl, rfl⟩ rfl rfl rfl rfl rfl (by kernel_rfl) Try.func5 (by kernel_rfl)
    (of_decide_eq_true (by kernel_rfl)) (by unfold Func.isWrapper; first | (rw [if_pos (by decide +kernel)]; kernel_rfl) | (rw [if_neg (by decide +kernel)]; exact ⟨rfl, rfl⟩))
    (fun os started H enc _ F => lifted5 os started H enc F)
end Go.Proofs.Ytgncfkcabphccaa.Ol
namespace Go.Proofs.Ytgncfkcabphccaa
/-- The row, under a short name, for the claim. -/
theorem fnExactOneLeader_upto : Rows.FnExactOneLeaderUptoSaid := Ol.over5
end Go.Proofs.Ytgncfkcabphccaa
