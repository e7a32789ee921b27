import Derived.Test.YtgncfkcabphccaaS1
import Derived.Test.YtgncfkcabphccaaA33
namespace Go.Proofs.Ytgncfkcabphccaa.Am
open Go Go.Am
def tabL : List (Nat × AFn) := [(4, fn4), (15, fn15), (16, fn16), (17, fn17), (18, fn18), (19, fn19), (40, fn40), (41, fn41), (42, fn42), (51, fn51), (56, fn56), (57, fn57)]
def T : Tab := ⟨fun f => tabL.lookup f, fun _ => .fz, fun _ => none⟩
theorem tn (f : Nat) : T.nat f = none := rfl
theorem tm (f : Nat) : T.mode f = .fz := rfl
abbrev tI (n : Int) : TV := .s (.int .i64 n)
abbrev tS (s : ByteArray) : TV := .s (.string s)
structure Ap where
  n : Int
  t : Int
  i : Int
  a : Int
  b : Int
  s : ByteArray
def Ap.entry (x : Ap) : TV := .agg [tI x.a, tI x.b, tS x.s]
def Ap.enc (x : Ap) : TV := .agg [tI x.n, tI x.t, tI x.i, tI x.a, tI x.b, tS x.s]

theorem t57 : T.fn 57 = some fn57 := rfl
theorem toEntry (x : Ap) : callC T (arun T) 57 [x.entry] = some [x.entry] := by
  simp [callC, tn, callB, t57, fn57, c57, arun_seq, arun_op, arun_ops0, arun_ret, operF, wantedA, operV, ev, updO, upd_at, bindArgs, Ap.entry, AV.cells, TV.cells, stor, genAt, H0, hupd, loadV, storeV, putCells, reEl, AV.isAgg, resV, frzs, frz, kI, kE, dO, nO]
theorem t51 : T.fn 51 = some fn51 := rfl
theorem eqEntry (x : Ap) : callC T (arun T) 51 [x.entry, x.entry] = some [.s (.bool true)] := by
  simp [callC, tn, callB, t51, fn51, c51, arun_seq, arun_op, arun_ops0, arun_ret, arun_cond, arun_skip, operF, wantedA, operV, ev, updO, upd_at, bindArgs, Ap.entry, AV.cells, TV.cells, stor, genAt, H0, hupd, loadV, AV.isAgg, resV, frzs, frz, kI, kE, kB, dO, nO, binV, intV, strV, cmpV]
theorem t56 : T.fn 56 = some fn56 := rfl
theorem szEntry (x : Ap) (l : Int) : ∃ r : Int, callC T (arun T) 56 [x.entry, tI l] = some [tI r] := by
  by_cases h : IntKind.i64.wrap (l - x.s.size) < 0
  · refine ⟨-1, ?_⟩
    simp [callC, tn, callB, t56, fn56, c56, arun_seq, arun_op, arun_ops0, arun_ret, arun_cond, arun_skip, operF, wantedA, operV, ev, updO, upd_at, bindArgs, Ap.entry, AV.cells, TV.cells, stor, genAt, H0, hupd, loadV, AV.isAgg, resV, frzs, frz, kI, kE, kB, dO, nO, binV, intV, strV, cmpV, lenV, AV.isStr, gInt, h]
  · refine ⟨IntKind.i64.wrap (l - x.s.size), ?_⟩
    simp [callC, tn, callB, t56, fn56, c56, arun_seq, arun_op, arun_ops0, arun_ret, arun_cond, arun_skip, operF, wantedA, operV, ev, updO, upd_at, bindArgs, Ap.entry, AV.cells, TV.cells, stor, genAt, H0, hupd, loadV, AV.isAgg, resV, frzs, frz, kI, kE, kB, dO, nO, binV, intV, strV, cmpV, lenV, AV.isStr, gInt, h]

theorem c_entry (x : Ap) (d : Nat) (H : Heap) (nx : Nat) : callOp T (arun T) d 57 [.agg [.c (tI x.a), .c (tI x.b), .c (tS x.s)]] H nx = some (.c x.entry, H, nx) :=
  callOp_of (ts := [x.entry]) (us := [x.entry]) (tm _) (by simp [frzs, frz, Ap.entry]) (by simp [idsOfs, idsOf]) (toEntry x)
theorem t41 : T.fn 41 = some fn41 := rfl
theorem toApplied (x : Ap) : callC T (arun T) 41 [x.enc] = some [x.enc] := by
  simp [callC, tn, callB, t41, fn41, c41, arun_seq, arun_op, arun_ops0, arun_ret, operF, wantedA, operV, ev, updO, upd_at, bindArgs, Ap.enc, AV.cells, TV.cells, stor, genAt, H0, hupd, loadV, storeV, putCells, reEl, AV.isAgg, resV, frzs, frz, kI, kE, dO, nO, c_entry, Ap.entry]
theorem c_eqEntry (x : Ap) (d : Nat) (H : Heap) (nx : Nat) : callOp T (arun T) d 51 [.agg [.c (tI x.a), .c (tI x.b), .c (tS x.s)], .agg [.c (tI x.a), .c (tI x.b), .c (tS x.s)]] H nx = some (kB true, H, nx) :=
  callOp_of (ts := [x.entry, x.entry]) (us := [.s (.bool true)]) (tm _) (by simp [frzs, frz, Ap.entry]) (by simp [idsOfs, idsOf]) (eqEntry x)
theorem t42 : T.fn 42 = some fn42 := rfl
theorem eqApplied (x : Ap) : callC T (arun T) 42 [x.enc, x.enc] = some [.s (.bool true)] := by
  simp [callC, tn, callB, t42, fn42, c42, arun_seq, arun_op, arun_ops0, arun_ret, arun_cond, arun_skip, operF, wantedA, operV, ev, updO, upd_at, bindArgs, Ap.enc, AV.cells, TV.cells, stor, genAt, H0, hupd, loadV, AV.isAgg, resV, frzs, frz, kI, kE, kB, dO, nO, binV, intV, strV, cmpV, unV, c_eqEntry]
end Go.Proofs.Ytgncfkcabphccaa.Am
