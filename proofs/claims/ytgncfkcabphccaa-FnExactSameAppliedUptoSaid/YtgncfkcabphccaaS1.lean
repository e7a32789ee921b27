/- Functions of the program, as the small machine's. -/
import Derived.Test.YtgncfkcabphccaaA31
import Derived.Test.YtgncfkcabphccaaChecked
namespace Go.Proofs.Ytgncfkcabphccaa.Am
open Go Go.Am
set_option linter.unusedVariables false
/- loop.example/g00127/laws.FnExactSameApplied -/
def c4 : AC := .seq (.ops [dO 2 (.mov (.k (kB false)))]) (.seq (.ops [dO 3 (.mov (.k (kI 1048576)))]) (.seq (.ops [dO 7 (.mov (.t 0)),
  dO 8 (.mov (.t 3)),
  dO 9 (.call 15 [(.t 7), (.t 8)]),
  dO 3 (.mov (.t 9))]) (.seq (.seq (.ops [dO 10 (.mov (.t 3)),
  dO 11 (.bin .lss (.t 10) (.k (kI 0)))]) (.cond (.t 11) (.seq (.ops [dO 2 (.mov (.k (kB true)))]) (.ret)) (.skip))) (.seq (.ops [dO 12 (.mov (.t 0)),
  dO 13 (.call 17 [(.t 12)]),
  dO 14 (.call 16 [(.t 13)]),
  dO 4 (.mov (.t 14))]) (.seq (.ops [dO 15 (.mov (.t 0)),
  dO 16 (.call 17 [(.t 15)]),
  dO 5 (.mov (.t 16))]) (.seq (.ops [dO 17 (.mov (.t 5)),
  dO 18 (.call 18 [(.t 17)]),
  dO 6 (.mov (.t 18))]) (.seq (.seq (.ops [dO 19 (.mov (.t 6)),
  dO 20 (.mov (.t 4)),
  dO 21 (.binB .neq (.t 19) (.t 20))]) (.cond (.t 21) (.seq (.ops [dO 2 (.mov (.k (kB false)))]) (.ret)) (.skip))) (.seq (.seq (.ops [dO 22 (.mov (.t 5)),
  dO 23 (.mov (.t 0)),
  dO 24 (.call 17 [(.t 23)]),
  dO 25 (.call 19 [(.t 22), (.t 24)]),
  dO 26 (.un .not (.t 25))]) (.cond (.t 26) (.seq (.ops [dO 2 (.mov (.k (kB false)))]) (.ret)) (.skip))) (.seq (.ops [dO 2 (.mov (.k (kB true)))]) (.ret))))))))))
def fn4 : AFn := ⟨1, 27, [.tmp 2], c4⟩

/- loop.example/g00127/laws.szAppliedS -/
def c15_l0 : AC := .seq (.seq (.ops [dO 12 (.mov (.t 5)),
  dO 13 (.mov (.t 0)),
  dO 14 (.len false (.t 13)),
  dO 15 (.bin .lss (.t 12) (.t 14))]) (.cond (.t 15) (.skip) (.exit 0))) (.seq (.block 1 (.seq (.ops [dO 18 (.mov (.t 0)),
  dO 19 (.mov (.t 5)),
  dO 20 (.iaddr 6 (.t 18) (.t 19)),
  dO 21 (.load true 6 (.t 20)),
  dO 22 (.mov (.t 1)),
  dO 23 (.call 40 [(.t 21), (.t 22)]),
  dO 1 (.mov (.t 23))]) (.seq (.ops [dO 24 (.mov (.t 1)),
  dO 25 (.bin .lss (.t 24) (.k (kI 0)))]) (.cond (.t 25) (.seq (.ops [dO 4 (.mov (.k (kI (-1))))]) (.ret)) (.skip))))) (.ops [dO 16 (.mov (.t 5)),
  dO 17 (.bin .add (.t 16) (.k (kI 1))),
  dO 5 (.mov (.t 17))]))
def c15 : AC := .seq (.ops [dO 4 (.mov (.k (kI 0)))]) (.seq (.ops [dO 6 (.mov (.t 1)),
  dO 7 (.mov (.t 0)),
  dO 8 (.len false (.t 7)),
  dO 9 (.bin .sub (.t 6) (.t 8)),
  dO 1 (.mov (.t 9))]) (.seq (.seq (.ops [dO 10 (.mov (.t 1)),
  dO 11 (.bin .lss (.t 10) (.k (kI 0)))]) (.cond (.t 11) (.seq (.ops [dO 4 (.mov (.k (kI (-1))))]) (.ret)) (.skip))) (.seq (.seq (.ops [dO 5 (.mov (.k (kI 0)))]) (.block 0 (.loop c15_l0))) (.seq (.ops [dO 26 (.mov (.t 1)),
  dO 4 (.mov (.t 26))]) (.ret)))))
def fn15 : AFn := ⟨2, 27, [.tmp 4], c15⟩

/- loop.example/g00127/spec.SameApplied -/
def c16_l0 : AC := .seq (.seq (.ops [dO 11 (.mov (.t 4)),
  dO 12 (.mov (.t 3)),
  dO 13 (.bin .lss (.t 11) (.t 12))]) (.cond (.t 13) (.skip) (.exit 2))) (.seq (.block 3 (.seq (.ops [dO 16 (.mov (.t 0)),
  dO 17 (.mov (.t 3)),
  dO 18 (.iaddr 6 (.t 16) (.t 17)),
  dO 19 (.faddr (.t 18) 2),
  dO 20 (.load false 1 (.t 19)),
  dO 21 (.mov (.t 0)),
  dO 22 (.mov (.t 4)),
  dO 23 (.iaddr 6 (.t 21) (.t 22)),
  dO 24 (.faddr (.t 23) 2),
  dO 25 (.load false 1 (.t 24)),
  dO 26 (.bin .eql (.t 20) (.t 25)),
  dO 27 (.mov (.t 26)),
  gO 28 27 true (.mov (.t 0)),
  gO 29 27 true (.mov (.t 3)),
  gO 30 27 true (.iaddr 6 (.t 28) (.t 29)),
  gO 31 27 true (.faddr (.t 30) 3),
  gO 32 27 true (.load true 3 (.t 31)),
  gO 33 27 true (.mov (.t 0)),
  gO 34 27 true (.mov (.t 4)),
  gO 35 27 true (.iaddr 6 (.t 33) (.t 34)),
  gO 36 27 true (.faddr (.t 35) 3),
  gO 37 27 true (.load true 3 (.t 36)),
  gO 38 27 true (.binS true [.i, .i, .s] (.t 32) (.t 37)),
  dO 39 (.pick (.t 27) (.t 38) (.k (kB false)))]) (.cond (.t 39) (.seq (.ops [dO 2 (.mov (.k (kB false)))]) (.ret)) (.skip)))) (.ops [dO 14 (.mov (.t 4)),
  dO 15 (.bin .add (.t 14) (.k (kI 1))),
  dO 4 (.mov (.t 15))]))
def c16_l1 : AC := .seq (.seq (.ops [dO 5 (.mov (.t 3)),
  dO 6 (.mov (.t 0)),
  dO 7 (.len false (.t 6)),
  dO 8 (.bin .lss (.t 5) (.t 7))]) (.cond (.t 8) (.skip) (.exit 0))) (.seq (.block 1 (.seq (.ops [dO 4 (.mov (.k (kI 0)))]) (.block 2 (.loop c16_l0)))) (.ops [dO 9 (.mov (.t 3)),
  dO 10 (.bin .add (.t 9) (.k (kI 1))),
  dO 3 (.mov (.t 10))]))
def c16 : AC := .seq (.ops [dO 2 (.mov (.k (kB false)))]) (.seq (.seq (.ops [dO 3 (.mov (.k (kI 0)))]) (.block 0 (.loop c16_l1))) (.seq (.ops [dO 2 (.mov (.k (kB true)))]) (.ret)))
def fn16 : AFn := ⟨1, 40, [.tmp 2], c16⟩

/- loop.example/g00127/laws.toAppliedS -/
def c17_l0 : AC := .seq (.seq (.ops [dO 8 (.mov (.t 4)),
  dO 9 (.mov (.t 0)),
  dO 10 (.len false (.t 9)),
  dO 11 (.bin .lss (.t 8) (.t 10))]) (.cond (.t 11) (.skip) (.exit 0))) (.seq (.block 1 (.ops [dO 14 (.mov (.t 3)),
  dO 15 (.mov (.t 4)),
  dO 16 (.mov (.t 0)),
  dO 17 (.mov (.t 4)),
  dO 18 (.iaddr 6 (.t 16) (.t 17)),
  dO 19 (.load true 6 (.t 18)),
  dO 20 (.call 41 [(.t 19)]),
  dO 21 (.iaddr 6 (.t 14) (.t 15)),
  nO (.store 6 (.t 21) (.t 20))])) (.ops [dO 12 (.mov (.t 4)),
  dO 13 (.bin .add (.t 12) (.k (kI 1))),
  dO 4 (.mov (.t 13))]))
def c17 : AC := .seq (.ops [dO 2 (.mov (.k .nils))]) (.seq (.ops [dO 5 (.mov (.t 0)),
  dO 6 (.len false (.t 5)),
  dO 7 (.mksl 6 (.agg [(kI 0), (kI 0), (kI 0), (kI 0), (kI 0), kE]) (.t 6)),
  dO 3 (.mov (.t 7))]) (.seq (.seq (.ops [dO 4 (.mov (.k (kI 0)))]) (.block 0 (.loop c17_l0))) (.seq (.ops [dO 22 (.mov (.t 3)),
  dO 2 (.mov (.t 22))]) (.ret))))
def fn17 : AFn := ⟨1, 23, [.tmp 2], c17⟩

/- loop.example/g00127/impl.SameApplied -/
def c18_l0 : AC := .seq (.ops [dO 16 (.bin .lss (.t 15) (.t 14))]) (.seq (.cond (.t 16) (.skip) (.exit 2)) (.seq (.block 3 (.seq (.ops [dO 17 (.iaddr 6 (.t 13) (.t 15)),
  dO 18 (.load true 6 (.t 17)),
  dO 6 (.alloc (.agg [(kI 0), (kI 0), (kI 0), (kI 0), (kI 0), kE])),
  nO (.store 6 (.t 6) (.t 18))]) (.seq (.ops [dO 19 (.faddr (.t 4) 2),
  dO 20 (.load false 1 (.t 19)),
  dO 21 (.faddr (.t 6) 2),
  dO 22 (.load false 1 (.t 21)),
  dO 23 (.bin .eql (.t 20) (.t 22)),
  dO 24 (.mov (.t 23)),
  gO 25 24 true (.faddr (.t 4) 3),
  gO 26 24 true (.load true 3 (.t 25)),
  gO 27 24 true (.faddr (.t 6) 3),
  gO 28 24 true (.load true 3 (.t 27)),
  gO 29 24 true (.binS true [.i, .i, .s] (.t 26) (.t 28)),
  dO 30 (.pick (.t 24) (.t 29) (.k (kB false)))]) (.cond (.t 30) (.seq (.ops [dO 2 (.mov (.k (kB false)))]) (.ret)) (.skip))))) (.ops [dO 31 (.bin .add (.t 15) (.k (kI 1))),
  dO 15 (.mov (.t 31))])))
def c18_l1 : AC := .seq (.ops [dO 10 (.bin .lss (.t 9) (.t 8))]) (.seq (.cond (.t 10) (.skip) (.exit 0)) (.seq (.block 1 (.seq (.ops [dO 11 (.iaddr 6 (.t 7) (.t 9)),
  dO 12 (.load true 6 (.t 11)),
  dO 4 (.alloc (.agg [(kI 0), (kI 0), (kI 0), (kI 0), (kI 0), kE])),
  nO (.store 6 (.t 4) (.t 12))]) (.seq (.ops [dO 13 (.mov (.t 0)),
  dO 14 (.len false (.t 13)),
  dO 15 (.mov (.k (kI 0)))]) (.block 2 (.loop c18_l0))))) (.ops [dO 32 (.bin .add (.t 9) (.k (kI 1))),
  dO 9 (.mov (.t 32))])))
def c18 : AC := .seq (.ops [dO 2 (.mov (.k (kB false)))]) (.seq (.seq (.ops [dO 7 (.mov (.t 0)),
  dO 8 (.len false (.t 7)),
  dO 9 (.mov (.k (kI 0)))]) (.block 0 (.loop c18_l1))) (.seq (.ops [dO 2 (.mov (.k (kB true)))]) (.ret)))
def fn18 : AFn := ⟨1, 33, [.tmp 2], c18⟩

/- loop.example/g00127/laws.eqAppliedS -/
def c19_l0 : AC := .seq (.seq (.ops [dO 11 (.mov (.t 5)),
  dO 12 (.mov (.t 0)),
  dO 13 (.len false (.t 12)),
  dO 14 (.bin .lss (.t 11) (.t 13))]) (.cond (.t 14) (.skip) (.exit 0))) (.seq (.block 1 (.seq (.ops [dO 17 (.mov (.t 0)),
  dO 18 (.mov (.t 5)),
  dO 19 (.iaddr 6 (.t 17) (.t 18)),
  dO 20 (.load true 6 (.t 19)),
  dO 21 (.mov (.t 1)),
  dO 22 (.mov (.t 5)),
  dO 23 (.iaddr 6 (.t 21) (.t 22)),
  dO 24 (.load true 6 (.t 23)),
  dO 25 (.call 42 [(.t 20), (.t 24)]),
  dO 26 (.un .not (.t 25))]) (.cond (.t 26) (.seq (.ops [dO 4 (.mov (.k (kB false)))]) (.ret)) (.skip)))) (.ops [dO 15 (.mov (.t 5)),
  dO 16 (.bin .add (.t 15) (.k (kI 1))),
  dO 5 (.mov (.t 16))]))
def c19 : AC := .seq (.ops [dO 4 (.mov (.k (kB false)))]) (.seq (.seq (.ops [dO 6 (.mov (.t 0)),
  dO 7 (.len false (.t 6)),
  dO 8 (.mov (.t 1)),
  dO 9 (.len false (.t 8)),
  dO 10 (.bin .neq (.t 7) (.t 9))]) (.cond (.t 10) (.seq (.ops [dO 4 (.mov (.k (kB false)))]) (.ret)) (.skip))) (.seq (.seq (.ops [dO 5 (.mov (.k (kI 0)))]) (.block 0 (.loop c19_l0))) (.seq (.ops [dO 4 (.mov (.k (kB true)))]) (.ret))))
def fn19 : AFn := ⟨2, 27, [.tmp 4], c19⟩

/- loop.example/g00127/laws.szApplied -/
def c40 : AC := .seq (.ops [dO 2 (.box (.t 0)),
  dO 4 (.mov (.k (kI 0)))]) (.seq (.ops [dO 5 (.faddr (.t 2) 3),
  dO 6 (.load true 3 (.t 5)),
  dO 7 (.mov (.t 1)),
  dO 8 (.call 56 [(.t 6), (.t 7)]),
  dO 1 (.mov (.t 8))]) (.seq (.seq (.ops [dO 9 (.mov (.t 1)),
  dO 10 (.bin .lss (.t 9) (.k (kI 0)))]) (.cond (.t 10) (.seq (.ops [dO 4 (.mov (.k (kI (-1))))]) (.ret)) (.skip))) (.seq (.ops [dO 11 (.mov (.t 1)),
  dO 4 (.mov (.t 11))]) (.ret))))
def fn40 : AFn := ⟨2, 12, [.tmp 4], c40⟩

/- loop.example/g00127/laws.toApplied -/
def c41 : AC := .seq (.ops [dO 1 (.box (.t 0)),
  dO 2 (.alloc (.agg [(kI 0), (kI 0), (kI 0), (kI 0), (kI 0), kE]))]) (.seq (.ops [dO 3 (.alloc (.agg [(kI 0), (kI 0), (kI 0), (kI 0), (kI 0), kE]))]) (.seq (.ops [dO 4 (.faddr (.t 1) 0),
  dO 5 (.load false 1 (.t 4)),
  dO 6 (.faddr (.t 3) 0),
  nO (.store 1 (.t 6) (.t 5))]) (.seq (.ops [dO 7 (.faddr (.t 1) 1),
  dO 8 (.load false 1 (.t 7)),
  dO 9 (.faddr (.t 3) 1),
  nO (.store 1 (.t 9) (.t 8))]) (.seq (.ops [dO 10 (.faddr (.t 1) 2),
  dO 11 (.load false 1 (.t 10)),
  dO 12 (.faddr (.t 3) 2),
  nO (.store 1 (.t 12) (.t 11))]) (.seq (.ops [dO 13 (.faddr (.t 1) 3),
  dO 14 (.load true 3 (.t 13)),
  dO 15 (.call 57 [(.t 14)]),
  dO 16 (.faddr (.t 3) 3),
  nO (.store 3 (.t 16) (.t 15))]) (.seq (.ops [dO 17 (.load true 6 (.t 3)),
  nO (.store 6 (.t 2) (.t 17))]) (.ret)))))))
def fn41 : AFn := ⟨1, 18, [.cell 2 true 6], c41⟩

/- loop.example/g00127/laws.eqApplied -/
def c42 : AC := .seq (.ops [dO 2 (.box (.t 0)),
  dO 3 (.box (.t 1)),
  dO 4 (.mov (.k (kB false)))]) (.seq (.seq (.ops [dO 5 (.faddr (.t 2) 0),
  dO 6 (.load false 1 (.t 5)),
  dO 7 (.faddr (.t 3) 0),
  dO 8 (.load false 1 (.t 7)),
  dO 9 (.bin .neq (.t 6) (.t 8))]) (.cond (.t 9) (.seq (.ops [dO 4 (.mov (.k (kB false)))]) (.ret)) (.skip))) (.seq (.seq (.ops [dO 10 (.faddr (.t 2) 1),
  dO 11 (.load false 1 (.t 10)),
  dO 12 (.faddr (.t 3) 1),
  dO 13 (.load false 1 (.t 12)),
  dO 14 (.bin .neq (.t 11) (.t 13))]) (.cond (.t 14) (.seq (.ops [dO 4 (.mov (.k (kB false)))]) (.ret)) (.skip))) (.seq (.seq (.ops [dO 15 (.faddr (.t 2) 2),
  dO 16 (.load false 1 (.t 15)),
  dO 17 (.faddr (.t 3) 2),
  dO 18 (.load false 1 (.t 17)),
  dO 19 (.bin .neq (.t 16) (.t 18))]) (.cond (.t 19) (.seq (.ops [dO 4 (.mov (.k (kB false)))]) (.ret)) (.skip))) (.seq (.seq (.ops [dO 20 (.faddr (.t 2) 3),
  dO 21 (.load true 3 (.t 20)),
  dO 22 (.faddr (.t 3) 3),
  dO 23 (.load true 3 (.t 22)),
  dO 24 (.call 51 [(.t 21), (.t 23)]),
  dO 25 (.un .not (.t 24))]) (.cond (.t 25) (.seq (.ops [dO 4 (.mov (.k (kB false)))]) (.ret)) (.skip))) (.seq (.ops [dO 4 (.mov (.k (kB true)))]) (.ret))))))
def fn42 : AFn := ⟨2, 26, [.tmp 4], c42⟩

/- loop.example/g00127/laws.eqEntry -/
def c51 : AC := .seq (.ops [dO 2 (.box (.t 0)),
  dO 3 (.box (.t 1)),
  dO 4 (.mov (.k (kB false)))]) (.seq (.seq (.ops [dO 5 (.faddr (.t 2) 0),
  dO 6 (.load false 1 (.t 5)),
  dO 7 (.faddr (.t 3) 0),
  dO 8 (.load false 1 (.t 7)),
  dO 9 (.bin .neq (.t 6) (.t 8))]) (.cond (.t 9) (.seq (.ops [dO 4 (.mov (.k (kB false)))]) (.ret)) (.skip))) (.seq (.seq (.ops [dO 10 (.faddr (.t 2) 1),
  dO 11 (.load false 1 (.t 10)),
  dO 12 (.faddr (.t 3) 1),
  dO 13 (.load false 1 (.t 12)),
  dO 14 (.bin .neq (.t 11) (.t 13))]) (.cond (.t 14) (.seq (.ops [dO 4 (.mov (.k (kB false)))]) (.ret)) (.skip))) (.seq (.seq (.ops [dO 15 (.faddr (.t 2) 2),
  dO 16 (.load false 1 (.t 15)),
  dO 17 (.faddr (.t 3) 2),
  dO 18 (.load false 1 (.t 17)),
  dO 19 (.bin .neq (.t 16) (.t 18))]) (.cond (.t 19) (.seq (.ops [dO 4 (.mov (.k (kB false)))]) (.ret)) (.skip))) (.seq (.ops [dO 4 (.mov (.k (kB true)))]) (.ret)))))
def fn51 : AFn := ⟨2, 20, [.tmp 4], c51⟩

/- loop.example/g00127/laws.szEntry -/
def c56 : AC := .seq (.ops [dO 2 (.box (.t 0)),
  dO 4 (.mov (.k (kI 0)))]) (.seq (.ops [dO 5 (.mov (.t 1)),
  dO 6 (.faddr (.t 2) 2),
  dO 7 (.load false 1 (.t 6)),
  dO 8 (.len true (.t 7)),
  dO 9 (.bin .sub (.t 5) (.t 8)),
  dO 1 (.mov (.t 9))]) (.seq (.seq (.ops [dO 10 (.mov (.t 1)),
  dO 11 (.bin .lss (.t 10) (.k (kI 0)))]) (.cond (.t 11) (.seq (.ops [dO 4 (.mov (.k (kI (-1))))]) (.ret)) (.skip))) (.seq (.ops [dO 12 (.mov (.t 1)),
  dO 4 (.mov (.t 12))]) (.ret))))
def fn56 : AFn := ⟨2, 13, [.tmp 4], c56⟩

/- loop.example/g00127/laws.toEntry -/
def c57 : AC := .seq (.ops [dO 1 (.box (.t 0)),
  dO 2 (.alloc (.agg [(kI 0), (kI 0), kE]))]) (.seq (.ops [dO 3 (.alloc (.agg [(kI 0), (kI 0), kE]))]) (.seq (.ops [dO 4 (.faddr (.t 1) 0),
  dO 5 (.load false 1 (.t 4)),
  dO 6 (.faddr (.t 3) 0),
  nO (.store 1 (.t 6) (.t 5))]) (.seq (.ops [dO 7 (.faddr (.t 1) 1),
  dO 8 (.load false 1 (.t 7)),
  dO 9 (.faddr (.t 3) 1),
  nO (.store 1 (.t 9) (.t 8))]) (.seq (.ops [dO 10 (.faddr (.t 1) 2),
  dO 11 (.load false 1 (.t 10)),
  dO 12 (.faddr (.t 3) 2),
  nO (.store 1 (.t 12) (.t 11))]) (.seq (.ops [dO 13 (.load true 3 (.t 3)),
  nO (.store 3 (.t 2) (.t 13))]) (.ret))))))
def fn57 : AFn := ⟨1, 14, [.cell 2 true 3], c57⟩

theorem of4 : fnOf Try.prog Try.f4 = some fn4 := by kernel_rfl
theorem of15 : fnOf Try.prog Try.f15 = some fn15 := by kernel_rfl
theorem of16 : fnOf Try.prog Try.f16 = some fn16 := by kernel_rfl
theorem of17 : fnOf Try.prog Try.f17 = some fn17 := by kernel_rfl
theorem of18 : fnOf Try.prog Try.f18 = some fn18 := by kernel_rfl
theorem of19 : fnOf Try.prog Try.f19 = some fn19 := by kernel_rfl
theorem of40 : fnOf Try.prog Try.f40 = some fn40 := by kernel_rfl
theorem of41 : fnOf Try.prog Try.f41 = some fn41 := by kernel_rfl
theorem of42 : fnOf Try.prog Try.f42 = some fn42 := by kernel_rfl
theorem of51 : fnOf Try.prog Try.f51 = some fn51 := by kernel_rfl
theorem of56 : fnOf Try.prog Try.f56 = some fn56 := by kernel_rfl
theorem of57 : fnOf Try.prog Try.f57 = some fn57 := by kernel_rfl
end Go.Proofs.Ytgncfkcabphccaa.Am
