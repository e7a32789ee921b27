/- Functions of the program, as the small machine's (OneLeader). -/
import Derived.Test.YtgncfkcabphccaaA34
import Derived.Test.YtgncfkcabphccaaChecked
namespace Go.Proofs.Ytgncfkcabphccaa.Ol
open Go Go.Am
set_option linter.unusedVariables false
set_option linter.unusedSimpArgs false
/- loop.example/g00127/laws.FnExactOneLeader -/
def c5 : AC := .seq (.ops [dO 2 (.mov (.k (kB false)))]) (.seq (.ops [dO 3 (.mov (.k (kI 1048576)))]) (.seq (.ops [dO 7 (.mov (.t 0)),
  dO 8 (.mov (.t 3)),
  dO 9 (.call 20 [(.t 7), (.t 8)]),
  dO 3 (.mov (.t 9))]) (.seq (.seq (.ops [dO 10 (.mov (.t 3)),
  dO 11 (.bin .lss (.t 10) (.k (kI 0)))]) (.cond (.t 11) (.seq (.ops [dO 2 (.mov (.k (kB true)))]) (.ret)) (.skip))) (.seq (.ops [dO 12 (.mov (.t 0)),
  dO 13 (.call 22 [(.t 12)]),
  dO 14 (.call 21 [(.t 13)]),
  dO 4 (.mov (.t 14))]) (.seq (.ops [dO 15 (.mov (.t 0)),
  dO 16 (.call 22 [(.t 15)]),
  dO 5 (.mov (.t 16))]) (.seq (.ops [dO 17 (.mov (.t 5)),
  dO 18 (.call 23 [(.t 17)]),
  dO 6 (.mov (.t 18))]) (.seq (.seq (.ops [dO 19 (.mov (.t 6)),
  dO 20 (.mov (.t 4)),
  dO 21 (.binB .neq (.t 19) (.t 20))]) (.cond (.t 21) (.seq (.ops [dO 2 (.mov (.k (kB false)))]) (.ret)) (.skip))) (.seq (.seq (.ops [dO 22 (.mov (.t 5)),
  dO 23 (.mov (.t 0)),
  dO 24 (.call 22 [(.t 23)]),
  dO 25 (.call 24 [(.t 22), (.t 24)]),
  dO 26 (.un .not (.t 25))]) (.cond (.t 26) (.seq (.ops [dO 2 (.mov (.k (kB false)))]) (.ret)) (.skip))) (.seq (.ops [dO 2 (.mov (.k (kB true)))]) (.ret))))))))))
def fn5 : AFn := ⟨1, 27, [.tmp 2], c5⟩

/- loop.example/g00127/laws.szLeaderS -/
def c20_l0 : AC := .seq (.seq (.ops [dO 12 (.mov (.t 5)),
  dO 13 (.mov (.t 0)),
  dO 14 (.len false (.t 13)),
  dO 15 (.bin .lss (.t 12) (.t 14))]) (.cond (.t 15) (.skip) (.exit 0))) (.seq (.block 1 (.seq (.ops [dO 18 (.mov (.t 0)),
  dO 19 (.mov (.t 5)),
  dO 20 (.iaddr 5 (.t 18) (.t 19)),
  dO 21 (.load true 5 (.t 20)),
  dO 22 (.mov (.t 1)),
  dO 23 (.call 43 [(.t 21), (.t 22)]),
  dO 1 (.mov (.t 23))]) (.seq (.ops [dO 24 (.mov (.t 1)),
  dO 25 (.bin .lss (.t 24) (.k (kI 0)))]) (.cond (.t 25) (.seq (.ops [dO 4 (.mov (.k (kI (-1))))]) (.ret)) (.skip))))) (.ops [dO 16 (.mov (.t 5)),
  dO 17 (.bin .add (.t 16) (.k (kI 1))),
  dO 5 (.mov (.t 17))]))
def c20 : AC := .seq (.ops [dO 4 (.mov (.k (kI 0)))]) (.seq (.ops [dO 6 (.mov (.t 1)),
  dO 7 (.mov (.t 0)),
  dO 8 (.len false (.t 7)),
  dO 9 (.bin .sub (.t 6) (.t 8)),
  dO 1 (.mov (.t 9))]) (.seq (.seq (.ops [dO 10 (.mov (.t 1)),
  dO 11 (.bin .lss (.t 10) (.k (kI 0)))]) (.cond (.t 11) (.seq (.ops [dO 4 (.mov (.k (kI (-1))))]) (.ret)) (.skip))) (.seq (.seq (.ops [dO 5 (.mov (.k (kI 0)))]) (.block 0 (.loop c20_l0))) (.seq (.ops [dO 26 (.mov (.t 1)),
  dO 4 (.mov (.t 26))]) (.ret)))))
def fn20 : AFn := ⟨2, 27, [.tmp 4], c20⟩

/- loop.example/g00127/spec.OneLeader -/
def c21_l0 : AC := .seq (.seq (.ops [dO 11 (.mov (.t 4)),
  dO 12 (.mov (.t 3)),
  dO 13 (.bin .lss (.t 11) (.t 12))]) (.cond (.t 13) (.skip) (.exit 2))) (.seq (.block 3 (.seq (.ops [dO 16 (.mov (.t 0)),
  dO 17 (.mov (.t 3)),
  dO 18 (.iaddr 5 (.t 16) (.t 17)),
  dO 19 (.faddr (.t 18) 1),
  dO 20 (.load false 1 (.t 19)),
  dO 21 (.mov (.t 0)),
  dO 22 (.mov (.t 4)),
  dO 23 (.iaddr 5 (.t 21) (.t 22)),
  dO 24 (.faddr (.t 23) 1),
  dO 25 (.load false 1 (.t 24)),
  dO 26 (.bin .eql (.t 20) (.t 25)),
  dO 27 (.mov (.t 26)),
  gO 28 27 true (.mov (.t 0)),
  gO 29 27 true (.mov (.t 3)),
  gO 30 27 true (.iaddr 5 (.t 28) (.t 29)),
  gO 31 27 true (.faddr (.t 30) 0),
  gO 32 27 true (.load false 1 (.t 31)),
  gO 33 27 true (.mov (.t 0)),
  gO 34 27 true (.mov (.t 4)),
  gO 35 27 true (.iaddr 5 (.t 33) (.t 34)),
  gO 36 27 true (.faddr (.t 35) 0),
  gO 37 27 true (.load false 1 (.t 36)),
  gO 38 27 true (.bin .neq (.t 32) (.t 37)),
  dO 39 (.pick (.t 27) (.t 38) (.k (kB false)))]) (.cond (.t 39) (.seq (.ops [dO 2 (.mov (.k (kB false)))]) (.ret)) (.skip)))) (.ops [dO 14 (.mov (.t 4)),
  dO 15 (.bin .add (.t 14) (.k (kI 1))),
  dO 4 (.mov (.t 15))]))
def c21_l1 : AC := .seq (.seq (.ops [dO 5 (.mov (.t 3)),
  dO 6 (.mov (.t 0)),
  dO 7 (.len false (.t 6)),
  dO 8 (.bin .lss (.t 5) (.t 7))]) (.cond (.t 8) (.skip) (.exit 0))) (.seq (.block 1 (.seq (.ops [dO 4 (.mov (.k (kI 0)))]) (.block 2 (.loop c21_l0)))) (.ops [dO 9 (.mov (.t 3)),
  dO 10 (.bin .add (.t 9) (.k (kI 1))),
  dO 3 (.mov (.t 10))]))
def c21 : AC := .seq (.ops [dO 2 (.mov (.k (kB false)))]) (.seq (.seq (.ops [dO 3 (.mov (.k (kI 0)))]) (.block 0 (.loop c21_l1))) (.seq (.ops [dO 2 (.mov (.k (kB true)))]) (.ret)))
def fn21 : AFn := ⟨1, 40, [.tmp 2], c21⟩

/- loop.example/g00127/laws.toLeaderS -/
def c22_l0 : AC := .seq (.seq (.ops [dO 8 (.mov (.t 4)),
  dO 9 (.mov (.t 0)),
  dO 10 (.len false (.t 9)),
  dO 11 (.bin .lss (.t 8) (.t 10))]) (.cond (.t 11) (.skip) (.exit 0))) (.seq (.block 1 (.ops [dO 14 (.mov (.t 3)),
  dO 15 (.mov (.t 4)),
  dO 16 (.mov (.t 0)),
  dO 17 (.mov (.t 4)),
  dO 18 (.iaddr 5 (.t 16) (.t 17)),
  dO 19 (.load true 5 (.t 18)),
  dO 20 (.call 44 [(.t 19)]),
  dO 21 (.iaddr 5 (.t 14) (.t 15)),
  nO (.store 5 (.t 21) (.t 20))])) (.ops [dO 12 (.mov (.t 4)),
  dO 13 (.bin .add (.t 12) (.k (kI 1))),
  dO 4 (.mov (.t 13))]))
def c22 : AC := .seq (.ops [dO 2 (.mov (.k .nils))]) (.seq (.ops [dO 5 (.mov (.t 0)),
  dO 6 (.len false (.t 5)),
  dO 7 (.mksl 5 (.agg [(kI 0), (kI 0), (kI 0), (kI 0), .nils]) (.t 6)),
  dO 3 (.mov (.t 7))]) (.seq (.seq (.ops [dO 4 (.mov (.k (kI 0)))]) (.block 0 (.loop c22_l0))) (.seq (.ops [dO 22 (.mov (.t 3)),
  dO 2 (.mov (.t 22))]) (.ret))))
def fn22 : AFn := ⟨1, 23, [.tmp 2], c22⟩

/- loop.example/g00127/impl.OneLeader -/
def c23_l0 : AC := .seq (.ops [dO 16 (.bin .lss (.t 15) (.t 14))]) (.seq (.cond (.t 16) (.skip) (.exit 2)) (.seq (.block 3 (.seq (.ops [dO 17 (.iaddr 5 (.t 13) (.t 15)),
  dO 18 (.load true 5 (.t 17)),
  dO 6 (.alloc (.agg [(kI 0), (kI 0), (kI 0), (kI 0), .nils])),
  nO (.store 5 (.t 6) (.t 18))]) (.seq (.ops [dO 19 (.faddr (.t 4) 1),
  dO 20 (.load false 1 (.t 19)),
  dO 21 (.faddr (.t 6) 1),
  dO 22 (.load false 1 (.t 21)),
  dO 23 (.bin .eql (.t 20) (.t 22)),
  dO 24 (.mov (.t 23)),
  gO 25 24 true (.faddr (.t 4) 0),
  gO 26 24 true (.load false 1 (.t 25)),
  gO 27 24 true (.faddr (.t 6) 0),
  gO 28 24 true (.load false 1 (.t 27)),
  gO 29 24 true (.bin .neq (.t 26) (.t 28)),
  dO 30 (.pick (.t 24) (.t 29) (.k (kB false)))]) (.cond (.t 30) (.seq (.ops [dO 2 (.mov (.k (kB false)))]) (.ret)) (.skip))))) (.ops [dO 31 (.bin .add (.t 15) (.k (kI 1))),
  dO 15 (.mov (.t 31))])))
def c23_l1 : AC := .seq (.ops [dO 10 (.bin .lss (.t 9) (.t 8))]) (.seq (.cond (.t 10) (.skip) (.exit 0)) (.seq (.block 1 (.seq (.ops [dO 11 (.iaddr 5 (.t 7) (.t 9)),
  dO 12 (.load true 5 (.t 11)),
  dO 4 (.alloc (.agg [(kI 0), (kI 0), (kI 0), (kI 0), .nils])),
  nO (.store 5 (.t 4) (.t 12))]) (.seq (.ops [dO 13 (.mov (.t 0)),
  dO 14 (.len false (.t 13)),
  dO 15 (.mov (.k (kI 0)))]) (.block 2 (.loop c23_l0))))) (.ops [dO 32 (.bin .add (.t 9) (.k (kI 1))),
  dO 9 (.mov (.t 32))])))
def c23 : AC := .seq (.ops [dO 2 (.mov (.k (kB false)))]) (.seq (.seq (.ops [dO 7 (.mov (.t 0)),
  dO 8 (.len false (.t 7)),
  dO 9 (.mov (.k (kI 0)))]) (.block 0 (.loop c23_l1))) (.seq (.ops [dO 2 (.mov (.k (kB true)))]) (.ret)))
def fn23 : AFn := ⟨1, 33, [.tmp 2], c23⟩

/- loop.example/g00127/laws.eqLeaderS -/
def c24_l0 : AC := .seq (.seq (.ops [dO 11 (.mov (.t 5)),
  dO 12 (.mov (.t 0)),
  dO 13 (.len false (.t 12)),
  dO 14 (.bin .lss (.t 11) (.t 13))]) (.cond (.t 14) (.skip) (.exit 0))) (.seq (.block 1 (.seq (.ops [dO 17 (.mov (.t 0)),
  dO 18 (.mov (.t 5)),
  dO 19 (.iaddr 5 (.t 17) (.t 18)),
  dO 20 (.load true 5 (.t 19)),
  dO 21 (.mov (.t 1)),
  dO 22 (.mov (.t 5)),
  dO 23 (.iaddr 5 (.t 21) (.t 22)),
  dO 24 (.load true 5 (.t 23)),
  dO 25 (.call 45 [(.t 20), (.t 24)]),
  dO 26 (.un .not (.t 25))]) (.cond (.t 26) (.seq (.ops [dO 4 (.mov (.k (kB false)))]) (.ret)) (.skip)))) (.ops [dO 15 (.mov (.t 5)),
  dO 16 (.bin .add (.t 15) (.k (kI 1))),
  dO 5 (.mov (.t 16))]))
def c24 : AC := .seq (.ops [dO 4 (.mov (.k (kB false)))]) (.seq (.seq (.ops [dO 6 (.mov (.t 0)),
  dO 7 (.len false (.t 6)),
  dO 8 (.mov (.t 1)),
  dO 9 (.len false (.t 8)),
  dO 10 (.bin .neq (.t 7) (.t 9))]) (.cond (.t 10) (.seq (.ops [dO 4 (.mov (.k (kB false)))]) (.ret)) (.skip))) (.seq (.seq (.ops [dO 5 (.mov (.k (kI 0)))]) (.block 0 (.loop c24_l0))) (.seq (.ops [dO 4 (.mov (.k (kB true)))]) (.ret))))
def fn24 : AFn := ⟨2, 27, [.tmp 4], c24⟩

/- loop.example/g00127/laws.eqEntryS -/
def c32_l0 : AC := .seq (.seq (.ops [dO 11 (.mov (.t 5)),
  dO 12 (.mov (.t 0)),
  dO 13 (.len false (.t 12)),
  dO 14 (.bin .lss (.t 11) (.t 13))]) (.cond (.t 14) (.skip) (.exit 0))) (.seq (.block 1 (.seq (.ops [dO 17 (.mov (.t 0)),
  dO 18 (.mov (.t 5)),
  dO 19 (.iaddr 3 (.t 17) (.t 18)),
  dO 20 (.load true 3 (.t 19)),
  dO 21 (.mov (.t 1)),
  dO 22 (.mov (.t 5)),
  dO 23 (.iaddr 3 (.t 21) (.t 22)),
  dO 24 (.load true 3 (.t 23)),
  dO 25 (.call 51 [(.t 20), (.t 24)]),
  dO 26 (.un .not (.t 25))]) (.cond (.t 26) (.seq (.ops [dO 4 (.mov (.k (kB false)))]) (.ret)) (.skip)))) (.ops [dO 15 (.mov (.t 5)),
  dO 16 (.bin .add (.t 15) (.k (kI 1))),
  dO 5 (.mov (.t 16))]))
def c32 : AC := .seq (.ops [dO 4 (.mov (.k (kB false)))]) (.seq (.seq (.ops [dO 6 (.mov (.t 0)),
  dO 7 (.len false (.t 6)),
  dO 8 (.mov (.t 1)),
  dO 9 (.len false (.t 8)),
  dO 10 (.bin .neq (.t 7) (.t 9))]) (.cond (.t 10) (.seq (.ops [dO 4 (.mov (.k (kB false)))]) (.ret)) (.skip))) (.seq (.seq (.ops [dO 5 (.mov (.k (kI 0)))]) (.block 0 (.loop c32_l0))) (.seq (.ops [dO 4 (.mov (.k (kB true)))]) (.ret))))
def fn32 : AFn := ⟨2, 27, [.tmp 4], c32⟩

/- loop.example/g00127/laws.szLeader -/
def c43 : AC := .seq (.ops [dO 2 (.box (.t 0)),
  dO 4 (.mov (.k (kI 0)))]) (.seq (.ops [dO 5 (.faddr (.t 2) 2),
  dO 6 (.load true 3 (.t 5)),
  dO 7 (.mov (.t 1)),
  dO 8 (.call 58 [(.t 6), (.t 7)]),
  dO 1 (.mov (.t 8))]) (.seq (.seq (.ops [dO 9 (.mov (.t 1)),
  dO 10 (.bin .lss (.t 9) (.k (kI 0)))]) (.cond (.t 10) (.seq (.ops [dO 4 (.mov (.k (kI (-1))))]) (.ret)) (.skip))) (.seq (.ops [dO 11 (.mov (.t 1)),
  dO 4 (.mov (.t 11))]) (.ret))))
def fn43 : AFn := ⟨2, 12, [.tmp 4], c43⟩

/- loop.example/g00127/laws.toLeader -/
def c44 : AC := .seq (.ops [dO 1 (.box (.t 0)),
  dO 2 (.alloc (.agg [(kI 0), (kI 0), (kI 0), (kI 0), .nils]))]) (.seq (.ops [dO 3 (.alloc (.agg [(kI 0), (kI 0), (kI 0), (kI 0), .nils]))]) (.seq (.ops [dO 4 (.faddr (.t 1) 0),
  dO 5 (.load false 1 (.t 4)),
  dO 6 (.faddr (.t 3) 0),
  nO (.store 1 (.t 6) (.t 5))]) (.seq (.ops [dO 7 (.faddr (.t 1) 1),
  dO 8 (.load false 1 (.t 7)),
  dO 9 (.faddr (.t 3) 1),
  nO (.store 1 (.t 9) (.t 8))]) (.seq (.ops [dO 10 (.faddr (.t 1) 2),
  dO 11 (.load true 3 (.t 10)),
  dO 12 (.call 59 [(.t 11)]),
  dO 13 (.faddr (.t 3) 2),
  nO (.store 3 (.t 13) (.t 12))]) (.seq (.ops [dO 14 (.load true 5 (.t 3)),
  nO (.store 5 (.t 2) (.t 14))]) (.ret))))))
def fn44 : AFn := ⟨1, 15, [.cell 2 true 5], c44⟩

/- loop.example/g00127/laws.eqLeader -/
def c45 : AC := .seq (.ops [dO 2 (.box (.t 0)),
  dO 3 (.box (.t 1)),
  dO 4 (.mov (.k (kB false)))]) (.seq (.seq (.ops [dO 5 (.faddr (.t 2) 0),
  dO 6 (.load false 1 (.t 5)),
  dO 7 (.faddr (.t 3) 0),
  dO 8 (.load false 1 (.t 7)),
  dO 9 (.bin .neq (.t 6) (.t 8))]) (.cond (.t 9) (.seq (.ops [dO 4 (.mov (.k (kB false)))]) (.ret)) (.skip))) (.seq (.seq (.ops [dO 10 (.faddr (.t 2) 1),
  dO 11 (.load false 1 (.t 10)),
  dO 12 (.faddr (.t 3) 1),
  dO 13 (.load false 1 (.t 12)),
  dO 14 (.bin .neq (.t 11) (.t 13))]) (.cond (.t 14) (.seq (.ops [dO 4 (.mov (.k (kB false)))]) (.ret)) (.skip))) (.seq (.seq (.ops [dO 15 (.faddr (.t 2) 2),
  dO 16 (.load true 3 (.t 15)),
  dO 17 (.faddr (.t 3) 2),
  dO 18 (.load true 3 (.t 17)),
  dO 19 (.call 60 [(.t 16), (.t 18)]),
  dO 20 (.un .not (.t 19))]) (.cond (.t 20) (.seq (.ops [dO 4 (.mov (.k (kB false)))]) (.ret)) (.skip))) (.seq (.ops [dO 4 (.mov (.k (kB true)))]) (.ret)))))
def fn45 : AFn := ⟨2, 21, [.tmp 4], c45⟩

/- loop.example/g00127/laws.eqEntry -/
def c51 : AC := .seq (.ops [dO 2 (.box (.t 0)),
  dO 3 (.box (.t 1)),
  dO 4 (.mov (.k (kB false)))]) (.seq (.seq (.ops [dO 5 (.faddr (.t 2) 0),
  dO 6 (.load false 1 (.t 5)),
  dO 7 (.faddr (.t 3) 0),
  dO 8 (.load false 1 (.t 7)),
  dO 9 (.bin .neq (.t 6) (.t 8))]) (.cond (.t 9) (.seq (.ops [dO 4 (.mov (.k (kB false)))]) (.ret)) (.skip))) (.seq (.seq (.ops [dO 10 (.faddr (.t 2) 1),
  dO 11 (.load false 1 (.t 10)),
  dO 12 (.faddr (.t 3) 1),
  dO 13 (.load false 1 (.t 12)),
  dO 14 (.bin .neq (.t 11) (.t 13))]) (.cond (.t 14) (.seq (.ops [dO 4 (.mov (.k (kB false)))]) (.ret)) (.skip))) (.seq (.seq (.ops [dO 15 (.faddr (.t 2) 2),
  dO 16 (.load false 1 (.t 15)),
  dO 17 (.faddr (.t 3) 2),
  dO 18 (.load false 1 (.t 17)),
  dO 19 (.bin .neq (.t 16) (.t 18))]) (.cond (.t 19) (.seq (.ops [dO 4 (.mov (.k (kB false)))]) (.ret)) (.skip))) (.seq (.ops [dO 4 (.mov (.k (kB true)))]) (.ret)))))
def fn51 : AFn := ⟨2, 20, [.tmp 4], c51⟩

/- loop.example/g00127/laws.szEntry -/
def c56 : AC := .seq (.ops [dO 2 (.box (.t 0)),
  dO 4 (.mov (.k (kI 0)))]) (.seq (.ops [dO 5 (.mov (.t 1)),
  dO 6 (.faddr (.t 2) 2),
  dO 7 (.load false 1 (.t 6)),
  dO 8 (.len true (.t 7)),
  dO 9 (.bin .sub (.t 5) (.t 8)),
  dO 1 (.mov (.t 9))]) (.seq (.seq (.ops [dO 10 (.mov (.t 1)),
  dO 11 (.bin .lss (.t 10) (.k (kI 0)))]) (.cond (.t 11) (.seq (.ops [dO 4 (.mov (.k (kI (-1))))]) (.ret)) (.skip))) (.seq (.ops [dO 12 (.mov (.t 1)),
  dO 4 (.mov (.t 12))]) (.ret))))
def fn56 : AFn := ⟨2, 13, [.tmp 4], c56⟩

/- loop.example/g00127/laws.toEntry -/
def c57 : AC := .seq (.ops [dO 1 (.box (.t 0)),
  dO 2 (.alloc (.agg [(kI 0), (kI 0), kE]))]) (.seq (.ops [dO 3 (.alloc (.agg [(kI 0), (kI 0), kE]))]) (.seq (.ops [dO 4 (.faddr (.t 1) 0),
  dO 5 (.load false 1 (.t 4)),
  dO 6 (.faddr (.t 3) 0),
  nO (.store 1 (.t 6) (.t 5))]) (.seq (.ops [dO 7 (.faddr (.t 1) 1),
  dO 8 (.load false 1 (.t 7)),
  dO 9 (.faddr (.t 3) 1),
  nO (.store 1 (.t 9) (.t 8))]) (.seq (.ops [dO 10 (.faddr (.t 1) 2),
  dO 11 (.load false 1 (.t 10)),
  dO 12 (.faddr (.t 3) 2),
  nO (.store 1 (.t 12) (.t 11))]) (.seq (.ops [dO 13 (.load true 3 (.t 3)),
  nO (.store 3 (.t 2) (.t 13))]) (.ret))))))
def fn57 : AFn := ⟨1, 14, [.cell 2 true 3], c57⟩

/- loop.example/g00127/laws.szLog -/
def c58 : AC := .seq (.ops [dO 2 (.box (.t 0)),
  dO 4 (.mov (.k (kI 0)))]) (.seq (.ops [dO 5 (.faddr (.t 2) 2),
  dO 6 (.load false 1 (.t 5)),
  dO 7 (.mov (.t 1)),
  dO 8 (.call 64 [(.t 6), (.t 7)]),
  dO 1 (.mov (.t 8))]) (.seq (.seq (.ops [dO 9 (.mov (.t 1)),
  dO 10 (.bin .lss (.t 9) (.k (kI 0)))]) (.cond (.t 10) (.seq (.ops [dO 4 (.mov (.k (kI (-1))))]) (.ret)) (.skip))) (.seq (.ops [dO 11 (.mov (.t 1)),
  dO 4 (.mov (.t 11))]) (.ret))))
def fn58 : AFn := ⟨2, 12, [.tmp 4], c58⟩

/- loop.example/g00127/laws.toLog -/
def c59 : AC := .seq (.ops [dO 1 (.box (.t 0)),
  dO 2 (.alloc (.agg [(kI 0), (kI 0), .nils]))]) (.seq (.ops [dO 3 (.alloc (.agg [(kI 0), (kI 0), .nils]))]) (.seq (.ops [dO 4 (.faddr (.t 1) 0),
  dO 5 (.load false 1 (.t 4)),
  dO 6 (.faddr (.t 3) 0),
  nO (.store 1 (.t 6) (.t 5))]) (.seq (.ops [dO 7 (.faddr (.t 1) 1),
  dO 8 (.load false 1 (.t 7)),
  dO 9 (.faddr (.t 3) 1),
  nO (.store 1 (.t 9) (.t 8))]) (.seq (.ops [dO 10 (.faddr (.t 1) 2),
  dO 11 (.load false 1 (.t 10)),
  dO 12 (.call 65 [(.t 11)]),
  dO 13 (.faddr (.t 3) 2),
  nO (.store 1 (.t 13) (.t 12))]) (.seq (.ops [dO 14 (.load true 3 (.t 3)),
  nO (.store 3 (.t 2) (.t 14))]) (.ret))))))
def fn59 : AFn := ⟨1, 15, [.cell 2 true 3], c59⟩

/- loop.example/g00127/laws.eqLog -/
def c60 : AC := .seq (.ops [dO 2 (.box (.t 0)),
  dO 3 (.box (.t 1)),
  dO 4 (.mov (.k (kB false)))]) (.seq (.seq (.ops [dO 5 (.faddr (.t 2) 0),
  dO 6 (.load false 1 (.t 5)),
  dO 7 (.faddr (.t 3) 0),
  dO 8 (.load false 1 (.t 7)),
  dO 9 (.bin .neq (.t 6) (.t 8))]) (.cond (.t 9) (.seq (.ops [dO 4 (.mov (.k (kB false)))]) (.ret)) (.skip))) (.seq (.seq (.ops [dO 10 (.faddr (.t 2) 1),
  dO 11 (.load false 1 (.t 10)),
  dO 12 (.faddr (.t 3) 1),
  dO 13 (.load false 1 (.t 12)),
  dO 14 (.bin .neq (.t 11) (.t 13))]) (.cond (.t 14) (.seq (.ops [dO 4 (.mov (.k (kB false)))]) (.ret)) (.skip))) (.seq (.seq (.ops [dO 15 (.faddr (.t 2) 2),
  dO 16 (.load false 1 (.t 15)),
  dO 17 (.faddr (.t 3) 2),
  dO 18 (.load false 1 (.t 17)),
  dO 19 (.call 32 [(.t 16), (.t 18)]),
  dO 20 (.un .not (.t 19))]) (.cond (.t 20) (.seq (.ops [dO 4 (.mov (.k (kB false)))]) (.ret)) (.skip))) (.seq (.ops [dO 4 (.mov (.k (kB true)))]) (.ret)))))
def fn60 : AFn := ⟨2, 21, [.tmp 4], c60⟩

/- loop.example/g00127/laws.szEntryS -/
def c64_l0 : AC := .seq (.seq (.ops [dO 12 (.mov (.t 5)),
  dO 13 (.mov (.t 0)),
  dO 14 (.len false (.t 13)),
  dO 15 (.bin .lss (.t 12) (.t 14))]) (.cond (.t 15) (.skip) (.exit 0))) (.seq (.block 1 (.seq (.ops [dO 18 (.mov (.t 0)),
  dO 19 (.mov (.t 5)),
  dO 20 (.iaddr 3 (.t 18) (.t 19)),
  dO 21 (.load true 3 (.t 20)),
  dO 22 (.mov (.t 1)),
  dO 23 (.call 56 [(.t 21), (.t 22)]),
  dO 1 (.mov (.t 23))]) (.seq (.ops [dO 24 (.mov (.t 1)),
  dO 25 (.bin .lss (.t 24) (.k (kI 0)))]) (.cond (.t 25) (.seq (.ops [dO 4 (.mov (.k (kI (-1))))]) (.ret)) (.skip))))) (.ops [dO 16 (.mov (.t 5)),
  dO 17 (.bin .add (.t 16) (.k (kI 1))),
  dO 5 (.mov (.t 17))]))
def c64 : AC := .seq (.ops [dO 4 (.mov (.k (kI 0)))]) (.seq (.ops [dO 6 (.mov (.t 1)),
  dO 7 (.mov (.t 0)),
  dO 8 (.len false (.t 7)),
  dO 9 (.bin .sub (.t 6) (.t 8)),
  dO 1 (.mov (.t 9))]) (.seq (.seq (.ops [dO 10 (.mov (.t 1)),
  dO 11 (.bin .lss (.t 10) (.k (kI 0)))]) (.cond (.t 11) (.seq (.ops [dO 4 (.mov (.k (kI (-1))))]) (.ret)) (.skip))) (.seq (.seq (.ops [dO 5 (.mov (.k (kI 0)))]) (.block 0 (.loop c64_l0))) (.seq (.ops [dO 26 (.mov (.t 1)),
  dO 4 (.mov (.t 26))]) (.ret)))))
def fn64 : AFn := ⟨2, 27, [.tmp 4], c64⟩

/- loop.example/g00127/laws.toEntryS -/
def c65_l0 : AC := .seq (.seq (.ops [dO 8 (.mov (.t 4)),
  dO 9 (.mov (.t 0)),
  dO 10 (.len false (.t 9)),
  dO 11 (.bin .lss (.t 8) (.t 10))]) (.cond (.t 11) (.skip) (.exit 0))) (.seq (.block 1 (.ops [dO 14 (.mov (.t 3)),
  dO 15 (.mov (.t 4)),
  dO 16 (.mov (.t 0)),
  dO 17 (.mov (.t 4)),
  dO 18 (.iaddr 3 (.t 16) (.t 17)),
  dO 19 (.load true 3 (.t 18)),
  dO 20 (.call 57 [(.t 19)]),
  dO 21 (.iaddr 3 (.t 14) (.t 15)),
  nO (.store 3 (.t 21) (.t 20))])) (.ops [dO 12 (.mov (.t 4)),
  dO 13 (.bin .add (.t 12) (.k (kI 1))),
  dO 4 (.mov (.t 13))]))
def c65 : AC := .seq (.ops [dO 2 (.mov (.k .nils))]) (.seq (.ops [dO 5 (.mov (.t 0)),
  dO 6 (.len false (.t 5)),
  dO 7 (.mksl 3 (.agg [(kI 0), (kI 0), kE]) (.t 6)),
  dO 3 (.mov (.t 7))]) (.seq (.seq (.ops [dO 4 (.mov (.k (kI 0)))]) (.block 0 (.loop c65_l0))) (.seq (.ops [dO 22 (.mov (.t 3)),
  dO 2 (.mov (.t 22))]) (.ret))))
def fn65 : AFn := ⟨1, 23, [.tmp 2], c65⟩

theorem of5 : fnOf Try.prog Try.f5 = some fn5 := by kernel_rfl
theorem of20 : fnOf Try.prog Try.f20 = some fn20 := by kernel_rfl
theorem of21 : fnOf Try.prog Try.f21 = some fn21 := by kernel_rfl
theorem of22 : fnOf Try.prog Try.f22 = some fn22 := by kernel_rfl
theorem of23 : fnOf Try.prog Try.f23 = some fn23 := by kernel_rfl
theorem of24 : fnOf Try.prog Try.f24 = some fn24 := by kernel_rfl
theorem of32 : fnOf Try.prog Try.f32 = some fn32 := by kernel_rfl
theorem of43 : fnOf Try.prog Try.f43 = some fn43 := by kernel_rfl
theorem of44 : fnOf Try.prog Try.f44 = some fn44 := by kernel_rfl
theorem of45 : fnOf Try.prog Try.f45 = some fn45 := by kernel_rfl
theorem of51 : fnOf Try.prog Try.f51 = some fn51 := by kernel_rfl
theorem of56 : fnOf Try.prog Try.f56 = some fn56 := by kernel_rfl
theorem of57 : fnOf Try.prog Try.f57 = some fn57 := by kernel_rfl
theorem of58 : fnOf Try.prog Try.f58 = some fn58 := by kernel_rfl
theorem of59 : fnOf Try.prog Try.f59 = some fn59 := by kernel_rfl
theorem of60 : fnOf Try.prog Try.f60 = some fn60 := by kernel_rfl
theorem of64 : fnOf Try.prog Try.f64 = some fn64 := by kernel_rfl
theorem of65 : fnOf Try.prog Try.f65 = some fn65 := by kernel_rfl
def tabL : List (Nat × AFn) := [(5, fn5), (20, fn20), (21, fn21), (22, fn22), (23, fn23), (24, fn24), (32, fn32), (43, fn43), (44, fn44), (45, fn45), (51, fn51), (56, fn56), (57, fn57), (58, fn58), (59, fn59), (60, fn60), (64, fn64), (65, fn65)]
def T : Tab := ⟨fun f => tabL.lookup f, fun _ => .fz, fun _ => none⟩
theorem tn (f : Nat) : T.nat f = none := rfl
theorem tm (f : Nat) : T.mode f = .fz := rfl
abbrev tI (n : Int) : TV := .s (.int .i64 n)
abbrev tS (s : ByteArray) : TV := .s (.string s)
abbrev tB (b : Bool) : TV := .s (.bool b)
structure Entry where
  f0 : Int
  f1 : Int
  f2 : ByteArray
def Entry.enc (x : Entry) : TV := .agg [tI x.f0, tI x.f1, tS x.f2]
abbrev Entry.ty : Ty := .st [.int .i64, .int .i64, .str]
theorem toEntry (x : Entry) (hb : tvB x.enc ≤ 1048576) : callC T (arun T) 57 [x.enc] = some [x.enc] := by
  have t : T.fn 57 = some fn57 := rfl
  simp [callC, tn, callB, arun_seq, arun_op, arun_ops0, arun_ret, arun_cond, arun_skip, operF, wantedA, operV, ev, updO, upd_at, bindArgs, AV.cells, TV.cells, stor, genAt, H0, hupd, loadV, storeV, putCells, reEl, AV.isAgg, resV, frzs, frz, binV, intV, strV, cmpV, unV, lenV, AV.isStr, gInt, gBool, t, fn57, c57, Entry.enc]
theorem eqEntry (x : Entry) (hb : tvB x.enc ≤ 1048576) : callC T (arun T) 51 [x.enc, x.enc] = some [.s (.bool true)] := by
  have t : T.fn 51 = some fn51 := rfl
  simp [callC, tn, callB, arun_seq, arun_op, arun_ops0, arun_ret, arun_cond, arun_skip, operF, wantedA, operV, ev, updO, upd_at, bindArgs, AV.cells, TV.cells, stor, genAt, H0, hupd, loadV, storeV, putCells, reEl, AV.isAgg, resV, frzs, frz, binV, intV, strV, cmpV, unV, lenV, AV.isStr, gInt, gBool, t, fn51, c51, Entry.enc]
theorem szEntry (x : Entry) (hb : tvB x.enc ≤ 1048576) (n : Int) : ∃ r : Int, callC T (arun T) 56 [x.enc, tI n] = some [tI r] := by
  have t : T.fn 56 = some fn56 := rfl
  by_cases n1 : (IntKind.i64.wrap (n - x.f2.size)) < 0
  · exact ⟨-1, by simp [callC, tn, callB, arun_seq, arun_op, arun_ops0, arun_ret, arun_cond, arun_skip, operF, wantedA, operV, ev, updO, upd_at, bindArgs, AV.cells, TV.cells, stor, genAt, H0, hupd, loadV, storeV, putCells, reEl, AV.isAgg, resV, frzs, frz, binV, intV, strV, cmpV, unV, lenV, AV.isStr, gInt, gBool, t, fn56, c56, Entry.enc, n1]⟩
  exact ⟨(IntKind.i64.wrap (n - x.f2.size)), by simp [callC, tn, callB, arun_seq, arun_op, arun_ops0, arun_ret, arun_cond, arun_skip, operF, wantedA, operV, ev, updO, upd_at, bindArgs, AV.cells, TV.cells, stor, genAt, H0, hupd, loadV, storeV, putCells, reEl, AV.isAgg, resV, frzs, frz, binV, intV, strV, cmpV, unV, lenV, AV.isStr, gInt, gBool, t, fn56, c56, Entry.enc, n1]⟩
-- EntryS: element Entry, size 3
theorem elEntry (x : Entry) : ElOK true 3 x.enc := ⟨fun H => by simp [loadV, Entry.enc], by simp [Entry.enc, AV.cells, TV.cells]⟩
theorem toEntryS (l : List Entry) (hb : tvB (.sl 3 (l.map Entry.enc)) ≤ 1048576) : callC T (arun T) 65 [.sl 3 (l.map Entry.enc)] = some [.sl 3 (l.map Entry.enc)] :=
  toSC_ok (z := 3) (ag := true) (g := 57) (zero := (.agg [(kI 0), (kI 0), kE])) rfl rfl rfl (fun x hx => by have hm := mem_bulk hx; obtain ⟨a, _, rfl⟩ := List.mem_map.1 hx; exact toEntry a (by simp only [tvB] at hb; omega)) (fun x hx => by obtain ⟨a, _, rfl⟩ := List.mem_map.1 hx; exact ⟨elEntry a, rfl⟩) rfl rfl (by have := len_bulk (l.map Entry.enc); simp only [tvB] at hb; omega) (by have := len_bulk (l.map Entry.enc); simp only [tvB] at hb; omega)
theorem eqEntryS (l : List Entry) (hb : tvB (.sl 3 (l.map Entry.enc)) ≤ 1048576) : callC T (arun T) 32 [.sl 3 (l.map Entry.enc), .sl 3 (l.map Entry.enc)] = some [.s (.bool true)] :=
  eqSC_ok (z := 3) (ag := true) (g := 51) rfl rfl rfl (fun x hx => by have hm := mem_bulk hx; obtain ⟨a, _, rfl⟩ := List.mem_map.1 hx; exact eqEntry a (by simp only [tvB] at hb; omega)) (fun x hx => by obtain ⟨a, _, rfl⟩ := List.mem_map.1 hx; exact elEntry a) (by have := len_bulk (l.map Entry.enc); simp only [tvB] at hb; omega)
theorem szEntryS (l : List Entry) (hb : tvB (.sl 3 (l.map Entry.enc)) ≤ 1048576) (n : Int) : ∃ r : Int, callC T (arun T) 64 [.sl 3 (l.map Entry.enc), tI n] = some [tI r] :=
  szSC_ok (z := 3) (ag := true) (g := 56) rfl rfl rfl (fun x hx n => by have hm := mem_bulk hx; obtain ⟨a, _, rfl⟩ := List.mem_map.1 hx; exact szEntry a (by simp only [tvB] at hb; omega) n) (fun x hx => by obtain ⟨a, _, rfl⟩ := List.mem_map.1 hx; exact elEntry a) (by have := len_bulk (l.map Entry.enc); simp only [tvB] at hb; omega) n
structure Log where
  f0 : Int
  f1 : Int
  f2 : List Entry
def Log.enc (x : Log) : TV := .agg [tI x.f0, tI x.f1, .sl 3 (x.f2.map Entry.enc)]
abbrev Log.ty : Ty := .st [.int .i64, .int .i64, .sl 3 (.st [.int .i64, .int .i64, .str])]
theorem toLog (x : Log) (hb : tvB x.enc ≤ 1048576) : callC T (arun T) 59 [x.enc] = some [x.enc] := by
  have c2 : ∀ (d : Nat) (H : Heap) (nx : Nat), callOp T (arun T) d 65 [.c (.sl 3 (x.f2.map Entry.enc))] H nx = some (.c (.sl 3 (x.f2.map Entry.enc)), H, nx) := fun d H nx =>
    callOp_of (ts := [.sl 3 (x.f2.map Entry.enc)]) (us := [.sl 3 (x.f2.map Entry.enc)]) (tm _) (by simp [frzs, frz]) (by simp [idsOfs, idsOf]) (toEntryS _ (by simp only [Log.enc, tvB, cellsB] at hb ⊢; omega))
  have t : T.fn 59 = some fn59 := rfl
  simp [callC, tn, callB, arun_seq, arun_op, arun_ops0, arun_ret, arun_cond, arun_skip, operF, wantedA, operV, ev, updO, upd_at, bindArgs, AV.cells, TV.cells, stor, genAt, H0, hupd, loadV, storeV, putCells, reEl, AV.isAgg, resV, frzs, frz, binV, intV, strV, cmpV, unV, lenV, AV.isStr, gInt, gBool, t, fn59, c59, Log.enc, c2]
theorem eqLog (x : Log) (hb : tvB x.enc ≤ 1048576) : callC T (arun T) 60 [x.enc, x.enc] = some [.s (.bool true)] := by
  have c2 : ∀ (d : Nat) (H : Heap) (nx : Nat), callOp T (arun T) d 32 [.c (.sl 3 (x.f2.map Entry.enc)), .c (.sl 3 (x.f2.map Entry.enc))] H nx = some (kB true, H, nx) := fun d H nx =>
    callOp_of (ts := [.sl 3 (x.f2.map Entry.enc), .sl 3 (x.f2.map Entry.enc)]) (us := [.s (.bool true)]) (tm _) (by simp [frzs, frz]) (by simp [idsOfs, idsOf]) (eqEntryS _ (by simp only [Log.enc, tvB, cellsB] at hb ⊢; omega))
  have t : T.fn 60 = some fn60 := rfl
  simp [callC, tn, callB, arun_seq, arun_op, arun_ops0, arun_ret, arun_cond, arun_skip, operF, wantedA, operV, ev, updO, upd_at, bindArgs, AV.cells, TV.cells, stor, genAt, H0, hupd, loadV, storeV, putCells, reEl, AV.isAgg, resV, frzs, frz, binV, intV, strV, cmpV, unV, lenV, AV.isStr, gInt, gBool, t, fn60, c60, Log.enc, c2]
theorem szLog (x : Log) (hb : tvB x.enc ≤ 1048576) (n : Int) : ∃ r : Int, callC T (arun T) 58 [x.enc, tI n] = some [tI r] := by
  have t : T.fn 58 = some fn58 := rfl
  obtain ⟨r1, h1⟩ := szEntryS x.f2 (by simp only [Log.enc, tvB, cellsB] at hb ⊢; omega) n
  have s1 : ∀ (d : Nat) (H : Heap) (nx : Nat), callOp T (arun T) d 64 [.c (.sl 3 (x.f2.map Entry.enc)), kI n] H nx = some (kI r1, H, nx) := fun d H nx =>
    callOp_of (ts := [.sl 3 (x.f2.map Entry.enc), tI n]) (us := [tI r1]) (tm _) (by simp [frzs, frz]) (by simp [idsOfs, idsOf]) h1
  by_cases n1 : r1 < 0
  · exact ⟨-1, by simp [callC, tn, callB, arun_seq, arun_op, arun_ops0, arun_ret, arun_cond, arun_skip, operF, wantedA, operV, ev, updO, upd_at, bindArgs, AV.cells, TV.cells, stor, genAt, H0, hupd, loadV, storeV, putCells, reEl, AV.isAgg, resV, frzs, frz, binV, intV, strV, cmpV, unV, lenV, AV.isStr, gInt, gBool, t, fn58, c58, Log.enc, s1, n1]⟩
  exact ⟨r1, by simp [callC, tn, callB, arun_seq, arun_op, arun_ops0, arun_ret, arun_cond, arun_skip, operF, wantedA, operV, ev, updO, upd_at, bindArgs, AV.cells, TV.cells, stor, genAt, H0, hupd, loadV, storeV, putCells, reEl, AV.isAgg, resV, frzs, frz, binV, intV, strV, cmpV, unV, lenV, AV.isStr, gInt, gBool, t, fn58, c58, Log.enc, s1, n1]⟩
structure Leader where
  f0 : Int
  f1 : Int
  f2 : Log
def Leader.enc (x : Leader) : TV := .agg [tI x.f0, tI x.f1, tI x.f2.f0, tI x.f2.f1, .sl 3 (x.f2.f2.map Entry.enc)]
abbrev Leader.ty : Ty := .st [.int .i64, .int .i64, .st [.int .i64, .int .i64, .sl 3 (.st [.int .i64, .int .i64, .str])]]
theorem toLeader (x : Leader) (hb : tvB x.enc ≤ 1048576) : callC T (arun T) 44 [x.enc] = some [x.enc] := by
  have c2 : ∀ (d : Nat) (H : Heap) (nx : Nat), callOp T (arun T) d 59 [.agg [.c (tI x.f2.f0), .c (tI x.f2.f1), .c (.sl 3 (x.f2.f2.map Entry.enc))]] H nx = some (.c (Log.enc x.f2), H, nx) := fun d H nx =>
    callOp_of (ts := [Log.enc x.f2]) (us := [Log.enc x.f2]) (tm _) (by simp [frzs, frz, Log.enc]) (by simp [idsOfs, idsOf]) (toLog _ (by simp only [Leader.enc, Log.enc, tvB, cellsB] at hb ⊢; omega))
  have t : T.fn 44 = some fn44 := rfl
  simp [callC, tn, callB, arun_seq, arun_op, arun_ops0, arun_ret, arun_cond, arun_skip, operF, wantedA, operV, ev, updO, upd_at, bindArgs, AV.cells, TV.cells, stor, genAt, H0, hupd, loadV, storeV, putCells, reEl, AV.isAgg, resV, frzs, frz, binV, intV, strV, cmpV, unV, lenV, AV.isStr, gInt, gBool, t, fn44, c44, Leader.enc, c2, Log.enc]
theorem eqLeader (x : Leader) (hb : tvB x.enc ≤ 1048576) : callC T (arun T) 45 [x.enc, x.enc] = some [.s (.bool true)] := by
  have c2 : ∀ (d : Nat) (H : Heap) (nx : Nat), callOp T (arun T) d 60 [.agg [.c (tI x.f2.f0), .c (tI x.f2.f1), .c (.sl 3 (x.f2.f2.map Entry.enc))], .agg [.c (tI x.f2.f0), .c (tI x.f2.f1), .c (.sl 3 (x.f2.f2.map Entry.enc))]] H nx = some (kB true, H, nx) := fun d H nx =>
    callOp_of (ts := [Log.enc x.f2, Log.enc x.f2]) (us := [.s (.bool true)]) (tm _) (by simp [frzs, frz, Log.enc]) (by simp [idsOfs, idsOf]) (eqLog _ (by simp only [Leader.enc, Log.enc, tvB, cellsB] at hb ⊢; omega))
  have t : T.fn 45 = some fn45 := rfl
  simp [callC, tn, callB, arun_seq, arun_op, arun_ops0, arun_ret, arun_cond, arun_skip, operF, wantedA, operV, ev, updO, upd_at, bindArgs, AV.cells, TV.cells, stor, genAt, H0, hupd, loadV, storeV, putCells, reEl, AV.isAgg, resV, frzs, frz, binV, intV, strV, cmpV, unV, lenV, AV.isStr, gInt, gBool, t, fn45, c45, Leader.enc, c2]
theorem szLeader (x : Leader) (hb : tvB x.enc ≤ 1048576) (n : Int) : ∃ r : Int, callC T (arun T) 43 [x.enc, tI n] = some [tI r] := by
  have t : T.fn 43 = some fn43 := rfl
  obtain ⟨r1, h1⟩ := szLog x.f2 (by simp only [Leader.enc, Log.enc, tvB, cellsB] at hb ⊢; omega) n
  have s1 : ∀ (d : Nat) (H : Heap) (nx : Nat), callOp T (arun T) d 58 [.agg [.c (tI x.f2.f0), .c (tI x.f2.f1), .c (.sl 3 (x.f2.f2.map Entry.enc))], kI n] H nx = some (kI r1, H, nx) := fun d H nx =>
    callOp_of (ts := [Log.enc x.f2, tI n]) (us := [tI r1]) (tm _) (by simp [frzs, frz, Log.enc]) (by simp [idsOfs, idsOf]) h1
  by_cases n1 : r1 < 0
  · exact ⟨-1, by simp [callC, tn, callB, arun_seq, arun_op, arun_ops0, arun_ret, arun_cond, arun_skip, operF, wantedA, operV, ev, updO, upd_at, bindArgs, AV.cells, TV.cells, stor, genAt, H0, hupd, loadV, storeV, putCells, reEl, AV.isAgg, resV, frzs, frz, binV, intV, strV, cmpV, unV, lenV, AV.isStr, gInt, gBool, t, fn43, c43, Leader.enc, s1, n1]⟩
  exact ⟨r1, by simp [callC, tn, callB, arun_seq, arun_op, arun_ops0, arun_ret, arun_cond, arun_skip, operF, wantedA, operV, ev, updO, upd_at, bindArgs, AV.cells, TV.cells, stor, genAt, H0, hupd, loadV, storeV, putCells, reEl, AV.isAgg, resV, frzs, frz, binV, intV, strV, cmpV, unV, lenV, AV.isStr, gInt, gBool, t, fn43, c43, Leader.enc, s1, n1]⟩
-- LeaderS: element Leader, size 5
theorem elLeader (x : Leader) : ElOK true 5 x.enc := ⟨fun H => by simp [loadV, Leader.enc], by simp [Leader.enc, AV.cells, TV.cells]⟩
theorem toLeaderS (l : List Leader) (hb : tvB (.sl 5 (l.map Leader.enc)) ≤ 1048576) : callC T (arun T) 22 [.sl 5 (l.map Leader.enc)] = some [.sl 5 (l.map Leader.enc)] :=
  toSC_ok (z := 5) (ag := true) (g := 44) (zero := (.agg [(kI 0), (kI 0), (kI 0), (kI 0), .nils])) rfl rfl rfl (fun x hx => by have hm := mem_bulk hx; obtain ⟨a, _, rfl⟩ := List.mem_map.1 hx; exact toLeader a (by simp only [tvB] at hb; omega)) (fun x hx => by obtain ⟨a, _, rfl⟩ := List.mem_map.1 hx; exact ⟨elLeader a, rfl⟩) rfl rfl (by have := len_bulk (l.map Leader.enc); simp only [tvB] at hb; omega) (by have := len_bulk (l.map Leader.enc); simp only [tvB] at hb; omega)
theorem eqLeaderS (l : List Leader) (hb : tvB (.sl 5 (l.map Leader.enc)) ≤ 1048576) : callC T (arun T) 24 [.sl 5 (l.map Leader.enc), .sl 5 (l.map Leader.enc)] = some [.s (.bool true)] :=
  eqSC_ok (z := 5) (ag := true) (g := 45) rfl rfl rfl (fun x hx => by have hm := mem_bulk hx; obtain ⟨a, _, rfl⟩ := List.mem_map.1 hx; exact eqLeader a (by simp only [tvB] at hb; omega)) (fun x hx => by obtain ⟨a, _, rfl⟩ := List.mem_map.1 hx; exact elLeader a) (by have := len_bulk (l.map Leader.enc); simp only [tvB] at hb; omega)
theorem szLeaderS (l : List Leader) (hb : tvB (.sl 5 (l.map Leader.enc)) ≤ 1048576) (n : Int) : ∃ r : Int, callC T (arun T) 20 [.sl 5 (l.map Leader.enc), tI n] = some [tI r] :=
  szSC_ok (z := 5) (ag := true) (g := 43) rfl rfl rfl (fun x hx n => by have hm := mem_bulk hx; obtain ⟨a, _, rfl⟩ := List.mem_map.1 hx; exact szLeader a (by simp only [tvB] at hb; omega) n) (fun x hx => by obtain ⟨a, _, rfl⟩ := List.mem_map.1 hx; exact elLeader a) (by have := len_bulk (l.map Leader.enc); simp only [tvB] at hb; omega) n
end Go.Proofs.Ytgncfkcabphccaa.Ol
