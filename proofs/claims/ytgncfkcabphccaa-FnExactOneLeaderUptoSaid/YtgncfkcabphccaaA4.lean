/- Words and rules for running the small machine in proofs. -/
import Derived.Test.YtgncfkcabphccaaA3
namespace Go.Am
set_option linter.unusedSimpArgs false
set_option linter.unusedVariables false

abbrev kI (n : Int) : AV := .c (.s (.int .i64 n))
abbrev kB (b : Bool) : AV := .c (.s (.bool b))
abbrev kE : AV := .c (.s (.string ByteArray.empty))
abbrev kS (l : List Nat) : AV := .c (.s (.string ⟨(l.map UInt8.ofNat).toArray⟩))
abbrev dO (d : Nat) (o : AOp) : AOper := ⟨some d, none, o⟩
abbrev nO (o : AOp) : AOper := ⟨none, none, o⟩
abbrev gO (d g : Nat) (b : Bool) (o : AOp) : AOper := ⟨some d, some (g, b), o⟩
abbrev hO (g : Nat) (b : Bool) (o : AOp) : AOper := ⟨none, some (g, b), o⟩

theorem upd_same (E : AEnv) (t : Nat) (v : AV) : upd E t v t = v := by simp [upd]
theorem upd_ne (E : AEnv) {t s : Nat} (v : AV) (h : s ≠ t) : upd E t v s = E s := by simp [upd, h]
theorem upd_at (E : AEnv) (t s : Nat) (v : AV) : upd E t v s = if s = t then v else E s := rfl
theorem hupd_same (H : Heap) (o : Id) (b : Obj) : hupd H o b o = some b := by simp [hupd]
theorem hupd_ne (H : Heap) {o p : Id} (b : Obj) (h : p ≠ o) : hupd H o b p = H p := by simp [hupd, h]
theorem hupd_at (H : Heap) (o p : Id) (b : Obj) : hupd H o b p = if p = o then some b else H p := rfl

theorem wrap_i64 {n : Int} (h : -9223372036854775808 ≤ n ∧ n ≤ 9223372036854775807) : IntKind.i64.wrap n = n := by
  simp only [IntKind.wrap, IntKind.signed, IntKind.bits]
  simp
  omega
end Go.Am
