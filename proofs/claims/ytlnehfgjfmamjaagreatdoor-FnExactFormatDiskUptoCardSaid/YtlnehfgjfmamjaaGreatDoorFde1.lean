/- The law of FnExactFormatDisk answers true at all arguments of bulk at most 1048576, and leaves them as they were. No condition beyond those of the given statement. -/
import Derived.Test.YtlnehfgjfmamjaaGreatDoorFdc2
import Derived.Test.YtlnehfgjfmamjaaGreatDoorCards
import Derived.Test.YtlnehfgjfmamjaaGreatDoorTie
import Derived.WalkKit
import Derived.ProofKit
import Derived.OpenShut
import Derived.Deep.DeepHandedRow
import Derived.Lib.LaidTab
namespace Go.Proofs.YtlnehfgjfmamjaaGreatDoor.Fd
open Go Go.Am Go.ChangeShapes Go.WideShapes Go.ChangeAt Go.RowKit
set_option linter.unusedVariables false
set_option linter.unusedSimpArgs false
theorem own : ownKnob Tryz.prog.godebug = none := by kernel_rfl
theorem laidOut : laidOutB Tryz.prog = true := by kernel_rfl
theorem lawRead : (Tryz.f3.params.toList.all fun t => Tryz.prog.readableRec t && decide (t < Tryz.prog.types.size)) = true := by kernel_rfl
abbrev W0 : Input := ⟨#[], #[.slice none 0 0], []⟩
/-- The cells that a listed table holds. -/
def valsOf : DataW Unit → Array Value
  | .agg ps => (ps.map fun | .lit (.int k n) => Value.int k n | _ => Value.int .u8 0).toArray
  | _ => #[]
theorem glob0 : Tryz.prog.globalNamed "math/bits.deBruijn32tab" = some 3 := by kernel_rfl
theorem glob1 : Tryz.prog.globalNamed "math/bits.deBruijn64tab" = some 4 := by kernel_rfl
theorem glob2 : Tryz.prog.globalNamed "internal/strconv.uint64pow10" = some 0 := by kernel_rfl
/-- A world for the witness: the settled one, the listed tables holding what the row lists. -/
noncomputable def laidWorld (os : Os) : World :=
  { World.holding Tryz.prog os ⟨#[], #[], []⟩ with heap := ((((World.holding Tryz.prog os ⟨#[], #[], []⟩).heap.modify 3 fun
      | .cells _ t frozen => .cells (valsOf Rows.laid_math_bits_deBruijn32tab) t frozen
      | o => o).modify 4 fun
      | .cells _ t frozen => .cells (valsOf Rows.laid_math_bits_deBruijn64tab) t frozen
      | o => o).modify 0 fun
      | .cells _ t frozen => .cells (valsOf Rows.laid_internal_strconv_uint64pow10) t frozen
      | o => o) }
theorem laid_met (os : Os) : laidMet Tryz.prog Rows.fnExactFormatDiskUptoRow.laid ((laidWorld os).forCall (fun _ _ => 0) ⟨#[], #[.slice none 0 0], []⟩).memory :=
  laidMet_of_run' 8 (by kernel_rfl) (by kernel_rfl)
theorem reads (os : Os) {H : Type} (enc : TypeId × Value → H) : ∃ places, DataW.whole enc Tryz.prog ((laidWorld os).forCall (fun _ _ => 0) ⟨#[], #[.slice none 0 0], []⟩).memory Tryz.f3.params.toList Rows.fnExactFormatDiskSpec.vars false (#[.slice none 0 0] : Array Value).toList 8 = some ([.nil], [], places) :=
  ⟨[], by kernel_rfl⟩
set_option maxRecDepth 100000 in
theorem lifted (os : Os) (started : os.Started) (H : Type) (enc : TypeId × Value → H) (F : Stop.Interp) :
    ReturnsInHanded {} Tryz.checked os 3 .any ((Rows.OpenSpec.upto Rows.fnExactFormatDiskSpec).preRow enc Tryz.prog Tryz.f3 Rows.fnExactFormatDiskUptoRow.domain false Rows.fnExactFormatDiskUptoRow.laid) (((Rows.OpenSpec.upto Rows.fnExactFormatDiskSpec).at F).post enc Tryz.prog Tryz.f3 false true false false) := by
  obtain ⟨places, hx⟩ := reads os enc
  refine returnsInHanded_of_row (C := Tryz.checked) (s := Rows.OpenSpec.upto Rows.fnExactFormatDiskSpec) own started (by kernel_rfl) Tryz.func3
    (witness_row_at (enc := enc) (C := Tryz.checked) false (laidWorld os) #[.slice none 0 0] rfl (by kernel_rfl) (by kernel_rfl) (by kernel_rfl)
      (OpenSpec.preRow_of_cond 8 hx (by kernel_rfl) (fun k hk => by cases hk; kernel_rfl) (by kernel_rfl) (laid_met os))) ?_
  intro W base args ds gs before hval hW _ hcond _ _ _ _
  have hk := hcond _ rfl
  refine law_rowM tabOK inlOK (fn := Tryz.f3) (s := Rows.fnExactFormatDiskSpec) (tb := 4) (n := 12) (tys := lawTys) (F := (F3 WW)) laidOut (by kernel_rfl) Tryz.underlying4 rfl lawTys_ok lawRead ?_ (by kernel_rfl) en3 law W base args ds gs before hval hW hk
  intro ds hds
  match ds, hds with
  | [d0], _ => rfl

end Go.Proofs.YtlnehfgjfmamjaaGreatDoor.Fd
