/- One operation of Go's code against one of the small machine: append, copy, clear. -/
import Derived.Test.YtgncfkcabphccaaA14
namespace Go.Am
set_option linter.unusedSimpArgs false
set_option linter.unusedVariables false
variable {P : Program}

theorem zeroCells_size (z : Array Value) (n : Nat) : (Builtin.zeroCells z n).size = n * z.size := by simp [Builtin.zeroCells]

/-- What append is told of its types. -/
structure AppT (P : Program) (t u e : TypeId) (sz : Nat) (i : TypeInfo) (z : Value) : Prop where
  ht : P.underlying t = some (.slice e)
  hu : ∃ d, P.underlying u = some d ∧ ∀ k, d ≠ .int k
  hi : P.info? e = some i
  hz : i.zero = some z
  hsz : i.size = sz
  hzs : z.cells.size = sz
  hby : i.bytes ≤ 32 * sz
  pos : 0 < sz

set_option maxHeartbeats 4000000 in
theorem run_append_room' {t u ty e : TypeId} {sz : Nat} {i : TypeInfo} {z : Value} (h : AppT P t u e sz i z) {X : Ctx} {w : World} {b : Option Addr} {sLen sCap : Nat} {x : Value} {new : List AV} (hs : Src P X w sz new x) (hroom : sLen + new.length ≤ sCap) :
    ∃ vs, VTup X new vs ∧ (∀ v ∈ vs, v.cells.size = sz) ∧ (Builtin.append_ #[t, u] ty #[.slice b sLen sCap, x]).run P w =
      ((match b with | some a => storeCells (a.add (sLen * sz)) (laid vs) | none => pure ()).run P w).andThen fun _ w2 => .ok (.slice b (sLen + new.length) sCap) w2 := by
  obtain ⟨d, hd, hdi⟩ := h.hu
  obtain ⟨vs, g1, g2, g3⟩ := hs.vals
  have hf := g3 new.length w.drawn (Nat.le_refl _)
  rw [List.take_of_length_le (by rw [g1.length]; exact Nat.le_refl _)] at hf
  have hf' : (Builtin.firstCells sz new.length x).run P w = .ok (laid vs).toArray w := hf
  refine ⟨vs, g1, g2, ?_⟩
  simp only [Builtin.append_]
  cases b with
  | none =>
    cases d <;> first
      | exact absurd rfl (hdi _)
      | simp [run_underlying h.ht, run_underlying hd, sizeOf, typeInfo, h.hi, h.hsz, hs.len, hroom, hf']
  | some a =>
    cases d <;> first
      | exact absurd rfl (hdi _)
      | simp [run_underlying h.ht, run_underlying hd, sizeOf, typeInfo, h.hi, h.hsz, hs.len, hroom, hf']

set_option maxHeartbeats 4000000 in
theorem run_append_grow' {t u ty e : TypeId} {sz : Nat} {i : TypeInfo} {z : Value} (h : AppT P t u e sz i z) {X : Ctx} {w : World} {b : Option Addr} {sLen sCap : Nat} {x : Value} {new olds : List AV} (hs : Src P X w sz new x)
    (ho : Src P X w sz olds (.slice b sLen sCap)) (hl : olds.length = sLen) (hroom : ¬ (sLen + new.length ≤ sCap)) (hbig : (sLen + new.length) * sz ≤ 4294967296) :
    ∃ vs dr cap rest, VTup X (olds ++ new) vs ∧ (∀ v ∈ vs, v.cells.size = sz) ∧ sLen + new.length ≤ cap ∧ (laid vs ++ rest).length = cap * sz ∧ (Builtin.append_ #[t, u] ty #[.slice b sLen sCap, x]).run P w =
      .ok (.slice (some ⟨w.heap.size, 0, none⟩) (sLen + new.length) cap) (World.row { w with drawn := dr } (laid vs ++ rest).toArray e 0 0) := by
  obtain ⟨d, hd, hdi⟩ := h.hu
  obtain ⟨vs, g1, g2, g3⟩ := hs.vals
  obtain ⟨us, k1, k2, k3⟩ := ho.vals
  have hf := g3 new.length (w.drawn + 1) (Nat.le_refl _)
  rw [List.take_of_length_le (by rw [g1.length]; exact Nat.le_refl _)] at hf
  have hk := k3 sLen (w.drawn + 1) (by omega)
  rw [List.take_of_length_le (by rw [← k1.length]; omega)] at hk
  have hpos := h.pos
  have hle : sLen + new.length ≤ (sLen + new.length) * sz := Nat.le_mul_of_pos_right _ hpos
  have h63 : ¬ (9223372036854775807 < ((sLen : Int) + (new.length : Int))) := by omega
  have hb1 : (sLen + new.length) * i.bytes ≤ (sLen + new.length) * (32 * sz) := Nat.mul_le_mul_left _ h.hby
  have hb2 : (sLen + new.length) * (32 * sz) = 32 * ((sLen + new.length) * sz) := by rw [Nat.mul_left_comm]
  have h48 := growslice_fits (need := sLen + new.length) (old := sCap) (bytes := i.bytes) (by omega) (by omega)
  have h48' : ¬ (281474976710656 < Builtin.nextslicecap (sLen + new.length) sCap * i.bytes) := by omega
  have hge := grownCap_ge w (sLen + new.length) sCap e
  refine ⟨us ++ vs, w.drawn + 1, grownCap w (sLen + new.length) sCap e, (Builtin.zeroCells z.cells (grownCap w (sLen + new.length) sCap e - (sLen + new.length))).toList, k1.append g1, ?_, hge, ?_, ?_⟩
  · intro v hv
    rcases List.mem_append.1 hv with hv | hv
    · exact k2 v hv
    · exact g2 v hv
  · have e1 : laid (us ++ vs) = laid us ++ laid vs := by simp [laid]
    rw [e1]
    simp only [List.length_append, laid_length k2, laid_length g2, Array.length_toList, zeroCells_size, h.hzs]
    rw [← k1.length, ← g1.length, hl, ← Nat.add_mul, ← Nat.add_mul]
    congr 1; omega
  · have e2 : (laid (us ++ vs) ++ (Builtin.zeroCells z.cells (grownCap w (sLen + new.length) sCap e - (sLen + new.length))).toList).toArray =
        (laid us).toArray ++ (laid vs).toArray ++ Builtin.zeroCells z.cells (grownCap w (sLen + new.length) sCap e - (sLen + new.length)) := by
      apply Array.ext'; simp [laid]
    rw [e2]
    simp only [Builtin.append_]
    have hf2 : (Builtin.firstCells sz new.length x).run P w.drew = .ok (laid vs).toArray w.drew := hf
    have hk2 : (Builtin.firstCells sz sLen (.slice b sLen sCap)).run P w.drew = .ok (laid us).toArray w.drew := hk
    generalize hzc : Builtin.zeroCells z.cells (grownCap w (sLen + new.length) sCap e - (sLen + new.length)) = zc
    simp only [grownCap] at hzc
    cases d <;> first
      | exact absurd rfl (hdi _)
      | (simp [run_underlying h.ht, run_underlying hd, sizeOf, typeInfo, zeroValue, h.hi, h.hz, h.hsz, hs.len, hroom, h63, h48', Question.forced, hf2, hk2, newRow, grownCap, hzc]
         rw [show (laid us ++ laid vs).toArray ++ zc = (laid us).toArray ++ ((laid vs).toArray ++ zc) from by apply Array.ext'; simp]
         rfl)
end Go.Am
