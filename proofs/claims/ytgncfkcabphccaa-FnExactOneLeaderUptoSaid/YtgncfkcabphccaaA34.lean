/- How much is held: parts against the whole; shapes of helpers on plain slices. -/
import Derived.Test.YtgncfkcabphccaaA31
import Derived.Test.YtgncfkcabphccaaA33
namespace Go.Am
set_option linter.unusedSimpArgs false
set_option linter.unusedVariables false

theorem one_bulk (x : TV) : 1 ≤ tvB x := by
  cases x with
  | s v => cases v <;> simp [tvB]
  | _ => simp [tvB]
theorem mem_bulk {x : TV} {xs : List TV} (h : x ∈ xs) : tvB x ≤ cellsB xs := by
  induction xs with
  | nil => cases h
  | cons y r ih =>
    simp only [cellsB]
    rcases List.mem_cons.1 h with e | e
    · subst e; omega
    · have := ih e; omega
theorem len_bulk (xs : List TV) : xs.length ≤ cellsB xs := by
  induction xs with
  | nil => simp [cellsB]
  | cons y r ih => have := one_bulk y; simp only [cellsB, List.length_cons]; omega

/-- A list of values, each told by another kind of thing. -/
theorem list_of {α : Type} {enc : α → TV} {ys : List TV} (h : ∀ y ∈ ys, ∃ a, y = enc a) : ∃ xs : List α, ys = xs.map enc := by
  induction ys with
  | nil => exact ⟨[], rfl⟩
  | cons y r ih =>
    obtain ⟨a, rfl⟩ := h y (by simp)
    obtain ⟨xs, rfl⟩ := ih (fun z hz => h z (by simp [hz]))
    exact ⟨a :: xs, rfl⟩

theorem wt_sl {z : Nat} {e : Ty} {x : TV} (h : WT (.sl z e) x) : ∃ ys, x = .sl z ys ∧ ∀ y ∈ ys, WT e y := by
  obtain ⟨h1, h2⟩ := h
  simp only [WTc] at h1
  obtain ⟨ys, h3, h4⟩ := h1
  refine ⟨ys, ?_, h4⟩
  cases x with
  | agg cs => simp [TV.isA, Ty.isSt] at h2
  | s v => simp [TV.cells] at h3
  | sl z zs => simpa [TV.cells] using h3

theorem wt_st {fs : List Ty} {x : TV} (h : WT (.st fs) x) : ∃ cs, x = .agg cs ∧ WTs fs cs := by
  obtain ⟨h1, h2⟩ := h
  cases x with
  | agg cs => exact ⟨cs, rfl, h1⟩
  | _ => simp [TV.isA, Ty.isSt] at h2

theorem lookup_mem {f : Nat} {F : AFn} : ∀ {l : List (Nat × AFn)}, l.lookup f = some F → (f, F) ∈ l
  | [], h => by simp at h
  | (g, G) :: r, h => by
    simp only [List.lookup_cons] at h
    split at h
    · rename_i e
      obtain rfl := Option.some.inj h
      have : f = g := by simpa using e
      subst this; simp
    · exact List.mem_cons_of_mem _ (lookup_mem h)
end Go.Am
