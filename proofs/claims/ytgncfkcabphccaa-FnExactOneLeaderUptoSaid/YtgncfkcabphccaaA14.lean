/- One operation of Go's code against one of the small machine: what a slice holds; append. -/
import Derived.Test.YtgncfkcabphccaaA13
import Derived.Laws.AppendOwn
namespace Go.Am
set_option linter.unusedSimpArgs false
set_option linter.unusedVariables false
variable {P : Program}

/-- Elements that lie one behind the other. -/
def Row (w : World) (addr : Addr) (sz : Nat) (vs : List Value) : Prop :=
  ∀ (i : Nat) (v : Value), vs[i]? = some v → v.cells.size = sz ∧ ∀ (j : Nat) (u : Value), v.cells[j]? = some u → oneCell u = true ∧ w.cell? (addr.add (i * sz + j)) = some u

theorem laid_get {sz : Nat} : ∀ {vs : List Value}, (∀ v ∈ vs, v.cells.size = sz) → ∀ {k : Nat} {u : Value}, (laid vs)[k]? = some u → ∃ i j v, k = i * sz + j ∧ vs[i]? = some v ∧ v.cells[j]? = some u
  | [], _, k, u, h => by simp [laid] at h
  | x :: r, hsz, k, u, h => by
    simp only [laid, List.flatMap_cons] at h
    have hx := hsz x (by simp)
    by_cases hk : k < x.cells.toList.length
    · rw [List.getElem?_append_left hk] at h
      exact ⟨0, k, x, by simp, rfl, by simpa using h⟩
    · rw [List.getElem?_append_right (by omega)] at h
      obtain ⟨i, j, v, h1, h2, h3⟩ := laid_get (vs := r) (fun v hv => hsz v (by simp [hv])) (k := k - x.cells.toList.length) (u := u) h
      refine ⟨i + 1, j, v, ?_, by simpa using h2, h3⟩
      simp only [Array.length_toList] at h1 hk
      rw [Nat.add_mul]; omega

theorem Row.load {w : World} {addr : Addr} {sz : Nat} {vs : List Value} (h : Row w addr sz vs) : (loadCells addr (vs.length * sz)).run P w = .ok (laid vs).toArray w := by
  have hsz : ∀ v ∈ vs, v.cells.size = sz := by
    intro v hv
    obtain ⟨i, hi⟩ := List.getElem?_of_mem hv
    exact (h i v hi).1
  refine run_loadCells' (laid_length hsz) ?_
  intro k u hk
  obtain ⟨i, j, v, rfl, h2, h3⟩ := laid_get hsz hk
  exact ((h i v h2).2 j u h3).2

theorem Row.take {w : World} {addr : Addr} {sz : Nat} {vs : List Value} (h : Row w addr sz vs) (m : Nat) : Row w addr sz (vs.take m) := by
  intro i v hi
  rw [List.getElem?_take] at hi
  split at hi
  · exact h i v hi
  · cases hi

theorem Row.drop {w : World} {addr : Addr} {sz : Nat} {vs : List Value} (hs : addr.spot = none) (h : Row w addr sz vs) (m : Nat) : Row w (addr.add (m * sz)) sz (vs.drop m) := by
  intro i v hi
  rw [List.getElem?_drop] at hi
  obtain ⟨h1, h2⟩ := h _ v hi
  refine ⟨h1, fun j u hj => ⟨(h2 j u hj).1, ?_⟩⟩
  rw [add_add hs, ← Nat.add_assoc, ← Nat.add_mul]
  exact (h2 j u hj).2

/-- The values of an object's elements. -/
theorem obj_row {X : Ctx} {w : World} {ob : Obj} {b : Addr} (h : ObjRel X w ob b) : ∃ vs, VTup X ob.es vs ∧ Row w b ob.sz vs ∧ ∀ x ∈ ob.es, stor x = true := by
  have key : ∀ (es : List AV) (i0 : Nat), (∀ (i : Nat) (x : AV), es[i]? = some x → stor x = true ∧ ∃ v, VRel X x v ∧ v.cells.size = ob.sz ∧ (∀ (j : Nat) (u : Value), v.cells[j]? = some u → oneCell u = true ∧ w.cell? (b.add ((i0 + i) * ob.sz + j)) = some u)) →
      ∃ vs, VTup X es vs ∧ (∀ (i : Nat) (v : Value), vs[i]? = some v → v.cells.size = ob.sz ∧ ∀ (j : Nat) (u : Value), v.cells[j]? = some u → oneCell u = true ∧ w.cell? (b.add ((i0 + i) * ob.sz + j)) = some u) ∧ ∀ x ∈ es, stor x = true := by
    intro es
    induction es with
    | nil => intro i0 _; exact ⟨[], trivial, fun i v h => by simp at h, by simp⟩
    | cons x r ih =>
      intro i0 hh
      obtain ⟨h0, v, h1, h2, h3⟩ := hh 0 x rfl
      obtain ⟨vs, g1, g2, g3⟩ := ih (i0 + 1) (fun i y hy => by
        have := hh (i + 1) y (by simpa using hy)
        rw [show i0 + 1 + i = i0 + (i + 1) from by omega]; exact this)
      refine ⟨v :: vs, ⟨h1, g1⟩, ?_, ?_⟩
      · intro i u hu
        cases i with
        | zero => simp at hu; subst hu; exact ⟨h2, h3⟩
        | succ i =>
          have := g2 i u (by simpa using hu)
          rw [show i0 + (i + 1) = i0 + 1 + i from by omega]; exact this
      · intro y hy
        rcases List.mem_cons.1 hy with rfl | hy
        · exact h0
        · exact g3 y hy
  obtain ⟨vs, h1, h2, h3⟩ := key ob.es 0 (fun i x hx => by
    have := h.el i x hx
    simpa using this)
  exact ⟨vs, h1, fun i v hv => by simpa using h2 i v hv, h3⟩

theorem VTup.drop {X : Ctx} : ∀ {l : List AV} {vs : List Value} (n : Nat), VTup X l vs → VTup X (l.drop n) (vs.drop n)
  | [], [], _, _ => by simp [VTup]
  | _ :: _, _ :: _, 0, h => h
  | _ :: _, _ :: _, n + 1, h => by simpa using VTup.drop n h.2
  | [], _ :: _, _, h => h.elim
  | _ :: _, [], _, h => h.elim
theorem VTup.take {X : Ctx} : ∀ {l : List AV} {vs : List Value} (n : Nat), VTup X l vs → VTup X (l.take n) (vs.take n)
  | [], [], _, _ => by simp [VTup]
  | _ :: _, _ :: _, 0, _ => by simp [VTup]
  | _ :: _, _ :: _, n + 1, h => by simpa using ⟨h.1, VTup.take n h.2⟩
  | [], _ :: _, _, h => h.elim
  | _ :: _, [], _, h => h.elim
theorem VTup.append {X : Ctx} : ∀ {l : List AV} {vs : List Value} {l' : List AV} {vs' : List Value}, VTup X l vs → VTup X l' vs' → VTup X (l ++ l') (vs ++ vs')
  | [], [], _, _, _, h => h
  | _ :: _, _ :: _, _, _, h, k => ⟨h.1, VTup.append h.2 k⟩
  | [], _ :: _, _, _, h, _ => h.elim
  | _ :: _, [], _, _, h, _ => h.elim

theorem drew_cell (w : World) (dr : Nat) (a : Addr) : ({ w with drawn := dr } : World).cell? a = w.cell? a := rfl

/-- What a slice or a string gives to 'append' and 'copy'. -/
structure Src (P : Program) (X : Ctx) (w : World) (sz : Nat) (new : List AV) (u : Value) : Prop where
  len : (Builtin.lenOf u) = pure new.length
  vals : ∃ vs, VTup X new vs ∧ (∀ v ∈ vs, v.cells.size = sz) ∧ ∀ m dr, m ≤ new.length → (Builtin.firstCells sz m u).run P { w with drawn := dr } = .ok (laid (vs.take m)).toArray { w with drawn := dr }

theorem src_row {X : Ctx} {w : World} {sz : Nat} {new : List AV} {vs : List Value} {b : Addr} {cap : Nat} (h : VTup X new vs) (hr : Row w b sz vs) : Src P X w sz new (.slice (some b) new.length cap) := by
  refine ⟨rfl, vs, h, ?_, ?_⟩
  · intro v hv
    obtain ⟨i, hi⟩ := List.getElem?_of_mem hv
    exact (hr i v hi).1
  · intro m dr hm
    have hl := h.length
    have hr2 : Row { w with drawn := dr } b sz (vs.take m) := fun i v hi => hr.take m i v hi
    have := hr2.load (P := P)
    rw [List.length_take, Nat.min_eq_left (by omega)] at this
    simp only [Builtin.firstCells]
    exact this

theorem src_empty {X : Ctx} {w : World} {sz : Nat} {a : Option Addr} {cap : Nat} : Src P X w sz [] (.slice a 0 cap) := by
  refine ⟨rfl, [], trivial, by simp, ?_⟩
  intro m dr hm
  have : m = 0 := by simpa using hm
  subst this
  cases a with
  | none => rfl
  | some a => simp [Builtin.firstCells, loadCells, loadCellsFrom, laid]

theorem bytes_vtup (X : Ctx) (s : ByteArray) : VTup X (bytesVs s) (s.data.toList.map fun b => Value.int .u8 b.toNat) := by
  unfold bytesVs
  induction s.data.toList with
  | nil => trivial
  | cons b r ih => exact ⟨⟨rfl, rfl⟩, ih⟩

theorem laid_flat : ∀ (vs : List Value), (∀ v ∈ vs, oneCell v = true) → laid vs = vs
  | [], _ => rfl
  | x :: r, h => by
    have := laid_flat r (fun v hv => h v (by simp [hv]))
    simp only [laid, List.flatMap_cons] at this ⊢
    rw [this, cells_one (h x (by simp))]
    rfl

theorem src_string {X : Ctx} {w : World} (s : ByteArray) : Src P X w 1 (bytesVs s) (.string s) := by
  have hlen : (bytesVs s).length = s.size := by simp [bytesVs]
  refine ⟨by simp [Builtin.lenOf, hlen], _, bytes_vtup X s, ?_, ?_⟩
  · intro v hv
    obtain ⟨b, _, rfl⟩ := List.mem_map.1 hv
    rfl
  · intro m dr hm
    rw [laid_flat _ (by
      intro v hv
      obtain ⟨b, _, rfl⟩ := List.mem_map.1 (List.mem_of_mem_take hv)
      rfl)]
    simp only [Builtin.firstCells, Sem.run_pure]
    congr 1
    apply Array.ext'
    simp [ByteArray.data_extract]

theorem tels_row {w : World} {φ : Id → Option Addr} {H : Heap} {sz : Nat} {addr : Addr} : ∀ (xs : List TV) (i0 : Nat), TElems (imm w φ H) sz addr i0 xs → (∀ x ∈ xs, (AV.c x).cells.length = sz) →
    ∃ vs, VTup (ctx w φ H) (xs.map .c) vs ∧ ∀ (i : Nat) (v : Value), vs[i]? = some v → v.cells.size = sz ∧ ∀ (j : Nat) (u : Value), v.cells[j]? = some u → oneCell u = true ∧ w.cell? (addr.add ((i0 + i) * sz + j)) = some u
  | [], _, _, _ => ⟨[], trivial, fun i v h => by simp at h⟩
  | x :: r, i0, h, hl => by
    obtain ⟨⟨v, h1, h2, h3⟩, h4⟩ := h
    obtain ⟨vs, g1, g2⟩ := tels_row r (i0 + 1) h4 (fun y hy => hl y (by simp [hy]))
    refine ⟨v :: vs, ⟨h1, g1⟩, ?_⟩
    intro i u hu
    cases i with
    | zero =>
      simp at hu; subst hu
      refine ⟨h2, fun j z hz => ⟨?_, (imm_some.1 (h3 j z hz)).2⟩⟩
      exact (fit_cells (X := ctx w φ H) (x := .c x) h1 rfl).2 j z hz
    | succ i =>
      have := g2 i u (by simpa using hu)
      rw [show i0 + (i + 1) = i0 + 1 + i from by omega]; exact this

theorem elems_src {w : World} {φ : Id → Option Addr} {H : Heap} {y : AV} {u : Value} {new : List AV} {sz : Nat} (hs : Sim w φ H) (hr : VRel (ctx w φ H) y u) (he : elems H y = some new) (hf : fits sz new = true) : Src P (ctx w φ H) w sz new u := by
  cases y with
  | nils =>
    simp only [elems] at he
    obtain rfl := Option.some.inj he
    cases hr
    exact src_empty
  | c t =>
    cases t with
    | sl sz' xs =>
      simp only [elems] at he
      obtain rfl := Option.some.inj he
      obtain ⟨a, len, cap, rfl, rfl, hc, hq⟩ := hr
      by_cases hx : xs = []
      · subst hx; exact src_empty
      · rcases hq with hq | ⟨addr, rfl, hsp, hel⟩
        · exact absurd (List.length_eq_zero_iff.1 hq) hx
        · have hszs : ∀ x ∈ xs, (AV.c x).cells.length = sz := fun x hx => (fits_mem hf (x := .c x) (by simp [hx])).2
          have hsz : sz' = sz := by
            cases xs with
            | nil => exact absurd rfl hx
            | cons x r =>
              obtain ⟨⟨v, h1, h2, _⟩, _⟩ := hel
              have := (fit_cells (X := ctx w φ H) (x := .c x) h1 rfl).1
              rw [h2, hszs x (by simp)] at this
              exact this
          subst hsz
          obtain ⟨vs, g1, g2⟩ := tels_row xs 0 hel hszs
          have := src_row (P := P) (X := ctx w φ H) (w := w) (sz := sz') (cap := cap) (b := addr) g1 (fun i v hv => by simpa using g2 i v hv)
          simpa using this
    | _ => simp [elems] at he
  | ref o g n off len =>
    simp only [elems, elemsOf] at he
    obtain ⟨a, cap, rfl, hc, ob, hob, hq⟩ := hr
    have hob' : H o = some ob := hob
    rw [hob'] at he
    simp only at he
    split at he
    · rename_i hcond
      obtain rfl := Option.some.inj he
      rcases hq with hq | ⟨q1, q2, q3, q4⟩
      · unfold Stale at hq; omega
      · obtain ⟨b, hb, hrel⟩ := hs.obj o ob hob'
        have hl : ((ob.es.drop off).take len).length = len := by simp; omega
        by_cases hz : len = 0
        · subst hz
          have hnil : (ob.es.drop off).take 0 = [] := by simp
          rw [hnil]
          exact src_empty
        · rcases q4 with ⟨c0, _⟩ | ⟨b', hb', rfl, hn, hroom⟩
          · omega
          · obtain rfl : b = b' := Option.some.inj (hb.symm.trans hb')
            obtain ⟨vs, g1, g2, g3⟩ := obj_row hrel
            have hsz : ob.sz = sz := by
              have : ∃ x, ((ob.es.drop off).take len)[0]? = some x := ⟨_, List.getElem?_eq_getElem (by omega)⟩
              obtain ⟨x, hx⟩ := this
              have hm := fits_mem hf (List.mem_of_getElem? hx)
              have hx2 : ob.es[off]? = some x := by
                rw [List.getElem?_take] at hx
                split at hx
                · rw [List.getElem?_drop] at hx; simpa using hx
                · cases hx
              obtain ⟨_, v, h1, h2, _⟩ := hrel.el off x hx2
              have := (fit_cells h1 hm.1).1
              omega
            have hrow := (g2.drop hrel.spot off).take len
            rw [hsz] at hrow ⊢
            have := src_row (P := P) (cap := cap) ((g1.drop off).take len) hrow
            rw [hl] at this
            exact this
    · cases he
  | _ => simp [elems] at he
end Go.Am
