/- One operation of Go's code against one of the small machine: strings and bytes; literals. -/
import Derived.Test.YtgncfkcabphccaaA17
namespace Go.Am
set_option linter.unusedSimpArgs false
set_option linter.unusedVariables false
variable {P : Program}

section
variable {o : Oper} {ops : Array Oper} {nt : Nat} {a : Act} {w : World} {φ : Id → Option Addr} {H : Heap} {nx : Nat} {E : AEnv} {T : Tab} {R : Run} {d : Nat}

theorem row_freeze (w : World) (cells : Array Value) (e : TypeId) : World.freeze (World.row w cells e 0 0) ⟨w.heap.size, cells.size, none⟩ 1 = World.row w cells e cells.size (cells.size + 1) := by
  simp only [World.freeze, World.row]
  rw [if_neg (by omega)]
  congr 1
  apply Array.ext_getElem?
  intro i
  rw [Array.getElem?_modify]
  by_cases hi : w.heap.size = i
  · subst hi
    simp
  · rw [if_neg hi, Array.getElem?_push, Array.getElem?_push, if_neg (Ne.symm hi), if_neg (Ne.symm hi)]

theorem run_markStringish (w : World) (cells : Array Value) (e : TypeId) : (markStringish ⟨w.heap.size, 0, none⟩).run P (World.row w cells e 0 0) = .ok () (World.row w cells e cells.size (cells.size + 1)) := by
  have hsh : (World.row w cells e 0 0).shape? w.heap.size = some (e, cells.size) := by
    simp only [World.shape?, row_new]
  simp only [markStringish, Sem.run_bind, run_shape, Result.andThen_ok, hsh, run_freeze]
  rw [← row_freeze]

theorem run_newRow (w : World) (cells : Array Value) (e : TypeId) : (newRow e cells).run P w = .ok ⟨w.heap.size, 0, none⟩ (World.row w cells e 0 0) := rfl

theorem does_s2b {s t e : TypeId} {x : Operand} {x' : Opd} {b : ByteArray} (ho : o.op = .convert s t x) (hs1 : P.underlying s = some .string) (ht : P.underlying t = some (.slice e)) (he : P.underlying e = some (.int .u8)) (hx : opdOf x = some x')
    (hs : SR nt w φ ⟨E, H, nx⟩ a) (hd : ∀ d, o.dst = some d → d < nt) (hu : ev E x' = .c (.s (.string b))) {id : Id} {nx' : Nat} (hre : id.real := by trivial) :
    Does P o nt a w φ H o.dst E (.ref id (genAt H id) b.size 0 b.size) (hupd H id ⟨genAt H id, 1, true, bytesVs b⟩) nx' := by
  have h1 := opd_rel hs.env hx
  rw [hu] at h1
  obtain ⟨e1, _⟩ := scalar_rel h1
  have hge : b.size ≤ grownCap w b.size 0 e := grownCap_ge w b.size 0 e
  have hds : b.data.size = b.size := rfl
  let cells : Array Value := b.data.map (fun c : UInt8 => Value.int .u8 c.toNat) ++ Array.replicate (grownCap w b.size 0 e - b.size) (Value.int .u8 0)
  refine does_new (x := .slice (some ⟨w.heap.size, 0, none⟩) b.size (grownCap w b.size 0 e)) (cells := cells) (e := e)
    (lo := cells.size) (hi := cells.size + 1) (dr := w.drawn + 1) ?_ hs hd (genAt_newer rfl) hre (.inr (Nat.le_refl _)) (by simp) ?_ ?_
  · simp only [execOp, ho, e1]
    simp only [convert, Sem.run_bind, run_underlying hs1, run_underlying ht, run_underlying he, Result.andThen_ok, Conv.stringToBytes]
    have hch : (choose (.appendCap b.size 0 e)).run P w = .ok (grownCap w b.size 0 e) w.drew := rfl
    simp only [hch, Result.andThen_ok, run_newRow]
    have := run_markStringish (P := P) w.drew cells e
    rw [show w.drew.heap.size = w.heap.size from rfl] at this ⊢
    simp only [cells] at this ⊢
    rw [this]
    rfl
  · intro k xx hk
    have hv := bytes_vtup (ctx w φ H) b
    have hf : fits 1 (bytesVs b) = true := by
      unfold fits; rw [List.all_eq_true]
      intro q hq
      obtain ⟨c, _, rfl⟩ := List.mem_map.1 hq
      rfl
    obtain ⟨g0, v, g1, g2, g3⟩ := elem_laid hv hf hk
    refine ⟨g0, v, g1, g2, fun j u hj => ⟨(g3 j u hj).1, ?_⟩⟩
    have hl := (g3 j u hj).2
    rw [laid_flat _ (by intro v hv; obtain ⟨c, _, rfl⟩ := List.mem_map.1 hv; rfl)] at hl
    have hlt := (List.getElem?_eq_some_iff.1 hl).1
    rw [Array.getElem?_append, if_pos (by simpa using hlt)]
    simpa using hl
  · refine ⟨_, _, rfl, hge, _, hupd_same _ _ _, .inr ⟨rfl, by simp [bytesVs], by omega, .inr ⟨⟨w.heap.size, 0, none⟩, by simp [ctx, φupd], by simp [Addr.add], by omega, ?_⟩⟩⟩
    have hcs : cells.size = grownCap w b.size 0 e := by simp only [cells, Array.size_append, Array.size_map, Array.size_replicate]; omega
    simp only [ctx, bsize, row_new]
    omega

theorem bytes_go {X : Ctx} : ∀ (es : List AV) (l : List UInt8) (vs : List Value), bytesOf.go es = some l → VTup X es vs → ∃ ns : List Int, vs = ns.map (Value.int .u8) ∧ l = ns.map fun n => UInt8.ofNat n.toNat := by
  intro es
  induction es with
  | nil => intro l vs h hv; simp [bytesOf.go] at h; subst h; cases vs with | nil => exact ⟨[], rfl, rfl⟩ | cons => exact hv.elim
  | cons x r ih =>
    intro l vs h hv
    cases vs with
    | nil => exact hv.elim
    | cons v vs =>
      unfold bytesOf.go at h
      split at h
      · rename_i e; cases e
      · rename_i n r' e
        cases e
        split at h
        · rename_i b hb
          obtain rfl := Option.some.inj h
          obtain ⟨ns, h1, h2⟩ := ih _ _ hb hv.2
          obtain ⟨e1, _⟩ := hv.1
          exact ⟨n :: ns, by rw [e1, h1]; rfl, by rw [h2]; rfl⟩
        · cases h
      · cases h

theorem does_b2s {s t e : TypeId} {x : Operand} {x' : Opd} {es : List AV} {b : ByteArray} (ho : o.op = .convert s t x) (hs1 : P.underlying s = some (.slice e)) (ht : P.underlying t = some .string) (he : P.underlying e = some (.int .u8)) (hx : opdOf x = some x')
    (hs : SR nt w φ ⟨E, H, nx⟩ a) (hd : ∀ d, o.dst = some d → d < nt) (hes : elems H (ev E x') = some es) (hb : bytesOf es = some b) : Does P o nt a w φ H o.dst E (gStr b) H nx := by
  have h1 : VRel (ctx w φ H) (ev E x') (a.eval x) := opd_rel hs.env hx
  unfold bytesOf at hb
  obtain ⟨l, hl, rfl⟩ := Option.map_eq_some_iff.1 hb
  have hf : fits 1 es = true := by
    clear hes h1
    unfold fits
    rw [List.all_eq_true]
    induction es generalizing l with
    | nil => simp
    | cons y r ih =>
      unfold bytesOf.go at hl
      split at hl
      · rename_i e; cases e
      · rename_i n r' e'
        cases e'
        split at hl
        · rename_i b' hb'
          intro q hq
          rcases List.mem_cons.1 hq with rfl | hq
          · rfl
          · exact ih _ hb' (by simp [hb']) q hq
        · cases hl
      · cases hl
  have hsrc := elems_src (P := P) hs.sim h1 hes hf
  obtain ⟨vs, k1, k2, k3⟩ := hsrc.vals
  obtain ⟨ns, e1, e2⟩ := bytes_go es l vs hl k1
  have hfc : (Builtin.firstCells 1 es.length (a.eval x)).run P w = .ok (laid (vs.take es.length)).toArray w := k3 es.length w.drawn (Nat.le_refl _)
  rw [List.take_of_length_le (by rw [k1.length]; exact Nat.le_refl _)] at hfc
  have hone : ∀ v ∈ vs, oneCell v = true := by
    intro v hv; rw [e1] at hv; obtain ⟨n, _, rfl⟩ := List.mem_map.1 hv; rfl
  rw [laid_flat vs hone, e1] at hfc
  have hlen := hsrc.len
  refine does_pure (v := gStr ⟨l.toArray⟩) (x := .string ⟨l.toArray⟩) ?_ hs ⟨rfl, rfl⟩ hd
  have hval : ∃ bs len cap, a.eval x = .slice bs len cap ∧ len = es.length := by
    generalize a.eval x = u at *
    cases hx' : ev E x' with
    | nils => rw [hx'] at h1 hes; simp [elems] at hes; subst hes; exact ⟨none, 0, 0, h1, rfl⟩
    | c t =>
      cases t with
      | sl sz xs => rw [hx'] at h1 hes; simp [elems] at hes; subst hes; obtain ⟨a', len, cap, r1, r2, _⟩ := h1; exact ⟨a', len, cap, r1, by simpa using r2⟩
      | _ => rw [hx'] at hes; simp [elems] at hes
    | ref id g n off len =>
      rw [hx'] at h1 hes
      obtain ⟨a', cap, r1, _⟩ := h1
      simp only [elems, elemsOf] at hes
      split at hes
      · split at hes
        · rename_i hc
          obtain rfl := Option.some.inj hes
          exact ⟨a', len, cap, r1, by simp; omega⟩
        · cases hes
      · cases hes
    | _ => rw [hx'] at hes; simp [elems] at hes
  obtain ⟨bs, len, cap, ev1, rfl⟩ := hval
  rw [ev1] at hfc
  simp only [execOp, ho, ev1]
  simp only [convert, Sem.run_bind, run_underlying hs1, run_underlying ht, run_underlying he, Result.andThen_ok]
  cases bs with
  | none =>
    have hns : ns = [] := by
      have h2 := hfc
      simp only [Builtin.firstCells, Sem.run_pure] at h2
      have : (#[] : Array Value) = (ns.map (Value.int .u8)).toArray := by injection h2
      have := congrArg Array.size this
      simp at this
      exact List.length_eq_zero_iff.1 this.symm
    subst hns
    subst e2
    rfl
  | some ad =>
    simp only [Builtin.firstCells, Nat.mul_one] at hfc
    rw [run_bytesToString w ad es.length cap ns hfc, foldl_push_bytes]
    subst e2
    simp only [Result.andThen_ok, Sem.run_pure]
    congr 3
    simp [ByteArray.empty, ByteArray.emptyWithCapacity]
    rfl

/-! ### literals -/
theorem fold_put (l : List Value) (off : Nat) : ∀ (k : Nat) (z0 : List Value), off + k + l.length ≤ z0.length →
    (l.zipIdx k).foldl (fun (cs : Array Value) (x : Value × Nat) => cs.setIfInBounds (off + x.2) x.1) z0.toArray = (z0.take (off + k) ++ l ++ z0.drop (off + k + l.length)).toArray := by
  induction l with
  | nil => intro k z0 _; simp
  | cons y l ih2 =>
    intro k z0 hlen
    simp only [List.length_cons] at hlen
    simp only [List.zipIdx_cons, List.foldl_cons]
    rw [show (z0.toArray.setIfInBounds (off + k) y) = (z0.set (off + k) y).toArray from by simp]
    rw [ih2 (k + 1) (z0.set (off + k) y) (by simp; omega)]
    congr 1
    apply List.ext_getElem?
    intro j
    rw [show off + (k + 1) = off + k + 1 from by omega]
    rw [getElem?_put _ _ _ (by simp; omega)]
    rw [getElem?_put z0 (y :: l) (off + k) (by simp; omega) j]
    simp only [List.length_cons]
    rw [show off + k + 1 + l.length = off + k + (l.length + 1) from by omega]
    by_cases hj : j = off + k
    · subst hj
      rw [if_neg (by omega), if_pos (by omega), Nat.sub_self, List.getElem?_set_self (by omega)]
      rfl
    · by_cases hj2 : off + k + 1 ≤ j ∧ j < off + k + (l.length + 1)
      · rw [if_pos hj2, if_pos (by omega)]
        rw [show j - (off + k) = (j - (off + k + 1)) + 1 from by omega]
        simp
      · rw [if_neg hj2, if_neg (by omega)]
        rw [List.getElem?_set_ne (Ne.symm hj)]

theorem fill_one {place : Nat → Option (Nat × Nat)} {i off n : Nat} {u : Value} {zs : List Value} {rest : List (Nat × Value)} (h1 : place i = some (off, n)) (hn : u.cells.size = n) (hle : off + n ≤ zs.length) :
    Instr.fill place zs.toArray ((i, u) :: rest) = Instr.fill place (zs.take off ++ u.cells.toList ++ zs.drop (off + u.cells.toList.length)).toArray rest := by
  simp only [Instr.fill, h1]
  have hcond : (decide (u.cells.size ≠ n) || decide (off + u.cells.size > zs.toArray.size)) = false := by
    simp; omega
  rw [if_neg (by rw [hcond]; simp)]
  have := fold_put u.cells.toList off 0 zs (by simp; omega)
  rw [← Array.foldl_toList, Array.toList_zipIdx]
  simp only [Nat.add_zero] at this
  rw [this]

theorem fill_put {place : Nat → Option (Nat × Nat)} {X : Ctx} : ∀ (parts : List (Nat × Value)) (ps : List (Nat × Nat × AV)) (zc : List AV) (zs : List Value) (cs : List AV),
    VRels X zc zs → parts.length = ps.length → (∀ (k : Nat) (q : Nat × Value) (p : Nat × Nat × AV), parts[k]? = some q → ps[k]? = some p → place q.1 = some (p.1, p.2.1) ∧ VRel X p.2.2 q.2) → fillCells zc ps = some cs →
    ∃ rs : List Value, Instr.fill place zs.toArray parts = some rs.toArray ∧ VRels X cs rs := by
  intro parts
  induction parts with
  | nil =>
    intro ps zc zs cs hz hl _ hf
    cases ps with
    | nil => simp [fillCells] at hf; subst hf; exact ⟨zs, rfl, hz⟩
    | cons => simp at hl
  | cons q parts ih =>
    intro ps zc zs cs hz hl hp hf
    cases ps with
    | nil => simp at hl
    | cons p ps =>
      obtain ⟨off, n, v⟩ := p
      obtain ⟨i, u⟩ := q
      obtain ⟨h1, h2⟩ := hp 0 (i, u) (off, n, v) rfl rfl
      simp only [fillCells] at hf
      split at hf
      · rename_i hns
        obtain ⟨hn, h3⟩ := hns
        split at hf
        · rename_i cs' hput
          unfold putCells at hput
          split at hput
          · rename_i hle
            obtain rfl := Option.some.inj hput
            obtain ⟨f1, _⟩ := fit_cells h2 h3
            obtain ⟨n1, n2⟩ := stor_ne h3
            have hcl := VRel.cells h2 n1 n2
            have hzl := hz.length
            have f1' : u.cells.size = v.cells.length := f1
            have hul : u.cells.toList.length = v.cells.length := by simp; omega
            have hz2 : VRels X (zc.take off ++ v.cells ++ zc.drop (off + v.cells.length)) (zs.take off ++ u.cells.toList ++ zs.drop (off + u.cells.toList.length)) := by
              rw [hul]
              exact ((hz.take off).append hcl).append (hz.drop _)
            obtain ⟨rs, r1, r2⟩ := ih ps _ _ cs hz2 (by simpa using hl) (fun k q p hq hp' => hp (k + 1) q p (by simpa using hq) (by simpa using hp')) hf
            refine ⟨rs, ?_, r2⟩
            rw [fill_one h1 (by rw [f1']; exact hn) (by rw [← hn, ← hzl]; exact hle)]
            exact r1
          · cases hput
        · cases hf
      · cases hf

/-- Values one behind the other, from the k-th place on. -/
def partsFrom : Nat → List Value → List (Nat × Value)
  | _, [] => []
  | k, v :: r => (k, v) :: partsFrom (k + 1) r

theorem fill_row {sz : Nat} : ∀ (vals : List Value) (k : Nat) (zs : List Value), (∀ v ∈ vals, v.cells.size = sz) → zs.length = (k + vals.length) * sz →
    Instr.fill (fun i => some (i * sz, sz)) zs.toArray (partsFrom k vals) = some (zs.take (k * sz) ++ laid vals).toArray := by
  intro vals
  induction vals with
  | nil =>
    intro k zs _ hl
    simp only [partsFrom, Instr.fill, laid, List.flatMap_nil, List.append_nil]
    rw [List.take_of_length_le (by simp at hl; omega)]
  | cons v r ih =>
    intro k zs hv hl
    have hsz := hv v (by simp)
    have e1 : (k + (v :: r).length) * sz = k * sz + sz + r.length * sz := by simp [Nat.add_mul]; omega
    simp only [partsFrom]
    rw [fill_one rfl hsz (by omega)]
    rw [ih (k + 1) _ (fun u hu => hv u (by simp [hu])) (by
      simp only [List.length_append, List.length_take, List.length_drop, Array.length_toList, hsz]
      rw [show (k + 1 + r.length) * sz = k * sz + sz + r.length * sz from by simp [Nat.add_mul]; ]
      omega)]
    congr 2
    have hlen : (zs.take (k * sz) ++ v.cells.toList).length = (k + 1) * sz := by
      simp only [List.length_append, List.length_take, Array.length_toList, hsz, Nat.add_mul]; omega
    rw [← hlen, List.take_left]
    simp [laid]

theorem valOf_stor {v : Value} {z : AV} (h : valOf v = some z) : stor z = true := by
  have hc : ∀ {v : Value} {z : AV}, cellOf v = some z → stor z = true := by
    intro v z h
    unfold cellOf at h
    split at h
    · obtain rfl := Option.some.inj h; rfl
    · split at h
      · obtain rfl := Option.some.inj h; rfl
      · cases h
  unfold valOf at h
  split at h
  · split at h
    · obtain rfl := Option.some.inj h; rfl
    · cases h
  · exact hc h

theorem parts_rel {X : Ctx} {E : AEnv} {a : Act} (e : EnvRel X E a.tmps) : ∀ (xs : List (Nat × Operand)) (ys : List (Nat × Opd)), mapMO (fun p : Nat × Operand => match opdOf p.2 with | some y => some (p.1, y) | none => none) xs = some ys →
    ys.length = xs.length ∧ ∀ (k : Nat) (x : Nat × Operand) (y : Nat × Opd), xs[k]? = some x → ys[k]? = some y → x.1 = y.1 ∧ VRel X (ev E y.2) (a.eval x.2) := by
  intro xs
  induction xs with
  | nil => intro l h; simp [mapMO] at h; subst h; exact ⟨rfl, fun k x y hx => by simp at hx⟩
  | cons v r ih =>
    intro l h
    simp only [mapMO] at h
    split at h
    · rename_i y hy
      split at hy
      · rename_i z hz
        obtain rfl := Option.some.inj hy
        split at h
        · rename_i ys hys
          obtain rfl := Option.some.inj h
          obtain ⟨h1, h2⟩ := ih _ hys
          refine ⟨by simp [h1], ?_⟩
          intro k x y hx hy
          cases k with
          | zero => simp at hx hy; subst hx; subst hy; exact ⟨rfl, opd_rel e hz⟩
          | succ k => exact h2 k x y (by simpa using hx) (by simpa using hy)
        · cases h
      · cases hy
    · cases h

theorem mapMO_get {α β : Type} {f : α → Option β} : ∀ {xs : List α} {ys : List β}, mapMO f xs = some ys → ys.length = xs.length ∧ ∀ (k : Nat) (x : α), xs[k]? = some x → ∃ y, f x = some y ∧ ys[k]? = some y := by
  intro xs
  induction xs with
  | nil => intro ys h; simp [mapMO] at h; subst h; exact ⟨rfl, fun k x hx => by simp at hx⟩
  | cons v r ih =>
    intro ys h
    simp only [mapMO] at h
    split at h
    · rename_i y hy
      split at h
      · rename_i q hq
        obtain rfl := Option.some.inj h
        obtain ⟨h1, h2⟩ := ih hq
        refine ⟨by simp [h1], ?_⟩
        intro k x hx
        cases k with
        | zero => simp at hx; subst hx; exact ⟨y, hy, rfl⟩
        | succ k => obtain ⟨z, g1, g2⟩ := h2 k x (by simpa using hx); exact ⟨z, g1, by simpa using g2⟩
      · cases h
    · cases h

theorem does_build {t : TypeId} {parts : Array (Nat × Operand)} {z : AV} {fs : Array Field} {ps : List (Nat × Opd)} {l : List (Nat × Nat × Opd)} {cs : List AV} (ho : o.op = .build t parts) (hz : zeroT P t = some z) (ht : P.underlying t = some (.struct fs))
    (hps : mapMO (fun p : Nat × Operand => match opdOf p.2 with | some y => some (p.1, y) | none => none) parts.toList = some ps) (hall : (fs.toList.all fun f => (sizeT P f.type).isSome) = true)
    (hl : mapMO (fun p : Nat × Opd => match fs[p.1]? with
        | some f => match sizeT P f.type with | some s => some (f.offset, s, p.2) | none => none
        | none => none) ps = some l)
    (hs : SR nt w φ ⟨E, H, nx⟩ a) (hd : ∀ d, o.dst = some d → d < nt) (hf : fillCells z.cells (l.map fun p => (p.1, p.2.1, ev E p.2.2)) = some cs) : Does P o nt a w φ H o.dst E (.agg cs) H nx := by
  obtain ⟨i, v, hi, hzv, hvo, hlen⟩ := zeroT_info hz
  have hst := valOf_stor hvo
  obtain ⟨n1, n2⟩ := stor_ne hst
  have hzc := VRel.cells (valOf_rel (ctx w φ H) hvo) n1 n2
  obtain ⟨hpl, hprel⟩ := parts_rel hs.env _ _ hps
  obtain ⟨hll, hlget⟩ := mapMO_get hl
  -- the places
  have hplaces : ∃ places : List (Nat × Nat), fs.toList.mapM (fun f => (P.info? f.type).map fun i => (f.offset, i.size)) = some places ∧ ∀ (k : Nat) (f : Field), fs.toList[k]? = some f → ∀ s, sizeT P f.type = some s → places[k]? = some (f.offset, s) := by
    rw [List.all_eq_true] at hall
    generalize fs.toList = fl at hall
    induction fl with
    | nil => exact ⟨[], rfl, fun k f h => by simp at h⟩
    | cons f r ih =>
      obtain ⟨places, p1, p2⟩ := ih (fun g hg => hall g (by simp [hg]))
      have := hall f (by simp)
      obtain ⟨s, hs⟩ := Option.isSome_iff_exists.1 this
      obtain ⟨j, hj, hjs, _⟩ := sizeT_info hs
      refine ⟨(f.offset, s) :: places, by simp [List.mapM_cons, hj, hjs, p1], ?_⟩
      intro k g hg q hq
      cases k with
      | zero => simp at hg; subst hg; rw [hs] at hq; obtain rfl := Option.some.inj hq; rfl
      | succ k => exact p2 k g (by simpa using hg) q hq
  obtain ⟨places, hp1, hp2⟩ := hplaces
  obtain ⟨rs, hr1, hr2⟩ := fill_put (place := (places.toArray[·]?)) (X := ctx w φ H) ((parts.map fun (i, x) => (i, a.eval x)).toList) (l.map fun p => (p.1, p.2.1, ev E p.2.2)) z.cells v.cells.toList cs hzc (by simp [hll, hpl]) (by
    intro k q p hq hp
    simp only [Array.toList_map, List.getElem?_map] at hq hp
    obtain ⟨x, hx, rfl⟩ := Option.map_eq_some_iff.1 hq
    obtain ⟨y, hy, rfl⟩ := Option.map_eq_some_iff.1 hp
    have hklt : k < ps.length := by rw [← hll]; exact (List.getElem?_eq_some_iff.1 hy).1
    have hpk : ps[k]? = some ps[k] := List.getElem?_eq_getElem hklt
    obtain ⟨y', g1, g2⟩ := hlget k _ hpk
    rw [hy] at g2
    obtain rfl := Option.some.inj g2
    obtain ⟨e1, e2⟩ := hprel k x ps[k] hx hpk
    split at g1
    · rename_i f hf'
      split at g1
      · rename_i s hss
        obtain rfl := Option.some.inj g1
        refine ⟨?_, e2⟩
        simp only [List.getElem?_toArray]
        rw [e1]
        exact hp2 _ f (by simpa using hf') s hss
      · cases g1
    · cases g1) hf
  refine does_pure (v := .agg cs) (x := .agg rs.toArray) ?_ hs ⟨rs, rfl, hr2⟩ hd
  have hbuilt : P.built t (parts.map fun (i, x) => (i, a.eval x)).toList = some rs.toArray := by
    simp only [Program.built, hi, ht, hzv, hp1]
    simpa using hr1
  simp only [execOp, ho, Sem.run_bind]
  rw [run_build w t _ rs.toArray hbuilt]
  simp

theorem does_bslice {t e : TypeId} {len sz : Nat} {parts : Array (Nat × Operand)} {ps : List (Nat × Opd)} {l : List Opd} (ho : o.op = .buildSlice t len parts) (he : elemT P t = some e) (hsz : sizeT P e = some sz) (hzz : ∃ z, zeroT P e = some z)
    (hps : mapMO (fun p : Nat × Operand => match opdOf p.2 with | some y => some (p.1, y) | none => none) parts.toList = some ps) (hidx : idxParts 0 ps = some l) (hlen : l.length = len) (hl1 : len ≤ 1000) (hs1 : sz ≤ 1000)
    (hs : SR nt w φ ⟨E, H, nx⟩ a) (hd : ∀ d, o.dst = some d → d < nt) (hf : fits sz (l.map (ev E)) = true) {id : Id} {nx' : Nat} (hre : id.real := by trivial) :
    Does P o nt a w φ H o.dst E (.ref id (genAt H id) l.length 0 l.length) (hupd H id ⟨genAt H id, sz, true, l.map (ev E)⟩) nx' := by
  obtain ⟨z, hz⟩ := hzz
  obtain ⟨i, v, hi, hzv, hvo, hzl⟩ := zeroT_info hz
  obtain ⟨i', hi', hsi, hpos, _⟩ := sizeT_info hsz
  obtain rfl : i = i' := Option.some.inj (hi.symm.trans hi')
  have hst := valOf_stor hvo
  obtain ⟨f1, _⟩ := fit_cells (valOf_rel (ctx w φ H) hvo) hst
  obtain ⟨hpl, hprel⟩ := parts_rel hs.env _ _ hps
  -- the values in their order
  have hvals : ∀ (ps : List (Nat × Opd)) (xs : List (Nat × Operand)) (k : Nat) (l : List Opd), ps.length = xs.length → (∀ (j : Nat) (x : Nat × Operand) (y : Nat × Opd), xs[j]? = some x → ps[j]? = some y → x.1 = y.1 ∧ VRel (ctx w φ H) (ev E y.2) (a.eval x.2)) → idxParts k ps = some l →
      ∃ vals, VTup (ctx w φ H) (l.map (ev E)) vals ∧ xs.map (fun p => (p.1, a.eval p.2)) = partsFrom k vals := by
    intro ps
    induction ps with
    | nil => intro xs k l hl _ h; cases xs with
      | nil => simp [idxParts] at h; subst h; exact ⟨[], trivial, rfl⟩
      | cons => simp at hl
    | cons p ps ih => intro xs k l hl hr h; cases xs with
      | nil => simp at hl
      | cons x xs =>
        obtain ⟨j, y⟩ := p
        simp only [idxParts] at h
        split at h
        · rename_i hjk
          split at h
          · rename_i l' hl'
            obtain rfl := Option.some.inj h
            obtain ⟨vals, g1, g2⟩ := ih xs (k + 1) l' (by simpa using hl) (fun q x y hx hy => hr (q + 1) x y (by simpa using hx) (by simpa using hy)) hl'
            obtain ⟨e1, e2⟩ := hr 0 x (j, y) rfl rfl
            refine ⟨a.eval x.2 :: vals, ⟨e2, g1⟩, ?_⟩
            simp only [List.map_cons, partsFrom, g2, e1, hjk]
          · cases h
        · cases h
  obtain ⟨vals, hv1, hv2⟩ := hvals ps parts.toList 0 l hpl hprel hidx
  have hvl : vals.length = len := by rw [← hv1.length]; simpa using hlen
  have hsizes := fits_vals hv1 hf
  let zs : List Value := ((Array.range (len * sz)).map ((if len * sz = 0 then #[] else v.cells)[· % (if len * sz = 0 then #[] else v.cells).size]!)).toList
  have hzsl : zs.length = (0 + vals.length) * sz := by simp [zs, hvl]
  have hfill := fill_row (sz := sz) vals 0 zs hsizes hzsl
  simp only [Nat.zero_mul, List.take_zero, List.nil_append] at hfill
  refine does_new (x := .slice (some ⟨w.heap.size, 0, none⟩) len len) (cells := (laid vals).toArray) (e := e) (lo := 0) (hi := 0) (dr := w.drawn) ?_ hs hd (genAt_newer rfl) hre (.inl (Nat.le_refl _)) hpos ?_ ?_
  · have hparts : (parts.map fun (i, x) => (i, a.eval x)).toList = partsFrom 0 vals := by rw [← hv2]; simp
    have hbig : ¬ (len * sz > 2 ^ 24) := by
      have : len * sz ≤ 1000 * 1000 := Nat.mul_le_mul hl1 hs1
      omega
    have hzrun : ∀ (K : Array Value → Sem Value), ((if len * sz = 0 then pure #[] else do pure (← zeroValue e).cells : Sem (Array Value)) >>= K).run P w = (K (if len * sz = 0 then #[] else v.cells)).run P w := by
      intro K
      by_cases h0 : len * sz = 0
      · simp [h0]
      · simp [h0, zeroValue, typeInfo, hi, hzv]
    simp only [execOp, ho, Instr.buildSlice, Sem.run_bind, run_underlying (elemT_und he), Result.andThen_ok, run_sizeOf hsz, hbig, if_false]
    by_cases h0 : len * sz = 0
    · have hz0 : zs = [] := by simp [zs, h0]
      rw [hz0] at hfill
      have harr : ∀ f : Nat → Value, Array.map f (Array.range 0) = ([] : List Value).toArray := by intro f; apply Array.ext'; simp
      simp only [h0, if_true, Sem.run_bind, Sem.run_pure, Result.andThen_ok, harr, hparts]
      rw [hfill]
      simp [newRow]
      rfl
    · have hz1 : zs.toArray = (Array.range (len * sz)).map (v.cells[· % v.cells.size]!) := by simp only [zs, h0, if_false, Array.toArray_toList]
      rw [hz1] at hfill
      simp only [h0, if_false, Sem.run_bind, zeroValue, typeInfo, run_program, Result.andThen_ok, hi, hzv, Sem.run_pure, hparts]
      rw [hfill]
      simp [newRow]
      rfl
  · intro k xx hk
    obtain ⟨g0, u, g1, g2, g3⟩ := elem_laid hv1 hf hk
    exact ⟨g0, u, g1, g2, fun j q hj => ⟨(g3 j q hj).1, by simpa using (g3 j q hj).2⟩⟩
  · rw [hlen]
    refine ⟨_, _, rfl, Nat.le_refl _, _, hupd_same _ _ _, .inr ⟨rfl, by simp [hlen], by omega, .inr ⟨⟨w.heap.size, 0, none⟩, by simp [ctx, φupd], by simp [Addr.add], by omega, ?_⟩⟩⟩
    have hbs : bsize (World.row w (laid vals).toArray e 0 0) w.heap.size = len * sz := by
      simp only [bsize, row_new, List.size_toArray, laid_length hsizes, hvl]
    show 0 + (0 + len) * sz ≤ bsize (World.row w (laid vals).toArray e 0 0) w.heap.size
    rw [hbs, Nat.zero_add, Nat.zero_add]
    exact Nat.le_refl _
end
end Go.Am
