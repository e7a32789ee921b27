/- From functions told by the machine on typed data to contracts, and from a law so told to its row. -/
import Derived.Test.YtjnmebjagambkaaG10
import Derived.IntWalk
import Derived.JoinedOf
namespace Go.Am
set_option linter.unusedSimpArgs false
set_option linter.unusedVariables false

/-- How often a loop may go on. -/
def NN : Nat := 1208925819614629174706176
def lookC : List (Nat × CE) → Nat → Option CE
  | [], _ => none
  | (a, v) :: r, t => match Nat.beq a t with | true => some v | false => lookC r t
theorem tb_of {T : Tab} : ∀ {l : List (Nat × CE)}, (∀ p ∈ l, EntOK T p.1 p.2) → TbOK (lookC l) T
  | [], _, f, e, h => by cases h
  | (a, v) :: r, hl, f, e, h => by
    simp only [lookC] at h
    split at h
    · rename_i hb
      cases h
      have := Nat.eq_of_beq_eq_true hb
      subst this
      exact hl _ (List.mem_cons_self ..)
    · exact tb_of (fun p hp => hl p (List.mem_cons_of_mem _ hp)) f e h

def fnL : List (Nat × AFn) → Nat → Option AFn
  | [], _ => none
  | (a, v) :: r, t => match Nat.beq a t with | true => some v | false => fnL r t
def modeL : List (Nat × List Bool) → Nat → CMode
  | [], _ => .fz
  | (a, v) :: r, t => match Nat.beq a t with | true => .sep v | false => modeL r t
def tabOf (l : List (Nat × AFn)) (m : List (Nat × List Bool)) : Tab := ⟨fnL l, modeL m, fun _ => none⟩
theorem modeL_ne : ∀ {m : List (Nat × List Bool)} {f : Nat}, modeL m f ≠ .mu
  | [], f, h => by cases h
  | (a, v) :: r, f, h => by
    simp only [modeL] at h
    split at h
    · cases h
    · exact modeL_ne h
theorem fnL_mem : ∀ {l : List (Nat × AFn)} {f : Nat} {F : AFn}, fnL l f = some F → (f, F) ∈ l
  | [], f, F, h => by cases h
  | (a, v) :: r, f, F, h => by
    simp only [fnL] at h
    split at h
    · rename_i hb
      cases h
      have := Nat.eq_of_beq_eq_true hb
      subst this
      exact List.mem_cons_self ..
    · exact List.mem_cons_of_mem _ (fnL_mem h)

/-- The contract of a function. -/
theorem con_fn {l : List (Nat × AFn)} {m : List (Nat × List Bool)} {ces : List (Nat × CE)} (ht : ∀ p ∈ ces, EntOK (tabOf l m) p.1 p.2) {f : Nat} {fn : AFn} {sg : Sig} {F : sg.F} (hn : Hints) (pm : List Nat) (hfn : fnL l f = some fn) (hnp : fn.np = sg.ps.length) (hsg : sigOK sg = true)
    (hF : ∀ x, F x = evC (lookC ces) 100000 ⟨hn, pm, resT fn.res, NN⟩ (finC sg fn.res) [.code fn.body] (initS sg.ps x)) : ConOK (tabOf l m) f sg F :=
  con_of (fun f => modeL_ne) (tb_sound (tb_of ht) 100000) hfn hnp hsg (cx := ⟨hn, pm, resT fn.res, NN⟩) (fun x ys h => (hF x).symm.trans h)

theorem ent_fz {l : List (Nat × AFn)} {m : List (Nat × List Bool)} {f : Nat} {sg : Sig} {F : sg.F} (hc : ConOK (tabOf l m) f sg F) (hm : modeL m f = .fz) (h1 : allDat sg.ps = true) (h2 : sg.rs.all Kd.flat = true) (h3 : sigOK sg = true) : EntOK (tabOf l m) f (.con true sg F) :=
  ⟨hm, h1, h2, h3, fz_of rfl h2 hc⟩
theorem ent_sep {l : List (Nat × AFn)} {m : List (Nat × List Bool)} {f : Nat} {sg : Sig} {F : sg.F} (hc : ConOK (tabOf l m) f sg F) (hm : modeL m f = .sep (keepK sg.ps)) (h3 : sigOK sg = true) : EntOK (tabOf l m) f (.con false sg F) :=
  ⟨hm, h3, hc⟩
theorem ent_inl {l : List (Nat × AFn)} {m : List (Nat × List Bool)} {f : Nat} {sg : Sig} {fn : AFn} (hn : Hints) (pm : List Nat) (h1 : modeL m f = .fz) (h2 : fnL l f = some fn) (h3 : fn.np = sg.ps.length) (h4 : noRaw sg.ps = false) (h5 : sg.ps.all inlOK = true) (h6 : sg.rs.all Kd.flat = true) (h7 : sg.rs.all kindOK = true) :
    EntOK (tabOf l m) f (.inl sg fn hn pm) := ⟨h1, h2, h3, h4, h5, h6, h7⟩

/-! ### a row's arguments, as data -/
open Go.Proofs.Ytjnmebjagambkaa

mutual
def kdOf : Ty → Kd
  | .int k => .int k
  | .bool => .bool
  | .str => .str
  | .st fs => .st (leafsTys fs)
  | .sl sz e => .sl sz (kdOf e)
def leafsTy : Ty → List Kd
  | .st fs => leafsTys fs
  | .int k => [.int k]
  | .bool => [.bool]
  | .str => [.str]
  | .sl sz e => [.sl sz (kdOf e)]
def leafsTys : List Ty → List Kd
  | [] => []
  | f :: r => leafsTy f ++ leafsTys r
end
mutual
/-- Whole numbers of these kinds. -/
def Kd.inR : (t : Kd) → t.den → Prop
  | .int k, (n : Int) => k.min ≤ n ∧ n ≤ k.max
  | .st fs, x => Kd.inRs fs x
  | .sl _ e, (xs : List e.den) => ∀ x ∈ xs, Kd.inR e x
  | .bool, _ => True
  | .str, _ => True
def Kd.inRs : (l : List Kd) → Kd.dens l → Prop
  | [], _ => True
  | t :: r, x => Kd.inR t x.1 ∧ Kd.inRs r x.2
end
mutual
/-- How much it holds. -/
def Kd.bulk : (t : Kd) → t.den → Nat
  | .int _, _ => 1
  | .bool, _ => 1
  | .str, (s : List UInt8) => s.length + 1
  | .st fs, x => Kd.bulks fs x + 1
  | .sl _ e, (xs : List e.den) => (xs.map (Kd.bulk e)).sum + 1
def Kd.bulks : (l : List Kd) → Kd.dens l → Nat
  | [], _ => 0
  | t :: r, x => Kd.bulk t x.1 + Kd.bulks r x.2
end

theorem reps_app {H : Heap} : ∀ {l m : List Kd} {x : Kd.dens l} {y : Kd.dens m} {a b : List AV}, Reps false H l x a [] → Reps false H m y b [] → Reps false H (l ++ m) (appDens l m x y) (a ++ b) []
  | [], m, x, y, [], b, _, h => h
  | [], _, _, _, _ :: _, _, h, _ => by simp [Reps] at h
  | _ :: _, _, _, _, [], _, h, _ => by simp [Reps] at h
  | t :: r, m, x, y, v :: a, b, ⟨h0, L1, L2, h1, h2, hL⟩, h => by
    have e1 : L1 = [] := by cases L1 with | nil => rfl | cons => cases hL
    subst e1
    have e2 : L2 = [] := by cases L2 with | nil => rfl | cons => cases hL
    subst e2
    exact ⟨h0, [], [], h1, reps_app h2 h, rfl⟩
theorem inRs_app : ∀ {l m : List Kd} {x : Kd.dens l} {y : Kd.dens m}, Kd.inRs l x → Kd.inRs m y → Kd.inRs (l ++ m) (appDens l m x y)
  | [], m, x, y, _, h => h
  | t :: r, m, x, y, h1, h => ⟨h1.1, inRs_app h1.2 h⟩
theorem bulks_app : ∀ {l m : List Kd} {x : Kd.dens l} {y : Kd.dens m}, Kd.bulks (l ++ m) (appDens l m x y) = Kd.bulks l x + Kd.bulks m y
  | [], m, x, y => by simp [appDens, Kd.bulks]
  | t :: r, m, x, y => by
    show Kd.bulk t x.1 + Kd.bulks (r ++ m) (appDens r m x.2 y) = Kd.bulk t x.1 + Kd.bulks r x.2 + Kd.bulks m y
    rw [bulks_app (l := r)]; omega

theorem list_den {e : Kd} : ∀ {xs : List TV}, (∀ x ∈ xs, ∃ y : e.den, (∀ H, Rep false H e y (.c x) []) ∧ e.inR y ∧ e.bulk y ≤ tvB x) →
    ∃ ys : List e.den, (∀ H, RepL (Rep false H e) ys (xs.map .c) []) ∧ (∀ y ∈ ys, e.inR y) ∧ (ys.map e.bulk).sum ≤ cellsB xs
  | [], _ => ⟨[], fun H => rfl, fun y hy => (by cases hy), by simp [cellsB]⟩
  | x :: r, h => by
    obtain ⟨y, h1, h2, h3⟩ := h x (List.mem_cons_self ..)
    obtain ⟨ys, k1, k2, k3⟩ := list_den (xs := r) fun z hz => h z (List.mem_cons_of_mem _ hz)
    refine ⟨y :: ys, fun H => ⟨[], [], h1 H, k1 H, rfl⟩, fun z hz => ?_, ?_⟩
    · rcases List.mem_cons.1 hz with rfl | hz
      · exact h2
      · exact k2 z hz
    · simp only [List.map_cons, List.sum_cons, cellsB]; omega

mutual
theorem wtc_den : ∀ (ty : Ty) (cs : List TV), WTc ty cs → ∃ y : Kd.dens (leafsTy ty), (∀ H, Reps false H (leafsTy ty) y (cs.map .c) []) ∧ Kd.inRs (leafsTy ty) y ∧ Kd.bulks (leafsTy ty) y ≤ cellsB cs
  | .int k, cs, ⟨n, h, h1, h2⟩ => by
    subst h
    exact ⟨(n, ()), fun H => ⟨rfl, [], [], ⟨rfl, rfl⟩, rfl, rfl⟩, ⟨⟨h1, h2⟩, trivial⟩, by simp [leafsTy, Kd.bulks, Kd.bulk, cellsB, tvB]⟩
  | .bool, cs, ⟨b, h⟩ => by
    subst h
    exact ⟨(b, ()), fun H => ⟨rfl, [], [], ⟨rfl, rfl⟩, rfl, rfl⟩, ⟨trivial, trivial⟩, by simp [leafsTy, Kd.bulks, Kd.bulk, cellsB, tvB]⟩
  | .str, cs, ⟨s, h⟩ => by
    subst h
    refine ⟨(s.data.toList, ()), fun H => ⟨rfl, [], [], ⟨?_, rfl⟩, rfl, rfl⟩, ⟨trivial, trivial⟩, ?_⟩
    · show AV.c (.s (.string s)) = .c (.s (.string ⟨List.toArray s.data.toList⟩))
      simp
    · have : s.data.toList.length = s.size := by rw [Array.length_toList]; rfl
      show s.data.toList.length + 1 + 0 ≤ cellsB [.s (.string s)]
      simp only [cellsB, tvB]; omega
  | .sl sz e, cs, ⟨xs, h, hx⟩ => by
    subst h
    obtain ⟨ys, k1, k2, k3⟩ := list_den (e := kdOf e) (xs := xs) fun x hxm => wt_den e x (hx x hxm)
    refine ⟨(ys, ()), fun H => ⟨rfl, [], [], .inr (.inl ⟨rfl, sz, xs, rfl, .inl rfl, k1 H, rfl⟩), rfl, rfl⟩, ⟨k2, trivial⟩, ?_⟩
    show (ys.map (Kd.bulk (kdOf e))).sum + 1 + 0 ≤ cellsB [.sl sz xs]
    simp only [cellsB, tvB]; omega
  | .st fs, cs, h => wts_den fs cs h
theorem wts_den : ∀ (fs : List Ty) (cs : List TV), WTs fs cs → ∃ y : Kd.dens (leafsTys fs), (∀ H, Reps false H (leafsTys fs) y (cs.map .c) []) ∧ Kd.inRs (leafsTys fs) y ∧ Kd.bulks (leafsTys fs) y ≤ cellsB cs
  | [], cs, h => by
    have h : cs = [] := h
    subst h
    exact ⟨(), fun H => rfl, trivial, by simp [leafsTys, Kd.bulks]⟩
  | f :: r, cs, ⟨a, b, h, h1, h2⟩ => by
    subst h
    obtain ⟨y, a1, a2, a3⟩ := wtc_den f a h1
    obtain ⟨z, b1, b2, b3⟩ := wts_den r b h2
    refine ⟨appDens _ _ y z, fun H => ?_, inRs_app a2 b2, ?_⟩
    · rw [List.map_append]; exact reps_app (a1 H) (b1 H)
    · show Kd.bulks (leafsTy f ++ leafsTys r) _ ≤ _
      rw [bulks_app, cellsB_append]; omega
theorem wt_den : ∀ (ty : Ty) (x : TV), WTc ty x.cells ∧ x.isA = ty.isSt → ∃ y : (kdOf ty).den, (∀ H, Rep false H (kdOf ty) y (.c x) []) ∧ (kdOf ty).inR y ∧ (kdOf ty).bulk y ≤ tvB x
  | .st fs, x, ⟨h1, h2⟩ => by
    cases x with
    | agg cs =>
      obtain ⟨y, k1, k2, k3⟩ := wts_den fs cs h1
      exact ⟨y, fun H => ⟨rfl, k1 H⟩, k2, by show Kd.bulks (leafsTys fs) y + 1 ≤ cellsB cs + 1; omega⟩
    | _ => cases h2
  | .int k, x, ⟨h1, h2⟩ => by
    obtain ⟨n, h, a, b⟩ := h1
    cases x with
    | s v => cases h; exact ⟨n, fun H => ⟨rfl, rfl⟩, ⟨a, b⟩, by simp [kdOf, Kd.bulk, tvB]⟩
    | agg cs => cases h2
    | sl z xs => cases h
  | .bool, x, ⟨h1, h2⟩ => by
    obtain ⟨n, h⟩ := h1
    cases x with
    | s v => cases h; exact ⟨n, fun H => ⟨rfl, rfl⟩, trivial, by simp [kdOf, Kd.bulk, tvB]⟩
    | agg cs => cases h2
    | sl z xs => cases h
  | .str, x, ⟨h1, h2⟩ => by
    obtain ⟨s, h⟩ := h1
    cases x with
    | s v =>
      cases h
      refine ⟨s.data.toList, fun H => ⟨?_, rfl⟩, trivial, ?_⟩
      · show AV.c (.s (.string s)) = .c (.s (.string ⟨List.toArray s.data.toList⟩))
        simp
      · have : s.data.toList.length = s.size := by rw [Array.length_toList]; rfl
        show s.data.toList.length + 1 ≤ tvB (.s (.string s))
        simp only [tvB]; omega
    | agg cs => cases h2
    | sl z xs => cases h
  | .sl sz e, x, ⟨h1, h2⟩ => by
    obtain ⟨xs, h, hx⟩ := h1
    cases x with
    | sl z ys =>
      cases h
      obtain ⟨ys, k1, k2, k3⟩ := list_den (e := kdOf e) (xs := xs) fun x hxm => wt_den e x (hx x hxm)
      refine ⟨ys, fun H => .inr (.inl ⟨rfl, sz, xs, rfl, .inl rfl, k1 H, rfl⟩), k2, ?_⟩
      show (ys.map (Kd.bulk (kdOf e))).sum + 1 ≤ tvB (.sl sz xs)
      simp only [tvB]; omega
    | agg cs => cases h2
    | s v => cases h
end

def datL : List Ty → List PKd
  | [] => []
  | t :: r => .dat (kdOf t) :: datL r
theorem args_den : ∀ (tys : List Ty) (xs : List TV), WTl tys xs → ∃ x : Kd.dens (insK (datL tys)), ArgR Go.Am.H0 (datL tys) x (xs.map .c) [] ∧ Kd.inRs (insK (datL tys)) x ∧ Kd.bulks (insK (datL tys)) x ≤ cellsB xs
  | [], [], _ => ⟨(), rfl, trivial, by simp [cellsB, datL, insK, Kd.bulks]⟩
  | t :: r, x :: q, ⟨h1, h2⟩ => by
    obtain ⟨y, a1, a2, a3⟩ := wt_den t x h1
    obtain ⟨z, b1, b2, b3⟩ := args_den r q h2
    refine ⟨(y, z), ⟨⟨x, rfl, fun H => a1 H⟩, b1⟩, ⟨a2, b2⟩, ?_⟩
    show Kd.bulk (kdOf t) y + Kd.bulks (insK (datL r)) z ≤ tvB x + cellsB q
    omega
  | [], _ :: _, h => h.elim
  | _ :: _, [], h => h.elim

section
variable {H : Type} {enc : TypeId × Value → H} {P : Program}
/-- A law that is told true of all data gives its row. -/
theorem law_row {T : Tab} (hT : TabOK P T) {f : FuncId} {fn : Func} {s : ChangeSpec} {tb : TypeId} {n : Nat} {tys : List Ty} {F : Sig.F ⟨datL tys, [.bool]⟩} (hl : laidOutB P = true) (hres : fn.resultTypes = #[tb]) (htb : P.underlying tb = some .bool) (hvars : s.vars = [])
    (htys : mapMO (tyOf P n) fn.params.toList = some tys) (hread : (fn.params.toList.all fun t => P.readableRec t && decide (t < P.types.size)) = true)
    (hspec : ∀ ds : List (DataW H), ds.length = fn.params.toList.length → s.fn H ds = { results := [.lit (.bool true)], args := ds })
    (hent : EntOK T f (.con true ⟨datL tys, [.bool]⟩ F))
    (hlaw : ∀ x, Kd.inRs (insK (datL tys)) x → Kd.bulks (insK (datL tys)) x ≤ 1048576 → ∃ z, F x = some (true, z))
    (W : World) (base : Nat) (args : Array Value) (ds gs : List (DataW H)) (before : List MemPlace)
    (hval : ∀ (j : Nat) t v, fn.params[j]? = some t → args[j]? = some v → Value.okWide P W .any base t v)
    (hW : DataW.Whole enc P fn.params.toList s.vars false W args.toList ds gs before) (hk : Rows.uptoSmall H (ds ++ gs) = true) :
    Calls P f args W fun e W' => ∃ v, e = .returned v ∧ s.post enc P fn false true false false W args v W' := by
  refine row_contract hT hl hres htb hvars htys hread hspec (fun xs hx hb => ?_) W base args ds gs before hval hW hk
  obtain ⟨x, a1, a2, a3⟩ := args_den tys xs hx
  obtain ⟨z, hz⟩ := hlaw x a2 (by omega)
  obtain ⟨_, _, _, _, hf⟩ := hent
  obtain ⟨us, u1, u2, u3⟩ := hf x _ xs hz a1
  have u3 := u3 Go.Am.H0
  cases us with
  | nil => exact u3.elim
  | cons u r =>
    obtain ⟨L1, L2, k1, k2, _⟩ := u3
    cases r with
    | cons => exact k2.elim
    | nil =>
      obtain ⟨k1, _⟩ := k1
      cases k1
      exact u1
end
end Go.Am

/- Plain laws about the words that told functions are made of. -/
namespace Go.Am
set_option linter.unusedSimpArgs false
set_option linter.unusedVariables false

/-! ### words -/
theorem bindK_pure {α ρ : Type} (a : α) (k : α → Option ρ) : bindK (some a) k = k a := by rw [bindK_def]
theorem bindK_none {α ρ : Type} (k : α → Option ρ) : bindK none k = none := by rw [bindK_def]
theorem guardK_true {ρ : Type} (k : Option ρ) : guardK true k = k := by rw [guardK_def]; rfl
theorem guardK_pos {ρ : Type} {c : Bool} (h : c = true) (k : Option ρ) : guardK c k = k := by rw [h, guardK_true]
theorem cond_or (b c : Bool) : (bif b then some true else some c) = some (b || c) := by cases b <;> rfl
theorem cond_or' (b c : Bool) : (bif b then some c else some true) = some (!b || c) := by cases b <;> rfl
theorem cond_and (b c : Bool) : (bif b then some c else some false) = some (b && c) := by cases b <;> rfl
theorem cond_some {α : Type} (b : Bool) (x y : α) : (bif b then some x else some y) = some (bif b then x else y) := by cases b <;> rfl
theorem iAdd64 {a b : Int} (h : -9223372036854775808 ≤ a + b ∧ a + b ≤ 9223372036854775807) : iAdd .i64 a b = a + b := by rw [iAdd_def, Go.IntWalk.i64_in _ h]
theorem iSub64 {a b : Int} (h : -9223372036854775808 ≤ a - b ∧ a - b ≤ 9223372036854775807) : iSub .i64 a b = a - b := by rw [iSub_def, Go.IntWalk.i64_in _ h]
theorem iMul64 {a b : Int} (h : -9223372036854775808 ≤ a * b ∧ a * b ≤ 9223372036854775807) : iMul .i64 a b = a * b := by rw [iMul_def, Go.IntWalk.i64_in _ h]
theorem iConv64 {a : Int} (h : -9223372036854775808 ≤ a ∧ a ≤ 9223372036854775807) : iConv .i64 a = a := by rw [iConv_def, Go.IntWalk.i64_in _ h]
theorem byteI_range (b : UInt8) : 0 ≤ byteI b ∧ byteI b ≤ 255 := by
  rw [byteI_def]
  have := b.toNat_lt
  omega
theorem idxK_get {α ρ : Type} {xs : List α} {n : Nat} {x : α} {k : α → Option ρ} (h : xs[n]? = some x) : idxK xs (n : Int) k = k x := by
  rw [idxK_def, if_pos (by omega)]
  simp only [Int.toNat_natCast, h]
theorem idxK_lt {α ρ : Type} {xs : List α} {n : Nat} {k : α → Option ρ} (h : n < xs.length) : idxK xs (n : Int) k = k xs[n] := idxK_get (List.getElem?_eq_getElem h)
theorem iLt_nat (a b : Nat) : iLt (a : Int) (b : Int) = decide (a < b) := by rw [iLt_def]; simp
theorem iLt_len {α : Type} (n : Nat) (xs : List α) : iLt (n : Int) (lenI xs) = decide (n < xs.length) := by rw [lenI_def, iLt_nat]
theorem gMk_pos {n sz : Nat} (h : n * sz ≤ 4294967296) : gMk (n : Int) sz = true := by
  rw [gMk_def]; simp only [decide_eq_true_eq]
  refine ⟨by omega, ?_⟩
  have : ((n : Int) * (sz : Int)) = ((n * sz : Nat) : Int) := by simp
  rw [this]; omega
theorem gApp_pos {α : Type} {xs ys : List α} {sz : Nat} (h : (xs.length + ys.length) * sz ≤ 4294967296) : gApp xs ys sz = true := by rw [gApp_def]; simpa using h
theorem gCat_pos {a b : List UInt8} (h : a.length + b.length ≤ 140737488355328) : gCat a b = true := by rw [gCat_def]; simpa using h
theorem gS2b_pos {a : List UInt8} (h : a.length ≤ 4294967296) : gS2b a = true := by rw [gS2b_def]; simpa using h
theorem gNz_pos {a : Int} (h : a ≠ 0) : gNz a = true := by rw [gNz_def]; simpa using h
theorem gNn_pos {a : Int} (h : 0 ≤ a) : gNn a = true := by rw [gNn_def]; simpa using h
theorem NN_big : (1152921504606846976 : Nat) < NN := by unfold NN; omega

/-! ### loops -/
theorem loop_eq {σ ρ : Type} {F : (σ → Option ρ) → σ → Option ρ} (P : σ → Prop) (m : σ → Nat) (g : σ → Option ρ)
    (h : ∀ (rec : σ → Option ρ) (s : σ), P s → (∀ s', P s' → m s' < m s → rec s' = g s') → F rec s = g s) : ∀ (N : Nat) (s : σ), P s → m s < N → loopF F N s = g s
  | 0, s, _, hm => by omega
  | N + 1, s, hp, hm => by
    rw [loopF_succ]
    exact h _ s hp fun s' hp' hm' => loop_eq P m g h N s' hp' (by omega)
theorem loop_post {σ ρ : Type} {F : (σ → Option ρ) → σ → Option ρ} (P : σ → Prop) (m : σ → Nat) (Q : σ → ρ → Prop)
    (h : ∀ (rec : σ → Option ρ) (s : σ), P s → (∀ s', P s' → m s' < m s → ∃ r, rec s' = some r ∧ Q s' r) → ∃ r, F rec s = some r ∧ Q s r) : ∀ (N : Nat) (s : σ), P s → m s < N → ∃ r, loopF F N s = some r ∧ Q s r
  | 0, s, _, hm => by omega
  | N + 1, s, hp, hm => by
    rw [loopF_succ]
    exact h _ s hp fun s' hp' hm' => loop_post P m Q h N s' hp' (by omega)
/-- A loop over a list, by its index. -/
theorem loop_list {α σ ρ a : Type} {F : (σ → Option ρ) → σ → Option ρ} {xs : List α} (mk : Int → a → σ) (inv : Nat → a → Prop) (g : a → List α → Option ρ)
    (hend : ∀ (rec : σ → Option ρ) (s : a), inv xs.length s → F rec (mk xs.length s) = g s [])
    (hstep : ∀ (rec : σ → Option ρ) (n : Nat) (h : n < xs.length) (s : a), inv n s → (∀ s', inv (n + 1) s' → rec (mk ((n + 1 : Nat) : Int) s') = g s' (xs.drop (n + 1))) → F rec (mk n s) = g s (xs[n] :: xs.drop (n + 1))) :
    ∀ (N : Nat) (s : a), inv 0 s → xs.length < N → loopF F N (mk 0 s) = g s xs := by
  have key : ∀ (k n : Nat) (N : Nat) (s : a), n + k = xs.length → inv n s → k < N → loopF F N (mk n s) = g s (xs.drop n) := by
    intro k
    induction k with
    | zero =>
      intro n N s hn hi hN
      have : n = xs.length := by omega
      subst this
      cases N with
      | zero => omega
      | succ N =>
        rw [loopF_succ, hend _ s hi, List.drop_length]
    | succ k ih =>
      intro n N s hn hi hN
      cases N with
      | zero => omega
      | succ N =>
        have hlt : n < xs.length := by omega
        rw [loopF_succ, hstep _ n hlt s hi fun s' hi' => ih (n + 1) N s' (by omega) hi' (by omega), List.drop_eq_getElem_cons hlt]
  intro N s hi hN
  have := key xs.length 0 N s (by omega) hi hN
  simpa using this
/-- The same, when what is told is known of. -/
theorem loop_listP {α σ ρ a : Type} {F : (σ → Option ρ) → σ → Option ρ} {xs : List α} (mk : Int → a → σ) (inv : Nat → a → Prop) (Q : ρ → Prop)
    (hend : ∀ (rec : σ → Option ρ) (s : a), inv xs.length s → ∃ r, F rec (mk xs.length s) = some r ∧ Q r)
    (hstep : ∀ (rec : σ → Option ρ) (n : Nat) (h : n < xs.length) (s : a), inv n s → (∀ s', inv (n + 1) s' → ∃ r, rec (mk ((n + 1 : Nat) : Int) s') = some r ∧ Q r) → ∃ r, F rec (mk n s) = some r ∧ Q r) :
    ∀ (N : Nat) (s : a), inv 0 s → xs.length < N → ∃ r, loopF F N (mk 0 s) = some r ∧ Q r := by
  have key : ∀ (k n : Nat) (N : Nat) (s : a), n + k = xs.length → inv n s → k < N → ∃ r, loopF F N (mk n s) = some r ∧ Q r := by
    intro k
    induction k with
    | zero =>
      intro n N s hn hi hN
      have : n = xs.length := by omega
      subst this
      cases N with
      | zero => omega
      | succ N => rw [loopF_succ]; exact hend _ s hi
    | succ k ih =>
      intro n N s hn hi hN
      cases N with
      | zero => omega
      | succ N =>
        rw [loopF_succ]
        exact hstep _ n (by omega) s hi fun s' hi' => ih (n + 1) N s' (by omega) hi' (by omega)
  intro N s hi hN
  exact key xs.length 0 N s (by omega) hi hN

/-! ### the laws' helpers -/
theorem NN_len {n : Nat} (h : n ≤ 4294967296) : n < NN := by unfold NN; omega
theorem iAdd_nat {n : Nat} (h : n ≤ 4294967296) : iAdd .i64 (n : Int) 1 = ((n + 1 : Nat) : Int) := by
  rw [iAdd64 (by omega)]; simp
theorem set_take {α : Type} {xs ys : List α} {n : Nat} (hl : ys.length = xs.length) (h : n < xs.length) (hp : ys.take n = xs.take n) : (ys.set n xs[n]).take (n + 1) = xs.take (n + 1) := by
  rw [List.take_set]
  apply List.ext_getElem?
  intro i
  by_cases hi : i < n
  · have e : (ys.take n)[i]? = (xs.take n)[i]? := by rw [hp]
    simp only [List.getElem?_take, hi, if_true] at e
    simp only [List.getElem?_set, List.getElem?_take]
    rw [if_neg (by omega), if_pos (by omega), if_pos (by omega)]
    exact e
  · by_cases hin : i = n
    · subst hin
      simp only [List.getElem?_set, List.getElem?_take, List.length_take]
      rw [if_pos trivial, if_pos (by omega), if_pos (by omega), List.getElem?_eq_getElem h]
    · simp only [List.getElem?_set, List.getElem?_take]
      rw [if_neg (by omega), if_neg (by omega), if_neg (by omega)]
/-- A slice copied by calls. -/
theorem toS_ok {α : Type} {f : α × Unit → Option (α × Unit)} {xs : List α} {d : α} {z : Nat} (hz : 0 < z) (hf : ∀ y ∈ xs, f (y, ()) = some (y, ())) (hl : xs.length * z ≤ 4294967296) :
    (guardK (gMk (lenI xs) z) <| loopF (fun rec (s : Int × List α × Unit) => bif iLt s.1 (lenI xs) then idxK xs s.1 fun y => bindK (f (y, ())) fun w => idxK s.2.1 s.1 fun _ => rec (iAdd .i64 s.1 1, setL s.2.1 (toN s.1) w.1, ()) else some s.2) NN (0, repL (toN (lenI xs)) d, ())) = some (xs, ()) := by
  have hl1 : xs.length ≤ 4294967296 := Nat.le_trans (Nat.le_mul_of_pos_right _ hz) hl
  rw [lenI_def, guardK_pos (gMk_pos hl)]
  have := loop_list (xs := xs) (a := List α) (σ := Int × List α × Unit) (ρ := List α × Unit) (F := fun rec (s : Int × List α × Unit) => bif iLt s.1 (lenI xs) then idxK xs s.1 fun y => bindK (f (y, ())) fun w => idxK s.2.1 s.1 fun _ => rec (iAdd .i64 s.1 1, setL s.2.1 (toN s.1) w.1, ()) else some s.2)
    (fun i s => (i, s, ())) (fun n s => s.length = xs.length ∧ s.take n = xs.take n) (fun _ _ => some (xs, ())) (fun rec s hs => ?_) (fun rec n h s hs hr => ?_) NN (repL (toN (lenI xs)) d) ⟨by rw [repL_def, toN_def, lenI_def]; simp, by simp⟩ (NN_len hl1)
  · rw [lenI_def] at this; exact this
  · simp only [iLt_len, Nat.lt_irrefl, decide_false, cond_false]
    obtain ⟨h1, h2⟩ := hs
    rw [← h1] at h2
    rw [List.take_length, h1, List.take_length] at h2
    rw [h2]
  · simp only [iLt_len, h, decide_true, cond_true]
    rw [idxK_lt h, hf _ (List.getElem_mem h), bindK_pure, idxK_lt (by rw [hs.1]; exact h), iAdd_nat (by omega), toN_def, setL_def]
    exact hr _ ⟨by rw [List.length_set]; exact hs.1, set_take hs.1 h hs.2⟩
/-- A slice of plain values copied. -/
theorem toP_ok {α : Type} {xs : List α} {d : α} {z : Nat} (hz : 0 < z) (hl : xs.length * z ≤ 4294967296) :
    (guardK (gMk (lenI xs) z) <| loopF (fun rec (s : Int × List α × Unit) => bif iLt s.1 (lenI xs) then idxK xs s.1 fun y => idxK s.2.1 s.1 fun _ => rec (iAdd .i64 s.1 1, setL s.2.1 (toN s.1) y, ()) else some s.2) NN (0, repL (toN (lenI xs)) d, ())) = some (xs, ()) := by
  have hl1 : xs.length ≤ 4294967296 := Nat.le_trans (Nat.le_mul_of_pos_right _ hz) hl
  rw [lenI_def, guardK_pos (gMk_pos hl)]
  have := loop_list (xs := xs) (a := List α) (σ := Int × List α × Unit) (ρ := List α × Unit) (F := fun rec (s : Int × List α × Unit) => bif iLt s.1 (lenI xs) then idxK xs s.1 fun y => idxK s.2.1 s.1 fun _ => rec (iAdd .i64 s.1 1, setL s.2.1 (toN s.1) y, ()) else some s.2)
    (fun i s => (i, s, ())) (fun n s => s.length = xs.length ∧ s.take n = xs.take n) (fun _ _ => some (xs, ())) (fun rec s hs => ?_) (fun rec n h s hs hr => ?_) NN (repL (toN (lenI xs)) d) ⟨by rw [repL_def, toN_def, lenI_def]; simp, by simp⟩ (NN_len hl1)
  · rw [lenI_def] at this; exact this
  · simp only [iLt_len, Nat.lt_irrefl, decide_false, cond_false]
    obtain ⟨h1, h2⟩ := hs
    rw [← h1] at h2
    rw [List.take_length, h1, List.take_length] at h2
    rw [h2]
  · simp only [iLt_len, h, decide_true, cond_true]
    rw [idxK_lt h, idxK_lt (by rw [hs.1]; exact h), iAdd_nat (by omega), toN_def, setL_def]
    exact hr _ ⟨by rw [List.length_set]; exact hs.1, set_take hs.1 h hs.2⟩
/-- A slice is as itself. -/
theorem eqS_refl {α : Type} {f : α × α × Unit → Option (Bool × Unit)} {xs : List α} (hf : ∀ y ∈ xs, f (y, y, ()) = some (true, ())) (hl : xs.length ≤ 4294967296) :
    (bif iNe (lenI xs) (lenI xs) then some (false, ()) else loopF (fun rec (s : Int × Unit) => bif iLt s.1 (lenI xs) then idxK xs s.1 fun y => idxK xs s.1 fun y' => bindK (f (y, y', ())) fun w => bif bNot w.1 then some (false, ()) else rec (iAdd .i64 s.1 1, ()) else some (true, ())) NN (0, ())) = some (true, ()) := by
  rw [iNe_def]
  simp only [bne_self_eq_false, cond_false]
  refine loop_list (xs := xs) (a := Unit) (fun i s => (i, ())) (fun n s => True) (fun _ _ => some (true, ())) (fun rec s _ => ?_) (fun rec n h s _ hr => ?_) NN () trivial (NN_len hl)
  · simp only [iLt_len, Nat.lt_irrefl, decide_false, cond_false]
  · simp only [iLt_len, h, decide_true, cond_true]
    rw [idxK_lt h, idxK_lt h, hf _ (List.getElem_mem h), bindK_pure, bNot_def, iAdd_nat (by omega)]
    exact hr () trivial
theorem eqP_refl {α : Type} {ne : α → α → Bool} {xs : List α} (hf : ∀ y, ne y y = false) (hl : xs.length ≤ 4294967296) :
    (bif iNe (lenI xs) (lenI xs) then some (false, ()) else loopF (fun rec (s : Int × Unit) => bif iLt s.1 (lenI xs) then idxK xs s.1 fun y => idxK xs s.1 fun y' => bif ne y y' then some (false, ()) else rec (iAdd .i64 s.1 1, ()) else some (true, ())) NN (0, ())) = some (true, ()) := by
  rw [iNe_def]
  simp only [bne_self_eq_false, cond_false]
  refine loop_list (xs := xs) (a := Unit) (fun i s => (i, ())) (fun n s => True) (fun _ _ => some (true, ())) (fun rec s _ => ?_) (fun rec n h s _ hr => ?_) NN () trivial (NN_len hl)
  · simp only [iLt_len, Nat.lt_irrefl, decide_false, cond_false]
  · simp only [iLt_len, h, decide_true, cond_true]
    rw [idxK_lt h, idxK_lt h, hf, iAdd_nat (by omega)]
    exact hr () trivial
/-- How much a slice holds is told. -/
theorem szS_ok {α : Type} {f : α × Int × Unit → Option (Int × Unit)} {xs : List α} (hf : ∀ y ∈ xs, ∀ v, ∃ r, f (y, v) = some r) (hl : xs.length ≤ 4294967296) (l : Int) :
    ∃ r, (bif iLt l 0 then some ((-1), ()) else loopF (fun rec (s : Int × Int × Unit) => bif iLt s.1 (lenI xs) then idxK xs s.1 fun y => bindK (f (y, s.2)) fun w => bif iLt w.1 0 then some ((-1), ()) else rec (iAdd .i64 s.1 1, w) else some s.2) NN (0, l, ())) = some r := by
  cases iLt l 0 with
  | true => exact ⟨_, rfl⟩
  | false =>
    have := loop_listP (xs := xs) (a := Int × Unit) (σ := Int × Int × Unit) (F := fun rec (s : Int × Int × Unit) => bif iLt s.1 (lenI xs) then idxK xs s.1 fun y => bindK (f (y, s.2)) fun w => bif iLt w.1 0 then some ((-1), ()) else rec (iAdd .i64 s.1 1, w) else some s.2)
      (fun i s => (i, s)) (fun n s => True) (fun _ => True) (fun rec s _ => ?_) (fun rec n h s _ hr => ?_) NN (l, ()) trivial (NN_len hl)
    · obtain ⟨r, h, _⟩ := this; exact ⟨r, h⟩
    · simp only [iLt_len, Nat.lt_irrefl, decide_false, cond_false]; exact ⟨_, rfl, trivial⟩
    · simp only [iLt_len, h, decide_true, cond_true]
      rw [idxK_lt h]
      obtain ⟨r, hr'⟩ := hf _ (List.getElem_mem h) s
      rw [hr', bindK_pure, iAdd_nat (by omega)]
      cases iLt r.1 0 with
      | true => exact ⟨_, rfl, trivial⟩
      | false => exact hr _ trivial
/-- The facts of a row, one by one. -/
theorem facts_of {P : Program} {f : FuncId} {fn : Func} {s : ChangeSpec} {c : OpenClaim} (h0 : (c.wf (OpenSpec.ofChange s)) = true) (h1 : (laidOutB P) = true) (h2 : (mapsRowed P) = true) (h3 : (fn.params.all (P.readableRec ·)) = true) (h4 : (namedTie P c.named s.vars) = true) (h5 : ((c.stops == [])) = true) (h6 : ((P.stops == [])) = true) (h7 : ((c.knobs == [])) = true) (h8 : ((P.stopKnobs == [])) = true) (h9 : ((c.inPlace == P.inPlace f)) = true) (h10 : ((c.unfollowed == P.unfollowed f)) = true) (h11 : ((c.recurses == P.recurses f)) = true) (h12 : ((c.named == P.varsNamed f)) = true) (h13 : ((c.maps == (fn.params.toList ++ s.plain.varTypes P).any (P.mapsRec ·))) = true) (h14 : ((c.ifaces == (fn.params.toList ++ s.plain.varTypes P).any (P.ifacesRec ·))) = true) (h15 : ((c.mapsOut == P.mapsAmong fn.resultTypes.toList)) = true) (h16 : ((c.loops == (fn.params.toList ++ s.plain.varTypes P).any (P.loopsFrom ·))) = true) (h17 : ((c.wideKeys == (fn.params.toList ++ s.plain.varTypes P ++ fn.resultTypes.toList).any (P.wideKeysFrom ·))) = true) (h18 : (s.vars.all (P.varReadable ·)) = true) (h19 : (fn.resultTypes.all (fun t => P.readableRec t && decide (t < P.types.size))) = true) (h20 : ((c.ifacesOut == fn.resultTypes.toList.any (P.ifacesRec ·))) = true) (h21 : ((c.loopsOut == fn.resultTypes.toList.any (P.loopsFrom ·))) = true) (h22 : ((c.plainKeys == P.plainKeys)) = true) (h23 : (c.shortTexts.isNone) = true) (h24 : (P.stopsHeard) = true) (h25 : (P.mayEnter) = true) (h26 : ((c.lifted == P.liftsFinal)) = true) (h27 : ((P.make == some c.make)) = true) (h28 : ((c.kinds == (if c.domain.isEmpty then [] else fn.params.toList.map fun t => match P.underlying t with | some (.int k) => some k | _ => none))) = true) (h29 : ((c.pinned == c.pinnedBy)) = true) (h30 : ((c.veiled == (fn.params.toList ++ s.plain.varTypes P ++ fn.resultTypes.toList).any (P.veiledRec ·))) = true) (h31 : (c.veiledFits P fn.params.toList (fn.params.toList ++ s.plain.varTypes P ++ fn.resultTypes.toList)) = true) : joinedFacts P f fn s c = true := by
  unfold joinedFacts
  simp only [Bool.and_eq_true]
  exact ⟨⟨⟨⟨⟨⟨⟨⟨⟨⟨⟨⟨⟨⟨⟨⟨⟨⟨⟨⟨⟨⟨⟨⟨⟨⟨⟨⟨⟨⟨⟨h0, h1⟩, h2⟩, h3⟩, h4⟩, h5⟩, h6⟩, h7⟩, h8⟩, h9⟩, h10⟩, h11⟩, h12⟩, h13⟩, h14⟩, h15⟩, h16⟩, h17⟩, h18⟩, h19⟩, h20⟩, h21⟩, h22⟩, h23⟩, h24⟩, h25⟩, h26⟩, h27⟩, h28⟩, h29⟩, h30⟩, h31⟩
end Go.Am
