/- One operation of Go's code against one of the small machine: a string's byte, least and greatest, structs that are one. -/
import Derived.Test.YtgncfkcabphccaaA9
namespace Go.Am
set_option linter.unusedSimpArgs false
set_option linter.unusedVariables false
variable {P : Program}

def sameC : List Lf → List Value → List Value → Option Bool
  | [], [], [] => some true
  | l :: ls, x :: r, y :: q => match sameV l x y with
    | some b => (match sameC ls r q with | some b' => some (b && b') | none => none)
    | none => none
  | _, _, _ => none

theorem sameC_of {X : Ctx} : ∀ (ls : List Lf) (A B : List AV) (r : Bool) (vs us : List Value), sameL ls A B = some r → VRels X A vs → VRels X B us → sameC ls vs us = some r := by
  intro ls
  induction ls with
  | nil =>
    intro A B r vs us h ha hb
    unfold sameL at h
    split at h
    · cases vs <;> cases us <;> first | exact h | exact ha.elim | exact hb.elim
    · rename_i e; cases e
    · cases h
  | cons l ls ih =>
    intro A B r vs us h ha hb
    unfold sameL at h
    split at h
    · rename_i e; cases e
    · rename_i l' ls' x r1 y q1 e
      cases e
      cases vs with
      | nil => exact ha.elim
      | cons v vs =>
        cases us with
        | nil => exact hb.elim
        | cons u us =>
          obtain ⟨e1, _⟩ := ha.1
          obtain ⟨e2, _⟩ := hb.1
          subst e1; subst e2
          simp only [sameC]
          split at h
          · rename_i b hb1
            rw [hb1]
            split at h
            · rename_i b' hb'
              rw [ih _ _ _ _ _ hb' ha.2.2 hb.2.2]
              exact h
            · cases h
          · cases h
    · cases h

theorem sameC_append : ∀ (l q : List Lf) (a a' b b' : List Value) (r : Bool), a.length = l.length → a'.length = l.length → sameC (l ++ q) (a ++ b) (a' ++ b') = some r →
    ∃ r1 r2, sameC l a a' = some r1 ∧ sameC q b b' = some r2 ∧ r = (r1 && r2) := by
  intro l
  induction l with
  | nil =>
    intro q a a' b b' r h1 h2 h
    cases a with
    | nil => cases a' with
      | nil => exact ⟨true, r, rfl, h, by simp⟩
      | cons => simp at h2
    | cons => simp at h1
  | cons x l ih =>
    intro q a a' b b' r h1 h2 h
    cases a with
    | nil => simp at h1
    | cons y a => cases a' with
      | nil => simp at h2
      | cons y' a' =>
        simp only [List.cons_append, sameC] at h ⊢
        split at h
        · rename_i b1 hb1
          split at h
          · rename_i b2 hb2
            obtain ⟨r1, r2, e1, e2, e3⟩ := ih q a a' b b' b2 (by simpa using h1) (by simpa using h2) hb2
            refine ⟨b1 && r1, r2, by rw [e1], e2, ?_⟩
            obtain rfl := Option.some.inj h
            rw [e3, Bool.and_assoc]
          · cases h
        · cases h

theorem sameC_length : ∀ (l : List Lf) (a b : List Value) (r : Bool), sameC l a b = some r → a.length = l.length ∧ b.length = l.length := by
  intro l
  induction l with
  | nil =>
    intro a b r h
    cases a <;> cases b <;> first | exact ⟨rfl, rfl⟩ | (simp [sameC] at h)
  | cons x l ih =>
    intro a b r h
    cases a <;> cases b <;> simp only [sameC] at h <;> first | cases h | skip
    split at h
    · split at h
      · rename_i hb
        have := ih _ _ _ hb
        simp [this.1, this.2]
      · cases h
    · cases h

def Whole (P : Program) (t : TypeId) (c : List Value) (v : Value) : Prop :=
  (∃ fs, P.underlying t = some (.struct fs) ∧ v = .agg c.toArray) ∨ ((∀ fs, P.underlying t ≠ some (.struct fs)) ∧ (∀ n e, P.underlying t ≠ some (.array n e)) ∧ c = [v])

theorem leaves_part {d : Nat} {t : TypeId} {l : List Lf} (h : leaves P d t = some l) (w : World) (xs : List Value) (off : Nat) (hle : off + l.length ≤ xs.length) :
    ∃ v, (part t xs.toArray off).run P w = .ok v w ∧ Whole P t ((xs.drop off).take l.length) v := by
  cases d with
  | zero => simp [leaves] at h
  | succ d =>
    have basic : (∀ fs, P.underlying t ≠ some (.struct fs)) → (∀ n e, P.underlying t ≠ some (.array n e)) → (∃ u, P.underlying t = some u) → l.length = 1 → ∃ v, (part t xs.toArray off).run P w = .ok v w ∧ Whole P t ((xs.drop off).take l.length) v := by
      intro h1 h2 ⟨u, hu⟩ hl
      have ha : aggT P t = some false := by
        unfold aggT; rw [hu]
        cases u <;> first | rfl | exact absurd hu (h1 _) | exact absurd hu (h2 _ _)
      have hlt : off < xs.length := by omega
      refine ⟨xs[off], ?_, .inr ⟨h1, h2, ?_⟩⟩
      · simp only [part, Sem.run_bind, run_isAgg ha, Result.andThen_ok, Bool.false_eq_true, if_false]
        simp [hlt]
      · rw [hl, List.drop_eq_getElem_cons hlt]; rfl
    unfold leaves at h
    split at h
    · rename_i k hu
      obtain rfl := Option.some.inj h
      exact basic (by rw [hu]; simp) (by rw [hu]; simp) ⟨_, hu⟩ rfl
    · rename_i hu
      obtain rfl := Option.some.inj h
      exact basic (by rw [hu]; simp) (by rw [hu]; simp) ⟨_, hu⟩ rfl
    · rename_i hu
      obtain rfl := Option.some.inj h
      exact basic (by rw [hu]; simp) (by rw [hu]; simp) ⟨_, hu⟩ rfl
    · rename_i fs hu
      split at h
      · cases h
      · split at h
        · split at h
          · rename_i l' _ hsz
            obtain rfl := Option.some.inj h
            have ha : aggT P t = some true := by unfold aggT; rw [hu]
            have := run_part hsz ha w xs off hle
            exact ⟨_, this, .inl ⟨fs, hu, rfl⟩⟩
          · cases h
        · cases h
    · cases h

theorem eq_leaves (w : World) : ∀ (d : Nat),
    (∀ t l, leaves P d t = some l → ∀ D, d ≤ D → ∀ c1 c2 v1 v2 r, Whole P t c1 v1 → Whole P t c2 v2 → sameC l c1 c2 = some r → (Op.equalIn D t v1 v2).run P w = .ok r w) := by
  intro d
  induction d with
  | zero => intro t l h; simp [leaves] at h
  | succ d ih =>
    have hF : ∀ (fs : List Field) (n : Nat) (l : List Lf), leavesF (leaves P d) fs n = some l → ∀ D, d ≤ D → ∀ (xs ys : List Value) r, sameC l (xs.drop n) (ys.drop n) = some r →
        (Op.eqFields D xs.toArray ys.toArray fs).run P w = .ok r w := by
      intro fs
      induction fs with
      | nil =>
        intro n l h D hD xs ys r hs
        simp only [leavesF] at h
        obtain rfl := Option.some.inj h
        have : r = true := by
          generalize xs.drop n = a at hs
          generalize ys.drop n = b at hs
          cases a <;> cases b <;> simp [sameC] at hs
          exact hs
        subst this
        simp [Op.eqFields]
      | cons f fs ihf =>
        intro n l h D hD xs ys r hs
        simp only [leavesF] at h
        split at h
        · rename_i hc
          split at h
          · rename_i l1 hl1
            split at h
            · rename_i l2 hl2
              obtain rfl := Option.some.inj h
              have hlen := sameC_length _ _ _ _ hs
              simp only [List.length_append, List.length_drop] at hlen
              have e1 : xs.drop n = (xs.drop n).take l1.length ++ xs.drop (n + l1.length) := by
                rw [← List.drop_drop]; exact (List.take_append_drop _ _).symm
              have e2 : ys.drop n = (ys.drop n).take l1.length ++ ys.drop (n + l1.length) := by
                rw [← List.drop_drop]; exact (List.take_append_drop _ _).symm
              rw [e1, e2] at hs
              by_cases hz : l1.length = 0
              · exfalso
                cases d with
                | zero => simp [leaves] at hl1
                | succ d => 
                  unfold leaves at hl1
                  split at hl1 <;> first | (obtain rfl := Option.some.inj hl1; simp at hz; done) | skip
                  · split at hl1
                    · cases hl1
                    · split at hl1
                      · split at hl1
                        · rename_i hsz
                          obtain rfl := Option.some.inj hl1
                          obtain ⟨_, _, _, hp, _⟩ := sizeT_info hsz
                          omega
                        · cases hl1
                      · cases hl1
                  · cases hl1
              · obtain ⟨r1, r2, s1, s2, rfl⟩ := sameC_append l1 l2 _ _ _ _ r (by simp; omega) (by simp; omega) hs
                obtain ⟨v1, p1, w1⟩ := leaves_part hl1 w xs n (by omega)
                obtain ⟨v2, p2, w2⟩ := leaves_part hl1 w ys n (by omega)
                have hq := ih f.type l1 hl1 D hD _ _ v1 v2 r1 w1 w2 s1
                have hrest := ihf (n + l1.length) l2 hl2 D hD xs ys r2 s2
                simp only [Op.eqFields, hc.1, ne_eq, not_false_eq_true, if_true, Sem.run_bind, hc.2, p1, p2, Result.andThen_ok, hq]
                cases r1
                · simp
                · simp [hrest]
            · cases h
          · cases h
        · cases h
    intro t l h D hD c1 c2 v1 v2 r h1 h2 hs
    obtain ⟨D, rfl⟩ : ∃ n, D = n + 1 := ⟨D - 1, by omega⟩
    have single : ∀ {c : List Value} {v : Value}, Whole P t c v → (∀ fs, P.underlying t ≠ some (.struct fs)) → c = [v] := by
      intro c v hw hn
      rcases hw with ⟨fs, e, _⟩ | ⟨_, _, e⟩
      · exact absurd e (hn fs)
      · exact e
    unfold leaves at h
    split at h
    · rename_i k hu
      obtain rfl := Option.some.inj h
      obtain rfl := single h1 (by rw [hu]; simp)
      obtain rfl := single h2 (by rw [hu]; simp)
      simp only [sameC] at hs
      cases v1 <;> cases v2 <;> simp only [sameV] at hs <;> first | cases hs | skip
      split at hs
      · rename_i k1 n1 k2 n2 e hk
        split at hk
        · rename_i he
          subst he
          obtain rfl := Option.some.inj hk
          obtain rfl := Option.some.inj hs
          rw [run_equalIn_int w D t _ _ _ _ hu]
          simp
        · cases hk
      · cases hs
    · rename_i hu
      obtain rfl := Option.some.inj h
      obtain rfl := single h1 (by rw [hu]; simp)
      obtain rfl := single h2 (by rw [hu]; simp)
      simp only [sameC] at hs
      cases v1 <;> cases v2 <;> simp [sameV] at hs
      subst hs
      exact run_equalIn_string w D t _ _ hu
    · rename_i hu
      obtain rfl := Option.some.inj h
      obtain rfl := single h1 (by rw [hu]; simp)
      obtain rfl := single h2 (by rw [hu]; simp)
      simp only [sameC] at hs
      cases v1 <;> cases v2 <;> simp [sameV] at hs
      subst hs
      exact run_equalIn_bool w D t _ _ hu
    · rename_i fs hu
      split at h
      · cases h
      · rename_i hp
        split at h
        · rename_i l' hl'
          split at h
          · obtain rfl := Option.some.inj h
            have agg : ∀ {c : List Value} {v : Value}, Whole P t c v → v = .agg c.toArray := by
              intro c v hw
              rcases hw with ⟨_, _, e⟩ | ⟨hn, _, _⟩
              · exact e
              · exact absurd hu (hn fs)
            rw [agg h1, agg h2]
            have hfo : P.fieldsOf t = fs := by simp [Program.fieldsOf, hu]
            rw [run_equalIn_agg w D t _ _ (by rw [hfo]; exact hu) (by simpa using hp), hfo]
            exact hF fs.toList 0 l' hl' D (by omega) c1 c2 r (by simpa using hs)
          · cases h
        · cases h
    · cases h

section
variable {o : Oper} {ops : Array Oper} {nt : Nat} {a : Act} {w : World} {φ : Id → Option Addr} {H : Heap} {nx : Nat} {E : AEnv} {T : Tab} {R : Run} {d : Nat}

theorem does_binS {op : BinOp} {t t' : TypeId} {x y : Operand} {x' y' : Opd} {fs : Array Field} {l : List Lf} {r : Bool} (ho : o.op = .binOp op t x y t') (ht : P.underlying t = some (.struct fs)) (hg : P.eqGuardType P.depth t = false)
    (hl : leaves P 5 t = some l) (hx : opdOf x = some x') (hy : opdOf y = some y') (hs : SR nt w φ ⟨E, H, nx⟩ a) (hd : ∀ d, o.dst = some d → d < nt)
    (hi : (ev E x').isAgg = true) (hj : (ev E y').isAgg = true) (hr : sameL l (ev E x').cells (ev E y').cells = some r) {neg : Bool} (hop : (op = .eql ∧ neg = false) ∨ (op = .neq ∧ neg = true)) :
    Does P o nt a w φ H o.dst E (gBool (if neg then !r else r)) H nx := by
  have agg : ∀ {z : AV} {v : Value}, VRel (ctx w φ H) z v → z.isAgg = true → ∃ vs : List Value, v = .agg vs.toArray ∧ VRels (ctx w φ H) z.cells vs := by
    intro z v hz hza
    cases z with
    | agg cs => exact hz
    | c t =>
      cases t with
      | agg cs => obtain ⟨vs, e, hr⟩ := hz; exact ⟨vs, e, TRels.toV hr⟩
      | _ => simp [AV.isAgg] at hza
    | _ => simp [AV.isAgg] at hza
  obtain ⟨vs, e1, r1⟩ := agg (opd_rel hs.env hx) hi
  obtain ⟨us, e2, r2⟩ := agg (opd_rel hs.env hy) hj
  have hc := sameC_of _ _ _ _ _ _ hr r1 r2
  have he := eq_leaves (P := P) w 5 t l hl 10000 (by omega) vs us _ _ r (.inl ⟨fs, ht, rfl⟩) (.inl ⟨fs, ht, rfl⟩) hc
  refine does_pure (v := gBool (if neg then !r else r)) (x := .bool (if neg then !r else r)) ?_ hs ⟨rfl, rfl⟩ hd
  simp only [execOp, ho, e1, e2, Sem.run_bind]
  rw [run_eqGuard_agg w op t x y _ _ hg]
  rcases hop with ⟨rfl, rfl⟩ | ⟨rfl, rfl⟩
  · simp only [Result.andThen_ok]
    rw [run_eql_struct, he]
    simp
  · simp only [Result.andThen_ok]
    rw [run_neq_struct, he]
    simp

theorem does_index {t : TypeId} {x i : Operand} {x' i' : Opd} {s : ByteArray} {j : Int} {b : UInt8} (ho : o.op = .index t x i) (ht : P.underlying t = some .string) (hx : opdOf x = some x') (hi : opdOf i = some i')
    (hs : SR nt w φ ⟨E, H, nx⟩ a) (hd : ∀ d, o.dst = some d → d < nt) (es : ev E x' = .c (.s (.string s))) (ej : intOfV (ev E i') = some j) (h0 : 0 ≤ j) (hb : s[j.toNat]? = some b) :
    Does P o nt a w φ H o.dst E (.c (.s (.int .u8 b.toNat))) H nx := by
  have h1 := opd_rel hs.env hx
  rw [es] at h1
  obtain ⟨e1, _⟩ := scalar_rel h1
  obtain ⟨k, e2⟩ := intOf_rel (opd_rel hs.env hi) ej
  refine does_pure (v := .c (.s (.int .u8 b.toNat))) (x := .int .u8 b.toNat) ?_ hs ⟨rfl, rfl⟩ hd
  simp only [execOp, ho, e1, e2]
  simp [Instr.index, asIntOf, run_underlying ht, h0, hb]

theorem i64s_rel {X : Ctx} : ∀ (l : List AV) (vs : List Value) (ns : List Int), i64s l = some ns → VTup X l vs → vs = ns.map (.int .i64) := by
  intro l
  induction l with
  | nil => intro vs ns h hr; simp [i64s] at h; subst h; cases vs with | nil => rfl | cons => exact hr.elim
  | cons x l ih =>
    intro vs ns h hr
    cases vs with
    | nil => exact hr.elim
    | cons v vs =>
      unfold i64s at h
      split at h
      · rename_i e; cases e
      · rename_i n r e
        cases e
        split at h
        · rename_i q hq
          obtain rfl := Option.some.inj h
          obtain ⟨e1, _⟩ := hr.1
          rw [e1, ih _ _ hq hr.2]
          rfl
        · cases h
      · cases h

theorem does_minmax {c : Call} {b : Bool} {args : List Opd} {n : Int} (ho : o.op = .call c) (hc : c.callee = .builtin (if b then .max else .min)) (hx : mapMO opdOf c.args.toList = some args)
    (hs : SR nt w φ ⟨E, H, nx⟩ a) (hd : ∀ d, o.dst = some d → d < nt) (hn : minMax b (args.map (ev E)) = some n) : Does P o nt a w φ H o.dst E (gInt n) H nx := by
  have h1 := opds_rel hs.env _ _ hx
  unfold minMax at hn
  split at hn
  · rename_i x r hi
    obtain rfl := Option.some.inj hn
    have e := i64s_rel _ _ _ hi h1
    have ea : (c.args.map a.eval).toList = .int .i64 x :: r.map (.int .i64) := by rw [Array.toList_map, e]; rfl
    refine does_pure (v := gInt _) (x := .int .i64 _) ?_ hs ⟨rfl, rfl⟩ hd
    cases b with
    | true =>
      have hfold : ∀ (r : List Int) (x : Int), ((r.map (Value.int .i64)).foldlM Builtin.max2 (Value.int .i64 x)).run P w = .ok (.int .i64 (r.foldl (fun a b => if b > a then b else a) x)) w := by
        intro r
        induction r with
        | nil => intro x; simp
        | cons y r ih => intro x; simp only [List.map_cons, List.foldlM_cons, Sem.run_bind, Builtin.max2, Sem.run_pure, Result.andThen_ok, List.foldl_cons]; exact ih _
      simp only [execOp, ho, resolve, hc, if_true, Sem.run_bind, Sem.run_pure, Result.andThen_ok, invoke, builtin, Builtin.max_, ea]
      rw [hfold]; rfl
    | false =>
      have hfold : ∀ (r : List Int) (x : Int), ((r.map (Value.int .i64)).foldlM Builtin.min2 (Value.int .i64 x)).run P w = .ok (.int .i64 (r.foldl (fun a b => if b < a then b else a) x)) w := by
        intro r
        induction r with
        | nil => intro x; simp
        | cons y r ih => intro x; simp only [List.map_cons, List.foldlM_cons, Sem.run_bind, Builtin.min2, Sem.run_pure, Result.andThen_ok, List.foldl_cons]; exact ih _
      simp only [execOp, ho, resolve, hc, Bool.false_eq_true, if_false, Sem.run_bind, Sem.run_pure, Result.andThen_ok, invoke, builtin, Builtin.min_, ea]
      rw [hfold]; rfl
  · cases hn
end
end Go.Am
