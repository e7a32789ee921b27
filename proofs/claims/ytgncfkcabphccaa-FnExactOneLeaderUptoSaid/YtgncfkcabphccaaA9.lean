/- One operation of Go's code against one of the small machine: cuts, bytes of strings, least and greatest. -/
import Derived.Test.YtgncfkcabphccaaA8
import Derived.Laws.Slices
namespace Go.Am
set_option linter.unusedSimpArgs false
set_option linter.unusedVariables false
variable {P : Program}

theorem run_bound {k : IntKind} {i : Int} {y : Nat} {code : BoundsCode} (w : World) (h0 : 0 ≤ i) (h1 : i ≤ y) : (Instr.sliceBound (.int k i) y code).run P w = .ok i.toNat w := by
  simp [Instr.sliceBound, asIntOf, h0, h1]

def isInt (v : Option Value) (n : Option Int) : Prop := (v = none ∧ n = none) ∨ ∃ k i, v = some (.int k i) ∧ n = some i

theorem run_bounds (w : World) (b : Bool) (len cap : Nat) {lo hi mx : Option Value} {l h m : Option Int} (hl : isInt lo l) (hh : isInt hi h) (hm : isInt mx m) (hmh : mx ≠ none → hi ≠ none)
    (h0 : 0 ≤ l.getD 0) (h1 : l.getD 0 ≤ h.getD len) (h2 : h.getD len ≤ m.getD cap) (h3 : m.getD cap ≤ cap) :
    (Instr.sliceBounds b len cap lo hi mx).run P w = .ok ((l.getD 0).toNat, (h.getD len).toNat, (m.getD cap).toNat) w := by
  unfold Instr.sliceBounds
  rcases hm with ⟨rfl, rfl⟩ | ⟨km, im, rfl, rfl⟩
  · rcases hh with ⟨rfl, rfl⟩ | ⟨kh, ih, rfl, rfl⟩
    · rcases hl with ⟨rfl, rfl⟩ | ⟨kl, il, rfl, rfl⟩
      · simp
      · simp only [Option.getD_some, Option.getD_none] at *
        simp [run_bound w h0 h1]
    · simp only [Option.getD_some, Option.getD_none] at h1 h2 h3
      rcases hl with ⟨rfl, rfl⟩ | ⟨kl, il, rfl, rfl⟩
      · simp only [Option.getD_some, Option.getD_none] at *
        simp [run_bound w (y := cap) (i := ih) (by omega) h2]
      · simp only [Option.getD_some, Option.getD_none] at *
        simp [run_bound w (y := cap) (i := ih) (by omega) h2, run_bound w (y := ih.toNat) (i := il) h0 (by omega)]
  · rcases hh with ⟨rfl, rfl⟩ | ⟨kh, ih, rfl, rfl⟩
    · exact absurd rfl (hmh (by simp))
    · rcases hl with ⟨rfl, rfl⟩ | ⟨kl, il, rfl, rfl⟩
      · simp only [Option.getD_some, Option.getD_none] at *
        simp [run_bound w (y := cap) (i := im) (by omega) h3, run_bound w (y := im.toNat) (i := ih) (by omega) (by omega)]
      · simp only [Option.getD_some, Option.getD_none] at *
        simp [run_bound w (y := cap) (i := im) (by omega) h3, run_bound w (y := im.toNat) (i := ih) (by omega) (by omega), run_bound w (y := ih.toNat) (i := il) h0 (by omega)]

section
variable {o : Oper} {ops : Array Oper} {nt : Nat} {a : Act} {w : World} {φ : Id → Option Addr} {H : Heap} {nx : Nat} {E : AEnv} {T : Tab} {R : Run} {d : Nat}

theorem optI_rel {X : Ctx} (he : EnvRel X E a.tmps) {x : Option Operand} {y : Option Opd} {n : Option Int} (h : optO x = some y) (hn : optI E y = some n) : isInt (x.map a.eval) n := by
  cases x with
  | none =>
    simp only [optO] at h
    obtain rfl := Option.some.inj h
    simp only [optI] at hn
    obtain rfl := Option.some.inj hn
    exact .inl ⟨rfl, rfl⟩
  | some x =>
    simp only [optO] at h
    split at h
    · rename_i z hz
      obtain rfl := Option.some.inj h
      simp only [optI] at hn
      split at hn
      · rename_i i hi
        obtain rfl := Option.some.inj hn
        obtain ⟨k, e⟩ := intOf_rel (opd_rel he hz) hi
        exact .inr ⟨k, i, by simp [e], rfl⟩
      · cases hn
    · cases h

theorem TElems.drop {m : Mem} {sz : Nat} {addr : Addr} : ∀ {l : List TV} {i0 : Nat} (n : Nat), TElems m sz addr i0 l → TElems m sz addr (i0 + n) (l.drop n)
  | [], _, _, _ => by simp [TElems]
  | _ :: _, _, 0, h => h
  | _ :: r, i0, n + 1, h => by
    have := TElems.drop (l := r) n h.2
    rw [show i0 + (n + 1) = i0 + 1 + n from by omega]
    exact this
theorem TElems.take {m : Mem} {sz : Nat} {addr : Addr} : ∀ {l : List TV} {i0 : Nat} (n : Nat), TElems m sz addr i0 l → TElems m sz addr i0 (l.take n)
  | [], _, _, _ => by simp [TElems]
  | _ :: _, _, 0, _ => by simp [TElems]
  | _ :: r, i0, n + 1, h => ⟨h.1, TElems.take (l := r) n h.2⟩
theorem TElems.shift {m : Mem} {sz : Nat} {addr : Addr} (hs : addr.spot = none) : ∀ {l : List TV} {i0 k : Nat}, TElems m sz addr (k + i0) l → TElems m sz (addr.add (k * sz)) i0 l
  | [], _, _, _ => by simp [TElems]
  | _ :: r, i0, k, h => by
    refine ⟨?_, TElems.shift (l := r) hs (by rw [show k + (i0 + 1) = k + i0 + 1 from by omega]; exact h.2)⟩
    obtain ⟨v, h1, h2, h3⟩ := h.1
    refine ⟨v, h1, h2, fun j u hj => ?_⟩
    have := h3 j u hj
    rw [add_add hs, ← Nat.add_assoc, ← Nat.add_mul]
    exact this

theorem does_slice {t : TypeId} {x : Operand} {lo hi mx : Option Operand} {x' : Opd} {lo' hi' mx' : Option Opd} {l h m : Option Int} {v : AV} (ho : o.op = .slice t x lo hi mx)
    (ht : (P.underlying t = some .string ∧ ∃ s, ev E x' = .c (.s (.string s))) ∨ (∃ e n, elemT P t = some e ∧ sizeT P e = some n ∧ (∀ s, ev E x' ≠ .c (.s (.string s))) ∧ (∀ sz xs, ev E x' = .c (.sl sz xs) → sz = n ∨ (h.getD xs.length - l.getD 0).toNat = 0) ∧ (∀ p g q f k, ev E x' = .ref p g q f k → ∃ ob, H p = some ob ∧ ob.sz = n)))
    (hx : opdOf x = some x') (hl : optO lo = some lo') (hh : optO hi = some hi') (hm : optO mx = some mx')
    (hs : SR nt w φ ⟨E, H, nx⟩ a) (hd : ∀ d, o.dst = some d → d < nt) (el : optI E lo' = some l) (eh : optI E hi' = some h) (em : optI E mx' = some m) (hv : sliceV H (ev E x') l h m = some v) :
    Does P o nt a w φ H o.dst E v H nx := by
  have h1 := opd_rel hs.env hx
  have il := optI_rel hs.env hl el
  have ih := optI_rel hs.env hh eh
  have im := optI_rel hs.env hm em
  have hmh : m ≠ none → h ≠ none → (mx.map a.eval ≠ none → hi.map a.eval ≠ none) := by
    intro _ hb _
    rcases ih with ⟨_, e⟩ | ⟨k, i, e, _⟩
    · exact absurd e hb
    · rw [e]; simp
  have hmn : m = none → (mx.map a.eval ≠ none → hi.map a.eval ≠ none) := by
    intro e hne
    rcases im with ⟨e', _⟩ | ⟨k, i, _, e'⟩
    · exact absurd e' hne
    · rw [e] at e'; cases e'
  generalize hev : ev E x' = y at *
  rcases ht with ⟨ht, s, hstr⟩ | ⟨e, n, he, hn, hns, hsl, hrf⟩
  · subst hstr
    obtain ⟨ex, _⟩ := h1
    simp only [sliceV] at hv
    split at hv
    · rename_i hc
      obtain rfl := Option.some.inj hv
      obtain ⟨c0, c1, c2, rfl⟩ := hc
      refine does_pure (v := gStr (s.extract (l.getD 0).toNat (h.getD s.size).toNat)) (x := .string (s.extract (l.getD 0).toNat (h.getD s.size).toNat)) ?_ hs ⟨rfl, rfl⟩ hd
      have hb := run_bounds (P := P) w false s.size s.size il ih (mx := none) (m := none) (.inl ⟨rfl, rfl⟩) (by simp) c0 c1 (by simpa using c2) (by simp)
      have hmx : mx.map a.eval = none := by
        rcases im with ⟨e', _⟩ | ⟨k, i, _, e'⟩
        · exact e'
        · cases e'
      simp only [execOp, ho, ex, hmx]
      simp only [Instr.sliceAt, Sem.run_bind, run_underlying ht, Result.andThen_ok, Instr.slice, Option.isSome_none, Bool.false_eq_true, if_false, hb]
      rfl
    · cases hv
  · have hund := elemT_und he
    have hrun : ∀ (b : Option Addr) (len cap : Nat), a.eval x = .slice b len cap → (mx.map a.eval ≠ none → hi.map a.eval ≠ none) →
        0 ≤ l.getD 0 → l.getD 0 ≤ h.getD len → h.getD len ≤ m.getD cap → m.getD cap ≤ cap →
        (execOp a.eval o).run P w = .ok (.value (.slice (if (m.getD cap).toNat = (l.getD 0).toNat then b else b.map (·.add ((l.getD 0).toNat * n))) ((h.getD len).toNat - (l.getD 0).toNat) ((m.getD cap).toNat - (l.getD 0).toNat))) w := by
      intro b len cap ex hmm c0 c1 c2 c3
      have hb := run_bounds (P := P) w true len cap il ih im hmm c0 c1 c2 c3
      simp only [execOp, ho, ex]
      simp only [Instr.sliceAt, Sem.run_bind, run_underlying hund, Result.andThen_ok, Instr.slice, hb, run_sizeOf hn]
      rfl
    cases y with
    | c t =>
      cases t with
      | s z =>
        cases z with
        | string s => exact absurd rfl (hns s)
        | _ => simp [sliceV] at hv
      | agg => simp [sliceV] at hv
      | sl sz xs =>
        obtain ⟨b, len, cap, ex, hlen, hcap, hr⟩ := h1
        subst hlen
        simp only [sliceV] at hv
        split at hv
        · rename_i hc
          obtain ⟨c0, c1, c2, rfl⟩ := hc
          obtain rfl := Option.some.inj hv
          have hcap' : (cap : Int) = (none : Option Int).getD (cap : Int) := rfl
          refine does_pure (hrun b _ cap ex (hmn rfl) c0 c1 (by simp only [Option.getD_none]; omega) (by simp)) hs ?_ hd
          refine ⟨_, _, _, rfl, by simp; omega, by simp only [Option.getD_none]; omega, ?_⟩
          by_cases hz : (h.getD xs.length).toNat - (l.getD 0).toNat = 0
          · exact .inl hz
          · right
            rcases hr with hr | ⟨addr, rfl, hsp, hel⟩
            · omega
            · have hne : ¬ (((none : Option Int).getD (cap : Int)).toNat = (l.getD 0).toNat) := by simp only [Option.getD_none]; omega
              rw [if_neg hne]
              have hszn : sz = n := (hsl sz xs rfl).resolve_right (by omega)
              subst hszn
              refine ⟨addr.add ((l.getD 0).toNat * sz), rfl, add_spot hsp _, ?_⟩
              refine TElems.take _ (TElems.shift hsp ?_)
              have := TElems.drop (l.getD 0).toNat hel
              simpa using this
        · cases hv
    | nils =>
      have ex : a.eval x = .slice none 0 0 := h1
      simp only [sliceV] at hv
      split at hv
      · rename_i hc
        obtain ⟨c0, c1, rfl⟩ := hc
        obtain rfl := Option.some.inj hv
        refine does_pure (hrun none 0 0 ex (hmn rfl) (by omega) (by simp [c0, c1]) (by simp [c1]) (by simp)) hs ?_ hd
        show _ = _
        simp [c0, c1]
      · cases hv
    | ref p g q f k =>
      obtain ⟨b, cap, ex, hlc, ob, hob, hq⟩ := h1
      obtain ⟨ob', hob', hsz⟩ := hrf p g q f k rfl
      obtain rfl : ob = ob' := Option.some.inj (hob.symm.trans hob')
      have hob2 : H p = some ob := hob
      simp only [sliceV, hob2] at hv
      split at hv
      · rename_i hc
        obtain ⟨g1, g2, c0, c1, c2, c3⟩ := hc
        obtain rfl := Option.some.inj hv
        rcases hq with hq | ⟨q1, q2, q3, q4⟩
        · unfold Stale at hq; omega
        · have hle : h.getD k ≤ m.getD cap ∧ m.getD cap ≤ cap := by
            rcases c3 with rfl | ⟨rfl, _⟩
            · simp only [Option.getD_none]
              rcases q4 with ⟨z, z2⟩ | ⟨_, _, _, z, _⟩ <;> omega
            · simp only [Option.getD_some]
              rcases q4 with ⟨z, z2⟩ | ⟨_, _, _, z, _⟩ <;> omega
          have hmm : mx.map a.eval ≠ none → hi.map a.eval ≠ none := by
            rcases c3 with e | ⟨e, e2⟩
            · exact hmn e
            · exact hmh (by rw [e]; simp) e2
          refine does_pure (hrun b k cap ex hmm c0 c1 hle.1 hle.2) hs ?_ hd
          refine ⟨_, _, by rw [show (h.getD (k : Int) - l.getD 0).toNat = (h.getD (k : Int)).toNat - (l.getD 0).toNat from by omega], by omega, ob, hob, .inr ⟨q1, q2, by omega, ?_⟩⟩
          rcases q4 with ⟨z, z2⟩ | ⟨ba, hba, rfl, z, hroom⟩
          · left
            refine ⟨?_, by omega⟩
            omega
          · by_cases hcz : (m.getD (cap : Int)).toNat = (l.getD 0).toNat
            · left
              refine ⟨by omega, ?_⟩
              rcases c3 with rfl | ⟨rfl, _⟩
              · simp only [Option.getD_none] at hcz; omega
              · simp only [Option.getD_some] at hcz; omega
            · right
              obtain ⟨c', hc', hrel⟩ := hs.sim.obj _ _ hob
              have hcc : ba = c' := Option.some.inj (hba.symm.trans hc')
              subst hcc
              refine ⟨ba, hba, ?_, ?_, ?_⟩
              · rw [if_neg hcz]
                simp only [Option.map_some]
                rw [add_add hrel.spot, hsz, ← Nat.add_mul]
              · rcases c3 with rfl | ⟨rfl, _⟩
                · simp only [Option.getD_none] at *; omega
                · simp only [Option.getD_some] at *; omega
              · refine Nat.le_trans ?_ hroom
                apply Nat.add_le_add_left
                apply Nat.mul_le_mul_right
                omega
      · cases hv
    | _ => simp [sliceV] at hv
end
end Go.Am
