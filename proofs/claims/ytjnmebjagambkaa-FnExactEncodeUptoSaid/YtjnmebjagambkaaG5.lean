/- The machine on typed data against the small machine: operations that touch no memory. -/
import Derived.Test.YtjnmebjagambkaaG4
namespace Go.Am
set_option linter.unusedSimpArgs false
set_option linter.unusedVariables false

section
variable {X : Vw}
theorem intP_rel {v : PV} {a : AV} {k : IntKind} {n : Int} (h : intP v = some (k, n)) (hr : VR X v a) : a = .c (.s (.int k n)) := by
  cases v with
  | d p t x =>
    cases t with
    | int k' =>
      cases h
      obtain ⟨Li, h1, _⟩ := hr
      exact h1.1
    | _ => cases h
  | _ => cases h
theorem boolP_rel {v : PV} {a : AV} {b : Bool} (h : boolP v = some b) (hr : VR X v a) : a = .c (.s (.bool b)) := by
  cases v with
  | d p t x =>
    cases t with
    | bool =>
      cases h
      obtain ⟨Li, h1, _⟩ := hr
      exact h1.1
    | _ => cases h
  | _ => cases h
theorem bytP_rel {v : PV} {a : AV} {s : List UInt8} (h : bytP v = some s) (hr : VR X v a) : a = .c (.s (.string ⟨s.toArray⟩)) := by
  cases v with
  | d p t x =>
    cases t with
    | str =>
      cases h
      obtain ⟨Li, h1, _⟩ := hr
      exact h1.1
    | _ => cases h
  | _ => cases h
theorem vr_int {p : Bool} {k : IntKind} {n : Int} : VR X (.d p (.int k) n) (.c (.s (.int k n))) := ⟨[], ⟨rfl, rfl⟩, fun _ => rfl, fun i hi => by cases hi⟩
theorem vr_bool {p : Bool} {b : Bool} : VR X (.d p .bool b) (.c (.s (.bool b))) := ⟨[], ⟨rfl, rfl⟩, fun _ => rfl, fun i hi => by cases hi⟩
theorem vr_str {p : Bool} {s : List UInt8} : VR X (.d p .str s) (.c (.s (.string ⟨s.toArray⟩))) := ⟨[], ⟨rfl, rfl⟩, fun _ => rfl, fun i hi => by cases hi⟩
end

theorem size_mk (l : List UInt8) : (⟨l.toArray⟩ : ByteArray).size = l.length := by simp [ByteArray.size]
theorem toList_mk (l : List UInt8) : (⟨l.toArray⟩ : ByteArray).toList = l := by rw [ByteArray.toList_eq]
theorem append_mk (a b : List UInt8) : (⟨a.toArray⟩ : ByteArray) ++ (⟨b.toArray⟩ : ByteArray) = ⟨(a ++ b).toArray⟩ := by
  apply ByteArray.ext; simp
theorem extract_mk (a : List UInt8) (i j : Nat) : (⟨a.toArray⟩ : ByteArray).extract i j = ⟨((a.drop i).take (j - i)).toArray⟩ := by
  apply ByteArray.ext
  simp [ByteArray.data_extract, List.extract_eq_take_drop]
theorem get_mk (a : List UInt8) (i : Nat) : (⟨a.toArray⟩ : ByteArray)[i]? = a[i]? := by
  by_cases h : i < a.length
  · rw [getElem?_pos _ _ (by simpa [ByteArray.size] using h)]
    simp [h, ByteArray.getElem_eq_getElem_data]
  · rw [getElem?_neg _ _ (by simpa [ByteArray.size] using h)]
    simp at h
    simp [h]

theorem guardK_some {ρ : Type} {c : Bool} {k : Option ρ} {r : ρ} (h : guardK c k = some r) : c = true ∧ k = some r := by
  rw [guardK_def] at h
  cases c with
  | true => exact ⟨rfl, h⟩
  | false => cases h
theorem idxK_some {α ρ : Type} {xs : List α} {i : Int} {k : α → Option ρ} {r : ρ} (h : idxK xs i k = some r) : 0 ≤ i ∧ ∃ x, xs[i.toNat]? = some x ∧ k x = some r := by
  rw [idxK_def] at h
  split at h
  · rename_i h0
    split at h
    · rename_i x hx; exact ⟨h0, x, hx, h⟩
    · cases h
  · cases h
theorem bndK_some {ρ : Type} {len : Nat} {l h : Int} {k : Nat → Nat → Option ρ} {r : ρ} (e : bndK len l h k = some r) : 0 ≤ l ∧ l ≤ h ∧ h ≤ len ∧ k l.toNat (h - l).toNat = some r := by
  rw [bndK_def] at e
  split at e
  · rename_i h0; exact ⟨h0.1, h0.2.1, h0.2.2, e⟩
  · cases e

section
variable {T : Tab} {Rn : Run} {d : Nat} {anV : List AV} {P0 : Id → Prop} {H0 : Heap} {ps : PS} {μ : Nat → AV} {L : Nat → List Id} {E : AEnv} {H : Heap} {nx : Nat} {dst : Option Nat} {hn : Hints} {pm : List Nat} {ρ : Type} {r : ρ} {k : PV → PS → Option ρ}

/-- An operation that leaves the state. -/
def PureOK (T : Tab) (Rn : Run) (d : Nat) (dst : Option Nat) (E : AEnv) (ps : PS) (μ : Nat → AV) (L : Nat → List Id) (H : Heap) (nx : Nat) {ρ : Type} (k : PV → PS → Option ρ) (r : ρ) (o : AOp) : Prop :=
  ∃ v av, k v ps = some r ∧ operV T Rn d dst E H nx o = some (av, H, nx) ∧ VR ⟨d, ps.heap, μ, L, H, nx⟩ v av

theorem binI_ok {op : BinOp} {kd kd' : IntKind} {a b : Int} {kk : PV → Option ρ} (hk : kd = kd' ∨ isShift op = true) (h : binI op kd a b kk = some r) :
    ∃ v x, kk v = some r ∧ binV op (.int kd a) (.int kd' b) = some x ∧ ∀ X : Vw, VR X v (.c (.s x)) := by
  cases op
  case shl | shr =>
    simp only [binI, iAdd_def, iSub_def, iMul_def, iQuo_def, iRem_def, iAnd_def, iOr_def, iXor_def, iAndNot_def, iShl_def, iShr_def, iEq_def, iNe_def, iLt_def, iLe_def, iGt_def, iGe_def, gNn_def, gNz_def] at h
    obtain ⟨h1, h2⟩ := guardK_some h
    have hb : ¬ b < 0 := by simpa using h1
    exact ⟨_, _, h2, by simp only [binV, shiftV, hb, if_false] <;> rfl, fun X => vr_int⟩
  case quo | rem =>
    simp only [binI, iAdd_def, iSub_def, iMul_def, iQuo_def, iRem_def, iAnd_def, iOr_def, iXor_def, iAndNot_def, iShl_def, iShr_def, iEq_def, iNe_def, iLt_def, iLe_def, iGt_def, iGe_def, gNn_def, gNz_def] at h
    obtain ⟨h1, h2⟩ := guardK_some h
    have hb : b ≠ 0 := by simpa using h1
    obtain rfl : kd = kd' := hk.resolve_right (by simp [isShift])
    exact ⟨_, _, h2, by simp only [binV, intV, hb, if_false, if_true] <;> rfl, fun X => vr_int⟩
  case add | sub | mul | and | or | xor | andNot =>
    simp only [binI, iAdd_def, iSub_def, iMul_def, iQuo_def, iRem_def, iAnd_def, iOr_def, iXor_def, iAndNot_def, iShl_def, iShr_def, iEq_def, iNe_def, iLt_def, iLe_def, iGt_def, iGe_def, gNn_def, gNz_def] at h
    obtain rfl : kd = kd' := hk.resolve_right (by simp [isShift])
    exact ⟨_, _, h, by simp only [binV, intV, if_true] <;> rfl, fun X => vr_int⟩
  case eql | neq | lss | leq | gtr | geq =>
    simp only [binI, iAdd_def, iSub_def, iMul_def, iQuo_def, iRem_def, iAnd_def, iOr_def, iXor_def, iAndNot_def, iShl_def, iShr_def, iEq_def, iNe_def, iLt_def, iLe_def, iGt_def, iGe_def, gNn_def, gNz_def] at h
    obtain rfl : kd = kd' := hk.resolve_right (by simp [isShift])
    exact ⟨_, _, h, by simp only [binV, intV, if_true] <;> rfl, fun X => vr_bool⟩
  all_goals first | (simp only [binI, iAdd_def, iSub_def, iMul_def, iQuo_def, iRem_def, iAnd_def, iOr_def, iXor_def, iAndNot_def, iShl_def, iShr_def, iEq_def, iNe_def, iLt_def, iLe_def, iGt_def, iGe_def, gNn_def, gNz_def] at h; cases h; done) | skip

theorem binS_ok {op : BinOp} {a b : List UInt8} {kk : PV → Option ρ} (h : binS' op a b kk = some r) :
    ∃ v x, kk v = some r ∧ binV op (.string ⟨a.toArray⟩) (.string ⟨b.toArray⟩) = some x ∧ ∀ X : Vw, VR X v (.c (.s x)) := by
  cases op
  case add =>
    simp only [binS', strEq_def, strLess_def, bNot_def, bOr_def, cat_def, gCat_def] at h
    obtain ⟨h1, h2⟩ := guardK_some h
    have hb : a.length + b.length ≤ 140737488355328 := by simpa using h1
    refine ⟨_, _, h2, ?_, fun X => vr_str (s := a ++ b)⟩
    simp only [binV, strV, size_mk, hb, if_true, append_mk]
  case eql | neq | lss | leq | gtr | geq =>
    simp only [binS', strEq_def, strLess_def, bNot_def, bOr_def, cat_def, gCat_def] at h
    refine ⟨_, _, h, ?_, fun X => vr_bool⟩
    simp only [binV, strV, cmpV, toList_mk] <;> rfl
  all_goals first | (simp only [binS', strEq_def, strLess_def, bNot_def, bOr_def, cat_def, gCat_def] at h; cases h; done) | skip

theorem castK_heq {t t' : Kd} {x : t.den} {y : t'.den} (h : castK t t' x = some y) : t = t' ∧ HEq x y := by
  obtain ⟨rfl, rfl⟩ := castK_eq h; exact ⟨rfl, HEq.rfl⟩

theorem vr_pick {X : Vw} {p q : Bool} {t : Kd} {x y : t.den} {a b : AV} {c : Bool} (h1 : VR X (.d p t x) a) (h2 : VR X (.d q t y) b) : VR X (.d (p && q) t (bif c then x else y)) (if c = true then a else b) := by
  cases c with
  | true =>
    obtain ⟨Li, k1, k2, k3⟩ := h1
    exact ⟨Li, k1, fun h => k2 (h.imp (fun h => by simp at h; exact h.1) id), k3⟩
  | false =>
    obtain ⟨Li, k1, k2, k3⟩ := h2
    exact ⟨Li, k1, fun h => k2 (h.imp (fun h => by simp at h; exact h.2) id), k3⟩

variable (R : Rel d anV P0 H0 ps μ L E H nx)
include R

theorem ok_mov {x : Opd} (h : opP hn pm dst ps (.mov x) k = some r) : PureOK T Rn d dst E ps μ L H nx k r (.mov x) :=
  ⟨_, _, h, rfl, R.pev x⟩

theorem ok_pick {c a b : Opd} (h : opP hn pm dst ps (.pick c a b) k = some r) : PureOK T Rn d dst E ps μ L H nx k r (.pick c a b) := by
  simp only [opP] at h
  split at h
  · rename_i t p tx x q ty y hc ha hb
    split at h
    · rename_i y' hy
      have h1 := boolP_rel hc (R.pev c)
      have h2 := R.pev a
      have h3 := R.pev b
      rw [ha] at h2
      rw [hb] at h3
      obtain ⟨rfl, rfl⟩ := castK_eq hy
      exact ⟨_, _, h, by simp only [operV, h1], vr_pick h2 h3⟩
    · cases h
  · cases h

theorem ok_nilc {x : Opd} (h : opP hn pm dst ps (.nilc x) k = some r) : PureOK T Rn d dst E ps μ L H nx k r (.nilc x) := by
  simp only [opP] at h
  have h1 := R.pev x
  split at h
  · rename_i a f hx
    rw [hx] at h1
    have h1' := h1
    obtain ⟨_, o, g, _, h3⟩ := h1
    exact ⟨_, ev E x, h, by simp only [operV, h3], h1'⟩
  · rename_i a v i f e x' hx
    rw [hx] at h1
    have h1' := h1
    obtain ⟨_, o, g, n, off0, len0, _, _, h3, _⟩ := h1
    exact ⟨_, ev E x, h, by simp only [operV, h3], h1'⟩
  · rename_i p e x' f hx
    rw [hx] at h1
    have h1' := h1
    rcases h1 with ⟨y, h3, _⟩ | ⟨_, o, g, n, j, b, w, Li, h3, _⟩
    · exact ⟨_, ev E x, h, by simp only [operV, h3], h1'⟩
    · exact ⟨_, ev E x, h, by simp only [operV, h3], h1'⟩
  · rename_i t v f hx
    rw [hx] at h1
    have h1' := h1
    obtain ⟨_, _, o, g, b, w, _, h3, _⟩ := h1
    exact ⟨_, ev E x, h, by simp only [operV, h3], h1'⟩
  · rename_i f l hx
    rw [hx] at h1
    have h1' := h1
    obtain ⟨vs, h3, _⟩ := h1
    exact ⟨_, ev E x, h, by simp only [operV, h3], h1'⟩
  · cases h

theorem ok_bin {op : BinOp} {x y : Opd} (h : opP hn pm dst ps (.bin op x y) k = some r) : PureOK T Rn d dst E ps μ L H nx k r (.bin op x y) := by
  simp only [opP] at h
  have h1 := R.pev x
  have h2 := R.pev y
  split at h
  · rename_i kd a kd' b hx hy
    have e1 := intP_rel hx h1
    have e2 := intP_rel hy h2
    split at h
    · rename_i hk
      obtain ⟨v, z, k1, k2, k3⟩ := binI_ok hk h
      exact ⟨v, _, k1, by simp only [operV, e1, e2, k2], k3 _⟩
    · cases h
  · split at h
    · rename_i a b hx hy
      have e1 := bytP_rel hx h1
      have e2 := bytP_rel hy h2
      obtain ⟨v, z, k1, k2, k3⟩ := binS_ok h
      exact ⟨v, _, k1, by simp only [operV, e1, e2, k2], k3 _⟩
    · cases h

theorem ok_binB {op : BinOp} {x y : Opd} (h : opP hn pm dst ps (.binB op x y) k = some r) : PureOK T Rn d dst E ps μ L H nx k r (.binB op x y) := by
  simp only [opP, bEq_def, bNe_def] at h
  split at h
  · rename_i a b hx hy
    have e1 := boolP_rel hx (R.pev x)
    have e2 := boolP_rel hy (R.pev y)
    split at h
    · exact ⟨_, _, h, by simp only [operV, e1, e2]; rfl, vr_bool⟩
    · exact ⟨_, _, h, by simp only [operV, e1, e2]; rfl, vr_bool⟩
    · cases h
  · cases h

theorem ok_un {op : UnOp} {x : Opd} (h : opP hn pm dst ps (.un op x) k = some r) : PureOK T Rn d dst E ps μ L H nx k r (.un op x) := by
  simp only [opP, bNot_def, iSub_def] at h
  split at h
  · split at h
    · rename_i b hx
      have e1 := boolP_rel hx (R.pev x)
      exact ⟨_, _, h, by simp only [operV, e1, unV] <;> rfl, vr_bool⟩
    · cases h
  · split at h
    · rename_i kd n hx
      have e1 := intP_rel hx (R.pev x)
      exact ⟨_, _, h, by simp only [operV, e1, unV] <;> rfl, vr_int⟩
    · cases h
  · cases h

theorem ok_conv {kd : IntKind} {x : Opd} (h : opP hn pm dst ps (.conv kd x) k = some r) : PureOK T Rn d dst E ps μ L H nx k r (.conv kd x) := by
  simp only [opP, iConv_def] at h
  split at h
  · rename_i k' n hx
    have e1 := intP_rel hx (R.pev x)
    exact ⟨_, _, h, by simp only [operV, e1] <;> rfl, vr_int⟩
  · cases h

theorem ok_same {x : Opd} (h : opP hn pm dst ps (.same x) k = some r) : PureOK T Rn d dst E ps μ L H nx k r (.same x) := by
  simp only [opP] at h
  split at h
  · rename_i s hx
    have e1 := bytP_rel hx (R.pev x)
    exact ⟨_, _, h, by simp only [operV, e1, AV.isStr, if_true], vr_str⟩
  · cases h

theorem ok_mkfn {f : Nat} {l : List Opd} (h : opP hn pm dst ps (.mkfn f l) k = some r) : PureOK T Rn d dst E ps μ L H nx k r (.mkfn f l) :=
  ⟨_, _, h, rfl, _, rfl, R.pevs l⟩

theorem ok_index {x i : Opd} (h : opP hn pm dst ps (.index x i) k = some r) : PureOK T Rn d dst E ps μ L H nx k r (.index x i) := by
  simp only [opP, byteI_def] at h
  split at h
  · rename_i s ki j hx hi
    have e1 := bytP_rel hx (R.pev x)
    have e2 := intP_rel hi (R.pev i)
    obtain ⟨h0, b, hb, hk⟩ := idxK_some h
    exact ⟨_, _, hk, by simp only [operV, e1, e2, intOfV, h0, if_true, get_mk, hb] <;> rfl, vr_int⟩
  · cases h

theorem ok_faddr {x : Opd} {off : Nat} (h : opP hn pm dst ps (.faddr x off) k = some r) : PureOK T Rn d dst E ps μ L H nx k r (.faddr x off) := by
  simp only [opP] at h
  have h1 := R.pev x
  split at h
  · rename_i a f hx
    rw [hx] at h1
    obtain ⟨h0, o, g, h2, h3⟩ := h1
    exact ⟨_, _, h, by simp only [operV, h3], h0, o, g, h2, rfl⟩
  · rename_i a v i f e x hx
    rw [hx] at h1
    obtain ⟨h0, o, g, n, off0, len0, h2, h4, h3, h5⟩ := h1
    exact ⟨_, _, h, by simp only [operV, h3], h0, o, g, n, off0, len0, h2, h4, rfl, h5⟩
  · rename_i p e x f hx
    rw [hx] at h1
    rcases h1 with ⟨y, h3, h4⟩ | ⟨h0, o, g, n, j, b, w, Li, h3, h4⟩
    · exact ⟨_, _, h, by simp only [operV, h3], .inl ⟨y, rfl, h4⟩⟩
    · exact ⟨_, _, h, by simp only [operV, h3], .inr ⟨h0, o, g, n, j, b, w, Li, rfl, h4⟩⟩
  · rename_i t v f hx
    rw [hx] at h1
    obtain ⟨h0, h0', o, g, b, w, h2, h3, h4⟩ := h1
    exact ⟨_, _, h, by simp only [operV, h3], h0, h0', o, g, b, w, h2, rfl, h4⟩
  · cases h

theorem ok_extract {x : Opd} {i : Nat} (h : opP hn pm dst ps (.extract x i) k = some r) : PureOK T Rn d dst E ps μ L H nx k r (.extract x i) := by
  simp only [opP] at h
  have h1 := R.pev x
  split at h
  · rename_i l hx
    rw [hx] at h1
    obtain ⟨vs, h2, h3⟩ := h1
    split at h
    · rename_i v hv
      have key : ∀ (l : List PV) (vs : List AV) (i : Nat) (v : PV), VRs ⟨d, ps.heap, μ, L, H, nx⟩ l vs → l[i]? = some v → ∃ a, vs[i]? = some a ∧ VR ⟨d, ps.heap, μ, L, H, nx⟩ v a := by
        intro l
        induction l with
        | nil => intro vs i v _ h; simp at h
        | cons y q ih =>
          intro vs i v hr h
          cases vs with
          | nil => exact hr.elim
          | cons a as =>
            cases i with
            | zero => simp at h; subst h; exact ⟨a, rfl, hr.1⟩
            | succ i => simpa using ih as i v hr.2 (by simpa using h)
      obtain ⟨a, k1, k2⟩ := key l vs i v h3 hv
      exact ⟨_, _, h, by simp only [operV, h2, k1], k2⟩
    · cases h
  · cases h

theorem intsOf_rel : ∀ {l : List Opd} {ns : List Int}, intsOf (l.map (pev ps)) = some ns → i64s (l.map (ev E)) = some ns
  | [], ns, h => by simp [intsOf] at h; subst h; rfl
  | x :: q, ns, h => by
    simp only [List.map_cons, intsOf] at h
    split at h
    · rename_i n m hx hm
      cases h
      have e1 := intP_rel hx (R.pev x)
      simp only [List.map_cons, e1, i64s, intsOf_rel hm]
    · cases h

omit R in
theorem minmaxI_eq (mx : Bool) : ∀ (l : List Int) (a : Int), minmaxI mx l a = l.foldl (fun a b => if mx = true then (if b > a then b else a) else (if b < a then b else a)) a
  | [], a => rfl
  | b :: q, a => by
    simp only [minmaxI, List.foldl_cons]
    rw [minmaxI_eq mx q]
    congr 1
    cases mx <;> simp [iMax_def, iMin_def]

theorem ok_minmax {mx : Bool} {l : List Opd} (h : opP hn pm dst ps (.minmax mx l) k = some r) : PureOK T Rn d dst E ps μ L H nx k r (.minmax mx l) := by
  simp only [opP] at h
  split at h
  · rename_i a q hx
    have e1 := intsOf_rel R hx
    exact ⟨_, _, h, by simp only [operV, minMax, e1]; rfl, by rw [← minmaxI_eq]; exact vr_int⟩
  · cases h
end
end Go.Am

/- The machine on typed data against the small machine: operations that read. -/
namespace Go.Am
set_option linter.unusedSimpArgs false
set_option linter.unusedVariables false

section
variable {X : Vw}

theorem VRs.len : ∀ {vs : List PV} {as : List AV}, VRs X vs as → vs.length = as.length
  | [], [], _ => rfl
  | [], _ :: _, h => h.elim
  | _ :: _, [], h => h.elim
  | x :: r, v :: q, h => by simp [VRs.len h.2]
theorem VRs.drop : ∀ {vs : List PV} {as : List AV} (n : Nat), VRs X vs as → VRs X (vs.drop n) (as.drop n)
  | vs, as, 0, h => by simpa using h
  | [], [], n + 1, _ => by simp [VRs]
  | [], _ :: _, _ + 1, h => h.elim
  | _ :: _, [], _ + 1, h => h.elim
  | x :: r, v :: q, n + 1, h => by simpa using VRs.drop n h.2
theorem VRs.take : ∀ {vs : List PV} {as : List AV} (n : Nat), VRs X vs as → VRs X (vs.take n) (as.take n)
  | vs, as, 0, h => by simp [VRs]
  | [], [], n + 1, _ => by simp [VRs]
  | [], _ :: _, _ + 1, h => h.elim
  | _ :: _, [], _ + 1, h => h.elim
  | x :: r, v :: q, n + 1, h => by simpa [VRs] using ⟨h.1, VRs.take n h.2⟩
theorem VRs.app : ∀ {vs us : List PV} {as bs : List AV}, VRs X vs as → VRs X us bs → VRs X (vs ++ us) (as ++ bs)
  | [], us, [], bs, _, h => h
  | [], _, _ :: _, _, h, _ => h.elim
  | _ :: _, _, [], _, h, _ => h.elim
  | x :: r, us, v :: q, bs, h, k => ⟨h.1, VRs.app h.2 k⟩
theorem VRs.get : ∀ {vs : List PV} {as : List AV} {i : Nat} {v : PV}, VRs X vs as → vs[i]? = some v → ∃ a, as[i]? = some a ∧ VR X v a
  | [], _, i, v, _, h => by simp at h
  | _ :: _, [], _, _, h, _ => h.elim
  | y :: q, a :: as, i, v, hr, h => by
    cases i with
    | zero => simp at h; subst h; exact ⟨a, rfl, hr.1⟩
    | succ i => simpa using VRs.get hr.2 (by simpa using h)

theorem known_ok {v : PV} (h : cellOK v = true) : v.known = true := by
  cases v <;> first | rfl | simp [cellOK, cellLeaf] at h
theorem known_agg {v : PV} (h : v.isAgg = true) : v.known = true := by
  cases v <;> first | rfl | simp [PV.isAgg] at h

theorem cellOK_stor {v : PV} {a : AV} (h : cellOK v = true) (hr : VR X v a) : stor a = true ∧ 0 < a.cells.length := by
  cases v with
  | agg cs =>
    simp only [cellOK, Bool.and_eq_true] at h
    obtain ⟨h1, h2⟩ := hr
    refine ⟨by cases a <;> simp_all [AV.isAgg, stor], ?_⟩
    rw [← h2.len]
    cases cs with
    | nil => simp at h
    | cons => simp
  | d p t x =>
    obtain ⟨Li, h1, _⟩ := hr
    refine ⟨h1.stor.1, ?_⟩
    rw [h1.stor.2.1]
    cases t with
    | st fs =>
      cases fs with
      | nil => simp [cellOK] at h
      | cons => simp [Kd.cn]
    | _ => simp [Kd.cn]
  | nils => obtain rfl : a = .nils := hr; exact ⟨rfl, by simp [AV.cells]⟩
  | own b =>
    obtain ⟨_, _, h3⟩ := hr
    cases a <;> first | exact h3.elim | exact ⟨rfl, by simp [AV.cells]⟩
  | _ => simp [cellOK, cellLeaf] at h

theorem fillP_rel : ∀ (ps : List (Nat × Nat × PV)) (qs : List (Nat × Nat × AV)) (cs : List PV) (as : List AV) (us : List PV), VRs X cs as →
    (ps.map (fun p => (p.1, p.2.1)) = qs.map (fun p => (p.1, p.2.1))) → VRs X (ps.map (fun p => p.2.2)) (qs.map (fun p => p.2.2)) → opP.fillP cs ps = some us → ∃ bs, fillCells as qs = some bs ∧ VRs X us bs
  | [], [], cs, as, us, h, _, _, e => by cases e; exact ⟨as, rfl, h⟩
  | [], _ :: _, _, _, _, _, h, _, _ => by simp at h
  | _ :: _, [], _, _, _, _, h, _, _ => by simp at h
  | (off, n, v) :: r, (off', n', a) :: q, cs, as, us, h, he, hv, e => by
    simp only [List.map_cons, List.cons.injEq, Prod.mk.injEq] at he
    obtain ⟨⟨rfl, rfl⟩, he⟩ := he
    simp only [opP.fillP] at e
    split at e
    · cases e
    · rename_i hok
      split at e
      · rename_i hc
        have h1 : VR X v a := hv.1
        obtain ⟨c1, c2⟩ := cells_rel v a (known_ok hok) h1
        have hl := c1.len
        have hl2 := h.len
        have hst := (cellOK_stor hok h1).1
        obtain ⟨bs, k1, k2⟩ := fillP_rel r q _ (as.take off ++ a.cells ++ as.drop (off + n)) us ((h.take off).app c1 |>.app (h.drop (off + n))) he hv.2 e
        refine ⟨bs, ?_, k2⟩
        simp only [fillCells]
        rw [if_pos ⟨by omega, hst⟩]
        unfold putCells
        rw [if_pos (by omega)]
        have : a.cells.length = n := by omega
        rw [this]
        exact k1
      · cases e

theorem eqLeaf_rel {l : Lf} {v u : PV} {a b : AV} {q : Bool} (h1 : VR X v a) (h2 : VR X u b) (h : eqLeaf l v u = some q) : ∃ x y, a = .c (.s x) ∧ b = .c (.s y) ∧ sameV l x y = some q := by
  unfold eqLeaf at h
  simp only [iEq_def, strEq_def, bEq_def] at h
  split at h
  · split at h
    · rename_i k n k' m e1 e2
      split at h
      · rename_i hk
        cases h
        exact ⟨_, _, intP_rel e1 h1, intP_rel e2 h2, by simp only [sameV]; rw [if_pos hk]⟩
      · cases h
    · cases h
  · split at h
    · rename_i s t e1 e2
      cases h
      exact ⟨_, _, bytP_rel e1 h1, bytP_rel e2 h2, by simp only [sameV, toList_mk]⟩
    · cases h
  · split at h
    · rename_i s t e1 e2
      cases h
      exact ⟨_, _, boolP_rel e1 h1, boolP_rel e2 h2, by simp only [sameV]⟩
    · cases h

theorem eqLeafs_rel : ∀ (ls : List Lf) (vs us : List PV) (as bs : List AV) (q : Bool), VRs X vs as → VRs X us bs → eqLeafs ls vs us = some q → sameL ls as bs = some q
  | [], [], [], [], [], q, _, _, h => by simpa [eqLeafs, sameL] using h
  | [], [], [], _ :: _, _, _, h, _, _ => h.elim
  | [], [], [], _, _ :: _, _, _, h, _ => h.elim
  | [], _ :: _, _, _, _, _, _, _, h => by simp [eqLeafs] at h
  | [], [], _ :: _, _, _, _, _, _, h => by simp [eqLeafs] at h
  | [l], [x], [y], [a], [b], q, h1, h2, h => by
    simp only [eqLeafs] at h
    obtain ⟨u, w, rfl, rfl, e⟩ := eqLeaf_rel h1.1 h2.1 h
    simp [sameL, e]
  | [l], [x], [y], a :: a' :: r, _, _, h, _, _ => h.2.elim
  | [l], [x], [y], [], _, _, h, _, _ => h.elim
  | [l], [x], [y], [a], b :: b' :: r, _, _, h, _ => h.2.elim
  | [l], [x], [y], [a], [], _, _, h, _ => h.elim
  | [l], [], _, _, _, _, _, _, h => by simp [eqLeafs] at h
  | [l], [x], [], _, _, _, _, _, h => by simp [eqLeafs] at h
  | [l], x :: x' :: r, us, as, bs, q, h1, h2, h => by
    cases us with
    | nil => simp [eqLeafs] at h
    | cons y us =>
      simp only [eqLeafs, bAnd_def] at h
      split at h
      · rename_i e1 e2
        cases us <;> simp [eqLeafs] at e2
      · cases h
  | [l], [x], y :: y' :: r, as, bs, q, h1, h2, h => by
    simp only [eqLeafs, bAnd_def] at h
    split at h
    · rename_i e1 e2
      simp [eqLeafs] at e2
    · cases h
  | l :: l' :: ls, vs, us, as, bs, q, h1, h2, h => by
    cases vs with
    | nil => cases us <;> simp [eqLeafs] at h
    | cons x vs =>
      cases us with
      | nil => simp [eqLeafs] at h
      | cons y us =>
        cases as with
        | nil => exact h1.elim
        | cons a as =>
          cases bs with
          | nil => exact h2.elim
          | cons b bs =>
            simp only [eqLeafs, bAnd_def] at h
            split at h
            · rename_i p p' e1 e2
              cases h
              obtain ⟨u, w, rfl, rfl, e⟩ := eqLeaf_rel h1.1 h2.1 e1
              have e3 := eqLeafs_rel (l' :: ls) vs us as bs p' h1.2 h2.2 e2
              simp only [sameL, e, e3] <;> rfl
            · cases h

/-- A slice's elements. -/
theorem Rep.elems {own : Bool} {H : Heap} {sz : Nat} {e : Kd} {xs : List e.den} {a : AV} {L : List Id} (h : Rep own H (.sl sz e) xs a L) : ∃ es L', Go.Am.elems H a = some es ∧ RepL (Rep own H e) xs es L' ∧ ∀ i ∈ L', i ∈ L := by
  rcases h with ⟨rfl, h2, _⟩ | ⟨h0, z, ts, rfl, h2, h3, h4⟩ | ⟨o, g, n, off, len, b, L', rfl, h2, h3, h4, h5, h6, h7, h8, h9⟩
  · have h2 : xs = [] := h2
    subst h2; exact ⟨[], [], rfl, rfl, fun i hi => by cases hi⟩
  · exact ⟨_, [], rfl, h3, fun i hi => by cases hi⟩
  · subst h8
    refine ⟨_, L', ?_, h7, fun i hi => by simp [hi]⟩
    simp only [Go.Am.elems, elemsOf, h2]
    rw [if_pos ⟨h3, h4, h5⟩]

theorem bytesOf_rel {own : Bool} {H : Heap} : ∀ (xs : List Int) (es : List AV) (L : List Id), RepL (Rep own H (.int .u8)) xs es L → bytesOf.go es = some (strP xs)
  | [], [], _, _ => by rw [strP_def]; rfl
  | [], _ :: _, _, h => h.elim
  | _ :: _, [], _, h => h.elim
  | n :: xs, a :: es, L, ⟨L1, L2, h1, h2, _⟩ => by
    obtain ⟨rfl, _⟩ := h1
    simp only [bytesOf.go, bytesOf_rel xs es L2 h2, strP_def]
    rfl

theorem Rep.lenV {own : Bool} {H : Heap} {sz : Nat} {e : Kd} {xs : List e.den} {a : AV} {L : List Id} (h : Rep own H (.sl sz e) xs a L) : Go.Am.lenV a = some xs.length ∧ a.isStr = false := by
  rcases h with ⟨rfl, h2, _⟩ | ⟨h0, z, ts, rfl, h2, h3, h4⟩ | ⟨o, g, n, off, len, b, L', rfl, h2, h3, h4, h5, h6, h7, h8, h9⟩
  · have h2 : xs = [] := h2
    subst h2; exact ⟨rfl, rfl⟩
  · have := RepL.len h3
    simp at this
    exact ⟨by simp [Go.Am.lenV, this], rfl⟩
  · have := RepL.len h7
    simp only [List.length_take, List.length_drop] at this
    exact ⟨by simp [Go.Am.lenV]; omega, rfl⟩

/-- Part of a slice. -/
theorem Rep.slice {H : Heap} {sz : Nat} {e : Kd} {xs : List e.den} {a : AV} {L : List Id} (h : Rep false H (.sl sz e) xs a L) {l n : Nat} (hb : l + n ≤ xs.length) (hsz : sz ≠ 0) {lo hi : Option Int} (hlo : lo.getD 0 = l) (hhi : hi.getD xs.length = (l : Int) + n) :
    ∃ b, sliceV H a lo hi none = some b ∧ szOk H sz b = true ∧ a.isStr = (sz == 0) ∧ ∃ L', Rep false H (.sl sz e) (sub xs l n) b L' ∧ ∀ i ∈ L', i ∈ L := by
  rw [sub_def]
  have hz : (sz == 0) = false := by simpa using hsz
  rcases h with ⟨rfl, h2, rfl⟩ | ⟨h0, z, ts, rfl, h2, h3, rfl⟩ | ⟨o, g, m, off, len, b, L', rfl, h2, h3, h4, h5, h6, h7, rfl, h9⟩
  · have h2 : xs = [] := h2
    subst h2
    simp only [List.length_nil] at hb hhi
    obtain rfl : l = 0 := by omega
    obtain rfl : n = 0 := by omega
    refine ⟨.nils, ?_, rfl, by rw [hz]; rfl, [], .inl ⟨rfl, rfl, rfl⟩, fun i hi => hi⟩
    have e2 : hi.getD 0 = 0 := by cases hi <;> simp_all
    simp only [sliceV, hlo, e2]; simp
  · have hl := RepL.len h3
    simp at hl
    refine ⟨.c (.sl z ((ts.drop l).take n)), ?_, ?_, by rw [hz]; rfl, [], .inr (.inl ⟨rfl, z, (ts.drop l).take n, rfl, ?_, ?_, rfl⟩), fun i hi => hi⟩
    · have this : hi.getD ts.length = (l : Int) + n := by rw [← hl]; exact hhi
      have c : 0 ≤ lo.getD 0 ∧ lo.getD 0 ≤ hi.getD ts.length ∧ hi.getD ts.length ≤ ts.length ∧ True := by
        rw [hlo, this]; exact ⟨by omega, by omega, by omega, trivial⟩
      simp only [sliceV]
      rw [if_pos c, hlo, this]
      rw [show ((l : Int) + n - l).toNat = n from by omega, show (l : Int).toNat = l from by omega]
    · simp only [szOk]
      rcases h2 with rfl | rfl <;> simp
    · rcases h2 with rfl | rfl
      · exact .inl rfl
      · right; simp
    · obtain ⟨M, m1, m2⟩ := h3.sub l n
      have e : M = [] := List.eq_nil_iff_forall_not_mem.2 fun i hi => by simpa using m2 i hi
      subst e
      have e2 : ((ts.drop l).take n).map AV.c = ((ts.map AV.c).drop l).take n := by simp [List.map_take, List.map_drop]
      rw [e2]
      exact m1
  · have hl := RepL.len h7
    simp only [List.length_take, List.length_drop] at hl
    obtain ⟨M, m1, m2⟩ := h7.sub l n
    refine ⟨.ref o g m (off + l) n, ?_, ?_, by rw [hz]; rfl, o :: M, .inr (.inr ⟨o, g, m, off + l, n, b, M, rfl, h2, h3, h4, by omega, h6, ?_, rfl, (fun h => by cases h), h9.2⟩), ?_⟩
    · have e1 : xs.length = len := by omega
      rw [e1] at hhi
      have c : b.gen = g ∧ b.es.length = m ∧ 0 ≤ lo.getD 0 ∧ lo.getD 0 ≤ hi.getD len ∧ hi.getD len + off ≤ m ∧ (True ∨ ((none : Option Int) = some ((m : Int) - off) ∧ hi ≠ none)) := by
        rw [hlo, hhi]; exact ⟨h3, h4, by omega, by omega, by omega, .inl trivial⟩
      simp only [sliceV, h2]
      rw [if_pos c, hlo, hhi]
      rw [show ((l : Int) + n - l).toNat = n from by omega, show (l : Int).toNat = l from by omega]
    · simp only [szOk, szOf, h2, h6]; simp
    · rw [take_drop_sub _ _ len _ _ (by omega)]
      exact m1
    · intro i hi
      rcases List.mem_cons.1 hi with rfl | hi
      · simp
      · simp [m2 i hi]

theorem boundK_some {ρ : Type} {len : Nat} {lo hi : Option Int} {k : Nat → Nat → Option ρ} {r : ρ} (h : boundK len lo hi k = some r) :
    ∃ l n : Nat, k l n = some r ∧ l + n ≤ len ∧ lo.getD 0 = l ∧ hi.getD len = (l : Int) + n := by
  have e : boundK len lo hi k = bndK len (lo.getD 0) (hi.getD len) k := by unfold boundK; rw [ofN_def]; cases lo <;> cases hi <;> rfl
  rw [e] at h
  obtain ⟨h1, h2, h3, h4⟩ := bndK_some h
  exact ⟨_, _, h4, by omega, by omega, by omega⟩
end
end Go.Am

/- The machine on typed data against the small machine: operations that read. -/
namespace Go.Am
set_option linter.unusedSimpArgs false
set_option linter.unusedVariables false

section
variable {T : Tab} {Rn : Run} {d : Nat} {anV : List AV} {P0 : Id → Prop} {H0 : Heap} {ps : PS} {μ : Nat → AV} {L : Nat → List Id} {E : AEnv} {H : Heap} {nx : Nat} {dst : Option Nat} {hn : Hints} {pm : List Nat} {ρ : Type} {r : ρ} {k : PV → PS → Option ρ}

theorem map_constA {X : Vw} : ∀ (l : List AV), VRs X (l.map constA) l
  | [] => trivial
  | x :: r => ⟨constA_rel x, map_constA r⟩

variable (R : Rel d anV P0 H0 ps μ L E H nx)
include R

theorem ok_build {z : List AV} {parts : List (Nat × Nat × Opd)} (h : opP hn pm dst ps (.build z parts) k = some r) : PureOK T Rn d dst E ps μ L H nx k r (.build z parts) := by
  simp only [opP] at h
  split at h
  · rename_i cs hcs
    have hv : ∀ (l : List (Nat × Nat × Opd)), VRs ⟨d, ps.heap, μ, L, H, nx⟩ ((l.map fun p => (p.1, p.2.1, pev ps p.2.2)).map (fun p => p.2.2)) ((l.map fun p => (p.1, p.2.1, ev E p.2.2)).map (fun p => p.2.2)) := by
      intro l
      induction l with
      | nil => trivial
      | cons x q ih => exact ⟨R.pev x.2.2, ih⟩
    obtain ⟨bs, k1, k2⟩ := fillP_rel (X := ⟨d, ps.heap, μ, L, H, nx⟩) _ (parts.map fun p => (p.1, p.2.1, ev E p.2.2)) _ z cs (map_constA z) (by simp) (hv parts) hcs
    exact ⟨_, .agg bs, h, by simp only [operV, k1], rfl, k2⟩
  · cases h

theorem ok_binS {neg : Bool} {ls : List Lf} {x y : Opd} (h : opP hn pm dst ps (.binS neg ls x y) k = some r) : PureOK T Rn d dst E ps μ L H nx k r (.binS neg ls x y) := by
  simp only [opP, bNot_def] at h
  split at h
  · rename_i q hx hy hq
    obtain ⟨c1, c2⟩ := cells_rel _ _ (known_agg hx) (R.pev x)
    obtain ⟨c3, c4⟩ := cells_rel _ _ (known_agg hy) (R.pev y)
    have e := eqLeafs_rel ls _ _ _ _ q c1 c3 hq
    refine ⟨_, _, h, ?_, vr_bool⟩
    simp only [operV, e]
    rw [if_pos ⟨by rw [← c2]; exact hx, by rw [← c4]; exact hy⟩]
    cases neg <;> rfl
  · cases h

theorem ok_b2s {x : Opd} (h : opP hn pm dst ps (.b2s x) k = some r) : PureOK T Rn d dst E ps μ L H nx k r (.b2s x) := by
  simp only [opP] at h
  split at h
  · rename_i xs hx
    obtain ⟨Li, h1, _⟩ := asLeaf_rel R.obs (R.pev x) hx
    obtain ⟨es, L', h2, h3, _⟩ := h1.elems
    have h4 := bytesOf_rel xs es L' h3
    exact ⟨_, _, h, by simp only [operV, h2, bytesOf, h4]; rfl, vr_str (s := strP xs)⟩
  · cases h

theorem ok_len {str : Bool} {x : Opd} (h : opP hn pm dst ps (.len str x) k = some r) : PureOK T Rn d dst E ps μ L H nx k r (.len str x) := by
  simp only [opP, lenI_def, ofN_def] at h
  have h1 := R.pev x
  split at h
  · split at h
    · rename_i s hs
      have e := bytP_rel hs h1
      exact ⟨_, _, h, by simp only [operV, e, lenV, AV.isStr, size_mk, if_true]; rfl, vr_int (n := (s.length : Int))⟩
    · cases h
  · split at h
    · rename_i p sz e xs hx
      rw [hx] at h1
      obtain ⟨Li, k1, _⟩ := h1
      obtain ⟨k2, k3⟩ := k1.lenV
      exact ⟨_, _, h, by simp only [operV, k2, k3, if_true]; exact congrArg (fun z : Int => some (gInt z, H, nx)) (lenI_def (α := e.den) xs).symm, vr_int⟩
    · rename_i hx
      rw [hx] at h1
      have h1 : ev E x = .nils := h1
      exact ⟨_, _, h, by simp only [operV, h1, lenV, AV.isStr, if_true]; rfl, vr_int⟩
    · rename_i a hx
      rw [hx] at h1
      split at h
      · rename_i ro ver tmp sz e dp xs hb
        obtain ⟨Li, k1, _⟩ := own_read R.obs h1 hb
        obtain ⟨k2, k3⟩ := k1.lenV
        exact ⟨_, _, h, by simp only [operV, k2, k3, if_true]; rfl, vr_int⟩
      · cases h
    · rename_i a off len hx
      rw [hx] at h1
      obtain ⟨_, h2⟩ := h1
      rcases h2 with ⟨_, h3, _, rfl⟩ | ⟨o, g, n, off0, len0, _, _, h3⟩
      · exact ⟨_, _, h, by simp only [operV, h3, lenV, AV.isStr, if_true]; rfl, vr_int⟩
      · exact ⟨_, _, h, by simp only [operV, h3, lenV, AV.isStr, if_true]; rfl, vr_int⟩
    · cases h

omit R in
/-- Part of a cell. -/
theorem loadP_ok {ag : Bool} {n off : Nat} {v : PV} {w : AV} (hv : VR ⟨d, ps.heap, μ, L, H, nx⟩ v w) (hk : v.known = true) (h : opP.loadP ag n off v k ps = some r) :
    ∃ u a, k u ps = some r ∧ VR ⟨d, ps.heap, μ, L, H, nx⟩ u a ∧
      (if ag = true then (if w.isAgg = true then (if off = 0 ∧ n = w.cells.length then some w else if off + n ≤ w.cells.length then some (.agg ((w.cells.drop off).take n)) else none) else none) else w.cells[off]?) = some a ∧ (ag = true → ¬ (off = 0 ∧ n = w.cells.length) → ∃ cs, u = .agg cs) := by
  obtain ⟨c1, c2⟩ := cells_rel v w hk hv
  have hl := c1.len
  unfold opP.loadP at h
  cases ag with
  | false =>
    simp only at h
    split at h
    · rename_i u hu
      obtain ⟨a, k1, k2⟩ := c1.get hu
      exact ⟨u, a, h, k2, by simpa using k1, fun h => by cases h⟩
    · cases h
  | true =>
    simp only at h
    split at h
    · rename_i hag
      split at h
      · rename_i hc
        refine ⟨v, w, h, hv, ?_, fun _ q => (q (by rw [← hl]; exact hc)).elim⟩
        rw [if_pos rfl, if_pos (by rw [← c2]; exact hag), if_pos (by rw [← hl]; exact hc)]
      · rename_i hc
        split at h
        · rename_i hc2
          refine ⟨_, .agg ((w.cells.drop off).take n), h, ⟨rfl, (c1.drop off).take n⟩, ?_, fun _ _ => ⟨_, rfl⟩⟩
          rw [if_pos rfl, if_pos (by rw [← c2]; exact hag), if_neg (by rw [← hl]; exact hc), if_pos (by rw [← hl]; exact hc2)]
        · cases h
    · cases h

theorem ids_nested {a : Nat} {o : Id} {Ln : List Id} (ha : live ps.heap a) (hL : L a = o :: Ln) : ∀ i ∈ Ln, (⟨d, ps.heap, μ, L, H, nx⟩ : Vw).Imm i := by
  intro i hi
  refine ⟨?_, R.tl a ha i (by rw [hL]; exact hi)⟩
  rintro ⟨b, hb, htop⟩
  have htop : (L b).head? = some i := htop
  have hmem : i ∈ L b := List.mem_of_head? htop
  by_cases hab : b = a
  · subst hab
    rw [hL] at htop
    have := R.nd b hb
    rw [hL] at this
    cases htop
    exact (List.nodup_cons.1 this).1 hi
  · exact R.dis b a hab hb ha i hmem (by rw [hL]; simp [hi])

/-- What a pointer to an element of a slice of its own points to. -/
theorem ep_read {c ver i off : Nat} {e : Kd} {x : e.den} {v : AV} (hv : VR ⟨d, ps.heap, μ, L, H, nx⟩ (.ep c ver i off e x) v) {ro : Bool} {tmp : Option Nat} {sz : Nat} {e' : Kd} {dp : Bool} {xs : List e'.den}
    (hc : hget ps.heap c = some (.sl ro ver tmp sz e' dp xs)) :
    ∃ o g n off0 len0 b w L', v = .ptr o g n (off0 + i) off ∧ μ c = .ref o g n off0 len0 ∧ H o = some b ∧ b.gen = g ∧ b.es.length = n ∧ b.sz = e.cn ∧ sz = e.cn ∧ (ro = false → b.w = true) ∧ b.es[off0 + i]? = some w ∧ Rep dp H e x w L' ∧ (∀ j ∈ L', (⟨d, ps.heap, μ, L, H, nx⟩ : Vw).Imm j) ∧
      off0 + len0 ≤ n ∧ i < len0 ∧ ∃ y, castK e e' x = some y ∧ xs[i]? = some y := by
  obtain ⟨h0, o, g, n, off0, len0, h1, h2, rfl, h3⟩ := hv
  obtain ⟨_, h4⟩ := h3 _ _ _ _ _ _ _ hc
  obtain ⟨y, h5, h6⟩ := h4 rfl
  obtain ⟨s0, s1, s2⟩ := R.ob c _ hc
  rcases s2 with ⟨e1, _⟩ | ⟨o', g', n', off', len', b, L', e1, e2, e3, e4, e5, e6, e7, e8, e9, e10, e11⟩
  · rw [h1] at e1; cases e1
  · rw [h1] at e1
    cases e1
    obtain ⟨rfl, rfl⟩ := castK_eq h5
    obtain ⟨w, L'', k1, k2, k3⟩ := e8.get i _ h6
    have hl : live ps.heap c := by unfold live; rw [hc]; rfl
    refine ⟨o, g, n, off0, len0, b, w, L'', rfl, h1, e2, e3, e4, by rw [e6, s0], s0, e7, ?_, k2, ?_, e5, h2, _, h5, h6⟩
    · rw [List.getElem?_take_of_lt h2, List.getElem?_drop] at k1
      exact k1
    · intro j hj
      have hj := k3 j hj
      cases dp with
      | true => exact ids_nested R hl (by simpa using e10) j hj
      | false => exact e11 rfl j hj

theorem ok_load {ag : Bool} {n : Nat} {a : Opd} (h : opP hn pm dst ps (.load ag n a) k = some r) : PureOK T Rn d dst E ps μ L H nx k r (.load ag n a) := by
  simp only [opP] at h
  have h1 := R.pev a
  split at h
  · rename_i c off hx
    rw [hx] at h1
    obtain ⟨h0, o, g, h2, h3⟩ := h1
    split at h
    · rename_i ro tmp v hc
      obtain ⟨o', g', b, w, e1, e2, e3, e4, e5, e6, e7, e8, e9, e10, e11⟩ := R.ob c _ hc
      rw [h2] at e1
      cases e1
      have e2 : H o = some b := e2
      obtain ⟨u, z, k1, k2, k3, k4⟩ := loadP_ok e10 (known_ok e11) h
      refine ⟨u, z, k1, ?_, k2⟩
      have : loadV H ag n (.ptr o g 1 0 off) = some z := by
        simp only [loadV, e2]
        rw [if_pos ⟨e3, by rw [e4]; rfl⟩, e4]
        simp only [List.getElem?_cons_zero]
        rw [e5]
        exact k3
      simp only [operV, h3, this]
    · cases h
  · rename_i c ver i off e x hx
    rw [hx] at h1
    split at h
    · rename_i ro ver' tmp sz e' dp xs hc
      split at h
      · rename_i hver
        obtain rfl := Nat.eq_of_beq_eq_true hver
        obtain ⟨o, g, m, off0, len0, b, w, L', h3, _, e2, e3, e4, e5, _, _, e6, e7, e8, _⟩ := ep_read R h1 hc
        have hv : VR ⟨d, ps.heap, μ, L, H, nx⟩ (.d false e x) w := by
          have e7' : Rep false H e x w L' := by
            cases dp with
            | true => exact Rep.read e x w L' e7
            | false => exact e7
          exact ⟨L', e7', fun q => (e7'.flat (own' := false) (H' := H) (by simpa using q)).2, e8⟩
        obtain ⟨u, z, k1, k2, k3, k4⟩ := loadP_ok hv rfl h
        refine ⟨u, z, k1, ?_, k2⟩
        have : loadV H ag n (.ptr o g m (off0 + i) off) = some z := by
          simp only [loadV, e2]
          rw [if_pos ⟨e3, e4⟩, e6]
          simp only
          rw [e5, ← e7.stor.2.1]
          exact k3
        simp only [operV, h3, this]
      · cases h
    · cases h
  · rename_i p e x off hx
    rw [hx] at h1
    rcases h1 with ⟨y, h3, h4⟩ | ⟨h0, o, g, m, j, b, w, Li, h3, e2, e3, e4, e5, e6, e7, e8, e9⟩
    · have hv : VR ⟨d, ps.heap, μ, L, H, nx⟩ (.d p e x) (.c y) := ⟨[], h4, fun _ => rfl, fun i hi => by cases hi⟩
      obtain ⟨u, z, k1, k2, k3, k4⟩ := loadP_ok hv rfl h
      have : ∃ a, loadV H ag n (.tptr y off) = some a ∧ VR ⟨d, ps.heap, μ, L, H, nx⟩ u a := by
        cases ag with
        | true =>
          simp only [if_true] at k3
          cases y with
          | agg cs =>
            simp only [AV.isAgg, if_true, AV.cells, TV.cells, List.length_map] at k3 k4
            by_cases hc : off = 0 ∧ n = cs.length
            · rw [if_pos hc] at k3
              cases k3
              exact ⟨_, by simp only [loadV, if_true]; rw [if_pos ⟨hc.1, hc.2.symm⟩], k2⟩
            · obtain ⟨us, rfl⟩ := k4 trivial hc
              rw [if_neg hc] at k3
              split at k3
              · rename_i hc2
                cases k3
                refine ⟨.c (.agg ((cs.drop off).take n)), ?_, rfl, ?_⟩
                · simp only [loadV, if_true]; rw [if_neg (fun q => hc ⟨q.1, q.2.symm⟩), if_pos hc2]
                · have := k2.2
                  simpa [AV.cells, TV.cells, List.map_take, List.map_drop] using this
              · cases k3
          | _ => simp [AV.isAgg] at k3
        | false =>
          refine ⟨z, ?_, k2⟩
          simp only [Bool.false_eq_true, if_false] at k3
          simp only [loadV, Bool.false_eq_true, if_false]
          simp only [AV.cells, List.getElem?_map] at k3
          cases hy : y.cells[off]? with
          | none => rw [hy] at k3; cases k3
          | some q => rw [hy] at k3; simpa using k3
      obtain ⟨a', q1, q2⟩ := this
      exact ⟨u, a', k1, by simp only [operV, h3, q1], q2⟩
    · have e2 : H o = some b := e2
      have hv : VR ⟨d, ps.heap, μ, L, H, nx⟩ (.d p e x) w := ⟨Li, e7, fun q => by
          rcases q with q | q
          · rw [h0] at q; cases q
          · exact (e7.flat (own' := false) (H' := H) q).2, e9⟩
      obtain ⟨u, z, k1, k2, k3, k4⟩ := loadP_ok hv rfl h
      refine ⟨u, z, k1, ?_, k2⟩
      have : loadV H ag n (.ptr o g m j off) = some z := by
        simp only [loadV, e2]
        rw [if_pos ⟨e3, e4⟩, e6]
        simp only
        rw [e5, ← e7.stor.2.1]
        exact k3
      simp only [operV, h3, this]
  · rename_i t v off hx
    rw [hx] at h1
    obtain ⟨h0, h0', o, g, b, w, e1, h3, e2, e3, e4, e5, e6⟩ := h1
    obtain ⟨u, z, k1, k2, k3, k4⟩ := loadP_ok e6 (known_ok h0') h
    refine ⟨u, z, k1, ?_, k2⟩
    have e2 : H o = some b := e2
    have : loadV H ag n (.ptr o g 1 0 off) = some z := by
      simp only [loadV, e2]
      rw [if_pos ⟨e3, by rw [e4]; rfl⟩, e4]
      simp only [List.getElem?_cons_zero]
      rw [e5]
      exact k3
    simp only [operV, h3, this]
  · cases h

theorem ok_field {x : Opd} {off n : Nat} {ag : Bool} (h : opP hn pm dst ps (.field x off n ag) k = some r) : PureOK T Rn d dst E ps μ L H nx k r (.field x off n ag) := by
  simp only [opP] at h
  split at h
  · rename_i hag
    obtain ⟨c1, c2⟩ := cells_rel _ _ (known_agg hag) (R.pev x)
    have hl := c1.len
    have ha : (ev E x).isAgg = true := by rw [← c2]; exact hag
    split at h
    · rename_i hc
      rw [hl] at hc
      cases ag with
      | true => exact ⟨_, .agg (((ev E x).cells.drop off).take n), h, by simp only [operV, ha]; rw [if_pos hc]; rfl, rfl, (c1.drop off).take n⟩
      | false =>
        simp only at h
        split at h
        · rename_i v hv
          obtain ⟨a, k1, k2⟩ := c1.get hv
          exact ⟨_, a, h, by simp only [operV, ha]; rw [if_pos hc]; simp only [Bool.false_eq_true, if_false, k1], k2⟩
        · cases h
    · cases h
  · cases h

theorem optP_rel {x : Option Opd} {n : Option Int} (h : optP ps x = some n) : optI E x = some n := by
  cases x with
  | none => exact h
  | some y =>
    simp only [optP] at h
    split at h
    · rename_i q hq
      cases h
      have e := intP_rel hq (R.pev y)
      simp only [optI, e, intOfV]
    · cases h

theorem own_len {a : Nat} {v : AV} (hv : VR ⟨d, ps.heap, μ, L, H, nx⟩ (.own a) v) {ro : Bool} {ver : Nat} {tmp : Option Nat} {sz : Nat} {e : Kd} {dp : Bool} {xs : List e.den} (hc : hget ps.heap a = some (.sl ro ver tmp sz e dp xs)) :
    (v = .nils ∧ μ a = .nils ∧ xs = []) ∨ ∃ o g n off b L', v = .ref o g n off xs.length ∧ μ a = .ref o g n off xs.length ∧ H o = some b ∧ b.gen = g ∧ b.es.length = n ∧ off + xs.length ≤ n ∧ b.sz = sz ∧ RepL (Rep dp H e) xs ((b.es.drop off).take xs.length) L' := by
  obtain ⟨h0, rfl, _⟩ := hv
  obtain ⟨s0, s1, s2⟩ := R.ob a _ hc
  rcases s2 with ⟨e1, e2, _⟩ | ⟨o, g, n, off, len, b, L', e1, e2, e3, e4, e5, e6, e7, e8, e9, e10, e11⟩
  · exact .inl ⟨e1, e1, e2⟩
  · right
    have hl := RepL.len e8
    simp only [List.length_take, List.length_drop] at hl
    obtain rfl : len = xs.length := by omega
    exact ⟨o, g, n, off, b, L', e1, e1, e2, e3, e4, e5, e6, e8⟩

theorem ok_slice {sz : Nat} {x : Opd} {lo hi mx : Option Opd} (h : opP hn pm dst ps (.slice sz x lo hi mx) k = some r) : PureOK T Rn d dst E ps μ L H nx k r (.slice sz x lo hi mx) := by
  simp only [opP, lenN_def, gZero_def] at h
  split at h
  · rename_i l hh e1 e2 e3
    have o1 := optP_rel R e1
    have o2 := optP_rel R e2
    have o3 := optP_rel R e3
    have h1 := R.pev x
    split at h
    · rename_i s hs
      have es := bytP_rel hs h1
      split at h
      · rename_i hz
        subst hz
        obtain ⟨a, n, k1, k2, k3, k4⟩ := boundK_some h
        refine ⟨_, gStr ⟨(sub s a n).toArray⟩, k1, ?_, vr_str⟩
        have c : 0 ≤ l.getD 0 ∧ l.getD 0 ≤ hh.getD (s.length : Int) ∧ hh.getD (s.length : Int) ≤ (s.length : Int) ∧ True := by
          rw [k3, k4]; exact ⟨by omega, by omega, by omega, trivial⟩
        have e : sliceV H (ev E x) l hh none = some (gStr ⟨(sub s a n).toArray⟩) := by
          rw [es]
          simp only [sliceV, size_mk]
          rw [if_pos c, extract_mk, k3, k4]
          rw [sub_def]
          congr 4
          rw [show ((a : Int) + n).toNat - (a : Int).toNat = n from by omega, show (a : Int).toNat = a from by omega]
        simp only [operV, o1, o2, o3, e]
        rw [if_pos ⟨rfl, by rw [es]; rfl⟩]
      · cases h
    · split at h
      · cases h
      · rename_i hz
        split at h
        · rename_i p sz' e xs hx
          rw [hx] at h1
          obtain ⟨Li, r1, r2, r3⟩ := h1
          split at h
          · rename_i hs
            subst hs
            obtain ⟨a, n, k1, k2, k3, k4⟩ := boundK_some h
            have hlen : lenN (α := e.den) xs = List.length (α := e.den) xs := lenN_def _
            rw [hlen] at k2 k4
            obtain ⟨b, q1, q2, q3, L', q4, q5⟩ := r1.slice k2 hz k3 k4
            refine ⟨_, b, k1, ?_, L', q4, fun q => ?_, fun i hi => r3 i (q5 i hi)⟩
            · simp only [operV, o1, o2, o3, q1]
              rw [if_pos ⟨q2, q3⟩]
            · rcases q with q | q
              · have := r2 (.inl q)
                subst this
                exact List.eq_nil_iff_forall_not_mem.2 fun i hi => by simpa using q5 i hi
              · simp [Kd.flat] at q
          · cases h
        · rename_i a hx
          rw [hx] at h1
          split at h
          · rename_i ro ver tmp sz' e dp xs hc
            split at h
            · rename_i hs
              subst hs
              obtain ⟨a', n, k1, k2, k3, k4⟩ := boundK_some h
              rcases own_len R h1 hc with ⟨q1, q2, q3⟩ | ⟨o, g, m, off, b, L', q1, q2, q3, q4, q5, q6, q7, _⟩
              · subst q3
                simp only [List.length_nil] at k2 k4
                obtain rfl : a' = 0 := by omega
                obtain rfl : n = 0 := by omega
                refine ⟨_, .nils, k1, ?_, h1.1, .inl ⟨q2, rfl, rfl, rfl⟩⟩
                have e2 : hh.getD 0 = 0 := by cases hh <;> simp_all
                have : sliceV H (ev E x) l hh none = some .nils := by
                  rw [q1]; simp only [sliceV, k3, e2]; simp
                simp only [operV, o1, o2, o3, this]
                rw [if_pos ⟨rfl, by rw [q1]; simpa [AV.isStr] using hz⟩]
              · refine ⟨_, .ref o g m (off + a') n, k1, ?_, h1.1, .inr ⟨o, g, m, off, xs.length, q2, k2, rfl⟩⟩
                have c : b.gen = g ∧ b.es.length = m ∧ 0 ≤ l.getD 0 ∧ l.getD 0 ≤ hh.getD (xs.length : Int) ∧ hh.getD (xs.length : Int) + off ≤ m ∧ (True ∨ ((none : Option Int) = some ((m : Int) - off) ∧ hh ≠ none)) := by
                  rw [k3, k4]; exact ⟨q4, q5, by omega, by omega, by omega, .inl trivial⟩
                have : sliceV H (ev E x) l hh none = some (.ref o g m (off + a') n) := by
                  rw [q1]; simp only [sliceV, q3]
                  rw [if_pos c, k3, k4]
                  rw [show ((a' : Int) + n - a').toNat = n from by omega, show (a' : Int).toNat = a' from by omega]
                simp only [operV, o1, o2, o3, this]
                rw [if_pos ⟨by simp only [szOk, szOf, q3, q7]; simp, by rw [q1]; simpa [AV.isStr] using hz⟩]
            · cases h
          · cases h
        · rename_i hx
          rw [hx] at h1
          have h1 : ev E x = .nils := h1
          obtain ⟨g1, g2⟩ := guardK_some h
          have g3 : l.getD 0 = 0 ∧ hh.getD 0 = 0 := by
            cases l <;> cases hh <;> simp_all
          refine ⟨_, .nils, g2, ?_, rfl⟩
          have : sliceV H (ev E x) l hh none = some .nils := by
            rw [h1]; simp only [sliceV, g3.1, g3.2]; simp
          simp only [operV, o1, o2, o3, this]
          rw [if_pos ⟨rfl, by rw [h1]; simpa [AV.isStr] using hz⟩]
        · cases h
  · cases h

theorem ok_iaddr {sz : Nat} {x i : Opd} (h : opP hn pm dst ps (.iaddr sz x i) k = some r) : PureOK T Rn d dst E ps μ L H nx k r (.iaddr sz x i) := by
  simp only [opP, toN_def, addN_def, dropL_def, gLt_def] at h
  split at h
  · rename_i kd j hj
    have ej := intP_rel hj (R.pev i)
    have h1 := R.pev x
    split at h
    · rename_i p sz' e xs hx
      rw [hx] at h1
      obtain ⟨Li, r1, r2, r3⟩ := h1
      split at h
      · rename_i hs
        subst hs
        obtain ⟨h0, y, hy, hk⟩ := idxK_some h
        rcases r1 with ⟨q1, q2, _⟩ | ⟨_, z, ts, q1, q2, q3, q4⟩ | ⟨o, g, n, off, len, b, L', q1, q2, q3, q4, q5, q6, q7, q8, q9⟩
        · have q2 : xs = [] := q2
          subst q2; simp at hy
        · obtain ⟨v, L1, s1, s2, s3⟩ := q3.get _ y hy
          rw [List.getElem?_map] at s1
          cases ht : ts[j.toNat]? with
          | none => rw [ht] at s1; cases s1
          | some t =>
            rw [ht] at s1
            cases s1
            have : L1 = [] := List.eq_nil_iff_forall_not_mem.2 fun i hi => by simpa using s3 i hi
            subst this
            refine ⟨_, .tptr t 0, hk, ?_, .inl ⟨t, rfl, s2⟩⟩
            simp only [operV, ej, intOfV, q1]
            rw [if_pos h0]
            simp only [ht]
            rw [if_pos]
            rcases q2 with q2 | q2
            · exact q2
            · subst q2; simp at ht
        · subst q8
          obtain ⟨v, L1, s1, s2, s3⟩ := q7.get _ y hy
          have hlt : j.toNat < len := by
            have := RepL.len q7
            simp only [List.length_take, List.length_drop] at this
            have := (List.getElem?_eq_some_iff.1 hy).1
            omega
          rw [List.getElem?_take_of_lt hlt, List.getElem?_drop] at s1
          have hp : p = false := by
            cases p with
            | false => rfl
            | true => have := r2 (.inl rfl); cases this
          have hsz : sz = e.cn := q9.2
          have q2 : H o = some b := q2
          refine ⟨_, .ptr o g n (off + j.toNat) 0, hk, ?_, .inr ⟨hp, o, g, n, off + j.toNat, b, v, L1, rfl, q2, q3, q4, by rw [q6]; exact hsz, s1, s2, r3 o (by simp), fun i hi => r3 i (by simp [s3 i hi])⟩⟩
          simp only [operV, ej, intOfV, q1]
          rw [if_pos h0]
          simp only [q2]
          rw [if_pos ⟨q3, q4, q5, hlt, q6⟩]
      · cases h
    · rename_i a hx
      rw [hx] at h1
      split at h
      · rename_i ro ver tmp sz' e dp xs hc
        split at h
        · rename_i hs
          subst hs
          obtain ⟨h0, y, hy, hk⟩ := idxK_some h
          have hlt := (List.getElem?_eq_some_iff.1 hy).1
          rcases own_len R h1 hc with ⟨q1, q2, q3⟩ | ⟨o, g, m, off, b, L', q1, q2, q3, q4, q5, q6, q7, _⟩
          · subst q3; simp at hy
          · refine ⟨_, .ptr o g m (off + j.toNat) 0, hk, ?_, h1.1, o, g, m, off, xs.length, q2, hlt, rfl, ?_⟩
            · simp only [operV, ej, intOfV, q1]
              rw [if_pos h0]
              simp only [q3]
              rw [if_pos ⟨q4, q5, q6, hlt, q7⟩]
            · intro ro' ver' tmp' sz'' e' dp' xs' hc'
              have := hc.symm.trans hc'
              cases this
              exact ⟨Nat.le_refl _, fun _ => ⟨y, castK_self y, hy⟩⟩
        · cases h
      · cases h
    · rename_i a off len hx
      rw [hx] at h1
      split at h
      · rename_i ro ver tmp sz' e dp xs hc
        split at h
        · rename_i hs
          subst hs
          obtain ⟨g1, g2⟩ := guardK_some h
          have g1 : j.toNat < len := of_decide_eq_true g1
          obtain ⟨h0, y, hy, hk⟩ := idxK_some g2
          simp only [List.getElem?_drop] at hy
          have hlt := (List.getElem?_eq_some_iff.1 hy).1
          obtain ⟨w0, w1⟩ := h1
          have hown : VR ⟨d, ps.heap, μ, L, H, nx⟩ (.own a) (μ a) := by
            refine ⟨w0, rfl, ?_⟩
            rcases w1 with ⟨q, _⟩ | ⟨o, g, n, off0, len0, q, _⟩ <;> (show isRef (μ a); rw [show μ a = _ from q]; trivial)
          rcases own_len R hown hc with ⟨q1, q2, q3⟩ | ⟨o, g, m, off0, b, L', q1, q2, q3, q4, q5, q6, q7, _⟩
          · subst q3; simp at hy
          · rcases w1 with ⟨q, _⟩ | ⟨o', g', n', off0', len0', q, w2, w3⟩
            · have q : μ a = .nils := q
              rw [q2] at q; cases q
            · have q : μ a = _ := q
              rw [q2] at q
              cases q
              refine ⟨_, .ptr o g m (off0 + off + j.toNat) 0, hk, ?_, w0, o, g, m, off0, xs.length, q2, hlt, ?_, ?_⟩
              · simp only [operV, ej, intOfV, w3]
                rw [if_pos h0]
                simp only [q3]
                rw [if_pos ⟨q4, q5, by omega, g1, q7⟩]
              · simp only [Nat.add_assoc]
              · intro ro' ver' tmp' sz'' e' dp' xs' hc'
                have := hc.symm.trans hc'
                cases this
                exact ⟨Nat.le_refl _, fun _ => ⟨y, castK_self y, hy⟩⟩
        · cases h
      · cases h
    · cases h
  · cases h
end
end Go.Am

/- The machine on typed data against the small machine: operations that make objects. -/
namespace Go.Am
set_option linter.unusedSimpArgs false
set_option linter.unusedVariables false

def updN {α : Type} (f : Nat → α) (n : Nat) (x : α) : Nat → α := fun a => if a = n then x else f a
theorem updN_at {α : Type} {f : Nat → α} {n : Nat} {x : α} : updN f n x n = x := by simp [updN]
theorem updN_ne {α : Type} {f : Nat → α} {n a : Nat} {x : α} (h : a ≠ n) : updN f n x a = f a := by simp [updN, h]

section
variable {T : Tab} {Rn : Run} {d : Nat} {anV : List AV} {P0 : Id → Prop} {H0 : Heap} {ps : PS} {μ : Nat → AV} {L : Nat → List Id} {E : AEnv} {H : Heap} {nx : Nat} {dst : Option Nat} {hn : Hints} {pm : List Nat} {ρ : Type} {r : ρ} {k : PV → PS → Option ρ}

/-- What may become of what a place is known to hold. -/
def EWv (v v' : PV) : Prop := v' = v ∨ v' = .undef ∨ ∃ c off, v = .cp c off
def EW (e e' : List (Nat × PV)) : Prop := ∀ t, EWv (look e t) (look e' t)
theorem EW.refl (e : List (Nat × PV)) : EW e e := fun _ => .inl rfl
theorem EW.kill (t : Nat) (e : List (Nat × PV)) : EW e (killE t e) := fun u => (look_kill t e u).elim (fun h => .inr (.inl h)) fun h => .inl h.1
theorem EW.killTo (tm : Option Nat) (e : List (Nat × PV)) : EW e (killTo tm e) := by
  cases tm with
  | none => exact EW.refl e
  | some t => exact EW.kill t e

/-- Nothing comes back. -/
def LB (hp hp' : List (Option PObj)) : Prop := ∀ a, a < hp.length → live hp' a → live hp a
theorem LB.refl (hp : List (Option PObj)) : LB hp hp := fun _ _ h => h
theorem LB.app {hp hp' q : List (Option PObj)} (h : LB hp hp') (hl : hp.length = hp'.length) : LB hp (hp' ++ q) := fun a ha hh => by
  unfold live at hh
  rw [hget_append, if_pos (by omega)] at hh
  exact h a ha hh
theorem LB.del {hp hp' : List (Option PObj)} (h : LB hp hp') (ns : List Nat) : LB hp (delN hp' ns) := by
  intro a ha hh
  unfold live at hh
  rw [hget_delN] at hh
  split at hh
  · cases hh
  · exact h a ha hh
theorem LB.delT {hp hp' : List (Option PObj)} (h : LB hp hp') (t : Nat) : LB hp (delT t hp') := by
  intro a ha hh
  obtain ⟨ob, hob⟩ := Option.isSome_iff_exists.1 hh
  exact h a ha (Option.isSome_iff_exists.2 ⟨ob, (hget_delT.1 hob).1⟩)
theorem LB.delTo {hp hp' : List (Option PObj)} (h : LB hp hp') (tm : Option Nat) : LB hp (delTo tm hp') := by
  cases tm with
  | none => exact h
  | some t => exact h.delT t
theorem LB.set {hp : List (Option PObj)} {c : Nat} {x : Option PObj} (h : x.isSome = true → live hp c) : LB hp (hset hp c x) := by
  intro a ha hh
  unfold live at hh
  rw [hget_hset] at hh
  split at hh
  · rename_i e; rw [e.1]; exact h hh
  · exact hh
theorem LB.newSl (ps : PS) (tm : Option Nat) (ds : List Nat) (sz : Nat) (e : Kd) (dp : Bool) (xs : List e.den) : LB ps.heap (ps.newSl tm ds sz e dp xs).heap :=
  (((LB.refl _).del ds).delTo tm).app (by cases tm <;> simp [Go.Am.delTo, delN_length, delT_length])

/-- What an operation comes to. -/
def OpOK (T : Tab) (Rn : Run) (d : Nat) (anV : List AV) (P0 : Id → Prop) (H0 : Heap) (dst : Option Nat) (E : AEnv) (ps : PS) (μ : Nat → AV) (L : Nat → List Id) (H : Heap) (nx : Nat) {ρ : Type} (k : PV → PS → Option ρ) (r : ρ) (o : AOp) : Prop :=
  ∃ v ps' av μ' L' H' nx', k v ps' = some r ∧ operV T Rn d dst E H nx o = some (av, H', nx') ∧ Rel d anV P0 H0 ps' μ' L' E H' nx' ∧ (dst ≠ none → VR ⟨d, ps'.heap, μ', L', H', nx'⟩ v av) ∧
    ps.heap.length ≤ ps'.heap.length ∧ (∀ a, a < ps.heap.length → μ' a = μ a ∧ L' a = L a) ∧ nx ≤ nx' ∧ ps'.anc = ps.anc ∧ EW ps.env ps'.env ∧ LB ps.heap ps'.heap

theorem PureOK.op (R : Rel d anV P0 H0 ps μ L E H nx) {o : AOp} (h : PureOK T Rn d dst E ps μ L H nx k r o) : OpOK T Rn d anV P0 H0 dst E ps μ L H nx k r o := by
  obtain ⟨v, av, h1, h2, h3⟩ := h
  exact ⟨v, ps, av, μ, L, H, nx, h1, h2, R, fun _ => h3, Nat.le_refl _, fun _ _ => ⟨rfl, rfl⟩, Nat.le_refl _, rfl, EW.refl _, LB.refl _⟩

theorem live_iff {hp : List (Option PObj)} {a : Nat} : live hp a ↔ ∃ ob, hget hp a = some ob := Option.isSome_iff_exists

/-- An object that has a name of its own now. -/
theorem Rel.newSl (R : Rel d anV P0 H0 ps μ L E H nx) {tm : Option Nat} (ds : List Nat) {o : Id} {b : Obj} {sz : Nat} {e : Kd} {dp : Bool} {xs : List e.den} {Ln Lx : List Id} {off len : Nat} {nx' : Nat}
    (hds : ∀ a ∈ ds, ∃ ob, hget ps.heap a = some ob ∧ roOf ob = false)
    (ho : NewI d nx tm o ∨ ∃ a ∈ ds, (L a).head? = some o) (hLn : ∀ i ∈ Ln, ∃ a ∈ ds, i ∈ L a) (hold : ∀ i ∈ Ln, oldI d nx i) (hnd : (o :: Ln).Nodup)
    (hnx : nx ≤ nx') (hfr : ∀ k, nx' ≤ k → o ≠ .dy k) (hage : ageI d nx' tm o) (hp : ∀ t, tm = some t → ¬ P0 (.st d t)) (htm0 : ∀ t, tm = some t → o = .st d t)
    (hsz : sz = e.cn) (hsz0 : 0 < sz) (hbs : b.sz = sz) (hbw : b.w = true) (hol : off + len ≤ b.es.length)
    (hrep : RepL (Rep dp H e) xs ((b.es.drop off).take len) Lx) (hdp : dp = true → Lx = Ln) (hdp2 : dp = false → Ln = [] ∧ ∀ i ∈ Lx, (⟨d, ps.heap, μ, L, H, nx⟩ : Vw).Imm i)
    (hfine : ∀ x ∈ b.es, stor x = true ∧ x.cells.length = sz ∧ (dp = true → fineV (· ∈ Ln) x)) :
    Rel d anV P0 H0 (ps.newSl tm ds sz e dp xs) (updN μ ps.heap.length (.ref o b.gen b.es.length off len)) (updN L ps.heap.length (o :: Ln)) E (hupd H o b) nx' ∧
      VR ⟨d, (ps.newSl tm ds sz e dp xs).heap, updN μ ps.heap.length (.ref o b.gen b.es.length off len), updN L ps.heap.length (o :: Ln), hupd H o b, nx'⟩ (.own ps.heap.length) (.ref o b.gen b.es.length off len) ∧
      ps.heap.length ≤ (ps.newSl tm ds sz e dp xs).heap.length ∧ ∀ a, a < ps.heap.length → updN μ ps.heap.length (.ref o b.gen b.es.length off len) a = μ a ∧ updN L ps.heap.length (o :: Ln) a = L a := by
  have hlen : (delTo tm (delN ps.heap ds)).length = ps.heap.length := by rw [delTo_length, delN_length]
  have hp' : ∀ {a : Nat} {ob : PObj}, hget (ps.newSl tm ds sz e dp xs).heap a = some ob → a ≠ ps.heap.length → hget ps.heap a = some ob ∧ a ∉ ds ∧ (∀ t, tm = some t → tmpO ob ≠ some t) ∧ a < ps.heap.length := by
    intro a ob h hne
    have h : hget (delTo tm (delN ps.heap ds) ++ [some (.sl false 0 tm sz e dp xs)]) a = some ob := h
    rw [hget_append, hlen] at h
    split at h
    · rename_i hlt
      obtain ⟨h1, h2⟩ := hget_delTo.1 h
      rw [hget_delN] at h1
      split at h1
      · cases h1
      · rename_i hnin
        exact ⟨h1, hnin, h2, hlt⟩
    · rename_i hlt
      rw [hget_ge (by simp; omega)] at h
      cases h
  have hnew : hget (ps.newSl tm ds sz e dp xs).heap ps.heap.length = some (.sl false 0 tm sz e dp xs) := by
    show hget (delTo tm (delN ps.heap ds) ++ [some (.sl false 0 tm sz e dp xs)]) ps.heap.length = _
    rw [hget_append, hlen, if_neg (by omega), Nat.sub_self]; rfl
  -- the new object's ids are in no other name
  have hout : ∀ {a : Nat} {ob : PObj}, hget ps.heap a = some ob → a ∉ ds → (∀ t, tm = some t → tmpO ob ≠ some t) → ∀ i ∈ o :: Ln, i ∉ L a := by
    intro a ob ha hnin htm i hi hia
    have hla : live ps.heap a := live_iff.2 ⟨ob, ha⟩
    have clash : ∀ c ∈ ds, i ∈ L c → False := by
      intro c hc hic
      obtain ⟨oc, hoc, _⟩ := hds c hc
      exact R.dis a c (fun e => hnin (e ▸ hc)) hla (live_iff.2 ⟨oc, hoc⟩) i hia hic
    rcases List.mem_cons.1 hi with rfl | hi
    · rcases ho with ho | ⟨c, hc, hh⟩
      · have hag := R.age a ob ha i hia
        rcases ho with ⟨q, rfl, hq⟩ | ⟨t, rfl, ht⟩
        · have : q < nx := hag
          omega
        · rcases hag with hag | hag
          · omega
          · exact htm t ht hag.2
      · exact clash c hc (List.mem_of_head? hh)
    · obtain ⟨c, hc, hic⟩ := hLn i hi
      exact clash c hc hic
  have ho_imm : ∀ i, (⟨d, ps.heap, μ, L, H, nx⟩ : Vw).Imm i → i ≠ o := by
    rintro i ⟨h1, h2⟩ rfl
    rcases ho with (⟨q, rfl, hq⟩ | ⟨t, rfl, ht⟩) | ⟨c, hc, hh⟩
    · have : q < nx := h2
      omega
    · have : d < d := h2
      omega
    · obtain ⟨oc, hoc, _⟩ := hds c hc
      exact h1 ⟨c, live_iff.2 ⟨oc, hoc⟩, hh⟩
  have hmu : ∀ a, a < ps.heap.length → updN μ ps.heap.length (.ref o b.gen b.es.length off len) a = μ a := fun a ha => updN_ne (by omega)
  have hL : ∀ a, a < ps.heap.length → updN L ps.heap.length (o :: Ln) a = L a := fun a ha => updN_ne (by omega)
  have g : Grow ⟨d, ps.heap, μ, L, H, nx⟩ ⟨d, (ps.newSl tm ds sz e dp xs).heap, updN μ ps.heap.length (.ref o b.gen b.es.length off len), updN L ps.heap.length (o :: Ln), hupd H o b, nx'⟩ tm := by
    refine Grow.of rfl ?_ hmu ?_ hnx ?_ ?_
    · show ps.heap.length ≤ (delTo tm (delN ps.heap ds) ++ [_]).length
      rw [List.length_append, hlen]; omega
    · intro a ha
      cases hx : hget (ps.newSl tm ds sz e dp xs).heap a with
      | none => cases hget ps.heap a <;> trivial
      | some ob =>
        have ha : a < ps.heap.length := ha
        have := (hp' hx (by omega)).1
        show laterO (hget ps.heap a) (some ob)
        rw [this]; exact laterO.refl _
    · intro i h1 h2
      show hupd H o b i = H i
      refine hupd_ne H b ?_
      rintro rfl
      rcases ho with ho | ⟨c, hc, hh⟩
      · exact h2 ho
      · obtain ⟨oc, hoc, _⟩ := hds c hc
        exact h1 ⟨c, live_iff.2 ⟨oc, hoc⟩, hh⟩
    · rintro i ⟨a, ha, htop⟩
      obtain ⟨ob, hob⟩ := live_iff.1 ha
      by_cases hane : a = ps.heap.length
      · subst hane
        have htop : (updN L ps.heap.length (o :: Ln) ps.heap.length).head? = some i := htop
        rw [updN_at] at htop
        cases htop
        rcases ho with ho | ⟨c, hc, hh⟩
        · exact .inr ho
        · obtain ⟨oc, hoc, _⟩ := hds c hc
          exact .inl ⟨c, live_iff.2 ⟨oc, hoc⟩, hh⟩
      · obtain ⟨h1, _, _, h4⟩ := hp' hob hane
        have htop : (updN L ps.heap.length (o :: Ln) a).head? = some i := htop
        rw [hL a h4] at htop
        exact .inl ⟨a, live_iff.2 ⟨ob, h1⟩, htop⟩
  have hon : o ∉ Ln := (List.nodup_cons.1 hnd).1
  have hrep' : RepL (Rep dp (hupd H o b) e) xs ((b.es.drop off).take len) Lx := by
    refine RepL.frame (fun i hi => hupd_ne H b ?_) hrep
    cases dp with
    | true => rintro rfl; exact hon (by rw [← hdp rfl]; exact hi)
    | false => exact ho_imm i ((hdp2 rfl).2 i hi)
  have hP0o : ¬ P0 o := by
    rcases ho with (⟨q, rfl, hq⟩ | ⟨t, rfl, ht⟩) | ⟨c, hc, hh⟩
    · exact R.p2 q hq
    · exact hp t ht
    · obtain ⟨oc, hoc, hro⟩ := hds c hc
      exact R.p1 c oc hoc hro o (List.mem_of_head? hh)
  have hsl : SlR ⟨d, (ps.newSl tm ds sz e dp xs).heap, updN μ ps.heap.length (.ref o b.gen b.es.length off len), updN L ps.heap.length (o :: Ln), hupd H o b, nx'⟩ ps.heap.length false sz e dp xs := by
    refine ⟨hsz, hsz0, .inr ⟨o, b.gen, b.es.length, off, len, b, Lx, updN_at, hupd_same H o b, rfl, rfl, hol, hbs, fun _ => hbw, hrep', ?_, ?_, fun q i hi => (g.imm i ((hdp2 q).2 i hi)).2⟩⟩
    · intro x hx
      exact ⟨(hfine x hx).1, (hfine x hx).2.1, fun q => by rw [hdp q]; exact (hfine x hx).2.2 q⟩
    · show updN L ps.heap.length (o :: Ln) ps.heap.length = _
      rw [updN_at]
      cases dp with
      | true => rw [if_pos rfl, hdp rfl]
      | false => rw [if_neg (by simp), (hdp2 rfl).1]
  refine ⟨?_, ⟨?_, updN_at.symm, trivial⟩, g.len, fun a ha => ⟨hmu a ha, hL a ha⟩⟩
  · refine Rel.next R (tm := tm) (Ch := fun a => a = ps.heap.length) g (look_killTo tm ps.env) ?_ ?_ hnx ?_ ?_
    · intro a ob ha hne
      obtain ⟨h1, h2, h3, h4⟩ := hp' ha hne
      refine ⟨h1, hL a h4, fun i hi => hupd_ne H b ?_⟩
      rintro rfl
      exact hout h1 h2 h3 i (by simp) hi
    · rintro a ob ha rfl
      have ha := hnew.symm.trans ha
      cases ha
      rw [updN_at]
      refine ⟨hsl, hnd, ?_, ?_, ?_, fun t ht q hq => by cases hq; exact htm0 t ht, ?_⟩
      · intro i hi
        rcases List.mem_cons.1 hi with rfl | hi
        · exact hage
        · have := hold i hi
          cases i with
          | dy q => exact Nat.lt_of_lt_of_le this hnx
          | st d' t => exact .inl this
          | ex => exact this
      · intro _ i hi
        rcases List.mem_cons.1 hi with rfl | hi
        · exact hP0o
        · obtain ⟨c, hc, hic⟩ := hLn i hi
          obtain ⟨oc, hoc, hro⟩ := hds c hc
          exact R.p1 c oc hoc hro i hic
      · intro i hi
        have := hold i hi
        cases i with
        | dy q => exact Nat.lt_of_lt_of_le this hnx
        | st d' t => exact this
        | ex => exact this
      · intro c hne hlc i hi
        obtain ⟨oc, hoc⟩ := live_iff.1 hlc
        obtain ⟨h1, h2, h3, h4⟩ := hp' hoc hne
        rw [hL c h4]
        exact hout h1 h2 h3 i hi
    · intro q hq
      rw [hupd_ne H b (fun e => hfr q hq e.symm)]
      exact R.fresh q (Nat.le_trans hnx hq)
    · intro i hi
      refine hupd_ne H b ?_
      rintro rfl
      exact hP0o hi
  · show ps.heap.length < (delTo tm (delN ps.heap ds) ++ [_]).length
    rw [List.length_append, hlen]; simp

theorem nodupB_spec : ∀ {l : List Nat}, nodupB l = true → l.Nodup
  | [], _ => List.nodup_nil
  | a :: r, h => by
    simp only [nodupB, Bool.and_eq_true, Bool.not_eq_true'] at h
    refine List.nodup_cons.2 ⟨fun hm => ?_, nodupB_spec h.2⟩
    have := h.1
    simp [hm] at this

theorem OwnN.rel (R : Rel d anV P0 H0 ps μ L E H nx) {ns : List Nat} (h : OwnN ⟨d, ps.heap, μ, L, H, nx⟩ ns) : (∀ a ∈ ns, ∃ ob, hget ps.heap a = some ob ∧ roOf ob = false ∧ tmpO ob = none) := by
  intro a ha
  obtain ⟨ver, sz, e, xs, hx⟩ := h a ha
  exact ⟨_, hx, rfl, rfl⟩

theorem ids_old (R : Rel d anV P0 H0 ps μ L E H nx) {a : Nat} {ob : PObj} (ha : hget ps.heap a = some ob) (ht : tmpO ob = none) : ∀ i ∈ L a, oldI d nx i := by
  intro i hi
  have := R.age a ob ha i hi
  cases i with
  | dy q => exact this
  | st d' t =>
    rcases this with h | h
    · exact h
    · rw [ht] at h; cases h.2
  | ex => exact this

theorem idsN_nodup (R : Rel d anV P0 H0 ps μ L E H nx) : ∀ {ns : List Nat}, ns.Nodup → (∀ a ∈ ns, live ps.heap a) → (idsN L ns).Nodup
  | [], _, _ => List.nodup_nil
  | a :: r, h, hl => by
    simp only [idsN]
    obtain ⟨h1, h2⟩ := List.nodup_cons.1 h
    refine List.nodup_append.2 ⟨R.nd a (hl a (by simp)), idsN_nodup R h2 (fun b hb => hl b (by simp [hb])), ?_⟩
    intro i hi j hj e
    subst e
    obtain ⟨b, hb, hib⟩ := mem_idsN.1 hj
    exact R.dis a b (fun e => h1 (e ▸ hb)) (hl a (by simp)) (hl b (by simp [hb])) i hi hib

theorem elemsP_rel {X : Vw} (hob : Obs X) {e : Kd} : ∀ {vs : List PV} {as : List AV} {xs : List e.den} {ns : List Nat} {ow : Bool}, VRs X vs as → elemsP X.hp e vs = some (xs, ns, ow) →
    (ow = true → RepL (Rep true X.H e) xs as (idsN X.L ns)) ∧ OwnN X ns ∧ ∃ Lx, RepL (Rep false X.H e) xs as Lx ∧ (ns = [] → ∀ i ∈ Lx, X.Imm i)
  | [], [], xs, ns, ow, _, h => by simp only [elemsP] at h; cases h; exact ⟨fun _ => rfl, fun a ha => (by cases ha), [], rfl, fun _ i hi => by cases hi⟩
  | [], _ :: _, _, _, _, h, _ => h.elim
  | _ :: _, [], _, _, _, h, _ => h.elim
  | v :: r, a :: as, xs, ns, ow, ⟨h1, h2⟩, h => by
    simp only [elemsP] at h
    split at h
    · rename_i ys ms ow' hr
      obtain ⟨k1, k2, Lx, k3, k4⟩ := elemsP_rel hob h2 hr
      split at h
      · rename_i x m hx
        cases h
        obtain ⟨q1, q2⟩ := asOwn_rel hob h1 hx
        refine ⟨fun ho => ⟨_, _, q1, k1 ho, idsN_app⟩, q2.app k2, idsN X.L m ++ Lx, ⟨_, _, Rep.read e x a _ q1, k3, rfl⟩, ?_⟩
        intro hn i hi
        have hn := List.append_eq_nil_iff.1 hn
        rcases List.mem_append.1 hi with hi | hi
        · rw [hn.1] at hi; cases hi
        · exact k4 hn.2 i hi
      · split at h
        · rename_i x hx hnm
          cases h
          obtain ⟨Li, q1, q2⟩ := asD_rel hob h1 hx
          refine ⟨fun ho => (by cases ho), k2, Li ++ Lx, ⟨_, _, q1, k3, rfl⟩, ?_⟩
          intro hn i hi
          rcases List.mem_append.1 hi with hi | hi
          · rcases q2 i hi with ⟨b, hb, _⟩ | q
            · rw [hnm] at hb; cases hb
            · exact q
          · exact k4 hn i hi
        · cases h
    · cases h

theorem RepL.mem {own : Bool} {H : Heap} {e : Kd} : ∀ {xs : List e.den} {vs : List AV} {L : List Id}, RepL (Rep own H e) xs vs L → ∀ v ∈ vs, ∃ x L', Rep own H e x v L' ∧ ∀ i ∈ L', i ∈ L
  | [], [], L, _, v, hv => by cases hv
  | [], _ :: _, L, h, _, _ => h.elim
  | _ :: _, [], L, h, _, _ => h.elim
  | x :: xs, u :: vs, L, ⟨L1, L2, h1, h2, e⟩, v, hv => by
    subst e
    rcases List.mem_cons.1 hv with rfl | hv
    · exact ⟨x, L1, h1, fun i hi => by simp [hi]⟩
    · obtain ⟨y, L', a, b⟩ := RepL.mem h2 v hv
      exact ⟨y, L', a, fun i hi => by simp [b i hi]⟩

/-- Elements may lie in memory. -/
theorem RepL.fineE {own : Bool} {H : Heap} {e : Kd} {xs : List e.den} {vs : List AV} {L : List Id} (h : RepL (Rep own H e) xs vs L) : ∀ x ∈ vs, Go.Am.stor x = true ∧ x.cells.length = e.cn ∧ (own = true → fineV (· ∈ L) x) := by
  intro v hv
  obtain ⟨x, L', h1, h2⟩ := h.mem v hv
  refine ⟨h1.stor.1, h1.stor.2.1, fun ho => ?_⟩
  subst ho
  exact fineV_mono h2 v (Rep.fine e x v L' h1)

theorem fits_of {sz : Nat} {es : List AV} (h : ∀ x ∈ es, stor x = true ∧ x.cells.length = sz) : fits sz es = true := by
  unfold fits
  rw [List.all_eq_true]
  intro x hx
  simp [(h x hx).1, (h x hx).2]

theorem rep_bytes {own : Bool} {H : Heap} : ∀ (s : List UInt8), RepL (Rep own H (.int .u8)) (bytesP s) (s.map fun b => .c (.s (.int .u8 b.toNat))) []
  | [] => by rw [bytesP_def]; rfl
  | b :: q => by
    have := rep_bytes (own := own) (H := H) q
    rw [bytesP_def] at this ⊢
    exact ⟨[], [], ⟨by rw [byteI_def], rfl⟩, this, rfl⟩

variable (R : Rel d anV P0 H0 ps μ L E H nx)
include R

/-- A slice of given elements. -/
theorem ok_slice_of {tm : Option Nat} {o : Id} {sz : Nat} {e : Kd} {l : List Opd} {xs : List e.den} {ns : List Nat} {ow : Bool} {nx' : Nat} (ho : NewI d nx tm o) (hnx : nx ≤ nx') (hfr : ∀ k, nx' ≤ k → o ≠ .dy k) (hage : ageI d nx' tm o) (hp : ∀ t, tm = some t → ¬ P0 (.st d t)) (htm0 : ∀ t, tm = some t → o = .st d t)
    (hsz : sz = e.cn) (hsz0 : 0 < sz) (he : elemsP ps.heap e (l.map (pev ps)) = some (xs, ns, ow)) (hn : nodupB ns = true) (how : ow = true ∨ ns = []) (hk : k (.own ps.heap.length) (ps.newSl tm ns sz e ow xs) = some r)
    {op : AOp} (hop : operV T Rn d dst E H nx op = (if fits sz (l.map (ev E)) = true then some (.ref o (genAt H o) l.length 0 l.length, hupd H o ⟨genAt H o, sz, true, l.map (ev E)⟩, nx') else none)) : OpOK T Rn d anV P0 H0 dst E ps μ L H nx k r op := by
  obtain ⟨k1, k2, Lx, k3, k4⟩ := elemsP_rel R.obs (R.pevs l) he
  have hown := OwnN.rel R k2
  have hlive : ∀ a ∈ ns, live ps.heap a := fun a ha => (hown a ha).elim fun ob h => live_iff.2 ⟨ob, h.1⟩
  have hfe := k3.fineE
  have hlen : xs.length = l.length := by rw [RepL.len k3]; simp
  -- what it names
  have hLn : ∃ Ln Lx', RepL (Rep ow H e) xs (l.map (ev E)) Lx' ∧ (ow = true → Lx' = Ln) ∧ (ow = false → Ln = [] ∧ ∀ i ∈ Lx', (⟨d, ps.heap, μ, L, H, nx⟩ : Vw).Imm i) ∧ (∀ i ∈ Ln, ∃ a ∈ ns, i ∈ L a) ∧ Ln.Nodup := by
    cases ow with
    | true => exact ⟨idsN L ns, idsN L ns, k1 rfl, fun _ => rfl, fun h => (by cases h), fun i hi => mem_idsN.1 hi, idsN_nodup R (nodupB_spec hn) hlive⟩
    | false =>
      have : ns = [] := how.resolve_left (by simp)
      exact ⟨[], Lx, k3, fun h => (by cases h), fun _ => ⟨rfl, k4 this⟩, fun i hi => (by cases hi), List.nodup_nil⟩
  obtain ⟨Ln, Lx', q1, q2, q3, q4, q5⟩ := hLn
  have hold : ∀ i ∈ Ln, oldI d nx i := by
    intro i hi
    obtain ⟨a, ha, hia⟩ := q4 i hi
    obtain ⟨ob, h1, _, h3⟩ := hown a ha
    exact ids_old R h1 h3 i hia
  have hon : o ∉ Ln := by
    intro hm
    have := hold o hm
    rcases ho with ⟨q, rfl, hq⟩ | ⟨t, rfl, ht⟩
    · have : q < nx := this
      omega
    · have : d < d := this
      omega
  have hfits : fits sz (l.map (ev E)) = true := fits_of fun x hx => ⟨(hfe x hx).1, by rw [(hfe x hx).2.1, hsz]⟩
  have hall : (l.map (ev E)).take l.length = l.map (ev E) := List.take_of_length_le (by simp)
  obtain ⟨r1, r2, r3, r4⟩ := R.newSl (tm := tm) ns (o := o) (b := ⟨genAt H o, sz, true, l.map (ev E)⟩) (sz := sz) (e := e) (dp := ow) (xs := xs) (Ln := Ln) (Lx := Lx') (off := 0) (len := l.length) (nx' := nx')
    (fun a ha => (hown a ha).elim fun ob h => ⟨ob, h.1, h.2.1⟩) (.inl ho) q4 hold (List.nodup_cons.2 ⟨hon, q5⟩) hnx hfr hage hp htm0 hsz hsz0 rfl rfl (by simp) (by rw [List.drop_zero]; show RepL _ _ ((l.map (ev E)).take l.length) _; rw [hall]; exact q1) q2 q3
    (fun x hx => ⟨(hfe x hx).1, by rw [(hfe x hx).2.1, hsz], fun ho => by
      have q1' : RepL (Rep true H e) xs (l.map (ev E)) Lx' := by rw [← ho]; exact q1
      rw [← q2 ho]; exact (q1'.fineE x hx).2.2 rfl⟩)
  have hle : (l.map (ev E)).length = l.length := by simp
  refine ⟨_, _, .ref o (genAt H o) l.length 0 l.length, _, _, _, nx', hk, ?_, r1, fun _ => ?_, r3, r4, hnx, rfl, EW.killTo _ _, LB.newSl _ _ _ _ _ _ _⟩
  · rw [hop, if_pos hfits]
  · have := r2
    simp only [hle] at this ⊢
    exact this

theorem ok_bsliceD {sz : Nat} {l : List Opd} (h : opP hn pm dst ps (.bsliceD sz l) k = some r) : OpOK T Rn d anV P0 H0 dst E ps μ L H nx k r (.bsliceD sz l) := by
  simp only [opP] at h
  split at h
  · rename_i sz' e he
    split at h
    · rename_i hc
      split at h
      · rename_i xs ns ow hx
        split at h
        · rename_i hc2
          exact ok_slice_of R (tm := none) (.inl ⟨nx, rfl, Nat.le_refl _⟩) (Nat.le_succ nx) (fun q hq e => by cases e; omega) (Nat.lt_succ_self nx) (fun t ht => by cases ht) (fun t ht => by cases ht) hc.2.1 hc.2.2 hx hc2.1 hc2.2 h (by simp only [operV])
        · cases h
      · cases h
    · cases h
  · cases h

theorem ok_bslice {sz : Nat} {l : List Opd} (hp : ∀ t, dst = some t → ¬ P0 (.st d t)) (h : opP hn pm dst ps (.bslice sz l) k = some r) : OpOK T Rn d anV P0 H0 dst E ps μ L H nx k r (.bslice sz l) := by
  simp only [opP] at h
  split at h
  · rename_i t sz' e he
    split at h
    · rename_i hc
      split at h
      · rename_i xs ns ow hx
        split at h
        · rename_i hc2
          exact ok_slice_of R (tm := some t) (.inr ⟨t, rfl, rfl⟩) (Nat.le_refl nx) (fun q hq e => by cases e) (.inr ⟨rfl, rfl⟩) (fun t' ht => by cases ht; exact hp _ rfl) (fun t' ht => by cases ht; rfl) hc.2.1 hc.2.2 hx hc2.1 hc2.2 h (by simp only [operV])
        · cases h
      · cases h
    · cases h
  · cases h

/-- A slice without names in it. -/
theorem ok_fresh {sz : Nat} {e : Kd} {xs : List e.den} {es : List AV} (hsz : sz = e.cn) (hsz0 : 0 < sz) (hr : RepL (Rep true H e) xs es []) (hk : k (.own ps.heap.length) (ps.newSl none [] sz e true xs) = some r)
    {op : AOp} (hop : operV T Rn d dst E H nx op = some (.ref (.dy nx) (genAt H (.dy nx)) es.length 0 es.length, hupd H (.dy nx) ⟨genAt H (.dy nx), sz, true, es⟩, nx + 1)) : OpOK T Rn d anV P0 H0 dst E ps μ L H nx k r op := by
  have hfe := hr.fineE
  obtain ⟨r1, r2, r3, r4⟩ := R.newSl (tm := none) [] (o := .dy nx) (b := ⟨genAt H (.dy nx), sz, true, es⟩) (sz := sz) (e := e) (dp := true) (xs := xs) (Ln := []) (Lx := []) (off := 0) (len := es.length) (nx' := nx + 1)
    (fun a ha => by cases ha) (.inl (.inl ⟨nx, rfl, Nat.le_refl _⟩)) (fun i hi => by cases hi) (fun i hi => by cases hi) (List.nodup_cons.2 ⟨by simp, List.nodup_nil⟩) (Nat.le_succ nx) (fun q hq e => by cases e; omega) (Nat.lt_succ_self nx) (fun t ht => by cases ht) (fun t ht => by cases ht) hsz hsz0 rfl rfl (by simp)
    (by rw [List.drop_zero]; show RepL _ _ (es.take es.length) _; rw [List.take_length]; exact hr) (fun _ => rfl) (fun h => by cases h) (fun x hx => ⟨(hfe x hx).1, by rw [(hfe x hx).2.1, hsz], (hfe x hx).2.2⟩)
  exact ⟨_, _, _, _, _, _, nx + 1, hk, hop, r1, fun _ => r2, r3, r4, Nat.le_succ nx, rfl, EW.killTo none ps.env, LB.newSl _ _ _ _ _ _ _⟩

theorem ok_s2b {x : Opd} (h : opP hn pm dst ps (.s2b x) k = some r) : OpOK T Rn d anV P0 H0 dst E ps μ L H nx k r (.s2b x) := by
  simp only [opP] at h
  split at h
  · rename_i s hs
    have es := bytP_rel hs (R.pev x)
    obtain ⟨h1, h2⟩ := guardK_some h
    rw [gS2b_def] at h1
    have h1 : s.length ≤ 4294967296 := of_decide_eq_true h1
    refine ok_fresh R (sz := 1) (e := .int .u8) (xs := bytesP s) (es := s.map fun b => .c (.s (.int .u8 b.toNat))) rfl (by omega) ?_ h2 ?_
    · exact rep_bytes s
    · simp only [operV, es, size_mk]
      rw [if_pos h1]
      simp [bytesVs]
  · cases h

theorem ok_mksl {sz : Nat} {z : AV} {n : Opd} (h : opP hn pm dst ps (.mksl sz z n) k = some r) : OpOK T Rn d anV P0 H0 dst E ps μ L H nx k r (.mksl sz z n) := by
  simp only [opP] at h
  split at h
  · rename_i sz' e kd m he hm
    have em := intP_rel hm (R.pev n)
    split at h
    · rename_i hc
      split at h
      · rename_i zx ns hz
        obtain ⟨h1, h2⟩ := guardK_some h
        rw [gMk_def] at h1
        have h1 : 0 ≤ m ∧ m * sz ≤ 4294967296 := of_decide_eq_true h1
        let X0 : Vw := ⟨d, [], μ, L, H, nx⟩
        obtain ⟨q1, q2⟩ := asOwn_rel (X := X0) (fun a ob ha => by simp [X0, hget] at ha) (constA_rel z) hz
        have hns : ns = [] := by
          cases ns with
          | nil => rfl
          | cons a q => obtain ⟨_, _, _, _, ha⟩ := q2 a (by simp); simp [X0, hget] at ha
        subst hns
        have q1 : Rep true H e zx z [] := q1
        refine ok_fresh R (sz := sz) (e := e) (xs := repL (toN m) zx) (es := List.replicate m.toNat z) hc.2.1 hc.2.2 ?_ h2 ?_
        · rw [repL_def, toN_def]
          generalize m.toNat = q
          induction q with
          | zero => rfl
          | succ q ih => exact ⟨[], [], q1, ih, rfl⟩
        · simp only [operV, em, intOfV]
          rw [if_pos ⟨h1.1, h1.2, q1.stor.1, by rw [q1.stor.2.1]; exact hc.2.1.symm⟩]
          simp
      · cases h
    · cases h
  · cases h
end
end Go.Am

/- The machine on typed data against the small machine: cells, and what is written. -/
namespace Go.Am
set_option linter.unusedSimpArgs false
set_option linter.unusedVariables false

section
variable {T : Tab} {Rn : Run} {d : Nat} {anV : List AV} {P0 : Id → Prop} {H0 : Heap} {ps : PS} {μ : Nat → AV} {L : Nat → List Id} {E : AEnv} {H : Heap} {nx : Nat} {dst : Option Nat} {hn : Hints} {pm : List Nat} {ρ : Type} {r : ρ} {k : PV → PS → Option ρ}

/-- How a step that changes objects in their places, and drops some, changes the view. -/
theorem Rel.chg (R : Rel d anV P0 H0 ps μ L E H nx) {tm : Option Nat} {env' : List (Nat × PV)} {hp' : List (Option PObj)} {H' : Heap} (Wr : Id → Prop)
    (hlen : hp'.length = ps.heap.length) (hWr : ∀ i, Wr i → (⟨d, ps.heap, μ, L, H, nx⟩ : Vw).top i ∨ NewI d nx tm i) (hH : ∀ i, ¬ Wr i → H' i = H i)
    (hob : ∀ a ob', hget hp' a = some ob' → ∃ ob, hget ps.heap a = some ob ∧ laterO (some ob) (some ob') ∧ (∀ t, tm = some t → tmpO ob ≠ some t)) :
    Grow ⟨d, ps.heap, μ, L, H, nx⟩ ⟨d, hp', μ, L, H', nx⟩ tm := by
  refine Grow.of rfl (by show ps.heap.length ≤ hp'.length; omega) (fun _ _ => rfl) ?_ (Nat.le_refl _) ?_ ?_
  · intro a ha
    show laterO (hget ps.heap a) (hget hp' a)
    cases hx : hget hp' a with
    | none => cases hget ps.heap a <;> trivial
    | some ob' =>
      obtain ⟨ob, h1, h2, _⟩ := hob a ob' hx
      rw [h1]; exact h2
  · intro i h1 h2
    refine hH i fun hw => ?_
    rcases hWr i hw with h | h
    · exact h1 h
    · exact h2 h
  · rintro i ⟨a, ha, htop⟩
    obtain ⟨ob', hx⟩ := live_iff.1 ha
    obtain ⟨ob, h1, _⟩ := hob a ob' hx
    exact .inl ⟨a, live_iff.2 ⟨ob, h1⟩, htop⟩

variable (R : Rel d anV P0 H0 ps μ L E H nx)
include R

/-- A cell laid anew. -/
theorem Rel.newCell {t : Nat} {g n : Nat} {v : PV} {w : AV} (hp : ¬ P0 (.st d t)) (hok : cellOK v = true) (hv : VR ⟨d, ps.heap, μ, L, H, nx⟩ v w) (hn : n = w.cells.length) :
    let o : Id := .st d t
    let ps' : PS := { ps with env := killE t ps.env, heap := delT t ps.heap ++ [some (.cell false (some t) v)] }
    Rel d anV P0 H0 ps' (updN μ ps.heap.length (.ptr o g 1 0 0)) (updN L ps.heap.length [o]) E (hupd H o ⟨g, n, true, [w]⟩) nx ∧
      VR ⟨d, ps'.heap, updN μ ps.heap.length (.ptr o g 1 0 0), updN L ps.heap.length [o], hupd H o ⟨g, n, true, [w]⟩, nx⟩ (.cp ps.heap.length 0) (.ptr o g 1 0 0) ∧
      ps.heap.length ≤ ps'.heap.length ∧ ∀ a, a < ps.heap.length → updN μ ps.heap.length (.ptr o g 1 0 0) a = μ a ∧ updN L ps.heap.length [o] a = L a := by
  intro o ps'
  have hlen : (delT t ps.heap).length = ps.heap.length := delT_length
  have hp' : ∀ {a : Nat} {ob : PObj}, hget ps'.heap a = some ob → a ≠ ps.heap.length → hget ps.heap a = some ob ∧ tmpO ob ≠ some t ∧ a < ps.heap.length := by
    intro a ob h hne
    have h : hget (delT t ps.heap ++ [some (.cell false (some t) v)]) a = some ob := h
    rw [hget_append, hlen] at h
    split at h
    · rename_i hlt
      obtain ⟨h1, h2⟩ := hget_delT.1 h
      exact ⟨h1, h2, hlt⟩
    · rename_i hlt
      rw [hget_ge (by simp; omega)] at h
      cases h
  have hnew : hget ps'.heap ps.heap.length = some (.cell false (some t) v) := by
    show hget (delT t ps.heap ++ [some (.cell false (some t) v)]) ps.heap.length = _
    rw [hget_append, hlen, if_neg (by omega), Nat.sub_self]; rfl
  have hout : ∀ {a : Nat} {ob : PObj}, hget ps.heap a = some ob → tmpO ob ≠ some t → o ∉ L a := by
    intro a ob ha htm hi
    rcases R.age a ob ha o hi with h | h
    · omega
    · exact htm h.2
  have hmu : ∀ a, a < ps.heap.length → updN μ ps.heap.length (.ptr o g 1 0 0) a = μ a := fun a ha => updN_ne (by omega)
  have hL : ∀ a, a < ps.heap.length → updN L ps.heap.length [o] a = L a := fun a ha => updN_ne (by omega)
  have gr : Grow ⟨d, ps.heap, μ, L, H, nx⟩ ⟨d, ps'.heap, updN μ ps.heap.length (.ptr o g 1 0 0), updN L ps.heap.length [o], hupd H o ⟨g, n, true, [w]⟩, nx⟩ (some t) := by
    refine Grow.of rfl ?_ hmu ?_ (Nat.le_refl _) ?_ ?_
    · show ps.heap.length ≤ (delT t ps.heap ++ [_]).length
      rw [List.length_append, hlen]; omega
    · intro a ha
      cases hx : hget ps'.heap a with
      | none => cases hget ps.heap a <;> trivial
      | some ob =>
        have ha : a < ps.heap.length := ha
        have := (hp' hx (by omega)).1
        show laterO (hget ps.heap a) (some ob)
        rw [this]; exact laterO.refl _
    · intro i _ h2
      exact hupd_ne H _ (fun e => h2 (.inr ⟨t, e, rfl⟩))
    · rintro i ⟨a, ha, htop⟩
      obtain ⟨ob, hob⟩ := live_iff.1 ha
      by_cases hane : a = ps.heap.length
      · subst hane
        have htop : (updN L ps.heap.length [o] ps.heap.length).head? = some i := htop
        rw [updN_at] at htop
        cases htop
        exact .inr (.inr ⟨t, rfl, rfl⟩)
      · obtain ⟨h1, _, h4⟩ := hp' hob hane
        have htop : (updN L ps.heap.length [o] a).head? = some i := htop
        rw [hL a h4] at htop
        exact .inl ⟨a, live_iff.2 ⟨ob, h1⟩, htop⟩
  obtain ⟨st1, st2⟩ := cellOK_stor hok hv
  refine ⟨?_, ⟨?_, o, g, updN_at, rfl⟩, gr.len, fun a ha => ⟨hmu a ha, hL a ha⟩⟩
  · refine Rel.next R (tm := some t) (Ch := fun a => a = ps.heap.length) gr (fun u => (look_kill t ps.env u).imp id fun h => ⟨h.1, fun t' h' => by cases h'; exact h.2⟩) ?_ ?_ (Nat.le_refl _) ?_ ?_
    · intro a ob ha hne
      obtain ⟨h1, h2, h3⟩ := hp' ha hne
      refine ⟨h1, hL a h3, fun i hi => hupd_ne H _ ?_⟩
      rintro rfl
      exact hout h1 h2 hi
    · rintro a ob ha rfl
      have ha := hnew.symm.trans ha
      cases ha
      rw [updN_at]
      refine ⟨⟨o, g, _, w, updN_at, hupd_same _ _ _, rfl, rfl, hn, by show 0 < n; omega, st1, fun _ => rfl, updN_at, VR.mono gr v w (fun _ _ => hasKp_ok hok) hv, hok⟩, by simp, ?_, ?_, by simp, fun t' ht q hq => by cases ht; cases hq; rfl, ?_⟩
      · intro i hi
        obtain rfl : i = o := by simpa using hi
        exact .inr ⟨rfl, rfl⟩
      · intro _ i hi
        obtain rfl : i = o := by simpa using hi
        exact hp
      · intro c hne hlc i hi
        obtain rfl : i = o := by simpa using hi
        obtain ⟨oc, hoc⟩ := live_iff.1 hlc
        obtain ⟨h1, h2, h3⟩ := hp' hoc hne
        rw [hL c h3]
        exact hout h1 h2
    · intro q hq
      rw [hupd_ne H _ (by simp [o])]
      exact R.fresh q hq
    · intro i hi
      refine hupd_ne H _ ?_
      rintro rfl
      exact hp hi
  · show ps.heap.length < (delT t ps.heap ++ [_]).length
    rw [List.length_append, hlen]; simp

/-- A cell that is never written again: its value. -/
theorem Rel.newKp {t : Nat} {g n : Nat} {v : PV} {w : AV} (hp : ¬ P0 (.st d t)) (hok : cellOK v = true) (hpu : pureV v = true) (hv : VR ⟨d, ps.heap, μ, L, H, nx⟩ v w) (hn : n = w.cells.length) :
    let o : Id := .st d t
    let ps' : PS := { ps with env := killE t ps.env, heap := delT t ps.heap }
    Rel d anV P0 H0 ps' μ L E (hupd H o ⟨g, n, true, [w]⟩) nx ∧ VR ⟨d, ps'.heap, μ, L, hupd H o ⟨g, n, true, [w]⟩, nx⟩ (.kp t v 0) (.ptr o g 1 0 0) ∧ ps.heap.length ≤ ps'.heap.length := by
  intro o ps'
  have hlen : ps'.heap.length = ps.heap.length := delT_length
  have hp' : ∀ {a : Nat} {ob : PObj}, hget ps'.heap a = some ob → hget ps.heap a = some ob ∧ tmpO ob ≠ some t := fun h => hget_delT.1 h
  have hout : ∀ {a : Nat} {ob : PObj}, hget ps.heap a = some ob → tmpO ob ≠ some t → o ∉ L a := by
    intro a ob ha htm hi
    rcases R.age a ob ha o hi with h | h
    · omega
    · exact htm h.2
  have gr := R.chg (tm := some t) (env' := ps'.env) (hp' := ps'.heap) (H' := hupd H o ⟨g, n, true, [w]⟩) (fun i => i = o) hlen (fun i hi => .inr (.inr ⟨t, hi, rfl⟩)) (fun i hi => hupd_ne H _ hi)
    (fun a ob ha => ⟨ob, (hp' ha).1, laterO.refl _, fun t' h' => by cases h'; exact (hp' ha).2⟩)
  refine ⟨?_, ⟨hpu, hok, o, g, ⟨g, n, true, [w]⟩, w, ⟨rfl, ?_⟩, rfl, hupd_same _ _ _, rfl, rfl, hn, VR.mono gr v w (fun _ _ => hasKp_ok hok) hv⟩, by omega⟩
  · refine Rel.next R (tm := some t) (Ch := fun a => False) gr (fun u => (look_kill t ps.env u).imp id fun h => ⟨h.1, fun t' h' => by cases h'; exact h.2⟩) ?_ ?_ (Nat.le_refl _) ?_ ?_
    · intro a ob ha _
      obtain ⟨h1, h2⟩ := hp' ha
      refine ⟨h1, rfl, fun i hi => hupd_ne H _ ?_⟩
      rintro rfl
      exact hout h1 h2 hi
    · intro a ob _ h; exact h.elim
    · intro q hq
      rw [hupd_ne H _ (by simp [o])]
      exact R.fresh q hq
    · intro i hi
      refine hupd_ne H _ ?_
      rintro rfl
      exact hp hi
  · rintro ⟨a, ha, htop⟩
    obtain ⟨ob, hob⟩ := live_iff.1 ha
    obtain ⟨h1, h2⟩ := hp' hob
    exact hout h1 h2 (List.mem_of_head? htop)

theorem ok_alloc {z : AV} (hp : ∀ t, dst = some t → ¬ P0 (.st d t)) (h : opP hn pm dst ps (.alloc z) k = some r) : OpOK T Rn d anV P0 H0 dst E ps μ L H nx k r (.alloc z) := by
  simp only [opP] at h
  split at h
  · rename_i t
    split at h
    · rename_i hok
      obtain ⟨r1, r2, r3, r4⟩ := R.newCell (t := t) (g := genAt H (.st d t)) (n := z.cells.length) (hp t rfl) hok (constA_rel z) rfl
      have hst := (cellOK_stor (X := ⟨d, ps.heap, μ, L, H, nx⟩) hok (constA_rel z)).1
      exact ⟨_, _, _, _, _, _, nx, h, by simp only [operV]; rw [if_pos hst], r1, fun _ => r2, r3, r4, Nat.le_refl _, rfl, EW.kill _ _, ((LB.refl _).delT _).app delT_length.symm⟩
    · cases h
  · cases h

theorem ok_box {x : Opd} (hp : ∀ t, dst = some t → ¬ P0 (.st d t)) (h : opP hn pm dst ps (.box x) k = some r) : OpOK T Rn d anV P0 H0 dst E ps μ L H nx k r (.box x) := by
  simp only [opP] at h
  split at h
  · rename_i t hok
    obtain ⟨st1, st2⟩ := cellOK_stor hok (R.pev x)
    split at h
    · rename_i hpm
      simp only [Bool.and_eq_true] at hpm
      obtain ⟨r1, r2, r3⟩ := R.newKp (t := t) (g := genAt H (.st d t)) (n := (ev E x).cells.length) (hp t rfl) hok hpm.2 (R.pev x) rfl
      exact ⟨_, _, _, _, _, _, nx, h, by simp only [operV]; rw [if_pos ⟨st1, st2⟩], r1, fun _ => r2, r3, fun _ _ => ⟨rfl, rfl⟩, Nat.le_refl _, rfl, EW.kill _ _, (LB.refl _).delT _⟩
    · obtain ⟨r1, r2, r3, r4⟩ := R.newCell (t := t) (g := genAt H (.st d t)) (n := (ev E x).cells.length) (hp t rfl) hok (R.pev x) rfl
      exact ⟨_, _, _, _, _, _, nx, h, by simp only [operV]; rw [if_pos ⟨st1, st2⟩], r1, fun _ => r2, r3, r4, Nat.le_refl _, rfl, EW.kill _ _, ((LB.refl _).delT _).app delT_length.symm⟩
  · cases h
end
end Go.Am

/- The machine on typed data against the small machine: 'append' and what is stored. -/
namespace Go.Am
set_option linter.unusedSimpArgs false
set_option linter.unusedVariables false

theorem RepL.set {α : Type} {R : α → AV → List Id → Prop} : ∀ {xs : List α} {vs : List AV} {L : List Id} {i : Nat} {x y : α} {v w : AV}, RepL R xs vs L → xs[i]? = some x → vs[i]? = some v → (∀ Li, R x v Li → R y w Li) → RepL R (xs.set i y) (vs.set i w) L
  | [], _, _, i, x, _, _, _, _, h, _, _ => by simp at h
  | _ :: _, [], _, _, _, _, _, _, h, _, _, _ => h.elim
  | a :: xs, b :: vs, L, i, x, y, v, w, ⟨L1, L2, h1, h2, e⟩, hx, hv, hr => by
    subst e
    cases i with
    | zero =>
      simp at hx hv
      subst hx; subst hv
      exact ⟨L1, L2, hr L1 h1, h2, rfl⟩
    | succ i => exact ⟨L1, L2, h1, RepL.set h2 (by simpa using hx) (by simpa using hv) hr, rfl⟩

theorem set_window (es : List AV) (off len i : Nat) (w : AV) (h : i < len) : ((es.set (off + i) w).drop off).take len = ((es.drop off).take len).set i w := by
  rw [List.drop_set, if_neg (by omega), show off + i - off = i from by omega, List.take_set]

section
variable {X : Vw}
theorem leafs_cell {own : Bool} {H : Heap} {p : Bool} : ∀ (fs : List Kd) (x : Kd.dens fs) (vs : List AV) (L : List Id), Reps own H fs x vs L → (leafsP p fs x).all cellLeaf = true
  | [], x, [], L, h => rfl
  | [], x, _ :: _, L, h => h.elim
  | t :: r, x, [], L, h => h.elim
  | t :: r, x, v :: vs, L, ⟨h0, L1, L2, h1, h2, e⟩ => by simp [leafsP, cellLeaf, h0, leafs_cell (p := p) r x.2 vs L2 h2]

theorem cells_ok {v : PV} {a : AV} (h : cellOK v = true) (hr : VR X v a) : v.cells.all cellLeaf = true ∧ v.cells ≠ [] := by
  cases v with
  | agg cs =>
    simp only [cellOK, Bool.and_eq_true] at h
    exact ⟨h.1, by intro e; have e : cs = [] := e; subst e; simp at h⟩
  | d p t x =>
    obtain ⟨Li, h1, _⟩ := hr
    cases t with
    | st fs =>
      refine ⟨leafs_cell fs x a.cells Li h1.2, ?_⟩
      cases fs with
      | nil => simp [cellOK] at h
      | cons => simp [PV.cells, leafsP]
    | _ => exact ⟨rfl, by simp [PV.cells]⟩
  | nils => exact ⟨rfl, by simp [PV.cells]⟩
  | own b => exact ⟨rfl, by simp [PV.cells]⟩
  | _ => simp [cellOK, cellLeaf] at h

/-- Something put into a cell. -/
theorem storeP_rel {n off : Nat} {u v u' : PV} {w x : AV} (hu : VR X u w) (hv : VR X v x) (ou : cellOK u = true) (ov : cellOK v = true) (h : opP.storeP n off u v = some u') :
    ∃ w', (if off = 0 ∧ n = w.cells.length ∧ x.isAgg = w.isAgg then some x else match putCells w.cells off x.cells with | some cs => reEl w cs | none => none) = some w' ∧ VR X u' w' ∧ cellOK u' = true ∧ x.cells.length = n ∧ w'.cells.length = w.cells.length ∧ w'.isAgg = w.isAgg := by
  obtain ⟨cu1, cu2⟩ := cells_rel u w (known_ok ou) hu
  obtain ⟨cv1, cv2⟩ := cells_rel v x (known_ok ov) hv
  have lu := cu1.len
  have lv := cv1.len
  unfold opP.storeP at h
  split at h
  · rename_i hc
    have hxn : x.cells.length = n := by omega
    split at h
    · rename_i hag
      have hw : w.isAgg = true := by rw [← cu2]; exact hag
      split at h
      · rename_i hw2
        cases h
        have hx : x.isAgg = true := by rw [← cv2]; exact hw2.2.2
        exact ⟨x, by rw [if_pos ⟨hw2.1, by omega, by rw [hx, hw]⟩], hv, ov, hxn, by omega, by rw [hx, hw]⟩
      · rename_i hw2
        cases h
        refine ⟨.agg (w.cells.take off ++ x.cells ++ w.cells.drop (off + x.cells.length)), ?_, ⟨rfl, ?_⟩, ?_, hxn, ?_, by rw [hw]; rfl⟩
        · rw [if_neg]
          · unfold putCells
            rw [if_pos (by omega)]
            simp only [reEl, hw, if_true]
          · rintro ⟨q1, q2, q3⟩
            exact hw2 ⟨q1, by omega, by rw [cv2, q3, hw]⟩
        · show VRs X _ (w.cells.take off ++ x.cells ++ w.cells.drop (off + x.cells.length))
          rw [hxn]
          exact ((cu1.take off).app cv1).app (cu1.drop (off + n))
        · obtain ⟨a1, a2⟩ := cells_ok ou hu
          obtain ⟨b1, b2⟩ := cells_ok ov hv
          simp only [cellOK, Bool.and_eq_true, List.all_append, Bool.not_eq_true']
          rw [List.all_eq_true] at a1
          refine ⟨⟨⟨?_, b1⟩, ?_⟩, ?_⟩
          · rw [List.all_eq_true]; exact fun q hq => a1 q (List.mem_of_mem_take hq)
          · rw [List.all_eq_true]; exact fun q hq => a1 q (List.mem_of_mem_drop hq)
          · cases hv' : v.cells with
            | nil => exact (b2 hv').elim
            | cons => simp
        · show (w.cells.take off ++ x.cells ++ w.cells.drop (off + x.cells.length)).length = _
          simp only [List.length_append, List.length_take, List.length_drop]; omega
    · rename_i hag
      split at h
      · rename_i hw2
        cases h
        have hx : x.isAgg = false := by rw [← cv2]; exact hw2.2
        have hw : w.isAgg = false := by rw [← cu2]; exact hag
        have nag : ∀ (p : PV), p.isAgg = false → p.cells = [p] := by
          intro p hp
          cases p with
          | d q t y => cases t with
            | st => cases hp
            | _ => rfl
          | agg => cases hp
          | _ => rfl
        have e1 := nag u hag
        have e2 := nag v hw2.2
        rw [e1] at lu
        rw [e2] at lv
        simp at lu lv
        exact ⟨x, by rw [if_pos ⟨hw2.1, by omega, by rw [hx, hw]⟩], hv, ov, hxn, by omega, by rw [hx, hw]⟩
      · cases h
  · cases h
end

section
variable {T : Tab} {Rn : Run} {d : Nat} {anV : List AV} {P0 : Id → Prop} {H0 : Heap} {ps : PS} {μ : Nat → AV} {L : Nat → List Id} {E : AEnv} {H : Heap} {nx : Nat} {dst : Option Nat} {hn : Hints} {pm : List Nat} {ρ : Type} {r : ρ} {k : PV → PS → Option ρ}
variable (R : Rel d anV P0 H0 ps μ L E H nx)
include R

theorem hp0_top {o : Id} {c : Nat} {ob : PObj} (hc : hget ps.heap c = some ob) (hro : roOf ob = false) (hL : o ∈ L c) {b : Obj} : ∀ i, P0 i → hupd H o b i = H i := by
  intro i hi
  refine hupd_ne H b ?_
  rintro rfl
  exact R.p1 c ob hc hro i hL hi

theorem fresh_top {o : Id} {c : Nat} {ob : PObj} (hc : hget ps.heap c = some ob) (hL : o ∈ L c) {b : Obj} : ∀ q, nx ≤ q → hupd H o b (.dy q) = none := by
  intro q hq
  rw [hupd_ne H b]
  · exact R.fresh q hq
  · rintro rfl
    have : q < nx := R.age c ob hc _ hL
    omega

theorem not_other {c a : Nat} {ob : PObj} (hla : live ps.heap a) (hne : a ≠ c) (hc : hget ps.heap c = some ob) {o : Id} (ho : o ∈ L c) : ∀ i ∈ L a, i ≠ o := by
  rintro i hi rfl
  exact R.dis a c hne hla (live_iff.2 ⟨ob, hc⟩) i hi ho

theorem ok_store {n : Nat} {a x : Opd} (hdst : dst = none) (h : opP hn pm dst ps (.store n a x) k = some r) : OpOK T Rn d anV P0 H0 dst E ps μ L H nx k r (.store n a x) := by
  subst hdst
  simp only [opP] at h
  have h1 := R.pev a
  have h2 := R.pev x
  split at h
  · rename_i c off hx hok
    rw [hx] at h1
    split at h
    · rename_i tmp u hc
      split at h
      · rename_i u' hu'
        obtain ⟨o, g, b, w, e1, e2, e3, e4, e5, e6, e7, e8, e9, e10, e11⟩ := R.ob c _ hc
        have e1 : μ c = .ptr o g 1 0 0 := e1
        have e2 : H o = some b := e2
        have e9 : L c = [o] := e9
        obtain ⟨h0, o', g', k1, k2⟩ := h1
        have k1 : μ c = .ptr o' g' 1 0 0 := k1
        rw [e1] at k1
        cases k1
        obtain ⟨w', q1, q2, q3, q4, q5, q6⟩ := storeP_rel e10 h2 e11 hok hu'
        have hst := (cellOK_stor hok h2).1
        have hst' := (cellOK_stor q3 q2).1
        have hL : o ∈ L c := by rw [e9]; simp
        have htop : (⟨d, ps.heap, μ, L, H, nx⟩ : Vw).top o := ⟨c, live_iff.2 ⟨_, hc⟩, by show (L c).head? = some o; rw [e9]; rfl⟩
        have hop : operV T Rn d none E H nx (.store n a x) = some (.undef, hupd H o { b with es := [w'] }, nx) := by
          have : storeV H n (ev E x) (.ptr o g 1 0 off) = some (hupd H o { b with es := [w'] }) := by
            simp only [storeV, e2]
            rw [if_pos ⟨e3, by rw [e4]; rfl, e8 rfl, q4, hst⟩, e4]
            simp only [List.getElem?_cons_zero, List.set_cons_zero]
            have q1' : (if off = 0 ∧ n = b.sz ∧ (ev E x).isAgg = w.isAgg then some (ev E x) else match putCells w.cells off (ev E x).cells with | some cs => reEl w cs | none => none) = some w' := by rw [e5]; exact q1
            exact congrArg (fun z : Option AV => match z with | some new => some (hupd H o { b with es := [new] }) | none => none) q1'
          simp only [operV, k2, this]
        split at h
        · -- it becomes a value
          rename_i t ht
          have hpr : ∃ c', tmp = some t ∧ off = 0 ∧ look ps.env t = .cp c' 0 ∧ c = c' ∧ pureV u' = true := by
            unfold opP.promT at ht
            split at ht
            · split at ht
              · rename_i t' _ _ c' hl
                split at ht
                · rename_i hcond
                  simp only [Bool.and_eq_true] at hcond
                  cases ht
                  exact ⟨c', rfl, rfl, hl, Nat.eq_of_beq_eq_true hcond.2.2, hcond.2.1⟩
                · cases ht
              · cases ht
            · cases ht
          obtain ⟨c', p1, p2, p3, p4, p5⟩ := hpr
          subst p1; subst p2; subst p4
          have hd : hget (hset ps.heap c none) c = none := by rw [hget_hset]; simp [hget_lt hc]
          have ho' : ∀ b' ob, hget (hset ps.heap c none) b' = some ob → hget ps.heap b' = some ob ∧ b' ≠ c := by
            intro b' ob hb
            rw [hget_hset] at hb
            split at hb
            · cases hb
            · rename_i hne
              exact ⟨hb, fun e => hne ⟨e, hget_lt hc⟩⟩
          have gr := R.chg (tm := none) (env' := ps.env) (hp' := hset ps.heap c none) (H' := hupd H o { b with es := [w'] }) (fun i => i = o) hset_length (fun i hi => .inl (by rw [hi]; exact htop)) (fun i hi => hupd_ne H _ hi)
            (fun b' ob hb => ⟨ob, (ho' b' ob hb).1, laterO.refl _, fun t' h' => by cases h'⟩)
          have R1 : Rel d anV P0 H0 ⟨ps.env, ps.anc, hset ps.heap c none⟩ μ L E (hupd H o { b with es := [w'] }) nx := by
            refine Rel.next R (tm := none) (Ch := fun _ => False) gr (fun u => .inr ⟨rfl, fun t' h' => by cases h'⟩) ?_ (fun _ _ _ h => h.elim) (Nat.le_refl _) (fresh_top R hc hL) (hp0_top R hc rfl hL)
            intro b' ob hb _
            obtain ⟨z1, z2⟩ := ho' b' ob hb
            exact ⟨z1, rfl, fun i hi => hupd_ne H _ (not_other R (live_iff.2 ⟨_, z1⟩) z2 hc hL i hi)⟩
          have hE : E t = .ptr o g 1 0 0 := by
            have := R.env t
            rw [p3] at this
            obtain ⟨_, o2, g2, z1, z2⟩ := this
            have z1 : μ c = .ptr o2 g2 1 0 0 := z1
            rw [e1] at z1
            cases z1
            exact z2
          have hos : o = .st d t := R.st c _ t hc rfl o (by rw [e9]; rfl)
          have hkp : VR ⟨d, hset ps.heap c none, μ, L, hupd H o { b with es := [w'] }, nx⟩ (.kp t u' 0) (E t) := by
            rw [hE]
            refine ⟨p5, q3, o, g, { b with es := [w'] }, w', ⟨hos, ?_⟩, rfl, hupd_same _ _ _, e3, rfl, by show b.sz = w'.cells.length; omega, VR.mono gr u' w' (fun _ h => by cases h) q2⟩
            rintro ⟨b', hb', htop'⟩
            obtain ⟨ob, hob⟩ := live_iff.1 hb'
            obtain ⟨z1, z2⟩ := ho' b' ob hob
            exact not_other R (live_iff.2 ⟨_, z1⟩) z2 hc hL o (List.mem_of_head? htop') rfl
          refine ⟨_, _, _, μ, L, _, nx, h, hop, R1.setEnv (env := (t, .kp t u' 0) :: ps.env) (fun v => ?_), fun h => (h rfl).elim, by show _ ≤ (hset ps.heap c none).length; rw [hset_length]; exact Nat.le_refl _, fun _ _ => ⟨rfl, rfl⟩, Nat.le_refl _, rfl, fun v => ?_, LB.set (fun h => by cases h)⟩
          rw [look_cons]
          by_cases hv : t = v
          · subst hv; rw [if_pos rfl]; exact hkp
          · rw [if_neg hv]; exact R1.env v
          · show EWv _ (look ((t, .kp t u' 0) :: ps.env) v)
            rw [look_cons]
            by_cases hv : t = v
            · subst hv; exact .inr (.inr ⟨_, _, p3⟩)
            · rw [if_neg hv]; exact .inl rfl
        · have ho' : ∀ b' ob, hget (hset ps.heap c (some (.cell false tmp u'))) b' = some ob → (b' = c ∧ ob = .cell false tmp u') ∨ (b' ≠ c ∧ hget ps.heap b' = some ob) := by
            intro b' ob hb
            rw [hget_hset] at hb
            split at hb
            · rename_i hh
              cases hb
              exact .inl ⟨hh.1, rfl⟩
            · rename_i hne
              exact .inr ⟨fun e => hne ⟨e, hget_lt hc⟩, hb⟩
          have gr := R.chg (tm := none) (env' := ps.env) (hp' := hset ps.heap c (some (.cell false tmp u'))) (H' := hupd H o { b with es := [w'] }) (fun i => i = o) hset_length (fun i hi => .inl (by rw [hi]; exact htop)) (fun i hi => hupd_ne H _ hi)
            (fun b' ob hb => by
              rcases ho' b' ob hb with ⟨rfl, rfl⟩ | ⟨_, z⟩
              · exact ⟨_, hc, trivial, fun t' h' => by cases h'⟩
              · exact ⟨ob, z, laterO.refl _, fun t' h' => by cases h'⟩)
          refine ⟨_, _, _, μ, L, _, nx, h, hop, ?_, fun h => (h rfl).elim, by show _ ≤ (hset ps.heap c _).length; rw [hset_length]; exact Nat.le_refl _, fun _ _ => ⟨rfl, rfl⟩, Nat.le_refl _, rfl, EW.refl _, LB.set (fun _ => live_iff.2 ⟨_, hc⟩)⟩
          refine Rel.next R (tm := none) (Ch := fun a => a = c) gr (fun u => .inr ⟨rfl, fun t' h' => by cases h'⟩) ?_ ?_ (Nat.le_refl _) (fresh_top R hc hL) (hp0_top R hc rfl hL)
          · intro b' ob hb hne
            rcases ho' b' ob hb with ⟨z, _⟩ | ⟨z2, z1⟩
            · exact (hne z).elim
            · exact ⟨z1, rfl, fun i hi => hupd_ne H _ (not_other R (live_iff.2 ⟨_, z1⟩) z2 hc hL i hi)⟩
          · rintro b' ob hb rfl
            rcases ho' b' ob hb with ⟨_, rfl⟩ | ⟨z, _⟩
            · refine ⟨⟨o, g, { b with es := [w'] }, w', e1, hupd_same _ _ _, e3, rfl, by show b.sz = w'.cells.length; omega, e6, hst', e8, e9, VR.mono gr u' w' (fun _ h => by cases h) q2, q3⟩, R.nd b' (live_iff.2 ⟨_, hc⟩), (show ∀ i ∈ L b', ageI d nx tmp i from R.age b' _ hc), fun _ => R.p1 b' _ hc rfl, R.tl b' (live_iff.2 ⟨_, hc⟩), fun t ht => R.st b' _ t hc ht, ?_⟩
              intro c2 hne hl2 i hi hi2
              obtain ⟨o2, ho2⟩ := live_iff.1 hl2
              rcases ho' c2 o2 ho2 with ⟨z, _⟩ | ⟨_, z⟩
              · exact hne z
              · exact R.dis b' c2 (Ne.symm hne) (live_iff.2 ⟨_, hc⟩) (live_iff.2 ⟨_, z⟩) i hi hi2
            · exact (z rfl).elim
      · cases h
    · cases h
  · rename_i c ver i off e x' hx hok
    rw [hx] at h1
    split at h
    · rename_i ver' tmp sz e' dp xs hc
      split at h
      · rename_i y hver hy
        obtain rfl := Nat.eq_of_beq_eq_true hver
        split at h
        · rename_i y' hy'
          obtain ⟨o, g, m, off0, len0, b, w, L1, h3, hmu, e2, e3, e4, e5, e5', ew, e6, e7, e8, ebd, eil, z0, z1, z2⟩ := ep_read R h1 hc
          obtain ⟨s0, s1, s2⟩ := R.ob c _ hc
          rcases s2 with ⟨t1, _⟩ | ⟨o', g', n', off', len', b', L', t1, t2, t3, t4, t5, t6, t7, t8, t9, t10, t11⟩
          · have t1 : μ c = .nils := t1
            rw [hmu] at t1; cases t1
          · have t1 : μ c = .ref o' g' n' off' len' := t1
            rw [hmu] at t1
            cases t1
            have t2 : H o = some b' := t2
            rw [e2] at t2
            cases t2
            obtain ⟨rfl, rfl⟩ := castK_eq z1
            obtain ⟨he, hyy⟩ := castK_eq hy'
            subst hyy
            -- the new element
            unfold opP.storeE at hy
            split at hy
            · rename_i hflat
              split at hy
              · rename_i u hu
                have e7f : Rep false H e x' w [] := by
                  obtain ⟨z, rfl⟩ := e7.flat (own' := false) (H' := H) hflat
                  exact z
                have hve : VR ⟨d, ps.heap, μ, L, H, nx⟩ (.d true e x') w := ⟨[], e7f, fun _ => rfl, fun i hi => by cases hi⟩
                have oke : cellOK (.d true e x') = true := by
                  cases e with
                  | st fs =>
                    cases fs with
                    | nil => simp [Kd.cn] at s0; omega
                    | cons => rfl
                  | sl => rfl
                  | int => rfl
                  | bool => rfl
                  | str => rfl
                obtain ⟨w', q1, q2, q3, q4, q5, q6⟩ := storeP_rel hve h2 oke hok hu
                have hst := (cellOK_stor hok h2).1
                have hst' := (cellOK_stor q3 q2).1
                obtain ⟨Ly, r1, _⟩ := asD_rel R.obs q2 hy
                have hrep : ∀ (own : Bool) (HH : Heap), Rep own HH e y w' [] := fun own HH => by
                  obtain ⟨z, rfl⟩ := r1.flat (own' := own) (H' := HH) hflat
                  exact z
                have hL : o ∈ L c := by
                  have : L c = o :: (if dp = true then L' else []) := t10
                  rw [this]; simp
                have hhead : (L c).head? = some o := by
                  have : L c = o :: (if dp = true then L' else []) := t10
                  rw [this]; rfl
                have htop : (⟨d, ps.heap, μ, L, H, nx⟩ : Vw).top o := ⟨c, live_iff.2 ⟨_, hc⟩, hhead⟩
                have hop : operV T Rn d none E H nx (.store n a x) = some (.undef, hupd H o { b with es := b.es.set (off0 + i) w' }, nx) := by
                  have : storeV H n (ev E x) (.ptr o g m (off0 + i) off) = some (hupd H o { b with es := b.es.set (off0 + i) w' }) := by
                    simp only [storeV, e2]
                    rw [if_pos ⟨e3, e4, ew rfl, q4, hst⟩, e6]
                    simp only
                    have q1' : (if off = 0 ∧ n = b.sz ∧ (ev E x).isAgg = w.isAgg then some (ev E x) else match putCells w.cells off (ev E x).cells with | some cs => reEl w cs | none => none) = some w' := by rw [e5, ← e7.stor.2.1]; exact q1
                    exact congrArg (fun z : Option AV => match z with | some new => some (hupd H o { b with es := b.es.set (off0 + i) new }) | none => none) q1'
                  simp only [operV, h3, this]
                have ho' : ∀ b' ob, hget (hset ps.heap c (some (.sl false (ver + 1) tmp sz e dp (setL xs i y)))) b' = some ob → (b' = c ∧ ob = .sl false (ver + 1) tmp sz e dp (setL xs i y)) ∨ (b' ≠ c ∧ hget ps.heap b' = some ob) := by
                  intro b' ob hb
                  rw [hget_hset] at hb
                  split at hb
                  · rename_i hh
                    cases hb
                    exact .inl ⟨hh.1, rfl⟩
                  · rename_i hne
                    exact .inr ⟨fun e => hne ⟨e, hget_lt hc⟩, hb⟩
                have gr := R.chg (tm := none) (env' := ps.env) (hp' := hset ps.heap c (some (.sl false (ver + 1) tmp sz e dp (setL xs i y)))) (H' := hupd H o { b with es := b.es.set (off0 + i) w' }) (fun i => i = o) hset_length (fun i hi => .inl (by rw [hi]; exact htop)) (fun i hi => hupd_ne H _ hi)
                  (fun b' ob hb => by
                    rcases ho' b' ob hb with ⟨rfl, rfl⟩ | ⟨_, z⟩
                    · exact ⟨_, hc, .inl (Nat.lt_succ_self _), fun t' h' => by cases h'⟩
                    · exact ⟨ob, z, laterO.refl _, fun t' h' => by cases h'⟩)
                refine ⟨_, _, _, μ, L, _, nx, h, hop, ?_, fun h => (h rfl).elim, by show _ ≤ (hset ps.heap c _).length; rw [hset_length]; exact Nat.le_refl _, fun _ _ => ⟨rfl, rfl⟩, Nat.le_refl _, rfl, EW.refl _, LB.set (fun _ => live_iff.2 ⟨_, hc⟩)⟩
                refine Rel.next R (tm := none) (Ch := fun a => a = c) gr (fun u => .inr ⟨rfl, fun t' h' => by cases h'⟩) ?_ ?_ (Nat.le_refl _) (fresh_top R hc hL) (hp0_top R hc rfl hL)
                · intro b' ob hb hne
                  rcases ho' b' ob hb with ⟨z, _⟩ | ⟨z2, z1⟩
                  · exact (hne z).elim
                  · exact ⟨z1, rfl, fun i hi => hupd_ne H _ (not_other R (live_iff.2 ⟨_, z1⟩) z2 hc hL i hi)⟩
                · rintro b' ob hb rfl
                  rcases ho' b' ob hb with ⟨_, rfl⟩ | ⟨z, _⟩
                  · refine ⟨⟨s0, s1, .inr ⟨o, g, m, off0, len0, { b with es := b.es.set (off0 + i) w' }, L', hmu, hupd_same _ _ _, e3, by simpa using e4, ebd, by rw [e5, s0], fun _ => ew rfl, ?_, ?_, t10, fun q j hj => (gr.imm j (t11 q j hj)).2⟩⟩, R.nd b' (live_iff.2 ⟨_, hc⟩), (show ∀ i ∈ L b', ageI d nx tmp i from R.age b' _ hc), fun _ => R.p1 b' _ hc rfl, R.tl b' (live_iff.2 ⟨_, hc⟩), fun t ht => R.st b' _ t hc ht, ?_⟩
                    · show RepL _ (setL xs i y) (((b.es.set (off0 + i) w').drop off0).take len0) L'
                      rw [set_window _ _ _ _ _ eil, setL_def]
                      have t8' : RepL (Rep dp (hupd H o { b with es := b.es.set (off0 + i) w' }) e) xs ((b.es.drop off0).take len0) L' := by
                        refine RepL.frame (fun j hj => hupd_ne H _ ?_) t8
                        cases dp with
                        | true =>
                          rintro rfl
                          have := R.nd b' (live_iff.2 ⟨_, hc⟩)
                          have hh : L b' = j :: L' := by have := t10; simpa using this
                          rw [hh] at this
                          exact (List.nodup_cons.1 this).1 hj
                        | false =>
                          rintro rfl
                          exact (t11 rfl j hj).1 htop
                      refine RepL.set (x := x') (v := w) t8' z2 ?_ ?_
                      · rw [List.getElem?_take_of_lt eil, List.getElem?_drop]; exact e6
                      · intro Li hLi
                        have : Li = [] := (hLi.flat (own' := false) (H' := H) hflat).2
                        subst this
                        exact hrep _ _
                    · intro q hq
                      have hq : q ∈ b.es.set (off0 + i) w' := hq
                      rcases List.mem_or_eq_of_mem_set hq with hq | rfl
                      · exact t9 q hq
                      · refine ⟨hst', by rw [q5, e7.stor.2.1]; exact s0.symm, fun _ => ?_⟩
                        exact fineV_mono (fun p hp => by cases hp) q (Rep.fine e y q [] (hrep true H))
                    · intro c2 hne hl2 i2 hi hi2
                      obtain ⟨o2, ho2⟩ := live_iff.1 hl2
                      rcases ho' c2 o2 ho2 with ⟨z, _⟩ | ⟨_, z⟩
                      · exact hne z
                      · exact R.dis b' c2 (Ne.symm hne) (live_iff.2 ⟨_, hc⟩) (live_iff.2 ⟨_, z⟩) i2 hi hi2
                  · exact (z rfl).elim
              · cases hy
            · cases hy
        · cases h
      · cases h
    · cases h
  · cases h
end
end Go.Am

/- The machine on typed data against the small machine: 'append'. -/
namespace Go.Am
set_option linter.unusedSimpArgs false
set_option linter.unusedVariables false

mutual
/-- A value tells its objects. -/
theorem Rep.uniq {own : Bool} {H : Heap} : ∀ (t : Kd) (x : t.den) (v : AV) (L M : List Id), Rep own H t x v L → Rep own H t x v M → L = M
  | .int k, n, v, L, M, h, k' => by rw [h.2, k'.2]
  | .bool, n, v, L, M, h, k' => by rw [h.2, k'.2]
  | .str, n, v, L, M, h, k' => by rw [h.2, k'.2]
  | .st fs, x, v, L, M, h, k' => Reps.uniq fs x v.cells L M h.2 k'.2
  | .sl sz e, xs, v, L, M, h, k' => by
    rcases h with ⟨rfl, _, rfl⟩ | ⟨h0, z, ts, rfl, h2, h3, rfl⟩ | ⟨o, g, n, off, len, b, L', rfl, h2, h3, h4, h5, h6, h7, rfl, h9⟩
    · rcases k' with ⟨_, _, rfl⟩ | ⟨_, z, ts, q, _⟩ | ⟨o, g, n, off, len, b, L', q, _⟩
      · rfl
      · cases q
      · cases q
    · rcases k' with ⟨q, _⟩ | ⟨_, z', ts', q, _, _, rfl⟩ | ⟨o, g, n, off, len, b, L', q, _⟩
      · cases q
      · rfl
      · cases q
    · rcases k' with ⟨q, _⟩ | ⟨_, z', ts', q, _⟩ | ⟨o', g', n', off', len', b', M', q, k2, k3, k4, k5, k6, k7, rfl, k9⟩
      · cases q
      · cases q
      · cases q
        rw [h2] at k2
        cases k2
        rw [RepL.uniqA (fun x v L M => Rep.uniq e x v L M) h7 k7]
theorem Reps.uniq {own : Bool} {H : Heap} : ∀ (fs : List Kd) (x : Kd.dens fs) (vs : List AV) (L M : List Id), Reps own H fs x vs L → Reps own H fs x vs M → L = M
  | [], x, [], L, M, h, k => by rw [show L = [] from h, show M = [] from k]
  | [], x, _ :: _, L, M, h, _ => h.elim
  | t :: r, x, [], L, M, h, _ => h.elim
  | t :: r, x, v :: vs, L, M, ⟨h0, L1, L2, h1, h2, e⟩, ⟨_, M1, M2, k1, k2, e'⟩ => by
    rw [e, e', Rep.uniq t x.1 v L1 M1 h1 k1, Reps.uniq r x.2 vs L2 M2 h2 k2]
theorem RepL.uniqA {α : Type} {R : α → AV → List Id → Prop} (hu : ∀ x v L M, R x v L → R x v M → L = M) : ∀ {xs : List α} {vs : List AV} {L M : List Id}, RepL R xs vs L → RepL R xs vs M → L = M
  | [], [], L, M, h, k => by rw [show L = [] from h, show M = [] from k]
  | [], _ :: _, L, M, h, _ => h.elim
  | _ :: _, [], L, M, h, _ => h.elim
  | x :: xs, v :: vs, L, M, ⟨L1, L2, h1, h2, e⟩, ⟨M1, M2, k1, k2, e'⟩ => by
    rw [e, e', hu x v L1 M1 h1 k1, RepL.uniqA hu h2 k2]
end
theorem RepL.uniq {own : Bool} {H : Heap} {e : Kd} {xs : List e.den} {vs : List AV} {L M : List Id} (h : RepL (Rep own H e) xs vs L) (k : RepL (Rep own H e) xs vs M) : L = M :=
  RepL.uniqA (fun x v L M => Rep.uniq e x v L M) h k

section
variable {T : Tab} {Rn : Run} {d : Nat} {anV : List AV} {P0 : Id → Prop} {H0 : Heap} {ps : PS} {μ : Nat → AV} {L : Nat → List Id} {E : AEnv} {H : Heap} {nx : Nat} {dst : Option Nat} {hn : Hints} {pm : List Nat} {ρ : Type} {r : ρ} {k : PV → PS → Option ρ}

theorem hupd_self {o : Id} {b : Obj} (h : H o = some b) : hupd H o b = H := by
  funext p
  unfold hupd
  split
  · rename_i e; rw [e, h]
  · rfl

variable (R : Rel d anV P0 H0 ps μ L E H nx)
include R

/-- A new name for nothing. -/
theorem Rel.newNil (ds : List Nat) {sz : Nat} {e : Kd} {dp : Bool} (hsz : sz = e.cn) (hsz0 : 0 < sz) :
    Rel d anV P0 H0 (ps.newSl none ds sz e dp []) (updN μ ps.heap.length .nils) (updN L ps.heap.length []) E H nx ∧
      VR ⟨d, (ps.newSl none ds sz e dp []).heap, updN μ ps.heap.length .nils, updN L ps.heap.length [], H, nx⟩ (.own ps.heap.length) .nils ∧
      ps.heap.length ≤ (ps.newSl none ds sz e dp []).heap.length ∧ ∀ a, a < ps.heap.length → updN μ ps.heap.length .nils a = μ a ∧ updN L ps.heap.length [] a = L a := by
  have hlen : (delN ps.heap ds).length = ps.heap.length := delN_length
  have hp' : ∀ {a : Nat} {ob : PObj}, hget (ps.newSl none ds sz e dp []).heap a = some ob → a ≠ ps.heap.length → hget ps.heap a = some ob ∧ a < ps.heap.length := by
    intro a ob h hne
    have h : hget (delN ps.heap ds ++ [some (.sl false 0 none sz e dp [])]) a = some ob := h
    rw [hget_append, hlen] at h
    split at h
    · rename_i hlt
      rw [hget_delN] at h
      split at h
      · cases h
      · exact ⟨h, hlt⟩
    · rename_i hlt
      rw [hget_ge (by simp; omega)] at h
      cases h
  have hnew : hget (ps.newSl none ds sz e dp []).heap ps.heap.length = some (.sl false 0 none sz e dp []) := by
    show hget (delN ps.heap ds ++ [some (.sl false 0 none sz e dp [])]) ps.heap.length = _
    rw [hget_append, hlen, if_neg (by omega), Nat.sub_self]; rfl
  have hmu : ∀ a, a < ps.heap.length → updN μ ps.heap.length .nils a = μ a := fun a ha => updN_ne (by omega)
  have hL : ∀ a, a < ps.heap.length → updN L ps.heap.length [] a = L a := fun a ha => updN_ne (by omega)
  have g : Grow ⟨d, ps.heap, μ, L, H, nx⟩ ⟨d, (ps.newSl none ds sz e dp []).heap, updN μ ps.heap.length .nils, updN L ps.heap.length [], H, nx⟩ none := by
    refine Grow.of rfl ?_ hmu ?_ (Nat.le_refl _) (fun _ _ _ => rfl) ?_
    · show ps.heap.length ≤ (delN ps.heap ds ++ [_]).length
      rw [List.length_append, hlen]; omega
    · intro a ha
      cases hx : hget (ps.newSl none ds sz e dp []).heap a with
      | none => cases hget ps.heap a <;> trivial
      | some ob =>
        have ha : a < ps.heap.length := ha
        have := (hp' hx (by omega)).1
        show laterO (hget ps.heap a) (some ob)
        rw [this]; exact laterO.refl _
    · rintro i ⟨a, ha, htop⟩
      obtain ⟨ob, hob⟩ := live_iff.1 ha
      by_cases hane : a = ps.heap.length
      · subst hane
        have htop : (updN L ps.heap.length [] ps.heap.length).head? = some i := htop
        rw [updN_at] at htop
        cases htop
      · obtain ⟨h1, h4⟩ := hp' hob hane
        have htop : (updN L ps.heap.length [] a).head? = some i := htop
        rw [hL a h4] at htop
        exact .inl ⟨a, live_iff.2 ⟨ob, h1⟩, htop⟩
  refine ⟨?_, ⟨?_, updN_at.symm, trivial⟩, g.len, fun a ha => ⟨hmu a ha, hL a ha⟩⟩
  · refine Rel.next R (tm := none) (Ch := fun a => a = ps.heap.length) g (fun u => .inr ⟨rfl, fun t h => by cases h⟩) ?_ ?_ (Nat.le_refl _) R.fresh (fun _ _ => rfl)
    · intro a ob ha hne
      obtain ⟨h1, h4⟩ := hp' ha hne
      exact ⟨h1, hL a h4, fun i hi => rfl⟩
    · rintro a ob ha rfl
      have ha := hnew.symm.trans ha
      cases ha
      rw [updN_at]
      exact ⟨⟨hsz, hsz0, .inl ⟨updN_at, rfl, updN_at⟩⟩, List.nodup_nil, (fun i hi => by cases hi), (fun _ i hi => by cases hi), (fun i hi => by cases hi), (fun t ht => by cases ht), (fun c _ _ i hi => by cases hi)⟩
  · show ps.heap.length < (delN ps.heap ds ++ [_]).length
    rw [List.length_append, hlen]; simp

/-- What 'append' takes from. -/
theorem srcP_rel {sz : Nat} {e : Kd} {y : PV} {ya : AV} {ys : List e.den} {nm : Option Nat} {ow : Bool} (hy : VR ⟨d, ps.heap, μ, L, H, nx⟩ y ya) (h : srcP ps.heap sz e y = some (ys, nm, ow)) :
    ∃ es Lx, srcE H ya = some es ∧ RepL (Rep false H e) ys es Lx ∧ (∀ i ∈ Lx, (⟨d, ps.heap, μ, L, H, nx⟩ : Vw).Imm i) ∧ (∀ a, nm = some a → live ps.heap a) ∧
      (ow = true → e.flat = true ∨ (nm = none ∧ ys = []) ∨ ∃ a ob, nm = some a ∧ hget ps.heap a = some ob ∧ roOf ob = false ∧ ∃ Ln, RepL (Rep true H e) ys es Ln ∧ (∀ i ∈ Ln, i ∈ L a) ∧ Ln.Nodup ∧ ∀ i ∈ Ln, oldI d nx i) := by
  have src : ∀ {v : AV} {l}, elems H v = some l → v.isStr = false → srcE H v = some l := by
    intro v l h1 h2
    cases v with
    | c t => cases t with
      | s x => cases x <;> first | exact h1 | cases h2
      | _ => exact h1
    | _ => exact h1
  cases y with
  | own a =>
    simp only [srcP] at h
    split at h
    · rename_i ro ver tmp sz' e' dp xs hc
      split at h
      · rename_i zs hz
        cases h
        obtain ⟨hk, rfl⟩ := castK_eq hz
        cases hk
        have hl : live ps.heap a := live_iff.2 ⟨_, hc⟩
        rcases own_len R hy hc with ⟨q1, q2, q3⟩ | ⟨o, g, m, off, b, L', q1, q2, q3, q4, q5, q6, q7, q8⟩
        · refine ⟨[], [], by rw [q1]; rfl, by rw [show xs = [] from q3]; rfl, (fun i hi => by cases hi), (fun c hc' => by cases hc'; exact hl), fun ho => ?_⟩
          have hro : dp = true ∧ ro = false := by simpa using ho
          exact .inr (.inr ⟨a, _, rfl, hc, hro.2, [], by rw [show xs = [] from q3]; rfl, (fun i hi => by cases hi), List.nodup_nil, fun i hi => by cases hi⟩)
        · obtain ⟨s0, s1, s2⟩ := R.ob a _ hc
          rcases s2 with ⟨t1, _⟩ | ⟨o', g', n', off', len', b', Lx, t1, t2, t3, t4, t5, t6, t7, t8, t9, t10, t11⟩
          · have t1 : μ a = .nils := t1
            rw [q2] at t1; cases t1
          · have t1 : μ a = .ref o' g' n' off' len' := t1
            rw [q2] at t1
            cases t1
            have t2 : H o = some b' := t2
            rw [q3] at t2
            cases t2
            have hr : RepL (Rep false H e) xs ((b.es.drop off).take xs.length) Lx := t8.imp fun x v L'' _ _ h => by
              cases dp with
              | true => exact Rep.read e x v L'' h
              | false => exact h
            refine ⟨_, Lx, src (l := (b.es.drop off).take xs.length) ?_ (by rw [q1]; rfl), hr, ?_, (fun c hc' => by cases hc'; exact hl), fun ho => ?_⟩
            · rw [q1]
              simp only [elems, elemsOf, q3]
              rw [if_pos ⟨q4, q5, q6⟩]
            · intro i hi
              cases dp with
              | true => exact ids_nested R hl (by simpa using t10) i hi
              | false => exact t11 rfl i hi
            · have hro : dp = true ∧ ro = false := by simpa using ho
              obtain ⟨rfl, hro⟩ := hro
              have hL : L a = o :: Lx := by simpa using t10
              have hnd := R.nd a hl
              rw [hL] at hnd
              exact .inr (.inr ⟨a, _, rfl, hc, hro, Lx, t8, (fun i hi => by rw [hL]; simp [hi]), (List.nodup_cons.1 hnd).2, fun i hi => R.tl a hl i (by rw [hL]; exact hi)⟩)
      · cases h
    · cases h
  | win a off len =>
    simp only [srcP] at h
    split at h
    · rename_i ro ver tmp sz' e' dp xs hc
      split at h
      · rename_i zs hz
        cases h
        obtain ⟨hk, rfl⟩ := castK_eq hz
        cases hk
        have hl : live ps.heap a := live_iff.2 ⟨_, hc⟩
        obtain ⟨Li, w1, w2⟩ := win_read R.obs hy hc
        obtain ⟨es, L', w3, w4, w5⟩ := w1.elems
        obtain ⟨w6, w7⟩ := w1.lenV
        -- none of them is the slice's own object
        refine ⟨es, L', src w3 w7, w4, ?_, (fun c hc' => by cases hc'), fun ho => .inl ho⟩
        intro i hi
        obtain ⟨s0, s1, s2⟩ := R.ob a _ hc
        obtain ⟨y0, y1⟩ := hy
        rcases y1 with ⟨y2, rfl, rfl, rfl⟩ | ⟨o, g, m, off0, len0, y2, y3, rfl⟩
        · have w3 : some [] = some es := w3
          cases w3
          cases hsub : sub xs 0 0 with
          | nil => rw [hsub] at w4; have : L' = [] := w4; rw [this] at hi; cases hi
          | cons => simp [sub_def] at hsub
        · rcases s2 with ⟨t1, _⟩ | ⟨o', g', n', off', len', b', Lx, t1, t2, t3, t4, t5, t6, t7, t8, t9, t10, t11⟩
          · have t1 : μ a = .nils := t1
            have y2 : μ a = _ := y2
            rw [y2] at t1; cases t1
          · have t1 : μ a = .ref o' g' n' off' len' := t1
            have y2 : μ a = _ := y2
            rw [y2] at t1
            cases t1
            have t2 : H o = some b' := t2
            obtain ⟨M, m1, m2⟩ := t8.sub off len
            have he : es = (((b'.es.drop off0).take len0).drop off).take len := by
              simp only [elems, elemsOf, t2] at w3
              rw [if_pos ⟨t3, t4, by omega⟩] at w3
              cases w3
              exact take_drop_sub _ _ _ _ _ y3
            subst he
            have hML : L' = M := by
              have u1 : RepL (Rep false H e) (sub xs off len) ((((b'.es.drop off0).take len0).drop off).take len) M := by
               rw [sub_def]
               exact m1.imp fun x v L'' _ _ h => by
                cases dp with
                | true => exact Rep.read e x v L'' h
                | false => exact h
              exact RepL.uniq w4 u1
            subst hML
            cases dp with
            | true => exact ids_nested R hl (by simpa using t10) i (m2 i hi)
            | false => exact t11 rfl i (m2 i hi)
      · cases h
    · cases h
  | nils =>
    simp only [srcP] at h
    cases h
    obtain rfl : ya = .nils := hy
    exact ⟨[], [], rfl, rfl, (fun i hi => by cases hi), (fun c hc' => by cases hc'), fun _ => .inr (.inl ⟨rfl, rfl⟩)⟩
  | d p t x =>
    cases t with
    | str =>
      simp only [srcP] at h
      split at h
      · rename_i zs hz
        cases h
        obtain ⟨hk, rfl⟩ := castK_eq hz
        cases hk
        obtain ⟨Li, ⟨rfl, _⟩, _⟩ := hy
        exact ⟨_, [], rfl, rep_bytes x, (fun i hi => by cases hi), (fun c hc' => by cases hc'), fun _ => .inl rfl⟩
      · cases h
    | sl sz' e' =>
      simp only [srcP] at h
      split at h
      · rename_i zs hz
        cases h
        obtain ⟨hk, rfl⟩ := castK_eq hz
        cases hk
        obtain ⟨Li, w1, w2, w8⟩ := hy
        obtain ⟨es, L', w3, w4, w5⟩ := w1.elems
        obtain ⟨w6, w7⟩ := w1.lenV
        exact ⟨es, L', src w3 w7, w4, (fun i hi => w8 i (w5 i hi)), (fun c hc' => by cases hc'), fun ho => .inl ho⟩
      · cases h
    | _ => exact absurd h (by simp [srcP])
  | _ => exact absurd h (by simp [srcP])

omit R in
theorem RepL.flatE {own own' : Bool} {H H' : Heap} {e : Kd} (hf : e.flat = true) : ∀ {xs : List e.den} {vs : List AV} {L : List Id}, RepL (Rep own H e) xs vs L → RepL (Rep own' H' e) xs vs [] ∧ L = []
  | [], [], L, h => ⟨rfl, h⟩
  | [], _ :: _, L, h => h.elim
  | _ :: _, [], L, h => h.elim
  | x :: xs, v :: vs, L, ⟨L1, L2, h1, h2, e'⟩ => by
    obtain ⟨a, rfl⟩ := h1.flat (own' := own') (H' := H') hf
    obtain ⟨b, rfl⟩ := RepL.flatE hf h2
    exact ⟨⟨[], [], a, b, rfl⟩, by rw [e']; rfl⟩
omit R in
theorem RepL.readE {own : Bool} {H : Heap} {e : Kd} {xs : List e.den} {vs : List AV} {L : List Id} (h : RepL (Rep own H e) xs vs L) : RepL (Rep false H e) xs vs L := h.imp fun x v L' _ _ h => Rep.read e x v L' h

/-- 'append' onto what lies at a place, or nothing. -/
theorem appendP_ok {sz : Nat} {e : Kd} {del : List Nat} {base : List e.den} {dp : Bool} {x y : Opd} (hsz : sz = e.cn) (hsz0 : 0 < sz)
    (hbase : (ev E x = .nils ∧ base = []) ∨ ∃ o g n off len b Lb a, ev E x = .ref o g n off len ∧ H o = some b ∧ b.gen = g ∧ b.es.length = n ∧ off + len ≤ n ∧ b.w = true ∧ b.sz = sz ∧
      RepL (Rep dp H e) base ((b.es.drop off).take len) Lb ∧ (∀ z ∈ b.es, stor z = true ∧ z.cells.length = sz ∧ (dp = true → fineV (· ∈ Lb) z)) ∧
      a ∈ del ∧ (L a).head? = some o ∧ (∀ i ∈ Lb, (⟨d, ps.heap, μ, L, H, nx⟩ : Vw).Imm i ∧ i ≠ o) ∧ (dp = true → (∀ i ∈ Lb, i ∈ L a) ∧ Lb.Nodup))
    (hdel : ∀ a ∈ del, ∃ ob, hget ps.heap a = some ob ∧ roOf ob = false ∧ tmpO ob = none)
    (h : appendP ps sz e del base dp (pev ps y) k = some r) : OpOK T Rn d anV P0 H0 dst E ps μ L H nx k r (.append sz x y) := by
  unfold appendP at h
  split at h
  · rename_i ys nm ow hs
    split at h
    · cases h
    · rename_i hdis
      split at h
      · rename_i hcond
        obtain ⟨hg, hk⟩ := guardK_some h
        rw [gApp_def] at hg
        have hg : (base.length + ys.length) * sz ≤ 4294967296 := of_decide_eq_true hg
        have hcat : cat base ys = base ++ ys := cat_def _ _
        rw [hcat] at hk
        obtain ⟨es, Lx, s1, s2, s3, s4, s5⟩ := srcP_rel R (R.pev y) hs
        have hfe := s2.fineE
        have hfits : fits sz es = true := fits_of fun z hz => ⟨(hfe z hz).1, by rw [(hfe z hz).2.1, hsz]⟩
        have hesl : ys.length = es.length := RepL.len s2
        generalize huse : (if (dp && ow && !e.flat) = true then opt1 nm else []) = use at hk
        -- the source, as its own
        have hsrc : ∃ Ls, (dp = true → ow = true → RepL (Rep true H e) ys es Ls) ∧ (∀ i ∈ Ls, ∃ a ∈ use, i ∈ L a) ∧ Ls.Nodup ∧ (∀ i ∈ Ls, oldI d nx i) ∧ ∀ a ∈ use, nm = some a ∧ ∃ ob, hget ps.heap a = some ob ∧ roOf ob = false := by
          by_cases hb : dp = true ∧ ow = true
          · by_cases hf : e.flat = true
            · refine ⟨[], fun _ _ => (s2.flatE hf).1, (fun i hi => by cases hi), List.nodup_nil, (fun i hi => by cases hi), fun a ha => ?_⟩
              rw [← huse, if_neg (by simp [hf])] at ha
              cases ha
            · rcases s5 hb.2 with hf' | ⟨hn, hy⟩ | ⟨a, ob, hn, hob, hro, Ln, r1, r2, r3, r4⟩
              · exact (hf hf').elim
              · subst hy
                have : es = [] := List.length_eq_zero_iff.1 hesl.symm
                subst this
                refine ⟨[], fun _ _ => rfl, (fun i hi => by cases hi), List.nodup_nil, (fun i hi => by cases hi), fun a ha => ?_⟩
                rw [← huse, if_pos (by simp [hb.1, hb.2, hf]), hn] at ha
                cases ha
              · have hu : use = [a] := by rw [← huse, if_pos (by simp [hb.1, hb.2, hf]), hn]; rfl
                subst hu
                refine ⟨Ln, fun _ _ => r1, fun i hi => ⟨a, by simp, r2 i hi⟩, r3, r4, fun c hc => ?_⟩
                obtain rfl : c = a := by simpa using hc
                exact ⟨hn, ob, hob, hro⟩
          · refine ⟨[], fun h1 h2 => (hb ⟨h1, h2⟩).elim, (fun i hi => by cases hi), List.nodup_nil, (fun i hi => by cases hi), fun a ha => ?_⟩
            rw [← huse, if_neg (by intro q; simp at q; exact hb q.1)] at ha
            cases ha
        obtain ⟨Ls, u1, u2, u3, u4, u5⟩ := hsrc
        have hds : ∀ a ∈ del ++ use, ∃ ob, hget ps.heap a = some ob ∧ roOf ob = false := by
          intro a ha
          rcases List.mem_append.1 ha with ha | ha
          · obtain ⟨ob, z1, z2, _⟩ := hdel a ha; exact ⟨ob, z1, z2⟩
          · exact (u5 a ha).2
        have hne : ∀ a ∈ del, ∀ c ∈ use, a ≠ c := by
          rintro a ha c hc rfl
          have := (u5 a hc).1
          apply hdis
          rw [List.any_eq_true]
          exact ⟨a, ha, by rw [this]; simp [opt1]⟩
        have hdd : ∀ a ∈ del, ∀ i ∈ L a, i ∉ Ls := by
          intro a ha i hi hs
          obtain ⟨c, hc, hic⟩ := u2 i hs
          obtain ⟨oa, z1, _⟩ := hdel a ha
          obtain ⟨_, oc, z2, _⟩ := u5 c hc
          exact R.dis a c (hne a ha c hc) (live_iff.2 ⟨_, z1⟩) (live_iff.2 ⟨_, z2⟩) i hi hic
        -- a result that has an object
        have mk : ∀ (o : Id) (b : Obj) (off len nx' : Nat) (W : List AV) (Lb : List Id), nx ≤ nx' → (∀ q, nx' ≤ q → o ≠ .dy q) → ageI d nx' none o → (NewI d nx none o ∨ ∃ a ∈ del, (L a).head? = some o) →
            b.sz = sz → b.w = true → off + len ≤ b.es.length → (b.es.drop off).take len = W ++ es → RepL (Rep dp H e) base W Lb → (∀ z ∈ b.es, stor z = true ∧ z.cells.length = sz ∧ (dp = true → fineV (· ∈ Lb) z ∨ z ∈ es)) →
            (∀ i ∈ Lb, (⟨d, ps.heap, μ, L, H, nx⟩ : Vw).Imm i ∧ i ≠ o) → (dp = true → (∀ i ∈ Lb, ∃ a ∈ del, i ∈ L a) ∧ Lb.Nodup) →
            operV T Rn d dst E H nx (.append sz x y) = some (.ref o b.gen b.es.length off len, hupd H o b, nx') → OpOK T Rn d anV P0 H0 dst E ps μ L H nx k r (.append sz x y) := by
          intro o b off len nx' W Lb hnx hfr hage ho hbs hbw hol hwin hrep hfine himm hown hop
          have hoLs : o ∉ Ls := by
            intro hm
            rcases ho with (⟨q, rfl, hq⟩ | ⟨t, _, ht⟩) | ⟨a, ha, hh⟩
            · have : q < nx := u4 _ hm
              omega
            · cases ht
            · exact hdd a ha o (List.mem_of_head? hh) hm
          obtain ⟨r1, r2, r3, r4⟩ := R.newSl (tm := none) (del ++ use) (o := o) (b := b) (sz := sz) (e := e) (dp := dp && ow) (xs := base ++ ys) (Ln := if (dp && ow) = true then Lb ++ Ls else []) (Lx := if (dp && ow) = true then Lb ++ Ls else Lb ++ Lx) (off := off) (len := len) (nx' := nx')
            hds (ho.imp id fun ⟨a, ha, hh⟩ => ⟨a, by simp [ha], hh⟩)
            (by
              intro i hi
              split at hi
              · rename_i hb
                simp only [Bool.and_eq_true] at hb
                rcases List.mem_append.1 hi with hi | hi
                · obtain ⟨a, ha, hia⟩ := (hown hb.1).1 i hi; exact ⟨a, by simp [ha], hia⟩
                · obtain ⟨a, ha, hia⟩ := u2 i hi; exact ⟨a, by simp [ha], hia⟩
              · cases hi)
            (by
              intro i hi
              split at hi
              · rcases List.mem_append.1 hi with hi | hi
                · exact (himm i hi).1.2
                · exact u4 i hi
              · cases hi)
            (by
              refine List.nodup_cons.2 ⟨?_, ?_⟩
              · intro hm
                split at hm
                · rcases List.mem_append.1 hm with hm | hm
                  · exact (himm o hm).2 rfl
                  · exact hoLs hm
                · cases hm
              · split
                · rename_i hb
                  simp only [Bool.and_eq_true] at hb
                  refine List.nodup_append.2 ⟨(hown hb.1).2, u3, ?_⟩
                  rintro i hi j hj rfl
                  obtain ⟨a, ha, hia⟩ := (hown hb.1).1 i hi
                  exact hdd a ha i hia hj
                · exact List.nodup_nil)
            hnx hfr hage (fun t ht => by cases ht) (fun t ht => by cases ht) hsz hsz0 hbs hbw hol
            (by
              rw [hwin]
              split
              · rename_i hb
                rw [hb]
                simp only [Bool.and_eq_true] at hb
                refine RepL.append ?_ (u1 hb.1 hb.2)
                rw [hb.1] at hrep; exact hrep
              · rename_i hb
                have : (dp && ow) = false := by simpa using hb
                rw [this]
                exact RepL.append hrep.readE s2)
            (fun hb => by rw [if_pos hb, if_pos hb])
            (fun hb => by
              rw [if_neg (by rw [hb]; simp), if_neg (by rw [hb]; simp)]
              refine ⟨rfl, fun i hi => ?_⟩
              rcases List.mem_append.1 hi with hi | hi
              · exact (himm i hi).1
              · exact s3 i hi)
            (fun z hz => ⟨(hfine z hz).1, (hfine z hz).2.1, fun hb => by
              rw [if_pos hb]
              simp only [Bool.and_eq_true] at hb
              rcases (hfine z hz).2.2 hb.1 with q | q
              · exact fineV_mono (fun p hp => by simp [hp]) z q
              · exact fineV_mono (fun p hp => by simp [hp]) z (((u1 hb.1 hb.2).fineE z q).2.2 rfl)⟩)
          exact ⟨_, _, _, _, _, _, nx', hk, hop, r1, fun _ => r2, r3, r4, hnx, rfl, EW.killTo none ps.env, LB.newSl _ _ _ _ _ _ _⟩
        rcases hbase with ⟨b1, b2⟩ | ⟨o, g, n, off, len, b, Lb, a, b1, b2, b3, b4, b5, b6, b7, b8, b9, b10, b11, b12, b13⟩
        · subst b2
          by_cases hes : es = []
          · subst hes
            have : ys = [] := List.length_eq_zero_iff.1 hesl
            subst this
            obtain ⟨r1, r2, r3, r4⟩ := R.newNil (del ++ use) (sz := sz) (e := e) (dp := dp && ow) hsz hsz0
            exact ⟨_, _, .nils, _, _, _, nx, hk, by simp only [operV, s1, b1, hfits, if_true], r1, fun _ => r2, r3, r4, Nat.le_refl _, rfl, EW.killTo none ps.env, LB.newSl _ _ _ _ _ _ _⟩
          · have hsm : es.length * sz ≤ 4294967296 := by simpa [hesl] using hg
            refine mk (.dy nx) ⟨genAt H (.dy nx), sz, true, es⟩ 0 es.length (nx + 1) [] [] (Nat.le_succ nx) (fun q hq e => by cases e; omega) (Nat.lt_succ_self nx) (.inl (.inl ⟨nx, rfl, Nat.le_refl _⟩)) rfl rfl (by simp) (by simp) rfl
              (fun z hz => ⟨(hfe z hz).1, by rw [(hfe z hz).2.1, hsz], fun _ => .inr hz⟩) (fun i hi => by cases hi) (fun _ => ⟨(fun i hi => by cases hi), List.nodup_nil⟩) ?_
            simp only [operV, s1, b1, hfits, if_true]
            rw [if_neg hes, if_pos hsm]
        · have hlen : base.length = len := by
            have := RepL.len b8
            simp only [List.length_take, List.length_drop] at this
            omega
          have hoage : ageI d nx none o := by
            obtain ⟨ob, z1, _, z3⟩ := hdel a b10
            have := R.age a ob z1 o (List.mem_of_head? b11)
            rw [z3] at this; exact this
          have hofr : ∀ q, nx ≤ q → o ≠ .dy q := by
            rintro q hq rfl
            have : q < nx := hoage
            omega
          have hcond2 : b.gen = g ∧ b.es.length = n ∧ off + len ≤ n ∧ b.w = true ∧ b.sz = sz := ⟨b3, b4, b5, b6, b7⟩
          have hwl : ((b.es.drop off).take len).length = len := by simp; omega
          by_cases hes : es = []
          · subst hes
            refine mk o b off len nx ((b.es.drop off).take len) Lb (Nat.le_refl _) hofr hoage (.inr ⟨a, b10, b11⟩) b7 b6 (by omega) (by simp) b8 (fun z hz => ⟨(b9 z hz).1, (b9 z hz).2.1, fun q => .inl ((b9 z hz).2.2 q)⟩) b12 (fun q => ⟨fun i hi => ⟨a, b10, (b13 q).1 i hi⟩, (b13 q).2⟩) ?_
            simp only [operV, s1, b1, hfits, if_true, b2]
            rw [if_pos hcond2, hupd_self b2, b3, b4]
          · by_cases hin : off + len + es.length ≤ n
            · refine mk o { b with es := b.es.take (off + len) ++ es ++ b.es.drop (off + len + es.length) } off (len + es.length) nx ((b.es.drop off).take len) Lb (Nat.le_refl _) hofr hoage (.inr ⟨a, b10, b11⟩) b7 b6 (by simp; omega) ?_ b8 ?_ b12 (fun q => ⟨fun i hi => ⟨a, b10, (b13 q).1 i hi⟩, (b13 q).2⟩) ?_
              · show ((b.es.take (off + len) ++ es ++ b.es.drop (off + len + es.length)).drop off).take (len + es.length) = _
                rw [List.append_assoc, List.drop_append_of_le_length (by simp; omega)]
                have e1 : (b.es.take (off + len)).drop off = (b.es.drop off).take len := by rw [List.drop_take]; congr 1; omega
                rw [e1, List.take_append, List.take_of_length_le (by omega)]
                congr 1
                rw [hwl, show len + es.length - len = es.length from by omega, List.take_append_of_le_length (Nat.le_refl _), List.take_length]
              · intro z hz
                have hz : z ∈ b.es.take (off + len) ++ es ++ b.es.drop (off + len + es.length) := hz
                simp only [List.mem_append] at hz
                rcases hz with (hz | hz) | hz
                · have := b9 z (List.mem_of_mem_take hz); exact ⟨this.1, this.2.1, fun q => .inl (this.2.2 q)⟩
                · exact ⟨(hfe z hz).1, by rw [(hfe z hz).2.1, hsz], fun _ => .inr hz⟩
                · have := b9 z (List.mem_of_mem_drop hz); exact ⟨this.1, this.2.1, fun q => .inl (this.2.2 q)⟩
              · simp only [operV, s1, b1, hfits, if_true, b2]
                rw [if_pos hcond2, if_neg hes, if_pos hin]
                have : (b.es.take (off + len) ++ es ++ b.es.drop (off + len + es.length)).length = n := by simp; omega
                rw [this, b3]
            · have hsm : (len + es.length) * sz ≤ 4294967296 := by rw [← hlen, ← hesl]; exact hg
              refine mk o { b with gen := if off = 0 then g else g + 1, es := (b.es.drop off).take len ++ es } 0 (len + es.length) nx ((b.es.drop off).take len) Lb (Nat.le_refl _) hofr hoage (.inr ⟨a, b10, b11⟩) b7 b6 (by simp; omega) ?_ b8 ?_ b12 (fun q => ⟨fun i hi => ⟨a, b10, (b13 q).1 i hi⟩, (b13 q).2⟩) ?_
              · show (((b.es.drop off).take len ++ es).drop 0).take (len + es.length) = _
                rw [List.drop_zero]
                exact List.take_of_length_le (by simp; omega)
              · intro z hz
                have hz : z ∈ (b.es.drop off).take len ++ es := hz
                rcases List.mem_append.1 hz with hz | hz
                · have := b9 z (List.mem_of_mem_drop (List.mem_of_mem_take hz)); exact ⟨this.1, this.2.1, fun q => .inl (this.2.2 q)⟩
                · exact ⟨(hfe z hz).1, by rw [(hfe z hz).2.1, hsz], fun _ => .inr hz⟩
              · simp only [operV, s1, b1, hfits, if_true, b2]
                rw [if_pos hcond2, if_neg hes, if_neg hin, if_pos hsm]
                have : ((b.es.drop off).take len ++ es).length = len + es.length := by rw [List.length_append, hwl]
                rw [this]
      · cases h
  · cases h

theorem ok_append {sz : Nat} {x y : Opd} (h : opP hn pm dst ps (.append sz x y) k = some r) : OpOK T Rn d anV P0 H0 dst E ps μ L H nx k r (.append sz x y) := by
  simp only [opP] at h
  have h1 := R.pev x
  split at h
  · rename_i hx
    rw [hx] at h1
    split at h
    · rename_i sz' e he
      split at h
      · rename_i hc
        exact appendP_ok R hc.2.1 hc.2.2 (.inl ⟨h1, rfl⟩) (fun a ha => by cases ha) h
      · cases h
    · cases h
  · rename_i a hx
    rw [hx] at h1
    split at h
    · rename_i ver sz' e dp xs hc
      split at h
      · rename_i hs
        subst hs
        have hl : live ps.heap a := live_iff.2 ⟨_, hc⟩
        obtain ⟨s0, s1, s2⟩ := R.ob a _ hc
        refine appendP_ok R s0 s1 ?_ (fun c hc' => by obtain rfl : c = a := (by simpa using hc'); exact ⟨_, hc, rfl, rfl⟩) h
        obtain ⟨_, h2, _⟩ := h1
        have h2 : ev E x = μ a := h2
        rcases s2 with ⟨t1, t2, _⟩ | ⟨o, g, n, off, len, b, Lx, t1, t2, t3, t4, t5, t6, t7, t8, t9, t10, t11⟩
        · exact .inl ⟨h2.trans t1, t2⟩
        · have t10 : L a = o :: (if dp = true then Lx else []) := t10
          refine .inr ⟨o, g, n, off, len, b, Lx, a, h2.trans t1, t2, t3, t4, t5, t7 rfl, t6, t8, t9, by simp, by rw [t10]; rfl, ?_, fun q => ?_⟩
          · intro i hi
            cases dp with
            | true =>
              have hL : L a = o :: Lx := by simpa using t10
              refine ⟨ids_nested R hl hL i hi, ?_⟩
              rintro rfl
              have := R.nd a hl
              rw [hL] at this
              exact (List.nodup_cons.1 this).1 hi
            | false =>
              refine ⟨t11 rfl i hi, ?_⟩
              rintro rfl
              exact (t11 rfl i hi).1 ⟨a, hl, by show (L a).head? = some i; rw [t10]; rfl⟩
          · subst q
            have hL : L a = o :: Lx := by simpa using t10
            have hnd := R.nd a hl
            rw [hL] at hnd
            exact ⟨fun i hi => by rw [hL]; simp [hi], (List.nodup_cons.1 hnd).2⟩
      · cases h
    · cases h
  · rename_i a off len hx
    rw [hx] at h1
    split at h
    · rename_i ver sz' e dp xs hc
      split at h
      · rename_i hs
        obtain ⟨rfl, hflat⟩ := hs
        have hl : live ps.heap a := live_iff.2 ⟨_, hc⟩
        obtain ⟨s0, s1, s2⟩ := R.ob a _ hc
        refine appendP_ok R s0 s1 ?_ (fun c hc' => by obtain rfl : c = a := (by simpa using hc'); exact ⟨_, hc, rfl, rfl⟩) h
        obtain ⟨y0, y1⟩ := h1
        rcases y1 with ⟨y2, y3, rfl, rfl⟩ | ⟨o, g, m, off0, len0, y2, y3, y4⟩
        · exact .inl ⟨y3, by simp [sub_def]⟩
        · have y2 : μ a = _ := y2
          rcases s2 with ⟨t1, t2, _⟩ | ⟨o', g', n, off', len', b, Lx, t1, t2, t3, t4, t5, t6, t7, t8, t9, t10, t11⟩
          · have t1 : μ a = .nils := t1
            rw [y2] at t1; cases t1
          · have t1 : μ a = _ := t1
            rw [y2] at t1
            cases t1
            have t10 : L a = o :: (if dp = true then Lx else []) := t10
            obtain ⟨t8', rfl⟩ := RepL.flatE (own' := dp) (H' := H) hflat t8
            obtain ⟨M, m1, m2⟩ := t8'.sub off len
            have hM : M = [] := List.eq_nil_iff_forall_not_mem.2 fun i hi => by simpa using m2 i hi
            subst hM
            refine .inr ⟨o, g, m, off0 + off, len, b, [], a, y4, t2, t3, t4, by omega, t7 rfl, t6, ?_, t9, by simp, by rw [t10]; rfl, (fun i hi => by cases hi), fun q => ⟨(fun i hi => by cases hi), List.nodup_nil⟩⟩
            rw [take_drop_sub _ _ _ _ _ y3, sub_def]
            exact m1
      · cases h
    · cases h
  · cases h
end
end Go.Am

/- The machine on typed data against the small machine: any operation but a call. -/
namespace Go.Am
set_option linter.unusedSimpArgs false
set_option linter.unusedVariables false

/-- What an operation lays anew. -/
def layT (o : AOper) : List Nat := match o.op with
  | .alloc _ | .box _ | .bslice _ _ => opt1 o.dst
  | _ => []

section
variable {T : Tab} {Rn : Run} {d : Nat} {anV : List AV} {P0 : Id → Prop} {H0 : Heap} {ps : PS} {μ : Nat → AV} {L : Nat → List Id} {E : AEnv} {H : Heap} {nx : Nat} {dst : Option Nat} {hn : Hints} {pm : List Nat} {ρ : Type} {r : ρ} {k : PV → PS → Option ρ}

theorem op_ok (R : Rel d anV P0 H0 ps μ L E H nx) {o : AOp} (hp : ∀ t ∈ layT ⟨dst, none, o⟩, ¬ P0 (.st d t)) (hst : ∀ n a x, o = .store n a x → dst = none) (h : opP hn pm dst ps o k = some r) :
    OpOK T Rn d anV P0 H0 dst E ps μ L H nx k r o := by
  have hp' : ∀ z, (o = .alloc z ∨ (∃ x, o = .box x) ∨ ∃ a b, o = .bslice a b) → ∀ t, dst = some t → ¬ P0 (.st d t) := by
    intro z hz t ht
    refine hp t ?_
    subst ht
    rcases hz with rfl | ⟨x, rfl⟩ | ⟨a, b, rfl⟩ <;> simp [layT, opt1]
  cases o with
  | mov x => exact (ok_mov R h).op R
  | pick c a b => exact (ok_pick R h).op R
  | nilc x => exact (ok_nilc R h).op R
  | alloc z => exact ok_alloc R (hp' z (.inl rfl)) h
  | box x => exact ok_box R (hp' .nils (.inr (.inl ⟨x, rfl⟩))) h
  | build z ps => exact (ok_build R h).op R
  | bslice sz l => exact ok_bslice R (hp' .nils (.inr (.inr ⟨sz, l, rfl⟩))) h
  | bsliceD sz l => exact ok_bsliceD R h
  | load ag n a => exact (ok_load R h).op R
  | store n a x => exact ok_store R (hst n a x rfl) h
  | bin op x y => exact (ok_bin R h).op R
  | binB op x y => exact (ok_binB R h).op R
  | binS neg ls x y => exact (ok_binS R h).op R
  | un op x => exact (ok_un R h).op R
  | conv k x => exact (ok_conv R h).op R
  | same x => exact (ok_same R h).op R
  | b2s x => exact (ok_b2s R h).op R
  | s2b x => exact ok_s2b R h
  | mkfn f l => exact (ok_mkfn R h).op R
  | mksl sz z n => exact ok_mksl R h
  | slice sz x lo hi mx => exact (ok_slice R h).op R
  | faddr x off => exact (ok_faddr R h).op R
  | field x off n ag => exact (ok_field R h).op R
  | iaddr sz x i => exact (ok_iaddr R h).op R
  | index x i => exact (ok_index R h).op R
  | len str x => exact (ok_len R h).op R
  | append sz x y => exact ok_append R h
  | copy sz x y => simp only [opP] at h; cases h
  | clear z x => simp only [opP] at h; cases h
  | minmax mx l => exact (ok_minmax R h).op R
  | extract x i => exact (ok_extract R h).op R
  | call f args => simp only [opP] at h; cases h
  | callv f args => simp only [opP] at h; cases h
end
end Go.Am
