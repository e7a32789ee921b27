/- What an operation of the small machine reads and writes. -/
import Derived.Test.YtgncfkcabphccaaA3
namespace Go.Am
set_option linter.unusedSimpArgs false
set_option linter.unusedVariables false

theorem so3 {α β γ : Type} {a a' : α} {b b' : β} {c c' : γ} (h : some (a, b, c) = some (a', b', c')) : a = a' ∧ b = b' ∧ c = c' := by
  cases h; exact ⟨rfl, rfl, rfl⟩

/-- Alike, but for the mark that it may be written. -/
def AgR (H H1 : Heap) (id : Id) : Prop := (H id = none ∧ H1 id = none) ∨ ∃ b b1, H id = some b ∧ H1 id = some b1 ∧ b1.gen = b.gen ∧ b1.es = b.es ∧ b1.sz = b.sz

theorem AgR.of_eq {H H1 : Heap} {id : Id} (h : H1 id = H id) : AgR H H1 id := by
  cases hh : H id with
  | none => exact .inl ⟨hh, by rw [h, hh]⟩
  | some b => exact .inr ⟨b, b, hh, by rw [h, hh], rfl, rfl, rfl⟩
theorem AgR.symm {H H1 : Heap} {id : Id} (h : AgR H H1 id) : AgR H1 H id := by
  rcases h with ⟨a, b⟩ | ⟨b, b1, h1, h2, h3, h4, h5⟩
  · exact .inl ⟨b, a⟩
  · exact .inr ⟨b1, b, h2, h1, h3.symm, h4.symm, h5.symm⟩
theorem AgR.trans {H H1 H2 : Heap} {id : Id} (h : AgR H H1 id) (k : AgR H1 H2 id) : AgR H H2 id := by
  rcases h with ⟨a, b⟩ | ⟨b, b1, h1, h2, h3, h4, h5⟩
  · rcases k with ⟨_, c⟩ | ⟨c, c1, k1, _⟩
    · exact .inl ⟨a, c⟩
    · rw [b] at k1; cases k1
  · rcases k with ⟨c, _⟩ | ⟨c, c1, k1, k2, k3, k4, k5⟩
    · rw [h2] at c; cases c
    · rw [h2] at k1; cases k1
      exact .inr ⟨b, c1, h1, k2, k3.trans h3, k4.trans h4, k5.trans h5⟩

section
variable {H H1 : Heap}

theorem elemsOf_ag {o : Id} {g n off len : Nat} (h : AgR H H1 o) : elemsOf H1 o g n off len = elemsOf H o g n off len := by
  unfold elemsOf
  rcases h with ⟨a, b⟩ | ⟨b, b1, h1, h2, h3, h4, h5⟩
  · rw [a, b]
  · rw [h1, h2]; simp only [h3, h4]
theorem szOf_ag {o : Id} (h : AgR H H1 o) : szOf H1 o = szOf H o := by
  unfold szOf
  rcases h with ⟨a, b⟩ | ⟨b, b1, h1, h2, h3, h4, h5⟩
  · rw [a, b]
  · rw [h1, h2]; simp only [h5]

mutual
theorem frz_ag : ∀ (n : Nat) (v : AV), (∀ id, id ∈ idsOf H n v → AgR H H1 id) → frz H1 n v = frz H n v ∧ idsOf H1 n v = idsOf H n v
  | _, .c t, _ => by simp [frz, idsOf]
  | 0, .agg _, _ => by simp [frz, idsOf]
  | 0, .tup _, _ => by simp [frz, idsOf]
  | 0, .nils, _ => by simp [frz, idsOf]
  | 0, .tptr _ _, _ => by simp [frz, idsOf]
  | 0, .ref _ _ _ _ _, _ => by simp [frz, idsOf]
  | 0, .ptr _ _ _ _ _, _ => by simp [frz, idsOf]
  | 0, .fn _ _, _ => by simp [frz, idsOf]
  | 0, .undef, _ => by simp [frz, idsOf]
  | n + 1, .agg cs, h => by
    obtain ⟨a, b⟩ := frzs_ag n cs (by simpa only [idsOf] using h)
    simp only [frz, idsOf, a, b, and_self]
  | _ + 1, .nils, _ => by simp [frz, idsOf]
  | n + 1, .ref o g m off len, h => by
    simp only [idsOf, List.mem_cons] at h
    have h1 := h o (.inl rfl)
    simp only [frz, idsOf, elemsOf_ag h1, szOf_ag h1]
    cases he : elemsOf H o g m off len with
    | none => exact ⟨rfl, rfl⟩
    | some es =>
      obtain ⟨a, b⟩ := frzs_ag n es (fun id hi => h id (.inr (by simpa only [he] using hi)))
      simp only [a, b, and_self]
  | _ + 1, .tup _, _ => by simp [frz, idsOf]
  | _ + 1, .tptr _ _, _ => by simp [frz, idsOf]
  | _ + 1, .ptr _ _ _ _ _, _ => by simp [frz, idsOf]
  | _ + 1, .fn _ _, _ => by simp [frz, idsOf]
  | _ + 1, .undef, _ => by simp [frz, idsOf]
theorem frzs_ag : ∀ (n : Nat) (l : List AV), (∀ id, id ∈ idsOfs H n l → AgR H H1 id) → frzs H1 n l = frzs H n l ∧ idsOfs H1 n l = idsOfs H n l
  | _, [], _ => by simp [frzs, idsOfs]
  | n, x :: r, h => by
    simp only [idsOfs, List.mem_append] at h
    obtain ⟨a, b⟩ := frz_ag n x (fun id hi => h id (.inl hi))
    obtain ⟨c, d⟩ := frzs_ag n r (fun id hi => h id (.inr hi))
    simp only [frzs, idsOfs, a, b, c, d, and_self]
end

theorem lockL_at (H : Heap) : ∀ (l : List Id) (id : Id), lockL H l id = if id ∈ l then (match H id with | some b => some { b with w := false } | none => none) else H id
  | [], id => by simp [lockL]
  | o :: r, id => by
    have ih := lockL_at H r
    simp only [lockL]
    by_cases ho : id = o
    · subst ho
      rw [if_pos List.mem_cons_self]
      cases hr : lockL H r id with
      | none =>
        simp only [hr]
        rw [ih] at hr
        split at hr
        · cases hh : H id with
          | none => rfl
          | some b => rw [hh] at hr; cases hr
        · rw [hr]
      | some b =>
        simp only [hupd, if_true]
        rw [ih] at hr
        split at hr
        · cases hh : H id with
          | none => rw [hh] at hr; cases hr
          | some b' => rw [hh] at hr; simp only at hr; cases hr; rfl
        · rw [hr]
    · have h2 := ih id
      cases hro : lockL H r o with
      | none => simp only [h2, List.mem_cons, ho, false_or]
      | some b => simp only [hupd, ho, if_false, h2, List.mem_cons, false_or]

theorem lockL_ag (l : List Id) (id : Id) : AgR H (lockL H l) id := by
  rw [show AgR H (lockL H l) id ↔ AgR H (lockL H l) id from Iff.rfl]
  have h := lockL_at H l id
  cases hh : H id with
  | none => left; refine ⟨hh, ?_⟩; rw [h, hh]; simp
  | some b =>
    right
    rw [hh] at h
    split at h
    · exact ⟨b, _, hh, h, rfl, rfl, rfl⟩
    · exact ⟨b, b, hh, h, rfl, rfl, rfl⟩

theorem genAt_eq {o : Id} (h : H1 o = H o) : genAt H1 o = genAt H o := by unfold genAt; rw [h]

theorem loadV_ag {ag : Bool} {n : Nat} {a : AV} (h : ∀ id, id ∈ vIds a → AgR H H1 id) : loadV H1 ag n a = loadV H ag n a := by
  cases a with
  | ptr o g m i off =>
    have h1 := h o (by simp [vIds])
    simp only [loadV]
    rcases h1 with ⟨a, b⟩ | ⟨b, b1, h1, h2, h3, h4, h5⟩
    · rw [a, b]
    · rw [h1, h2]; simp only [h3, h4, h5]
  | _ => rfl

theorem sliceV_ag {x : AV} {l h m : Option Int} (hh : ∀ id, id ∈ vIds x → AgR H H1 id) : sliceV H1 x l h m = sliceV H x l h m := by
  cases x with
  | ref o g n off len =>
    have h1 := hh o (by simp [vIds])
    simp only [sliceV]
    rcases h1 with ⟨a, b⟩ | ⟨b, b1, h1, h2, h3, h4, h5⟩
    · rw [a, b]
    · rw [h1, h2]; simp only [h3, h4]
  | c t =>
    cases t with
    | s x => cases x <;> rfl
    | _ => rfl
  | _ => rfl

theorem sliceV_szOk {x v : AV} {l h m : Option Int} {sz : Nat} (hv : sliceV H x l h m = some v) (hh : ∀ id, id ∈ vIds x → AgR H H1 id) : szOk H1 sz v = szOk H sz v := by
  unfold sliceV at hv
  simp only at hv
  split at hv
  · split at hv
    · obtain rfl := Option.some.inj hv; rfl
    · cases hv
  · split at hv
    · obtain rfl := Option.some.inj hv; rfl
    · cases hv
  · split at hv
    · obtain rfl := Option.some.inj hv; rfl
    · cases hv
  · rename_i o _ _ _ _
    split at hv
    · split at hv
      · obtain rfl := Option.some.inj hv
        simp only [szOk, szOf_ag (hh o (by simp [vIds]))]
      · cases hv
    · cases hv
  · cases hv

theorem elems_ag {x : AV} (hh : ∀ id, id ∈ vIds x → AgR H H1 id) : elems H1 x = elems H x := by
  cases x with
  | ref o g n off len =>
    simp only [elems, elemsOf_ag (hh o (by simp [vIds]))]
  | c t => cases t <;> rfl
  | _ => rfl
theorem srcE_ag {x : AV} (hh : ∀ id, id ∈ vIds x → AgR H H1 id) : srcE H1 x = srcE H x := by
  unfold srcE
  split
  · rfl
  · exact elems_ag hh
end

/-- What is asked of another heap that an operation's footprint may be run on. -/
structure AgF (F : Foot) (H H1 : Heap) (nx nx1 : Nat) : Prop where
  rd : ∀ id, id ∈ F.rd → AgR H H1 id
  wr : ∀ id, id ∈ F.wr → H1 id = H id
  lk : ∀ id, id ∈ F.lk → H1 id = H id
  all : F.all = true → H1 = H
  nxE : F.nx = true → nx1 = nx

/-- What an operation's footprint tells of what it does. -/
structure Fr (F : Foot) (H H' H1 H1' : Heap) (nx nx' nx1 nx1' : Nat) : Prop where
  same : ∀ id, id ∈ F.wr ∨ id ∈ F.lk → H1' id = H' id
  out : ∀ id, id ∉ F.wr → id ∉ F.lk → H' id = H id
  out1 : ∀ id, id ∉ F.wr → id ∉ F.lk → H1' id = H1 id
  lock : ∀ id, id ∉ F.wr → AgR H H' id
  nxE : F.nx = true → nx1' = nx'
  nx0 : F.nx = false → nx' = nx ∧ nx1' = nx1

theorem Fr.refl {F : Foot} {H H1 : Heap} {nx nx1 : Nat} (h : AgF F H H1 nx nx1) : Fr F H H H1 H1 nx nx nx1 nx1 :=
  ⟨fun id hi => hi.elim (h.wr id) (h.lk id), fun _ _ _ => rfl, fun _ _ _ => rfl, fun _ _ => .of_eq rfl, h.nxE, fun _ => ⟨rfl, rfl⟩⟩

theorem Fr.upd {F : Foot} {H H1 : Heap} {nx nx1 nx' nx1' : Nat} {id : Id} {b b1 : Obj} (h : AgF F H H1 nx nx1) (hid : id ∈ F.wr) (hb : b1 = b) (hn : F.nx = true → nx1' = nx') (hn0 : F.nx = false → nx' = nx ∧ nx1' = nx1) :
    Fr F H (hupd H id b) H1 (hupd H1 id b1) nx nx' nx1 nx1' := by
  subst hb
  refine ⟨fun p hp => ?_, fun p h1 _ => ?_, fun p h1 _ => ?_, fun p h1 => ?_, hn, hn0⟩
  · unfold hupd
    split
    · rfl
    · exact hp.elim (h.wr p) (h.lk p)
  · unfold hupd; rw [if_neg]; rintro rfl; exact h1 hid
  · unfold hupd; rw [if_neg]; rintro rfl; exact h1 hid
  · refine .of_eq ?_
    unfold hupd; rw [if_neg]; rintro rfl; exact h1 hid

section
variable {T : Tab} {R : Run} {d : Nat} {dst : Option Nat} {E : AEnv} {H H' H1 : Heap} {nx nx' nx1 : Nat} {k : AOp} {v : AV}

theorem pure_op (hk : kindA k = 0) (he : operV T R d dst E H nx k = some (v, H', nx')) : (H' = H ∧ nx' = nx) ∧ ∀ (H1 : Heap) (nx1 : Nat), operV T R d dst E H1 nx1 k = some (v, H1, nx1) := by
  cases k
  all_goals first | (exfalso; simp [kindA] at hk; done) | skip
  all_goals simp only [operV] at he ⊢
  all_goals repeat' split at he
  all_goals first | (cases he; done) | skip
  all_goals (simp only [Option.some.injEq, Prod.mk.injEq] at he; obtain ⟨rfl, rfl, rfl⟩ := he; refine ⟨⟨rfl, rfl⟩, fun _ _ => ?_⟩)
  all_goals simp_all

theorem call_frame {f : Nat} {vs : List AV} (he : callOp T R d f vs H nx = some (v, H', nx')) (hm : (footCall T f vs H).wall = false) (ha : AgF (footCall T f vs H) H H1 nx nx1) :
    footCall T f vs H1 = footCall T f vs H ∧ ∃ H1' nx1', callOp T R d f vs H1 nx1 = some (v, H1', nx1') ∧ Fr (footCall T f vs H) H H' H1 H1' nx nx' nx1 nx1' := by
  unfold footCall callOp at *
  split at he
  · rename_i hmo; rw [hmo] at hm; cases hm
  · cases he
  · rename_i hmo
    simp only [hmo] at hm ha ⊢
    cases hf : frzs H 12 vs with
    | some ts =>
      simp only [hf] at he ha ⊢
      obtain ⟨h1, h2⟩ := frzs_ag 12 vs ha.rd
      rw [h1, h2, hf]
      refine ⟨rfl, ?_⟩
      split at he
      · rename_i us hus
        split at he
        · rename_i hs
          obtain ⟨rfl, rfl, rfl⟩ := so3 he
          exact ⟨H1, nx1, by simp only [hus]; rw [if_pos hs], Fr.refl ha⟩
        · rename_i hs
          obtain ⟨rfl, rfl, rfl⟩ := so3 he
          refine ⟨lockL H1 (idsOfs H 12 vs), nx1, by simp only [hus]; rw [if_neg hs], ⟨?_, ?_, ?_, ?_, by simp, by simp⟩⟩
          · intro id hi
            have hi : id ∈ idsOfs H 12 vs := by simpa using hi
            rw [lockL_at, lockL_at, ha.lk id hi]
          · intro id _ hi
            rw [lockL_at, if_neg hi]
          · intro id _ hi
            rw [lockL_at, if_neg hi]
          · intro id _
            exact lockL_ag _ _
      · cases he
    | none =>
      simp only [hf] at he ha ⊢
      have h1 := ha.all rfl
      have h2 := ha.nxE rfl
      subst h1; subst h2
      rw [hf]
      refine ⟨rfl, H', nx', he, ?_⟩
      split at he
      · split at he
        · split at he
          · obtain ⟨rfl, rfl, rfl⟩ := so3 he
            exact Fr.refl ha
          · cases he
        · cases he
      · cases he

/-- What an operation does on another heap that is alike where its footprint is. -/
theorem oper_frame (he : operV T R d dst E H nx k = some (v, H', nx')) (hm : (foot T d dst E H nx k).wall = false) (ha : AgF (foot T d dst E H nx k) H H1 nx nx1) :
    foot T d dst E H1 nx1 k = foot T d dst E H nx k ∧ ∃ H1' nx1', operV T R d dst E H1 nx1 k = some (v, H1', nx1') ∧ Fr (foot T d dst E H nx k) H H' H1 H1' nx nx' nx1 nx1' := by
  by_cases hk : kindA k = 0
  · obtain ⟨⟨rfl, rfl⟩, h2⟩ := pure_op hk he
    have hf : ∀ (H : Heap) (nx : Nat), foot T d dst E H nx k = F0 := by
      intro H nx
      cases k <;> first | rfl | (exfalso; simp [kindA] at hk)
    exact ⟨by rw [hf, hf], H1, nx1, h2 _ _, Fr.refl ha⟩
  cases k
  all_goals first | (exfalso; simp [kindA] at hk; done) | skip
  case load ag n a =>
    simp only [operV, foot] at *
    rw [loadV_ag ha.rd]
    split at he
    · obtain ⟨rfl, rfl, rfl⟩ := so3 he
      rename_i u hu
      exact ⟨trivial, _, _, rfl, Fr.refl ha⟩
    · cases he
  case b2s x =>
    simp only [operV, foot] at *
    rw [elems_ag ha.rd]
    split at he
    · split at he
      · rename_i es hes b hb
        obtain ⟨rfl, rfl, rfl⟩ := so3 he
        exact ⟨trivial, H1, nx1, by simp_all only, Fr.refl ha⟩
      · cases he
    · cases he
  case slice sz x a b c =>
    simp only [operV, foot] at *
    split at he
    · rename_i l h m el eh em
      split at he
      · rename_i u hu
        split at he
        · rename_i hc
          obtain ⟨rfl, rfl, rfl⟩ := so3 he
          refine ⟨trivial, H1, nx1, ?_, Fr.refl ha⟩
          rw [sliceV_ag ha.rd]
          simp only [hu]
          rw [sliceV_szOk hu ha.rd]
          rw [if_pos hc]
        · cases he
      · cases he
    · cases he
  case iaddr sz x i =>
    simp only [operV, foot] at *
    split at he
    · rename_i j hj
      split at he
      · rename_i h0
        split at he
        · rename_i hx
          split at he
          · split at he
            · rename_i u hu hs
              obtain ⟨rfl, rfl, rfl⟩ := so3 he
              exact ⟨trivial, H1, nx1, by simp only [h0, if_true, hu, hs], Fr.refl ha⟩
            · cases he
          · cases he
        · rename_i p g n off len hx
          have hag := ha.rd p (by rw [hx]; simp [vIds])
          split at he
          · rename_i ob hob
            split at he
            · rename_i hc
              obtain ⟨rfl, rfl, rfl⟩ := so3 he
              refine ⟨trivial, H1, nx1, ?_, Fr.refl ha⟩
              rcases hag with ⟨a, b⟩ | ⟨b, b1, h1, h2, h3, h4, h5⟩
              · rw [a] at hob; cases hob
              · rw [h1] at hob; cases hob
                simp only [h0, if_true, h2, h3, h4, h5]
                rw [if_pos hc]
            · cases he
          · cases he
        · cases he
      · cases he
    · cases he
  case alloc z =>
    simp only [operV, foot] at *
    split at he
    · rename_i t
      split at he
      · rename_i hs
        obtain ⟨rfl, rfl, rfl⟩ := so3 he
        have h1 := ha.wr (.st d t) (by simp)
        refine ⟨trivial, _, nx1, by rw [if_pos hs, genAt_eq h1], Fr.upd ha (by simp) rfl (by simp) (by simp)⟩
      · cases he
    · cases he
  case box x =>
    simp only [operV, foot] at *
    split at he
    · rename_i t
      split at he
      · rename_i hs
        obtain ⟨rfl, rfl, rfl⟩ := so3 he
        have h1 := ha.wr (.st d t) (by simp)
        refine ⟨trivial, _, nx1, by rw [if_pos hs, genAt_eq h1], Fr.upd ha (by simp) rfl (by simp) (by simp)⟩
      · cases he
    · cases he
  case bslice sz l =>
    simp only [operV, foot] at *
    split at he
    · rename_i t
      split at he
      · rename_i hs
        obtain ⟨rfl, rfl, rfl⟩ := so3 he
        have h1 := ha.wr (.st d t) (by simp)
        refine ⟨trivial, _, nx1, by rw [if_pos hs, genAt_eq h1], Fr.upd ha (by simp) rfl (by simp) (by simp)⟩
      · cases he
    · cases he
  case s2b x =>
    simp only [operV, foot] at *
    split at he
    · split at he
      · rename_i hs
        obtain ⟨rfl, rfl, rfl⟩ := so3 he
        have h2 := ha.nxE rfl
        subst h2
        have h1 := ha.wr (.dy nx1) (by simp)
        refine ⟨rfl, _, nx1 + 1, by rw [if_pos hs, genAt_eq h1], Fr.upd ha (by simp) rfl (by simp) (by simp)⟩
      · cases he
    · cases he
  case mksl sz z n =>
    simp only [operV, foot] at *
    split at he
    · split at he
      · rename_i hs
        obtain ⟨rfl, rfl, rfl⟩ := so3 he
        have h2 := ha.nxE rfl
        subst h2
        have h1 := ha.wr (.dy nx1) (by simp)
        refine ⟨rfl, _, nx1 + 1, by rw [if_pos hs, genAt_eq h1], Fr.upd ha (by simp) rfl (by simp) (by simp)⟩
      · cases he
    · cases he
  case store n a x =>
    simp only [operV, foot] at *
    split at he
    · rename_i H2 hst
      obtain ⟨rfl, rfl, rfl⟩ := so3 he
      unfold storeV at hst
      split at hst
      · rename_i o g m i off hx
        have h1 := ha.wr o (by rw [hx]; simp [vIds])
        split at hst
        · rename_i b hb
          split at hst
          · rename_i hc
            split at hst
            · rename_i old hold
              split at hst
              · rename_i new hnew
                obtain rfl := Option.some.inj hst
                refine ⟨trivial, hupd H1 o { b with es := b.es.set i new }, nx1, ?_, Fr.upd ha (by rw [hx]; simp [vIds]) rfl (by simp) (by simp)⟩
                rw [hx]
                simp only [storeV, h1, hb]
                rw [if_pos hc]
                simp only [hold, hnew]
              · cases hst
            · cases hst
          · cases hst
        · cases hst
      · cases hst
    · cases he
  case clear z x =>
    simp only [operV, foot] at *
    split at he
    · rename_i o g n off len hx
      have h1 := ha.wr o (by rw [hx]; simp [vIds])
      split at he
      · rename_i b hb
        split at he
        · rename_i hc
          obtain ⟨rfl, rfl, rfl⟩ := so3 he
          refine ⟨trivial, _, nx1, by simp only [h1, hb]; rw [if_pos hc], Fr.upd ha (by rw [hx]; simp [vIds]) rfl (by simp) (by simp)⟩
        · cases he
      · cases he
    · obtain ⟨rfl, rfl, rfl⟩ := so3 he
      exact ⟨trivial, _, _, rfl, Fr.refl ha⟩
    · cases he
  case copy sz x y =>
    simp only [operV, foot] at *
    rw [srcE_ag ha.rd]
    split at he
    · rename_i new o g n off len hnew hx
      have h1 := ha.wr o (by rw [hx]; simp [vIds])
      split at he
      · rename_i b hb
        split at he
        · rename_i hc
          obtain ⟨rfl, rfl, rfl⟩ := so3 he
          refine ⟨trivial, _, nx1, by simp only [hnew, hx, h1, hb]; rw [if_pos hc], Fr.upd ha (by rw [hx]; simp [vIds]) rfl (by simp) (by simp)⟩
        · cases he
      · cases he
    · cases he
  case append sz x y =>
    have h2 : nx1 = nx := ha.nxE rfl
    subst h2
    simp only [operV, foot] at *
    rw [srcE_ag ha.rd]
    split at he
    · rename_i new hnew
      split at he
      · rename_i hf
        split at he
        · rename_i hx
          have h1 := ha.wr (.dy nx1) (by simp)
          split at he
          · rename_i hn
            obtain ⟨rfl, rfl, rfl⟩ := so3 he
            exact ⟨trivial, H1, nx1, by simp only [hnew, hx, hf, if_true]; rw [if_pos hn], Fr.refl ha⟩
          · rename_i hn
            split at he
            · rename_i hb
              obtain ⟨rfl, rfl, rfl⟩ := so3 he
              exact ⟨trivial, _, nx1 + 1, by simp only [hnew, hx, hf, if_true]; rw [if_neg hn, if_pos hb, genAt_eq h1], Fr.upd ha (by simp) rfl (by simp) (by simp)⟩
            · cases he
        · rename_i o g n off len hx
          have h1 := ha.wr o (by rw [hx]; simp [vIds])
          split at he
          · rename_i b hb
            split at he
            · rename_i hc
              split at he
              · rename_i hn
                obtain ⟨rfl, rfl, rfl⟩ := so3 he
                exact ⟨trivial, H1, nx1, by simp only [hnew, hx, hf, if_true, h1, hb]; rw [if_pos hc, if_pos hn], Fr.refl ha⟩
              · rename_i hn
                split at he
                · rename_i hr
                  obtain ⟨rfl, rfl, rfl⟩ := so3 he
                  exact ⟨trivial, _, nx1, by simp only [hnew, hx, hf, if_true, h1, hb]; rw [if_pos hc, if_neg hn, if_pos hr], Fr.upd ha (by rw [hx]; simp [vIds]) rfl (by simp) (by simp)⟩
                · rename_i hr
                  split at he
                  · rename_i hg
                    obtain ⟨rfl, rfl, rfl⟩ := so3 he
                    exact ⟨trivial, _, nx1, by simp only [hnew, hx, hf, if_true, h1, hb]; rw [if_pos hc, if_neg hn, if_neg hr, if_pos hg], Fr.upd ha (by rw [hx]; simp [vIds]) rfl (by simp) (by simp)⟩
                  · cases he
            · cases he
          · cases he
        · cases he
      · cases he
    · cases he
  case call f args =>
    simp only [operV, foot] at *
    exact call_frame he hm ha
  case callv f args =>
    simp only [operV, foot] at *
    split at he
    · rename_i g caps hg
      simp only [hg] at hm ha ⊢
      exact call_frame he hm ha
    · cases he
end
end Go.Am
