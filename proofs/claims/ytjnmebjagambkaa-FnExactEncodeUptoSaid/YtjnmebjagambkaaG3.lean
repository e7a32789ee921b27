/- What an operation of the small machine reads and writes. -/
import Derived.Test.YtjnmebjagambkaaG2
import Derived.Laws.Sem
namespace Go.Am
set_option linter.unusedSimpArgs false
set_option linter.unusedVariables false

theorem so3 {α β γ : Type} {a a' : α} {b b' : β} {c c' : γ} (h : some (a, b, c) = some (a', b', c')) : a = a' ∧ b = b' ∧ c = c' := by
  cases h; exact ⟨rfl, rfl, rfl⟩

/-- Alike, but for the mark that it may be written. -/
def AgR (H H1 : Heap) (id : Id) : Prop := (H id = none ∧ H1 id = none) ∨ ∃ b b1, H id = some b ∧ H1 id = some b1 ∧ b1.gen = b.gen ∧ b1.es = b.es ∧ b1.sz = b.sz

theorem AgR.of_eq {H H1 : Heap} {id : Id} (h : H1 id = H id) : AgR H H1 id := by
  cases hh : H id with
  | none => exact .inl ⟨hh, by rw [h, hh]⟩
  | some b => exact .inr ⟨b, b, hh, by rw [h, hh], rfl, rfl, rfl⟩
theorem AgR.symm {H H1 : Heap} {id : Id} (h : AgR H H1 id) : AgR H1 H id := by
  rcases h with ⟨a, b⟩ | ⟨b, b1, h1, h2, h3, h4, h5⟩
  · exact .inl ⟨b, a⟩
  · exact .inr ⟨b1, b, h2, h1, h3.symm, h4.symm, h5.symm⟩
theorem AgR.trans {H H1 H2 : Heap} {id : Id} (h : AgR H H1 id) (k : AgR H1 H2 id) : AgR H H2 id := by
  rcases h with ⟨a, b⟩ | ⟨b, b1, h1, h2, h3, h4, h5⟩
  · rcases k with ⟨_, c⟩ | ⟨c, c1, k1, _⟩
    · exact .inl ⟨a, c⟩
    · rw [b] at k1; cases k1
  · rcases k with ⟨c, _⟩ | ⟨c, c1, k1, k2, k3, k4, k5⟩
    · rw [h2] at c; cases c
    · rw [h2] at k1; cases k1
      exact .inr ⟨b, c1, h1, k2, k3.trans h3, k4.trans h4, k5.trans h5⟩

section
variable {H H1 : Heap}

theorem elemsOf_ag {o : Id} {g n off len : Nat} (h : AgR H H1 o) : elemsOf H1 o g n off len = elemsOf H o g n off len := by
  unfold elemsOf
  rcases h with ⟨a, b⟩ | ⟨b, b1, h1, h2, h3, h4, h5⟩
  · rw [a, b]
  · rw [h1, h2]; simp only [h3, h4]
theorem szOf_ag {o : Id} (h : AgR H H1 o) : szOf H1 o = szOf H o := by
  unfold szOf
  rcases h with ⟨a, b⟩ | ⟨b, b1, h1, h2, h3, h4, h5⟩
  · rw [a, b]
  · rw [h1, h2]; simp only [h5]

mutual
theorem frz_ag : ∀ (n : Nat) (v : AV), (∀ id, id ∈ idsOf H n v → AgR H H1 id) → frz H1 n v = frz H n v ∧ idsOf H1 n v = idsOf H n v
  | _, .c t, _ => by simp [frz, idsOf]
  | 0, .agg _, _ => by simp [frz, idsOf]
  | 0, .tup _, _ => by simp [frz, idsOf]
  | 0, .nils, _ => by simp [frz, idsOf]
  | 0, .tptr _ _, _ => by simp [frz, idsOf]
  | 0, .ref _ _ _ _ _, _ => by simp [frz, idsOf]
  | 0, .ptr _ _ _ _ _, _ => by simp [frz, idsOf]
  | 0, .fn _ _, _ => by simp [frz, idsOf]
  | 0, .undef, _ => by simp [frz, idsOf]
  | n + 1, .agg cs, h => by
    obtain ⟨a, b⟩ := frzs_ag n cs (by simpa only [idsOf] using h)
    simp only [frz, idsOf, a, b, and_self]
  | _ + 1, .nils, _ => by simp [frz, idsOf]
  | n + 1, .ref o g m off len, h => by
    simp only [idsOf, List.mem_cons] at h
    have h1 := h o (.inl rfl)
    simp only [frz, idsOf, elemsOf_ag h1, szOf_ag h1]
    cases he : elemsOf H o g m off len with
    | none => exact ⟨rfl, rfl⟩
    | some es =>
      obtain ⟨a, b⟩ := frzs_ag n es (fun id hi => h id (.inr (by simpa only [he] using hi)))
      simp only [a, b, and_self]
  | _ + 1, .tup _, _ => by simp [frz, idsOf]
  | _ + 1, .tptr _ _, _ => by simp [frz, idsOf]
  | _ + 1, .ptr _ _ _ _ _, _ => by simp [frz, idsOf]
  | _ + 1, .fn _ _, _ => by simp [frz, idsOf]
  | _ + 1, .undef, _ => by simp [frz, idsOf]
theorem frzs_ag : ∀ (n : Nat) (l : List AV), (∀ id, id ∈ idsOfs H n l → AgR H H1 id) → frzs H1 n l = frzs H n l ∧ idsOfs H1 n l = idsOfs H n l
  | _, [], _ => by simp [frzs, idsOfs]
  | n, x :: r, h => by
    simp only [idsOfs, List.mem_append] at h
    obtain ⟨a, b⟩ := frz_ag n x (fun id hi => h id (.inl hi))
    obtain ⟨c, d⟩ := frzs_ag n r (fun id hi => h id (.inr hi))
    simp only [frzs, idsOfs, a, b, c, d, and_self]
end

theorem lockL_at (H : Heap) : ∀ (l : List Id) (id : Id), lockL H l id = if id ∈ l then (match H id with | some b => some { b with w := false } | none => none) else H id
  | [], id => by simp [lockL]
  | o :: r, id => by
    have ih := lockL_at H r
    simp only [lockL]
    by_cases ho : id = o
    · subst ho
      rw [if_pos List.mem_cons_self]
      cases hr : lockL H r id with
      | none =>
        simp only [hr]
        rw [ih] at hr
        split at hr
        · cases hh : H id with
          | none => rfl
          | some b => rw [hh] at hr; cases hr
        · rw [hr]
      | some b =>
        simp only [hupd, if_true]
        rw [ih] at hr
        split at hr
        · cases hh : H id with
          | none => rw [hh] at hr; cases hr
          | some b' => rw [hh] at hr; simp only at hr; cases hr; rfl
        · rw [hr]
    · have h2 := ih id
      cases hro : lockL H r o with
      | none => simp only [h2, List.mem_cons, ho, false_or]
      | some b => simp only [hupd, ho, if_false, h2, List.mem_cons, false_or]

theorem lockL_ag (l : List Id) (id : Id) : AgR H (lockL H l) id := by
  rw [show AgR H (lockL H l) id ↔ AgR H (lockL H l) id from Iff.rfl]
  have h := lockL_at H l id
  cases hh : H id with
  | none => left; refine ⟨hh, ?_⟩; rw [h, hh]; simp
  | some b =>
    right
    rw [hh] at h
    split at h
    · exact ⟨b, _, hh, h, rfl, rfl, rfl⟩
    · exact ⟨b, b, hh, h, rfl, rfl, rfl⟩

theorem genAt_eq {o : Id} (h : H1 o = H o) : genAt H1 o = genAt H o := by unfold genAt; rw [h]

theorem loadV_ag {ag : Bool} {n : Nat} {a : AV} (h : ∀ id, id ∈ vIds a → AgR H H1 id) : loadV H1 ag n a = loadV H ag n a := by
  cases a with
  | ptr o g m i off =>
    have h1 := h o (by simp [vIds])
    simp only [loadV]
    rcases h1 with ⟨a, b⟩ | ⟨b, b1, h1, h2, h3, h4, h5⟩
    · rw [a, b]
    · rw [h1, h2]; simp only [h3, h4, h5]
  | _ => rfl

theorem sliceV_ag {x : AV} {l h m : Option Int} (hh : ∀ id, id ∈ vIds x → AgR H H1 id) : sliceV H1 x l h m = sliceV H x l h m := by
  cases x with
  | ref o g n off len =>
    have h1 := hh o (by simp [vIds])
    simp only [sliceV]
    rcases h1 with ⟨a, b⟩ | ⟨b, b1, h1, h2, h3, h4, h5⟩
    · rw [a, b]
    · rw [h1, h2]; simp only [h3, h4]
  | c t =>
    cases t with
    | s x => cases x <;> rfl
    | _ => rfl
  | _ => rfl

theorem sliceV_szOk {x v : AV} {l h m : Option Int} {sz : Nat} (hv : sliceV H x l h m = some v) (hh : ∀ id, id ∈ vIds x → AgR H H1 id) : szOk H1 sz v = szOk H sz v := by
  unfold sliceV at hv
  simp only at hv
  split at hv
  · split at hv
    · obtain rfl := Option.some.inj hv; rfl
    · cases hv
  · split at hv
    · obtain rfl := Option.some.inj hv; rfl
    · cases hv
  · split at hv
    · obtain rfl := Option.some.inj hv; rfl
    · cases hv
  · rename_i o _ _ _ _
    split at hv
    · split at hv
      · obtain rfl := Option.some.inj hv
        simp only [szOk, szOf_ag (hh o (by simp [vIds]))]
      · cases hv
    · cases hv
  · cases hv

theorem elems_ag {x : AV} (hh : ∀ id, id ∈ vIds x → AgR H H1 id) : elems H1 x = elems H x := by
  cases x with
  | ref o g n off len =>
    simp only [elems, elemsOf_ag (hh o (by simp [vIds]))]
  | c t => cases t <;> rfl
  | _ => rfl
theorem srcE_ag {x : AV} (hh : ∀ id, id ∈ vIds x → AgR H H1 id) : srcE H1 x = srcE H x := by
  unfold srcE
  split
  · rfl
  · exact elems_ag hh
end

/-- What is asked of another heap that an operation's footprint may be run on. -/
structure AgF (F : Foot) (H H1 : Heap) (nx nx1 : Nat) : Prop where
  rd : ∀ id, id ∈ F.rd → AgR H H1 id
  wr : ∀ id, id ∈ F.wr → H1 id = H id
  lk : ∀ id, id ∈ F.lk → H1 id = H id
  fr : ∀ id, oldId F.fr id = false → H1 id = H id
  all : F.all = true → H1 = H
  nxE : F.nx = true → nx1 = nx

/-- What an operation's footprint tells of what it does. -/
structure Fr (F : Foot) (H H' H1 H1' : Heap) (nx nx' nx1 nx1' : Nat) : Prop where
  same : ∀ id, id ∈ F.wr ∨ id ∈ F.lk ∨ oldId F.fr id = false → H1' id = H' id
  out : ∀ id, id ∉ F.wr → id ∉ F.lk → oldId F.fr id = true → H' id = H id
  out1 : ∀ id, id ∉ F.wr → id ∉ F.lk → oldId F.fr id = true → H1' id = H1 id
  lock : ∀ id, id ∉ F.wr → oldId F.fr id = true → AgR H H' id
  nxE : F.nx = true → nx1' = nx'
  nx0 : F.nx = false → nx' = nx ∧ nx1' = nx1

theorem Fr.refl {F : Foot} {H H1 : Heap} {nx nx1 : Nat} (h : AgF F H H1 nx nx1) : Fr F H H H1 H1 nx nx nx1 nx1 :=
  ⟨fun id hi => hi.elim (h.wr id) (fun q => q.elim (h.lk id) (h.fr id)), fun _ _ _ _ => rfl, fun _ _ _ _ => rfl, fun _ _ _ => .of_eq rfl, h.nxE, fun _ => ⟨rfl, rfl⟩⟩

theorem Fr.upd {F : Foot} {H H1 : Heap} {nx nx1 nx' nx1' : Nat} {id : Id} {b b1 : Obj} (h : AgF F H H1 nx nx1) (hid : id ∈ F.wr) (hb : b1 = b) (hn : F.nx = true → nx1' = nx') (hn0 : F.nx = false → nx' = nx ∧ nx1' = nx1) :
    Fr F H (hupd H id b) H1 (hupd H1 id b1) nx nx' nx1 nx1' := by
  subst hb
  refine ⟨fun p hp => ?_, fun p h1 _ _ => ?_, fun p h1 _ _ => ?_, fun p h1 _ => ?_, hn, hn0⟩
  · unfold hupd
    split
    · rfl
    · exact hp.elim (h.wr p) (fun q => q.elim (h.lk p) (h.fr p))
  · unfold hupd; rw [if_neg]; rintro rfl; exact h1 hid
  · unfold hupd; rw [if_neg]; rintro rfl; exact h1 hid
  · refine .of_eq ?_
    unfold hupd; rw [if_neg]; rintro rfl; exact h1 hid

theorem frzOr_ag {H H1 : Heap} {v : AV} (h : ∀ id, id ∈ idsOf H 12 v → AgR H H1 id) : frzOr H1 v = frzOr H v := by
  unfold frzOr; rw [(frz_ag 12 v h).1]

theorem sepArgs_ag {H H1 : Heap} : ∀ (keep : List Bool) (vs : List AV), (∀ id, id ∈ sepRd H keep vs → AgR H H1 id) → sepArgs H1 keep vs = sepArgs H keep vs ∧ sepRd H1 keep vs = sepRd H keep vs
  | keep, [], _ => by simp [sepArgs, sepRd]
  | [], v :: r, h => by
    simp only [sepRd, List.mem_append] at h
    obtain ⟨a, b⟩ := sepArgs_ag [] r (fun id hi => h id (.inr hi))
    simp only [sepArgs, sepRd, a, b, frzOr_ag (fun id hi => h id (.inl hi)), (frz_ag 12 v (fun id hi => h id (.inl hi))).2, and_self]
  | b :: q, v :: r, h => by
    simp only [sepRd, List.mem_append] at h
    obtain ⟨a, c⟩ := sepArgs_ag q r (fun id hi => h id (.inr hi))
    cases b with
    | true => simp only [sepArgs, sepRd, a, c, if_true, and_self]
    | false =>
      have h1 : ∀ id, id ∈ idsOf H 12 v → AgR H H1 id := fun id hi => h id (.inl (by simpa using hi))
      simp only [sepArgs, sepRd, a, c, Bool.false_eq_true, if_false, frzOr_ag h1, (frz_ag 12 v h1).2, and_self]

mutual
theorem reach_ag {H H1 : Heap} : ∀ (n : Nat) (v : AV), (∀ id, id ∈ reach H n v → H1 id = H id) → reach H1 n v = reach H n v
  | 0, v, _ => by cases v <;> simp [reach]
  | n + 1, .agg cs, h => by simp only [reach] at h ⊢; exact reachs_ag n cs h
  | n + 1, .fn _ cs, h => by simp only [reach] at h ⊢; exact reachs_ag n cs h
  | n + 1, .ref o _ _ _ _, h => by
    simp only [reach, List.mem_cons] at h ⊢
    rw [h o (.inl rfl)]
    cases ho : H o with
    | none => rfl
    | some b => simp only []; rw [reachs_ag n b.es (fun id hi => h id (.inr (by simpa only [ho] using hi)))]
  | n + 1, .ptr o _ _ _ _, h => by
    simp only [reach, List.mem_cons] at h ⊢
    rw [h o (.inl rfl)]
    cases ho : H o with
    | none => rfl
    | some b => simp only []; rw [reachs_ag n b.es (fun id hi => h id (.inr (by simpa only [ho] using hi)))]
  | n + 1, .c _, _ => by simp [reach]
  | n + 1, .nils, _ => by simp [reach]
  | n + 1, .tup _, _ => by simp [reach]
  | n + 1, .tptr _ _, _ => by simp [reach]
  | n + 1, .undef, _ => by simp [reach]
theorem reachs_ag {H H1 : Heap} : ∀ (n : Nat) (l : List AV), (∀ id, id ∈ reachs H n l → H1 id = H id) → reachs H1 n l = reachs H n l
  | _, [], _ => by simp [reachs]
  | n, x :: r, h => by
    simp only [reachs, List.mem_append] at h ⊢
    rw [reach_ag n x (fun id hi => h id (.inl hi)), reachs_ag n r (fun id hi => h id (.inr hi))]
end

theorem restr_ag {H H1 : Heap} {S : List Id} (h : ∀ id, id ∈ S → H1 id = H id) : restr H1 S = restr H S := by
  funext o; unfold restr; split
  · exact h o ‹_›
  · rfl

section
variable {T : Tab} {R : Run} {d : Nat} {dst : Option Nat} {E : AEnv} {H H' H1 : Heap} {nx nx' nx1 : Nat} {k : AOp} {v : AV}

theorem pure_op (hk : kindA k = 0) (he : operV T R d dst E H nx k = some (v, H', nx')) : (H' = H ∧ nx' = nx) ∧ ∀ (H1 : Heap) (nx1 : Nat), operV T R d dst E H1 nx1 k = some (v, H1, nx1) := by
  cases k
  all_goals first | (exfalso; simp [kindA] at hk; done) | skip
  all_goals simp only [operV] at he ⊢
  all_goals repeat' split at he
  all_goals first | (cases he; done) | skip
  all_goals (simp only [Option.some.injEq, Prod.mk.injEq] at he; obtain ⟨rfl, rfl, rfl⟩ := he; refine ⟨⟨rfl, rfl⟩, fun _ _ => ?_⟩)
  all_goals simp_all

theorem call_frame {f : Nat} {vs : List AV} (he : callOp T R d f vs H nx = some (v, H', nx')) (hm : (footCall T f vs H nx).wall = false) (ha : AgF (footCall T f vs H nx) H H1 nx nx1) :
    footCall T f vs H1 nx1 = footCall T f vs H nx ∧ ∃ H1' nx1', callOp T R d f vs H1 nx1 = some (v, H1', nx1') ∧ Fr (footCall T f vs H nx) H H' H1 H1' nx nx' nx1 nx1' := by
  unfold footCall callOp at *
  split at he
  · rename_i hmo; rw [hmo] at hm; cases hm
  · rename_i keep hmo
    simp only [hmo] at hm ha ⊢
    have hnx : nx1 = nx := ha.nxE rfl
    subst hnx
    obtain ⟨e1, e2⟩ := sepArgs_ag (H := H) (H1 := H1) keep vs (fun id hi => ha.rd id (by simp [hi]))
    generalize hvs : sepArgs H keep vs = vs' at *
    have e3 : reachs H1 12 vs' = reachs H 12 vs' := reachs_ag 12 vs' (fun id hi => ha.wr id hi)
    generalize hS : reachs H 12 vs' = S at *
    have e4 : restr H1 S = restr H S := restr_ag ha.wr
    have hfr : ∀ id, isFresh nx1 id = true → H1 id = H id := fun id hi => ha.fr id (by simp [oldId, hi])
    have e5 : ∀ o, region H1 S nx1 o ↔ region H S nx1 o := by
      intro o
      unfold region
      refine or_congr Iff.rfl (and_congr_right fun hf => ?_)
      rw [hfr o hf]
    have e5' : region H1 S nx1 = region H S nx1 := funext fun o => propext (e5 o)
    have e6 : ∀ Hc, inK H1 Hc S nx1 = inK H Hc S nx1 := fun Hc => by funext o; unfold inK; rw [e5']
    have e7 : sepPre H1 keep vs ↔ sepPre H keep vs := by
      unfold sepPre
      rw [e1, hvs, e3, hS, e2]
      refine and_congr Iff.rfl (forall_congr' fun o => ?_)
      refine ⟨fun q ho => ?_, fun q ho => ?_⟩
      · rw [← ha.wr o ho]; exact q ho
      · rw [ha.wr o ho]; exact q ho
    have e8 : ∀ Hc rs, sepPost H1 Hc S nx1 rs ↔ sepPost H Hc S nx1 rs := fun Hc rs => by unfold sepPost; rw [e6, e5']
    rw [e1, e2, e3]
    refine ⟨rfl, ?_⟩
    split at he
    · rename_i hp
      split at he
      · rename_i rs Hc nx2 hb
        split at he
        · rename_i hq
          obtain ⟨rfl, rfl, rfl⟩ := so3 he
          refine ⟨over H1 Hc S nx1, nx2, ?_, ?_⟩
          · rw [if_pos (e7.2 hp), e4, hb]
            simp only []
            rw [if_pos ((e8 _ _).2 hq)]
          · refine ⟨?_, ?_, ?_, ?_, by simp, by simp⟩
            · intro id hi
              have hi : id ∈ S ∨ isFresh nx1 id = true := by simpa [oldId] using hi
              unfold over
              rw [e5', e6]
              have : H1 id = H id := hi.elim (ha.wr id) (hfr id)
              rw [this]
            · intro id h1 _ h2
              have h2 : isFresh nx1 id = false := by simpa [oldId] using h2
              unfold over
              rw [if_neg]
              rintro (h | h)
              · exact h1 h
              · rw [h2] at h; cases h.1
            · intro id h1 _ h2
              have h2 : isFresh nx1 id = false := by simpa [oldId] using h2
              unfold over
              rw [if_neg]
              rintro (h | h)
              · exact h1 h
              · rw [h2] at h; cases h.1
            · intro id h1 h2
              have h2 : isFresh nx1 id = false := by simpa [oldId] using h2
              refine .of_eq ?_
              unfold over
              rw [if_neg]
              rintro (h | h)
              · exact h1 h
              · rw [h2] at h; cases h.1
        · cases he
      · cases he
    · cases he
  · rename_i hmo
    simp only [hmo] at hm ha ⊢
    cases hf : frzs H 12 vs with
    | some ts =>
      simp only [hf] at he ha ⊢
      obtain ⟨h1, h2⟩ := frzs_ag 12 vs ha.rd
      rw [h1, h2, hf]
      refine ⟨rfl, ?_⟩
      split at he
      · rename_i us hus
        split at he
        · rename_i hs
          obtain ⟨rfl, rfl, rfl⟩ := so3 he
          exact ⟨H1, nx1, by simp only [hus]; rw [if_pos hs], Fr.refl ha⟩
        · cases he
      · cases he
    | none =>
      simp only [hf] at he ha ⊢
      have h1 := ha.all rfl
      have h2 := ha.nxE rfl
      subst h1; subst h2
      rw [hf]
      refine ⟨rfl, H', nx', he, ?_⟩
      split at he
      · split at he
        · split at he
          · obtain ⟨rfl, rfl, rfl⟩ := so3 he
            exact Fr.refl ha
          · cases he
        · cases he
      · cases he

/-- What an operation does on another heap that is alike where its footprint is. -/
theorem oper_frame (he : operV T R d dst E H nx k = some (v, H', nx')) (hm : (foot T d dst E H nx k).wall = false) (ha : AgF (foot T d dst E H nx k) H H1 nx nx1) :
    foot T d dst E H1 nx1 k = foot T d dst E H nx k ∧ ∃ H1' nx1', operV T R d dst E H1 nx1 k = some (v, H1', nx1') ∧ Fr (foot T d dst E H nx k) H H' H1 H1' nx nx' nx1 nx1' := by
  by_cases hk : kindA k = 0
  · obtain ⟨⟨rfl, rfl⟩, h2⟩ := pure_op hk he
    have hf : ∀ (H : Heap) (nx : Nat), foot T d dst E H nx k = F0 := by
      intro H nx
      cases k <;> first | rfl | (exfalso; simp [kindA] at hk)
    exact ⟨by rw [hf, hf], H1, nx1, h2 _ _, Fr.refl ha⟩
  cases k
  all_goals first | (exfalso; simp [kindA] at hk; done) | skip
  case load ag n a =>
    simp only [operV, foot] at *
    rw [loadV_ag ha.rd]
    split at he
    · obtain ⟨rfl, rfl, rfl⟩ := so3 he
      rename_i u hu
      exact ⟨trivial, _, _, rfl, Fr.refl ha⟩
    · cases he
  case b2s x =>
    simp only [operV, foot] at *
    rw [elems_ag ha.rd]
    split at he
    · split at he
      · rename_i es hes b hb
        obtain ⟨rfl, rfl, rfl⟩ := so3 he
        exact ⟨trivial, H1, nx1, by simp_all only, Fr.refl ha⟩
      · cases he
    · cases he
  case slice sz x a b c =>
    simp only [operV, foot] at *
    split at he
    · rename_i l h m el eh em
      split at he
      · rename_i u hu
        split at he
        · rename_i hc
          obtain ⟨rfl, rfl, rfl⟩ := so3 he
          refine ⟨trivial, H1, nx1, ?_, Fr.refl ha⟩
          rw [sliceV_ag ha.rd]
          simp only [hu]
          rw [sliceV_szOk hu ha.rd]
          rw [if_pos hc]
        · cases he
      · cases he
    · cases he
  case iaddr sz x i =>
    simp only [operV, foot] at *
    split at he
    · rename_i j hj
      split at he
      · rename_i h0
        split at he
        · rename_i hx
          split at he
          · split at he
            · rename_i u hu hs
              obtain ⟨rfl, rfl, rfl⟩ := so3 he
              exact ⟨trivial, H1, nx1, by simp only [h0, if_true, hu, hs], Fr.refl ha⟩
            · cases he
          · cases he
        · rename_i p g n off len hx
          have hag := ha.rd p (by rw [hx]; simp [vIds])
          split at he
          · rename_i ob hob
            split at he
            · rename_i hc
              obtain ⟨rfl, rfl, rfl⟩ := so3 he
              refine ⟨trivial, H1, nx1, ?_, Fr.refl ha⟩
              rcases hag with ⟨a, b⟩ | ⟨b, b1, h1, h2, h3, h4, h5⟩
              · rw [a] at hob; cases hob
              · rw [h1] at hob; cases hob
                simp only [h0, if_true, h2, h3, h4, h5]
                rw [if_pos hc]
            · cases he
          · cases he
        · cases he
      · cases he
    · cases he
  case alloc z =>
    simp only [operV, foot] at *
    split at he
    · rename_i t
      split at he
      · rename_i hs
        obtain ⟨rfl, rfl, rfl⟩ := so3 he
        have h1 := ha.wr (.st d t) (by simp)
        refine ⟨trivial, _, nx1, by rw [if_pos hs, genAt_eq h1], Fr.upd ha (by simp) rfl (by simp) (by simp)⟩
      · cases he
    · cases he
  case box x =>
    simp only [operV, foot] at *
    split at he
    · rename_i t
      split at he
      · rename_i hs
        obtain ⟨rfl, rfl, rfl⟩ := so3 he
        have h1 := ha.wr (.st d t) (by simp)
        refine ⟨trivial, _, nx1, by rw [if_pos hs, genAt_eq h1], Fr.upd ha (by simp) rfl (by simp) (by simp)⟩
      · cases he
    · cases he
  case bslice sz l =>
    simp only [operV, foot] at *
    split at he
    · rename_i t
      split at he
      · rename_i hs
        obtain ⟨rfl, rfl, rfl⟩ := so3 he
        have h1 := ha.wr (.st d t) (by simp)
        refine ⟨trivial, _, nx1, by rw [if_pos hs, genAt_eq h1], Fr.upd ha (by simp) rfl (by simp) (by simp)⟩
      · cases he
    · cases he
  case bsliceD sz l =>
    simp only [operV, foot] at *
    split at he
    · rename_i hs
      obtain ⟨rfl, rfl, rfl⟩ := so3 he
      have h2 := ha.nxE rfl
      subst h2
      have h1 := ha.wr (.dy nx1) (by simp)
      refine ⟨rfl, _, nx1 + 1, by rw [if_pos hs, genAt_eq h1], Fr.upd ha (by simp) rfl (by simp) (by simp)⟩
    · cases he
  case s2b x =>
    simp only [operV, foot] at *
    split at he
    · split at he
      · rename_i hs
        obtain ⟨rfl, rfl, rfl⟩ := so3 he
        have h2 := ha.nxE rfl
        subst h2
        have h1 := ha.wr (.dy nx1) (by simp)
        refine ⟨rfl, _, nx1 + 1, by rw [if_pos hs, genAt_eq h1], Fr.upd ha (by simp) rfl (by simp) (by simp)⟩
      · cases he
    · cases he
  case mksl sz z n =>
    simp only [operV, foot] at *
    split at he
    · split at he
      · rename_i hs
        obtain ⟨rfl, rfl, rfl⟩ := so3 he
        have h2 := ha.nxE rfl
        subst h2
        have h1 := ha.wr (.dy nx1) (by simp)
        refine ⟨rfl, _, nx1 + 1, by rw [if_pos hs, genAt_eq h1], Fr.upd ha (by simp) rfl (by simp) (by simp)⟩
      · cases he
    · cases he
  case store n a x =>
    simp only [operV, foot] at *
    split at he
    · rename_i H2 hst
      obtain ⟨rfl, rfl, rfl⟩ := so3 he
      unfold storeV at hst
      split at hst
      · rename_i o g m i off hx
        have h1 := ha.wr o (by rw [hx]; simp [vIds])
        split at hst
        · rename_i b hb
          split at hst
          · rename_i hc
            split at hst
            · rename_i old hold
              split at hst
              · rename_i new hnew
                obtain rfl := Option.some.inj hst
                refine ⟨trivial, hupd H1 o { b with es := b.es.set i new }, nx1, ?_, Fr.upd ha (by rw [hx]; simp [vIds]) rfl (by simp) (by simp)⟩
                rw [hx]
                simp only [storeV, h1, hb]
                rw [if_pos hc]
                simp only [hold, hnew]
              · cases hst
            · cases hst
          · cases hst
        · cases hst
      · cases hst
    · cases he
  case clear z x =>
    simp only [operV, foot] at *
    split at he
    · rename_i o g n off len hx
      have h1 := ha.wr o (by rw [hx]; simp [vIds])
      split at he
      · rename_i b hb
        split at he
        · rename_i hc
          obtain ⟨rfl, rfl, rfl⟩ := so3 he
          refine ⟨trivial, _, nx1, by simp only [h1, hb]; rw [if_pos hc], Fr.upd ha (by rw [hx]; simp [vIds]) rfl (by simp) (by simp)⟩
        · cases he
      · cases he
    · obtain ⟨rfl, rfl, rfl⟩ := so3 he
      exact ⟨trivial, _, _, rfl, Fr.refl ha⟩
    · cases he
  case copy sz x y =>
    simp only [operV, foot] at *
    rw [srcE_ag ha.rd]
    split at he
    · rename_i new o g n off len hnew hx
      have h1 := ha.wr o (by rw [hx]; simp [vIds])
      split at he
      · rename_i b hb
        split at he
        · rename_i hc
          obtain ⟨rfl, rfl, rfl⟩ := so3 he
          refine ⟨trivial, _, nx1, by simp only [hnew, hx, h1, hb]; rw [if_pos hc], Fr.upd ha (by rw [hx]; simp [vIds]) rfl (by simp) (by simp)⟩
        · cases he
      · cases he
    · cases he
  case append sz x y =>
    have h2 : nx1 = nx := ha.nxE rfl
    subst h2
    simp only [operV, foot] at *
    rw [srcE_ag ha.rd]
    split at he
    · rename_i new hnew
      split at he
      · rename_i hf
        split at he
        · rename_i hx
          have h1 := ha.wr (.dy nx1) (by simp [hx])
          split at he
          · rename_i hn
            obtain ⟨rfl, rfl, rfl⟩ := so3 he
            exact ⟨trivial, H1, nx1, by simp only [hnew, hx, hf, if_true]; rw [if_pos hn], Fr.refl ha⟩
          · rename_i hn
            split at he
            · rename_i hb
              obtain ⟨rfl, rfl, rfl⟩ := so3 he
              exact ⟨trivial, _, nx1 + 1, by simp only [hnew, hx, hf, if_true]; rw [if_neg hn, if_pos hb, genAt_eq h1], Fr.upd ha (by simp [hx]) rfl (by simp) (by simp)⟩
            · cases he
        · rename_i o g n off len hx
          have h1 := ha.wr o (by rw [hx]; simp [vIds])
          split at he
          · rename_i b hb
            split at he
            · rename_i hc
              split at he
              · rename_i hn
                obtain ⟨rfl, rfl, rfl⟩ := so3 he
                exact ⟨trivial, H1, nx1, by simp only [hnew, hx, hf, if_true, h1, hb]; rw [if_pos hc, if_pos hn], Fr.refl ha⟩
              · rename_i hn
                split at he
                · rename_i hr
                  obtain ⟨rfl, rfl, rfl⟩ := so3 he
                  exact ⟨trivial, _, nx1, by simp only [hnew, hx, hf, if_true, h1, hb]; rw [if_pos hc, if_neg hn, if_pos hr], Fr.upd ha (by rw [hx]; simp [vIds]) rfl (by simp) (by simp)⟩
                · rename_i hr
                  split at he
                  · rename_i hg
                    obtain ⟨rfl, rfl, rfl⟩ := so3 he
                    exact ⟨trivial, _, nx1, by simp only [hnew, hx, hf, if_true, h1, hb]; rw [if_pos hc, if_neg hn, if_neg hr, if_pos hg], Fr.upd ha (by rw [hx]; simp [vIds]) rfl (by simp) (by simp)⟩
                  · cases he
            · cases he
          · cases he
        · cases he
      · cases he
    · cases he
  case call f args =>
    simp only [operV, foot] at *
    exact call_frame he hm ha
  case callv f args =>
    simp only [operV, foot] at *
    split at he
    · rename_i g caps hg
      simp only [hg] at hm ha ⊢
      exact call_frame he hm ha
    · cases he
end
end Go.Am

/- Two operations of the small machine that change places. -/
namespace Go.Am
set_option linter.unusedSimpArgs false
set_option linter.unusedVariables false

section
variable {T : Tab} {R : Run} {d : Nat} {dst : Option Nat} {E E' : AEnv} {H H' H1 : Heap} {nx nx' nx1 : Nat} {k : AOp} {v : AV}

theorem ev_congr {x : Opd} (h : ∀ t, t ∈ x.tmps → E' t = E t) : ev E' x = ev E x := by
  cases x with
  | t n => exact h n (by simp [Opd.tmps])
  | k v => rfl
theorem evs_congr {l : List Opd} (h : ∀ t, t ∈ l.flatMap Opd.tmps → E' t = E t) : l.map (ev E') = l.map (ev E) := by
  refine List.map_congr_left fun x hx => ev_congr fun t ht => h t ?_
  exact List.mem_flatMap.2 ⟨x, hx, ht⟩
theorem optI_congr {x : Option Opd} (h : ∀ t, t ∈ oTmps x → E' t = E t) : optI E' x = optI E x := by
  cases x with
  | none => rfl
  | some y => simp only [optI, ev_congr (x := y) h]

theorem operV_congr (h : ∀ t, t ∈ looks k → E' t = E t) : operV T R d dst E' H nx k = operV T R d dst E H nx k := by
  cases k
  case build z ps =>
    have : (ps.map fun p => (p.1, p.2.1, ev E' p.2.2)) = (ps.map fun p => (p.1, p.2.1, ev E p.2.2)) := by
      refine List.map_congr_left fun p hp => ?_
      rw [ev_congr (x := p.2.2) fun t ht => h t (List.mem_flatMap.2 ⟨p, hp, ht⟩)]
    simp only [operV, this]
  case slice sz x a b c =>
    simp only [looks, List.mem_append] at h
    have h1 := ev_congr (E := E) (E' := E') (x := x) fun t ht => h t (.inl ht)
    have h2 := optI_congr (E := E) (E' := E') (x := a) fun t ht => h t (.inr (.inl ht))
    have h3 := optI_congr (E := E) (E' := E') (x := b) fun t ht => h t (.inr (.inr (.inl ht)))
    have h4 := optI_congr (E := E) (E' := E') (x := c) fun t ht => h t (.inr (.inr (.inr ht)))
    simp only [operV, h1, h2, h3, h4]
  case pick x a b =>
    simp only [looks, List.mem_append] at h
    have h1 := ev_congr (E := E) (E' := E') (x := x) fun t ht => h t (.inl ht)
    have h2 := ev_congr (E := E) (E' := E') (x := a) fun t ht => h t (.inr (.inl ht))
    have h3 := ev_congr (E := E) (E' := E') (x := b) fun t ht => h t (.inr (.inr ht))
    simp only [operV, h1, h2, h3]
  case callv f l =>
    simp only [looks, List.mem_append] at h
    have h1 := ev_congr (E := E) (E' := E') (x := f) fun t ht => h t (.inl ht)
    have h2 := evs_congr (E := E) (E' := E') (l := l) fun t ht => h t (.inr ht)
    simp only [operV, h1, h2]
  case alloc z => rfl
  case bslice sz l => simp only [operV, evs_congr (E := E) (E' := E') (l := l) h]
  case bsliceD sz l => simp only [operV, evs_congr (E := E) (E' := E') (l := l) h]
  case mkfn f l => simp only [operV, evs_congr (E := E) (E' := E') (l := l) h]
  case minmax m l => simp only [operV, evs_congr (E := E) (E' := E') (l := l) h]
  case call f l => simp only [operV, evs_congr (E := E) (E' := E') (l := l) h]
  case store | bin | binB | binS | iaddr | index | append | copy =>
    rename_i x y
    simp only [looks, List.mem_append] at h
    have h1 := ev_congr (E := E) (E' := E') (x := x) fun t ht => h t (.inl ht)
    have h2 := ev_congr (E := E) (E' := E') (x := y) fun t ht => h t (.inr ht)
    simp only [operV, h1, h2]
  all_goals simp only [operV, ev_congr (E := E) (E' := E') h]

theorem foot_congr (h : ∀ t, t ∈ looks k → E' t = E t) : foot T d dst E' H nx k = foot T d dst E H nx k := by
  cases k
  case slice sz x a b c =>
    simp only [looks, List.mem_append] at h
    have h1 := ev_congr (E := E) (E' := E') (x := x) fun t ht => h t (.inl ht)
    simp only [foot, h1]
  case callv f l =>
    simp only [looks, List.mem_append] at h
    have h1 := ev_congr (E := E) (E' := E') (x := f) fun t ht => h t (.inl ht)
    have h2 := evs_congr (E := E) (E' := E') (l := l) fun t ht => h t (.inr ht)
    simp only [foot, h1, h2]
  case call f l => simp only [foot, evs_congr (E := E) (E' := E') (l := l) h]
  case store | iaddr | append | copy =>
    rename_i x y
    simp only [looks, List.mem_append] at h
    have h1 := ev_congr (E := E) (E' := E') (x := x) fun t ht => h t (.inl ht)
    have h2 := ev_congr (E := E) (E' := E') (x := y) fun t ht => h t (.inr ht)
    simp only [foot, h1, h2]
  case load n a x => simp only [foot, ev_congr (E := E) (E' := E') (x := x) h]
  case b2s x => simp only [foot, ev_congr (E := E) (E' := E') (x := x) h]
  case clear z x => simp only [foot, ev_congr (E := E) (E' := E') (x := x) h]
  all_goals rfl
end

theorem upd_other {E : AEnv} {dst : Option Nat} {v : AV} {t : Nat} (h : ∀ d, dst = some d → d ≠ t) : updO E dst v t = E t := by
  cases dst with
  | none => rfl
  | some d => simp only [updO, upd]; rw [if_neg (fun e => h d rfl e.symm)]

theorem updO_comm {E : AEnv} {x y : Option Nat} {u v : AV} (h : ∀ a b, x = some a → y = some b → a ≠ b) : updO (updO E x u) y v = updO (updO E y v) x u := by
  cases x with
  | none => rfl
  | some a =>
    cases y with
    | none => rfl
    | some b =>
      have := h a b rfl rfl
      funext t
      simp only [updO, upd]
      split
      · rename_i e; subst e; rw [if_neg (fun e => this e.symm)]
      · rfl

theorem apart_spec {x y : AOper} (h : apartA x y = true) : (∀ d, x.dst = some d → d ∉ looksO y) ∧ (∀ d, y.dst = some d → d ∉ looksO x) ∧ (∀ a b, x.dst = some a → y.dst = some b → a ≠ b) := by
  unfold apartA at h
  simp only [Bool.and_eq_true] at h
  obtain ⟨h1, h2, h3⟩ := h
  refine ⟨fun d hd => ?_, fun d hd => ?_, fun a b ha hb => ?_⟩
  · rw [hd] at h1; simpa using h1
  · rw [hd] at h2; simpa using h2
  · rw [ha, hb] at h3; simpa using h3

section
variable {T : Tab} {R : Run} {d : Nat}

/-- What an operation does hangs on what it looks at. -/
theorem wantedA_congr {E E' : AEnv} {o : AOper} (h : ∀ t, t ∈ looksO o → E' t = E t) : wantedA E' o.guard = wantedA E o.guard := by
  unfold wantedA
  cases hg : o.guard with
  | none => rfl
  | some p =>
    obtain ⟨t, want⟩ := p
    have := h t (by unfold looksO; rw [hg]; simp)
    simp only [this]

theorem disj_spec {a b : List Id} (h : disj a b = true) {x : Id} (hx : x ∈ a) (hy : x ∈ b) : False := by
  unfold disj at h
  rw [List.all_eq_true] at h
  have h1 := h x hx
  rw [List.all_eq_true] at h1
  simpa using h1 x hy

structure Indep (F G : Foot) : Prop where
  fw : F.wall = false
  gw : G.wall = false
  fa : F.all = true → G.wr = [] ∧ G.lk = []
  ga : G.all = true → F.wr = [] ∧ F.lk = []
  d1 : ∀ x, x ∈ F.wr → x ∈ G.rd → False
  d2 : ∀ x, x ∈ F.wr → x ∈ G.wr → False
  d3 : ∀ x, x ∈ F.wr → x ∈ G.lk → False
  d4 : ∀ x, x ∈ G.wr → x ∈ F.rd → False
  d5 : ∀ x, x ∈ G.wr → x ∈ F.lk → False
  d6 : ∀ x, x ∈ F.lk → x ∈ G.lk → False
  nn : F.nx = true → G.nx = true → False
  fo : ∀ x, x ∈ G.rd ∨ x ∈ G.wr ∨ x ∈ G.lk → oldId F.fr x = true
  go : ∀ x, x ∈ F.rd ∨ x ∈ F.wr ∨ x ∈ F.lk → oldId G.fr x = true
  one : F.fr = none ∨ G.fr = none
  af : F.all = true → G.fr = none
  ag : G.all = true → F.fr = none

theorem indep_spec {F G : Foot} (h : indep F G = true) : Indep F G := by
  unfold indep at h
  simp only [Bool.and_eq_true, Bool.not_eq_true', Bool.or_eq_true, List.isEmpty_iff, List.all_eq_true, List.mem_append, Option.isNone_iff_eq_none] at h
  obtain ⟨⟨⟨⟨⟨k1, k2⟩, k3⟩, k4⟩, k5⟩, ⟨⟨⟨⟨⟨⟨⟨h1, h2⟩, h3⟩, h4⟩, h5⟩, h6⟩, h7⟩, h8⟩⟩ := h
  refine ⟨h1, h2, fun e => by rw [e] at h3; simpa using h3, fun e => by rw [e] at h4; simpa using h4,
    fun x a b => disj_spec h5 a (by simp [b]), fun x a b => disj_spec h5 a (by simp [b]), fun x a b => disj_spec h5 a (by simp [b]),
    fun x a b => disj_spec h6 a (by simp [b]), fun x a b => disj_spec h6 a (by simp [b]), fun x a b => disj_spec h7 a b, fun a b => (by rw [a, b] at h8; cases h8), k1, k2, k3, fun e => (by rw [e] at k4; simpa using k4), fun e => (by rw [e] at k5; simpa using k5)⟩

theorem Indep.none_left {G : Foot} (h : G.wall = false) (hg : G.fr = none) : Indep F0 G :=
  ⟨rfl, h, fun e => (by cases e), fun _ => ⟨rfl, rfl⟩, fun _ h => (by cases h), fun _ h => (by cases h), fun _ h => (by cases h), fun _ _ h => (by cases h), fun _ _ h => (by cases h), fun _ h => (by cases h), fun e => (by cases e), fun _ _ => rfl, fun x h => (by rcases h with h | h | h <;> cases h), .inl rfl, fun e => (by cases e), fun _ => rfl⟩

/-- Two operations on their values change places. -/
theorem swap_vals {d1 d2 : Option Nat} {E1 E2 : AEnv} {k1 k2 : AOp} {H H1 H2 : Heap} {n n1 n2 : Nat} {v1 v2 : AV}
    (h1 : operV T R d d1 E1 H n k1 = some (v1, H1, n1)) (h2 : operV T R d d2 E2 H1 n1 k2 = some (v2, H2, n2)) (hi : Indep (foot T d d1 E1 H n k1) (foot T d d2 E2 H1 n1 k2)) :
    ∃ H3 n3, operV T R d d2 E2 H n k2 = some (v2, H3, n3) ∧ operV T R d d1 E1 H3 n3 k1 = some (v1, H2, n2) ∧ foot T d d2 E2 H n k2 = foot T d d2 E2 H1 n1 k2 ∧ foot T d d1 E1 H3 n3 k1 = foot T d d1 E1 H n k1 := by
  -- the first, on its own heap
  obtain ⟨_, Ha, na, e1, f1⟩ := oper_frame (H1 := H) (nx1 := n) h1 hi.fw ⟨fun _ _ => .of_eq rfl, fun _ _ => rfl, fun _ _ => rfl, fun _ _ => rfl, fun _ => rfl, fun _ => rfl⟩
  generalize hF : foot T d d1 E1 H n k1 = F at *
  generalize hG : foot T d d2 E2 H1 n1 k2 = G at *
  have oldF : F.fr = none → ∀ id, oldId F.fr id = true := fun e id => by rw [e]; rfl
  have oldG : G.fr = none → ∀ id, oldId G.fr id = true := fun e id => by rw [e]; rfl
  have agG : AgF G H1 H n1 n := by
    refine ⟨fun id hid => ?_, fun id hid => ?_, fun id hid => ?_, fun id hid => ?_, fun e => ?_, fun e => ?_⟩
    · exact (f1.lock id (fun c => hi.d1 id c hid) (hi.fo id (.inl hid))).symm
    · exact (f1.out id (fun c => hi.d2 id c hid) (fun c => hi.d5 id hid c) (hi.fo id (.inr (.inl hid)))).symm
    · exact (f1.out id (fun c => hi.d3 id c hid) (fun c => hi.d6 id c hid) (hi.fo id (.inr (.inr hid)))).symm
    · have hf : F.fr = none := by
        rcases hi.one with h | h
        · exact h
        · rw [oldG h] at hid; cases hid
      refine (f1.out id (fun c => ?_) (fun c => ?_) (oldF hf id)).symm
      · rw [hi.go id (.inr (.inl c))] at hid; cases hid
      · rw [hi.go id (.inr (.inr c))] at hid; cases hid
    · obtain ⟨a, b⟩ := hi.ga e
      funext id
      exact (f1.out id (by rw [a]; simp) (by rw [b]; simp) (oldF (hi.ag e) id)).symm
    · have : F.nx = false := by
        cases hx : F.nx
        · rfl
        · exact (hi.nn hx e).elim
      exact (f1.nx0 this).1.symm
  rw [← hG] at agG
  obtain ⟨e2, H3, n3, e3, f2⟩ := oper_frame h2 (by rw [hG]; exact hi.gw) agG
  rw [hG] at e2 f2 agG
  have agF : AgF F H H3 n n3 := by
    refine ⟨fun id hid => ?_, fun id hid => ?_, fun id hid => ?_, fun id hid => ?_, fun e => ?_, fun e => ?_⟩
    · by_cases hl : id ∈ G.lk
      · -- locked by the second
        have h5 : AgR H1 H2 id := f2.lock id (fun c => hi.d4 id c hid) (hi.go id (.inl hid))
        have h6 : H3 id = H2 id := f2.same id (.inr (.inl hl))
        have h7 : AgR H H1 id := by
          by_cases hw : id ∈ F.wr
          · exact (hi.d3 id hw hl).elim
          · exact f1.lock id hw (hi.fo id (.inr (.inr hl)))
        exact (h7.trans h5).trans (.of_eq h6)
      · exact .of_eq (f2.out1 id (fun c => hi.d4 id c hid) hl (hi.go id (.inl hid)))
    · exact f2.out1 id (fun c => hi.d2 id hid c) (fun c => hi.d3 id hid c) (hi.go id (.inr (.inl hid)))
    · exact f2.out1 id (fun c => hi.d5 id c hid) (fun c => hi.d6 id hid c) (hi.go id (.inr (.inr hid)))
    · have hg : G.fr = none := by
        rcases hi.one with h | h
        · rw [oldF h] at hid; cases hid
        · exact h
      refine f2.out1 id (fun c => ?_) (fun c => ?_) (oldG hg id)
      · rw [hi.fo id (.inr (.inl c))] at hid; cases hid
      · rw [hi.fo id (.inr (.inr c))] at hid; cases hid
    · obtain ⟨a, b⟩ := hi.fa e
      funext id
      exact f2.out1 id (by rw [a]; simp) (by rw [b]; simp) (oldG (hi.af e) id)
    · have : G.nx = false := by
        cases hx : G.nx
        · rfl
        · exact (hi.nn e hx).elim
      exact (f2.nx0 this).2
  rw [← hF] at agF
  obtain ⟨e4, H4, n4, e5, f3⟩ := oper_frame h1 (by rw [hF]; exact hi.fw) agF
  rw [hF] at e4 f3
  refine ⟨H3, n3, e3, ?_, e2, e4⟩
  have hH : H4 = H2 := by
    funext id
    by_cases hf : id ∈ F.wr ∨ id ∈ F.lk ∨ oldId F.fr id = false
    · rw [f3.same id hf]
      refine (f2.out id (fun c => ?_) (fun c => ?_) ?_).symm
      · rcases hf with q | q | q
        · exact hi.d2 id q c
        · exact hi.d5 id c q
        · rw [hi.fo id (.inr (.inl c))] at q; cases q
      · rcases hf with q | q | q
        · exact hi.d3 id q c
        · exact hi.d6 id q c
        · rw [hi.fo id (.inr (.inr c))] at q; cases q
      · rcases hf with q | q | q
        · exact hi.go id (.inr (.inl q))
        · exact hi.go id (.inr (.inr q))
        · rcases hi.one with h | h
          · rw [oldF h] at q; cases q
          · exact oldG h id
    · have a1 : id ∉ F.wr := fun c => hf (.inl c)
      have a2 : id ∉ F.lk := fun c => hf (.inr (.inl c))
      have a3 : oldId F.fr id = true := by
        cases hx : oldId F.fr id
        · exact (hf (.inr (.inr hx))).elim
        · rfl
      rw [f3.out1 id a1 a2 a3]
      by_cases hg : id ∈ G.wr ∨ id ∈ G.lk ∨ oldId G.fr id = false
      · exact f2.same id hg
      · have b1 : id ∉ G.wr := fun c => hg (.inl c)
        have b2 : id ∉ G.lk := fun c => hg (.inr (.inl c))
        have b3 : oldId G.fr id = true := by
          cases hx : oldId G.fr id
          · exact (hg (.inr (.inr hx))).elim
          · rfl
        rw [f2.out1 id b1 b2 b3, f2.out id b1 b2 b3, f1.out id a1 a2 a3]
  have hN : n4 = n2 := by
    cases hf : F.nx with
    | true =>
      have hg : G.nx = false := by
        cases hx : G.nx
        · rfl
        · exact (hi.nn hf hx).elim
      rw [f3.nxE hf, (f2.nx0 hg).1]
    | false =>
      rw [(f3.nx0 hf).2]
      cases hg : G.nx with
      | true => exact f2.nxE hg
      | false => rw [(f2.nx0 hg).2, (f2.nx0 hg).1, (f3.nx0 hf).1]
  rw [← hH, ← hN]
  exact e5

/-- What touches nothing. -/
theorem still_vals {d1 : Option Nat} {E1 : AEnv} {k1 : AOp} {H H1 : Heap} {n n1 : Nat} {v1 : AV} (h : operV T R d d1 E1 H n k1 = some (v1, H1, n1)) (hf : foot T d d1 E1 H n k1 = F0) :
    H1 = H ∧ n1 = n ∧ ∀ H2 n2, operV T R d d1 E1 H2 n2 k1 = some (v1, H2, n2) ∧ foot T d d1 E1 H2 n2 k1 = F0 := by
  have key : ∀ H2 n2, ∃ Ha na, operV T R d d1 E1 H2 n2 k1 = some (v1, Ha, na) ∧ Fr F0 H H1 H2 Ha n n1 n2 na ∧ foot T d d1 E1 H2 n2 k1 = F0 := by
    intro H2 n2
    obtain ⟨a, Ha, na, b, c⟩ := oper_frame (H1 := H2) (nx1 := n2) h (by rw [hf]) (by rw [hf]; exact ⟨fun _ hx => (by cases hx), fun _ hx => (by cases hx), fun _ hx => (by cases hx), fun _ hx => (by cases hx), fun e => (by cases e), fun e => (by cases e)⟩)
    rw [hf] at a c
    exact ⟨Ha, na, b, c, a⟩
  obtain ⟨Ha, na, _, b, _⟩ := key H n
  refine ⟨funext fun id => b.out id (by simp) (by simp) rfl, (b.nx0 rfl).1, fun H2 n2 => ?_⟩
  obtain ⟨Hb, nb, e, f, g⟩ := key H2 n2
  have h1 : Hb = H2 := funext fun id => f.out1 id (by simp) (by simp) rfl
  have h2 : nb = n2 := (f.nx0 rfl).2
  subst h1; subst h2
  exact ⟨e, g⟩

def Indep2 (F G : Foot) : Prop := F = F0 ∨ G = F0 ∨ Indep F G

theorem swap_vals2 {d1 d2 : Option Nat} {E1 E2 : AEnv} {k1 k2 : AOp} {H H1 H2 : Heap} {n n1 n2 : Nat} {v1 v2 : AV}
    (h1 : operV T R d d1 E1 H n k1 = some (v1, H1, n1)) (h2 : operV T R d d2 E2 H1 n1 k2 = some (v2, H2, n2)) (hi : Indep2 (foot T d d1 E1 H n k1) (foot T d d2 E2 H1 n1 k2)) :
    ∃ H3 n3, operV T R d d2 E2 H n k2 = some (v2, H3, n3) ∧ operV T R d d1 E1 H3 n3 k1 = some (v1, H2, n2) ∧ foot T d d2 E2 H n k2 = foot T d d2 E2 H1 n1 k2 ∧ foot T d d1 E1 H3 n3 k1 = foot T d d1 E1 H n k1 := by
  rcases hi with hi | hi | hi
  · obtain ⟨rfl, rfl, h3⟩ := still_vals h1 hi
    obtain ⟨h4, h5⟩ := h3 H2 n2
    exact ⟨H2, n2, h2, h4, rfl, by rw [h5, hi]⟩
  · obtain ⟨rfl, rfl, h3⟩ := still_vals h2 hi
    obtain ⟨h4, h5⟩ := h3 H n
    exact ⟨H, n, h4, h1, by rw [h5, hi], rfl⟩
  · exact swap_vals h1 h2 hi

theorem indepO {o : AOper} {s : St} (h : wantedA s.E o.guard ≠ some true) : footO T d o s = F0 := by
  unfold footO
  split
  · rename_i e; exact (h e).elim
  · rfl

/-- Two operations change places. -/
theorem swap {x y : AOper} {s s1 s2 : St} (hap : apartA x y = true) (h1 : operF T R d x s = some s1) (h2 : operF T R d y s1 = some s2) (hi : Indep2 (footO T d x s) (footO T d y s1)) :
    ∃ s3, operF T R d y s = some s3 ∧ operF T R d x s3 = some s2 ∧ footO T d y s = footO T d y s1 ∧ footO T d x s3 = footO T d x s := by
  obtain ⟨p1, p2, p3⟩ := apart_spec hap
  have key : ∀ {v : AV} {s' : St}, s'.E = updO s.E x.dst v → (∀ t, t ∈ looksO y → s'.E t = s.E t) := fun e t ht => by
    rw [e]; exact upd_other fun d hd hne => p1 d hd (hne ▸ ht)
  have key2 : ∀ {v : AV} {E : AEnv}, (∀ t, t ∈ looksO x → updO E y.dst v t = E t) := fun t ht =>
    upd_other fun d hd hne => p2 d hd (hne ▸ ht)
  have lk : ∀ {o : AOper} {t : Nat}, t ∈ looks o.op → t ∈ looksO o := fun h => by unfold looksO; exact List.mem_append_right _ h
  unfold operF at h1
  split at h1
  · -- the first is carried out
    rename_i hwx
    split at h1
    · rename_i v1 H1 n1 e1
      obtain rfl := Option.some.inj h1
      have hl : ∀ t, t ∈ looksO y → updO s.E x.dst v1 t = s.E t := fun t ht => upd_other fun d hd hne => p1 d hd (hne ▸ ht)
      have hwy : wantedA (updO s.E x.dst v1) y.guard = wantedA s.E y.guard := wantedA_congr hl
      unfold operF at h2
      simp only [hwy] at h2
      split at h2
      · rename_i hy
        simp only [operV_congr (fun t ht => hl t (lk ht))] at h2
        split at h2
        · rename_i v2 H2 n2 e2
          obtain rfl := Option.some.inj h2
          have fx : footO T d x s = foot T d x.dst s.E s.H s.nx x.op := by unfold footO; rw [hwx]
          have fy : footO T d y ⟨updO s.E x.dst v1, H1, n1⟩ = foot T d y.dst s.E H1 n1 y.op := by
            unfold footO; simp only [hwy, hy]
            exact foot_congr fun t ht => hl t (lk ht)
          rw [fx, fy] at hi
          obtain ⟨H3, n3, g1, g2, g3, g4⟩ := swap_vals2 e1 e2 hi
          refine ⟨⟨updO s.E y.dst v2, H3, n3⟩, ?_, ?_, ?_, ?_⟩
          · unfold operF; rw [hy]; simp only [g1]
          · unfold operF
            simp only [wantedA_congr (o := x) (key2 (v := v2) (E := s.E)), hwx]
            simp only [operV_congr (fun t ht => key2 (v := v2) (E := s.E) t (lk ht)), g2]
            rw [updO_comm (fun a b ha hb => p3 a b ha hb)]
          · rw [fy]; unfold footO; rw [hy]; exact g3
          · rw [fx]; unfold footO
            simp only [wantedA_congr (o := x) (key2 (v := v2) (E := s.E)), hwx]
            rw [foot_congr (fun t ht => key2 (v := v2) (E := s.E) t (lk ht))]
            exact g4
        · cases h2
      · rename_i hy
        obtain rfl := Option.some.inj h2
        refine ⟨⟨updO s.E y.dst (.tup []), s.H, s.nx⟩, ?_, ?_, ?_, ?_⟩
        · unfold operF; rw [hy]
        · unfold operF
          simp only [wantedA_congr (o := x) (key2 (v := .tup []) (E := s.E)), hwx]
          simp only [operV_congr (fun t ht => key2 (v := .tup []) (E := s.E) t (lk ht)), e1]
          rw [updO_comm (fun a b ha hb => p3 a b ha hb)]
        · unfold footO; simp only [hwy, hy]
        · unfold footO
          simp only [wantedA_congr (o := x) (key2 (v := .tup []) (E := s.E)), hwx]
          rw [foot_congr (fun t ht => key2 (v := .tup []) (E := s.E) t (lk ht))]
      · cases h2
    · cases h1
  · rename_i hwx
    obtain rfl := Option.some.inj h1
    have hl : ∀ t, t ∈ looksO y → updO s.E x.dst (.tup []) t = s.E t := fun t ht => upd_other fun d hd hne => p1 d hd (hne ▸ ht)
    have hwy : wantedA (updO s.E x.dst (.tup [])) y.guard = wantedA s.E y.guard := wantedA_congr hl
    unfold operF at h2
    simp only [hwy] at h2
    split at h2
    · rename_i hy
      simp only [operV_congr (fun t ht => hl t (lk ht))] at h2
      split at h2
      · rename_i v2 H2 n2 e2
        obtain rfl := Option.some.inj h2
        refine ⟨⟨updO s.E y.dst v2, H2, n2⟩, ?_, ?_, ?_, ?_⟩
        · unfold operF; rw [hy]; simp only [e2]
        · unfold operF
          simp only [wantedA_congr (o := x) (key2 (v := v2) (E := s.E)), hwx]
          rw [updO_comm (fun a b ha hb => p3 a b ha hb)]
        · unfold footO; simp only [hwy, hy]
          rw [foot_congr (fun t ht => hl t (lk ht))]
        · unfold footO
          simp only [wantedA_congr (o := x) (key2 (v := v2) (E := s.E)), hwx]
      · cases h2
    · rename_i hy
      obtain rfl := Option.some.inj h2
      refine ⟨⟨updO s.E y.dst (.tup []), s.H, s.nx⟩, ?_, ?_, ?_, ?_⟩
      · unfold operF; rw [hy]
      · unfold operF
        simp only [wantedA_congr (o := x) (key2 (v := .tup []) (E := s.E)), hwx]
        rw [updO_comm (fun a b ha hb => p3 a b ha hb)]
      · unfold footO; simp only [hwy, hy]
      · unfold footO
        simp only [wantedA_congr (o := x) (key2 (v := .tup []) (E := s.E)), hwx]
    · cases h2
  · cases h1
end
end Go.Am

/- Operations whose order is left open: whichever comes first, the small machine ends alike. -/
namespace Go.Am
set_option linter.unusedSimpArgs false
set_option linter.unusedVariables false

theorem or_bit {a b i : Nat} : (a ||| b).testBit i = (a.testBit i || b.testBit i) := Nat.testBit_or a b i

theorem ancMask_spec {acc : List Nat} {o : Oper} {i : Nat} (h : (ancMask acc o).testBit i = true) : ∃ e, e ∈ o.after ∧ Region.binds .any e = true ∧ (i = e.on ∨ (acc.getD e.on 0).testBit i = true) := by
  unfold ancMask at h
  have key : ∀ (l : List Edge) (s : Nat), (l.foldl (fun s e => if Region.binds .any e = true then s ||| (2 ^ e.on ||| acc.getD e.on 0) else s) s).testBit i = true →
      s.testBit i = true ∨ ∃ e, e ∈ l ∧ Region.binds .any e = true ∧ (i = e.on ∨ (acc.getD e.on 0).testBit i = true) := by
    intro l
    induction l with
    | nil => intro s h; exact .inl h
    | cons e r ih =>
      intro s h
      rw [List.foldl_cons] at h
      rcases ih _ h with h1 | ⟨e', h1, h2⟩
      · split at h1
        · rename_i hb
          rw [or_bit, or_bit] at h1
          simp only [Bool.or_eq_true] at h1
          rcases h1 with h1 | h1 | h1
          · exact .inl h1
          · refine .inr ⟨e, by simp, hb, .inl ?_⟩
            rw [Nat.testBit_two_pow] at h1
            exact (of_decide_eq_true h1).symm
          · exact .inr ⟨e, by simp, hb, .inr h1⟩
        · exact .inl h1
      · exact .inr ⟨e', by simp [h1], h2⟩
  rcases key _ _ h with h | ⟨e, h1, h2⟩
  · simp at h
  · exact ⟨e, by simpa using h1, h2⟩

theorem ancs_spec : ∀ (ops : List Oper) (acc : List Nat), (ancs acc ops).length = acc.length + ops.length ∧ (∀ j, j < acc.length → (ancs acc ops)[j]? = acc[j]?) ∧
    ∀ j o, ops[j]? = some o → ∃ acc', (∀ q, q < acc.length + j → acc'[q]? = (ancs acc ops)[q]?) ∧ acc'.length = acc.length + j ∧ (ancs acc ops)[acc.length + j]? = some (ancMask acc' o) := by
  intro ops
  induction ops with
  | nil => intro acc; exact ⟨by simp [ancs], fun j _ => rfl, fun j o h => (by simp at h)⟩
  | cons o r ih =>
    intro acc
    obtain ⟨h1, h2, h3⟩ := ih (acc ++ [ancMask acc o])
    simp only [ancs]
    refine ⟨by rw [h1]; simp; omega, fun j hj => ?_, fun j o' h => ?_⟩
    · rw [h2 j (by simp; omega), List.getElem?_append_left hj]
    · cases j with
      | zero =>
        have : o = o' := by simpa using h
        subst this
        refine ⟨acc, fun q hq => ?_, rfl, ?_⟩
        · rw [h2 q (by simp; omega), List.getElem?_append_left (by omega)]
        · rw [Nat.add_zero, h2 _ (by simp)]; simp
      | succ j =>
        obtain ⟨acc', k1, k2, k3⟩ := h3 j o' (by simpa using h)
        simp only [List.length_append, List.length_cons, List.length_nil] at k1 k2 k3
        refine ⟨acc', fun q hq => k1 q (by omega), by omega, ?_⟩
        rw [← k3]; congr 1; omega

theorem anc_step {ops : List Oper} {j i : Nat} {o : Oper} (ho : ops[j]? = some o) (h : ((ancs [] ops).getD j 0).testBit i = true) :
    ∃ e, e ∈ o.after ∧ Region.binds .any e = true ∧ (i = e.on ∨ (e.on < j ∧ ((ancs [] ops).getD e.on 0).testBit i = true)) := by
  obtain ⟨acc', k1, k2, k3⟩ := (ancs_spec ops []).2.2 j o ho
  simp only [List.length_nil, Nat.zero_add] at k1 k2 k3
  rw [List.getD_eq_getElem?_getD, k3] at h
  obtain ⟨e, h1, h2, h3⟩ := ancMask_spec h
  refine ⟨e, h1, h2, h3.imp id fun h3 => ?_⟩
  by_cases hlt : e.on < j
  · refine ⟨hlt, ?_⟩
    rw [List.getD_eq_getElem?_getD, ← k1 _ hlt, ← List.getD_eq_getElem?_getD]; exact h3
  · rw [List.getD_eq_getElem?_getD, List.getElem?_eq_none (by omega)] at h3
    simp at h3

def Closed (ops : Array Oper) (listed : Array Bool) : Prop := ∀ j o, ops[j]? = some o → listed.getD j false = true → ∀ e ∈ o.after, Region.binds .any e = true → listed.getD e.on false = true

theorem anc_listed {ops : Array Oper} {listed : Array Bool} (hc : Closed ops listed) : ∀ (n j : Nat), j < n → ∀ o i, ops[j]? = some o → (∀ e ∈ o.after, Region.binds .any e = true → listed.getD e.on false = true) →
    ((ancs [] ops.toList).getD j 0).testBit i = true → listed.getD i false = true := by
  intro n
  induction n with
  | zero => intro j h; omega
  | succ n ih =>
    intro j hj o i ho hd hb
    obtain ⟨e, h1, h2, h3⟩ := anc_step (by rw [Array.getElem?_toList]; exact ho) hb
    have h4 := hd e h1 h2
    rcases h3 with rfl | ⟨h3, h5⟩
    · exact h4
    · have hlt : e.on < ops.size := by
        have : j < ops.size := (Array.getElem?_eq_some_iff.1 ho).1
        omega
      exact ih e.on (by omega) ops[e.on] i (by simp [hlt]) (hc e.on _ (by simp [hlt]) h4) h5

theorem Closed.set {ops : Array Oper} {listed : Array Bool} {i : Nat} (hc : Closed ops listed) (hr : i ∈ Region.ready .any ops listed) : Closed ops (listed.setIfInBounds i true) := by
  obtain ⟨_, oi, hoi, hall⟩ := mem_ready.1 hr
  intro j o hj hl e he hb
  by_cases hij : i = j
  · subst hij
    have : o = oi := Option.some.inj (hj.symm.trans hoi)
    subst this
    exact getD_set_true (hall e he hb)
  · rw [getD_set_ne false hij] at hl
    exact getD_set_true (hc j o hj hl e he hb)

section
variable (T : Tab) (R : Run) (d : Nat) (ops : Array Oper) (l : List AOper) (F : Nat → Foot)

/-- Whichever order: the same end. -/
def AnyRun : Nat → Array Bool → St → St → Prop
  | 0, listed, s, sf => Region.ready .any ops listed = [] ∧ s = sf
  | n + 1, listed, s, sf => (Region.ready .any ops listed = [] → s = sf) ∧ ∀ i ∈ Region.ready .any ops listed, ∃ o s', l[i]? = some o ∧ footO T d o s = F i ∧ operF T R d o s = some s' ∧ AnyRun n (listed.setIfInBounds i true) s' sf

/-- In the text's order. -/
def LexRun : List AOper → St → List Foot → St → Prop
  | [], s, fs, sf => fs = [] ∧ s = sf
  | o :: r, s, fs, sf => ∃ s' fs', operF T R d o s = some s' ∧ fs = footO T d o s :: fs' ∧ LexRun r s' fs' sf
end

section
variable {T : Tab} {R : Run} {d : Nat} {ops : Array Oper} {l : List AOper} {F : Nat → Foot}

theorem any_first {i : Nat} {x : AOper} (hx : l[i]? = some x) : ∀ (n : Nat) (listed : Array Bool) (s s1 sf : St), Closed ops listed →
    (∀ j y, l[j]? = some y → j ≠ i → listed.getD j true = false → ((ancs [] ops.toList).getD j 0).testBit i = false → apartA x y = true ∧ Indep2 (F i) (F j)) →
    i ∈ Region.ready .any ops listed → footO T d x s = F i → operF T R d x s = some s1 → AnyRun T R d ops l F n (listed.setIfInBounds i true) s1 sf → AnyRun T R d ops l F (n + 1) listed s sf := by
  intro n
  induction n with
  | zero =>
    intro listed s s1 sf hc hfree hr hf hy H
    refine ⟨fun h => (by rw [h] at hr; cases hr), fun j hj => ?_⟩
    by_cases hji : j = i
    · subst hji; exact ⟨x, s1, hx, hf, hy, H⟩
    · have := ready_mono hj hji
      rw [H.1] at this
      cases this
  | succ n ih =>
    intro listed s s1 sf hc hfree hr hf hy H
    refine ⟨fun h => (by rw [h] at hr; cases hr), fun j hj => ?_⟩
    by_cases hji : j = i
    · subst hji; exact ⟨x, s1, hx, hf, hy, H⟩
    · obtain ⟨y, s2, hy1, hy2, hy3, hy4⟩ := H.2 j (ready_mono hj hji)
      obtain ⟨hjun, oj, hoj, hall⟩ := mem_ready.1 hj
      have hiun := (mem_ready.1 hr).1
      have hnb : ((ancs [] ops.toList).getD j 0).testBit i = false := by
        cases hb : ((ancs [] ops.toList).getD j 0).testBit i with
        | false => rfl
        | true =>
          have h1 := anc_listed hc (j + 1) j (by omega) oj i hoj hall hb
          rcases Nat.lt_or_ge i listed.size with h' | h'
          · simp [h'] at hiun h1; rw [hiun] at h1; cases h1
          · simp [Array.getElem?_eq_none h'] at h1
      obtain ⟨hap, hin⟩ := hfree j y hy1 hji hjun hnb
      obtain ⟨s3, g1, g2, g3, g4⟩ := swap hap hy hy3 (by rw [hf, hy2]; exact hin)
      refine ⟨y, s3, hy1, by rw [g3, hy2], g1, ?_⟩
      refine ih (listed.setIfInBounds j true) s3 s2 sf (hc.set hj) ?_ (ready_mono hr (Ne.symm hji)) (by rw [g4, hf]) g2 ?_
      · intro k z hz hki hun hb
        refine hfree k z hz hki ?_ hb
        by_cases hjk : j = k
        · subst hjk; exact hjun
        · rw [getD_set_ne true hjk] at hun; exact hun
      · rw [Array.setIfInBounds_comm _ _ hji]
        exact hy4

theorem backB_spec : ∀ (ops : List Oper) (k : Nat), backB k ops = true → ∀ j o, ops[j]? = some o → ∀ e ∈ o.after, Region.binds .any e = true → e.on < k + j := by
  intro ops
  induction ops with
  | nil => intro k _ j o h; simp at h
  | cons o r ih =>
    intro k h j o' hj e he hb
    simp only [backB, Bool.and_eq_true, List.all_eq_true, Bool.or_eq_true, Bool.not_eq_true', decide_eq_true_eq] at h
    cases j with
    | zero =>
      have : o = o' := by simpa using hj
      subst this
      rcases h.1 e (by simpa using he) with h1 | h1
      · rw [h1] at hb; cases hb
      · exact h1
    | succ j =>
      have := ih (k + 1) h.2 j o' (by simpa using hj) e he hb
      omega

/-- All that come before k are listed, and no other. -/
def Upto (ops : Array Oper) (k : Nat) (listed : Array Bool) : Prop := listed.size = ops.size ∧ ∀ j, j < ops.size → listed[j]? = some (decide (j < k))

theorem Upto.closed {k : Nat} {listed : Array Bool} (h : Upto ops k listed) (hb : backB 0 ops.toList = true) : Closed ops listed := by
  intro j o ho hl e he hbi
  have hj : j < ops.size := (Array.getElem?_eq_some_iff.1 ho).1
  have h1 := backB_spec _ 0 hb j o (by rw [Array.getElem?_toList]; exact ho) e he hbi
  have h2 : e.on < ops.size := by omega
  rw [Array.getD_eq_getD_getElem?, h.2 j hj] at hl
  rw [Array.getD_eq_getD_getElem?, h.2 _ h2]
  simp only [Option.getD_some, decide_eq_true_eq] at hl ⊢
  omega

theorem any_lex (hb : backB 0 ops.toList = true) (hlen : l.length = ops.size)
    (hp : ∀ i j x y, i < j → l[i]? = some x → l[j]? = some y → ((ancs [] ops.toList).getD j 0).testBit i = false → apartA x y = true ∧ Indep2 (F i) (F j)) :
    ∀ (r : List AOper) (k : Nat) (listed : Array Bool) (s sf : St) (fs : List Foot), (∀ j, r[j]? = l[k + j]?) → Upto ops k listed → LexRun T R d r s fs sf → (∀ j f, fs[j]? = some f → F (k + j) = f) →
      k + r.length = ops.size → AnyRun T R d ops l F r.length listed s sf := by
  intro r
  induction r with
  | nil =>
    intro k listed s sf fs hr hu hL hF hk
    refine ⟨?_, hL.2⟩
    cases hrd : Region.ready .any ops listed with
    | nil => rfl
    | cons i q =>
      exfalso
      have hi : i ∈ Region.ready .any ops listed := by rw [hrd]; simp
      obtain ⟨h1, o, ho, _⟩ := mem_ready.1 hi
      have hlt : i < ops.size := (Array.getElem?_eq_some_iff.1 ho).1
      rw [Array.getD_eq_getD_getElem?, hu.2 i hlt] at h1
      simp at h1 hk
      omega
  | cons o r ih =>
    intro k listed s sf fs hr hu hL hF hk
    obtain ⟨s', fs', h1, rfl, h3⟩ := hL
    have hkl : k < ops.size := by simp at hk; omega
    have hlk : l[k]? = some o := by simpa using (hr 0).symm
    have hrd : k ∈ Region.ready .any ops listed := by
      refine mem_ready.2 ⟨?_, ops[k], by simp [hkl], fun e he hbi => ?_⟩
      · rw [Array.getD_eq_getD_getElem?, hu.2 k hkl]; simp
      · have h4 := backB_spec _ 0 hb k ops[k] (by rw [Array.getElem?_toList]; simp [hkl]) e he hbi
        rw [Array.getD_eq_getD_getElem?, hu.2 _ (by omega)]
        simp only [Option.getD_some, decide_eq_true_eq]; omega
    refine any_first hlk r.length listed s s' sf (hu.closed hb) ?_ hrd (hF 0 _ rfl).symm h1 ?_
    · intro j y hy hjk hun hnb
      have hjl : j < ops.size := by
        have := (List.getElem?_eq_some_iff.1 hy).1
        omega
      rw [Array.getD_eq_getD_getElem?, hu.2 j hjl] at hun
      simp only [Option.getD_some, decide_eq_false_iff_not] at hun
      exact hp k j o y (by omega) hlk hy hnb
    · refine ih (k + 1) _ s' sf fs' (fun j => ?_) ⟨by simp [hu.1], fun j hj => ?_⟩ h3 (fun j f hf => ?_) (by simp at hk; omega)
      · have := hr (j + 1)
        rw [List.getElem?_cons_succ] at this
        rw [this]; congr 1; omega
      · by_cases hjk : k = j
        · subst hjk
          rw [Array.getElem?_setIfInBounds_self_of_lt (by rw [hu.1]; exact hj)]
          simp
        · rw [Array.getElem?_setIfInBounds_ne hjk, hu.2 j hj]
          congr 1
          exact decide_eq_decide.2 (by omega)
      · have := hF (j + 1) f (by simpa using hf)
        rw [← this]; congr 1; omega

theorem kind0_foot {o : AOper} {s : St} (h : kindA o.op = 0) : footO T d o s = F0 := by
  unfold footO
  split
  · cases ho : o.op <;> rw [ho] at h <;> first | rfl | (exfalso; simp [kindA] at h)
  · rfl

theorem kind1_foot {o : AOper} {s : St} (h : kindA o.op = 1) : ∃ r, footO T d o s = ⟨r, [], [], false, false, false, none⟩ := by
  unfold footO
  split
  · cases ho : o.op <;> rw [ho] at h <;> first | exact ⟨_, rfl⟩ | (exfalso; simp [kindA] at h)
  · exact ⟨[], rfl⟩

theorem kind_le (k : AOp) : kindA k = 0 ∨ kindA k = 1 ∨ kindA k = 2 := by
  cases k <;> simp [kindA]

theorem not_meet {x y : AOper} {s s' : St} (h : mayMeet x y = false) : Indep2 (footO T d x s) (footO T d y s') := by
  rcases kind_le x.op with hx | hx | hx
  · exact .inl (kind0_foot hx)
  · rcases kind_le y.op with hy | hy | hy
    · exact .inr (.inl (kind0_foot hy))
    · obtain ⟨r, h1⟩ := kind1_foot (T := T) (d := d) (s := s) hx
      obtain ⟨q, h2⟩ := kind1_foot (T := T) (d := d) (s := s') hy
      rw [h1, h2]
      exact .inr (.inr ⟨rfl, rfl, fun e => (by cases e), fun e => (by cases e), fun _ h => (by cases h), fun _ h => (by cases h), fun _ h => (by cases h), fun _ h => (by cases h), fun _ h => (by cases h), fun _ h => (by cases h), fun e => (by cases e), fun _ _ => rfl, fun _ _ => rfl, .inl rfl, fun e => (by cases e), fun e => (by cases e)⟩)
    · unfold mayMeet at h; rw [hx, hy] at h; simp at h
  · rcases kind_le y.op with hy | hy | hy
    · exact .inr (.inl (kind0_foot hy))
    · unfold mayMeet at h; rw [hx, hy] at h; simp at h
    · unfold mayMeet at h; rw [hx, hy] at h; simp at h

theorem LexRun.feet : ∀ {r : List AOper} {s sf : St} {fs : List Foot}, LexRun T R d r s fs sf → fs.length = r.length ∧ ∀ (j : Nat) (o : AOper), r[j]? = some o → ∃ s', fs[j]? = some (footO T d o s') := by
  intro r
  induction r with
  | nil => intro s sf fs h; exact ⟨by rw [h.1]; rfl, fun j o hj => (by simp at hj)⟩
  | cons o r ih =>
    intro s sf fs h
    obtain ⟨s', fs', h1, rfl, h3⟩ := h
    obtain ⟨k1, k2⟩ := ih h3
    refine ⟨by simp [k1], fun j o' hj => ?_⟩
    cases j with
    | zero => simp at hj; subst hj; exact ⟨s, rfl⟩
    | succ j => exact k2 j o' (by simpa using hj)

theorem mem_prs {m : List Nat} {i j : Nat} {x y : AOper} (hij : i < j) (hx : l[i]? = some x) (hy : l[j]? = some y) (hb : (m.getD j 0).testBit i = false) (hm : mayMeet x y = true) : (i, j) ∈ prsOf m l := by
  unfold prsOf
  rw [List.mem_flatMap]
  refine ⟨j, List.mem_range.2 (List.getElem?_eq_some_iff.1 hy).1, ?_⟩
  rw [List.mem_filterMap]
  refine ⟨i, List.mem_range.2 hij, ?_⟩
  rw [hb, hx, hy]
  simp [hm]

/-- A region's operations, in whichever order. -/
theorem any_region {s sf : St} {fs : List Foot} (hb : backB 0 ops.toList = true) (hlen : l.length = ops.size) (hap : apartB (ancs [] ops.toList) l = true) (hL : LexRun T R d l s fs sf) (hp : okPrs fs (prsOf (ancs [] ops.toList) l) = true) :
    ∃ F, AnyRun T R d ops l F ops.size (Array.replicate ops.size false) s sf := by
  obtain ⟨h1, h2⟩ := hL.feet
  refine ⟨fun j => fs.getD j F0, ?_⟩
  rw [← hlen]
  refine any_lex hb hlen ?_ l 0 (Array.replicate l.length false) s sf fs (fun j => by rw [Nat.zero_add]) ⟨by simp [hlen], fun j hj => by rw [hlen]; simp [hj]⟩ hL (fun j f hf => by rw [Nat.zero_add, List.getD_eq_getElem?_getD, hf]; rfl) (by rw [Nat.zero_add, hlen])
  intro i j x y hij hx hy hnb
  constructor
  · unfold apartB at hap
    rw [List.all_eq_true] at hap
    have h3 := hap j (List.mem_range.2 (List.getElem?_eq_some_iff.1 hy).1)
    rw [List.all_eq_true] at h3
    have h4 := h3 i (List.mem_range.2 hij)
    rw [hnb, hx, hy] at h4
    simpa using h4
  · obtain ⟨sx, ex⟩ := h2 i x hx
    obtain ⟨sy, ey⟩ := h2 j y hy
    simp only [List.getD_eq_getElem?_getD, ex, ey, Option.getD_some]
    cases hm : mayMeet x y with
    | false => exact not_meet hm
    | true =>
      have h3 := mem_prs hij hx hy hnb hm
      unfold okPrs at hp
      rw [List.all_eq_true] at hp
      have h4 := hp _ h3
      simp only [ex, ey] at h4
      exact .inr (.inr (indep_spec h4))
end
end Go.Am

/- A region of Go's code against one of the small machine. -/
namespace Go.Am
set_option linter.unusedSimpArgs false
set_option linter.unusedVariables false
variable {P : Program}

section
variable {ops : Array Oper} {nt : Nat} {T : Tab} {R : Run} {d : Nat}

theorem wanted_rel {o : Oper} {g : Option (Nat × Bool)} {b : Bool} {X : Ctx} {E : AEnv} {tmps : Array Value} (hg : guardOf ops o.guard = some g) (he : EnvRel X E tmps) (hw : wantedA E g = some b) :
    Region.wanted o (yielded ops tmps) = b := by
  unfold guardOf at hg
  unfold Region.wanted
  split at hg
  · rename_i e
    obtain rfl := Option.some.inj hg
    rw [e]
    simp only [wantedA] at hw
    exact Option.some.inj hw
  · rename_i j want e
    rw [e]
    simp only
    split at hg
    · rename_i oj hoj
      split at hg
      · rename_i t ht
        obtain rfl := Option.some.inj hg
        simp only [wantedA] at hw
        have h1 := he t
        have hy : yielded ops tmps j = (match tmps[t]? with | some (.bool b) => some b | _ => none) := by
          unfold yielded; rw [hoj]; simp only [Option.bind_some, ht]; rfl
        rw [hy]
        split at hw
        · rename_i x hx
          obtain rfl := Option.some.inj hw
          rw [hx] at h1
          have h2 : tmps.getD t undef = .bool x := h1.1
          rw [Array.getD_eq_getD_getElem?] at h2
          cases ht2 : tmps[t]? with
          | none => rw [ht2] at h2; cases h2
          | some v =>
            rw [ht2] at h2
            simp only [Option.getD_some] at h2
            subst h2
            cases x <;> cases want <;> rfl
        · rename_i hx
          obtain rfl := Option.some.inj hw
          rw [hx] at h1
          obtain ⟨vs, h2, h3⟩ := h1
          have h4 : vs = [] := by cases vs with | nil => rfl | cons => exact h3.elim
          subst h4
          rw [Array.getD_eq_getD_getElem?] at h2
          cases ht2 : tmps[t]? with
          | none => rfl
          | some v =>
            rw [ht2] at h2
            simp only [Option.getD_some] at h2
            subst h2
            rfl
        · cases hw
      · cases hg
    · cases hg

theorem operOf_spec {o : Oper} {ao : AOper} (h : operOf P ops o = some ao) : guardOf ops o.guard = some ao.guard ∧ opOf P o = some ao.op ∧ ao.dst = o.dst := by
  unfold operOf at h
  split at h
  · rename_i g k hg hk
    obtain rfl := Option.some.inj h
    exact ⟨hg, hk, rfl⟩
  · cases h

theorem put_undef {o : Option Nat} {w : World} {φ : Id → Option Addr} {s : St} {a : Act} (hs : SR nt w φ s a) (hd : ∀ d, o = some d → d < nt) : SR nt w φ ⟨updO s.E o (.tup []), s.H, s.nx⟩ (a.put o undef) :=
  ⟨hs.sim, hs.env.put (fun _ => ⟨[], rfl, trivial⟩) (fun d h => by rw [hs.size]; exact hd d h), by rw [put_size]; exact hs.size⟩

/-- One operation of a region. -/
theorem sound_wpOp {i : Nat} {o : Oper} {ao : AOper} {s s' : St} {w : World} {φ : Id → Option Addr} {a : Act} (hi : ops[i]? = some o) (hop : operOf P ops o = some ao) (hs : SR nt w φ s a) (hd : ∀ d, ao.dst = some d → d < nt)
    (he : operF T R d ao s = some s') (hok : CallOK P T R) {K : Act → World → Prop} {Q : Exit → Act → World → Prop}
    (hK : ∀ a' w' φ', SR nt w' φ' s' a' → Ext w φ s.H w' φ' s'.H → a'.defers = a.defers → K a' w') : wpOp P ops Q i K a w := by
  obtain ⟨h1, h2, h3⟩ := operOf_spec hop
  rw [h3] at hd
  unfold wpOp
  simp only [hi]
  unfold operF at he
  split at he
  · rename_i hw
    rw [wanted_rel h1 hs.env hw, if_pos rfl]
    split at he
    · rename_i v H' nx' hv
      obtain rfl := Option.some.inj he
      rw [h3] at hv hK
      exact .inl (sound_op h2 hs hd hv hok K Q hK)
    · cases he
  · rename_i hw
    rw [wanted_rel h1 hs.env hw, if_neg (by simp)]
    obtain rfl := Option.some.inj he
    rw [h3] at hK
    exact hK _ _ φ (put_undef hs hd) (Ext.refl _ _ _) (put_defers' _ _ _)
  · cases he

theorem seq_sound {l : List AOper} (hl : mapMO (operOf P ops) ops.toList = some l) (hd : ∀ o ∈ l, ∀ d, o.dst = some d → d < nt) (hok : CallOK P T R) {Q : Exit → Act → World → Prop} : ∀ (r : List AOper) (k : Nat) (s sf : St) (fs : List Foot) (w : World) (φ : Id → Option Addr) (a : Act),
    (∀ j : Nat, r[j]? = l[k + j]?) → LexRun T R d r s fs sf → SR nt w φ s a → (∀ a' w' φ', SR nt w' φ' sf a' → Ext w φ s.H w' φ' sf.H → a'.defers = a.defers → Q .normal a' w') →
    wpOps P ops Q (List.range' k r.length) a w := by
  obtain ⟨hlen, hget⟩ := mapMO_get hl
  intro r
  induction r with
  | nil =>
    intro k s sf fs w φ a _ hL hs hQ
    obtain rfl := hL.2
    exact hQ a w φ hs (Ext.refl _ _ _) rfl
  | cons ao r ih =>
    intro k s sf fs w φ a hr hL hs hQ
    obtain ⟨s', fs', h1, _, h3⟩ := hL
    have hlk : l[k]? = some ao := by simpa using (hr 0).symm
    have hk : k < ops.size := by
      have := (List.getElem?_eq_some_iff.1 hlk).1
      rw [hlen] at this; simpa using this
    have hok' : ops[k]? = some ops[k] := by simp [hk]
    obtain ⟨ao', g1, g2⟩ := hget k ops[k] (by rw [Array.getElem?_toList]; exact hok')
    rw [hlk] at g2
    obtain rfl := Option.some.inj g2
    rw [List.length_cons, List.range'_succ, wpOps_cons]
    refine sound_wpOp hok' g1 hs (hd ao (List.mem_of_getElem? hlk)) h1 hok ?_
    intro a' w' φ' hs' hext hdef
    refine ih (k + 1) s' sf fs' w' φ' a' (fun j => ?_) h3 hs' ?_
    · have := hr (j + 1)
      rw [List.getElem?_cons_succ] at this
      rw [this]; congr 1; omega
    · intro a'' w'' φ'' hs'' hext' hdef'
      exact hQ a'' w'' φ'' hs'' (hext.trans hext') (hdef'.trans hdef)

theorem any_sound {l : List AOper} (hl : mapMO (operOf P ops) ops.toList = some l) (hd : ∀ o ∈ l, ∀ d, o.dst = some d → d < nt) (hok : CallOK P T R) {F : Nat → Foot} {Q : Exit → Act → World → Prop} : ∀ (n : Nat) (listed : Array Bool) (s sf : St) (w : World) (φ : Id → Option Addr) (a : Act),
    AnyRun T R d ops l F n listed s sf → SR nt w φ s a → (∀ a' w' φ', SR nt w' φ' sf a' → Ext w φ s.H w' φ' sf.H → a'.defers = a.defers → Q .normal a' w') →
    wpAny P .any ops Q n listed a w := by
  obtain ⟨hlen, hget⟩ := mapMO_get hl
  intro n
  induction n with
  | zero =>
    intro listed s sf w φ a hA hs hQ
    obtain ⟨h1, rfl⟩ := hA
    exact ⟨h1, hQ a w φ hs (Ext.refl _ _ _) rfl⟩
  | succ n ih =>
    intro listed s sf w φ a hA hs hQ
    refine ⟨fun h0 => ?_, fun i hi => ?_⟩
    · obtain rfl := hA.1 h0
      exact hQ a w φ hs (Ext.refl _ _ _) rfl
    · obtain ⟨ao, s', h1, _, h3, h4⟩ := hA.2 i hi
      obtain ⟨_, o, ho, _⟩ := mem_ready.1 hi
      obtain ⟨ao', g1, g2⟩ := hget i o (by rw [Array.getElem?_toList]; exact ho)
      rw [h1] at g2
      obtain rfl := Option.some.inj g2
      refine sound_wpOp ho g1 hs (hd ao (List.mem_of_getElem? h1)) h3 hok ?_
      intro a' w' φ' hs' hext hdef
      refine ih _ s' sf w' φ' a' h4 hs' ?_
      intro a'' w'' φ'' hs'' hext' hdef'
      exact hQ a'' w'' φ'' hs'' (hext.trans hext') (hdef'.trans hdef)

/-- A draw changes nothing that is looked at. -/
theorem sr_drawn {s : St} {w : World} {φ : Id → Option Addr} {a : Act} {n : Nat} (hs : SR nt w φ s a) : SR nt { w with drawn := n } φ s a :=
  ⟨⟨hs.sim.pl, fun p c hp => (let ⟨b, h1, h2⟩ := hs.sim.obj p c hp; ⟨b, h1, h2.spot, h2.lt, h2.pos, h2.el, h2.fr⟩), hs.sim.sep, hs.sim.re, hs.sim.sx⟩, hs.env, hs.size⟩
theorem ext_drawn {w w' : World} {φ φ' : Id → Option Addr} {H H' : Heap} {n : Nat} (h : Ext { w with drawn := n } φ H w' φ' H') : Ext w φ H w' φ' H' :=
  ⟨h.os, h.tape, h.output, h.size, h.fr, h.mu, h.bs, h.ob, h.ex, h.exh⟩

/-- What the small machine's region is, of a region. -/
def RegOf (P : Program) (ops : Array Oper) (draw : Bool) (c : AC) : Prop := ∃ l, mapMO (operOf P ops) ops.toList = some l ∧
  ((draw = false ∧ c = .ops l) ∨ (draw = true ∧ drawOf ops.toList l = some c))

/-- What a region's text in the small machine tells: its operations in the text's order, and that they may change places. -/
def RegRun (T : Tab) (R : Run) (d : Nat) (c : AC) (s sf : St) : Prop :=
  (∃ l fs, c = .ops l ∧ LexRun T R d l s fs sf) ∨ (∃ l fs prs, c = .opsU [] l prs ∧ LexRun T R d l s fs sf ∧ okPrs fs prs = true)

theorem region_sound {id : Nat} {draw : Bool} {c : AC} {s sf : St} {w : World} {φ : Id → Option Addr} {a : Act} (hm : P.follows .mixedOrders = true) (hc : RegOf P ops draw c) (hd : okD nt c = true) (hr : RegRun T R d c s sf) (hok : CallOK P T R) (hs : SR nt w φ s a)
    {Q : Exit → Act → World → Prop} (hQ : ∀ a' w' φ', SR nt w' φ' sf a' → Ext w φ s.H w' φ' sf.H → a'.defers = a.defers → Q .normal a' w') : (Code.region id ops draw).wp P Q a w := by
  obtain ⟨l, hl, hc⟩ := hc
  obtain ⟨hlen, _⟩ := mapMO_get hl
  have hlen' : l.length = ops.size := by simpa using hlen
  have hdst : ∀ l' : List AOper, okD nt (.ops l') = true → ∀ o ∈ l', ∀ d, o.dst = some d → d < nt := by
    intro l' h o ho d hd
    simp only [okD] at h
    rw [List.all_eq_true] at h
    have := h o ho
    rw [hd] at this
    simpa using this
  rcases hc with ⟨rfl, rfl⟩ | ⟨rfl, hc⟩
  · rcases hr with ⟨l', fs, e, hL⟩ | ⟨l', fs, prs, e, _⟩
    · cases e
      refine wp_region ?_
      rw [List.range_eq_range', ← hlen']
      exact seq_sound hl (hdst l hd) hok l 0 s sf fs w φ a (fun j => by rw [Nat.zero_add]) hL hs hQ
    · cases e
  · unfold drawOf at hc
    split at hc
    · rename_i hb
      have hc := Option.some.inj hc
      have key : ∃ fs, LexRun T R d l s fs sf ∧ okPrs fs (prsOf (ancs [] ops.toList) l) = true ∧ okD nt (.ops l) = true := by
        cases hp : prsOf (ancs [] ops.toList) l with
        | nil =>
          rw [hp] at hc
          simp only at hc
          subst hc
          rcases hr with ⟨l', fs, e, hL⟩ | ⟨l', fs, prs, e, _⟩
          · cases e; exact ⟨fs, hL, rfl, hd⟩
          · cases e
        | cons p q =>
          rw [hp] at hc
          simp only at hc
          subst hc
          rcases hr with ⟨l', fs, e, hL⟩ | ⟨l', fs, prs, e, hL, h⟩
          · cases e
          · cases e; exact ⟨fs, hL, h, by simp only [okD] at hd ⊢; exact hd⟩
      obtain ⟨fs, hL, hp, hdd⟩ := key
      obtain ⟨F, hA⟩ := any_region hb.1 hlen' hb.2 hL hp
      refine wp_region_any hm ?_
      refine any_sound hl (hdst l hdd) hok ops.size _ s sf _ φ a hA (sr_drawn hs) ?_
      intro a' w' φ' h1 h2 h3
      exact hQ a' w' φ' h1 (ext_drawn h2) h3
    · cases hc
end
end Go.Am

/- The small machine against Go's: whole bodies. -/
namespace Go.Am
set_option linter.unusedSimpArgs false
set_option linter.unusedVariables false
variable {P : Program}

/-! ### results -/
theorem load_addr {X : Ctx} {H : Heap} {ag : Bool} {n : Nat} {x v : AV} {p : Value} (hp : VRel X x p) (hv : loadV H ag n x = some v) : ∃ ad, p = .pointer (some ad) := by
  cases x with
  | tptr y off => obtain ⟨u, b, rfl, _⟩ := hp; exact ⟨_, rfl⟩
  | ptr q g m i off => obtain ⟨ad, rfl, _⟩ := hp; exact ⟨_, rfl⟩
  | _ => simp [loadV] at hv

section
variable {nt : Nat} {w : World} {φ : Id → Option Addr} {s : St} {a : Act}

def resF (tmps : Array Value) : ResultVar → Sem Value
  | .tmp t => pure (tmps.getD t undef)
  | .cell ad t => do loadVar t (← asAddr (tmps.getD ad undef))

theorem asAddr_some (ad : Addr) : asAddr (.pointer (some ad)) = pure ad := rfl

theorem results_eq (fn : Func) (tmps : Array Value) : results fn tmps = (do let vs ← fn.results.toList.mapM (resF tmps); pure (if h : vs.toArray.size = 1 then vs.toArray[0] else .tuple vs.toArray)) := by
  have key : ∀ f : ResultVar → Sem Value, (∀ r, f r = resF tmps r) → ((do let vs ← fn.results.mapM f; pure (if h : vs.size = 1 then vs[0] else .tuple vs)) : Sem Value) =
      (do let vs ← fn.results.toList.mapM (resF tmps); pure (if h : vs.toArray.size = 1 then vs.toArray[0] else .tuple vs.toArray)) := by
    intro f hf
    rw [Array.mapM_eq_mapM_toList, show f = resF tmps from funext hf, bind_map_left]
  refine key _ fun r => ?_
  cases r <;> rfl

theorem results_list {w : World} {φ : Id → Option Addr} {s : St} {a : Act} (hs : SR nt w φ s a) : ∀ (l : List ResultVar) (r : List ARes) (rs : List AV), resOf P l = some r → resV s.E s.H r = some rs →
    ∃ vs : List Value, (l.mapM (resF a.tmps)).run P w = .ok vs w ∧ VTup (ctx w φ s.H) rs vs := by
  intro l
  induction l with
  | nil =>
    intro r rs h1 h2
    simp only [resOf] at h1
    obtain rfl := Option.some.inj h1
    simp only [resV] at h2
    obtain rfl := Option.some.inj h2
    exact ⟨[], by simp, trivial⟩
  | cons x l ih =>
    intro r rs h1 h2
    cases x with
    | tmp t =>
      simp only [resOf] at h1
      split at h1
      · rename_i r' hr'
        obtain rfl := Option.some.inj h1
        simp only [resV] at h2
        split at h2
        · rename_i rs' hrs'
          obtain rfl := Option.some.inj h2
          obtain ⟨vs, e1, e2⟩ := ih r' rs' hr' hrs'
          refine ⟨a.tmps.getD t undef :: vs, ?_, hs.env t, e2⟩
          simp only [List.mapM_cons, resF, Sem.run_bind, Sem.run_pure, Result.andThen_ok, e1]
        · cases h2
      · cases h1
    | cell t ty =>
      simp only [resOf] at h1
      split at h1
      · rename_i ag n r' hag hn hr'
        obtain rfl := Option.some.inj h1
        simp only [resV] at h2
        split at h2
        · rename_i v rs' hv hrs'
          obtain rfl := Option.some.inj h2
          obtain ⟨vs, e1, e2⟩ := ih r' rs' hr' hrs'
          have ht := hs.env t
          obtain ⟨ad, ead⟩ := load_addr ht hv
          obtain ⟨u, hu, hrel⟩ := load_rel hag hn hs.sim ht hv
          rw [ead] at hu
          simp only [Instr.loadAt, Instr.sureAddr, Sem.run_bind, Sem.run_pure, Result.andThen_ok] at hu
          refine ⟨u :: vs, ?_, hrel, e2⟩
          simp only [List.mapM_cons, resF, Sem.run_bind, Sem.run_pure, Result.andThen_ok, ead, asAddr_some, hu, e1]
        · cases h2
      · cases h1

theorem results_rel {fn : Func} {r : List ARes} {rs : List AV} (hs : SR nt w φ s a) (h : resOf P fn.results.toList = some r) (hr : resV s.E s.H r = some rs) :
    ∃ v, (results fn a.tmps).run P w = .ok v w ∧ VRel (ctx w φ s.H) (tupOf rs) v := by
  obtain ⟨vs, e1, e2⟩ := results_list (P := P) hs _ _ _ h hr
  have hrun : (results fn a.tmps).run P w = .ok (if h : vs.toArray.size = 1 then vs.toArray[0] else .tuple vs.toArray) w := by
    rw [results_eq]
    simp only [Sem.run_bind, Sem.run_pure, Result.andThen_ok, e1]
  refine ⟨_, hrun, ?_⟩
  have hl := e2.length
  unfold tupOf
  split
  · rename_i x
    cases vs with
    | nil => simp at hl
    | cons v q =>
      cases q with
      | nil => simpa using e2.1
      | cons => simp at hl
  · rename_i hne
    rw [dif_neg]
    · exact ⟨vs, rfl, e2⟩
    · intro h1
      simp at h1
      rw [h1] at hl
      cases rs with
      | nil => simp at hl
      | cons x q => cases q with
        | nil => exact hne x rfl
        | cons => simp at hl
end
end Go.Am

/- What is live, read as data; objects that are locked; a world that has grown. -/
namespace Go.Am
set_option linter.unusedSimpArgs false
set_option linter.unusedVariables false
variable {P : Program}

/-- H2 is H, some of its objects locked. -/
structure Lk (H H2 : Heap) : Prop where
  no : ∀ id, H id = none → H2 id = none
  so : ∀ id b, H id = some b → ∃ b2, H2 id = some b2 ∧ b2.gen = b.gen ∧ b2.sz = b.sz ∧ b2.es = b.es ∧ (b2.w = true → b.w = true)

theorem Lk.refl (H : Heap) : Lk H H := ⟨fun _ h => h, fun _ b h => ⟨b, h, rfl, rfl, rfl, fun h => h⟩⟩

theorem Lk.back {H H2 : Heap} (h : Lk H H2) {id : Id} {b2 : Obj} (e : H2 id = some b2) : ∃ b, H id = some b ∧ b2.gen = b.gen ∧ b2.sz = b.sz ∧ b2.es = b.es ∧ (b2.w = true → b.w = true) := by
  cases hh : H id with
  | none => rw [h.no id hh] at e; cases e
  | some b =>
    obtain ⟨b', h1, h2⟩ := h.so id b hh
    rw [e] at h1
    obtain rfl := Option.some.inj h1
    exact ⟨b, rfl, h2⟩

theorem lk_lockL (H : Heap) (l : List Id) : Lk H (lockL H l) := by
  constructor
  · intro id h
    rw [lockL_at, h]; simp
  · intro id b h
    rw [lockL_at, h]
    split
    · exact ⟨_, rfl, rfl, rfl, rfl, fun h => (by cases h)⟩
    · exact ⟨b, rfl, rfl, rfl, rfl, fun h => h⟩

theorem lk_lockAll (H : Heap) : Lk H (lockAll H) := by
  constructor
  · intro id h; simp only [lockAll, h]
  · intro id b h; exact ⟨{ b with w := false }, by simp only [lockAll, h], rfl, rfl, rfl, fun h => (by cases h)⟩

section
variable {w w' : World} {φ : Id → Option Addr} {H H2 : Heap}

theorem Lk.mut (h : Lk H H2) {b : Nat} (hm : Mut φ H2 b) : Mut φ H b := by
  rcases hm with ⟨o, ob, a, h1, h2, h3, h4⟩ | hr
  · obtain ⟨b, g1, _, _, _, g2⟩ := h.back h1
    exact .inl ⟨o, b, a, g1, g2 h2, h3, h4⟩
  · exact .inr hr

theorem Lk.ext (h : Lk H H2) : Ext w φ H w φ H2 :=
  ⟨rfl, rfl, rfl, Nat.le_refl _, fun _ _ _ => rfl, fun _ _ hm => h.mut hm, fun _ _ => Nat.le_refl _,
    fun o x hx => (let ⟨b2, g1, g2, g3, g4, _⟩ := h.so o x hx; ⟨b2, g1, .inr ⟨g2, by rw [g4], g3, rfl⟩⟩), fun _ => rfl, fun _ _ _ => rfl⟩

theorem Lk.sim (h : Lk H H2) (hs : Sim w φ H) : Sim w φ H2 := by
  have hctx : LeCtx (ctx w φ H) (ctx w φ H2) := h.ext.leCtx hs.pl
  refine ⟨hs.pl, ?_, ?_, ?_, ?_⟩
  · intro o ob ho
    obtain ⟨b, g1, g2, g3, g4, g5⟩ := h.back ho
    obtain ⟨ad, e1, e2⟩ := hs.obj o b g1
    refine ⟨ad, e1, e2.spot, e2.lt, by rw [g3]; exact e2.pos, ?_, fun hw => e2.fr (g5 hw)⟩
    intro i x hx
    rw [g4] at hx
    rw [g3]
    obtain ⟨k0, v, k1, k2, k3⟩ := e2.el i x hx
    exact ⟨k0, v, VRel.mono hctx _ _ k1, k2, k3⟩
  · intro o ob p oc b c ho hw hp hne hb hc
    obtain ⟨ob', g1, _, _, _, g5⟩ := h.back ho
    obtain ⟨oc', k1, _⟩ := h.back hp
    exact hs.sep o ob' p oc' b c g1 (g5 hw) k1 hne hb hc
  · intro o ob ho
    obtain ⟨ob', g1, _⟩ := h.back ho
    exact hs.re o ob' g1
  · intro o ob b k c ho hb hc
    obtain ⟨ob', g1, _⟩ := h.back ho
    exact hs.sx o ob' b k c g1 hb hc

/-- A world that has grown. -/
structure Grown (w w' : World) : Prop where
  os : w'.os = w.os
  tape : w'.tape = w.tape
  output : w'.output = w.output
  size : w.heap.size ≤ w'.heap.size
  fr : ∀ b, b < w.heap.size → w'.heap[b]? = w.heap[b]?

theorem Grown.ext (h : Grown w w') (hs : Sim w φ H) : Ext w φ H w' φ H :=
  ⟨h.os, h.tape, h.output, h.size, fun b hb _ => h.fr b hb, fun _ _ hm => hm, fun b hb => Nat.le_of_eq (by unfold bsize; rw [h.fr b hb]), fun _ x hx => ⟨x, hx, .inr ⟨rfl, rfl, rfl, rfl⟩⟩, fun _ => rfl, fun k a ha => h.fr _ (hs.pl _ a ha)⟩

theorem Grown.sim (h : Grown w w') (hs : Sim w φ H) : Sim w' φ H := by
  have hctx := (h.ext hs).leCtx hs.pl
  refine ⟨fun o a ha => Nat.lt_of_lt_of_le (hs.pl o a ha) h.size, ?_, hs.sep, hs.re, hs.sx⟩
  intro o ob ho
  obtain ⟨ad, e1, e2⟩ := hs.obj o ob ho
  refine ⟨ad, e1, e2.spot, Nat.lt_of_lt_of_le e2.lt h.size, e2.pos, ?_, ?_⟩
  · intro i x hx
    obtain ⟨k0, v, k1, k2, k3⟩ := e2.el i x hx
    refine ⟨k0, v, VRel.mono hctx _ _ k1, k2, fun j u hj => ⟨(k3 j u hj).1, ?_⟩⟩
    rw [cell_same (h.fr _ (by rw [add_block]; exact e2.lt))]
    exact (k3 j u hj).2
  · intro hw
    obtain ⟨c, e, lo, hi, g1, g2⟩ := e2.fr hw
    exact ⟨c, e, lo, hi, by rw [h.fr _ e2.lt]; exact g1, g2⟩

/-- The block of a locked object is not written. -/
theorem locked_imm (hs : Sim w φ H) {o : Id} {ob : Obj} {b : Addr} (ho : H o = some ob) (hw : ob.w = false) (hb : φ o = some b) : ¬ Mut φ H b.block := by
  rintro (⟨p, x, a, h1, h2, h3, h4⟩ | ⟨k, a, h1, h2⟩)
  · by_cases hpo : p = o
    · subst hpo
      rw [ho] at h1
      obtain rfl := Option.some.inj h1
      rw [hw] at h2; cases h2
    · exact hs.sep p x o ob a b h1 h2 ho hpo h3 hb h4
  · exact hs.sx o ob b k a ho hb h1 h2.symm

/-- No object among these may be written. -/
def NoW (H : Heap) (l : List Id) : Prop := ∀ id, id ∈ l → ∀ ob, H id = some ob → ob.w = false

mutual
theorem frz_rel (hs : Sim w φ H) : ∀ (n : Nat) (v : AV) (t : TV) (x : Value), NoW H (idsOf H n v) → VRel (ctx w φ H) v x → frz H n v = some t → TRel (imm w φ H) t x
  | _, .c t', t, x, _, hr, hf => by
    simp only [frz] at hf
    obtain rfl := Option.some.inj hf
    exact hr
  | 0, .agg _, t, x, _, _, hf => by simp [frz] at hf
  | 0, .tup _, t, x, _, _, hf => by simp [frz] at hf
  | 0, .nils, t, x, _, _, hf => by simp [frz] at hf
  | 0, .tptr _ _, t, x, _, _, hf => by simp [frz] at hf
  | 0, .ref _ _ _ _ _, t, x, _, _, hf => by simp [frz] at hf
  | 0, .ptr _ _ _ _ _, t, x, _, _, hf => by simp [frz] at hf
  | 0, .fn _ _, t, x, _, _, hf => by simp [frz] at hf
  | 0, .undef, t, x, _, _, hf => by simp [frz] at hf
  | n + 1, .agg cs, t, x, hn, hr, hf => by
    simp only [frz] at hf
    simp only [idsOf] at hn
    split at hf
    · rename_i l hl
      obtain rfl := Option.some.inj hf
      obtain ⟨vs, e, hvs⟩ := hr
      exact ⟨vs, e, frzs_rel hs n cs l vs hn hvs hl⟩
    · cases hf
  | _ + 1, .nils, t, x, _, hr, hf => by
    simp only [frz] at hf
    obtain rfl := Option.some.inj hf
    have hx : x = .slice none 0 0 := hr
    exact ⟨none, 0, 0, hx, rfl, Nat.le_refl _, .inl rfl⟩
  | n + 1, .ref o g m off len, t, x, hn, hr, hf => by
    simp only [frz] at hf
    simp only [idsOf] at hn
    split at hf
    · rename_i es hes
      split at hf
      · rename_i l hl
        obtain rfl := Option.some.inj hf
        rw [hes] at hn
        have hes' := hes
        unfold elemsOf at hes'
        split at hes'
        · rename_i ob hob
          split at hes'
          · rename_i hc
            obtain rfl := Option.some.inj hes'
            obtain ⟨a, cap, e, hlc, ob', hob', hq⟩ := hr
            have hob'' : H o = some ob' := hob'
            rw [hob] at hob''
            obtain rfl := Option.some.inj hob''
            obtain ⟨b, hb, hrel⟩ := hs.obj o ob hob
            have hw := hn o (by simp) ob hob
            have hsz : szOf H o = ob.sz := by simp only [szOf, hob]
            have hlen : l.length = len := by
              have h1 : ∀ (n : Nat) (q : List AV) (r : List TV), frzs H n q = some r → r.length = q.length := by
                intro n q
                induction q with
                | nil => intro r h; simp only [frzs] at h; obtain rfl := Option.some.inj h; rfl
                | cons y q ih =>
                  intro r h
                  simp only [frzs] at h
                  split at h
                  · split at h
                    · rename_i ys hys
                      obtain rfl := Option.some.inj h
                      simp [ih _ hys]
                    · cases h
                  · cases h
              rw [h1 _ _ _ hl]; simp; omega
            refine ⟨a, len, cap, e, hlen.symm, hlc, ?_⟩
            rcases hq with hq | ⟨q1, q2, q3, q4⟩
            · unfold Stale at hq; omega
            · rcases q4 with ⟨_, q4⟩ | ⟨b', hb', ea, hn', hroom⟩
              · left; omega
              · right
                obtain rfl : b = b' := Option.some.inj (hb.symm.trans hb')
                refine ⟨_, ea, add_spot hrel.spot _, ?_⟩
                rw [hsz]
                refine frz_elems hs n hob hb hw hrel ((ob.es.drop off).take len) l 0 off (fun k y hk => ?_) (fun id hi => hn id (by simp only [List.mem_cons]; exact .inr hi)) hl
                rw [List.getElem?_take] at hk
                split at hk
                · rw [List.getElem?_drop] at hk
                  rw [Nat.zero_add]; exact hk
                · cases hk
          · cases hes'
        · cases hes'
      · cases hf
    · cases hf
  | _ + 1, .tup _, t, x, _, _, hf => by simp [frz] at hf
  | _ + 1, .tptr _ _, t, x, _, _, hf => by simp [frz] at hf
  | _ + 1, .ptr _ _ _ _ _, t, x, _, _, hf => by simp [frz] at hf
  | _ + 1, .fn _ _, t, x, _, _, hf => by simp [frz] at hf
  | _ + 1, .undef, t, x, _, _, hf => by simp [frz] at hf
theorem frzs_rel (hs : Sim w φ H) : ∀ (n : Nat) (l : List AV) (ts : List TV) (vs : List Value), NoW H (idsOfs H n l) → VRels (ctx w φ H) l vs → frzs H n l = some ts → TRels (imm w φ H) ts vs
  | _, [], ts, vs, _, hr, hf => by
    simp only [frzs] at hf
    obtain rfl := Option.some.inj hf
    cases vs with
    | nil => trivial
    | cons => exact hr.elim
  | n, x :: r, ts, vs, hn, hr, hf => by
    simp only [frzs] at hf
    simp only [idsOfs] at hn
    split at hf
    · rename_i y hy
      split at hf
      · rename_i ys hys
        obtain rfl := Option.some.inj hf
        cases vs with
        | nil => exact hr.elim
        | cons v q =>
          exact ⟨frz_rel hs n x y v (fun id hi => hn id (by simp [hi])) hr.1 hy, hr.2.1, frzs_rel hs n r ys q (fun id hi => hn id (by simp [hi])) hr.2.2 hys⟩
      · cases hf
    · cases hf
theorem frz_elems (hs : Sim w φ H) : ∀ (n : Nat) {o : Id} {ob : Obj} {b : Addr} (_ : H o = some ob) (_ : φ o = some b) (_ : ob.w = false) (_ : ObjRel (ctx w φ H) w ob b) (es : List AV) (l : List TV) (i off : Nat),
    (∀ (k : Nat) (y : AV), es[k]? = some y → ob.es[off + (i + k)]? = some y) → NoW H (idsOfs H n es) → frzs H n es = some l → TElems (imm w φ H) ob.sz (b.add (off * ob.sz)) i l
  | _, _, _, _, _, _, _, _, [], l, i, off, _, _, hf => by
    simp only [frzs] at hf
    obtain rfl := Option.some.inj hf
    trivial
  | n, o, ob, b, ho, hb, hw, hrel, x :: r, l, i, off, hk, hn, hf => by
    simp only [frzs] at hf
    simp only [idsOfs] at hn
    split at hf
    · rename_i y hy
      split at hf
      · rename_i ys hys
        obtain rfl := Option.some.inj hf
        have h0 := hk 0 x rfl
        rw [Nat.add_zero] at h0
        obtain ⟨_, v, h1, h2, h3⟩ := hrel.el _ x h0
        refine ⟨⟨v, frz_rel hs n x y v (fun id hi => hn id (by simp [hi])) h1 hy, h2, fun j u hj => ?_⟩, ?_⟩
        · rw [imm_some]
          rw [add_add hrel.spot]
          refine ⟨by rw [add_block]; exact locked_imm hs ho hw hb, ?_⟩
          have := (h3 j u hj).2
          rw [show off * ob.sz + (i * ob.sz + j) = (off + i) * ob.sz + j from by rw [Nat.add_mul]; omega]
          exact this
        · refine frz_elems hs n ho hb hw hrel r ys (i + 1) off (fun k z hz => ?_) (fun id hi => hn id (by simp [hi])) hys
          have := hk (k + 1) z (by simpa using hz)
          rw [show off + (i + 1 + k) = off + (i + (k + 1)) from by omega]
          exact this
      · cases hf
    · cases hf
end
end
end Go.Am

/- The small machine against Go's: whole runs. -/
namespace Go.Am
set_option linter.unusedSimpArgs false
set_option linter.unusedVariables false
variable {P : Program}

/-- What is still to be run, in both. -/
def KRel (P : Program) (nt : Nat) : List It → List Item → Prop
  | [], [] => True
  | .code c :: K, .code c' :: k => codeOf P c' = some c ∧ okD nt c = true ∧ KRel P nt K k
  | .blk i :: K, .inBlock j :: k => i = j ∧ KRel P nt K k
  | .lp c :: K, .inLoop c' :: k => codeOf P c' = some c ∧ okD nt c = true ∧ KRel P nt K k
  | _, _ => False

theorem unwind_rel {nt : Nat} {i : Nat} : ∀ {K : List It} {k : List Item} {K' : List It}, KRel P nt K k → unwind i K = some K' → ∃ k', exitTo i k = some k' ∧ KRel P nt K' k'
  | [], _, _, _, h => by simp [unwind] at h
  | .code c :: K, [], _, h, _ => h.elim
  | .code c :: K, .code c' :: k, _, h, hu => by
    simp only [unwind] at hu
    obtain ⟨k', h1, h2⟩ := unwind_rel h.2.2 hu
    exact ⟨k', by simp only [exitTo]; exact h1, h2⟩
  | .blk j :: K, .inBlock j' :: k, K', h, hu => by
    obtain ⟨rfl, h2⟩ := h
    simp only [unwind] at hu
    split at hu
    · rename_i e
      obtain rfl := Option.some.inj hu
      exact ⟨k, by simp [exitTo, e], h2⟩
    · rename_i e
      obtain ⟨k', h3, h4⟩ := unwind_rel h2 hu
      exact ⟨k', by simp only [exitTo]; rw [if_neg (by simpa using e)]; exact h3, h4⟩
  | .lp c :: K, .inLoop c' :: k, _, h, hu => by
    simp only [unwind] at hu
    obtain ⟨k', h1, h2⟩ := unwind_rel h.2.2 hu
    exact ⟨k', by simp only [exitTo]; exact h1, h2⟩

theorem LexRun.mono {T : Tab} {R R' : Run} (h : LeR R R') {d : Nat} : ∀ {l : List AOper} {s sf : St} {fs : List Foot}, LexRun T R d l s fs sf → LexRun T R' d l s fs sf
  | [], _, _, _, e => e
  | _ :: _, _, _, _, ⟨s', fs', h1, h2, h3⟩ => ⟨s', fs', operF_mono h h1, h2, LexRun.mono h h3⟩

section
variable {T : Tab} {d : Nat} {K : List It} {r : St}

theorem ops_split : ∀ (l : List AOper) (n : Nat) (s : St), runF T n d (.code (.ops l) :: K) s = some r → ∃ m s' fs, m < n ∧ LexRun T (runF T (n - 1)) d l s fs s' ∧ runF T m d K s' = some r := by
  intro l
  induction l with
  | nil =>
    intro n s h
    cases n with
    | zero => simp [runF] at h
    | succ n =>
      simp only [runF] at h
      exact ⟨n, s, [], by omega, ⟨rfl, rfl⟩, h⟩
  | cons o l ih =>
    intro n s h
    cases n with
    | zero => simp [runF] at h
    | succ n =>
      simp only [runF] at h
      split at h
      · rename_i s1 h1
        obtain ⟨m, s', fs, g1, g2, g3⟩ := ih n s1 h
        exact ⟨m, s', _ :: fs, by omega, ⟨s1, fs, h1, rfl, g2.mono (runF_le T (by omega))⟩, g3⟩
      · cases h

theorem opsU_split : ∀ (l : List AOper) (n : Nat) (s : St) (f0 : List Foot) (prs : List (Nat × Nat)), runF T n d (.code (.opsU f0 l prs) :: K) s = some r →
    ∃ m s' fs, m < n ∧ LexRun T (runF T (n - 1)) d l s fs s' ∧ okPrs (f0 ++ fs) prs = true ∧ runF T m d K s' = some r := by
  intro l
  induction l with
  | nil =>
    intro n s f0 prs h
    cases n with
    | zero => simp [runF] at h
    | succ n =>
      simp only [runF] at h
      split at h
      · rename_i hp
        exact ⟨n, s, [], by omega, ⟨rfl, rfl⟩, by rw [List.append_nil]; exact hp, h⟩
      · cases h
  | cons o l ih =>
    intro n s f0 prs h
    cases n with
    | zero => simp [runF] at h
    | succ n =>
      simp only [runF] at h
      split at h
      · rename_i s1 h1
        obtain ⟨m, s', fs, g1, g2, g3, g4⟩ := ih n s1 _ prs h
        exact ⟨m, s', _ :: fs, by omega, ⟨s1, fs, h1, rfl, g2.mono (runF_le T (by omega))⟩, by rw [List.append_assoc] at g3; exact g3, g4⟩
      · cases h

/-- A region's run, cut off from what follows. -/
theorem reg_split {c : AC} {n : Nat} {s : St} (hc : (∃ l, c = .ops l) ∨ ∃ l prs, c = .opsU [] l prs) (h : runF T n d (.code c :: K) s = some r) : ∃ m s', m < n ∧ RegRun T (runF T (n - 1)) d c s s' ∧ runF T m d K s' = some r := by
  rcases hc with ⟨l, rfl⟩ | ⟨l, prs, rfl⟩
  · obtain ⟨m, s', fs, h1, h2, h3⟩ := ops_split l n s h
    exact ⟨m, s', h1, .inl ⟨l, fs, rfl, h2⟩, h3⟩
  · obtain ⟨m, s', fs, h1, h2, h3, h4⟩ := opsU_split l n s [] prs h
    exact ⟨m, s', h1, .inr ⟨l, fs, prs, rfl, h2, h3⟩, h4⟩
end

theorem drawOf_shape {ops : List Oper} {l : List AOper} {c : AC} (h : drawOf ops l = some c) : (∃ l, c = .ops l) ∨ ∃ l prs, c = .opsU [] l prs := by
  unfold drawOf at h
  split at h
  · obtain rfl := Option.some.inj h
    split
    · exact .inl ⟨_, rfl⟩
    · exact .inr ⟨_, _, rfl⟩
  · cases h

/-- One run of the small machine is a run of Go's. -/
def Main (P : Program) (T : Tab) (n : Nat) : Prop := ∀ d K s r, runF T n d K s = some r → ∀ (nt : Nat) (b : Frame) (k : List Item) (cs : List Frame) (a : Act) (w : World) (φ : Id → Option Addr), KRel P nt K k → SR nt w φ s a →
  ∃ a' w' φ' todo, Steps P (lone (b.at a k) cs w) (lone { b.at a' todo with mode := .returning } cs w') ∧ SR nt w' φ' r a' ∧ Ext w φ s.H w' φ' r.H ∧ a'.defers = a.defers

theorem main_step {T : Tab} (hm : P.follows .mixedOrders = true) {n : Nat} (ih : ∀ m, m < n → Main P T m) (hcall : ∀ m, m < n → CallOK P T (runF T m)) : Main P T n := by
  intro d K s r h nt b k cs a w φ hK hs
  cases n with
  | zero => simp [runF] at h
  | succ n =>
    -- one step that changes nothing but what is still to be run
    have same : ∀ (K' : List It) (k' : List Item), runF T n d K' s = some r → KRel P nt K' k' → step P (lone (b.at a k) cs w) = .next (lone (b.at a k') cs w) →
        ∃ a' w' φ' todo, Steps P (lone (b.at a k) cs w) (lone { b.at a' todo with mode := .returning } cs w') ∧ SR nt w' φ' r a' ∧ Ext w φ s.H w' φ' r.H ∧ a'.defers = a.defers := by
      intro K' k' h1 h2 h3
      obtain ⟨a', w', φ', todo, g1, g2, g3, g4⟩ := ih n (by omega) d K' s r h1 nt b k' cs a w φ h2 hs
      exact ⟨a', w', φ', todo, .head h3 g1, g2, g3, g4⟩
    cases K with
    | nil =>
      cases k with
      | cons => exact hK.elim
      | nil =>
        simp only [runF] at h
        obtain rfl := Option.some.inj h
        exact ⟨a, w, φ, [], .one step_end, hs, Ext.refl _ _ _, rfl⟩
    | cons it K =>
      cases it with
      | blk i =>
        cases k with
        | nil => exact hK.elim
        | cons x k =>
          cases x <;> first | (exact hK.elim) | skip
          obtain ⟨rfl, hK⟩ := hK
          simp only [runF] at h
          exact same K k h hK step_inBlock
      | lp c =>
        cases k with
        | nil => exact hK.elim
        | cons x k =>
          cases x <;> first | (exact hK.elim) | skip
          obtain ⟨h1, h2, hK⟩ := hK
          simp only [runF] at h
          refine same _ _ h ?_ step_inLoop
          exact ⟨h1, h2, h1, h2, hK⟩
      | code c =>
        cases k with
        | nil => exact hK.elim
        | cons x k =>
          cases x <;> first | (exact hK.elim) | skip
          rename_i c'
          obtain ⟨h1, h2, hK⟩ := hK
          cases c' with
          | skip =>
            simp only [codeOf] at h1
            obtain rfl := Option.some.inj h1
            simp only [runF] at h
            exact same _ _ h hK step_skip
          | region id ops draw =>
            have hreg : RegOf P ops draw c ∧ ((∃ l, c = .ops l) ∨ ∃ l prs, c = .opsU [] l prs) := by
              simp only [codeOf] at h1
              split at h1
              · rename_i l hl
                split at h1
                · rename_i hd
                  exact ⟨⟨l, hl, .inr ⟨hd, h1⟩⟩, drawOf_shape h1⟩
                · rename_i hd
                  obtain rfl := Option.some.inj h1
                  exact ⟨⟨l, hl, .inl ⟨by simpa using hd, rfl⟩⟩, .inl ⟨l, rfl⟩⟩
              · cases h1
            obtain ⟨m, s', g1, g2, g3⟩ := reg_split hreg.2 h
            rw [Nat.add_sub_cancel] at g2
            have hwp := region_sound (P := P) (id := id) (Q := fun e a' w' => e = .normal ∧ ∃ φ', SR nt w' φ' s' a' ∧ Ext w φ s.H w' φ' s'.H ∧ a'.defers = a.defers) hm hreg.1 h2 g2 (hcall n (by omega)) hs
              (fun a' w' φ' e1 e2 e3 => ⟨rfl, φ', e1, e2, e3⟩)
            obtain ⟨e, a1, w1, ⟨rfl, φ1, e1, e2, e3⟩, harr⟩ := hwp b k cs
            obtain ⟨a', w', φ', todo, k1, k2, k3, k4⟩ := ih m (by omega) d K s' r g3 nt b k cs a1 w1 φ1 hK e1
            exact ⟨a', w', φ', todo, .trans harr k1, k2, e2.trans k3, k4.trans e3⟩
          | seq x y =>
            simp only [codeOf] at h1
            split at h1
            · rename_i x' y' hx hy
              obtain rfl := Option.some.inj h1
              simp only [okD, Bool.and_eq_true] at h2
              simp only [runF] at h
              refine same _ _ h ?_ step_seq
              exact ⟨hx, h2.1, hy, h2.2, hK⟩
            · cases h1
          | cond q x y =>
            simp only [codeOf] at h1
            split at h1
            · rename_i q' x' y' hq hx hy
              obtain rfl := Option.some.inj h1
              simp only [okD, Bool.and_eq_true] at h2
              simp only [runF] at h
              split at h
              · rename_i t ht
                have hrel := opd_rel hs.env hq
                rw [ht] at hrel
                have hq : a.eval q = .bool t := hrel.1
                refine same _ _ h ?_ (step_cond hq)
                cases t
                · exact ⟨hy, h2.2, hK⟩
                · exact ⟨hx, h2.1, hK⟩
              · cases h
            · cases h1
          | block i x =>
            simp only [codeOf] at h1
            split at h1
            · rename_i x' hx
              obtain rfl := Option.some.inj h1
              simp only [okD] at h2
              simp only [runF] at h
              refine same _ _ h ?_ step_block
              exact ⟨hx, h2, rfl, hK⟩
            · cases h1
          | loop x =>
            simp only [codeOf] at h1
            split at h1
            · rename_i x' hx
              obtain rfl := Option.some.inj h1
              simp only [okD] at h2
              simp only [runF] at h
              refine same _ _ h ?_ step_loop
              exact ⟨hx, h2, hx, h2, hK⟩
            · cases h1
          | exit i =>
            simp only [codeOf] at h1
            obtain rfl := Option.some.inj h1
            simp only [runF] at h
            split at h
            · rename_i K' hu
              obtain ⟨k', e1, e2⟩ := unwind_rel hK hu
              exact same _ _ h e2 (step_exit e1)
            · cases h
          | ret =>
            simp only [codeOf] at h1
            obtain rfl := Option.some.inj h1
            simp only [runF] at h
            obtain rfl := Option.some.inj h
            exact ⟨a, w, φ, _, .one step_ret, hs, Ext.refl _ _ _, rfl⟩
          | _ => simp [codeOf] at h1
end Go.Am

/- The small machine against Go's: calls. -/
namespace Go.Am
set_option linter.unusedSimpArgs false
set_option linter.unusedVariables false
variable {P : Program}

structure TabOK (P : Program) (T : Tab) : Prop where
  mix : P.follows .mixedOrders = true
  fn : ∀ f F, T.fn f = some F → ∃ fn, P.funcs[f]? = some fn ∧ fn.name ≠ "runtime.NumGoroutine" ∧ fnOf P fn = some F
  nat : ∀ f g, T.nat f = some g → Callable P f ∧ ∀ (ts us : List TV) (w : World) (φ : Id → Option Addr) (vals : List Value), g ts = some us → Sim w φ H0 → VTup (ctx w φ H0) (ts.map .c) vals →
    Calls P f vals.toArray w (fun e w' => ∃ v, e = .returned v ∧ VRel (ctx w' φ H0) (tupOf (us.map .c)) v ∧ Grown w w')

theorem fnOf_spec {fn : Func} {F : AFn} (h : fnOf P fn = some F) : ∃ c, fn.body = some c ∧ resOf P fn.results.toList = some F.res ∧ codeOf P c = some F.body ∧ okD fn.ntmps F.body = true ∧ F.np ≤ fn.ntmps := by
  unfold fnOf at h
  split at h
  · rename_i c r hc hr
    split at h
    · rename_i b hb
      split at h
      · rename_i hk
        obtain rfl := Option.some.inj h
        exact ⟨c, hc, hr, hb, hk.1, hk.2⟩
      · cases h
    · cases h
  · cases h

theorem TabOK.callable {T : Tab} (hT : TabOK P T) {f : Nat} {F : AFn} (h : T.fn f = some F) : Callable P f := by
  obtain ⟨fn, h1, h2, h3⟩ := hT.fn f F h
  obtain ⟨c, h4, _⟩ := fnOf_spec h3
  exact ⟨fn, h1, h2, by rw [h4]; rfl⟩

theorem VTup.get {X : Ctx} : ∀ {l : List AV} {vs : List Value}, VTup X l vs → ∀ t : Nat, VRel X (l.getD t .undef) (vs.getD t undef)
  | [], [], _, t => by simp [VRel]
  | x :: r, v :: q, h, t => by
    cases t with
    | zero => exact h.1
    | succ t => simpa using VTup.get h.2 t

theorem callB_sound {T : Tab} (hT : TabOK P T) {n : Nat} (hM : Main P T n) {d f : Nat} {args rs : List AV} {H H' : Heap} {nx nx' : Nat} (h : callB T (runF T n) d f args H nx = some (rs, H', nx')) {w : World} {φ : Id → Option Addr} {vals : List Value}
    (hs : Sim w φ H) (hv : VTup (ctx w φ H) args vals) :
    Callable P f ∧ Calls P f vals.toArray w (fun e w' => ∃ v φ', e = .returned v ∧ VRel (ctx w' φ' H') (tupOf rs) v ∧ Sim w' φ' H' ∧ Ext w φ H w' φ' H') := by
  unfold callB at h
  split at h
  · rename_i F hF
    split at h
    · rename_i hnp
      split at h
      · rename_i s hrun
        split at h
        · rename_i rs' hres
          obtain ⟨rfl, rfl, rfl⟩ := so3 h
          refine ⟨hT.callable hF, ?_⟩
          obtain ⟨fn, h1, h2, h3⟩ := hT.fn f F hF
          obtain ⟨c, h4, h5, h6, h7, h8⟩ := fnOf_spec h3
          have hlen := hv.length
          intro cs
          let b : Frame := { (default : Frame) with fn := f, kind := .normal }
          have henter : Frame.enter P f vals.toArray .normal =
              b.at { tmps := vals.toArray ++ Array.replicate (fn.ntmps - vals.toArray.size) undef, defers := [] } [.code c] := by
            simp [Frame.enter, Frame.at, h1, h4, b]
          have hsr : SR fn.ntmps w φ ⟨bindArgs args, H, nx⟩ { tmps := vals.toArray ++ Array.replicate (fn.ntmps - vals.toArray.size) undef, defers := [] } := by
            refine ⟨hs, ?_, by simp; omega⟩
            intro t
            have h9 := hv.get t
            by_cases hlt : t < vals.length
            · have : (vals.toArray ++ Array.replicate (fn.ntmps - vals.toArray.size) undef).getD t undef = vals.getD t undef := by
                rw [Array.getD_eq_getD_getElem?, Array.getElem?_append_left (by simpa using hlt)]
                simp
              simp only [bindArgs, this]
              exact h9
            · have : bindArgs args t = .undef := by
                simp only [bindArgs, List.getD_eq_getElem?_getD]
                rw [List.getElem?_eq_none (by omega)]; rfl
              simp only [this]
              trivial
          obtain ⟨a', w', φ', todo, g1, g2, g3, g4⟩ := hM d [.code F.body] _ s hrun fn.ntmps b [.code c] cs _ w φ ⟨h6, h7, trivial⟩ hsr
          rw [← henter] at g1
          obtain ⟨v, e1, e2⟩ := results_rel (P := P) g2 h5 hres
          exact ⟨.returned v, w', _, ⟨v, φ', rfl, e2, g2.sim, g3⟩, g1, rfl, rfl, g4, rfl, fn, h1, e1⟩
        · cases h
      · cases h
    · cases h
  · cases h

/-! ### data of results and of arguments -/
section
variable {w : World} {φ : Id → Option Addr} {H : Heap}

theorem frz_tup_rel (hs : Sim w φ H) {n : Nat} : ∀ {l : List AV} {ts : List TV} {vs : List Value}, NoW H (idsOfs H n l) → VTup (ctx w φ H) l vs → frzs H n l = some ts → VTup (ctx w φ H) (ts.map .c) vs
  | [], ts, vs, _, hr, hf => by
    simp only [frzs] at hf
    obtain rfl := Option.some.inj hf
    exact hr
  | x :: r, ts, vs, hn, hr, hf => by
    simp only [frzs] at hf
    simp only [idsOfs] at hn
    split at hf
    · rename_i y hy
      split at hf
      · rename_i ys hys
        obtain rfl := Option.some.inj hf
        cases vs with
        | nil => exact hr.elim
        | cons v q =>
          exact ⟨frz_rel hs n x y v (fun id hi => hn id (by simp [hi])) hr.1 hy, frz_tup_rel hs (fun id hi => hn id (by simp [hi])) hr.2 hys⟩
      · cases hf
    · cases hf

theorem frzs_length {n : Nat} : ∀ {l : List AV} {ts : List TV}, frzs H n l = some ts → ts.length = l.length
  | [], ts, hf => by simp only [frzs] at hf; obtain rfl := Option.some.inj hf; rfl
  | x :: r, ts, hf => by
    simp only [frzs] at hf
    split at hf
    · split at hf
      · rename_i ys hys
        obtain rfl := Option.some.inj hf
        simp [frzs_length hys]
      · cases hf
    · cases hf

theorem tupOf_rel {X : Ctx} {l : List AV} {v : Value} (h : VRel X (tupOf l) v) : ∃ vs : List Value, VTup X l vs ∧ ∀ (X' : Ctx) (l' : List AV), l'.length = l.length → VTup X' l' vs → VRel X' (tupOf l') v := by
  unfold tupOf at h
  split at h
  · rename_i x
    refine ⟨[v], ⟨h, trivial⟩, fun X' l' hl h' => ?_⟩
    cases l' with
    | nil => simp at hl
    | cons y q =>
      cases q with
      | nil => exact h'.1
      | cons => simp at hl
  · rename_i hne
    obtain ⟨vs, rfl, hvs⟩ := h
    refine ⟨vs, hvs, fun X' l' hl h' => ?_⟩
    unfold tupOf
    split
    · rename_i y
      cases l with
      | nil => simp at hl
      | cons x q => cases q with
        | nil => exact (hne x rfl).elim
        | cons => simp at hl
    · exact ⟨vs, rfl, h'⟩

theorem vtup_c {X X' : Ctx} (h : LeMem X.m X'.m) : ∀ {l : List TV} {vs : List Value}, VTup X (l.map .c) vs → VTup X' (l.map .c) vs
  | [], [], _ => trivial
  | [], _ :: _, e => e.elim
  | t :: r, [], e => e.elim
  | t :: r, v :: q, e => ⟨TRel.mono h t v e.1, vtup_c h e.2⟩

theorem plain_any {m m' : Mem} : ∀ {l : List TV} {vs : List Value}, l.all TV.plain = true → TRels m l vs → TRels m' l vs
  | [], [], _, _ => trivial
  | [], _ :: _, _, h => h.elim
  | _ :: _, [], _, h => h.elim
  | t :: r, v :: q, hp, h => by
    simp only [List.all_cons, Bool.and_eq_true] at hp
    refine ⟨?_, h.2.1, plain_any hp.2 h.2.2⟩
    cases t with
    | s x => exact h.1
    | agg => simp [TV.plain] at hp
    | sl => simp [TV.plain] at hp

theorem scalar_any {m m' : Mem} {t : TV} {v : Value} (hp : t.scalar = true) (h : TRel m t v) : TRel m' t v := by
  cases t with
  | s x => exact h
  | agg cs => obtain ⟨vs, e, hvs⟩ := h; exact ⟨vs, e, plain_any hp hvs⟩
  | sl => simp [TV.scalar] at hp

theorem vtup_scalar {X X' : Ctx} : ∀ {l : List TV} {vs : List Value}, l.all TV.scalar = true → VTup X (l.map .c) vs → VTup X' (l.map .c) vs
  | [], [], _, _ => trivial
  | [], _ :: _, _, h => h.elim
  | _ :: _, [], _, h => h.elim
  | t :: r, v :: q, hp, h => by
    simp only [List.all_cons, Bool.and_eq_true] at hp
    exact ⟨scalar_any hp.1 h.1, vtup_scalar hp.2 h.2⟩

theorem noW_lockL (l : List Id) : NoW (lockL H l) l := by
  intro id hi ob ho
  rw [lockL_at, if_pos hi] at ho
  split at ho
  · obtain rfl := Option.some.inj ho; rfl
  · cases ho
theorem noW_lockAll (l : List Id) : NoW (lockAll H) l := by
  intro id _ ob ho
  unfold lockAll at ho
  split at ho
  · obtain rfl := Option.some.inj ho; rfl
  · cases ho
theorem lockAll_ag (id : Id) : AgR H (lockAll H) id := by
  cases h : H id with
  | none => exact .inl ⟨h, by simp only [lockAll, h]⟩
  | some b => exact .inr ⟨b, { b with w := false }, h, by simp only [lockAll, h], rfl, rfl, rfl⟩

/-- A result, read as data: what it reaches is locked. -/
theorem freeze_result {w0 : World} {φ0 : Id → Option Addr} {Hs : Heap} (hs : Sim w φ H) (he : Ext w0 φ0 Hs w φ H) {rs : List AV} {us : List TV} {v : Value} (hr : VRel (ctx w φ H) (tupOf rs) v) (hf : frzs H 12 rs = some us) :
    ∃ Hc, VRel (ctx w φ Hc) (tupOf (us.map .c)) v ∧ Ext w0 φ0 Hs w φ Hc := by
  have hlk := lk_lockL H (idsOfs H 12 rs)
  have hs' := hlk.sim hs
  obtain ⟨e1, e2⟩ := frzs_ag (H := H) (H1 := lockL H (idsOfs H 12 rs)) 12 rs (fun id _ => lockL_ag _ _)
  refine ⟨lockL H (idsOfs H 12 rs), ?_, he.trans hlk.ext⟩
  have hr' := VRel.mono ((hlk.ext (w := w) (φ := φ)).leCtx hs.pl) _ _ hr
  obtain ⟨vs, h1, h2⟩ := tupOf_rel hr'
  refine h2 _ _ (by simp [frzs_length hf]) (frz_tup_rel hs' (n := 12) ?_ h1 (by rw [e1, hf]))
  rw [e2]
  exact noW_lockL _
end

/-- A call on data alone. -/
theorem closed_sound {T : Tab} (hT : TabOK P T) {n : Nat} (hM : Main P T n) {f : Nat} {ts us : List TV} (h : callC T (runF T n) f ts = some us) {w : World} {φ : Id → Option Addr} {vals : List Value}
    (hs : Sim w φ H0) (hv : VTup (ctx w φ H0) (ts.map .c) vals) :
    Callable P f ∧ Calls P f vals.toArray w (fun e w' => ∃ v φ' Hc, e = .returned v ∧ VRel (ctx w' φ' Hc) (tupOf (us.map .c)) v ∧ Ext w φ H0 w' φ' Hc) := by
  unfold callC at h
  split at h
  · rename_i g hg
    obtain ⟨h1, h2⟩ := hT.nat f g hg
    refine ⟨h1, (h2 ts us w φ vals h hs hv).mono ?_⟩
    rintro e w' ⟨v, rfl, h3, h4⟩
    exact ⟨v, φ, H0, rfl, h3, h4.ext hs⟩
  · split at h
    · rename_i rs Hc nx' hb
      obtain ⟨h1, h2⟩ := callB_sound hT hM hb hs hv
      refine ⟨h1, h2.mono ?_⟩
      rintro e w' ⟨v, φ', rfl, h3, h4, h5⟩
      obtain ⟨Hc', g1, g2⟩ := freeze_result h4 h5 h3 h
      exact ⟨v, φ', Hc', rfl, g1, g2⟩
    · cases h

open Classical in
/-- Every block that may be written is fenced off. -/
noncomputable def fence (φ : Id → Option Addr) (H : Heap) : Id → Option Addr := fun id => match id with
  | .ex b => if Mut φ H b then some ⟨b, 0, none⟩ else none
  | _ => none

theorem fence_mut {φ : Id → Option Addr} {H : Heap} {b : Nat} : Mut (fence φ H) H0 b ↔ Mut φ H b := by
  constructor
  · rintro (⟨o, ob, a, h1, _⟩ | ⟨k, a, h1, rfl⟩)
    · cases h1
    · unfold fence at h1
      simp only at h1
      split at h1
      · rename_i hm
        obtain rfl := Option.some.inj h1
        exact hm
      · cases h1
  · intro h
    exact .inr ⟨b, ⟨b, 0, none⟩, by unfold fence; simp only; rw [if_pos h], rfl⟩

theorem fence_imm {w : World} {φ : Id → Option Addr} {H : Heap} : imm w (fence φ H) H0 = imm w φ H := by
  funext a
  unfold imm
  by_cases h : Mut φ H a.block
  · rw [if_pos h, if_pos (fence_mut.2 h)]
  · rw [if_neg h, if_neg (fun e => h (fence_mut.1 e))]

theorem mut_lt {w : World} {φ : Id → Option Addr} {H : Heap} (hs : Sim w φ H) {b : Nat} (h : Mut φ H b) : b < w.heap.size := by
  rcases h with ⟨o, ob, a, _, _, h3, rfl⟩ | ⟨k, a, h1, rfl⟩
  · exact hs.pl o a h3
  · exact hs.pl _ a h1

theorem fence_sim {w : World} {φ : Id → Option Addr} {H : Heap} (hs : Sim w φ H) : Sim w (fence φ H) H0 := by
  refine ⟨?_, fun o ob h => (by cases h), fun o ob p oc b c h => (by cases h), fun o ob h => (by cases h), fun o ob b k c h => (by cases h)⟩
  intro o a h
  unfold fence at h
  split at h
  · split at h
    · rename_i hm
      obtain rfl := Option.some.inj h
      exact mut_lt hs hm
    · cases h
  · cases h

theorem fence_grown {w w' : World} {φ φ' : Id → Option Addr} {H Hc : Heap} (h : Ext w (fence φ H) H0 w' φ' Hc) : Grown w w' := by
  refine ⟨h.os, h.tape, h.output, h.size, fun b hb => ?_⟩
  by_cases hm : Mut φ H b
  · exact h.exh b ⟨b, 0, none⟩ (by unfold fence; simp only; rw [if_pos hm])
  · exact h.fr b hb (fun e => hm (fence_mut.1 e))

theorem fence_back {w w' : World} {φ φ' : Id → Option Addr} {H Hc : Heap} (h : Ext w (fence φ H) H0 w' φ' Hc) : LeMem (imm w' φ' Hc) (imm w' φ H) := by
  intro a v ha
  rw [imm_some] at ha ⊢
  refine ⟨fun hm => ha.1 (.inr ⟨a.block, ⟨a.block, 0, none⟩, ?_, rfl⟩), ha.2⟩
  rw [h.ex]
  unfold fence; simp only; rw [if_pos hm]

end Go.Am

/- A call that runs on a part of the heap: what it does to the whole. -/
namespace Go.Am
set_option linter.unusedSimpArgs false
set_option linter.unusedVariables false

def MutS (φ : Id → Option Addr) (H : Heap) (S : List Id) (b : Nat) : Prop := ∃ o ob a, o ∈ S ∧ H o = some ob ∧ ob.w = true ∧ φ o = some a ∧ a.block = b
open Classical in
noncomputable def phiS (φ : Id → Option Addr) (H : Heap) (S : List Id) : Id → Option Addr := fun id => match id with
  | .ex b => if Mut φ H b ∧ ¬ MutS φ H S b then some ⟨b, 0, none⟩ else none
  | .st d t => φ (.st d t)
  | .dy k => φ (.dy k)

theorem phiS_real {φ : Id → Option Addr} {H : Heap} {S : List Id} {o : Id} (h : o.real) : phiS φ H S o = φ o := by
  cases o with
  | ex k => exact h.elim
  | st => rfl
  | dy => rfl
theorem restr_some {H : Heap} {S : List Id} {o : Id} {b : Obj} (h : restr H S o = some b) : o ∈ S ∧ H o = some b := by
  unfold restr at h; split at h
  · exact ⟨‹_›, h⟩
  · cases h
theorem restr_in {H : Heap} {S : List Id} {o : Id} (h : o ∈ S) : restr H S o = H o := by unfold restr; rw [if_pos h]

mutual
theorem fineV_mono {X Y : Id → Prop} (h : ∀ p, X p → Y p) : ∀ (v : AV), fineV X v → fineV Y v
  | .c _, hv => hv
  | .agg cs, hv => fineVs_mono h cs hv
  | .nils, _ => trivial
  | .undef, _ => trivial
  | .ref o _ _ _ _, hv => h o hv
  | .ptr o _ _ _ _, hv => h o hv
  | .fn _ cs, hv => fineVs_mono h cs hv
  | .tup _, hv => hv.elim
  | .tptr _ _, hv => hv.elim
theorem fineVs_mono {X Y : Id → Prop} (h : ∀ p, X p → Y p) : ∀ (l : List AV), fineVs X l → fineVs Y l
  | [], _ => trivial
  | x :: r, hv => ⟨fineV_mono h x hv.1, fineVs_mono h r hv.2⟩
end

section
variable {w w' : World} {φ φ' : Id → Option Addr} {H H1 H2 : Heap} {S : List Id} {nx : Nat}

theorem mut_phiS (hs : Sim w φ H) {b : Nat} : Mut (phiS φ H S) (restr H S) b ↔ Mut φ H b := by
  constructor
  · rintro (⟨o, ob, a, h1, h2, h3, h4⟩ | ⟨k, a, h1, h2⟩)
    · obtain ⟨hS, hH⟩ := restr_some h1
      rw [phiS_real (hs.re _ _ hH)] at h3
      exact .inl ⟨o, ob, a, hH, h2, h3, h4⟩
    · unfold phiS at h1
      simp only at h1
      split at h1
      · rename_i hc
        obtain rfl := Option.some.inj h1
        subst h2
        exact hc.1
      · cases h1
  · intro h
    by_cases hm : MutS φ H S b
    · obtain ⟨o, ob, a, h1, h2, h3, h4, h5⟩ := hm
      exact .inl ⟨o, ob, a, by rw [restr_in h1]; exact h2, h3, by rw [phiS_real (hs.re _ _ h2)]; exact h4, h5⟩
    · exact .inr ⟨b, ⟨b, 0, none⟩, by unfold phiS; simp only; rw [if_pos ⟨h, hm⟩], rfl⟩

theorem imm_phiS (hs : Sim w φ H) : imm w (phiS φ H S) (restr H S) = imm w φ H := by
  funext a
  unfold imm
  by_cases h : Mut φ H a.block
  · rw [if_pos h, if_pos ((mut_phiS hs).2 h)]
  · rw [if_neg h, if_neg (fun e => h ((mut_phiS hs).1 e))]

mutual
theorem VRel.inS (hs : Sim w φ H) : ∀ (x : AV) (v : Value), okIn (· ∈ S) x → VRel (ctx w φ H) x v → VRel (ctx w (phiS φ H S) (restr H S)) x v
  | .c t, v, _, hr => by
    show TRel (imm w (phiS φ H S) (restr H S)) t v
    rw [imm_phiS hs]; exact hr
  | .agg cs, v, ho, ⟨vs, e, r⟩ => ⟨vs, e, VRels.inS hs cs vs ho r⟩
  | .tup cs, v, ho, ⟨vs, e, r⟩ => ⟨vs, e, VTup.inS hs cs vs ho r⟩
  | .nils, v, _, hr => hr
  | .tptr t off, v, _, hr => by
    obtain ⟨u, b, e, h1, h2, h3⟩ := hr
    refine ⟨u, b, e, h1, ?_, ?_⟩
    · show TRel (imm w (phiS φ H S) (restr H S)) t u
      rw [imm_phiS hs]; exact h2
    · intro j y hj
      show imm w (phiS φ H S) (restr H S) (b.add j) = some y
      rw [imm_phiS hs]; exact h3 j y hj
  | .ref o g n off len, v, ho, hr => by
    obtain ⟨a, cap, e, h1, ob, h2, h3⟩ := hr
    have ho : o ∈ S := ho
    refine ⟨a, cap, e, h1, ob, ?_, ?_⟩
    · show restr H S o = some ob
      rw [restr_in ho]; exact h2
    · refine h3.imp id ?_
      rintro ⟨k1, k2, k3, k4⟩
      refine ⟨k1, k2, k3, k4.imp id ?_⟩
      rintro ⟨b, q1, q2⟩
      exact ⟨b, by show phiS φ H S o = some b; rw [phiS_real (hs.re _ _ h2)]; exact q1, q2⟩
  | .ptr o g n i off, v, ho, hr => by
    obtain ⟨a, e, ob, h2, h3⟩ := hr
    have ho : o ∈ S := ho
    refine ⟨a, e, ob, ?_, ?_⟩
    · show restr H S o = some ob
      rw [restr_in ho]; exact h2
    · refine h3.imp id ?_
      rintro ⟨k1, k2, b, q1, q2⟩
      exact ⟨k1, k2, b, by show phiS φ H S o = some b; rw [phiS_real (hs.re _ _ h2)]; exact q1, q2⟩
  | .fn f caps, v, ho, ⟨vs, e, r⟩ => ⟨vs, e, VTup.inS hs caps vs ho r⟩
  | .undef, _, _, _ => trivial
theorem VRels.inS (hs : Sim w φ H) : ∀ (l : List AV) (vs : List Value), okIns (· ∈ S) l → VRels (ctx w φ H) l vs → VRels (ctx w (phiS φ H S) (restr H S)) l vs
  | [], [], _, _ => trivial
  | x :: r, v :: q, ho, ⟨a, b, c⟩ => ⟨VRel.inS hs x v ho.1 a, b, VRels.inS hs r q ho.2 c⟩
  | [], _ :: _, _, e => e.elim
  | _ :: _, [], _, e => e.elim
theorem VTup.inS (hs : Sim w φ H) : ∀ (l : List AV) (vs : List Value), okIns (· ∈ S) l → VTup (ctx w φ H) l vs → VTup (ctx w (phiS φ H S) (restr H S)) l vs
  | [], [], _, _ => trivial
  | x :: r, v :: q, ho, ⟨a, c⟩ => ⟨VRel.inS hs x v ho.1 a, VTup.inS hs r q ho.2 c⟩
  | [], _ :: _, _, e => e.elim
  | _ :: _, [], _, e => e.elim
end

/-- The part of the heap, for itself. -/
theorem sim_phiS (hs : Sim w φ H) (hc : ∀ o ∈ S, ∀ b, H o = some b → ∀ x ∈ b.es, okIn (· ∈ S) x) : Sim w (phiS φ H S) (restr H S) := by
  refine ⟨?_, ?_, ?_, fun o ob h => hs.re o ob (restr_some h).2, ?_⟩
  · intro o a h
    cases o with
    | ex k =>
      unfold phiS at h
      simp only at h
      split at h
      · rename_i hk
        obtain rfl := Option.some.inj h
        exact mut_lt hs hk.1
      · cases h
    | st => exact hs.pl _ a h
    | dy => exact hs.pl _ a h
  · intro o ob h
    obtain ⟨h1, h2⟩ := restr_some h
    obtain ⟨b, h3, h4⟩ := hs.obj o ob h2
    refine ⟨b, by rw [phiS_real (hs.re _ _ h2)]; exact h3, h4.spot, h4.lt, h4.pos, ?_, h4.fr⟩
    intro i x hx
    obtain ⟨k0, v, k1, k2⟩ := h4.el i x hx
    exact ⟨k0, v, VRel.inS hs x v (hc o h1 ob h2 x (List.mem_of_getElem? hx)) k1, k2⟩
  · intro o ob p oc b c h1 h2 h3 h4 h5 h6
    obtain ⟨_, e1⟩ := restr_some h1
    obtain ⟨_, e2⟩ := restr_some h3
    rw [phiS_real (hs.re _ _ e1)] at h5
    rw [phiS_real (hs.re _ _ e2)] at h6
    exact hs.sep o ob p oc b c e1 h2 e2 h4 h5 h6
  · intro o ob b k c h1 h2 h3
    obtain ⟨hS, e1⟩ := restr_some h1
    rw [phiS_real (hs.re _ _ e1)] at h2
    unfold phiS at h3
    simp only at h3
    split at h3
    · rename_i hk
      obtain rfl := Option.some.inj h3
      intro hb
      rcases hk.1 with ⟨p, oc, a, g1, g2, g3, g4⟩ | ⟨q, a, g1, g2⟩
      · by_cases hpo : p = o
        · subst hpo
          exact hk.2 ⟨p, oc, a, hS, g1, g2, g3, g4⟩
        · exact hs.sep p oc o ob a b g1 g2 e1 hpo g3 h2 (by rw [g4]; exact hb.symm)
      · exact hs.sx o ob b q a e1 h2 g1 (by rw [g2]; exact hb)
    · cases h3

open Classical in
/-- Where the objects lie afterwards. -/
noncomputable def phiN (φ φ' : Id → Option Addr) (H : Heap) (S : List Id) (nx : Nat) : Id → Option Addr := fun o => if region H S nx o ∧ o.real then φ' o else φ o

mutual
theorem VRel.fine {K : Id → Prop} {Hn : Heap} {φn : Id → Option Addr} (hk : ∀ o, K o → Hn o = H1 o ∧ φn o = φ' o) : ∀ (x : AV) (v : Value), fineV K x → VRel (ctx w' φ' H1) x v → VRel (ctx w' φn Hn) x v
  | .c t, v, ho, hr => scalar_any ho hr
  | .agg cs, v, ho, ⟨vs, e, r⟩ => ⟨vs, e, VRels.fine hk cs vs ho r⟩
  | .tup cs, v, ho, _ => ho.elim
  | .nils, v, _, hr => hr
  | .tptr t off, v, ho, hr => ho.elim
  | .ref o g n off len, v, ho, hr => by
    obtain ⟨a, cap, e, h1, ob, h2, h3⟩ := hr
    obtain ⟨e1, e2⟩ := hk o ho
    refine ⟨a, cap, e, h1, ob, ?_, ?_⟩
    · show Hn o = some ob
      rw [e1]; exact h2
    · refine h3.imp id ?_
      rintro ⟨k1, k2, k3, k4⟩
      refine ⟨k1, k2, k3, k4.imp id ?_⟩
      rintro ⟨b, q1, q2⟩
      exact ⟨b, by show φn o = some b; rw [e2]; exact q1, q2⟩
  | .ptr o g n i off, v, ho, hr => by
    obtain ⟨a, e, ob, h2, h3⟩ := hr
    obtain ⟨e1, e2⟩ := hk o ho
    refine ⟨a, e, ob, ?_, ?_⟩
    · show Hn o = some ob
      rw [e1]; exact h2
    · refine h3.imp id ?_
      rintro ⟨k1, k2, b, q1, q2⟩
      exact ⟨k1, k2, b, by show φn o = some b; rw [e2]; exact q1, q2⟩
  | .fn f caps, v, ho, ⟨vs, e, r⟩ => ⟨vs, e, VTup.fine hk caps vs ho r⟩
  | .undef, _, _, _ => trivial
theorem VRels.fine {K : Id → Prop} {Hn : Heap} {φn : Id → Option Addr} (hk : ∀ o, K o → Hn o = H1 o ∧ φn o = φ' o) : ∀ (l : List AV) (vs : List Value), fineVs K l → VRels (ctx w' φ' H1) l vs → VRels (ctx w' φn Hn) l vs
  | [], [], _, _ => trivial
  | x :: r, v :: q, ho, ⟨a, b, c⟩ => ⟨VRel.fine hk x v ho.1 a, b, VRels.fine hk r q ho.2 c⟩
  | [], _ :: _, _, e => e.elim
  | _ :: _, [], _, e => e.elim
theorem VTup.fine {K : Id → Prop} {Hn : Heap} {φn : Id → Option Addr} (hk : ∀ o, K o → Hn o = H1 o ∧ φn o = φ' o) : ∀ (l : List AV) (vs : List Value), fineVs K l → VTup (ctx w' φ' H1) l vs → VTup (ctx w' φn Hn) l vs
  | [], [], _, _ => trivial
  | x :: r, v :: q, ho, ⟨a, c⟩ => ⟨VRel.fine hk x v ho.1 a, VTup.fine hk r q ho.2 c⟩
  | [], _ :: _, _, e => e.elim
  | _ :: _, [], _, e => e.elim
end

theorem fine_tupOf {K : Id → Prop} {Hn : Heap} {φn : Id → Option Addr} (hk : ∀ o, K o → Hn o = H1 o ∧ φn o = φ' o) {l : List AV} {v : Value} (h : fineVs K l) (hr : VRel (ctx w' φ' H1) (tupOf l) v) : VRel (ctx w' φn Hn) (tupOf l) v := by
  obtain ⟨vs, h1, h2⟩ := tupOf_rel hr
  exact h2 _ _ rfl (VTup.fine hk _ _ h h1)

/-- H2: the heap, what is read as data of it locked; H: the heap itself. -/
structure After (w w' : World) (φ φ' : Id → Option Addr) (H H2 H1 : Heap) (S : List Id) (nx : Nat) : Prop where
  sim : Sim w φ H
  lk : Lk H H2
  sm : ∀ o ∈ S, H2 o = H o
  sim1 : Sim w' φ' H1
  ext : Ext w (phiS φ H2 S) (restr H2 S) w' φ' H1
  wr : ∀ o b, region H S nx o → H1 o = some b → b.w = true

theorem After.sim2 (A : After w w' φ φ' H H2 H1 S nx) : Sim w φ H2 := A.lk.sim A.sim

theorem After.mutS (A : After w w' φ φ' H H2 H1 S nx) {b : Nat} : MutS φ H2 S b ↔ MutS φ H S b := by
  constructor
  · rintro ⟨o, ob, a, h1, h2, h3⟩; exact ⟨o, ob, a, h1, by rw [← A.sm o h1]; exact h2, h3⟩
  · rintro ⟨o, ob, a, h1, h2, h3⟩; exact ⟨o, ob, a, h1, by rw [A.sm o h1]; exact h2, h3⟩

/-- A block that is none of the part's own is as it was. -/
theorem After.still (A : After w w' φ φ' H H2 H1 S nx) {b : Nat} (hb : b < w.heap.size) (hm : ¬ MutS φ H S b) : w'.heap[b]? = w.heap[b]? := by
  by_cases h : Mut φ H2 b
  · have : phiS φ H2 S (.ex b) = some ⟨b, 0, none⟩ := by
      unfold phiS; simp only; rw [if_pos ⟨h, fun e => hm (A.mutS.1 e)⟩]
    exact A.ext.exh b _ this
  · exact A.ext.fr b hb (fun e => h ((mut_phiS A.sim2).1 e))

theorem After.not_mutS (A : After w w' φ φ' H H2 H1 S nx) {o : Id} {ob : Obj} {b : Addr} (ho : H o = some ob) (hb : φ o = some b) (hn : o ∉ S) : ¬ MutS φ H S b.block := by
  rintro ⟨p, oc, a, h1, h2, h3, h4, h5⟩
  exact A.sim.sep p oc o ob a b h2 h3 ho (fun e => hn (e ▸ h1)) h4 hb h5

/-- What lies in the region afterwards lies in no block of the rest's that may be written. -/
theorem After.apart (A : After w w' φ φ' H H2 H1 S nx) {o : Id} {ob : Obj} {b : Addr} (hr : region H S nx o) (ho : H1 o = some ob) (hb : φ' o = some b) (hlt : b.block < w.heap.size) : MutS φ H S b.block := by
  have hw := A.wr o ob hr ho
  have h1 : Mut φ' H1 b.block := .inl ⟨o, ob, b, ho, hw, hb, rfl⟩
  have h2 := (mut_phiS A.sim2).1 (A.ext.mu _ hlt h1)
  refine Classical.byContradiction fun hm => ?_
  have h3 : phiS φ H2 S (.ex b.block) = some ⟨b.block, 0, none⟩ := by
    unfold phiS; simp only; rw [if_pos ⟨h2, fun e => hm (A.mutS.1 e)⟩]
  rw [← A.ext.ex] at h3
  exact A.sim1.sx o ob b _ _ ho hb h3 rfl

theorem region_not {o : Id} {ob : Obj} (h : H o = some ob) (hn : ¬ region H S nx o) : o ∉ S := fun e => hn (.inl e)

theorem After.done (A : After w w' φ φ' H H2 H1 S nx) : Ext w φ H w' (phiN φ φ' H S nx) (over H H1 S nx) ∧ Sim w' (phiN φ φ' H S nx) (over H H1 S nx) ∧
    ∀ o, inK H H1 S nx o → over H H1 S nx o = H1 o ∧ phiN φ φ' H S nx o = φ' o := by
  have hk : ∀ o, inK H H1 S nx o → over H H1 S nx o = H1 o ∧ phiN φ φ' H S nx o = φ' o := by
    intro o ho
    obtain ⟨X, hx, hX⟩ := ho
    obtain ⟨hr, b, hb, _⟩ := hX o hx
    have hre := A.sim1.re o b hb
    refine ⟨?_, ?_⟩
    · unfold over; rw [if_pos hr, if_pos ⟨X, hx, hX⟩]
    · unfold phiN; rw [if_pos ⟨hr, hre⟩]
  -- what there is afterwards
  have cases3 : ∀ o ob, over H H1 S nx o = some ob → (¬ region H S nx o ∧ H o = some ob ∧ phiN φ φ' H S nx o = φ o) ∨
      (region H S nx o ∧ inK H H1 S nx o ∧ H1 o = some ob ∧ phiN φ φ' H S nx o = φ' o) ∨
      (region H S nx o ∧ (∃ b1, H1 o = some b1 ∧ ob = ⟨b1.gen + 1, b1.sz, b1.w, []⟩) ∧ phiN φ φ' H S nx o = φ' o) := by
    intro o ob h
    unfold over at h
    split at h
    · rename_i hr
      split at h
      · rename_i hK
        exact .inr (.inl ⟨hr, hK, h, (hk o hK).2⟩)
      · cases h1 : H1 o with
        | none => rw [h1] at h; cases h
        | some b1 =>
          rw [h1] at h
          refine .inr (.inr ⟨hr, ⟨b1, rfl, (Option.some.inj h).symm⟩, ?_⟩)
          unfold phiN; rw [if_pos ⟨hr, A.sim1.re o b1 h1⟩]
    · rename_i hr
      refine .inl ⟨hr, h, ?_⟩
      unfold phiN; rw [if_neg (fun e => hr e.1)]
  have hex : ∀ k, phiN φ φ' H S nx (.ex k) = φ (.ex k) := fun k => by
    unfold phiN; rw [if_neg (fun e => e.2.elim)]
  have hE : Ext w φ H w' (phiN φ φ' H S nx) (over H H1 S nx) := by
    refine ⟨A.ext.os, A.ext.tape, A.ext.output, A.ext.size, ?_, ?_, A.ext.bs, ?_, hex, ?_⟩
    · intro b hb hm
      refine A.still hb ?_
      rintro ⟨o, ob, a, _, h2, h3, h4, h5⟩
      exact hm (.inl ⟨o, ob, a, h2, h3, h4, h5⟩)
    · rintro b hb (⟨o, ob, a, h1, h2, h3, h4⟩ | ⟨k, a, h1, h2⟩)
      · rcases cases3 o ob h1 with ⟨_, e1, e2⟩ | ⟨hr, _, e1, e2⟩ | ⟨hr, ⟨b1, e1, rfl⟩, e2⟩
        · exact .inl ⟨o, ob, a, e1, h2, by rw [← e2]; exact h3, h4⟩
        · rw [e2] at h3
          subst h4
          obtain ⟨p, oc, c, _, g2, g3, g4, g5⟩ := A.apart hr e1 h3 hb
          exact .inl ⟨p, oc, c, g2, g3, g4, g5⟩
        · rw [e2] at h3
          subst h4
          obtain ⟨p, oc, c, _, g2, g3, g4, g5⟩ := A.apart hr e1 h3 hb
          exact .inl ⟨p, oc, c, g2, g3, g4, g5⟩
      · rw [hex] at h1; exact .inr ⟨k, a, h1, h2⟩
    · intro o x hx
      by_cases hr : region H S nx o
      · have hS : o ∈ S := by
          rcases hr with h | ⟨_, h⟩
          · exact h
          · rw [hx] at h; cases h
        have hre := A.sim.re o x hx
        obtain ⟨x1, g1, g2⟩ := A.ext.ob o x (by rw [restr_in hS, A.sm o hS]; exact hx)
        by_cases hK : inK H H1 S nx o
        · refine ⟨x1, by rw [(hk o hK).1]; exact g1, g2.imp id ?_⟩
          rintro ⟨a, b, c, e⟩
          exact ⟨a, b, c, by rw [(hk o hK).2, e, phiS_real hre]⟩
        · refine ⟨⟨x1.gen + 1, x1.sz, x1.w, []⟩, by unfold over; rw [if_pos hr, if_neg hK, g1]; rfl, .inl (.inl ?_)⟩
          show x.gen < x1.gen + 1
          rcases g2 with g2 | g2
          · unfold Newer at g2; omega
          · omega
      · exact ⟨x, by unfold over; rw [if_neg hr]; exact hx, .inr ⟨rfl, rfl, rfl, by unfold phiN; rw [if_neg (fun e => hr e.1)]⟩⟩
    · intro k a ha
      refine A.still (A.sim.pl _ a ha) ?_
      rintro ⟨o, ob, c, h1, h2, h3, h4, h5⟩
      exact A.sim.sx o ob c k a h2 h4 ha h5
  refine ⟨hE, ?_, hk⟩
  have hctx := hE.leCtx A.sim.pl
  refine ⟨?_, ?_, ?_, ?_, ?_⟩
  · intro o a h
    unfold phiN at h
    split at h
    · exact A.sim1.pl o a h
    · exact Nat.lt_of_lt_of_le (A.sim.pl o a h) A.ext.size
  · intro o ob h
    rcases cases3 o ob h with ⟨hr, e1, e2⟩ | ⟨hr, hK, e1, e2⟩ | ⟨hr, ⟨b1, e1, rfl⟩, e2⟩
    · obtain ⟨b, h1, h2⟩ := A.sim.obj o ob e1
      have hst := A.still h2.lt (A.not_mutS e1 h1 (region_not e1 hr))
      refine ⟨b, by rw [e2]; exact h1, h2.spot, Nat.lt_of_lt_of_le h2.lt A.ext.size, h2.pos, ?_, ?_⟩
      · intro i x hx
        obtain ⟨k0, v, k1, k2, k3⟩ := h2.el i x hx
        refine ⟨k0, v, VRel.mono hctx _ _ k1, k2, fun j u hj => ⟨(k3 j u hj).1, ?_⟩⟩
        rw [cell_same (w := w) (w' := w') (a := b.add (i * ob.sz + j)) (by rw [add_block]; exact hst)]
        exact (k3 j u hj).2
      · intro hw
        obtain ⟨c, e, lo, hi, g1, g2⟩ := h2.fr hw
        exact ⟨c, e, lo, hi, by rw [hst]; exact g1, g2⟩
    · obtain ⟨b, h1, h2⟩ := A.sim1.obj o ob e1
      refine ⟨b, by rw [e2]; exact h1, h2.spot, h2.lt, h2.pos, ?_, h2.fr⟩
      intro i x hx
      obtain ⟨k0, v, k1, k2⟩ := h2.el i x hx
      refine ⟨k0, v, VRel.fine hk x v ?_ k1, k2⟩
      obtain ⟨X, hx', hX⟩ := hK
      obtain ⟨_, b', hb', hf⟩ := hX o hx'
      rw [e1] at hb'
      obtain rfl := Option.some.inj hb'
      have hmono : ∀ p, X p → inK H H1 S nx p := fun p hp => ⟨X, hp, hX⟩
      exact fineV_mono hmono x (hf x (List.mem_of_getElem? hx))
    · obtain ⟨b, h1, h2⟩ := A.sim1.obj o b1 e1
      exact ⟨b, by rw [e2]; exact h1, h2.spot, h2.lt, h2.pos, fun i x hx => (by simp at hx), h2.fr⟩
  · intro o ob p oc b c h1 h2 h3 h4 h5 h6
    have wrp : ∀ (q : Id) (x : Obj), region H S nx q → H1 q = some x → x.w = true := A.wr
    -- an object of the rest and one of the region
    have mix : ∀ (o p : Id) (ob oc : Obj) (b c : Addr), ¬ region H S nx o → H o = some ob → φ o = some b → region H S nx p → H1 p = some oc → φ' p = some c → b.block ≠ c.block := by
      intro o p ob oc b c hr ho hb hp hpo hc e
      obtain ⟨b', g1, g2⟩ := A.sim.obj o ob ho
      rw [hb] at g1
      obtain rfl := Option.some.inj g1
      have := A.apart hp hpo hc (by rw [← e]; exact g2.lt)
      rw [← e] at this
      exact A.not_mutS ho hb (region_not ho hr) this
    have inR : ∀ (q : Id) (x : Obj), over H H1 S nx q = some x → region H S nx q → ∃ y, H1 q = some y ∧ phiN φ φ' H S nx q = φ' q ∧ y.w = true := by
      intro q x hq hr
      rcases cases3 q x hq with ⟨hn, _, _⟩ | ⟨_, _, e1, e2⟩ | ⟨_, ⟨b1, e1, rfl⟩, e2⟩
      · exact (hn hr).elim
      · exact ⟨x, e1, e2, wrp q x hr e1⟩
      · exact ⟨b1, e1, e2, wrp q b1 hr e1⟩
    have outR : ∀ (q : Id) (x : Obj), over H H1 S nx q = some x → ¬ region H S nx q → H q = some x ∧ phiN φ φ' H S nx q = φ q := by
      intro q x hq hr
      rcases cases3 q x hq with ⟨_, e1, e2⟩ | ⟨h, _, _, _⟩ | ⟨h, _, _⟩
      · exact ⟨e1, e2⟩
      · exact (hr h).elim
      · exact (hr h).elim
    by_cases hro : region H S nx o
    · obtain ⟨y, y1, y2, y3⟩ := inR o ob h1 hro
      rw [y2] at h5
      by_cases hrp : region H S nx p
      · obtain ⟨z, z1, z2, z3⟩ := inR p oc h3 hrp
        rw [z2] at h6
        exact A.sim1.sep o y p z b c y1 y3 z1 h4 h5 h6
      · obtain ⟨z1, z2⟩ := outR p oc h3 hrp
        rw [z2] at h6
        exact fun e => mix p o oc y c b hrp z1 h6 hro y1 h5 e.symm
    · obtain ⟨y1, y2⟩ := outR o ob h1 hro
      rw [y2] at h5
      by_cases hrp : region H S nx p
      · obtain ⟨z, z1, z2, z3⟩ := inR p oc h3 hrp
        rw [z2] at h6
        exact mix o p ob z b c hro y1 h5 hrp z1 h6
      · obtain ⟨z1, z2⟩ := outR p oc h3 hrp
        rw [z2] at h6
        exact A.sim.sep o ob p oc b c y1 h2 z1 h4 h5 h6
  · intro o ob h
    rcases cases3 o ob h with ⟨_, e1, _⟩ | ⟨_, _, e1, _⟩ | ⟨_, ⟨b1, e1, rfl⟩, _⟩
    · exact A.sim.re o ob e1
    · exact A.sim1.re o ob e1
    · exact A.sim1.re o b1 e1
  · intro o ob b k c h1 h2 h3
    rw [hex] at h3
    have key : ∀ (y : Obj), region H S nx o → H1 o = some y → φ' o = some b → b.block ≠ c.block := by
      intro y hr hy hb e
      have hlt : b.block < w.heap.size := by rw [e]; exact A.sim.pl _ c h3
      obtain ⟨p, oc, a, _, g2, g3, g4, g5⟩ := A.apart hr hy hb hlt
      exact A.sim.sx p oc a k c g2 g4 h3 (by rw [g5]; exact e)
    rcases cases3 o ob h1 with ⟨hr, e1, e2⟩ | ⟨hr, hK, e1, e2⟩ | ⟨hr, ⟨b1, e1, rfl⟩, e2⟩
    · rw [e2] at h2; exact A.sim.sx o ob b k c e1 h2 h3
    · rw [e2] at h2; exact key ob hr e1 h2
    · rw [e2] at h2; exact key b1 hr e1 h2
theorem frzOr_rel (hs : Sim w φ H) {H0' : Heap} (hag : ∀ id, AgR H0' H id) {x : AV} {v : Value} (hn : NoW H (idsOf H0' 12 x)) (hr : VRel (ctx w φ H) x v) : VRel (ctx w φ H) (frzOr H0' x) v := by
  unfold frzOr
  split
  · rename_i t ht
    obtain ⟨e1, e2⟩ := frz_ag (H := H0') (H1 := H) 12 x (fun id _ => hag id)
    exact frz_rel hs 12 x t v (by rw [e2]; exact hn) hr (by rw [e1, ht])
  · exact hr

theorem sep_rel (hs : Sim w φ H) {H0' : Heap} (hag : ∀ id, AgR H0' H id) : ∀ (keep : List Bool) (vs : List AV) (vals : List Value), NoW H (sepRd H0' keep vs) → VTup (ctx w φ H) vs vals → VTup (ctx w φ H) (sepArgs H0' keep vs) vals
  | keep, [], vals, _, hr => by simpa [sepArgs] using hr
  | _, _ :: _, [], _, hr => hr.elim
  | [], x :: r, v :: q, hn, hr => by
    simp only [sepRd] at hn
    exact ⟨frzOr_rel hs hag (fun id hi => hn id (by simp [hi])) hr.1, sep_rel hs hag [] r q (fun id hi => hn id (by simp [hi])) hr.2⟩
  | b :: k, x :: r, v :: q, hn, hr => by
    simp only [sepRd] at hn
    cases b with
    | true => exact ⟨hr.1, sep_rel hs hag k r q (fun id hi => hn id (by simp [hi])) hr.2⟩
    | false => exact ⟨frzOr_rel hs hag (fun id hi => hn id (by simp [hi])) hr.1, sep_rel hs hag k r q (fun id hi => hn id (by simp [hi])) hr.2⟩
end
end Go.Am

/- The small machine against Go's: whole calls. -/
namespace Go.Am
set_option linter.unusedSimpArgs false
set_option linter.unusedVariables false
variable {P : Program}

theorem callOK_of {T : Tab} (hT : TabOK P T) {n : Nat} (hM : Main P T n) : CallOK P T (runF T n) := by
  intro d f vs H nx v H' nx' h
  unfold callOp at h
  split at h
  · -- it may write
    split at h
    · rename_i rs H1 nx1 hb
      obtain ⟨rfl, rfl, rfl⟩ := so3 h
      constructor
      · unfold callB at hb
        split at hb
        · rename_i F hF; exact hT.callable hF
        · cases hb
      · intro w φ vals hs hv
        obtain ⟨_, h2⟩ := callB_sound hT hM hb hs hv
        exact h2
    · cases h
  · rename_i keep hmo
    split at h
    · rename_i hp
      split at h
      · rename_i rs H1 nx1 hb
        split at h
        · rename_i hq
          obtain ⟨rfl, rfl, rfl⟩ := so3 h
          constructor
          · unfold callB at hb
            split at hb
            · rename_i F hF; exact hT.callable hF
            · cases hb
          · intro w φ vals hs hv
            have hlk := lk_lockL H (sepRd H keep vs)
            have hs2 := hlk.sim hs
            have hsm : ∀ o ∈ reachs H 12 (sepArgs H keep vs), lockL H (sepRd H keep vs) o = H o := fun o ho => by rw [lockL_at, if_neg (hp.2 o ho).2]
            have hv2 := VTup.mono ((hlk.ext (w := w) (φ := φ)).leCtx hs.pl) _ _ hv
            have hv3 := sep_rel hs2 (fun id => lockL_ag _ id) keep vs vals (noW_lockL _) hv2
            have hsS := sim_phiS (S := reachs H 12 (sepArgs H keep vs)) hs2 (fun o ho b hb' => (hp.2 o ho).1 b (by rw [← hsm o ho]; exact hb'))
            have hvS := VTup.inS hs2 _ _ hp.1 hv3
            have hre : restr (lockL H (sepRd H keep vs)) (reachs H 12 (sepArgs H keep vs)) = restr H (reachs H 12 (sepArgs H keep vs)) := restr_ag hsm
            rw [hre] at hsS hvS
            obtain ⟨_, h2⟩ := callB_sound hT hM hb hsS hvS
            refine h2.mono ?_
            rintro e w' ⟨v, φ', rfl, h3, h4, h5⟩
            have A : After w w' φ φ' H (lockL H (sepRd H keep vs)) H1 (reachs H 12 (sepArgs H keep vs)) nx := ⟨hs, hlk, hsm, h4, by rw [hre]; exact h5, hq.2⟩
            obtain ⟨a1, a2, a3⟩ := A.done
            exact ⟨v, phiN φ φ' H (reachs H 12 (sepArgs H keep vs)) nx, rfl, fine_tupOf a3 hq.1 h3, a2, a1⟩
        · cases h
      · cases h
    · cases h
  · split at h
    · rename_i ts hts
      split at h
      · rename_i us hus
        have hcall : Callable P f := by
          unfold callC at hus
          split at hus
          · rename_i g hg; exact (hT.nat f g hg).1
          · split at hus
            · rename_i hb
              unfold callB at hb
              split at hb
              · rename_i F hF; exact hT.callable hF
              · cases hb
            · cases hus
        have key : ∀ (w : World) (φ : Id → Option Addr) (vals : List Value), Sim w φ H → VTup (ctx w φ H) vs vals →
            Calls P f vals.toArray w (fun e w' => ∃ x φ' Hc, e = .returned x ∧ VRel (ctx w' φ' Hc) (tupOf (us.map .c)) x ∧ Ext w (fence φ (lockL H (idsOfs H 12 vs))) H0 w' φ' Hc) := by
          intro w φ vals hs hv
          have hlk := lk_lockL H (idsOfs H 12 vs)
          have hs' := hlk.sim hs
          obtain ⟨e1, e2⟩ := frzs_ag (H := H) (H1 := lockL H (idsOfs H 12 vs)) 12 vs (fun id _ => lockL_ag _ _)
          have hv' := VTup.mono ((hlk.ext (w := w) (φ := φ)).leCtx hs.pl) _ _ hv
          have hv2 : VTup (ctx w φ (lockL H (idsOfs H 12 vs))) (ts.map .c) vals :=
            frz_tup_rel hs' (n := 12) (by rw [e2]; exact noW_lockL _) hv' (by rw [e1, hts])
          have hv3 : VTup (ctx w (fence φ (lockL H (idsOfs H 12 vs))) H0) (ts.map .c) vals :=
            vtup_c (X := ctx w φ (lockL H (idsOfs H 12 vs))) (by
              show LeMem (imm w φ (lockL H (idsOfs H 12 vs))) (imm w (fence φ (lockL H (idsOfs H 12 vs))) H0)
              rw [fence_imm]; exact fun _ _ h => h) hv2
          exact (closed_sound hT hM hus (fence_sim hs') hv3).2
        split at h
        · rename_i hsc
          obtain ⟨rfl, rfl, rfl⟩ := so3 h
          refine ⟨hcall, fun w φ vals hs hv => (key w φ vals hs hv).mono ?_⟩
          rintro e w' ⟨x, φ', Hc, rfl, h1, h2⟩
          have hg := fence_grown h2
          obtain ⟨us', g1, g2⟩ := tupOf_rel h1
          exact ⟨x, φ, rfl, g2 _ _ rfl (vtup_scalar hsc g1), hg.sim hs, hg.ext hs⟩
        · cases h
      · cases h
    · split at h
      · rename_i rs Hc nx1 hb
        split at h
        · rename_i us hus
          split at h
          · rename_i hsc
            obtain ⟨rfl, rfl, rfl⟩ := so3 h
            constructor
            · unfold callB at hb
              split at hb
              · rename_i F hF; exact hT.callable hF
              · cases hb
            · intro w φ vals hs hv
              have hlk := lk_lockAll H
              have hs' := hlk.sim hs
              have hv' := VTup.mono ((hlk.ext (w := w) (φ := φ)).leCtx hs.pl) _ _ hv
              have hargs : ∀ (l : List AV) (q : List Value), VTup (ctx w φ (lockAll H)) l q → VTup (ctx w φ (lockAll H)) (l.map (frzOr H)) q := by
                intro l
                induction l with
                | nil => intro q h; exact h
                | cons x r ih =>
                  intro q h
                  cases q with
                  | nil => exact h.elim
                  | cons y q =>
                    refine ⟨?_, ih q h.2⟩
                    unfold frzOr
                    split
                    · rename_i t ht
                      obtain ⟨e1, e2⟩ := frz_ag (H := H) (H1 := lockAll H) 12 x (fun id _ => lockAll_ag id)
                      exact frz_rel hs' 12 x t y (noW_lockAll _) h.1 (by rw [e1, ht])
                    · exact h.1
              obtain ⟨_, h2⟩ := callB_sound hT hM hb hs' (hargs _ _ hv')
              refine h2.mono ?_
              rintro e w' ⟨x, φ', rfl, h3, h4, h5⟩
              obtain ⟨Hd, g1, g2⟩ := freeze_result h4 h5 h3 hus
              have hg : Grown w w' := by
                refine ⟨h5.os, h5.tape, h5.output, h5.size, fun b hb => ?_⟩
                by_cases hm : Mut φ (lockAll H) b
                · rcases hm with ⟨o, ob, a, k1, k2, _⟩ | ⟨k, a, k1, rfl⟩
                  · have := noW_lockAll (H := H) [o] o (by simp) ob k1
                    rw [this] at k2; cases k2
                  · exact h5.exh k a k1
                · exact h5.fr b hb hm
              obtain ⟨us', k1, k2⟩ := tupOf_rel g1
              exact ⟨x, φ, rfl, k2 _ _ rfl (vtup_scalar hsc k1), hg.sim hs, hg.ext hs⟩
          · cases h
        · cases h
      · cases h

theorem main_all {T : Tab} (hT : TabOK P T) : ∀ n, Main P T n := by
  intro n
  induction n using Nat.strongRecOn with
  | _ n ih => exact main_step hT.mix ih (fun m hm => callOK_of hT (ih m hm))

/-- What the small machine tells of a function on data, Go's code does. -/
theorem sound {T : Tab} (hT : TabOK P T) {f : Nat} {ts us : List TV} (h : callC T (arun T) f ts = some us) {w : World} {φ : Id → Option Addr} {vals : List Value} (hs : Sim w φ H0) (hv : VTup (ctx w φ H0) (ts.map .c) vals) :
    Calls P f vals.toArray w (fun e w' => ∃ v φ' Hc, e = .returned v ∧ VRel (ctx w' φ' Hc) (tupOf (us.map .c)) v ∧ Ext w φ H0 w' φ' Hc) := by
  obtain ⟨n, hn⟩ := callC_cont h
  exact (closed_sound hT (main_all hT n) hn hs hv).2
end Go.Am
