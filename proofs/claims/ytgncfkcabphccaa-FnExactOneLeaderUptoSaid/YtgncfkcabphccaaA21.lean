/- One operation of Go's code against one of the small machine: all of them. -/
import Derived.Test.YtgncfkcabphccaaA20
namespace Go.Am
set_option linter.unusedSimpArgs false
set_option linter.unusedVariables false
variable {P : Program}

section
variable {o : Oper} {ops : Array Oper} {nt : Nat} {a : Act} {w : World} {φ : Id → Option Addr} {H : Heap} {nx : Nat} {E : AEnv} {T : Tab} {R : Run} {d : Nat}

set_option maxHeartbeats 1000000 in
theorem sound_op {k : AOp} {v : AV} {H' : Heap} {nx' : Nat} (h : opOf P o = some k) (hs : SR nt w φ ⟨E, H, nx⟩ a) (hd : ∀ d, o.dst = some d → d < nt)
    (he : operV T R d o.dst E H nx k = some (v, H', nx')) (hok : CallOK P T R) : Does P o nt a w φ H o.dst E v H' nx' := by
  unfold opOf at h
  split at h
  · -- move
    rename_i x hop
    split at h
    · rename_i y hy
      obtain rfl := Option.some.inj h
      simp only [operV] at he
      obtain ⟨rfl, rfl, rfl⟩ := some3 he
      exact does_mov (.inl hop) hy hs hd
    · cases h
  · -- assign
    rename_i x hop
    split at h
    · rename_i y hy
      obtain rfl := Option.some.inj h
      simp only [operV] at he
      obtain ⟨rfl, rfl, rfl⟩ := some3 he
      exact does_mov (.inr hop) hy hs hd
    · cases h
  · -- pick
    rename_i c x y hop
    split at h
    · rename_i c' x' y' hc hx hy
      obtain rfl := Option.some.inj h
      simp only [operV] at he
      split at he
      · rename_i t ht
        obtain ⟨rfl, rfl, rfl⟩ := some3 he
        exact does_pick hop hc hx hy hs hd ht
      · cases he
    · cases h
  · -- nilCheck
    rename_i x hop
    split at h
    · rename_i y hy
      obtain rfl := Option.some.inj h
      simp only [operV] at he
      split at he
      · rename_i e
        obtain ⟨rfl, rfl, rfl⟩ := some3 he
        rw [← e]; exact does_nilc hop hy hs hd (.inl ⟨_, _, e⟩)
      · rename_i e
        obtain ⟨rfl, rfl, rfl⟩ := some3 he
        rw [← e]; exact does_nilc hop hy hs hd (.inr (.inl ⟨_, _, _, _, _, e⟩))
      · rename_i e
        obtain ⟨rfl, rfl, rfl⟩ := some3 he
        rw [← e]; exact does_nilc hop hy hs hd (.inr (.inr ⟨_, _, e⟩))
      · cases he
    · cases h
  · -- alloc
    rename_i t hop
    split at h
    · rename_i z n hz hn
      obtain rfl := Option.some.inj h
      simp only [operV] at he
      split at he
      · rename_i tm hdst
        split at he
        · rename_i hst
          obtain ⟨rfl, rfl, rfl⟩ := some3 he
          have h1 := does_alloc (id := .st d tm) hop hz hs hd hst (stor_cells_pos hz hn)
          exact h1
        · cases he
      · cases he
    · cases h
  · -- box
    rename_i t x hop
    split at h
    · rename_i y hy
      obtain rfl := Option.some.inj h
      simp only [operV] at he
      split at he
      · rename_i tm hdst
        split at he
        · rename_i hst
          obtain ⟨rfl, rfl, rfl⟩ := some3 he
          exact does_box (id := .st d tm) hop hy hs hd hst.1 hst.2
        · cases he
      · cases he
    · cases h
  · -- build
    rename_i t parts hop
    split at h
    · rename_i z fs ps hz ht hps
      split at h
      · cases h
      · rename_i hall
        split at h
        · rename_i l hl
          obtain rfl := Option.some.inj h
          simp only [operV] at he
          split at he
          · rename_i cs hcs
            obtain ⟨rfl, rfl, rfl⟩ := some3 he
            exact does_build hop hz ht hps (by cases hq : (fs.toList.all fun f => (sizeT P f.type).isSome) <;> simp_all) hl hs hd hcs
          · cases he
        · cases h
    · cases h
  · -- buildSlice
    rename_i t len parts hop
    split at h
    · rename_i e ps hel hps
      split at h
      · rename_i s l z hsz hidx hz
        split at h
        · rename_i hc
          obtain rfl := Option.some.inj h
          simp only [operV] at he
          split at he
          · rename_i tm hdst
            split at he
            · rename_i hf
              obtain ⟨rfl, rfl, rfl⟩ := some3 he
              exact does_bslice (id := .st d tm) hop hel hsz ⟨_, hz⟩ hps hidx hc.1 hc.2.1 hc.2.2 hs hd hf
            · cases he
          · cases he
        · cases h
      · cases h
    · cases h
  · -- load
    rename_i t x hop
    split at h
    · rename_i ag s y hag hsz hy
      obtain rfl := Option.some.inj h
      simp only [operV] at he
      split at he
      · rename_i u hu
        obtain ⟨rfl, rfl, rfl⟩ := some3 he
        exact does_load hop hag hsz hy hs hd hu
      · cases he
    · cases h
  · -- store
    rename_i t p x hop
    split at h
    · rename_i s y z hsz hy hz
      obtain rfl := Option.some.inj h
      simp only [operV] at he
      split at he
      · rename_i H1 hH
        obtain ⟨rfl, rfl, rfl⟩ := some3 he
        exact does_store hop hsz hy hz hs hd hH
      · cases he
    · cases h
  · -- binOp
    rename_i op t x y t' hop
    split at h
    · rename_i x' y' hx hy
      split at h
      · rename_i kk ht
        obtain rfl := Option.some.inj h
        simp only [operV] at he
        split at he
        · rename_i u1 u2 e1 e2
          split at he
          · rename_i r hr
            obtain ⟨rfl, rfl, rfl⟩ := some3 he
            exact does_bin hop hx hy hs hd e1 e2 hr
          · cases he
        · cases he
      · rename_i ht
        obtain rfl := Option.some.inj h
        simp only [operV] at he
        split at he
        · rename_i u1 u2 e1 e2
          split at he
          · rename_i r hr
            obtain ⟨rfl, rfl, rfl⟩ := some3 he
            exact does_bin hop hx hy hs hd e1 e2 hr
          · cases he
        · cases he
      · rename_i ht
        obtain rfl := Option.some.inj h
        simp only [operV] at he
        split at he
        · rename_i u1 u2 e1 e2
          split at he
          · obtain ⟨rfl, rfl, rfl⟩ := some3 he
            exact does_binB hop ht hx hy hs hd e1 e2 (.inl ⟨rfl, rfl⟩)
          · obtain ⟨rfl, rfl, rfl⟩ := some3 he
            exact does_binB hop ht hx hy hs hd e1 e2 (.inr ⟨rfl, rfl⟩)
          · cases he
        · cases he
      · rename_i fs ht
        split at h
        · cases h
        · rename_i hg
          split at h
          · rename_i l hl
            obtain rfl := Option.some.inj h
            simp only [operV] at he
            split at he
            · rename_i r hr
              split at he
              · rename_i hag
                obtain ⟨rfl, rfl, rfl⟩ := some3 he
                exact does_binS hop ht (by simpa using hg) hl hx hy hs hd hag.1 hag.2 hr (.inl ⟨rfl, rfl⟩)
              · cases he
            · cases he
          · rename_i l hl
            obtain rfl := Option.some.inj h
            simp only [operV] at he
            split at he
            · rename_i r hr
              split at he
              · rename_i hag
                obtain ⟨rfl, rfl, rfl⟩ := some3 he
                exact does_binS hop ht (by simpa using hg) hl hx hy hs hd hag.1 hag.2 hr (.inr ⟨rfl, rfl⟩)
              · cases he
            · cases he
          · cases h
      · cases h
    · cases h
  · -- unOp
    rename_i op t x hop
    split at h
    · rename_i y hy
      obtain rfl := Option.some.inj h
      simp only [operV] at he
      split at he
      · rename_i u hu
        split at he
        · rename_i r hr
          obtain ⟨rfl, rfl, rfl⟩ := some3 he
          exact does_un hop hy hs hd hu hr
        · cases he
      · cases he
    · cases h
  · -- convert
    rename_i s t x hop
    split at h
    · rename_i k1 k2 y h1 h2 hy
      obtain rfl := Option.some.inj h
      simp only [operV] at he
      split at he
      · rename_i k3 n hn
        obtain ⟨rfl, rfl, rfl⟩ := some3 he
        exact does_conv hop h1 h2 hy hs hd hn
      · cases he
    · rename_i y h1 h2 hy
      obtain rfl := Option.some.inj h
      simp only [operV] at he
      split at he
      · rename_i hst
        obtain ⟨rfl, rfl, rfl⟩ := some3 he
        have : ∃ s, ev E y = .c (.s (.string s)) := by
          unfold AV.isStr at hst
          split at hst
          · rename_i s e; exact ⟨s, e⟩
          · cases hst
        obtain ⟨b, hb⟩ := this
        exact does_same hop h1 h2 hy hs hd hb
      · cases he
    · rename_i e y h1 h2 hy
      split at h
      · rename_i hu8
        obtain rfl := Option.some.inj h
        simp only [operV] at he
        split at he
        · rename_i es hes
          split at he
          · rename_i b hb
            obtain ⟨rfl, rfl, rfl⟩ := some3 he
            exact does_b2s hop h1 h2 hu8 hy hs hd hes hb
          · cases he
        · cases he
      · cases h
    · rename_i e y h1 h2 hy
      split at h
      · rename_i hu8
        obtain rfl := Option.some.inj h
        simp only [operV] at he
        split at he
        · rename_i b hb
          split at he
          · obtain ⟨rfl, rfl, rfl⟩ := some3 he
            exact does_s2b hop h1 h2 hu8 hy hs hd hb
          · cases he
        · cases he
      · cases h
    · cases h
  · -- makeFunc
    rename_i f first caps hop
    split at h
    · rename_i hfirst
      split at h
      · rename_i l hl
        obtain rfl := Option.some.inj h
        simp only [operV] at he
        obtain ⟨rfl, rfl, rfl⟩ := some3 he
        have : first = #[] := by simpa using hfirst
        subst this
        exact does_mkfn hop hl hs hd
      · cases h
    · cases h
  · -- makeSlice
    rename_i t l c hop
    split at h
    · rename_i e n m hel hl hc
      split at h
      · rename_i z s qa qb hz hsz
        split at h
        · rename_i hab
          subst hab
          obtain rfl := Option.some.inj h
          simp only [operV] at he
          split at he
          · rename_i mm hm
            split at he
            · rename_i hcnd
              obtain ⟨rfl, rfl, rfl⟩ := some3 he
              exact does_mksl hop hel hz hsz (isInt_of hs.env hl hm) (isInt_of hs.env hc hm) hs hd hcnd.1 hcnd.2.1 hcnd.2.2.1
            · cases he
          · cases he
        · cases h
      · rename_i z s q1 q2 hz hsz
        split at h
        · rename_i i1 i2 g1 g2
          split at h
          · rename_i hij
            subst hij
            obtain rfl := Option.some.inj h
            simp only [operV] at he
            split at he
            · rename_i mm hm
              have hmi : mm = i1 := by
                have : intOfV (ev E (.k q1)) = some i1 := g1
                rw [this] at hm; exact (Option.some.inj hm).symm
              subst hmi
              split at he
              · rename_i hcnd
                obtain ⟨rfl, rfl, rfl⟩ := some3 he
                exact does_mksl hop hel hz hsz (isInt_of hs.env hl hm) (isInt_of hs.env hc g2) hs hd hcnd.1 hcnd.2.1 hcnd.2.2.1
              · cases he
            · cases he
          · cases h
        · cases h
      · cases h
    · cases h
  · -- slice
    rename_i t x lo hi mx hop
    split at h
    · rename_i y l hh m ht hy hl hhi hm
      obtain rfl := Option.some.inj h
      simp only [operV] at he
      split at he
      · rename_i l' h' m' el eh em
        split at he
        · rename_i u hu
          split at he
          · rename_i hcnd
            obtain ⟨rfl, rfl, rfl⟩ := some3 he
            have hstr : (ev E y).isStr = true := by simpa using hcnd.2
            have : ∃ s, ev E y = .c (.s (.string s)) := by
              unfold AV.isStr at hstr
              split at hstr
              · rename_i s e; exact ⟨s, e⟩
              · cases hstr
            exact does_slice hop (.inl ⟨ht, this⟩) hy hl hhi hm hs hd el eh em hu
          · cases he
        · cases he
      · cases he
    · rename_i e y l hh m ht hy hl hhi hm
      split at h
      · rename_i sz hsz
        obtain rfl := Option.some.inj h
        obtain ⟨_, _, _, hpos, _⟩ := sizeT_info hsz
        simp only [operV] at he
        split at he
        · rename_i l' h' m' el eh em
          split at he
          · rename_i u hu
            split at he
            · rename_i hcnd
              obtain ⟨rfl, rfl, rfl⟩ := some3 he
              have hstr : (ev E y).isStr = false := by
                rw [hcnd.2]
                simp; omega
              refine does_slice hop (.inr ⟨e, sz, ?_, hsz, ?_, ?_, ?_⟩) hy hl hhi hm hs hd el eh em hu
              · unfold elemT; rw [ht]
              · intro s e1; rw [e1] at hstr; simp [AV.isStr] at hstr
              · intro sz2 xs2 e2
                rw [e2] at hu
                simp only [sliceV] at hu
                split at hu
                · rename_i hb
                  obtain rfl := Option.some.inj hu
                  have h4 := hcnd.1
                  simp only [szOk, Bool.or_eq_true, beq_iff_eq, List.isEmpty_iff] at h4
                  rcases h4 with h4 | h4
                  · exact .inl h4
                  · right
                    have h5 := congrArg List.length h4
                    simp only [List.length_take, List.length_drop, List.length_nil] at h5
                    omega
                · cases hu
              · intro p g q f k e2
                rw [e2] at hu
                simp only [sliceV] at hu
                split at hu
                · rename_i ob hob
                  split at hu
                  · obtain rfl := Option.some.inj hu
                    have h4 := hcnd.1
                    simp only [szOk, szOf, hob, beq_iff_eq] at h4
                    exact ⟨ob, hob, h4⟩
                  · cases hu
                · cases hu
            · cases he
          · cases he
        · cases he
      · cases h
    · cases h
  · -- fieldAddr
    rename_i s x f hop
    split at h
    · rename_i fs y ht hy
      split at h
      · rename_i fd hf
        split at h
        · rename_i n hn
          obtain rfl := Option.some.inj h
          simp only [operV] at he
          split at he
          · rename_i e
            obtain ⟨rfl, rfl, rfl⟩ := some3 he
            exact does_faddr hop ht hf hn hy hs hd (.inl ⟨_, _, e, rfl⟩)
          · rename_i e
            obtain ⟨rfl, rfl, rfl⟩ := some3 he
            exact does_faddr hop ht hf hn hy hs hd (.inr ⟨_, _, _, _, _, e, rfl⟩)
          · cases he
        · cases h
      · cases h
    · cases h
  · -- field
    rename_i t x f hop
    split at h
    · rename_i fs y ht hy
      split at h
      · rename_i fd hf
        split at h
        · rename_i s ag hsz hag
          obtain rfl := Option.some.inj h
          simp only [operV] at he
          split at he
          · rename_i hi
            split at he
            · rename_i hle
              split at he
              · rename_i hagt
                obtain ⟨rfl, rfl, rfl⟩ := some3 he
                exact does_field hop ht hf hsz hag hy hs hd hi hle (.inl ⟨hagt, rfl⟩)
              · rename_i hagf
                split at he
                · rename_i u hu
                  obtain ⟨rfl, rfl, rfl⟩ := some3 he
                  exact does_field hop ht hf hsz hag hy hs hd hi hle (.inr ⟨by simpa using hagf, hu⟩)
                · cases he
            · cases he
          · cases he
        · cases h
      · cases h
    · cases h
  · -- indexAddr
    rename_i t x i hop
    split at h
    · rename_i e y j hel hy hj
      split at h
      · rename_i s hsz
        obtain rfl := Option.some.inj h
        simp only [operV] at he
        split at he
        · rename_i jj hjj
          split at he
          · rename_i h0
            split at he
            · rename_i sz' xs hx
              split at he
              · rename_i u hu
                split at he
                · rename_i hss
                  obtain ⟨rfl, rfl, rfl⟩ := some3 he
                  refine does_iaddr hop hel hsz hy hj hs hd hjj h0 (.inl ⟨_, _, _, hx, hu, rfl⟩) ?_
                  intro sz2 xs2 e2
                  rw [hx] at e2
                  cases e2
                  exact hss
                · cases he
              · cases he
            · rename_i p g n off len hx
              split at he
              · rename_i ob hob
                split at he
                · rename_i hcnd
                  obtain ⟨g1, g2, g3, g4, g5⟩ := hcnd
                  obtain ⟨rfl, rfl, rfl⟩ := some3 he
                  refine does_iaddr hop hel hsz hy hj hs hd hjj h0 (.inr ⟨_, _, _, _, _, hx, g4, ⟨ob, hob, g1, g2, g5⟩, rfl⟩) ?_
                  intro sz2 xs2 e2
                  rw [hx] at e2
                  cases e2
                · cases he
              · cases he
            · cases he
          · cases he
        · cases he
      · cases h
    · cases h
  · -- index
    rename_i t x i hop
    split at h
    · rename_i y j ht hy hj
      obtain rfl := Option.some.inj h
      simp only [operV] at he
      split at he
      · rename_i s jj es ej
        split at he
        · rename_i h0
          split at he
          · rename_i b hb
            obtain ⟨rfl, rfl, rfl⟩ := some3 he
            exact does_index hop ht hy hj hs hd es ej h0 hb
          · cases he
        · cases he
      · cases he
    · cases h
  · -- extract
    rename_i x i hop
    split at h
    · rename_i y hy
      obtain rfl := Option.some.inj h
      simp only [operV] at he
      split at he
      · rename_i l hl
        split at he
        · rename_i u hu
          obtain ⟨rfl, rfl, rfl⟩ := some3 he
          exact does_extract hop hy hs hd hl hu
        · cases he
      · cases he
    · cases h
  · -- call
    rename_i c hop
    exact sound_call hop h hs hd he hok
  · cases h
end
end Go.Am
