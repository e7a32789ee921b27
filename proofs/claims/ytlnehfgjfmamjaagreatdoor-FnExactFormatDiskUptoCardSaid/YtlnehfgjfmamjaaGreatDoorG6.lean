/- The machine on typed data against the small machine: operations that hang on a condition. -/
import Derived.Test.YtlnehfgjfmamjaaGreatDoorG5
set_option linter.unusedSimpArgs false
set_option linter.unusedVariables false
namespace Go.Am
inductive OpsTo (T:Tab) (d:Nat):List AOper→St→List Foot→List AOper→St→Prop
 | refl {l:List AOper} {s:St}:OpsTo T d l s [] l s
 | step {o:AOper} {r l':List AOper} {s s1 s':St} {G:List Foot}:operF T (arun T) (8 * d) o s=some s1→OpsTo T d r s1 G l' s'→OpsTo T d (o :: r) s (footO T (8 * d) o s :: G) l' s'
section
variable {tb:PTab} {T:Tab} {n:Nat} {d:Nat}
theorem OpsTo.ops {l l':List AOper} {s s':St} {G:List Foot} (h:OpsTo T d l s G l' s') (Ka:List It):arun T (8 * d) (.code (.ops l) :: Ka) s=arun T (8 * d) (.code (.ops l') :: Ka) s':=by
 induction h with
 | refl=>rfl
 | step h1 _ ih=>rw [arun_op,h1]; exact ih
theorem OpsTo.opsU {l l':List AOper} {s s':St} {G:List Foot} (h:OpsTo T d l s G l' s') (Ka:List It) (prs:List (Nat×Nat)):∀ fs,arun T (8 * d) (.code (.opsU fs l prs) :: Ka) s=arun T (8 * d) (.code (.opsU (fs++G) l' prs) :: Ka) s':=by
 induction h with
 | refl=>intro fs; rw [List.append_nil]
 | @step o r l' s s1 s' G h1 _ ih=>
  intro fs
  rw [arun_opU,h1]
  have:=ih (fs++[footO T (8 * d) o s])
  rw [List.append_assoc] at this
  exact this
theorem OpsTo.one {o:AOper} {r:List AOper} {s s':St} (h:operF T (arun T) (8 * d) o s=some s'):OpsTo T d (o :: r) s [footO T (8 * d) o s] r s':=.step h .refl
theorem OpsTo.trans {l l1 l2:List AOper} {s s1 s2:St} {G G2:List Foot} (h:OpsTo T d l s G l1 s1) (k:OpsTo T d l1 s1 G2 l2 s2):OpsTo T d l s (G++G2) l2 s2:=by
 induction h with
 | refl=>exact k
 | step h1 _ ih=>exact .step h1 (ih k)
theorem opsTo_of:∀ {l:List AOper} {s s':St},arun T (8 * d) [.code (.ops l)] s=some s'→∃ G,OpsTo T d l s G [] s'
 | [],s,s',h=>by
  rw [arun_ops0,arun_nil] at h
  cases h
  exact ⟨[],.refl⟩
 | o :: r,s,s',h=>by
  rw [arun_op] at h
  split at h
  ·rename_i s1 h1
   obtain ⟨G,k⟩:=opsTo_of h
   exact ⟨_,.step h1 k⟩
  ·cases h
theorem takeGrp_spec {g:Nat} {want:Bool}:∀ {l:List AOper} {ds:List Nat} {grp:List AOper} {ts:List Nat} {q:Nat} {a b:Opd} {rest:List AOper},takeGrp tb g want ds l=some (grp,ts,q,a,b,rest) →
  (l=⟨some q,none,.pick (.t g) a b⟩ :: rest∧grp=[]∧ts=[]) ∨
  ∃ t u w o r grp' ts',l=⟨some t,some (u,w),o⟩ :: r∧calm tb o=true∧t≠g∧(u∈ds∨(u=g∧w=want))∧takeGrp tb g want (t :: ds) r=some (grp',ts',q,a,b,rest) ∧
   grp=⟨some t,(if u=g then none else some (u,w)),o⟩ :: grp'∧ts=t :: ts':=by
 intro l ds grp ts q a b rest h
 cases l with
 | nil=>cases h
 | cons x r=>
  obtain ⟨dst,gd,op⟩:=x
  cases dst with
  | none=>simp [takeGrp] at h
  | some t=>
   cases gd with
   | none=>
    left
    cases op with
    | pick c a' b'=>
     cases c with
     | t g'=>
      simp only [takeGrp] at h
      split at h
      ·rename_i hg
       have:=Nat.eq_of_beq_eq_true hg
       subst this
       cases h
       exact ⟨rfl,rfl,rfl⟩
      ·cases h
     | k v=>simp [takeGrp] at h
    | _=>simp [takeGrp] at h
   | some p=>
    obtain ⟨u,w⟩:=p
    right
    simp only [takeGrp] at h
    split at h
    ·rename_i hc
     split at h
     ·rename_i z hz
      cases h
      simp only [Bool.and_eq_true,Bool.or_eq_true,Bool.not_eq_true'] at hc
      obtain ⟨c1,c2,c3⟩:=hc
      refine ⟨t,u,w,op,r,_,_,rfl,c1,?_,?_,hz,?_,rfl⟩
      ·intro e
       subst e
       have:Nat.beq t t=true:=Nat.beq_refl t
       rw [c2] at this; cases this
      ·rcases c3 with c3 | ⟨c3,c4⟩
       ·exact .inl (by simpa using c3)
       ·exact .inr ⟨Nat.eq_of_beq_eq_true c3,beqB_eq c4⟩
      ·congr 1
       cases hu:Nat.beq u g with
       | true=>simp [Nat.eq_of_beq_eq_true hu]
       | false=>
        have:u≠g:=by rintro rfl; rw [Nat.beq_refl] at hu; cases hu
        simp [this]
     ·cases h
    ·cases h
theorem updO_ne {E:AEnv} {dst:Option Nat} {v:AV} {u:Nat} (h:dst≠some u):updO E dst v u=E u:=by
 cases dst with
 | none=>rfl
 | some t=>
  simp only [updO,upd]
  rw [if_neg]
  intro e; subst e; exact h rfl
theorem operF_env {R:Run} {o:AOper} {s s':St} (h:operF T R (8 * d) o s=some s') {u:Nat} (hu:o.dst≠some u):s'.E u=s.E u:=by
 unfold operF at h
 split at h
 ·split at h
  ·cases h; exact updO_ne hu
  ·cases h
 ·cases h; exact updO_ne hu
 ·cases h
theorem wanted_same {E:AEnv} {g:Nat} {want:Bool} (h:E g = .c (.s (.bool want))):wantedA E (some (g,want))=some true:=by simp [wantedA,h]
theorem grp_run {g:Nat} {want:Bool}:∀ {l:List AOper} {ds:List Nat} {grp:List AOper} {ts:List Nat} {q:Nat} {a b:Opd} {rest:List AOper} {s s':St} {G:List Foot},takeGrp tb g want ds l=some (grp,ts,q,a,b,rest)→g ∉ ds →
  s.E g = .c (.s (.bool want))→OpsTo T d grp s G [] s'→OpsTo T d l s G (⟨some q,none,.pick (.t g) a b⟩ :: rest) s'∧(∀ u,u ∉ ts→s'.E u=s.E u)∧g ∉ ts∧G.length=grp.length:=by
 intro l
 induction l with
 | nil=>intro ds grp ts q a b rest s s' G h; cases h
 | cons x r ih=>
  intro ds grp ts q a b rest s s' G h hds hE ho
  rcases takeGrp_spec h with ⟨h1,h2,h3⟩ | ⟨t,u,w,o,r',grp',ts',h1,h2,h3,h4,h5,h6,h7⟩
  ·subst h2 h3
   cases ho with
   | refl=>rw [h1]; exact ⟨.refl,fun _ _=>rfl,by simp,rfl⟩
  ·subst h6 h7
   cases h1
   cases ho with
   | step k1 k2=>
    have henv:∀ v,v≠t→∀ {s1:St},operF T (arun T) (8 * d) ⟨some t,(if u=g then none else some (u,w)),o⟩ s=some s1→s1.E v=s.E v:=fun v hv s1 k=>operF_env k (fun e=>hv (by cases e; rfl))
    have hEg:=(henv g (Ne.symm h3) k1).trans hE
    obtain ⟨z1,z2,z3,z4⟩:=ih h5 (by simp [hds,Ne.symm h3]) hEg k2
    have hsame:operF T (arun T) (8 * d) ⟨some t,some (u,w),o⟩ s=operF T (arun T) (8 * d) ⟨some t,(if u=g then none else some (u,w)),o⟩ s∧footO T (8 * d) ⟨some t,some (u,w),o⟩ s=footO T (8 * d) ⟨some t,(if u=g then none else some (u,w)),o⟩ s:=by
     by_cases hu:u=g
     ·rw [if_pos hu]
      have hw:w=want:=by
       rcases h4 with h4 | h4
       ·exact (hds (hu ▸ h4)).elim
       ·exact h4.2
      subst hu hw
      unfold operF footO
      simp only [wanted_same hE]
      simp only [wantedA]
      exact ⟨trivial,trivial⟩
     ·rw [if_neg hu]; exact ⟨rfl,rfl⟩
    refine ⟨?_,fun v hv=>?_,?_,by simp [z4]⟩
    ·rw [← hsame.2]
     exact .step (hsame.1.trans k1) z1
    ·simp only [List.mem_cons,not_or] at hv
     exact (z2 v hv.2).trans (henv v hv.1 k1)
    ·simp only [List.mem_cons,not_or]
     exact ⟨Ne.symm h3,z3⟩
theorem operF_skip {R:Run} {o:AOper} {s:St} (h:wantedA s.E o.guard=some false):operF T R (8 * d) o s=some ⟨updO s.E o.dst (.tup []),s.H,s.nx⟩:=by
 unfold operF; rw [h]
theorem footO_skip {o:AOper} {s:St} (h:wantedA s.E o.guard=some false):footO T (8 * d) o s=F0:=by
 unfold footO; rw [h]
theorem grp_skip {g:Nat} {want:Bool}:∀ {l:List AOper} {ds:List Nat} {grp:List AOper} {ts:List Nat} {q:Nat} {a b:Opd} {rest:List AOper} {s:St},takeGrp tb g want ds l=some (grp,ts,q,a,b,rest)→g ∉ ds →
  (∃ bb,s.E g = .c (.s (.bool bb))∧bb≠want)→(∀ u∈ds,s.E u = .tup []) →
  ∃ E',OpsTo T d l s (List.replicate grp.length F0) (⟨some q,none,.pick (.t g) a b⟩ :: rest) ⟨E',s.H,s.nx⟩∧(∀ u,u ∉ ts→E' u=s.E u)∧g ∉ ts:=by
 intro l
 induction l with
 | nil=>intro ds grp ts q a b rest s h; cases h
 | cons x r ih=>
  intro ds grp ts q a b rest s h hds hE hd
  rcases takeGrp_spec h with ⟨h1,h2,h3⟩ | ⟨t,u,w,o,r',grp',ts',h1,h2,h3,h4,h5,h6,h7⟩
  ·subst h2 h3
   rw [h1]
   exact ⟨s.E,.refl,fun _ _=>rfl,by simp⟩
  ·subst h6 h7
   cases h1
   have hw:wantedA s.E (some (u,w))=some false:=by
    rcases h4 with h4 | ⟨rfl,rfl⟩
    ·simp only [wantedA,hd u h4]
    ·obtain ⟨bb,e1,e2⟩:=hE
     simp only [wantedA,e1]
     cases bb <;> cases w <;> first | rfl | exact (e2 rfl).elim
   have hne:∀ v,v≠t→upd s.E t (.tup []) v=s.E v:=fun v hv=>by simp [upd,hv]
   obtain ⟨E',z1,z2,z3⟩:=ih (s:=⟨upd s.E t (.tup []),s.H,s.nx⟩) h5 (by simp [hds,Ne.symm h3]) (by obtain ⟨bb,e1,e2⟩:=hE; exact ⟨bb,(hne g (Ne.symm h3)).trans e1,e2⟩)
    (fun v hv=>by
     by_cases e:v=t
     ·subst e; simp [upd]
     ·rcases List.mem_cons.1 hv with hv | hv
      ·exact (e hv).elim
      ·exact (hne v e).trans (hd v hv))
   refine ⟨E',?_,fun v hv=>?_,by simp [Ne.symm h3,z3]⟩
   ·have:=OpsTo.step (T:=T) (d:=d) (o:=⟨some t,some (u,w),o⟩) (s:=s) (operF_skip hw) z1
    rw [footO_skip hw] at this
    exact this
   ·simp only [List.mem_cons,not_or] at hv
    exact (z2 v hv.2).trans (hne v hv.1)
theorem takeGrp_lay {g:Nat} {want:Bool}:∀ {l:List AOper} {ds:List Nat} {grp:List AOper} {ts:List Nat} {q:Nat} {a b:Opd} {rest:List AOper},takeGrp tb g want ds l=some (grp,ts,q,a,b,rest)→layL grp=[]
 | [],ds,grp,ts,q,a,b,rest,h=>by cases h
 | x :: r,ds,grp,ts,q,a,b,rest,h=>by
  rcases takeGrp_spec h with ⟨h1,h2,h3⟩ | ⟨t,u,w,o,r',grp',ts',h1,h2,h3,h4,h5,h6,h7⟩
  ·subst h2; rfl
  ·subst h6
   cases h1
   simp only [layL,takeGrp_lay h5,List.append_nil]
   cases o <;> first | rfl | (simp [calm] at h2; done)
theorem takeGrp_asg {g:Nat} {want:Bool}:∀ {l:List AOper} {ds:List Nat} {grp:List AOper} {ts:List Nat} {q:Nat} {a b:Opd} {rest:List AOper},takeGrp tb g want ds l=some (grp,ts,q,a,b,rest) →
  (∀ t∈ts,t∈asgL l)∧q∈asgL l∧(∀ t∈asgL rest,t∈asgL l)∧∀ t∈layL rest,t∈layL l
 | [],ds,grp,ts,q,a,b,rest,h=>by cases h
 | x :: r,ds,grp,ts,q,a,b,rest,h=>by
  rcases takeGrp_spec h with ⟨h1,h2,h3⟩ | ⟨t,u,w,o,r',grp',ts',h1,h2,h3,h4,h5,h6,h7⟩
  ·subst h3
   cases h1
   exact ⟨fun _ h=>(by cases h),by simp [asgL],fun t ht=>by simp [asgL,ht],fun t ht=>by simp [layL,ht]⟩
  ·subst h7
   cases h1
   obtain ⟨k1,k2,k3,k4⟩:=takeGrp_asg h5
   refine ⟨fun v hv=>?_,by simp [asgL,k2],fun v hv=>by simp [asgL,k3 v hv],fun v hv=>by simp [layL,k4 v hv]⟩
   rcases List.mem_cons.1 hv with e | hv
   ·subst e; simp [asgL]
   ·simp [asgL,k1 v hv]
end
section
variable {tb:PTab} {T:Tab} {n:Nat} {d:Nat} {anV:List AV} {P0:Id→Prop} {H0:Heap} {ps:PS} {μ:Nat→AV} {L:Nat→List Id} {E:AEnv} {H:Heap} {nx:Nat} {ρ:Type} {r:ρ}
theorem Rel.ro (R:Rel d anV P0 H0 ps μ L E H nx):Rel d [] (fun i=>∀ k,i = .dy k→k < nx) H ⟨ps.env,[],ps.heap.map roO⟩ μ L E H nx:=by
 have hg:∀ {a:Nat},hget (ps.heap.map roO) a=roO (hget ps.heap a):=hget_map rfl
 have hs:∀ {a:Nat} {ob:PObj},hget (ps.heap.map roO) a=some ob→∃ ob0,hget ps.heap a=some ob0∧roO (some ob0)=some ob∧tmpO ob=tmpO ob0∧roOf ob=true:=by
  intro a ob h
  rw [hg] at h
  cases h0:hget ps.heap a with
  | none=>rw [h0] at h; cases h
  | some ob0=>
   rw [h0] at h
   refine ⟨ob0,rfl,h,?_⟩
   cases ob0 <;> (cases h; exact ⟨rfl,rfl⟩)
 have hl:∀ {a:Nat},live (ps.heap.map roO) a→live ps.heap a:=by
  intro a h
  obtain ⟨ob,h⟩:=live_iff.1 h
  obtain ⟨ob0,h1,_⟩:=hs h
  exact live_iff.2 ⟨ob0,h1⟩
 have g:Grow ⟨d,ps.heap,μ,L,H,nx⟩ ⟨d,ps.heap.map roO,μ,L,H,nx⟩ none:=by
  refine Grow.of rfl (by show _≤(ps.heap.map roO).length; simp) (fun _ _=>rfl) (fun a ha=>?_) (Nat.le_refl _) (fun _ _ _=>rfl) ?_
  ·show laterO (hget ps.heap a) (hget (ps.heap.map roO) a)
   rw [hg]
   cases h0:hget ps.heap a with
   | none=>trivial
   | some ob=>cases ob with
    | sl=>exact .inr ⟨rfl,rfl,rfl⟩
    | cell=>trivial
  ·rintro i ⟨a,ha,ht⟩
   exact .inl ⟨a,hl ha,ht⟩
 refine ⟨fun t=>VR.mono g _ _ (fun _ h=>by cases h) (R.env t),trivial,fun _=>rfl,?_,fun a b hab h1 h2=>R.dis a b hab (hl h1) (hl h2),fun a ha=>R.nd a (hl ha),?_,fun a ha=>R.tl a (hl ha),?_,R.fresh,fun _ _=>rfl,?_,fun k hk h=>by have:=h k rfl; omega⟩
 ·intro a ob ha
  obtain ⟨ob0,h1,h2,h3,h4⟩:=hs ha
  have hO:=ObR.mono g (hget_lt h1) rfl (fun _ _=>rfl) (R.ob a ob0 h1)
  cases ob0 with
  | sl ro ver tmp sz e dp xs=>
   cases h2
   obtain ⟨k1,k2,k3⟩:=hO
   refine ⟨k1,k2,k3.imp id ?_⟩
   rintro ⟨o,gg,n,off,len,b,L',e1,e2,e3,e4,e5,e6,e7,e8⟩
   exact ⟨o,gg,n,off,len,b,L',e1,e2,e3,e4,e5,e6,fun h=>(by cases h),e8⟩
  | cell ro tmp v=>
   cases h2
   obtain ⟨o,gg,b,w,e1,e2,e3,e4,e5,e6,e7,e8,e9⟩:=hO
   exact ⟨o,gg,b,w,e1,e2,e3,e4,e5,e6,e7,fun h=>(by cases h),e9⟩
 ·intro a ob ha
  obtain ⟨ob0,h1,h2,h3,h4⟩:=hs ha
  rw [h3]; exact R.age a ob0 h1
 ·intro a ob t ha ht
  obtain ⟨ob0,h1,h2,h3,h4⟩:=hs ha
  exact R.st a ob0 t h1 (h3 ▸ ht)
 ·intro a ob ha hro
  obtain ⟨ob0,h1,h2,h3,h4⟩:=hs ha
  rw [h4] at hro; cases hro
theorem look_drop:∀ {ts:List Nat} {e:List (Nat×PV)} {t:Nat},look (dropE ts e) t=if t∈ts then .undef else look e t
 | [],e,t=>by simp [dropE]
 | u :: r,e,t=>by
  simp only [dropE,look_cons,List.mem_cons]
  by_cases h:u=t
  ·subst h; simp
  ·rw [if_neg h,look_drop]
   simp [Ne.symm h]
theorem Rel.after (R:Rel d anV P0 H0 ps μ L E H nx) {E':AEnv} {H':Heap} {nx':Nat} {env':List (Nat×PV)} (hnx:nx≤nx') (hH:∀ i,(∀ k,i = .dy k→k < nx)→H' i=H i) (hf:∀ k,nx'≤k→H' (.dy k)=none)
  (he:∀ u,look env' u = .undef∨(look env' u=look ps.env u∧E' u=E u)∨∃ b,look env' u = .d true .bool b∧E' u = .c (.s (.bool b))):Rel d anV P0 H0 { ps with env:=env' } μ L E' H' nx':=by
 have g:Grow ⟨d,ps.heap,μ,L,H,nx⟩ ⟨d,ps.heap,μ,L,H',nx'⟩ none:=by
  refine Grow.of rfl (Nat.le_refl _) (fun _ _=>rfl) (fun _ _=>laterO.refl _) hnx (fun i _ h2=>hH i ?_) (fun i h=>.inl h)
  intro k hk
  subst hk
  by_cases h:k < nx
  ·exact h
  ·exact (h2 (.inl ⟨k,rfl,Nat.le_of_not_lt h⟩)).elim
 have R1:Rel d anV P0 H0 ⟨ps.env,ps.anc,ps.heap⟩ μ L E H' nx':=by
  refine Rel.next R (tm:=none) (Ch:=fun _=>False) g (fun u=>.inr ⟨rfl,fun _ h=>by cases h⟩) ?_ (fun _ _ _ h=>h.elim) hnx hf ?_
  ·intro a ob ha _
   refine ⟨ha,rfl,fun i hi=>hH i fun k hk=>?_⟩
   subst hk
   exact R.age a ob ha _ hi
  ·intro i hi
   refine hH i fun k hk=>?_
   subst hk
   by_cases h:k < nx
   ·exact h
   ·exact (R.p2 k (by omega) hi).elim
 refine R1.setE fun u=>?_
 rcases he u with h | ⟨h,h2⟩ | ⟨b,h,h2⟩
 ·rw [h]; trivial
 ·rw [h,h2]; exact R1.env u
 ·rw [h,h2]
  exact constA_rel (X:=⟨d,ps.heap,μ,L,H',nx'⟩) (.c (.s (.bool b)))
end
end Go.Am
/- The machine on typed data against the small machine: operations that hang on a condition,whole. -/
namespace Go.Am
section
variable {tb:PTab} {T:Tab} {n:Nat} {d:Nat} {anV:List AV} {P0:Id→Prop} {H0:Heap} {ps:PS} {μ:Nat→AV} {L:Nat→List Id} {E:AEnv} {H:Heap} {nx:Nat} {ρ:Type} {r:ρ}
theorem OpsTo.spec {l l':List AOper} {s s':St} {G:List Foot} (h:OpsTo T d l s G l' s'):l'=l.drop G.length∧G.length≤l.length∧∀ (j:Nat) (F:Foot),G[j]? = some F→∃ o s1,l[j]? = some o∧F=footO T (8 * d) o s1:=by
 induction h with
 | refl=>exact ⟨rfl,Nat.zero_le _,fun j F h=>by simp at h⟩
 | @step o r l' s s1 s' G h1 _ ih=>
  obtain ⟨k1,k2,k3⟩:=ih
  refine ⟨by simpa using k1,by simpa using k2,fun j F h=>?_⟩
  cases j with
  | zero=>simp at h; exact ⟨o,s,rfl,h.symm⟩
  | succ j=>exact k3 j F (by simpa using h)
theorem bindK_some {α β:Type} {x:Option α} {k:α→Option β} {y:β} (h:bindK x k=some y):∃ a,x=some a∧k a=some y:=by
 rw [bindK_def] at h
 cases x with
 | none=>cases h
 | some a=>exact ⟨a,rfl,h⟩
theorem ev_same {E E':AEnv} {ts:List Nat} (he:∀ u,u ∉ ts→E' u=E u) {x:Opd} (h:disN x.tmps ts=true):ev E' x=ev E x:=by
 cases x with
 | k v=>rfl
 | t u=>
  refine he u fun hu=>?_
  simp only [disN,Opd.tmps,List.all_cons,List.all_nil,Bool.and_true,Bool.not_eq_true'] at h
  rw [List.elem_eq_mem] at h
  simp [hu] at h
def GrOK (T:Tab) (d:Nat) (anV:List AV) (P0:Id→Prop) (H0:Heap) (ps:PS) (μ:Nat→AV) (L:Nat→List Id) (E:AEnv) (H:Heap) (nx:Nat) (l:List AOper) (k:Nat→List AOper→PS→Option ρ) (r:ρ):Prop:=
 ∃ rest ps' E' H' nx' G,k G.length rest ps'=some r∧OpsTo T d l ⟨E,H,nx⟩ G rest ⟨E',H',nx'⟩∧Rel d anV P0 H0 ps' μ L E' H' nx'∧nx≤nx'∧ps'.heap=ps.heap ∧
  EWa (asgL l) ps.env ps'.env∧(∀ t∈asgL rest,t∈asgL l)∧∀ t∈layL rest,t∈layL l
theorem grK_eq {α:Type} {want b:Bool} {x y:α}:grK want b x y=bif beqB b want then x else y:=by cases want <;> cases b <;> rfl
theorem grS_ok (hs:Sound tb T n) (R:Rel d anV P0 H0 ps μ L E H nx) {cx:Cx} {o:AOper} {g:Nat} {want:Bool} {rs:List AOper} {k:Nat→List AOper→PS→Option ρ} (h:grS tb (@evC tb n) cx o g want rs ps k=some r) :
  GrOK T d anV P0 H0 ps μ L E H nx (o :: rs) k r:=by
 unfold grS at h
 split at h
 ·rename_i b grp ts q x y rest hb ht
  have hEg:=boolP_rel hb (R.env g)
  split at h
  ·rename_i hdis
   obtain ⟨z,h1,h2⟩:=bindK_some h
   rw [grK_eq] at h1
   obtain ⟨q1,q2,q3,q4⟩:=takeGrp_asg ht
   have fin:∀ (s':St) (G:List Foot),OpsTo T d (o :: rs) ⟨E,H,nx⟩ G (⟨some q,none,.pick (.t g) x y⟩ :: rest) s'→G.length=grp.length→(∀ u,u ∉ ts→s'.E u=E u)→g ∉ ts→nx≤s'.nx →
     (∀ i,(∀ k,i = .dy k→k < nx)→s'.H i=H i)→(∀ k,s'.nx≤k→s'.H (.dy k)=none)→(if b=true then ev s'.E x else ev s'.E y) = .c (.s (.bool z))→GrOK T d anV P0 H0 ps μ L E H nx (o :: rs) k r:=by
    intro s' G w1 w2 w3 w4 w5 w6 w7 w8
    have hop:operF T (arun T) (8 * d) ⟨some q,none,.pick (.t g) x y⟩ s'=some ⟨upd s'.E q (.c (.s (.bool z))),s'.H,s'.nx⟩:=by
     refine operF_none rfl ?_
     have:ev s'.E (.t g) = .c (.s (.bool b)):=(w3 g w4).trans hEg
     simp only [operV,this,w8]
    refine ⟨rest,_,upd s'.E q (.c (.s (.bool z))),s'.H,s'.nx,G++[_],?_,w1.trans (OpsTo.one hop),R.after (env':=(q,.d true .bool z) :: dropE ts ps.env) w5 w6 w7 ?_,w5,rfl,?_,q3,q4⟩
    ·rw [List.length_append,w2]; exact h2
    ·intro u
     rw [look_cons]
     by_cases hu:q=u
     ·rw [if_pos hu]
      exact .inr (.inr ⟨z,rfl,by simp [upd,hu]⟩)
     ·rw [if_neg hu,look_drop]
      by_cases hm:u∈ts
      ·rw [if_pos hm]; exact .inl rfl
      ·rw [if_neg hm]
       exact .inr (.inl ⟨rfl,by simp [upd,Ne.symm hu,w3 u hm]⟩)
    ·intro u hu _
     show look ((q,.d true .bool z) :: dropE ts ps.env) u=_∨_
     rw [look_cons,if_neg (fun e:q=u=>hu (e ▸ q2)),look_drop,if_neg (fun e=>hu (q1 u e))]
     exact .inl rfl
   cases hbw:beqB b want with
   | true=>
    have hbw':=beqB_eq hbw
    subst hbw'
    rw [hbw] at h1
    obtain ⟨s',a1,a2,ps',μ',L',a3,a4⟩:=hs _ _ _ _ _ z d [] _ H μ L E H nx h1 R.ro (.code (by show LayOK _ _ (layL grp); rw [takeGrp_lay ht]; intro t ht; cases ht) .nil) trivial
    obtain ⟨G,hG⟩:=opsTo_of a1
    obtain ⟨g1,g2,g3,g4⟩:=grp_run ht (by simp) hEg hG
    refine fin s' G g1 g4 g2 g3 a2 (fun i hi=>a4.p0 i hi) a4.fresh ?_
    have:=boolP_rel a3 (a4.pev _)
    cases b <;> exact this
   | false=>
    rw [hbw] at h1
    have hne:b≠want:=by rintro rfl; cases b <;> cases hbw
    obtain ⟨E',g1,g2,g3⟩:=grp_skip (T:=T) (d:=d) (s:=⟨E,H,nx⟩) ht (by simp) ⟨b,hEg,hne⟩ (fun u hu=>by cases hu)
    refine fin _ _ g1 (by simp) g2 g3 (Nat.le_refl _) (fun _ _=>rfl) R.fresh ?_
    have:=boolP_rel h1 (R.pev _)
    have hsm:=ev_same g2 hdis
    cases b <;> cases want <;> first | (exact (hne rfl).elim) | exact hsm.trans this
  ·cases h
 ·cases h
end
end Go.Am
/- The machine on typed data against the small machine: what an operation touches. -/
namespace Go.Am
def Nm (X:Vw) (l:List Nat) (o:Id):Prop:=∃ a∈l,live X.hp a∧o∈X.L a
structure FtR (X:Vw) (F:PF) (G:Foot):Prop where
 all:G.all=true→F.all=true
 wall:G.wall=false
 lk:G.lk=[]
 nx:G.nx=true→F.nx=true
 fr:∀ m,G.fr=some m→m=X.nx∧F.w=true∧F.nx=true
 rd:F.all=false→∀ o∈G.rd,Nm X F.rd o∨(F.rdI=true∧(X.Imm o∨∃ t∈F.tm,∃ d',o = .st d' t))∨∃ t∈F.rs,o = .st X.d t
 wr:∀ o∈G.wr,Nm X F.wr o∨(∃ t∈F.wrT,o = .st X.d t)∨(F.w=true∧F.nx=true∧∃ k,o = .dy k∧X.nx≤k)
 nn:F.nn=X.hp.length
 tm:∀ a∈F.rd++F.wr,∀ ob t,hget X.hp a=some ob→tmpO ob=some t→t∈F.tm
 lv:∀ a,F.lv a=true→live X.hp a
structure VwOK (X:Vw):Prop where
 dis:∀ a b,a≠b→live X.hp a→live X.hp b→∀ i∈X.L a,i ∉ X.L b
 age:∀ a ob,hget X.hp a=some ob→∀ i∈X.L a,ageI X.d X.nx (tmpO ob) i
theorem VwOK.of {d:Nat} {anV:List AV} {P0:Id→Prop} {H0:Heap} {ps:PS} {μ:Nat→AV} {L:Nat→List Id} {E:AEnv} {H:Heap} {nx:Nat} (R:Rel d anV P0 H0 ps μ L E H nx):VwOK ⟨d,ps.heap,μ,L,H,nx⟩:=⟨R.dis,R.age⟩
structure Aft (X Y:Vw):Prop where
 d:Y.d=X.d
 nx:X.nx≤Y.nx
 len:X.hp.length≤Y.hp.length
 L:∀ a,a < X.hp.length→Y.L a=X.L a
 back:∀ a,a < X.hp.length→live Y.hp a→live X.hp a
theorem Aft.refl (X:Vw):Aft X X:=⟨rfl,Nat.le_refl _,Nat.le_refl _,fun _ _=>rfl,fun _ _ h=>h⟩
theorem Aft.trans {X Y Z:Vw} (h:Aft X Y) (k:Aft Y Z):Aft X Z:=
 ⟨k.d.trans h.d,Nat.le_trans h.nx k.nx,Nat.le_trans h.len k.len,fun a ha=>(k.L a (Nat.lt_of_lt_of_le ha h.len)).trans (h.L a ha),fun a ha hl=>h.back a ha (k.back a (Nat.lt_of_lt_of_le ha h.len) hl)⟩
theorem disN_ne {a b:List Nat} (h:disN a b=true) {x y:Nat} (hx:x∈a) (hy:y∈b):x≠y:=by
 rintro rfl
 simp only [disN,List.all_eq_true,Bool.not_eq_true'] at h
 have:=h x hx
 rw [List.elem_eq_mem] at this
 simp [hy] at this
theorem quiet_wr {X:Vw} {F:PF} {G:Foot} (h:FtR X F G) (hq:F.quiet=true):G.wr=[]∧G.fr=none:=by
 simp only [PF.quiet,Bool.and_eq_true,Bool.not_eq_true',List.isEmpty_iff] at hq
 obtain ⟨q1,q2,q3⟩:=hq
 constructor
 ·cases hw:G.wr with
  | nil=>rfl
  | cons o r=>
   rcases h.wr o (by rw [hw]; simp) with ⟨a,ha,_⟩ | ⟨t,ht,_⟩ | ⟨k,_⟩
   ·rw [q1] at ha; cases ha
   ·rw [q2] at ht; cases ht
   ·rw [q3] at k; cases k
 ·cases hf:G.fr with
  | none=>rfl
  | some m=>have:=(h.fr m hf).2.1; rw [q3] at this; cases this
section
variable {X Y:Vw} {F G:PF} {A B:Foot}
theorem nm_st (vX:VwOK X) {l:List Nat} {t:Nat} (htm:∀ a∈l,∀ ob u,hget X.hp a=some ob→tmpO ob=some u→u∈F.tm) (h:Nm X l (.st X.d t)):t∈F.tm:=by
 obtain ⟨a,ha,hl,ho⟩:=h
 obtain ⟨ob,hob⟩:=live_iff.1 hl
 rcases vX.age a ob hob _ ho with h | h
 ·omega
 ·exact htm a ha ob t hob h.2
theorem nm_dy (vX:VwOK X) {l:List Nat} {k:Nat} (h:Nm X l (.dy k)):k < X.nx:=by
 obtain ⟨a,ha,hl,ho⟩:=h
 obtain ⟨ob,hob⟩:=live_iff.1 hl
 exact vX.age a ob hob _ ho
theorem ind_ok0 (vX:VwOK X) (vY:VwOK Y) (hxy:Aft X Y) (hF:FtR X F A) (hG:FtR Y G B) (h:pfInd0 F G=true):indep A B=true:=by
 simp only [pfInd0,Bool.and_eq_true,Bool.or_eq_true,Bool.not_eq_true'] at h
 obtain ⟨h1,h2⟩:=h
 have hnx:¬(F.nx=true∧G.nx=true):=fun e=>by rw [e.1,e.2] at h1; cases h1
 have hnxAB:(A.nx && B.nx)=false:=by
  cases ha:A.nx <;> cases hb:B.nx <;> first | rfl | exact (hnx ⟨hF.nx ha,hG.nx hb⟩).elim
 rcases h2 with h2 | h2
 ·obtain ⟨w1,f1⟩:=quiet_wr hF h2.1
  obtain ⟨w2,f2⟩:=quiet_wr hG h2.2
  have hold:∀ l:List Id,l.all (oldId none)=true:=fun l=>by simp [oldId]
  simp only [indep,w1,w2,f1,f2,hF.wall,hG.wall,hF.lk,hG.lk,hnxAB,hold,disj,List.all_nil,List.isEmpty_nil,Option.isNone_none,Bool.or_true,Bool.and_true,Bool.not_false,Bool.and_self]
 ·obtain ⟨fa,ga,hlt,d1,d2,d3,d4,d5,d6,d7,d8,d9,d10,d11⟩:=h2
  have hAa:A.all=false:=by cases ha:A.all with | false=>rfl | true=>rw [hF.all ha] at fa; cases fa
  have hBa:B.all=false:=by cases ha:B.all with | false=>rfl | true=>rw [hG.all ha] at ga; cases ga
  have hlt':∀ b∈G.rd++G.wr,b < X.hp.length:=fun b hb=>by
   rw [← hF.nn]
   have:=List.all_eq_true.1 hlt b hb; rwa [Nat.blt_eq] at this
  have hn1:G.rdI=true→F.wr=[]∧F.w=false:=by
   intro e
   rw [e,Bool.true_and] at d6
   simp only [PF.noisy,Bool.or_eq_false_iff,Bool.not_eq_false',List.isEmpty_iff] at d6
   exact ⟨d6.2,d6.1⟩
  have hn2:F.rdI=true→G.wr=[]∧G.w=false:=by
   intro e
   rw [e,Bool.true_and] at d7
   simp only [PF.noisy,Bool.or_eq_false_iff,Bool.not_eq_false',List.isEmpty_iff] at d7
   exact ⟨d7.2,d7.1⟩
  have back:∀ {l:List Nat} {o:Id},(∀ b∈l,b∈G.rd++G.wr)→Nm Y l o→∃ b∈l,live X.hp b∧o∈X.L b:=by
   rintro l o hl ⟨b,hb,h1,h2⟩
   have:=hlt' b (hl b hb)
   rw [hxy.L b this] at h2
   exact ⟨b,hb,hxy.back b this h1,h2⟩
  have inR:∀ b∈G.rd,b∈G.rd++G.wr:=fun b hb=>by simp [hb]
  have inW:∀ b∈G.wr,b∈G.rd++G.wr:=fun b hb=>by simp [hb]
  have tmX:∀ {l:List Nat},(∀ b∈l,b∈F.rd++F.wr)→∀ a∈l,∀ ob u,hget X.hp a=some ob→tmpO ob=some u→u∈F.tm:=fun hl a ha=>hF.tm a (hl a ha)
  have tmY:∀ {l:List Nat},(∀ b∈l,b∈G.rd++G.wr)→∀ a∈l,∀ ob u,hget Y.hp a=some ob→tmpO ob=some u→u∈G.tm:=fun hl a ha=>hG.tm a (hl a ha)
  have oldB:∀ m,A.fr=some m→∀ o∈B.rd++(B.wr++B.lk),isFresh m o=false:=by
   intro m hm o ho
   obtain ⟨m1,m2,m3⟩:=hF.fr m hm
   subst m1
   have gnx:¬ G.nx=true:=fun e=>hnx ⟨m3,e⟩
   have nm:∀ {l:List Nat},(∀ b∈l,b∈G.rd++G.wr)→Nm Y l o→isFresh X.nx o=false:=by
    intro l hl h
    cases o with
    | dy k=>have:=nm_dy vX (back hl h); simp [isFresh]; omega
    | st=>rfl
    | ex=>rfl
   rw [hG.lk,List.append_nil,List.mem_append] at ho
   rcases ho with ho | ho
   ·rcases hG.rd ga o ho with h | ⟨h,_⟩ | ⟨t,_,rfl⟩
    ·exact nm inR h
    ·have:=(hn1 h).2; rw [m2] at this; cases this
    ·rfl
   ·rcases hG.wr o ho with h | ⟨t,_,rfl⟩ | ⟨_,h,_⟩
    ·exact nm inW h
    ·rfl
    ·exact (gnx h).elim
  have oldA:∀ m,B.fr=some m→∀ o∈A.rd++(A.wr++A.lk),isFresh m o=false:=by
   intro m hm o ho
   obtain ⟨m1,m2,m3⟩:=hG.fr m hm
   subst m1
   have fnx:¬ F.nx=true:=fun e=>hnx ⟨e,m3⟩
   have hle:=hxy.nx
   have nm:∀ {l:List Nat},Nm X l o→isFresh Y.nx o=false:=by
    intro l h
    cases o with
    | dy k=>have:=nm_dy vX h; simp [isFresh]; omega
    | st=>rfl
    | ex=>rfl
   rw [hF.lk,List.append_nil,List.mem_append] at ho
   rcases ho with ho | ho
   ·rcases hF.rd fa o ho with h | ⟨h,_⟩ | ⟨t,_,rfl⟩
    ·exact nm h
    ·have:=(hn2 h).2; rw [m2] at this; cases this
    ·rfl
   ·rcases hF.wr o ho with h | ⟨t,_,rfl⟩ | ⟨_,h,_⟩
    ·exact nm h
    ·rfl
    ·exact (fnx h).elim
  have allOld:∀ (fr:Option Nat) (l:List Id),(∀ m,fr=some m→∀ o∈l,isFresh m o=false)→l.all (oldId fr)=true:=by
   intro fr l h
   refine List.all_eq_true.2 fun o ho=>?_
   cases fr with
   | none=>rfl
   | some m=>simp [oldId,h m rfl o ho]
  have nodd:∀ {a b:Nat} {o:Id},a≠b→live X.hp a→live X.hp b→o∈X.L a→o∈X.L b→False:=fun hab ha hb h k=>vX.dis _ _ hab ha hb _ h k
  have dis1:∀ o∈A.wr,∀ p∈B.rd++(B.wr++B.lk),o≠p:=by
   rintro o ho p hp rfl
   rw [hG.lk,List.append_nil,List.mem_append] at hp
   have nmnm:∀ {l:List Nat},(∀ b∈l,b∈G.rd++G.wr)→Nm X F.wr o→Nm Y l o→False:=by
    rintro l hl ⟨a,ha,h1,h2⟩ h
    obtain ⟨b,hb,h3,h4⟩:=back hl h
    exact nodd (disN_ne d1 ha (hl b hb)) h1 h3 h2 h4
   have sty:∀ {l:List Nat} {t:Nat},(∀ b∈l,b∈G.rd++G.wr)→t∈F.wrT→o = .st X.d t→Nm Y l o→False:=by
    intro l t hl ht e h
    subst e
    rw [← hxy.d] at h
    exact disN_ne d4 ht (nm_st (F:=G) vY (tmY hl) h) rfl
   have dyn:∀ {l:List Nat} {k:Nat},(∀ b∈l,b∈G.rd++G.wr)→X.nx≤k→o = .dy k→Nm Y l o→False:=by
    intro l k hl hk e h
    subst e
    have:=nm_dy vX (back hl h)
    omega
   rcases hF.wr o ho with h | ⟨t,ht,e⟩ | ⟨hw,hx,k,e,hk⟩
   ·rcases hp with hp | hp
    ·rcases hG.rd ga o hp with h' | ⟨h',_⟩ | ⟨t,ht,e⟩
     ·exact nmnm inR h h'
     ·obtain ⟨a,ha,_⟩:=h
      rw [(hn1 h').1] at ha; cases ha
     ·subst e
      rw [hxy.d] at h
      exact disN_ne d9 (nm_st (F:=F) vX (tmX (fun b hb=>by simp [hb])) h) ht rfl
    ·rcases hG.wr o hp with h' | ⟨t,ht,e⟩ | ⟨_,_,k,e,hk⟩
     ·exact nmnm inW h h'
     ·subst e
      rw [hxy.d] at h
      exact disN_ne d5 ht (nm_st (F:=F) vX (tmX (fun b hb=>by simp [hb])) h) rfl
     ·subst e
      have:=nm_dy vX h
      have:=hxy.nx
      omega
   ·rcases hp with hp | hp
    ·rcases hG.rd ga o hp with h' | ⟨_,h' | ⟨t',ht',d',e'⟩⟩ | ⟨t',ht',e'⟩
     ·exact sty inR ht e h'
     ·subst e
      have:=h'.2
      rw [← hxy.d] at this
      have:Y.d < Y.d:=this
      omega
     ·rw [e] at e'
      cases e'
      exact disN_ne d4 ht ht' rfl
     ·rw [e] at e'
      injection e' with e1 e2
      subst e2
      exact disN_ne d8 ht ht' rfl
    ·rcases hG.wr o hp with h' | ⟨t',ht',e'⟩ | ⟨_,_,k,e',hk⟩
     ·exact sty inW ht e h'
     ·rw [e] at e'
      injection e' with e1 e2
      subst e2
      exact disN_ne d3 ht ht' rfl
     ·rw [e] at e'; cases e'
   ·rcases hp with hp | hp
    ·rcases hG.rd ga o hp with h' | ⟨h',_⟩ | ⟨t',ht',e'⟩
     ·exact dyn inR hk e h'
     ·have:=(hn1 h').2; rw [hw] at this; cases this
     ·rw [e] at e'; cases e'
    ·rcases hG.wr o hp with h' | ⟨t',ht',e'⟩ | ⟨_,hx',_⟩
     ·exact dyn inW hk e h'
     ·rw [e] at e'; cases e'
     ·exact hnx ⟨hx,hx'⟩
  have dis2:∀ o∈B.wr,∀ p∈A.rd++A.lk,o≠p:=by
   rintro o ho p hp rfl
   rw [hF.lk,List.append_nil] at hp
   rcases hF.rd fa o hp with h | ⟨h,h'⟩ | ⟨t,ht,e⟩
   rotate_left 2
   ·subst e
    rcases hG.wr _ ho with k | ⟨t',ht',e'⟩ | ⟨_,_,k,e',hk⟩
    ·rw [← hxy.d] at k
     exact disN_ne d11 (nm_st (F:=G) vY (tmY inW) k) ht rfl
    ·injection e' with e1 e2
     subst e2
     exact disN_ne d10 ht' ht rfl
    ·cases e'
   ·rcases hG.wr o ho with k | ⟨t,ht,e⟩ | ⟨_,_,k,e,hk⟩
    ·obtain ⟨b,hb,k1,k2⟩:=back inW k
     obtain ⟨a,ha,k3,k4⟩:=h
     exact nodd (disN_ne d2 hb ha) k1 k3 k2 k4
    ·subst e
     rw [hxy.d] at h
     exact disN_ne d5 ht (nm_st (F:=F) vX (tmX (fun b hb=>by simp [hb])) h) rfl
    ·subst e
     have:=nm_dy vX h
     have:=hxy.nx
     omega
   ·obtain ⟨g1,g2⟩:=hn2 h
    rcases hG.wr o ho with ⟨b,hb,_⟩ | ⟨t,ht,e⟩ | ⟨k,_⟩
    ·rw [g1] at hb; cases hb
    ·rcases h' with h' | ⟨t',ht',d',e'⟩
     ·subst e
      have:=h'.2
      rw [hxy.d] at this
      have:X.d < X.d:=this
      omega
     ·rw [e] at e'
      cases e'
      exact disN_ne d5 ht ht' rfl
    ·rw [g2] at k; cases k
  have hdis:∀ {a b:List Id},(∀ o∈a,∀ p∈b,o≠p)→disj a b=true:=by
   intro a b h
   refine List.all_eq_true.2 fun o ho=>List.all_eq_true.2 fun p hp=>?_
   simpa using h o ho p hp
  have hfr:(A.fr.isNone || B.fr.isNone)=true:=by
   cases ha:A.fr with
   | none=>rfl
   | some m=>cases hb:B.fr with
    | none=>rfl
    | some m'=>exact (hnx ⟨(hF.fr m ha).2.2,(hG.fr m' hb).2.2⟩).elim
  have hlk:disj A.lk B.lk=true:=by rw [hF.lk]; rfl
  unfold indep
  rw [allOld _ _ oldB,allOld _ _ oldA,hfr,hdis dis1,hdis dis2,hlk,hAa,hBa,hF.wall,hG.wall,hnxAB]
  rfl
theorem ind_new (vX:VwOK X) (vY:VwOK Y) (hxy:Aft X Y) (hF:FtR X F A) (hG:FtR Y G B) (h:pfNew F G=true):indep A B=true:=by
 simp only [pfNew,Bool.and_eq_true,Bool.not_eq_true'] at h
 obtain ⟨hq,fa,fI,ga,h1,hlv,d1,d2,d3,d4⟩:=h
 have hnx:¬(F.nx=true∧G.nx=true):=fun e=>by rw [e.1,e.2] at h1; cases h1
 have hnxAB:(A.nx && B.nx)=false:=by
  cases ha:A.nx <;> cases hb:B.nx <;> first | rfl | exact (hnx ⟨hF.nx ha,hG.nx hb⟩).elim
 have hAa:A.all=false:=by cases ha:A.all with | false=>rfl | true=>rw [hF.all ha] at fa; cases fa
 have hBa:B.all=false:=by cases ha:B.all with | false=>rfl | true=>rw [hG.all ha] at ga; cases ga
 obtain ⟨w1,f1⟩:=quiet_wr hF hq
 have hrd:∀ o∈A.rd,Nm X F.rd o∨∃ t∈F.rs,o = .st X.d t:=by
  intro o ho
  rcases hF.rd fa o ho with h | ⟨h,_⟩ | h
  ·exact .inl h
  ·rw [fI] at h; cases h
  ·exact .inr h
 have dis2:∀ o∈B.wr,∀ p∈A.rd,o≠p:=by
  rintro o ho p hp rfl
  rcases hrd o hp with ⟨a,ha,k1,k2⟩ | ⟨t,ht,e⟩
  ·have hla:live Y.hp a:=hG.lv a (List.all_eq_true.1 hlv a ha)
   have hlt:a < X.hp.length:=by
    obtain ⟨ob,hob⟩:=live_iff.1 k1
    exact hget_lt hob
   have k2':o∈Y.L a:=by rw [hxy.L a hlt]; exact k2
   rcases hG.wr o ho with ⟨b,hb,k3,k4⟩ | ⟨t,ht,e⟩ | ⟨_,_,k,e,hk⟩
   ·exact vY.dis a b (Ne.symm (disN_ne d1 hb ha)) hla k3 o k2' k4
   ·subst e
    rw [hxy.d] at k2
    exact disN_ne d2 ht (nm_st (F:=F) vX (l:=F.rd) (fun b hb=>hF.tm b (by simp [hb])) ⟨a,ha,k1,k2⟩) rfl
   ·subst e
    have:=nm_dy vX ⟨a,ha,k1,k2⟩
    have:=hxy.nx
    omega
  ·subst e
   rcases hG.wr _ ho with k | ⟨t',ht',e'⟩ | ⟨_,_,k,e',hk⟩
   ·rw [← hxy.d] at k
    exact disN_ne d3 (nm_st (F:=G) vY (l:=G.wr) (fun b hb=>hG.tm b (by simp [hb])) k) ht rfl
   ·injection e' with e1 e2
    subst e2
    exact disN_ne d4 ht' ht rfl
   ·cases e'
 have oldA:(A.rd++(A.wr++A.lk)).all (oldId B.fr)=true:=by
  refine List.all_eq_true.2 fun o ho=>?_
  rw [w1,hF.lk] at ho
  simp only [List.append_nil] at ho
  cases hb:B.fr with
  | none=>rfl
  | some m=>
   obtain ⟨rfl,_,_⟩:=hG.fr m hb
   rcases hrd o ho with h | ⟨t,_,rfl⟩
   ·cases o with
    | dy k=>
     have:=nm_dy vX h
     have:=hxy.nx
     simp [oldId,isFresh]; omega
    | st=>rfl
    | ex=>rfl
   ·rfl
 have oldB:(B.rd++(B.wr++B.lk)).all (oldId A.fr)=true:=by
  rw [f1]; exact List.all_eq_true.2 fun o _=>rfl
 have hd2:disj B.wr (A.rd++A.lk)=true:=by
  refine List.all_eq_true.2 fun o ho=>List.all_eq_true.2 fun p hp=>?_
  rw [hF.lk,List.append_nil] at hp
  simpa using dis2 o ho p hp
 have hd1:disj A.wr (B.rd++(B.wr++B.lk))=true:=by rw [w1]; rfl
 have hlk:disj A.lk B.lk=true:=by rw [hF.lk]; rfl
 unfold indep
 rw [oldB,oldA,f1,hd1,hd2,hlk,hAa,hBa,hF.wall,hG.wall,hnxAB]
 rfl
theorem ind_ok (vX:VwOK X) (vY:VwOK Y) (hxy:Aft X Y) (hF:FtR X F A) (hG:FtR Y G B) (h:pfInd F G=true):indep A B=true:=by
 simp only [pfInd,Bool.or_eq_true] at h
 exact h.elim (ind_ok0 vX vY hxy hF hG) (ind_new vX vY hxy hF hG)
structure FtRo (c:Bool) (A:Foot):Prop where
 wr:A.wr=[]
 lk:A.lk=[]
 nx:A.nx=true→c=true
 wall:A.wall=false
 fr:A.fr=none
theorem ro_ind {c c':Bool} (hA:FtRo c A) (hB:FtRo c' B) (h:(c && c')=false):indep A B=true:=by
 have hold:∀ l:List Id,l.all (oldId none)=true:=fun l=>by simp [oldId]
 have hn:(A.nx && B.nx)=false:=by
  cases ha:A.nx <;> cases hb:B.nx <;> first | rfl | (rw [hA.nx ha,hB.nx hb] at h; cases h)
 simp only [indep,hA.wr,hB.wr,hA.lk,hB.lk,hn,hA.wall,hB.wall,hA.fr,hB.fr,hold,disj,List.all_nil,List.isEmpty_nil,Option.isNone_none,Bool.or_true,Bool.not_false,Bool.true_or,Bool.and_self,Bool.and_false,Bool.false_and,Bool.and_true]
end
end Go.Am
/- The machine on typed data against the small machine: what an operation touches,from the state. -/
namespace Go.Am
theorem tmpsOf_mem {hp:List (Option PObj)}:∀ {l:List Nat} {a:Nat} {ob:PObj} {t:Nat},a∈l→hget hp a=some ob→tmpO ob=some t→t∈tmpsOf hp l
 | b :: r,a,ob,t,ha,hob,ht=>by
  have ih:a∈r→t∈tmpsOf hp r:=fun h=>tmpsOf_mem h hob ht
  rcases List.mem_cons.1 ha with e | ha
  ·subst e
   simp only [tmpsOf,hob]
   cases ob with
   | sl ro ver tmp sz e dp xs=>have ht:tmp=some t:=ht; subst ht; simp
   | cell ro tmp v=>have ht:tmp=some t:=ht; subst ht; simp
  ·simp only [tmpsOf]
   split
   ·exact List.mem_cons_of_mem _ (ih ha)
   ·exact List.mem_cons_of_mem _ (ih ha)
   ·exact ih ha
theorem Rep.vIds {own:Bool} {H:Heap} {t:Kd} {x:t.den} {v:AV} {L:List Id} (h:Rep own H t x v L):∀ o∈Go.Am.vIds v,o∈L:=by
 cases t with
 | int k=>rw [h.1]; intro o ho; cases ho
 | bool=>rw [h.1]; intro o ho; cases ho
 | str=>rw [h.1]; intro o ho; cases ho
 | st fs=>
  have:=h.1
  cases v with
  | agg=>intro o ho; cases ho
  | c=>intro o ho; cases ho
  | _=>cases this
 | sl sz e=>
  rcases h with ⟨h,_⟩ | ⟨_,z,ts,h,_⟩ | ⟨o,g,n,off,len,b,L',h,_,_,_,_,_,_,hL,_⟩
  ·rw [h]; intro o ho; cases ho
  ·rw [h]; intro o ho; cases ho
  ·rw [h,hL]
   intro p hp
   have:p=o:=by simpa [Go.Am.vIds] using hp
   rw [this]; simp
theorem vIds_rel {X:Vw} (hob:Obs X) {v:PV} {a:AV} (hk:v.known=true) (h:VR X v a) (hl:∀ b∈ptrN v,live X.hp b) :
  ∀ o∈vIds a,Nm X (ptrN v) o∨(ptrI v=true∧X.Imm o)∨∃ t∈ptrT v,∃ d',o = .st d' t:=by
 have named:∀ (b:Nat),b∈ptrN v→∀ o∈vIds (X.μ b),Nm X (ptrN v) o:=by
  intro b hb o ho
  obtain ⟨ob,hg⟩:=live_iff.1 (hl b hb)
  refine ⟨b,hb,hl b hb,?_⟩
  have hO:=hob b ob hg
  cases ob with
  | sl ro ver tmp sz e dp xs=>
   obtain ⟨_,_,h3⟩:=hO
   rcases h3 with ⟨e1,_⟩ | ⟨o',g,n,off,len,b',L',e1,_,_,_,_,_,_,_,_,e10,_⟩
   ·rw [e1] at ho; cases ho
   ·rw [e1] at ho
    have:o=o':=by simpa [vIds] using ho
    rw [e10,this]; simp
  | cell ro tmp u=>
   obtain ⟨o',g,b',w,e1,_,_,_,_,_,_,_,e9,_⟩:=hO
   rw [e1] at ho
   have:o=o':=by simpa [vIds] using ho
   rw [e9,this]; simp
 intro o ho
 cases v with
 | d p t x=>
  obtain ⟨Li,h1,h2,h3⟩:=h
  have hm:=h1.vIds o ho
  refine .inr (.inl ⟨?_,h3 o hm⟩)
  cases hp:(p || t.flat) with
  | true=>
   have:Li=[]:=h2 (by simpa [Bool.or_eq_true] using hp)
   rw [this] at hm; cases hm
  | false=>simp [ptrI,hp]
 | agg cs=>have:=h.1; cases a <;> first | (cases this; done) | (cases ho; done)
 | nils=>have h:a = .nils:=h; subst h; cases ho
 | np=>have h:a = .c (.s (.pointer none)):=h; subst h; cases ho
 | own b=>
  obtain ⟨h1,h2,h3⟩:=h
  rw [h2] at ho
  exact .inl (named b (by simp [ptrN]) o ho)
 | win b off len=>
  obtain ⟨h1,h2 | ⟨o',g,n,off0,len0,h2,h3,h4⟩⟩:=h
  ·rw [h2.2.1] at ho; cases ho
  ·rw [h4] at ho
   exact .inl (named b (by simp [ptrN]) o (by rw [h2]; exact ho))
 | cp b off=>
  obtain ⟨h1,o',g,h2,h3⟩:=h
  rw [h3] at ho
  exact .inl (named b (by simp [ptrN]) o (by rw [h2]; exact ho))
 | ep b ver i off e x=>
  obtain ⟨h1,o',g,n,off0,len0,h2,h3,h4,_⟩:=h
  rw [h4] at ho
  exact .inl (named b (by simp [ptrN]) o (by rw [h2]; exact ho))
 | tp p e x off=>
  rcases h with ⟨y,h1,_⟩ | ⟨h0,o',g,n,j,b,w,Li,h1,_,_,_,_,_,_,h9,_⟩
  ·rw [h1] at ho; cases ho
  ·rw [h1] at ho
   have:o=o':=by simpa [vIds] using ho
   subst this
   exact .inr (.inl ⟨by simp [ptrI,h0],h9⟩)
 | kp t u off=>
  obtain ⟨_,_,o',g,b,w,h1,h2,_⟩:=h
  rw [h2] at ho
  have:o=o':=by simpa [vIds] using ho
  subst this
  exact .inr (.inr ⟨t,by simp [ptrT],_,h1.1⟩)
 | fn f cs=>obtain ⟨vs,e,_⟩:=h; rw [e] at ho; cases ho
 | tup l=>obtain ⟨vs,e,_⟩:=h; rw [e] at ho; cases ho
 | undef=>cases hk
section
variable {tb:PTab} {T:Tab} {d:Nat} {anV:List AV} {P0:Id→Prop} {H0:Heap} {ps:PS} {μ:Nat→AV} {L:Nat→List Id} {E:AEnv} {H:Heap} {nx:Nat}
def CfOK (tb:PTab) (T:Tab):Prop:=∀ (f:Nat) (vs:List PV) (avs:List AV) (ps:PS) (F:PF) (d:Nat) (anV:List AV) (P0:Id→Prop) (H0:Heap) (μ:Nat→AV) (L:Nat→List Id) (E:AEnv) (H:Heap) (nx:Nat),
 Rel d anV P0 H0 ps μ L E H nx→VRs ⟨d,ps.heap,μ,L,H,nx⟩ vs avs→pfCall tb f vs ps=some F→(∀ a∈F.rd++F.wr,live ps.heap a)→FtR ⟨d,ps.heap,μ,L,H,nx⟩ F (footCall T f avs H nx)
theorem mk_tm {rd wr wrT:List Nat} {rdI w nxx all:Bool}:∀ a∈(mkPF ps rd rdI wr wrT w nxx all).rd++(mkPF ps rd rdI wr wrT w nxx all).wr,∀ ob t,hget ps.heap a=some ob→tmpO ob=some t→t∈(mkPF ps rd rdI wr wrT w nxx all).tm:=
 fun a ha ob t h1 h2=>tmpsOf_mem ha h1 h2
theorem rs_ids (R:Rel d anV P0 H0 ps μ L E H nx) {v:PV} {a:AV} {u:Nat} (h:rsOf ps v=some u) (hv:VR ⟨d,ps.heap,μ,L,H,nx⟩ v a):∀ o∈vIds a,o = .st d u:=by
 intro o ho
 unfold rsOf at h
 split at h
 ·rename_i b
  split at h
  ·rename_i ro ver t sz e dp xs hg
   split at h
   ·rename_i hf
    cases h
    obtain ⟨_,rfl,hr⟩:=hv
    have hv:o∈vIds (μ b):=ho
    obtain ⟨k0,k1,k2⟩:=R.ob b _ hg
    rcases k2 with ⟨e1,_⟩ | ⟨o',g,n,off,len,ob,L',e1,e2,e3,e4,e5,e6,e7,e8,e9,e10,e11⟩
    ·have e1:μ b = .nils:=e1
     rw [e1] at hv; cases hv
    ·have e1:μ b = .ref o' g n off len:=e1
     have e10:L b=o' :: _:=e10
     rw [e1] at hv
     have:o=o':=by simpa [vIds] using hv
     subst this
     exact R.st b _ u hg rfl o (by rw [e10]; rfl)
   ·cases h
  ·cases h
 ·cases h
  obtain ⟨_,_,o',g,b,w,h1,h2,_⟩:=hv
  rw [h2] at ho
  have:o=o':=by simpa [vIds] using ho
  subst this
  exact h1.1
 ·cases h
theorem pfRd_ok (R:Rel d anV P0 H0 ps μ L E H nx) {x:Opd} {F:PF} (h:pfRd ps (pev ps x)=some F) (hl:∀ a∈F.rd++F.wr,live ps.heap a):FtR ⟨d,ps.heap,μ,L,H,nx⟩ F ⟨vIds (ev E x),[],[],false,false,false,none⟩:=by
 unfold pfRd at h
 split at h
 ·rename_i u hu
  cases h
  refine ⟨fun h=>(by cases h),rfl,rfl,fun h=>(by cases h),fun m h=>(by cases h),fun _ o ho=>.inr (.inr ⟨u,List.mem_cons_self ..,rs_ids R hu (R.pev x) o ho⟩),fun o ho=>(by cases ho),rfl,fun a ha=>(by cases ha),fun _ h=>h⟩
 ·split at h
  ·rename_i hk
   cases h
   refine ⟨fun h=>(by cases h),rfl,rfl,fun h=>(by cases h),fun m h=>(by cases h),fun _ o ho=>?_,fun o ho=>(by cases ho),rfl,fun a ha ob t h1 h2=>List.mem_append.2 (.inr (tmpsOf_mem ha h1 h2)),fun _ h=>h⟩
   rcases vIds_rel R.obs hk (R.pev x) (fun b hb=>hl b (List.mem_append.2 (.inl hb))) o ho with h | ⟨h1,h2⟩ | ⟨t,ht,h2⟩
   ·exact .inl h
   ·refine .inr (.inl ⟨?_,.inl h2⟩)
    show (ptrI (pev ps x) || _)=true
    rw [h1]; rfl
   ·refine .inr (.inl ⟨?_,.inr ⟨t,List.mem_append.2 (.inl ht),h2⟩⟩)
    show (_ || !(ptrT (pev ps x)).isEmpty)=true
    cases hp:ptrT (pev ps x) with
    | nil=>rw [hp] at ht; cases ht
    | cons=>simp
  ·cases h
theorem pfO_ok (hcf:CfOK tb T) (R:Rel d anV P0 H0 ps μ L E H nx) {dst:Option Nat} {op:AOp} {F:PF} (h:pfO tb dst ps op=some F):FtR ⟨d,ps.heap,μ,L,H,nx⟩ F (foot T (8 * d) dst E H nx op):=by
 unfold pfO at h
 split at h
 ·cases h
 split at h
 ·rename_i F' h0
  split at h
  ·rename_i hlv
   cases h
   simp only [Bool.and_eq_true,List.all_eq_true] at hlv
   have hl:∀ a∈F.rd++F.wr,live ps.heap a:=fun a ha=>(List.mem_append.1 ha).elim (fun h=>hlv.1 a h) fun h=>hlv.2 a h
   have lay:∀ (l:List Id),(∀ o∈l,∃ t,dst=some t∧o = .st d t)→some (mkPF ps [] false [] (opt1 dst) false false false)=some F→FtR ⟨d,ps.heap,μ,L,H,nx⟩ F ⟨[],l,[],false,false,false,none⟩:=by
    intro l hl2 e
    cases e
    refine ⟨fun h=>(by cases h),rfl,rfl,fun h=>(by cases h),fun m h=>(by cases h),fun _ o ho=>(by cases ho),fun o ho=>?_,rfl,mk_tm,fun _ h=>h⟩
    obtain ⟨t,ht,e⟩:=hl2 o ho
    exact .inr (.inl ⟨t,by simp [mkPF,opt1,ht],e⟩)
   have layl:∀ (o:Id),o∈(match dst with | some t=>[sid (8 * d) t] | none=>[])→∃ t,dst=some t∧o = .st d t:=by
    intro o ho
    split at ho
    ·exact ⟨_,rfl,by simpa [sid8] using ho⟩
    ·cases ho
   have made:some (mkPF ps [] false [] [] true true false)=some F→FtR ⟨d,ps.heap,μ,L,H,nx⟩ F ⟨[],[.dy nx],[],true,false,false,none⟩:=by
    intro e
    cases e
    refine ⟨fun h=>(by cases h),rfl,rfl,fun h=>rfl,fun m h=>(by cases h),fun _ o ho=>(by cases ho),fun o ho=>?_,rfl,mk_tm,fun _ h=>h⟩
    have:o = .dy nx:=by simpa using ho
    exact .inr (.inr ⟨rfl,rfl,nx,this,Nat.le_refl _⟩)
   have none':some (mkPF ps [] false [] [] false false false)=some F→FtR ⟨d,ps.heap,μ,L,H,nx⟩ F F0:=by
    intro e
    cases e
    exact ⟨fun h=>(by cases h),rfl,rfl,fun h=>(by cases h),fun m h=>(by cases h),fun _ o ho=>(by cases ho),fun o ho=>(by cases ho),rfl,mk_tm,fun _ h=>h⟩
   cases op with
   | alloc z=>exact lay _ layl h0
   | box x=>exact lay _ layl h0
   | bslice sz l=>exact lay _ layl h0
   | load ag n x=>exact pfRd_ok R h0 hl
   | b2s x=>exact pfRd_ok R h0 hl
   | slice sz x lo hi mx=>exact pfRd_ok R h0 hl
   | iaddr sz x i=>exact pfRd_ok R h0 hl
   | s2b x=>exact made h0
   | mksl sz z n=>exact made h0
   | bsliceD sz l=>exact made h0
   | store n a x=>
    simp only [pfO0] at h0
    split at h0
    ·rename_i hc
     cases h0
     simp only [Bool.and_eq_true,Bool.not_eq_true',List.isEmpty_iff] at hc
     refine ⟨fun h=>(by cases h),rfl,rfl,fun h=>(by cases h),fun m h=>(by cases h),fun _ o ho=>(by cases ho),fun o ho=>?_,rfl,mk_tm,fun _ h=>h⟩
     rcases vIds_rel R.obs hc.1 (R.pev a) (fun b hb=>hl b (List.mem_append.2 (.inr hb))) o ho with h | ⟨h1,h2⟩ | ⟨t,ht,h2⟩
     ·exact .inl h
     ·rw [hc.2.1] at h1; cases h1
     ·rw [hc.2.2] at ht; cases ht
    ·cases h0
   | append sz x y=>
    simp only [pfO0] at h0
    split at h0
    ·rename_i hc
     cases h0
     simp only [Bool.and_eq_true,Bool.not_eq_true',List.isEmpty_iff] at hc
     obtain ⟨c1,c2,c3,c4,c5⟩:=hc
     refine ⟨fun h=>(by cases h),rfl,rfl,fun h=>rfl,fun m h=>(by cases h),fun _ o ho=>?_,fun o ho=>?_,rfl,mk_tm,fun _ h=>h⟩
     ·rcases vIds_rel R.obs c4 (R.pev y) (fun b hb=>hl b (List.mem_append.2 (.inl hb))) o ho with h | ⟨h1,h2⟩ | ⟨t,ht,h2⟩
      ·exact .inl h
      ·exact .inr (.inl ⟨h1,.inl h2⟩)
      ·rw [c5] at ht; cases ht
     ·have key:o∈vIds (ev E x)∨o = .dy nx:=by
       simp only [foot] at ho
       split at ho
       ·right; simpa using ho
       ·exact .inl ho
      rcases key with key | key
      ·rcases vIds_rel R.obs c1 (R.pev x) (fun b hb=>hl b (List.mem_append.2 (.inr hb))) o key with h | ⟨h1,h2⟩ | ⟨t,ht,h2⟩
       ·exact .inl h
       ·rw [c2] at h1; cases h1
       ·rw [c3] at ht; cases ht
      ·exact .inr (.inr ⟨rfl,rfl,nx,key,Nat.le_refl _⟩)
    ·cases h0
   | call f args=>exact hcf f _ _ ps F d anV P0 H0 μ L E H nx R (R.pevs args) h0 hl
   | callv f args=>
    simp only [pfO0] at h0
    split at h0
    ·rename_i g caps hf
     have hv:=R.pev f
     rw [hf] at hv
     obtain ⟨vs,h1,h2⟩:=hv
     simp only [foot,h1]
     exact hcf g _ _ ps F d anV P0 H0 μ L E H nx R (VRs.app (R.pevs args) h2) h0 hl
    ·cases h0
   | copy sz x y=>cases h0
   | clear z x=>cases h0
   | _=>exact none' h0
  ·cases h
 ·cases h
def ModeOK (tb:PTab) (T:Tab):Prop:=∀ f,match tb f with
 | some (.con true _ _) | some (.inl _ _ _ _)=>T.mode f = .fz
 | some (.con false sg _)=>T.mode f = .sep (keepK sg.ps)
 | none=>True
theorem ro_foot (hm:ModeOK tb T) {o:AOper} (h:rdSt tb o.op=true) (s:St):FtRo (isCallO o.op) (footO T (8 * d) o s):=by
 have f0:∀ c,FtRo c F0:=fun c=>⟨rfl,rfl,fun h=>(by cases h),rfl,rfl⟩
 unfold footO
 split
 ·cases hop:o.op with
  | load ag n x=>exact ⟨rfl,rfl,fun h=>(by cases h),rfl,rfl⟩
  | b2s x=>exact ⟨rfl,rfl,fun h=>(by cases h),rfl,rfl⟩
  | slice sz x lo hi mx=>exact ⟨rfl,rfl,fun h=>(by cases h),rfl,rfl⟩
  | iaddr sz x i=>exact ⟨rfl,rfl,fun h=>(by cases h),rfl,rfl⟩
  | call f args=>
   rw [hop] at h
   have hmf:T.mode f = .fz:=by
    have:=hm f
    simp only [rdSt] at h
    split at h
    ·rename_i hf; rw [hf] at this; exact this
    ·cases h
   simp only [foot,footCall,hmf]
   split
   ·exact ⟨rfl,rfl,fun h=>(by cases h),rfl,rfl⟩
   ·exact ⟨rfl,rfl,fun h=>rfl,rfl,rfl⟩
  | _=>rw [hop] at h; cases h
 ·exact f0 _
end
end Go.Am
/- The machine on typed data against the small machine: whole runs. -/
namespace Go.Am
theorem lookF_cons {i:Nat} {F:PF} {fs:List (Nat×PF)} {j:Nat}:lookF ((i,F) :: fs) j=if i=j then some F else lookF fs j:=by
 simp only [lookF]
 by_cases h:i=j
 ·subst h; rw [if_pos rfl,Nat.beq_refl]
 ·rw [if_neg h]
  have:Nat.beq i j=false:=by
   cases hb:Nat.beq i j with
   | true=>exact (h (Nat.eq_of_beq_eq_true hb)).elim
   | false=>rfl
  rw [this]
structure OuR (tb:PTab) (l0:List AOper) (i:Nat) (fs:List (Nat×PF)) (foots:List Foot) (X:Vw):Prop where
 len:foots.length=i
 ro:∀ (j:Nat) (A:Foot) (o:AOper),foots[j]? = some A→l0[j]? = some o→rdSt tb o.op=true→FtRo (isCallO o.op) A
 snap:∀ (j:Nat) (F:PF),lookF fs j=some F→j < i∧∃ A X1,foots[j]? = some A∧VwOK X1∧Aft X1 X∧FtR X1 F A
 prs:∀ (j j':Nat) (F G:PF),lookF fs j=some F→lookF fs j'=some G→j < j'→pfInd F G=true→∃ A B,foots[j]? = some A∧foots[j']? = some B∧indep A B=true
theorem OuR.ok {tb:PTab} {l0:List AOper} {i:Nat} {fs:List (Nat×PF)} {foots:List Foot} {X:Vw} {prs:List (Nat×Nat)} (h:OuR tb l0 i fs foots X) (hi:l0.length≤i) (hs:prsStat tb l0 prs=true) (hd:prsDyn l0 fs prs=true):okPrs foots prs=true:=by
 refine List.all_eq_true.2 fun p hp=>?_
 have h1:=List.all_eq_true.1 hs p hp
 have h2:=List.all_eq_true.1 hd p hp
 simp only [Bool.and_eq_true] at h1
 obtain ⟨h0,h1⟩:=h1
 rw [Nat.blt_eq] at h0
 split at h1
 ·rename_i x y hx hy
  rw [hx,hy] at h2
  simp only at h2
  have get:∀ {j:Nat} {o:AOper},l0[j]? = some o→∃ A,foots[j]? = some A:=by
   intro j o ho
   have:=(List.getElem?_eq_some_iff.1 ho).1
   exact ⟨_,List.getElem?_eq_getElem (by rw [h.len]; omega)⟩
  cases hg:(x.guard.isNone && y.guard.isNone) with
  | true=>
   rw [hg] at h2
   simp only [Bool.not_true,Bool.false_or] at h2
   split at h2
   ·rename_i F G hF hG
    obtain ⟨A,B,k1,k2,k3⟩:=h.prs _ _ F G hF hG h0 h2
    rw [k1,k2]; exact k3
   ·cases h2
  | false=>
   rw [hg] at h1
   simp only [Bool.false_or,Bool.and_eq_true,Bool.not_eq_true'] at h1
   obtain ⟨A,hA⟩:=get hx
   obtain ⟨B,hB⟩:=get hy
   rw [hA,hB]
   exact ro_ind (h.ro _ A x hA hx h1.1) (h.ro _ B y hB hy h1.2.1) h1.2.2
 ·cases h1
theorem OuR.ok2 {tb:PTab} {l0:List AOper} {i:Nat} {fs:List (Nat×PF)} {foots:List Foot} {X:Vw} {prs:List (Nat×Nat)} (h:OuR tb l0 i fs foots X) (hd:prsDyn2 fs prs=true):okPrs foots prs=true:=by
 refine List.all_eq_true.2 fun p hp=>?_
 have h1:=List.all_eq_true.1 hd p hp
 simp only [Bool.and_eq_true] at h1
 obtain ⟨h0,h1⟩:=h1
 rw [Nat.blt_eq] at h0
 split at h1
 ·rename_i F G hF hG
  obtain ⟨A,B,k1,k2,k3⟩:=h.prs _ _ F G hF hG h0 h1
  rw [k1,k2]; exact k3
 ·cases h1
theorem OuR.step {tb:PTab} {T:Tab} {l0:List AOper} {i d:Nat} {fs:List (Nat×PF)} {foots:List Foot} {X X':Vw} (hO:OuR tb l0 i fs foots X) (hm:ModeOK tb T) {o:AOper} {s:St} (ho0:l0[i]? = some o) {F:PF} (hX:VwOK X) (haft:Aft X X') (hft:FtR X F (footO T (8 * d) o s)) :
  OuR tb l0 (i + 1) ((i,F) :: fs) (foots++[footO T (8 * d) o s]) X':=by
 have hA:(foots++[footO T (8 * d) o s])[i]? = some (footO T (8 * d) o s):=by
  rw [List.getElem?_append_right (by rw [hO.len]; exact Nat.le_refl _),hO.len]; simp
 have hold:∀ {j:Nat} {A:Foot},foots[j]? = some A→(foots++[footO T (8 * d) o s])[j]? = some A:=by
  intro j A hj
  rw [List.getElem?_append_left (List.getElem?_eq_some_iff.1 hj).1]; exact hj
 refine ⟨by simp [hO.len],fun j A o' hj ho' hr=>?_,fun j F' hj=>?_,fun j j' F1 G1 hj hj' hlt hind=>?_⟩
 ·by_cases hji:j < i
  ·rw [List.getElem?_append_left (by rw [hO.len]; exact hji)] at hj
   exact hO.ro j A o' hj ho' hr
  ·have:j=i:=by
    have:=(List.getElem?_eq_some_iff.1 hj).1
    simp [hO.len] at this
    omega
   subst this
   rw [hA] at hj
   cases hj
   rw [ho0] at ho'
   cases ho'
   exact ro_foot hm hr _
 ·rw [lookF_cons] at hj
  split at hj
  ·rename_i e
   subst e
   cases hj
   exact ⟨Nat.lt_succ_self _,_,X,hA,hX,haft,hft⟩
  ·obtain ⟨k1,A,X1,k2,k3,k4,k5⟩:=hO.snap j F' hj
   exact ⟨by omega,A,X1,hold k2,k3,k4.trans haft,k5⟩
 ·rw [lookF_cons] at hj hj'
  split at hj'
  ·rename_i e'
   subst e'
   cases hj'
   rw [if_neg (by omega)] at hj
   obtain ⟨k1,A,X1,k2,k3,k4,k5⟩:=hO.snap j F1 hj
   exact ⟨A,_,hold k2,hA,ind_ok k3 hX k4 k5 hft hind⟩
  ·have:j' < i:=(hO.snap j' G1 hj').1
   rw [if_neg (by omega)] at hj
   obtain ⟨A,B,k1,k2,k3⟩:=hO.prs j j' F1 G1 hj hj' hlt hind
   exact ⟨A,B,hold k1,hold k2,k3⟩
section
variable (tb:PTab) (T:Tab)
def SoundU (n:Nat):Prop:=∀ {ρ:Type} (cx:Cx) (fin:PS→Option ρ) (l0:List AOper) (i:Nat) (l:List AOper) (prs:List (Nat×Nat)) (fs:List (Nat×PF)) (K:List (Itp ρ)) (Ka:List It) (ps:PS) (r:ρ) (d:Nat) (anV:List AV) (P0:Id→Prop) (H0:Heap) (μ:Nat→AV) (L:Nat→List Id) (E:AEnv) (H:Heap) (nx:Nat) (foots:List Foot),
 evC tb n cx fin (.ou l0 i l prs fs :: K) ps=some r→Rel d anV P0 H0 ps μ L E H nx→KR T d anV P0 H0 fin K Ka→FxI (asgL l0) ps.env K→LayOK d P0 (layL l)→l=l0.drop i →
 OuR tb l0 i fs foots ⟨d,ps.heap,μ,L,H,nx⟩→Out T d anV P0 H0 fin (.code (.opsU foots l prs) :: Ka) ⟨E,H,nx⟩ r
end
theorem Out.eq {T:Tab} {d:Nat} {anV:List AV} {P0:Id→Prop} {H0:Heap} {ρ:Type} {fin:PS→Option ρ} {Ka Ka':List It} {s s':St} {r:ρ} (h:Out T d anV P0 H0 fin Ka' s' r) (e:arun T (8 * d) Ka s=arun T (8 * d) Ka' s') (hnx:s.nx≤s'.nx):Out T d anV P0 H0 fin Ka s r:=by
 obtain ⟨s2,h1,h2,h3⟩:=h
 exact ⟨s2,e.trans h1,Nat.le_trans hnx h2,h3⟩
section
variable {tb:PTab} {T:Tab} {n:Nat}
theorem asgL_cons {o:AOper} {r:List AOper} {t:Nat} (h:t∈opt1 o.dst∨t∈asgL r):t∈asgL (o :: r):=by
 simp only [asgL]
 cases hd:o.dst with
 | none=>
  rw [hd] at h
  rcases h with h | h
  ·cases h
  ·exact h
 | some u=>
  rw [hd] at h
  rcases h with h | h
  ·simp [opt1] at h; simp [h]
  ·simp [h]
theorem asgL_mem:∀ {l:List AOper} {o:AOper} {t:Nat},o∈l→t∈opt1 o.dst→t∈asgL l
 | a :: l,o,t,h,ht=>by
  rcases List.mem_cons.1 h with rfl | h
  ·exact asgL_cons (.inl ht)
  ·exact asgL_cons (.inr (asgL_mem h ht))
theorem asgL_drop:∀ {l:List AOper} {i t:Nat},t∈asgL (l.drop i)→t∈asgL l
 | l,0,t,h=>h
 | [],i + 1,t,h=>by simp [asgL] at h
 | a :: l,i + 1,t,h=>asgL_cons (.inr (asgL_drop (i:=i) h))
theorem f0_ok (hcf:CfOK tb T) {d:Nat} {anV:List AV} {P0:Id→Prop} {H0:Heap} {ps:PS} {μ:Nat→AV} {L:Nat→List Id} {E:AEnv} {H:Heap} {nx:Nat} (R:Rel d anV P0 H0 ps μ L E H nx):FtR ⟨d,ps.heap,μ,L,H,nx⟩ (F0P ps) F0:=
 pfO_ok (dst:=none) (op:=.mov (.k .nils)) hcf R rfl
theorem setG_rel {d:Nat} {anV:List AV} {P0:Id→Prop} {H0:Heap} {ps:PS} {μ:Nat→AV} {L:Nat→List Id} {E:AEnv} {H:Heap} {nx:Nat} (R:Rel d anV P0 H0 ps μ L E H nx) {g:Nat} {b:Bool} (h:E g = .c (.s (.bool b))):Rel d anV P0 H0 (setG ps g b) μ L E H nx:=by
 refine R.setEnv fun t=>?_
 show VR _ (look ((g,.d true .bool b) :: ps.env) t) (E t)
 rw [look_cons]
 by_cases e:g=t
 ·subst e
  rw [if_pos rfl]
  exact ⟨[],⟨h,rfl⟩,fun _=>rfl,fun i hi=>by cases hi⟩
 ·rw [if_neg e]; exact R.env t
theorem setG_ew {ps:PS} {g:Nat} {b:Bool} {t:Nat} (h:t≠g):look (setG ps g b).env t=look ps.env t:=by
 show look ((g,.d true .bool b) :: ps.env) t=_
 rw [look_cons,if_neg (Ne.symm h)]
theorem soundU_step (hca:CaOK tb T n) (hcf:CfOK tb T) (hm:ModeOK tb T) (hs:Sound tb T n) (hu:SoundU tb T n):SoundU tb T (n + 1):=by
 intro ρ cx fin l0 i l prs fs K Ka ps r d anV P0 H0 μ L E H nx foots h R hk hf hl hd hO
 cases l with
 | nil=>
  have h:(match stOK tb l0 prs with
   | true=>if prsDyn l0 fs prs=true then evC tb n cx fin K ps else none
   | false=>if prsDyn2 fs prs=true then evC tb n cx fin K ps else none)=some r:=h
  have hi:l0.length≤i:=List.drop_eq_nil_iff.1 hd.symm
  have hf0:FxI [] ps.env K:=hf.sub (fun t ht=>by cases ht)
  cases hst:stOK tb l0 prs with
  | true=>
   rw [hst] at h
   simp only at h
   split at h
   ·rename_i hdyn
    refine Out.eq (hs cx fin K Ka ps r d anV P0 H0 μ L E H nx h R hk hf0) ?_ (Nat.le_refl _)
    rw [arun_opsU0,if_pos (hO.ok hi (by unfold stOK at hst; exact (Bool.and_eq_true _ _ ▸ hst).1) hdyn)]
   ·cases h
  | false=>
   rw [hst] at h
   simp only at h
   split at h
   ·rename_i hdyn
    refine Out.eq (hs cx fin K Ka ps r d anV P0 H0 μ L E H nx h R hk hf0) ?_ (Nat.le_refl _)
    rw [arun_opsU0,if_pos (hO.ok2 hdyn)]
   ·cases h
 | cons o rs=>
  have ho0:l0[i]? = some o:=by
   have:(l0.drop i)[0]? = some o:=by rw [← hd]; rfl
   simpa using this
  have hd':rs=l0.drop (i + 1):=by rw [← List.drop_drop,← hd]; rfl
  have hmem:o∈l0:=List.mem_of_getElem? ho0
  have hlr:LayOK d P0 (layL rs):=fun t ht=>hl t (by simp [layL,ht])
  have plain:∀ {ps1:PS} {F:PF},Rel d anV P0 H0 ps1 μ L E H nx→ps1.heap=ps.heap→(∀ t,t ∉ asgL l0→look ps1.env t=look ps.env t)→wantedA E o.guard=some true→pfO tb o.dst ps1 o.op=some F →
    opS tb (@evC tb n) cx ⟨o.dst,none,o.op⟩ ps1 (fun v ps'=>evC tb n cx fin (.ou l0 (i + 1) rs prs ((i,F) :: fs) :: K) (ps'.put o.dst v))=some r→Out T d anV P0 H0 fin (.code (.opsU foots (o :: rs) prs) :: Ka) ⟨E,H,nx⟩ r:=by
   intro ps1 F R1 hh hlk hw hF h
   have hft:=pfO_ok hcf R1 hF
   obtain ⟨v,ps',av,μ',L',H',nx',h1,h2,h3,h4,h5,h6,h7,h8,h9,h10⟩:=opS_ok (o:=⟨o.dst,none,o.op⟩) hca R1 (fun t ht=>hl t (by simp only [layL,List.mem_append]; exact .inl ht)) rfl h
   have h2:operV T (arun T) (8 * d) o.dst E H nx o.op=some (av,H',nx'):=h2
   have hop:operF T (arun T) (8 * d) o ⟨E,H,nx⟩=some ⟨updO E o.dst av,H',nx'⟩:=by
    unfold operF
    simp only [hw,h2]
   have hfo:footO T (8 * d) o ⟨E,H,nx⟩=foot T (8 * d) o.dst E H nx o.op:=by unfold footO; simp only [hw]
   have hph:(ps'.put o.dst v).heap=ps'.heap:=by cases o.dst <;> rfl
   have hdp:deepSt ps1 o.op=false:=by
    cases hq:deepSt ps1 o.op with
    | false=>rfl
    | true=>unfold pfO at hF; rw [hq] at hF; cases hF
   have haft:Aft ⟨d,ps1.heap,μ,L,H,nx⟩ ⟨d,ps'.heap,μ',L',H',nx'⟩:=⟨rfl,h7,h5,fun a ha=>(h6 a ha).2 hdp,h10⟩
   refine Out.eq (hu cx fin l0 (i + 1) rs prs ((i,F) :: fs) K Ka _ r d anV P0 H0 μ' L' (updO E o.dst av) H' nx' (foots++[footO T (8 * d) o ⟨E,H,nx⟩]) h1 (h3.put h4) hk ?_ hlr hd' ?_) ?_ h7
   ·refine FxI.step (B:=asgL l0) (fun t ht hv=>?_) (fun t ht=>ht) (fun t ht=>ht) hf
    have hn:t ∉ opt1 o.dst:=fun hm=>ht (asgL_mem hmem hm)
    have e:=hlk t ht
    have:=EW.put (dst:=o.dst) (v:=v) h9 t hn (by rw [e]; exact hv)
    rwa [e] at this
   ·rw [hph]
    have hO1:OuR tb l0 i fs foots ⟨d,ps1.heap,μ,L,H,nx⟩:=by rw [hh]; exact hO
    exact hO1.step hm ho0 (VwOK.of R1) haft (hfo ▸ hft)
   ·rw [arun_opU,hop]
  have skip:∀ {ps1:PS} {v:PV} {av:AV},Rel d anV P0 H0 ps1 μ L E H nx→ps1.heap=ps.heap→(∀ t,t ∉ asgL l0→look ps1.env t=look ps.env t)→VR ⟨d,ps1.heap,μ,L,H,nx⟩ v av→operF T (arun T) (8 * d) o ⟨E,H,nx⟩=some ⟨updO E o.dst av,H,nx⟩→footO T (8 * d) o ⟨E,H,nx⟩=F0 →
    evC tb n cx fin (.ou l0 (i + 1) rs prs ((i,F0P ps) :: fs) :: K) (ps1.put o.dst v)=some r→Out T d anV P0 H0 fin (.code (.opsU foots (o :: rs) prs) :: Ka) ⟨E,H,nx⟩ r:=by
   intro ps1 v av R1 hh hlk hv hop hfo h
   have hph:(ps1.put o.dst v).heap=ps1.heap:=by cases o.dst <;> rfl
   refine Out.eq (hu cx fin l0 (i + 1) rs prs ((i,F0P ps) :: fs) K Ka _ r d anV P0 H0 μ L (updO E o.dst av) H nx (foots++[footO T (8 * d) o ⟨E,H,nx⟩]) h (R1.put (fun _=>hv)) hk ?_ hlr hd' ?_) ?_ (Nat.le_refl _)
   ·refine FxI.step (B:=asgL l0) (fun t ht hv=>?_) (fun t ht=>ht) (fun t ht=>ht) hf
    have hn:t ∉ opt1 o.dst:=fun hm=>ht (asgL_mem hmem hm)
    exact .inl ((look_put hn).trans (hlk t ht))
   ·rw [hph,hh]
    exact hO.step hm ho0 (VwOK.of R) (Aft.refl _) (hfo ▸ f0_ok hcf R)
   ·rw [arun_opU,hop]
  have h:(match stOK tb l0 prs with
   | true=>(match o.guard with
    | none=>(match pfO tb o.dst ps o.op with
     | some F=>opS tb (@evC tb n) cx o ps fun v ps'=>evC tb n cx fin (.ou l0 (i + 1) rs prs ((i,F) :: fs) :: K) (ps'.put o.dst v)
     | none=>none)
    | some (g,want)=>grS tb (@evC tb n) cx o g want rs ps fun m rest ps'=>evC tb n cx fin (.ou l0 (i + m) rest prs fs :: K) ps')
   | false=>(match o.guard with
    | none=>(match pickP ps o.op with
     | some (t,x,y)=>bif t then evC tb n cx fin (.ou l0 (i + 1) rs prs ((i,F0P ps) :: fs) :: K) (ps.put o.dst x) else evC tb n cx fin (.ou l0 (i + 1) rs prs ((i,F0P ps) :: fs) :: K) (ps.put o.dst y)
     | none=>(match pfO tb o.dst ps o.op with
      | some F=>opS tb (@evC tb n) cx o ps fun v ps'=>evC tb n cx fin (.ou l0 (i + 1) rs prs ((i,F) :: fs) :: K) (ps'.put o.dst v)
      | none=>none))
    | some (g,want)=>(match boolP (look ps.env g),(asgL l0).elem g with
     | some b,true=>grK want b
       (match pfO tb o.dst (setG ps g want) o.op with
       | some F=>opS tb (@evC tb n) cx ⟨o.dst,none,o.op⟩ (setG ps g want) fun v ps'=>evC tb n cx fin (.ou l0 (i + 1) rs prs ((i,F) :: fs) :: K) (ps'.put o.dst v)
       | none=>none)
       (evC tb n cx fin (.ou l0 (i + 1) rs prs ((i,F0P ps) :: fs) :: K) ((setG ps g (!want)).put o.dst (.tup [])))
     | _,_=>none)))=some r:=h
  have eta:∀ (hg:o.guard=none),(⟨o.dst,none,o.op⟩:AOper)=o:=fun hg=>by cases o; simp only at hg; subst hg; rfl
  cases hst:stOK tb l0 prs with
  | true=>
   rw [hst] at h
   simp only at h
   cases hg:o.guard with
   | none=>
    rw [hg] at h
    simp only at h
    split at h
    ·rename_i F hF
     rw [← eta hg] at h
     exact plain R rfl (fun _ _=>rfl) (by rw [hg]; rfl) hF h
    ·cases h
   | some p=>
    obtain ⟨g,want⟩:=p
    rw [hg] at h
    simp only at h
    obtain ⟨rest,ps',E',H',nx',G,h1,h2,h3,h4,h5,h6,h7,h8⟩:=grS_ok hs R h
    obtain ⟨p1,p2,p3⟩:=h2.spec
    have haft:Aft ⟨d,ps.heap,μ,L,H,nx⟩ ⟨d,ps'.heap,μ,L,H',nx'⟩:=⟨rfl,h4,by rw [h5]; exact Nat.le_refl _,fun _ _=>rfl,fun a _ hl=>by rw [h5] at hl; exact hl⟩
    refine Out.eq (hu cx fin l0 (i + G.length) rest prs fs K Ka _ r d anV P0 H0 μ L E' H' nx' (foots++G) h1 h3 hk ?_ (fun t ht=>hl t (h8 t ht)) ?_ ?_) (h2.opsU Ka prs foots) h4
    ·exact FxI.step h6 (fun t ht=>ht) (fun t ht=>asgL_drop (i:=i) (hd ▸ ht)) hf
    ·rw [p1,hd,List.drop_drop]
    ·have hold:∀ {j:Nat} {A:Foot},foots[j]? = some A→(foots++G)[j]? = some A:=by
      intro j A hj
      rw [List.getElem?_append_left (List.getElem?_eq_some_iff.1 hj).1]; exact hj
     refine ⟨by simp [hO.len],fun j A o' hj ho' hr=>?_,fun j F' hj=>?_,fun j j' F1 G1 hj hj' hlt hind=>?_⟩
     ·by_cases hji:j < i
      ·rw [List.getElem?_append_left (by rw [hO.len]; exact hji)] at hj
       exact hO.ro j A o' hj ho' hr
      ·rw [List.getElem?_append_right (by rw [hO.len]; omega),hO.len] at hj
       obtain ⟨o2,s1,q1,q2⟩:=p3 _ _ hj
       rw [hd,List.getElem?_drop] at q1
       rw [show i + (j - i)=j by omega,ho'] at q1
       cases q1
       rw [q2]
       exact ro_foot hm hr _
     ·obtain ⟨k1,A,X1,k2,k3,k4,k5⟩:=hO.snap j F' hj
      exact ⟨by omega,A,X1,hold k2,k3,k4.trans haft,k5⟩
     ·obtain ⟨A,B,k1,k2,k3⟩:=hO.prs j j' F1 G1 hj hj' hlt hind
      exact ⟨A,B,hold k1,hold k2,k3⟩
  | false=>
   rw [hst] at h
   simp only at h
   cases hg:o.guard with
   | none=>
    rw [hg] at h
    simp only at h
    split at h
    ·rename_i t x y hp
     have hpk:∃ c a b,o.op = .pick c a b∧boolP (pev ps c)=some t∧x=pev ps a∧y=pev ps b:=by
      unfold pickP at hp
      split at hp
      ·rename_i c a b he
       split at hp
       ·rename_i t' ht'
        cases hp
        exact ⟨c,a,b,he,ht',rfl,rfl⟩
       ·cases hp
      ·cases hp
     obtain ⟨c,a,b,he,hc,rfl,rfl⟩:=hpk
     have hbo:=boolP_rel hc (R.pev c)
     have hfo:footO T (8 * d) o ⟨E,H,nx⟩=F0:=by unfold footO; rw [hg,he]; rfl
     have hop:operF T (arun T) (8 * d) o ⟨E,H,nx⟩=some ⟨updO E o.dst (if t then ev E a else ev E b),H,nx⟩:=by
      refine operF_none hg ?_
      rw [he]
      simp only [operV,hbo]
     cases t with
     | true=>exact skip R rfl (fun _ _=>rfl) (R.pev a) hop hfo h
     | false=>exact skip R rfl (fun _ _=>rfl) (R.pev b) hop hfo h
    ·split at h
     ·rename_i F hF
      rw [← eta hg] at h
      exact plain R rfl (fun _ _=>rfl) (by rw [hg]; rfl) hF h
     ·cases h
   | some p=>
    obtain ⟨g,want⟩:=p
    rw [hg] at h
    simp only at h
    split at h
    ·rename_i b hb hgl
     have hEg:=boolP_rel hb (R.env g)
     have hgm:g∈asgL l0:=by rw [List.elem_eq_mem] at hgl; simpa using hgl
     have hlk:∀ q t,t ∉ asgL l0→look (setG ps g q).env t=look ps.env t:=fun q t ht=>setG_ew (fun e=>ht (e ▸ hgm))
     rw [grK_eq] at h
     cases hbw:beqB b want with
     | true=>
      have:=beqB_eq hbw
      subst this
      rw [hbw] at h
      simp only [cond_true] at h
      split at h
      ·rename_i F hF
       exact plain (setG_rel R hEg) rfl (hlk b) (by rw [hg]; simp only [wantedA,hEg,beq_self_eq_true]) hF h
      ·cases h
     | false=>
      rw [hbw] at h
      simp only [cond_false] at h
      have hne:(b == want)=false:=by cases b <;> cases want <;> first | rfl | cases hbw
      have hbn:b = !want:=by cases b <;> cases want <;> first | rfl | cases hbw
      have hw:wantedA E o.guard=some false:=by rw [hg]; simp only [wantedA,hEg,hne]
      refine skip (v:=.tup []) (av:=.tup []) (setG_rel R (hbn ▸ hEg)) rfl (hlk _) (by unfold VR; exact ⟨[],rfl,trivial⟩) ?_ ?_ h
      ·unfold operF; simp only [hw]
      ·unfold footO; simp only [hw]
    ·cases h
end
end Go.Am
/- The machine on typed data against the small machine: a call that is handed a slice within a slice's element. -/
namespace Go.Am
structure GrowF (X Y:Vw):Prop where
 d:Y.d=X.d
 len:X.hp.length≤Y.hp.length
 mu:∀ a,a < X.hp.length→Y.μ a=X.μ a
 ob:∀ a,a < X.hp.length→laterO (hget X.hp a) (hget Y.hp a)
 ki:∀ t o,X.KI t o→Y.H o=X.H o∧Y.KI t o
theorem pure_freeL:∀ {cs:List PV},cs.all pureLeaf=true→freePs cs=true
 | [],_=>rfl
 | x :: r,h=>by
  simp only [List.all_cons,Bool.and_eq_true] at h
  simp only [freePs,pure_freeL h.2,Bool.and_true]
  cases x with
  | d p t y=>exact h.1
  | nils=>rfl
  | _=>first | (simp [pureLeaf] at h; done) | rfl
theorem pure_free {u:PV} (h0:pureV u=true) (h1:cellOK u=true):freeP u=true:=by
 cases u with
 | agg cs=>exact pure_freeL h0
 | d p t x=>exact h0
 | nils=>rfl
 | _=>first | (simp [cellOK,cellLeaf] at h1; done) | rfl
mutual
theorem VR.monoF {X Y:Vw} (g:GrowF X Y):∀ (v:PV) (a:AV),freeP v=true→VR X v a→VR Y v a
 | .d p t x,a,hf,⟨Li,h1,h2,h3⟩=>by
  have hL:Li=[]:=h2 (by simpa [freeP] using hf)
  subst hL
  exact ⟨[],Rep.frame t x a [] (fun i hi=>by cases hi) h1,fun _=>rfl,fun i hi=>by cases hi⟩
 | .agg cs,a,hf,⟨h1,h2⟩=>⟨h1,VRs.monoF g cs _ hf h2⟩
 | .nils,a,_,h=>h
 | .np,a,_,h=>h
 | .own b,a,_,⟨h1,h2,h3⟩=>⟨Nat.lt_of_lt_of_le h1 g.len,h2.trans (g.mu b h1).symm,h3⟩
 | .win b off len,a,_,⟨h1,h2⟩=>⟨Nat.lt_of_lt_of_le h1 g.len,by rw [g.mu b h1]; exact h2⟩
 | .cp b off,a,_,⟨h1,h2⟩=>⟨Nat.lt_of_lt_of_le h1 g.len,by rw [g.mu b h1]; exact h2⟩
 | .ep b ver i off e x,a,_,⟨h1,o,gg,n,off0,len0,h2,h3,h4,h5⟩=>by
  refine ⟨Nat.lt_of_lt_of_le h1 g.len,o,gg,n,off0,len0,by rw [g.mu b h1]; exact h2,h3,h4,?_⟩
  intro ro ver' tmp sz e' dp xs hb
  have hl:=g.ob b h1
  rw [hb] at hl
  cases hx:hget X.hp b with
  | none=>rw [hx] at hl; exact hl.elim
  | some ob=>
   rw [hx] at hl
   cases ob with
   | cell=>exact hl.elim
   | sl ro1 ver1 tmp1 sz1 e1 dp1 xs1=>
    obtain ⟨k1,k2⟩:=h5 _ _ _ _ _ _ _ hx
    rcases hl with hl | ⟨hl,he,hxs⟩
    ·exact ⟨by omega,fun e=>by omega⟩
    ·subst hl; subst he; subst hxs
     exact ⟨k1,k2⟩
 | .tp p e x off,a,hf,h=>by
  have hp:p=true:=hf
  rcases h with ⟨y,h1,h2⟩ | ⟨h0,_⟩
  ·exact .inl ⟨y,h1,Rep.frame e x _ [] (fun i hi=>by cases hi) h2⟩
  ·rw [hp] at h0; cases h0
 | .kp t u off,a,_,⟨h0,h0',o,gg,b,w,h1,h2,h3,h4,h5,h6,h7⟩=>by
  obtain ⟨k1,k2⟩:=g.ki t o h1
  exact ⟨h0,h0',o,gg,b,w,k2,h2,k1.trans h3,h4,h5,h6,VR.monoF g u w (pure_free h0 h0') h7⟩
 | .fn f cs,a,hf,⟨vs,h1,h2⟩=>⟨vs,h1,VRs.monoF g cs vs hf h2⟩
 | .tup l,a,hf,⟨vs,h1,h2⟩=>⟨vs,h1,VRs.monoF g l vs hf h2⟩
 | .undef,_,_,_=>trivial
theorem VRs.monoF {X Y:Vw} (g:GrowF X Y):∀ (v:List PV) (a:List AV),freePs v=true→VRs X v a→VRs Y v a
 | [],[],_,_=>trivial
 | x :: r,v :: q,hf,⟨h1,h2⟩=>by
  simp only [freePs,Bool.and_eq_true] at hf
  exact ⟨VR.monoF g x v hf.1 h1,VRs.monoF g r q hf.2 h2⟩
 | [],_ :: _,_,h=>h.elim
 | _ :: _,[],_,h=>h.elim
end
theorem ObR.monoF {X Y:Vw} (g:GrowF X Y) {a:Nat} {ob:PObj} (ha:a < X.hp.length) (hL:Y.L a=X.L a) (hH:∀ i∈X.L a,Y.H i=X.H i) (hc:clnO (some ob)=some ob) (h:ObR X a ob):ObR Y a ob:=by
 cases ob with
 | sl ro ver tmp sz e dp xs=>
  obtain ⟨h1,h2,h3⟩:=h
  refine ⟨h1,h2,?_⟩
  rcases h3 with ⟨e1,e2,e3⟩ | ⟨o,gg,n,off,len,b,L',e1,e2,e3,e4,e5,e6,e7,e8,e9,e10,e11⟩
  ·exact .inl ⟨(g.mu a ha).trans e1,e2,hL.trans e3⟩
  ·cases dp with
   | true=>
    refine .inr ⟨o,gg,n,off,len,b,L',(g.mu a ha).trans e1,(hH o (by rw [e10]; simp)).trans e2,e3,e4,e5,e6,e7,RepL.frame (fun i hi=>?_) e8,e9,hL.trans e10,(fun q=>by cases q),e11.2⟩
    exact hH i (by rw [e10]; simp [hi])
   | false=>
    have hfl:e.flat=true:=by
     simp only [clnO,Bool.false_or] at hc
     cases hfl:e.flat with
     | true=>rfl
     | false=>rw [hfl] at hc; cases hc
    obtain ⟨k1,k2⟩:=RepL.flatE (own':=false) (H':=Y.H) hfl e8
    subst k2
    exact .inr ⟨o,gg,n,off,len,b,[],(g.mu a ha).trans e1,(hH o (by rw [e10]; simp)).trans e2,e3,e4,e5,e6,e7,k1,fun x hx=>⟨(e9 x hx).1,(e9 x hx).2.1,fun q=>by cases q⟩,hL.trans e10,(fun _ i hi=>by cases hi),fun q=>by cases q⟩
 | cell ro tmp v=>
  obtain ⟨o,gg,b,w,e1,e2,e3,e4,e5,e6,e7,e8,e9,e10,e11⟩:=h
  have hfv:freeP v=true:=by
   simp only [clnO] at hc
   cases hfv:freeP v with
   | true=>rfl
   | false=>rw [hfv] at hc; cases hc
  exact ⟨o,gg,b,w,(g.mu a ha).trans e1,(hH o (by rw [e9]; simp)).trans e2,e3,e4,e5,e6,e7,e8,hL.trans e9,VR.monoF g v w hfv e10,e11⟩
theorem sl_named {H:Heap} {sz:Nat} {e:Kd} {xs:List e.den} {v:AV} {L:List Id} (hg:goodSl sz e=true) (h:Rep true H (.sl sz e) xs v L) {Y:Vw} {a:Nat} (hH:Y.H=H) (hm:Y.μ a=v) (hL:Y.L a=L):ObR Y a (.sl false 0 none sz e true xs)∧isRef v:=by
 obtain ⟨g1,g2⟩:=goodSl_spec hg
 rcases h with ⟨h1,h2,h3⟩ | ⟨h1,_⟩ | ⟨o,g,n,off,len,b,L',h1,h2,h3,h4,h5,h6,h7,h8,h9,h10⟩
 ·subst h1
  exact ⟨⟨g1,g2,.inl ⟨hm,h2,hL.trans h3⟩⟩,trivial⟩
 ·cases h1
 ·subst h1
  obtain ⟨w1,w2⟩:=h9 rfl
  refine ⟨⟨g1,g2,.inr ⟨o,g,n,off,len,b,L',hm,by rw [hH]; exact h2,h3,h4,h5,h6,fun _=>w1,by rw [hH]; exact h7,fun x hx=>⟨(w2.1 x hx).1,(w2.1 x hx).2.1,fun _=>(w2.1 x hx).2.2⟩,by rw [hL,h8]; rfl,(fun h=>by cases h),fun _=>w2.2⟩⟩,trivial⟩
theorem look_clnE:∀ (e:List (Nat×PV)) (t:Nat),look (clnE e) t = .undef∨(look (clnE e) t=look e t∧freeP (look e t)=true)
 | [],t=>.inl rfl
 | (u,v) :: r,t=>by
  simp only [clnE,look_cons]
  by_cases h:u=t
  ·rw [if_pos h,if_pos h]
   cases hf:freeP v with
   | true=>exact .inr ⟨rfl,rfl⟩
   | false=>exact .inl rfl
  ·rw [if_neg h,if_neg h]; exact look_clnE r t
theorem clnO_some {o:Option PObj} {ob:PObj} (h:clnO o=some ob):o=some ob∧clnO (some ob)=some ob:=by
 cases o with
 | none=>cases h
 | some x=>
  have:x=ob:=by
   cases x with
   | sl ro ver tmp sz e dp xs=>
    simp only [clnO] at h
    split at h
    ·exact Option.some.inj h
    ·cases h
   | cell ro tmp v=>
    simp only [clnO] at h
    split at h
    ·exact Option.some.inj h
    ·cases h
  subst this
  exact ⟨rfl,h⟩
theorem laterO_none (o:Option PObj):laterO o none:=by cases o <;> trivial
structure GrowN (X Y:Vw):Prop where
 d:Y.d=X.d
 len:X.hp.length≤Y.hp.length
 mu:∀ a,a < X.hp.length→Y.μ a=X.μ a
 ki:∀ t o,X.KI t o→Y.H o=X.H o∧Y.KI t o
theorem noEp_leafs:∀ {cs:List PV},cs.all cellLeaf=true→noEps cs=true
 | [],_=>rfl
 | x :: r,h=>by
  simp only [List.all_cons,Bool.and_eq_true] at h
  simp only [noEps,noEp_leafs h.2,Bool.and_true]
  cases x <;> first | rfl | simp [cellLeaf] at h
theorem noEp_cell {u:PV} (h:cellOK u=true):noEp u=true:=by
 cases u with
 | agg cs=>
  simp only [cellOK,Bool.and_eq_true] at h
  exact noEp_leafs h.1
 | _=>first | rfl | (simp [cellOK,cellLeaf] at h; done)
mutual
theorem VR.monoN {X Y:Vw} (g:GrowN X Y):∀ (v:PV) (a:AV),freeP v=true→noEp v=true→VR X v a→VR Y v a
 | .d p t x,a,hf,_,⟨Li,h1,h2,h3⟩=>by
  have hL:Li=[]:=h2 (by simpa [freeP] using hf)
  subst hL
  exact ⟨[],Rep.frame t x a [] (fun i hi=>by cases hi) h1,fun _=>rfl,fun i hi=>by cases hi⟩
 | .agg cs,a,hf,hn,⟨h1,h2⟩=>⟨h1,VRs.monoN g cs _ hf hn h2⟩
 | .nils,a,_,_,h=>h
 | .np,a,_,_,h=>h
 | .own b,a,_,_,⟨h1,h2,h3⟩=>⟨Nat.lt_of_lt_of_le h1 g.len,h2.trans (g.mu b h1).symm,h3⟩
 | .win b off len,a,_,_,⟨h1,h2⟩=>⟨Nat.lt_of_lt_of_le h1 g.len,by rw [g.mu b h1]; exact h2⟩
 | .cp b off,a,_,_,⟨h1,h2⟩=>⟨Nat.lt_of_lt_of_le h1 g.len,by rw [g.mu b h1]; exact h2⟩
 | .ep b ver i off e x,a,_,hn,_=>by cases hn
 | .tp p e x off,a,hf,_,h=>by
  have hp:p=true:=hf
  rcases h with ⟨y,h1,h2⟩ | ⟨h0,_⟩
  ·exact .inl ⟨y,h1,Rep.frame e x _ [] (fun i hi=>by cases hi) h2⟩
  ·rw [hp] at h0; cases h0
 | .kp t u off,a,_,_,⟨h0,h0',o,gg,b,w,h1,h2,h3,h4,h5,h6,h7⟩=>by
  obtain ⟨k1,k2⟩:=g.ki t o h1
  exact ⟨h0,h0',o,gg,b,w,k2,h2,k1.trans h3,h4,h5,h6,VR.monoN g u w (pure_free h0 h0') (noEp_cell h0') h7⟩
 | .fn f cs,a,hf,hn,⟨vs,h1,h2⟩=>⟨vs,h1,VRs.monoN g cs vs hf hn h2⟩
 | .tup l,a,hf,hn,⟨vs,h1,h2⟩=>⟨vs,h1,VRs.monoN g l vs hf hn h2⟩
 | .undef,_,_,_,_=>trivial
theorem VRs.monoN {X Y:Vw} (g:GrowN X Y):∀ (v:List PV) (a:List AV),freePs v=true→noEps v=true→VRs X v a→VRs Y v a
 | [],[],_,_,_=>trivial
 | x :: r,v :: q,hf,hn,⟨h1,h2⟩=>by
  simp only [freePs,Bool.and_eq_true] at hf
  simp only [noEps,Bool.and_eq_true] at hn
  exact ⟨VR.monoN g x v hf.1 hn.1 h1,VRs.monoN g r q hf.2 hn.2 h2⟩
 | [],_ :: _,_,_,h=>h.elim
 | _ :: _,[],_,_,h=>h.elim
end
theorem ObR.monoN {X Y:Vw} (g:GrowN X Y) {a:Nat} {ob:PObj} (ha:a < X.hp.length) (hL:Y.L a=X.L a) (hH:∀ i∈X.L a,Y.H i=X.H i) (hc:clnO (some ob)=some ob) (h:ObR X a ob):ObR Y a ob:=by
 cases ob with
 | sl ro ver tmp sz e dp xs=>
  obtain ⟨h1,h2,h3⟩:=h
  refine ⟨h1,h2,?_⟩
  rcases h3 with ⟨e1,e2,e3⟩ | ⟨o,gg,n,off,len,b,L',e1,e2,e3,e4,e5,e6,e7,e8,e9,e10,e11⟩
  ·exact .inl ⟨(g.mu a ha).trans e1,e2,hL.trans e3⟩
  ·cases dp with
   | true=>
    refine .inr ⟨o,gg,n,off,len,b,L',(g.mu a ha).trans e1,(hH o (by rw [e10]; simp)).trans e2,e3,e4,e5,e6,e7,RepL.frame (fun i hi=>?_) e8,e9,hL.trans e10,(fun q=>by cases q),e11.2⟩
    exact hH i (by rw [e10]; simp [hi])
   | false=>
    have hfl:e.flat=true:=by
     simp only [clnO,Bool.false_or] at hc
     cases hfl:e.flat with
     | true=>rfl
     | false=>rw [hfl] at hc; cases hc
    obtain ⟨k1,k2⟩:=RepL.flatE (own':=false) (H':=Y.H) hfl e8
    subst k2
    exact .inr ⟨o,gg,n,off,len,b,[],(g.mu a ha).trans e1,(hH o (by rw [e10]; simp)).trans e2,e3,e4,e5,e6,e7,k1,fun x hx=>⟨(e9 x hx).1,(e9 x hx).2.1,fun q=>by cases q⟩,hL.trans e10,(fun _ i hi=>by cases hi),fun q=>by cases q⟩
 | cell ro tmp v=>
  obtain ⟨o,gg,b,w,e1,e2,e3,e4,e5,e6,e7,e8,e9,e10,e11⟩:=h
  have hfv:freeP v=true:=by
   simp only [clnO] at hc
   cases hfv:freeP v with
   | true=>rfl
   | false=>rw [hfv] at hc; cases hc
  exact ⟨o,gg,b,w,(g.mu a ha).trans e1,(hH o (by rw [e9]; simp)).trans e2,e3,e4,e5,e6,e7,e8,hL.trans e9,VR.monoN g v w hfv (noEp_cell e11) e10,e11⟩
theorem look_clnM:∀ (e:List (Nat×PV)) (t:Nat),look (clnM e) t = .undef∨(look (clnM e) t=look e t∧freeP (look e t)=true∧noEp (look e t)=true)
 | [],t=>.inl rfl
 | (u,v) :: r,t=>by
  simp only [clnM,look_cons]
  by_cases h:u=t
  ·rw [if_pos h,if_pos h]
   cases hf:freeP v && noEp v with
   | true=>
    rw [Bool.and_eq_true] at hf
    exact .inr ⟨rfl,hf⟩
   | false=>exact .inl rfl
  ·rw [if_neg h,if_neg h]; exact look_clnM r t
theorem rwFrom_spec:∀ {n:Nat} {hp:List (Option PObj)} {a:Nat} {ob:PObj},rwFrom n hp=true→hget hp a=some ob→n≤a→roOf ob=false
 | _,[],a,ob,_,h,_=>by simp [hget] at h
 | 0,o :: r,0,ob,h,hg,_=>by
  simp only [rwFrom,Bool.and_eq_true] at h
  obtain rfl:o=some ob:=hg
  simpa using h.1
 | 0,o :: r,a + 1,ob,h,hg,_=>by
  simp only [rwFrom,Bool.and_eq_true] at h
  exact rwFrom_spec (n:=0) h.2 (by simpa [hget] using hg) (Nat.zero_le _)
 | n + 1,o :: r,0,ob,h,hg,hn=>by omega
 | n + 1,o :: r,a + 1,ob,h,hg,hn=>rwFrom_spec (n:=n) (by simpa [rwFrom] using h) (by simpa [hget] using hg) (by omega)
theorem getFs_hole {H:Heap}:∀ (fs:List Kd) (x:Kd.dens fs) (vs:List AV) (L:List Id) (n:Nat) (y:FX),Reps true H fs x vs L→getFs fs x n=some y →
  ∃ A Lb B cv,L=A++(Lb++B)∧vs[n]? = some cv∧Rep true H (.sl y.sz y.e) y.ys cv Lb ∧
   ∀ (HH:Heap) (ys':List y.e.den) (x':Kd.dens fs),(∀ j∈A++B,HH j=H j)→Rep true HH (.sl y.sz y.e) ys' cv Lb→putFs fs x n y.sz y.e ys'=some x'→Reps true HH fs x' vs L
 | [],x,vs,L,n,y,_,hy=>by simp [getFs] at hy
 | t :: r,x,[],L,n,y,h,_=>h.elim
 | t :: r,x,v :: vs,L,0,y,⟨h0,L1,L2,h1,h2,e⟩,hy=>by
  cases t with
  | sl sz e'=>
   simp only [getFs] at hy
   cases hy
   refine ⟨[],L1,L2,v,e,rfl,h1,fun HH ys' x' hf hr hp=>?_⟩
   simp only [putFs] at hp
   rw [show castK (.sl sz e') (.sl sz e') ys'=some ys' from castK_self (t:=.sl sz e') ys'] at hp
   cases hp
   exact ⟨h0,L1,L2,hr,Reps.frame r x.2 vs L2 (fun i hi=>hf i (by simpa using hi)) h2,e⟩
  | _=>simp [getFs] at hy
 | t :: r,x,v :: vs,L,n + 1,y,⟨h0,L1,L2,h1,h2,e⟩,hy=>by
  have hy:getFs r x.2 n=some y:=by
   cases t <;> simpa only [getFs] using hy
  obtain ⟨A,Lb,B,cv,e2,k1,k2,k3⟩:=getFs_hole r x.2 vs L2 n y h2 hy
  refine ⟨L1++A,Lb,B,cv,by rw [e,e2]; simp [List.append_assoc],by simpa using k1,k2,fun HH ys' x' hf hr hp=>?_⟩
  simp only [putFs] at hp
  split at hp
  ·rename_i y' hp'
   cases hp
   exact ⟨h0,L1,L2,Rep.frame t x.1 v L1 (fun i hi=>hf i (by simp [hi])) h1,k3 HH ys' y' (fun j hj=>hf j (by
    rcases List.mem_append.1 hj with q | q <;> simp [q])) hr hp',e⟩
  ·cases hp
theorem getF_hole {H:Heap}:∀ (e:Kd) (x:e.den) (w:AV) (L:List Id) (n:Nat) (y:FX),Rep true H e x w L→getF e x n=some y →
  ∃ A Lb B cv,L=A++(Lb++B)∧w.cells[n]? = some cv∧Rep true H (.sl y.sz y.e) y.ys cv Lb ∧
   ∀ (HH:Heap) (ys':List y.e.den) (x':e.den),(∀ j∈A++B,HH j=H j)→Rep true HH (.sl y.sz y.e) ys' cv Lb→putF e x n y.sz y.e ys'=some x'→Rep true HH e x' w L
 | .st fs,x,w,L,n,y,⟨h0,h⟩,hy=>by
  obtain ⟨A,Lb,B,cv,e2,k1,k2,k3⟩:=getFs_hole fs x w.cells L n y h hy
  exact ⟨A,Lb,B,cv,e2,k1,k2,fun HH ys' x' hf hr hp=>⟨h0,k3 HH ys' x' hf hr hp⟩⟩
 | .sl sz e,x,w,L,0,y,h,hy=>by
  have hy:some (⟨sz,e,x⟩:FX)=some y:=hy
  cases hy
  have hc:w.cells=[w]:=by
   rcases h with ⟨rfl,_⟩ | ⟨k,_⟩ | ⟨o,g,n,off,len,b,L',rfl,_⟩
   ·rfl
   ·cases k
   ·rfl
  refine ⟨[],L,[],w,by simp,by rw [hc]; rfl,h,fun HH ys' x' hf hr hp=>?_⟩
  have hp:castK (.sl sz e) (.sl sz e) ys'=some x':=hp
  rw [show castK (.sl sz e) (.sl sz e) ys'=some ys' from castK_self (t:=.sl sz e) ys'] at hp
  cases hp
  exact hr
 | .sl sz e,x,w,L,n + 1,y,h,hy=>by have hy:(none:Option FX)=some y:=hy; cases hy
 | .int k,x,w,L,n,y,h,hy=>by have hy:(none:Option FX)=some y:=hy; cases hy
 | .bool,x,w,L,n,y,h,hy=>by have hy:(none:Option FX)=some y:=hy; cases hy
 | .str,x,w,L,n,y,h,hy=>by have hy:(none:Option FX)=some y:=hy; cases hy
theorem RepL_hole {H:Heap} {e:Kd} {off:Nat} {x:e.den} {y:FX} (hy:getF e x off=some y):∀ (xs:List e.den) (vs:List AV) (L:List Id) (i:Nat),RepL (Rep true H e) xs vs L→xs[i]? = some x →
  ∃ A Lb B w cv,L=A++(Lb++B)∧vs[i]? = some w∧w.cells[off]? = some cv∧Rep true H (.sl y.sz y.e) y.ys cv Lb ∧
   ∀ (HH:Heap) (ys':List y.e.den) (x':e.den),(∀ j∈A++B,HH j=H j)→Rep true HH (.sl y.sz y.e) ys' cv Lb→putF e x off y.sz y.e ys'=some x'→RepL (Rep true HH e) (xs.set i x') vs L
 | [],_,_,i,_,h=>by simp at h
 | _ :: _,[],_,_,h,_=>h.elim
 | a :: xs,v :: vs,L,0,⟨L1,L2,h1,h2,e1⟩,hx=>by
  simp at hx
  subst hx
  obtain ⟨A,Lb,B,cv,e2,k1,k2,k3⟩:=getF_hole e a v L1 off y h1 hy
  refine ⟨A,Lb,B++L2,v,cv,by rw [e1,e2]; simp [List.append_assoc],rfl,k1,k2,fun HH ys' x' hf hr hp=>?_⟩
  exact ⟨L1,L2,k3 HH ys' x' (fun j hj=>hf j (by rcases List.mem_append.1 hj with q | q <;> simp [q])) hr hp,RepL.frame (fun j hj=>hf j (by simp [hj])) h2,e1⟩
 | a :: xs,v :: vs,L,i + 1,⟨L1,L2,h1,h2,e1⟩,hx=>by
  obtain ⟨A,Lb,B,w,cv,e2,k0,k1,k2,k3⟩:=RepL_hole hy xs vs L2 i h2 (by simpa using hx)
  refine ⟨L1++A,Lb,B,w,cv,by rw [e1,e2]; simp [List.append_assoc],by simpa using k0,k1,k2,fun HH ys' x' hf hr hp=>?_⟩
  exact ⟨L1,L2,Rep.frame e a v L1 (fun j hj=>hf j (by simp [hj])) h1,k3 HH ys' x' (fun j hj=>hf j (by rcases List.mem_append.1 hj with q | q <;> simp [q])) hr hp,e1⟩
theorem getFs_kind {sz2:Nat} {e2:Kd} {ys:List e2.den}:∀ (fs:List Kd) (x:Kd.dens fs) (m:Nat) (y:FX) (x':Kd.dens fs),getFs fs x m=some y→putFs fs x m sz2 e2 ys=some x'→(Kd.sl sz2 e2)=(Kd.sl y.sz y.e)
 | [],x,m,y,x',h,_=>by
  have h:(none:Option FX)=some y:=h
  cases h
 | t :: r,x,0,y,x',h,h'=>by
  have h':(match castK (.sl sz2 e2) t ys with | some y=>some ((y,x.2):Kd.dens (t :: r)) | none=>none)=some x':=h'
  split at h'
  ·rename_i z hz
   obtain ⟨rfl,_⟩:=castK_eq hz
   have h:some (⟨sz2,e2,x.1⟩:FX)=some y:=h
   cases h
   rfl
  ·cases h'
 | t :: r,x,m + 1,y,x',h,h'=>by
  have h:getFs r x.2 m=some y:=by cases t <;> exact h
  have h':(match putFs r x.2 m sz2 e2 ys with | some y=>some ((x.1,y):Kd.dens (t :: r)) | none=>none)=some x':=h'
  split at h'
  ·rename_i z hz
   exact getFs_kind r x.2 m y z h hz
  ·cases h'
theorem getF_kind {sz2:Nat} {e2:Kd} {ys:List e2.den} {m:Nat} {y:FX}:∀ (e:Kd) {x x':e.den},getF e x m=some y→putF e x m sz2 e2 ys=some x'→(Kd.sl sz2 e2)=(Kd.sl y.sz y.e)
 | .st fs,x,x',h,h'=>getFs_kind fs x m y x' h h'
 | .sl s0 e0,x,x',h,h'=>by
  cases m with
  | zero=>
   have h:some (⟨s0,e0,x⟩:FX)=some y:=h
   cases h
   have h':castK (.sl sz2 e2) (.sl s0 e0) ys=some x':=h'
   exact (castK_eq h').1
  | succ m=>
   have h:(none:Option FX)=some y:=h
   cases h
 | .int k,x,x',h,_=>by have h:(none:Option FX)=some y:=h; cases h
 | .bool,x,x',h,_=>by have h:(none:Option FX)=some y:=h; cases h
 | .str,x,x',h,_=>by have h:(none:Option FX)=some y:=h; cases h
theorem slR_rep {Y:Vw} {a sz:Nat} {e:Kd} {xs:List e.den} (h:SlR Y a false sz e true xs):Rep true Y.H (.sl sz e) xs (Y.μ a) (Y.L a):=by
 obtain ⟨s0,s1,h⟩:=h
 rcases h with ⟨e1,e2,e3⟩ | ⟨o,g,n,off,len,b,L',e1,e2,e3,e4,e5,e6,e7,e8,e9,e10,e11⟩
 ·exact .inl ⟨e1,e2,e3⟩
 ·exact .inr (.inr ⟨o,g,n,off,len,b,L',e1,e2,e3,e4,e5,e6,e8,e10,fun _=>⟨e7 rfl,fun x hx=>⟨(e9 x hx).1,(e9 x hx).2.1,(e9 x hx).2.2 rfl⟩,e11.2 rfl⟩,s0⟩)
section
variable {tb:PTab} {T:Tab} {n:Nat} {d:Nat} {anV:List AV} {P0:Id→Prop} {H0:Heap} {ps:PS} {μ:Nat→AV} {L:Nat→List Id} {E:AEnv} {H:Heap} {nx:Nat} {ρ:Type} {r:ρ}
theorem oldI_age {i:Id} (h:oldI d nx i):ageI d nx none i:=by
 cases i with
 | dy k=>exact h
 | st d' t=>exact .inl h
 | ex k=>exact h.elim
theorem mac_open (R:Rel d anV P0 H0 ps μ L E H nx) {c ver i off sz:Nat} {e1:Kd} {x1:e1.den} {e:Kd} {xs:List e.den} {x:e.den} {y:FX} {av:AV}
  (hv:VR ⟨d,ps.heap,μ,L,H,nx⟩ (.ep c ver i off e1 x1) av) (hc:hget ps.heap c=some (.sl false ver none sz e true xs)) (hx:castK e1 e x1=some x) (hy:getF e x off=some y) (hg:goodSl y.sz y.e=true) (han:freePs ps.anc=true) :
  ∃ o A B Lb cv,(∀ m,loadV H false m av=some cv)∧L c=o :: (A++(Lb++B)) ∧
   Rel d anV (fun p=>P0 p∨p∈o :: (A++B)) H ⟨clnE ps.env,ps.anc,(hset ps.heap c none).map clnO++[some (.sl false 0 none y.sz y.e true y.ys)]⟩ (updN μ ps.heap.length cv) (updN L ps.heap.length Lb) E H nx ∧
   VR ⟨d,(hset ps.heap c none).map clnO++[some (.sl false 0 none y.sz y.e true y.ys)],updN μ ps.heap.length cv,updN L ps.heap.length Lb,H,nx⟩ (.own ps.heap.length) cv ∧
   ∀ (Y:Vw) (ys':List y.e.den) (x':e.den),(∀ j∈o :: (A++B),Y.H j=H j)→Rep true Y.H (.sl y.sz y.e) ys' cv Lb→putF e x off y.sz y.e ys'=some x'→Y.μ c=μ c→Y.L c=L c→SlR Y c false sz e true (setL xs i x'):=by
 obtain ⟨hcl,o,g,n,off0,len0,hmu,hi,rfl,hep⟩:=hv
 obtain ⟨_,hep⟩:=hep _ _ _ _ _ _ _ hc
 obtain ⟨x2,hx2,hxi⟩:=hep rfl
 have hx2:castK e1 e x1=some x2:=hx2
 rw [hx] at hx2
 cases hx2
 have hmu:μ c = .ref o g n off0 len0:=hmu
 obtain ⟨s0,s1,s2⟩:=R.ob c _ hc
 rcases s2 with ⟨t1,_⟩ | ⟨o',g',n',off',len',b,L',t1,t2,t3,t4,t5,t6,t7,t8,t9,t10,t11⟩
 ·have t1:μ c = .nils:=t1
  rw [hmu] at t1; cases t1
 have t1:μ c = .ref o' g' n' off' len':=t1
 rw [hmu] at t1
 cases t1
 have t2:H o=some b:=t2
 obtain ⟨A,Lb,B,w,cv,eL,k0,k1,k2,k3⟩:=RepL_hole hy xs _ L' i t8 hxi
 have hLc:L c=o :: (A++(Lb++B)):=by
  have:L c=o :: L':=t10
  rw [this,eL]
 have hlc:live ps.heap c:=live_iff.2 ⟨_,hc⟩
 have hnd:=R.nd c hlc
 rw [hLc] at hnd
 obtain ⟨hno,hnd⟩:=List.nodup_cons.1 hnd
 obtain ⟨nA,nLB,dA⟩:=List.nodup_append.1 hnd
 obtain ⟨nLb,nB,dB⟩:=List.nodup_append.1 nLB
 have hold:∀ j∈A++(Lb++B),oldI d nx j:=fun j hj=>R.tl c hlc j (by rw [hLc]; exact hj)
 have hLbc:∀ j∈Lb,j∈L c:=fun j hj=>by rw [hLc]; simp [hj]
 have hP:∀ j∈Lb,¬ (P0 j∨j∈o :: (A++B)):=by
  rintro j hj (h | h)
  ·exact R.p1 c _ hc rfl j (hLbc j hj) h
  ·rcases List.mem_cons.1 h with rfl | h
   ·exact hno (by simp [hj])
   ·rcases List.mem_append.1 h with h | h
    ·exact dA j h j (by simp [hj]) rfl
    ·exact dB j hj j h rfl
 generalize hh1:(hset ps.heap c none).map clnO=h1
 have hlen1:h1.length=ps.heap.length:=by rw [← hh1,List.length_map,hset_length]
 have hg1:∀ {a:Nat} {ob:PObj},hget h1 a=some ob→a≠c∧hget ps.heap a=some ob∧clnO (some ob)=some ob:=by
  intro a ob h
  rw [← hh1,hget_map (f:=clnO) rfl] at h
  obtain ⟨q1,q2⟩:=clnO_some h
  rw [hget_hset] at q1
  split at q1
  ·cases q1
  ·rename_i hne
   exact ⟨fun e=>hne ⟨e,hcl⟩,q1,q2⟩
 have hg2:∀ {a:Nat} {ob:PObj},hget (h1++[some (.sl false 0 none y.sz y.e true y.ys)]) a=some ob→(a < ps.heap.length∧a≠c∧hget ps.heap a=some ob∧clnO (some ob)=some ob)∨(a=ps.heap.length∧ob = .sl false 0 none y.sz y.e true y.ys):=by
  intro a ob h
  rw [hget_append,hlen1] at h
  split at h
  ·rename_i hlt
   obtain ⟨q1,q2,q3⟩:=hg1 h
   exact .inl ⟨hlt,q1,q2,q3⟩
  ·rename_i hge
   have hlt:=hget_lt h
   have ea:a=ps.heap.length:=by simp at hlt; omega
   subst ea
   rw [Nat.sub_self] at h
   cases h
   exact .inr ⟨rfl,rfl⟩
 have hmu1:∀ a,a < ps.heap.length→updN μ ps.heap.length cv a=μ a:=fun a ha=>updN_ne (by omega)
 have hL1:∀ a,a < ps.heap.length→updN L ps.heap.length Lb a=L a:=fun a ha=>updN_ne (by omega)
 have g:GrowF ⟨d,ps.heap,μ,L,H,nx⟩ ⟨d,h1++[some (.sl false 0 none y.sz y.e true y.ys)],updN μ ps.heap.length cv,updN L ps.heap.length Lb,H,nx⟩:=by
  refine ⟨rfl,by show ps.heap.length≤(h1++[_]).length; rw [List.length_append,hlen1]; omega,hmu1,fun a ha=>?_,fun t q hq=>⟨rfl,hq.1,?_⟩⟩
  ·show laterO (hget ps.heap a) (hget (h1++[_]) a)
   have ha:a < ps.heap.length:=ha
   cases hx:hget (h1++[some (.sl false 0 none y.sz y.e true y.ys)]) a with
   | none=>exact laterO_none _
   | some ob=>
    rcases hg2 hx with ⟨_,_,q,_⟩ | ⟨q,_⟩
    ·rw [q]; exact laterO.refl _
    ·omega
  ·rintro ⟨a,ha,htop⟩
   obtain ⟨ob,hob⟩:=live_iff.1 ha
   have htop:(updN L ps.heap.length Lb a).head? = some q:=htop
   rcases hg2 hob with ⟨q1,_,q2,_⟩ | ⟨rfl,_⟩
   ·rw [hL1 a q1] at htop
    exact hq.2 ⟨a,live_iff.2 ⟨_,q2⟩,htop⟩
   ·rw [updN_at] at htop
    have hm:=List.mem_of_head? htop
    have:=hold q (by simp [hm])
    have hqs:q = .st d t:=hq.1
    subst hqs
    have:d < d:=this
    omega
 refine ⟨o,A,B,Lb,cv,fun m=>?_,hLc,?_,⟨by show ps.heap.length < (h1++[_]).length; rw [List.length_append,hlen1]; simp,updN_at.symm,?_⟩,?_⟩
 ·have hw:b.es[off0 + i]? = some w:=by
   rw [List.getElem?_take_of_lt hi,List.getElem?_drop] at k0
   exact k0
  simp only [loadV,t2]
  rw [if_pos ⟨t3,t4⟩,hw]
  simp only [Bool.false_eq_true,if_false,Nat.zero_add]
  exact k1
 ·have hnb:=(sl_named hg k2 (Y:=⟨d,h1++[some (.sl false 0 none y.sz y.e true y.ys)],updN μ ps.heap.length cv,updN L ps.heap.length Lb,H,nx⟩) (a:=ps.heap.length) rfl updN_at updN_at).1
  refine ⟨fun t=>?_,VRs.monoF g _ _ han R.anc,R.ank,fun a ob h=>?_,fun a a' hne hla hla'=>?_,fun a hla=>?_,fun a ob h=>?_,fun a hla=>?_,fun a ob t h ht q hq=>?_,R.fresh,fun _ _=>rfl,fun a ob h hro=>?_,fun k hk=>?_⟩
  ·show VR _ (look (clnE ps.env) t) (E t)
   rcases look_clnE ps.env t with h | ⟨h,hf⟩
   ·rw [h]; trivial
   ·rw [h]; exact VR.monoF g _ _ hf (R.env t)
  ·rcases hg2 h with ⟨q1,q2,q3,q4⟩ | ⟨rfl,rfl⟩
   ·exact ObR.monoF g q1 (hL1 a q1) (fun _ _=>rfl) q4 (R.ob a ob q3)
   ·exact hnb
  ·obtain ⟨ob,h⟩:=live_iff.1 hla
   obtain ⟨ob',h'⟩:=live_iff.1 hla'
   rcases hg2 h with ⟨q1,q2,q3,q4⟩ | ⟨rfl,rfl⟩
   ·rw [hL1 a q1]
    rcases hg2 h' with ⟨p1,p2,p3,p4⟩ | ⟨rfl,rfl⟩
    ·rw [hL1 a' p1]; exact R.dis a a' hne (live_iff.2 ⟨_,q3⟩) (live_iff.2 ⟨_,p3⟩)
    ·rw [updN_at]
     exact fun j hj hj'=>R.dis a c q2 (live_iff.2 ⟨_,q3⟩) hlc j hj (hLbc j hj')
   ·rw [updN_at]
    rcases hg2 h' with ⟨p1,p2,p3,p4⟩ | ⟨rfl,rfl⟩
    ·rw [hL1 a' p1]
     exact fun j hj hj'=>R.dis a' c p2 (live_iff.2 ⟨_,p3⟩) hlc j hj' (hLbc j hj)
    ·exact (hne rfl).elim
  ·obtain ⟨ob,h⟩:=live_iff.1 hla
   rcases hg2 h with ⟨q1,q2,q3,q4⟩ | ⟨rfl,rfl⟩
   ·rw [hL1 a q1]; exact R.nd a (live_iff.2 ⟨_,q3⟩)
   ·rw [updN_at]; exact nLb
  ·rcases hg2 h with ⟨q1,q2,q3,q4⟩ | ⟨rfl,rfl⟩
   ·rw [hL1 a q1]; exact R.age a ob q3
   ·rw [updN_at]; exact fun j hj=>oldI_age (hold j (by simp [hj]))
  ·obtain ⟨ob,h⟩:=live_iff.1 hla
   rcases hg2 h with ⟨q1,q2,q3,q4⟩ | ⟨rfl,rfl⟩
   ·rw [hL1 a q1]; exact R.tl a (live_iff.2 ⟨_,q3⟩)
   ·rw [updN_at]; exact fun j hj=>hold j (by simp [List.mem_of_mem_tail hj])
  ·rcases hg2 h with ⟨q1,q2,q3,q4⟩ | ⟨rfl,rfl⟩
   ·rw [hL1 a q1] at hq; exact R.st a ob t q3 ht q hq
   ·cases ht
  ·rcases hg2 h with ⟨q1,q2,q3,q4⟩ | ⟨rfl,rfl⟩
   ·rw [hL1 a q1]
    rintro j hj (hp | hp)
    ·exact R.p1 a ob q3 hro j hj hp
    ·refine R.dis a c q2 (live_iff.2 ⟨_,q3⟩) hlc j hj ?_
     rw [hLc]
     rcases List.mem_cons.1 hp with rfl | hp
     ·simp
     ·rcases List.mem_append.1 hp with hp | hp <;> simp [hp]
   ·rw [updN_at]; exact hP
  ·rintro (hp | hp)
   ·exact R.p2 k hk hp
   ·have:ageI d nx none (.dy k):=R.age c _ hc _ (by
     rw [hLc]
     rcases List.mem_cons.1 hp with e | hp
     ·rw [e]; simp
     ·rcases List.mem_append.1 hp with hp | hp <;> simp [hp])
    have:k < nx:=this
    omega
 ·rcases k2 with ⟨rfl,_⟩ | ⟨q,_⟩ | ⟨o2,g2,n2,off2,len2,b2,L2,rfl,_⟩
  ·trivial
  ·cases q
  ·trivial
 ·intro Y ys' x' hf hr hp hYm hYL
  have hrep:=k3 Y.H ys' x' (fun j hj=>hf j (by simp only [List.mem_cons]; exact .inr hj)) hr hp
  refine ⟨s0,s1,.inr ⟨o,_,_,off0,len0,b,L',by rw [hYm]; exact hmu,(hf o (by simp)).trans t2,t3,t4,t5,t6,t7,?_,t9,by rw [hYL]; exact t10,(fun q=>by cases q),t11.2⟩⟩
  rw [setL_def]
  exact hrep
theorem mac_close (R:Rel d anV P0 H0 ps μ L E H nx) {c ver sz:Nat} {e:Kd} {xs xs':List e.den} {o:Id} {A B Lb:List Id} {ps2:PS} {μ2:Nat→AV} {L2:Nat→List Id} {E2:AEnv} {H2:Heap} {nx2:Nat} {nb ver2 sz2:Nat} {y2:Kd} {ys2:List y2.den}
  (hc:hget ps.heap c=some (.sl false ver none sz e true xs)) (hLc:L c=o :: (A++(Lb++B))) (hnb:nb=ps.heap.length)
  (R2:Rel d anV (fun p=>P0 p∨p∈o :: (A++B)) H ps2 μ2 L2 E2 H2 nx2) (hlen:nb + 1≤ps2.heap.length) (hkeep:∀ a,a < nb + 1→(a≠nb→μ2 a=μ a∧L2 a=L a)) (hLb:L2 nb=Lb) (hnx:nx≤nx2)
  (hb:hget ps2.heap nb=some (.sl false ver2 none sz2 y2 true ys2)) (hdead:hget ps2.heap c=none) (hlb:∀ a,a < nb→live ps2.heap a→live ps.heap a) (hrw:rwFrom (nb + 1) ps2.heap=true)
  (hanc:freePs ps2.anc=true∧noEps ps2.anc=true) {E3:AEnv} {env3:List (Nat×PV)}
  (hsl:∀ Y:Vw,Y.H=H2→Y.μ c=μ c→Y.L c=L c→SlR Y c false sz e true xs')
  (henv:∀ Y:Vw,GrowN ⟨d,ps2.heap,μ2,L2,H2,nx2⟩ Y→∀ t,VR Y (look env3 t) (E3 t)) :
  Rel d anV P0 H0 ⟨env3,ps2.anc,hset (hset (ps2.heap.map clnO) nb none) c (some (.sl false (ver + 1) none sz e true xs'))⟩ μ2 L2 E3 H2 nx2 ∧
   GrowN ⟨d,ps2.heap,μ2,L2,H2,nx2⟩ ⟨d,hset (hset (ps2.heap.map clnO) nb none) c (some (.sl false (ver + 1) none sz e true xs')),μ2,L2,H2,nx2⟩:=by
 have hcl:c < nb:=by rw [hnb]; exact hget_lt hc
 have hlc:live ps.heap c:=live_iff.2 ⟨_,hc⟩
 obtain ⟨hmc,hL2c⟩:=hkeep c (by omega) (by omega)
 generalize hh3:hset (hset (ps2.heap.map clnO) nb none) c (some (.sl false (ver + 1) none sz e true xs'))=h3
 have hlen3:h3.length=ps2.heap.length:=by rw [← hh3,hset_length,hset_length,List.length_map]
 have hg3:∀ {a:Nat} {ob:PObj},hget h3 a=some ob→(a=c∧ob = .sl false (ver + 1) none sz e true xs')∨(a≠c∧a≠nb∧hget ps2.heap a=some ob∧clnO (some ob)=some ob):=by
  intro a ob h
  rw [← hh3,hget_hset] at h
  split at h
  ·rename_i q
   cases h
   exact .inl ⟨q.1,rfl⟩
  ·rename_i q
   rw [hget_hset] at h
   split at h
   ·cases h
   ·rename_i q2
    rw [hget_map (f:=clnO) rfl] at h
    obtain ⟨q3,q4⟩:=clnO_some h
    refine .inr ⟨fun e=>q ⟨e,by rw [hset_length,List.length_map]; omega⟩,fun e=>q2 ⟨e,by rw [List.length_map]; omega⟩,q3,q4⟩
 have hoc:o∈L c:=by rw [hLc]; simp
 have hno:∀ t,o ≠ .st d t:=by
  rintro t rfl
  have:ageI d nx none (.st d t):=R.age c _ hc _ hoc
  rcases this with h | ⟨_,h⟩
  ·omega
  ·cases h
 have hcin:∀ j∈L c,j∈Lb∨j∈o :: (A++B):=by
  intro j hj
  rw [hLc] at hj
  rcases List.mem_cons.1 hj with rfl | hj
  ·exact .inr (by simp)
  ·simp only [List.mem_append] at hj
   rcases hj with h | h | h
   ·exact .inr (by simp [h])
   ·exact .inl h
   ·exact .inr (by simp [h])
 have hnbl:live ps2.heap nb:=live_iff.2 ⟨_,hb⟩
 have hdisc:∀ {a:Nat} {ob:PObj},a≠c→a≠nb→hget ps2.heap a=some ob→∀ j∈L2 a,j ∉ L c:=by
  intro a ob h1 h2 h j hj hjc
  by_cases hlt:a < nb
  ·have hla:=hlb a hlt (live_iff.2 ⟨_,h⟩)
   rw [(hkeep a (by omega) h2).2] at hj
   exact R.dis a c h1 hla hlc j hj hjc
  ·rcases hcin j hjc with q | q
   ·exact R2.dis a nb h2 (live_iff.2 ⟨_,h⟩) hnbl j hj (by rw [hLb]; exact q)
   ·exact R2.p1 a ob h (rwFrom_spec hrw h (by omega)) j hj (.inr q)
 have g:GrowN ⟨d,ps2.heap,μ2,L2,H2,nx2⟩ ⟨d,h3,μ2,L2,H2,nx2⟩:=by
  refine ⟨rfl,by show ps2.heap.length≤h3.length; omega,fun _ _=>rfl,fun t q hq=>⟨rfl,hq.1,?_⟩⟩
  rintro ⟨a,ha,htop⟩
  obtain ⟨ob,hob⟩:=live_iff.1 ha
  rcases hg3 hob with ⟨rfl,_⟩ | ⟨_,_,q1,_⟩
  ·have htop:(L2 a).head? = some q:=htop
   rw [hL2c,hLc] at htop
   cases htop
   exact hno t hq.1
  ·exact hq.2 ⟨a,live_iff.2 ⟨_,q1⟩,htop⟩
 have oldmono:∀ {j:Id},oldI d nx j→oldI d nx2 j:=by
  intro j h
  cases j with
  | dy k=>exact Nat.lt_of_lt_of_le h hnx
  | st=>exact h
  | ex=>exact h
 refine ⟨⟨henv _ g,VRs.monoN g _ _ hanc.1 hanc.2 R2.anc,R2.ank,fun a ob h=>?_,fun a a' hne hla hla'=>?_,fun a hla=>?_,fun a ob h=>?_,fun a hla=>?_,fun a ob t h ht q hq=>?_,R2.fresh,fun j hj=>?_,fun a ob h hro=>?_,fun k hk hp=>R2.p2 k hk (.inl hp)⟩,g⟩
 ·rcases hg3 h with ⟨rfl,rfl⟩ | ⟨q1,q2,q3,q4⟩
  ·exact hsl _ rfl hmc hL2c
  ·exact ObR.monoN g (hget_lt q3) rfl (fun _ _=>rfl) q4 (R2.ob a ob q3)
 ·obtain ⟨ob,h⟩:=live_iff.1 hla
  obtain ⟨ob',h'⟩:=live_iff.1 hla'
  rcases hg3 h with ⟨rfl,rfl⟩ | ⟨q1,q2,q3,q4⟩
  ·rcases hg3 h' with ⟨rfl,rfl⟩ | ⟨p1,p2,p3,p4⟩
   ·exact (hne rfl).elim
   ·rw [hL2c]
    exact fun j hj hj'=>hdisc p1 p2 p3 j hj' hj
  ·rcases hg3 h' with ⟨rfl,rfl⟩ | ⟨p1,p2,p3,p4⟩
   ·rw [hL2c]
    exact hdisc q1 q2 q3
   ·exact R2.dis a a' hne (live_iff.2 ⟨_,q3⟩) (live_iff.2 ⟨_,p3⟩)
 ·obtain ⟨ob,h⟩:=live_iff.1 hla
  rcases hg3 h with ⟨rfl,rfl⟩ | ⟨q1,q2,q3,q4⟩
  ·rw [hL2c]; exact R.nd a hlc
  ·exact R2.nd a (live_iff.2 ⟨_,q3⟩)
 ·rcases hg3 h with ⟨rfl,rfl⟩ | ⟨q1,q2,q3,q4⟩
  ·rw [hL2c]
   exact fun j hj=>ageI_mono hnx (show ageI d nx none j from R.age a _ hc j hj)
  ·exact R2.age a ob q3
 ·obtain ⟨ob,h⟩:=live_iff.1 hla
  rcases hg3 h with ⟨rfl,rfl⟩ | ⟨q1,q2,q3,q4⟩
  ·rw [hL2c]
   exact fun j hj=>oldmono (R.tl a hlc j hj)
  ·exact R2.tl a (live_iff.2 ⟨_,q3⟩)
 ·rcases hg3 h with ⟨rfl,rfl⟩ | ⟨q1,q2,q3,q4⟩
  ·cases ht
  ·exact R2.st a ob t q3 ht q hq
 ·exact (R2.p0 j (.inl hj)).trans (R.p0 j hj)
 ·rcases hg3 h with ⟨rfl,rfl⟩ | ⟨q1,q2,q3,q4⟩
  ·rw [hL2c]; exact R.p1 a _ hc rfl
  ·exact fun j hj hp=>R2.p1 a ob q3 hro j hj (.inl hp)
theorem EW.clnE (e:List (Nat×PV)):EW e (Go.Am.clnE e):=fun t=>(look_clnE e t).elim (fun h=>.inr (.inl h)) fun h=>.inl h.1
theorem mac_ok (hca:CaOK tb T n) (R:Rel d anV P0 H0 ps μ L E H nx) {cx:Cx} {o:AOper} {rs:List AOper} {m:Mac} (hm:macM tb ps o rs=some m) {k:PV→PS→Option ρ} (h:macS tb (@evC tb n) cx m ps k=some r) :
  ∃ ta q cv,o.dst=some m.t∧o.op = .load false q (.t ta)∧rs=⟨some m.u,none,.mov (.t m.w)⟩ :: ⟨m.d3,none,.call m.f [.t m.t,.t m.u]⟩ :: m.rest∧m.u≠m.t∧m.w≠m.t ∧
   loadV H false q (E ta)=some cv∧E m.w = .c (.s (.int m.kd m.n)) ∧
   ∃ v ps' av μ' L' H' nx',k v ps'=some r∧callOp T (arun T) (8 * d) m.f [cv,.c (.s (.int m.kd m.n))] H nx=some (av,H',nx') ∧
    Rel d anV P0 H0 ps' μ' L' (upd (upd E m.t cv) m.u (.c (.s (.int m.kd m.n)))) H' nx'∧VR ⟨d,ps'.heap,μ',L',H',nx'⟩ v av∧nx≤nx'∧EWa [m.t,m.u] ps.env ps'.env:=by
 unfold macM at hm
 split at hm
 rotate_left
 ·cases hm
 rename_i t q ta u w d3 f t' u' rest hd ho
 split at hm
 rotate_left
 ·cases hm
 rename_i sg F htb
 split at hm
 rotate_left
 ·cases hm
 rename_i c ver i off e1 x1 kd nn hkb hep hint
 split at hm
 rotate_left
 ·cases hm
 rename_i ver' sz e xs hc
 split at hm
 rotate_left
 ·cases hm
 rename_i x hx
 split at hm
 rotate_left
 ·cases hm
 rename_i y hy
 split at hm
 rotate_left
 ·cases hm
 rename_i hcond
 cases hm
 simp only [Bool.and_eq_true,Bool.not_eq_true'] at hcond
 obtain ⟨c1,c2,c3,c4,c5,c6,c7,c8⟩:=hcond
 obtain rfl:=Nat.eq_of_beq_eq_true c1
 obtain rfl:=Nat.eq_of_beq_eq_true c2
 obtain rfl:=Nat.eq_of_beq_eq_true c3
 have c4:u≠t:=fun e=>by rw [e,Nat.beq_refl] at c4; cases c4
 have c5:w≠t:=fun e=>by rw [e,Nat.beq_refl] at c5; cases c5
 have hw:=R.env w
 have hint':E w = .c (.s (.int kd nn)):=by
  unfold intP at hint
  split at hint
  ·rename_i kd' n' hl
   cases hint
   rw [hl] at hw
   obtain ⟨Li,q1,_⟩:=hw
   exact q1.1
  ·cases hint
 have hv:=R.env ta
 rw [hep] at hv
 obtain ⟨oo,A,B,Lb,cv,hld,hLc,R1,hv1,hsl⟩:=mac_open R hv hc hx hy c6 c7
 have hv2:VR ⟨d,(hset ps.heap c none).map clnO++[some (.sl false 0 none y.sz y.e true y.ys)],updN μ ps.heap.length cv,updN L ps.heap.length Lb,H,nx⟩ (.d true (.int kd) nn) (.c (.s (.int kd nn))):=⟨[],⟨rfl,rfl⟩,fun _=>rfl,fun i hi=>by cases hi⟩
 have hcl:=hget_lt hc
 unfold macS at h
 obtain ⟨v,ps2,av,μ2,L2,H2,nx2,h1,h2,R2,h4,h5,h6,h7,h8,h9,h10⟩:=hca cx f [.own ps.heap.length,.d true (.int kd) nn] [cv,.c (.s (.int kd nn))] _ _ r d anV _ _ _ _ E H nx R1 ⟨hv1,hv2,trivial⟩ h
 have hlen0:((hset ps.heap c none).map clnO++[some (PObj.sl false 0 none y.sz y.e true y.ys)]).length=ps.heap.length + 1:=by rw [List.length_append,List.length_map,hset_length]; rfl
 have h5:((hset ps.heap c none).map clnO++[some (PObj.sl false 0 none y.sz y.e true y.ys)]).length≤ps2.heap.length:=h5
 have h6:∀ a,a < ((hset ps.heap c none).map clnO++[some (PObj.sl false 0 none y.sz y.e true y.ys)]).length→μ2 a=updN μ ps.heap.length cv a∧L2 a=updN L ps.heap.length Lb a:=h6
 rw [hlen0] at h5 h6
 have h10:LB ((hset ps.heap c none).map clnO++[some (PObj.sl false 0 none y.sz y.e true y.ys)]) ps2.heap:=h10
 have h8:ps2.anc=ps.anc:=h8
 simp only at h1
 split at h1
 rotate_left
 ·cases h1
 rename_i ver2 sz2 e2 ys hb
 split at h1
 rotate_left
 ·cases h1
 rename_i x' hput hrw
 simp only [Bool.and_eq_true] at hrw
 obtain ⟨hrw,hvf,hvn⟩:=hrw
 have hnbk:=h6 ps.heap.length (by omega)
 rw [updN_at,updN_at] at hnbk
 have hrep:=slR_rep (R2.ob _ _ hb)
 have hrep:Rep true H2 (.sl sz2 e2) ys (μ2 ps.heap.length) (L2 ps.heap.length):=hrep
 rw [hnbk.1,hnbk.2] at hrep
 have he:(Kd.sl sz2 e2)=(Kd.sl y.sz y.e):=getF_kind e hy hput
 cases he
 have hpres:∀ j∈oo :: (A++B),H2 j=H j:=fun j hj=>R2.p0 j (.inr hj)
 have hdead:hget ps2.heap c=none:=by
  cases hq:hget ps2.heap c with
  | none=>rfl
  | some ob=>
   have:=h10 c (by rw [hlen0]; omega) (live_iff.2 ⟨_,hq⟩)
   obtain ⟨ob',hq'⟩:=live_iff.1 this
   rw [hget_append,List.length_map,hset_length,if_pos hcl,hget_map (f:=clnO) rfl,hget_hset,if_pos ⟨rfl,hcl⟩] at hq'
   cases hq'
 have hlb:∀ a,a < ps.heap.length→live ps2.heap a→live ps.heap a:=by
  intro a ha hl
  obtain ⟨ob',hq'⟩:=live_iff.1 (h10 a (by rw [hlen0]; omega) hl)
  rw [hget_append,List.length_map,hset_length,if_pos ha,hget_map (f:=clnO) rfl] at hq'
  obtain ⟨q1,_⟩:=clnO_some hq'
  rw [hget_hset] at q1
  split at q1
  ·cases q1
  ·exact live_iff.2 ⟨_,q1⟩
 have hanc2:freePs ps2.anc=true∧noEps ps2.anc=true:=by rw [h8]; exact ⟨c7,c8⟩
 obtain ⟨R3,gN⟩:=mac_close (E3:=upd (upd E t cv) u (.c (.s (.int kd nn)))) (env3:=(u,.d true (.int kd) nn) :: (t,.undef) :: clnM ps2.env) R hc hLc rfl R2 h5 (fun a ha hne=>by
   have:=h6 a ha
   rw [updN_ne hne,updN_ne hne] at this
   exact this) hnbk.2 h7 hb hdead hlb hrw hanc2 (fun Y hY hYm hYL=>hsl Y ys x' (fun j hj=>by rw [hY]; exact hpres j hj) (by rw [hY]; exact hrep) hput hYm hYL) (fun Y gY s=>by
   rw [look_cons]
   by_cases hu:u=s
   ·subst hu
    rw [if_pos rfl]
    simp only [upd,if_true]
    exact ⟨[],⟨rfl,rfl⟩,fun _=>rfl,fun i hi=>by cases hi⟩
   ·rw [if_neg hu,look_cons]
    by_cases ht:t=s
    ·subst ht
     rw [if_pos rfl]; trivial
    ·rw [if_neg ht]
     have hE:upd (upd E t cv) u (.c (.s (.int kd nn))) s=E s:=by
      simp only [upd]
      rw [if_neg (Ne.symm hu),if_neg (Ne.symm ht)]
     rw [hE]
     rcases look_clnM ps2.env s with q | ⟨q,q1,q2⟩
     ·rw [q]; trivial
     ·rw [q]; exact VR.monoN gY _ _ q1 q2 (R2.env s))
 refine ⟨ta,q,cv,hd,ho,rfl,c4,c5,hld q,hint',v,_,av,μ2,L2,H2,nx2,h1,h2,R3,VR.monoN gN _ _ hvf hvn h4,h7,fun s hs hvs=>?_⟩
 simp only [List.mem_cons,List.not_mem_nil,or_false,not_or] at hs
 show look ((u,.d true (.int kd) nn) :: (t,.undef) :: clnM ps2.env) s=_∨_=_
 rw [look_cons,if_neg (Ne.symm hs.2),look_cons,if_neg (Ne.symm hs.1)]
 have e1:look (clnE ps.env) s=look ps.env s∨look (clnE ps.env) s = .undef:=(look_clnE ps.env s).elim .inr fun h=>.inl h.1
 have e2:look ps2.env s=look (clnE ps.env) s∨look ps2.env s = .undef:=by
  rcases h9 s with q | q | ⟨c',off',q⟩
  ·exact .inl q
  ·exact .inr q
  ·exfalso
   have q:look (clnE ps.env) s = .cp c' off':=q
   rcases e1 with z | z
   ·rw [z] at q
    rcases hvs with p | p
    ·rw [q] at p; cases p
    ·rw [q] at p; cases p
   ·rw [z] at q; cases q
 rcases look_clnM ps2.env s with q | ⟨q,_⟩
 ·exact .inr q
 ·rw [q]
  rcases e2 with z | z
  ·rw [z]; exact e1
  ·exact .inr z
end
end Go.Am
/- The machine on typed data against the small machine: it is sound. -/
namespace Go.Am
section
variable {tb:PTab} {T:Tab} {n:Nat}
theorem mem_rangeN:∀ {n a t:Nat},t∈rangeN a n↔a≤t∧t < a + n
 | 0,a,t=>by simp [rangeN]
 | n + 1,a,t=>by simp only [rangeN,List.mem_cons,mem_rangeN (n:=n)]; omega
theorem look_bindE:∀ {l:List PV} {a t:Nat} {e:List (Nat×PV)},look (bindE a l++e) t=if a≤t∧t < a + l.length then (l[t - a]?).getD .undef else look e t
 | [],a,t,e=>by simp [bindE]; omega
 | v :: r,a,t,e=>by
  simp only [bindE,List.cons_append,look_cons,look_bindE (l:=r),List.length_cons]
  by_cases h:a=t
  ·subst h; simp
  ·rw [if_neg h]
   by_cases c:a + 1≤t∧t < a + 1 + r.length
   ·rw [if_pos c,if_pos (by omega)]
    have:t - a=(t - (a + 1)) + 1:=by omega
    rw [this,List.getElem?_cons_succ]
   ·rw [if_neg c,if_neg (by omega)]
theorem look_dropRg:∀ {e:List (Nat×PV)} {off n t:Nat},look (dropRg off n e) t=if off≤t∧t < off + n then .undef else look e t
 | [],off,n,t=>by simp [dropRg,look]
 | (u,v) :: r,off,n,t=>by
  simp only [dropRg]
  split
  ·rename_i h
   simp only [Bool.and_eq_true] at h
   have h1:=Nat.le_of_ble_eq_true h.1
   have h2:=Nat.le_of_ble_eq_true h.2
   rw [look_dropRg,look_cons]
   split
   ·rfl
   ·rename_i hc
    rw [if_neg (by omega)]
  ·rename_i h
   rw [look_cons,look_cons,look_dropRg]
   by_cases hu:u=t
   ·subst hu
    rw [if_pos rfl,if_pos rfl,if_neg]
    rintro ⟨h1,h2⟩
    rw [Nat.ble_eq_true_of_le h1] at h
    have:Nat.blt u (off + n)=true:=Nat.ble_eq_true_of_le h2
    rw [this] at h
    simp at h
   ·rw [if_neg hu,if_neg hu]
theorem takeP_eq:∀ (n:Nat) (l:List PV),takeP n l=l.take n
 | 0,_=>rfl
 | _ + 1,[]=>rfl
 | n + 1,v :: r=>by simp [takeP,takeP_eq n r]
theorem enterP_look {off n t:Nat} {l:List PV} {e:List (Nat×PV)}:look (enterP off n l e) t=if off≤t∧t < off + n then (l[t - off]?).getD .undef else look e t:=by
 unfold enterP
 rw [look_bindE,look_dropRg,takeP_eq]
 by_cases h:off≤t∧t < off + n
 ·rw [if_pos h]
  by_cases c:t < off + (l.take n).length
  ·rw [if_pos ⟨h.1,c⟩,List.getElem?_take,if_pos (by omega),if_pos h]
  ·rw [if_neg (by omega),if_pos h]
   have:l[t - off]? = none:=by
    rw [List.getElem?_eq_none]
    simp only [List.length_take] at c
    omega
   rw [this]; rfl
 ·rw [if_neg h]
  have:¬ (off≤t∧t < off + (l.take n).length):=by
   simp only [List.length_take]; omega
  rw [if_neg this,if_neg h]
theorem enterP_out {off n t:Nat} {l:List PV} {e:List (Nat×PV)} (h:¬ (off≤t∧t < off + n)):look (enterP off n l e) t=look e t:=by
 rw [enterP_look,if_neg h]
theorem enter_rel {X:Vw} {off n:Nat} {l:List PV} {vs:List AV} {e:List (Nat×PV)} {E:AEnv} (hl:VRs X l vs) (he:∀ t,VR X (look e t) (E t)) (t:Nat):VR X (look (enterP off n l e) t) (enterE E off n vs t):=by
 rw [enterP_look]
 unfold enterE
 by_cases h:off≤t∧t < off + n
 ·rw [if_pos h,if_pos h]
  generalize t - off=i
  have key:∀ (l:List PV) (vs:List AV) (i:Nat),VRs X l vs→VR X ((l[i]?).getD .undef) (vs.getD i .undef):=by
   intro l
   induction l with
   | nil=>intro vs i _; simp [VR]
   | cons v r ih=>
    intro vs i h
    cases vs with
    | nil=>exact h.elim
    | cons a q=>
     cases i with
     | zero=>simpa using h.1
     | succ i=>simpa using ih q i h.2
  exact key l vs i hl
 ·rw [if_neg h,if_neg h]; exact he t
theorem FxI.stepG {ρ:Type} {e e':List (Nat×PV)} {B:List Nat} (w:EWa B e e'):∀ {K:List (Itp ρ)} {A:List Nat},(∀ t∈B,t ∉ fxK K)→FxI A e K→FxI A e' K
 | [],A,_,_=>trivial
 | .code c :: K,A,hb,h=>FxI.stepG (K:=K) (A:=asgC c++A) w hb h
 | .blk _ :: K,A,hb,h=>FxI.stepG (K:=K) w hb h
 | .ou _ _ l _ _ :: K,A,hb,h=>FxI.stepG (K:=K) (A:=asgL l++A) w hb h
 | .join sk fx k :: K,A,hb,h=>⟨h.1,h.2.1.step (fun t ht hm=>hb t hm (List.mem_append.2 (.inl ht))) w,FxI.stepG (K:=K) w (fun t ht hm=>hb t ht (List.mem_append.2 (.inr hm))) h.2.2⟩
theorem FxI.out {ρ:Type} {e:List (Nat×PV)} {t:Nat}:∀ {K:List (Itp ρ)} {A:List Nat},FxI A e K→t∈A→t ∉ fxK K
 | [],A,_,_,hm=>by cases hm
 | .code c :: K,A,h,ht,hm=>FxI.out (K:=K) (A:=asgC c++A) h (List.mem_append.2 (.inr ht)) hm
 | .blk _ :: K,A,h,ht,hm=>FxI.out (K:=K) h ht hm
 | .ou _ _ l _ _ :: K,A,h,ht,hm=>FxI.out (K:=K) (A:=asgL l++A) h (List.mem_append.2 (.inr ht)) hm
 | .join sk fx k :: K,A,h,ht,hm=>(List.mem_append.1 hm).elim (fun q=>h.1 t q ht) (fun q=>FxI.out (K:=K) h.2.2 ht q)
theorem condK_eq {ρ:Type} {K K2:List (Itp ρ)} {c:Opd} {a b:AC} (h:condK K=some (c,a,b,K2)):K = .code (.cond c a b) :: K2:=by
 unfold condK at h
 split at h
 ·cases h; rfl
 ·cases h
theorem sound_step (hca:CaOK tb T n) (hs:Sound tb T n) (hu:SoundU tb T n):Sound tb T (n + 1):=by
 intro ρ cx fin K Ka ps r d anV P0 H0 μ L E H nx h R hk hf
 cases K with
 | nil=>
  have h:fin ps=some r:=h
  cases hk
  exact ⟨_,arun_nil,Nat.le_refl _,ps,μ,L,h,R⟩
 | cons it K=>
  cases it with
  | blk i=>
   have h:evC tb n cx fin K ps=some r:=h
   cases hk with
   | blk hk=>exact (hs cx fin K _ ps r d anV P0 H0 μ L E H nx h R hk hf).eq arun_blk (Nat.le_refl _)
  | join sk fx k=>
   have h:toJoin cx.hn sk fx k ps=some r:=h
   obtain ⟨σ,ps0,μ',L',h1,h2,h3,h4⟩:=toJoin_ok R hf.2.1 h
   cases hk with
   | join hj hk=>exact hj σ r ps0 μ' L' E H nx h1 h2 h4 h3
   | lp hj hk=>exact hj σ r ps0 μ' L' E H nx h1 h2 h4 h3
  | ou l0 i l prs fs=>cases hk
  | code c=>
   cases hk with
   | @code _ _ Ka hl hk=>
   cases c with
   | enter off m args=>
    have h:evC tb n cx fin K { ps with env:=enterP off m (args.map (pev ps)) ps.env }=some r:=h
    have hf:FxI (rangeN off m++[]) ps.env K:=hf
    refine (hs cx fin K Ka _ r d anV P0 H0 μ L (enterE E off m (args.map (ev E))) H nx h (R.setE (fun t=>enter_rel (R.pevs args) R.env t)) hk ?_).eq arun_enter (Nat.le_refl _)
    exact FxI.step (K:=K) (A:=rangeN off m++[]) (A':=[]) (B:=rangeN off m) (fun t ht _=>.inl (enterP_out (fun hm=>ht (mem_rangeN.2 hm)))) (fun t ht=>by cases ht) (fun t ht=>by simp [ht]) hf
   | skip=>
    have h:evC tb n cx fin K ps=some r:=h
    exact (hs cx fin K Ka ps r d anV P0 H0 μ L E H nx h R hk hf).eq arun_skip (Nat.le_refl _)
   | ret=>
    have h:fin ps=some r:=h
    exact ⟨_,arun_ret,Nat.le_refl _,ps,μ,L,h,R⟩
   | exit i=>
    have h:(match unwP i K with | some K'=>evC tb n cx fin K' ps | none=>none)=some r:=h
    split at h
    ·rename_i K' hw
     obtain ⟨Ka',w1,w2⟩:=hk.unw hw
     have hf':FxI [] ps.env K:=hf
     exact (hs cx fin K' Ka' ps r d anV P0 H0 μ L E H nx h R w2 (hf'.unw hw)).eq (by rw [arun_exit,w1]) (Nat.le_refl _)
    ·cases h
   | seq a b=>
    have h:evC tb n cx fin (.code a :: .code b :: K) ps=some r:=h
    refine (hs cx fin _ (.code a :: .code b :: Ka) ps r d anV P0 H0 μ L E H nx h R (.code (fun t ht=>hl t (by simp [layC,ht])) (.code (fun t ht=>hl t (by simp [layC,ht])) hk)) ?_).eq arun_seq (Nat.le_refl _)
    have hf:FxI (asgC (.seq a b)++[]) ps.env K:=hf
    exact FxI.sub (K:=K) (A:=asgC (.seq a b)++[]) (A':=asgC b++(asgC a++[])) (fun t ht=>by
     simp [asgC] at ht ⊢
     exact ht.symm) hf
   | cond c a b=>
    have h:(match boolP (pev ps c) with
     | some t=>if (falls a && (falls b && bigK K))=true then
       let fl:=fixedE ps (asgC a++asgC b) (liveK cx.rt K)
       let sk:=skS (canon cx.hn fl.2 ps)
       joinK (fun σ=>fromJoin sk fl.1 σ fun ps'=>evC tb n cx fin K ps') fun k=>
        bif t then evC tb n cx fin (.code a :: .join sk fl.1 k :: K) ps else evC tb n cx fin (.code b :: .join sk fl.1 k :: K) ps
      else bif t then evC tb n cx fin (.code a :: K) ps else evC tb n cx fin (.code b :: K) ps
     | none=>none)=some r:=h
    split at h
    ·rename_i t ht
     have hbo:=boolP_rel ht (R.pev c)
     have hf:FxI (asgC (.cond c a b)++[]) ps.env K:=hf
     have hfa:FxI (asgC a++[]) ps.env K:=hf.sub (fun t ht=>by simp [asgC] at ht ⊢; exact .inl ht)
     have hfb:FxI (asgC b++[]) ps.env K:=hf.sub (fun t ht=>by simp [asgC] at ht ⊢; exact .inr ht)
     have hla:LayOK d P0 (layC a):=fun t ht=>hl t (by simp [layC,ht])
     have hlb:LayOK d P0 (layC b):=fun t ht=>hl t (by simp [layC,ht])
     have stepA:∀ {r'},arun T (8 * d) (.code (.cond c a b) :: Ka) ⟨E,H,nx⟩=r'↔arun T (8 * d) (.code (if t then a else b) :: Ka) ⟨E,H,nx⟩=r':=by
      intro r'
      rw [arun_cond]
      have:ev (⟨E,H,nx⟩:St).E c = .c (.s (.bool t)):=hbo
      rw [this]
     have ea:arun T (8 * d) (.code (.cond c a b) :: Ka) ⟨E,H,nx⟩=arun T (8 * d) (.code (if t then a else b) :: Ka) ⟨E,H,nx⟩:=stepA.2 rfl
     split at h
     ·simp only [joinK_def] at h
      have hf2:FxI (asgC a++asgC b) ps.env K:=hf.sub (fun t ht=>by simp [asgC] at ht ⊢; exact ht)
      have hj:=branch_join (cx:=cx) (lv:=liveK cx.rt K) hs R hk hf2
      cases t with
      | true=>
       refine (hs cx fin _ (.code a :: Ka) ps r d anV P0 H0 μ L E H nx h R (.code hla (.join hj hk)) ?_).eq ea (Nat.le_refl _)
       exact branch_fx (ρ:=ρ) (sk:=⟨[],[],[]⟩) (k:=fun _=>none) (K:=K) (A:=asgC a++[]) (fun t ht=>by simp at ht ⊢; exact .inl ht) hf2
      | false=>
       refine (hs cx fin _ (.code b :: Ka) ps r d anV P0 H0 μ L E H nx h R (.code hlb (.join hj hk)) ?_).eq ea (Nat.le_refl _)
       exact branch_fx (ρ:=ρ) (sk:=⟨[],[],[]⟩) (k:=fun _=>none) (K:=K) (A:=asgC b++[]) (fun t ht=>by simp at ht ⊢; exact .inr ht) hf2
     ·cases t with
      | true=>exact (hs cx fin _ (.code a :: Ka) ps r d anV P0 H0 μ L E H nx h R (.code hla hk) hfa).eq ea (Nat.le_refl _)
      | false=>exact (hs cx fin _ (.code b :: Ka) ps r d anV P0 H0 μ L E H nx h R (.code hlb hk) hfb).eq ea (Nat.le_refl _)
    ·cases h
   | block i b=>
    have hf:FxI (asgC b++[]) ps.env K:=hf
    have hl:LayOK d P0 (layC b):=hl
    have h:(if (!Nat.beq i RB && (Nat.ble 2 (exitN i b + (if falls b then 1 else 0)) && bigK K))=true then
      let fl:=fixedE ps (asgC b) (liveK cx.rt K)
      let sk:=skS (canon cx.hn fl.2 ps)
      joinK (fun σ=>fromJoin sk fl.1 σ fun ps'=>evC tb n cx fin K ps') fun k=>evC tb n cx fin (.code b :: .blk i :: .join sk fl.1 k :: K) ps
     else evC tb n cx fin (.code b :: .blk i :: K) ps)=some r:=h
    by_cases hc:(!Nat.beq i RB && (Nat.ble 2 (exitN i b + (if falls b then 1 else 0)) && bigK K))=true
    ·rw [if_pos hc] at h
     simp only [joinK_def] at h
     have hf2:FxI (asgC b) ps.env K:=hf.sub (fun t ht=>by simp [ht])
     have hj:=branch_join (cx:=cx) (lv:=liveK cx.rt K) hs R hk hf2
     refine (hs cx fin _ (.code b :: .blk i :: Ka) ps r d anV P0 H0 μ L E H nx h R (.code hl (.blk (.join hj hk))) ?_).eq arun_block (Nat.le_refl _)
     exact branch_fx (ρ:=ρ) (sk:=⟨[],[],[]⟩) (k:=fun _=>none) (K:=K) (A:=asgC b++[]) (fun t ht=>by simpa using ht) hf2
    ·rw [if_neg hc] at h
     exact (hs cx fin _ (.code b :: .blk i :: Ka) ps r d anV P0 H0 μ L E H nx h R (.code hl (.blk hk)) hf).eq arun_block (Nat.le_refl _)
   | loop b=>
    have hf:FxI (asgC b++[]) ps.env K:=hf
    have hl:LayOK d P0 (layC b):=hl
    have hf2:FxI (asgC b) ps.env K:=hf.sub (fun t ht=>by simp [ht])
    have h:toJoin cx.hn (skS (canon cx.hn (fixedE ps (asgC b) (liveK cx.rt (.code (.loop b) :: K))).2 ps)) (fixedE ps (asgC b) (liveK cx.rt (.code (.loop b) :: K))).1
     (fun σ0=>loopF (fun rec σ=>fromJoin (skS (canon cx.hn (fixedE ps (asgC b) (liveK cx.rt (.code (.loop b) :: K))).2 ps)) (fixedE ps (asgC b) (liveK cx.rt (.code (.loop b) :: K))).1 σ
      fun ps'=>evC tb n cx fin (.code b :: .join (skS (canon cx.hn (fixedE ps (asgC b) (liveK cx.rt (.code (.loop b) :: K))).2 ps)) (fixedE ps (asgC b) (liveK cx.rt (.code (.loop b) :: K))).1 rec :: K) ps') cx.N σ0) ps=some r:=h
    have hfx:=branch_fx (lv:=liveK cx.rt (.code (.loop b) :: K)) (sk:=skS (canon cx.hn (fixedE ps (asgC b) (liveK cx.rt (.code (.loop b) :: K))).2 ps)) (k:=fun _=>(none:Option ρ)) (A:=asgC b) (fun t ht=>ht) hf2
    obtain ⟨σ,ps0,μ',L',h1,h2,h3,h4⟩:=toJoin_ok R hfx.2.1 h
    have hj:=loop_join (cx:=cx) (lv:=liveK cx.rt (.code (.loop b) :: K)) hs R hl hk hf2 cx.N
    exact (hj σ r ps0 μ' L' E H nx h1 h2 h4 h3).eq (by rw [arun_loop,arun_lp]) (Nat.le_refl _)
   | opsU fs l prs=>
    cases fs with
    | cons=>cases h
    | nil=>
     have hf:FxI (asgL l++[]) ps.env K:=hf
     have hf0:FxI (asgL l) ps.env K:=hf.sub (fun t ht=>by simp [ht])
     have hl:LayOK d P0 (layL l):=hl
     have go:∀ (K':List (Itp ρ)) (Ka':List It),KR T d anV P0 H0 fin K' Ka'→FxI (asgL l) ps.env K'→evC tb n cx fin (.ou l 0 l prs [] :: K') ps=some r→Out T d anV P0 H0 fin (.code (.opsU [] l prs) :: Ka') ⟨E,H,nx⟩ r:=by
      intro K' Ka' hk' hf' h'
      exact hu cx fin l 0 l prs [] K' Ka' ps r d anV P0 H0 μ L E H nx [] h' R hk' hf' hl rfl ⟨rfl,fun j A o h=>by simp at h,fun j F h=>(by cases h),fun j j' F G h=>(by cases h)⟩
     have hx:(match stOK tb l prs,condK K with
      | false,some (c,a,b,K2)=>if (falls a && (falls b && bigK K2))=true then
        let fl:=fixedE ps (asgL l++(asgC a++asgC b)) (liveK cx.rt K2)
        let sk:=skS (canon cx.hn fl.2 ps)
        joinK (fun σ=>fromJoin sk fl.1 σ fun ps'=>evC tb n cx fin K2 ps') fun k=>evC tb n cx fin (.ou l 0 l prs [] :: .code (.cond c a b) :: .join sk fl.1 k :: K2) ps
       else evC tb n cx fin (.ou l 0 l prs [] :: K) ps
      | _,_=>evC tb n cx fin (.ou l 0 l prs [] :: K) ps)=some r:=h
     clear h
     split at hx
     ·rename_i c a b K2 hst hck
      split at hx
      ·simp only [joinK_def] at hx
       have:=condK_eq hck
       subst this
       cases hk with
       | @code _ _ Ka2 hl2 hk2=>
       have hf2:FxI (asgL l++(asgC a++asgC b)) ps.env K2:=by
        have hf3:FxI (asgC (.cond c a b)++(asgL l++[])) ps.env K2:=hf
        exact FxI.sub (K:=K2) (fun t ht=>by simp [asgC] at ht ⊢; rcases ht with h | h | h <;> simp [h]) hf3
       have hj:=branch_join (cx:=cx) (lv:=liveK cx.rt K2) hs R hk2 hf2
       refine go _ _ (.code hl2 (.join hj hk2)) ?_ hx
       exact branch_fx (ρ:=ρ) (sk:=⟨[],[],[]⟩) (k:=fun _=>none) (K:=K2) (A:=asgC (.cond c a b)++asgL l) (fun t ht=>by
        simp only [asgC,List.mem_append] at ht ⊢
        exact ht.elim (fun q=>.inr q) .inl) hf2
      ·exact go _ _ hk hf0 hx
     ·exact go _ _ hk hf0 hx
   | ops l=>
    cases l with
    | nil=>
     have h:evC tb n cx fin K ps=some r:=h
     exact (hs cx fin K Ka ps r d anV P0 H0 μ L E H nx h R hk hf).eq arun_ops0 (Nat.le_refl _)
    | cons o rs=>
     have h:(match o.guard with
      | none=>(match pickS ps o.op with
       | some (t,x,y)=>bif t then evC tb n cx fin (.code (.ops rs) :: K) (ps.put o.dst x) else evC tb n cx fin (.code (.ops rs) :: K) (ps.put o.dst y)
       | none=>(match macM tb ps o rs with
        | some m=>macS tb (@evC tb n) cx m ps fun v ps'=>evC tb n cx fin (.code (.ops m.rest) :: K) (ps'.put m.d3 v)
        | none=>opS tb (@evC tb n) cx o ps fun v ps'=>evC tb n cx fin (.code (.ops rs) :: K) (ps'.put o.dst v)))
      | some (g,want)=>(match takeGrp tb g want [] (o :: rs) with
       | some _=>grS tb (@evC tb n) cx o g want rs ps fun m rest ps'=>evC tb n cx fin (.code (.ops rest) :: K) ps'
       | none=>(match boolP (look ps.env g),(fxK K).elem g with
        | some b,false=>grK want b
          (opS tb (@evC tb n) cx ⟨o.dst,none,o.op⟩ (setG ps g want) fun v ps'=>evC tb n cx fin (.code (.ops rs) :: K) (ps'.put o.dst v))
          (evC tb n cx fin (.code (.ops rs) :: K) ((setG ps g (!want)).put o.dst (.tup [])))
        | _,_=>none)))=some r:=h
     have hf:FxI (asgL (o :: rs)++[]) ps.env K:=hf
     have hl:LayOK d P0 (layL (o :: rs)):=hl
     have hlr:LayOK d P0 (layC (.ops rs)):=fun t ht=>hl t (by simp [layL]; exact .inr ht)
     have stepK:∀ {B:List Nat} {env':List (Nat×PV)},EWa B ps.env env'→(∀ t∈B,t∈asgL (o :: rs)∨t ∉ fxK K)→FxI (asgL rs++[]) env' K:=by
      intro B env' w hB
      have h1:FxI (asgL rs++[]) ps.env K:=hf.sub (fun t ht=>by simp at ht ⊢; exact asgL_cons (.inr ht))
      exact FxI.stepG w (fun t ht hm=>(hB t ht).elim (fun q=>FxI.out hf (by simp [q]) hm) (fun q=>q hm)) h1
     have plain:∀ {ps1:PS} {B:List Nat},Rel d anV P0 H0 ps1 μ L E H nx→EWa B ps.env ps1.env→(∀ t∈B,t ∉ fxK K)→wantedA E o.guard=some true →
       opS tb (@evC tb n) cx ⟨o.dst,none,o.op⟩ ps1 (fun v ps'=>evC tb n cx fin (.code (.ops rs) :: K) (ps'.put o.dst v))=some r→Out T d anV P0 H0 fin (.code (.ops (o :: rs)) :: Ka) ⟨E,H,nx⟩ r:=by
      intro ps1 B R1 hw hB hwt h
      obtain ⟨v,ps',av,μ',L',H',nx',h1,h2,h3,h4,h5,h6,h7,h8,h9,h10⟩:=opS_ok (o:=⟨o.dst,none,o.op⟩) hca R1 (fun t ht=>hl t (by simp only [layL,List.mem_append]; exact .inl ht)) rfl h
      have h2:operV T (arun T) (8 * d) o.dst E H nx o.op=some (av,H',nx'):=h2
      have hop:operF T (arun T) (8 * d) o ⟨E,H,nx⟩=some ⟨updO E o.dst av,H',nx'⟩:=by
       unfold operF
       simp only [hwt,h2]
      refine Out.eq (hs cx fin _ (.code (.ops rs) :: Ka) _ r d anV P0 H0 μ' L' (updO E o.dst av) H' nx' h1 (h3.put h4) (.code hlr hk) ?_) ?_ h7
      ·refine stepK (B:=opt1 o.dst++B) (fun t ht hv=>?_) (fun t ht=>?_)
       ·simp only [List.mem_append,not_or] at ht
        rcases hw t ht.2 hv with e | e
        ·have:=EW.put (dst:=o.dst) (v:=v) h9 t ht.1 (by rw [e]; exact hv)
         rwa [e] at this
        ·have:=EW.put (dst:=o.dst) (v:=v) h9 t ht.1 (.inr e)
         rw [e] at this
         exact .inr (this.elim id id)
       ·rcases List.mem_append.1 ht with q | q
        ·exact .inl (asgL_cons (.inl q))
        ·exact .inr (hB t q)
      ·rw [arun_op,hop]
     have skip:∀ {ps1:PS} {v:PV} {av:AV} {B:List Nat},Rel d anV P0 H0 ps1 μ L E H nx→EWa B ps.env ps1.env→(∀ t∈B,t ∉ fxK K)→VR ⟨d,ps1.heap,μ,L,H,nx⟩ v av→operF T (arun T) (8 * d) o ⟨E,H,nx⟩=some ⟨updO E o.dst av,H,nx⟩ →
       evC tb n cx fin (.code (.ops rs) :: K) (ps1.put o.dst v)=some r→Out T d anV P0 H0 fin (.code (.ops (o :: rs)) :: Ka) ⟨E,H,nx⟩ r:=by
      intro ps1 v av B R1 hw hB hv hop h
      refine Out.eq (hs cx fin _ (.code (.ops rs) :: Ka) _ r d anV P0 H0 μ L (updO E o.dst av) H nx h (R1.put (fun _=>hv)) (.code hlr hk) ?_) ?_ (Nat.le_refl _)
      ·refine stepK (B:=opt1 o.dst++B) (fun t ht hv=>?_) (fun t ht=>?_)
       ·simp only [List.mem_append,not_or] at ht
        rcases hw t ht.2 hv with e | e
        ·exact .inl ((look_put ht.1).trans e)
        ·exact .inr ((look_put ht.1).trans e)
       ·rcases List.mem_append.1 ht with q | q
        ·exact .inl (asgL_cons (.inl q))
        ·exact .inr (hB t q)
      ·rw [arun_op,hop]
     have eta:∀ (hg:o.guard=none),(⟨o.dst,none,o.op⟩:AOper)=o:=fun hg=>by cases o; simp only at hg; subst hg; rfl
     cases hg:o.guard with
     | none=>
      rw [hg] at h
      simp only at h
      split at h
      ·rename_i t x y hp
       have hpk:∃ c a b,o.op = .pick c a b∧boolP (pev ps c)=some t∧x=pev ps a∧y=pev ps b:=by
        unfold pickS at hp
        split at hp
        ·rename_i c a b he
         split at hp
         ·rename_i t' ht' _
          cases hp
          exact ⟨c,a,b,he,ht',rfl,rfl⟩
         ·cases hp
        ·cases hp
       obtain ⟨c,a,b,he,hc,rfl,rfl⟩:=hpk
       have hbo:=boolP_rel hc (R.pev c)
       have hop:operF T (arun T) (8 * d) o ⟨E,H,nx⟩=some ⟨updO E o.dst (if t then ev E a else ev E b),H,nx⟩:=by
        refine operF_none hg ?_
        rw [he]
        simp only [operV,hbo]
       cases t with
       | true=>exact skip (B:=[]) R (EWa.refl _ _) (fun t ht=>by cases ht) (R.pev a) hop h
       | false=>exact skip (B:=[]) R (EWa.refl _ _) (fun t ht=>by cases ht) (R.pev b) hop h
      ·split at h
       ·rename_i m hm
        obtain ⟨ta,q,cv,md,mo,mr,m1,m2,m3,m4,v,ps',av,μ',L',H',nx',h1,h2,h3,h4,h5,h6⟩:=mac_ok hca R hm h
        subst mr
        have hop1:operF T (arun T) (8 * d) o ⟨E,H,nx⟩=some ⟨upd E m.t cv,H,nx⟩:=by
         have:operF T (arun T) (8 * d) o ⟨E,H,nx⟩=some ⟨updO E o.dst cv,H,nx⟩:=operF_none hg (by rw [mo]; simp only [operV,ev,m3])
         rw [this,md]; rfl
        have hop2:operF T (arun T) (8 * d) ⟨some m.u,none,.mov (.t m.w)⟩ ⟨upd E m.t cv,H,nx⟩=some ⟨upd (upd E m.t cv) m.u (.c (.s (.int m.kd m.n))),H,nx⟩:=by
         have e:ev (upd E m.t cv) (.t m.w) = .c (.s (.int m.kd m.n)):=by simp only [ev,upd]; rw [if_neg m2,m4]
         rw [operF_none (v:=.c (.s (.int m.kd m.n))) (H':=H) (nx':=nx) rfl (by show operV T (arun T) (8 * d) (some m.u) _ H nx (.mov (.t m.w))=_; simp only [operV,e])]; rfl
        have hop3:operF T (arun T) (8 * d) ⟨m.d3,none,.call m.f [.t m.t,.t m.u]⟩ ⟨upd (upd E m.t cv) m.u (.c (.s (.int m.kd m.n))),H,nx⟩=some ⟨updO (upd (upd E m.t cv) m.u (.c (.s (.int m.kd m.n)))) m.d3 av,H',nx'⟩:=by
         refine operF_none rfl ?_
         have e:[Opd.t m.t,Opd.t m.u].map (ev (upd (upd E m.t cv) m.u (.c (.s (.int m.kd m.n)))))=[cv,.c (.s (.int m.kd m.n))]:=by
          simp only [List.map_cons,List.map_nil,ev,upd,if_true]
          rw [if_neg (Ne.symm m1)]
         show callOp T (arun T) (8 * d) m.f _ H nx=_
         rw [e]; exact h2
        have hB:∀ s∈[m.t,m.u]++opt1 m.d3,s∈asgL (o :: ⟨some m.u,none,.mov (.t m.w)⟩ :: ⟨m.d3,none,.call m.f [.t m.t,.t m.u]⟩ :: m.rest):=by
         intro s hs
         simp only [List.cons_append,List.nil_append,List.mem_cons] at hs
         rcases hs with rfl | rfl | hs
         ·exact asgL_cons (.inl (by rw [md]; simp [opt1]))
         ·exact asgL_cons (.inr (asgL_cons (.inl (by simp [opt1]))))
         ·exact asgL_cons (.inr (asgL_cons (.inr (asgL_cons (.inl hs)))))
        refine Out.eq (hs cx fin _ (.code (.ops m.rest) :: Ka) _ r d anV P0 H0 μ' L' (updO (upd (upd E m.t cv) m.u (.c (.s (.int m.kd m.n)))) m.d3 av) H' nx' h1 (h3.put (fun _=>h4)) (.code (fun t ht=>hlr t (by simp only [layC,layL,List.mem_append] at ht ⊢; exact .inr (.inr ht))) hk) ?_) ?_ h5
        ·have hf1:FxI (asgL m.rest++[]) ps.env K:=hf.sub (fun t ht=>by simp at ht ⊢; exact asgL_cons (.inr (asgL_cons (.inr (asgL_cons (.inr ht))))))
         refine FxI.stepG (B:=[m.t,m.u]++opt1 m.d3) (fun s hs hv=>?_) (fun s hs hm=>FxI.out hf (by simpa using hB s hs) hm) hf1
         simp only [List.mem_append,not_or] at hs
         have:=h6 s hs.1 hv
         rw [look_put hs.2]
         exact this
        ·rw [arun_op,hop1]; simp only; rw [arun_op,hop2]; simp only; rw [arun_op,hop3]
       ·rw [← eta hg] at h
        exact plain (B:=[]) R (EWa.refl _ _) (fun t ht=>by cases ht) (by rw [hg]; rfl) h
     | some p=>
      obtain ⟨g,want⟩:=p
      rw [hg] at h
      simp only at h
      split at h
      ·obtain ⟨rest,ps',E',H',nx',G,h1,h2,h3,h4,h5,h6,h7,h8⟩:=grS_ok hs R h
       refine Out.eq (hs cx fin _ (.code (.ops rest) :: Ka) _ r d anV P0 H0 μ L E' H' nx' h1 h3 (.code (fun t ht=>hl t (h8 t ht)) hk) ?_) (h2.ops Ka) h4
       exact FxI.step (K:=K) (A:=asgL (o :: rs)++[]) (A':=asgL rest++[]) (B:=asgL (o :: rs)) h6 (fun t ht=>by simp at ht ⊢; exact h7 t ht) (fun t ht=>by simp [ht]) hf
      ·split at h
       ·rename_i b hb hgl
        have hEg:=boolP_rel hb (R.env g)
        have hgm:g ∉ fxK K:=by rw [List.elem_eq_mem] at hgl; simpa using hgl
        have hlk:∀ q,EWa [g] ps.env (setG ps g q).env:=fun q t ht _=>.inl (setG_ew (fun e=>ht (by simp [e])))
        have hB:∀ t∈[g],t ∉ fxK K:=fun t ht=>by simp at ht; subst ht; exact hgm
        rw [grK_eq] at h
        cases hbw:beqB b want with
        | true=>
         have:=beqB_eq hbw
         subst this
         rw [hbw] at h
         simp only [cond_true] at h
         exact plain (setG_rel R hEg) (hlk b) hB (by rw [hg]; simp only [wantedA,hEg,beq_self_eq_true]) h
        | false=>
         rw [hbw] at h
         simp only [cond_false] at h
         have hne:(b == want)=false:=by cases b <;> cases want <;> first | rfl | cases hbw
         have hbn:b = !want:=by cases b <;> cases want <;> first | rfl | cases hbw
         have hw:wantedA E o.guard=some false:=by rw [hg]; simp only [wantedA,hEg,hne]
         refine skip (v:=.tup []) (av:=.tup []) (setG_rel R (hbn ▸ hEg)) (hlk _) hB (by unfold VR; exact ⟨[],rfl,trivial⟩) ?_ h
         unfold operF; simp only [hw]
       ·cases h
theorem evC_sound (hca:∀ n,Sound tb T n→CaOK tb T n) (hcf:CfOK tb T) (hm:ModeOK tb T):∀ n,Sound tb T n∧SoundU tb T n
 | 0=>⟨fun cx fin K Ka ps r d anV P0 H0 μ L E H nx h=>(by cases h),fun cx fin l0 i l prs fs K Ka ps r d anV P0 H0 μ L E H nx foots h=>(by cases h)⟩
 | n + 1=>by
  obtain ⟨h1,h2⟩:=evC_sound hca hcf hm n
  exact ⟨sound_step (hca n h1) h1 h2,soundU_step (hca n h1) hcf hm h1 h2⟩
end
end Go.Am
/- The machine on typed data against the small machine: data that is read,frozen. -/
namespace Go.Am
mutual
def Kd.dep:Kd→Nat
 | .st fs=>Kd.deps fs + 1
 | .sl _ e=>Kd.dep e + 1
 | _=>0
def Kd.deps:List Kd→Nat
 | []=>0
 | t :: r=>max (Kd.dep t) (Kd.deps r)
end
theorem RepL.frz {H:Heap} {e:Kd} {n:Nat} (ih:∀ (x:e.den) (v:AV) (L:List Id),Rep false H e x v L→∃ tv,Go.Am.frz H n v=some tv∧idsOf H n v=L∧∀ H',Rep false H' e x (.c tv) []) :
  ∀ {xs:List e.den} {vs:List AV} {L:List Id},RepL (Rep false H e) xs vs L→∃ ts,frzs H n vs=some ts∧idsOfs H n vs=L∧∀ H',RepL (Rep false H' e) xs (ts.map .c) []
 | [],[],L,h=>⟨[],by simp [frzs],by cases h; simp [idsOfs],fun _=>rfl⟩
 | [],_ :: _,_,h=>h.elim
 | _ :: _,[],_,h=>h.elim
 | x :: xs,v :: vs,L,⟨L1,L2,h1,h2,hL⟩=>by
  obtain ⟨t,a1,a2,a3⟩:=ih x v L1 h1
  obtain ⟨ts,b1,b2,b3⟩:=RepL.frz ih h2
  exact ⟨t :: ts,by simp [frzs,a1,b1],by simp [idsOfs,a2,b2,hL],fun H'=>⟨[],[],a3 H',b3 H',rfl⟩⟩
mutual
theorem Rep.frz {H:Heap}:∀ (t:Kd) (n:Nat) (x:t.den) (v:AV) (L:List Id),t.dep≤n→Rep false H t x v L→∃ tv,Go.Am.frz H n v=some tv∧idsOf H n v=L∧∀ H',Rep false H' t x (.c tv) []
 | .int k,n,x,v,L,_,⟨h1,h2⟩=>⟨.s (.int k x),by rw [h1]; simp [Go.Am.frz],by rw [h1,h2]; cases n <;> simp [idsOf],fun _=>⟨rfl,rfl⟩⟩
 | .bool,n,x,v,L,_,⟨h1,h2⟩=>⟨.s (.bool x),by rw [h1]; simp [Go.Am.frz],by rw [h1,h2]; cases n <;> simp [idsOf],fun _=>⟨rfl,rfl⟩⟩
 | .str,n,x,v,L,_,⟨h1,h2⟩=>⟨.s (.string ⟨List.toArray x⟩),by rw [h1]; simp [Go.Am.frz],by rw [h1,h2]; cases n <;> simp [idsOf],fun _=>⟨rfl,rfl⟩⟩
 | .st fs,0,x,v,L,hd,_=>by simp [Kd.dep] at hd
 | .sl sz e,0,x,v,L,hd,_=>by simp [Kd.dep] at hd
 | .st fs,n + 1,x,v,L,hd,⟨h1,h2⟩=>by
  cases v with
  | agg cs=>
   obtain ⟨ts,a1,a2,a3⟩:=Reps.frz fs n x cs L (by simpa [Kd.dep] using hd) h2
   exact ⟨.agg ts,by simp [Go.Am.frz,a1],by simp [idsOf,a2],fun H'=>⟨rfl,a3 H'⟩⟩
  | c tv=>
   cases tv with
   | agg ts=>
    obtain ⟨ts',a1,a2,a3⟩:=Reps.frz fs n x (ts.map .c) L (by simpa [Kd.dep] using hd) h2
    have hid:∀ (l:List TV),frzs H n (l.map .c)=some l∧idsOfs H n (l.map .c)=[]:=by
     intro l
     induction l with
     | nil=>exact ⟨by simp [frzs],by simp [idsOfs]⟩
     | cons y r ih=>
      refine ⟨?_,?_⟩
      ·simp only [List.map_cons,frzs,ih.1]
       have:Go.Am.frz H n (.c y)=some y:=by cases n <;> simp [Go.Am.frz]
       rw [this]
      ·simp only [List.map_cons,idsOfs,ih.2]
       cases n <;> simp [idsOf]
    have hts:ts=ts':=by have:=(hid ts).1.symm.trans a1; exact Option.some.inj this
    subst hts
    have hL:L=[]:=by rw [← a2,(hid ts).2]
    refine ⟨.agg ts,by simp [Go.Am.frz],by rw [hL]; simp [idsOf],fun H'=>⟨rfl,a3 H'⟩⟩
   | _=>cases h1
  | _=>cases h1
 | .sl sz e,n + 1,x,v,L,hd,h=>by
  rcases h with ⟨h1,h2,h3⟩ | ⟨_,z,ts,h1,h2,h3,h4⟩ | ⟨o,g,m,off,len,b,L',h1,h2,h3,h4,h5,h6,h7,h8,_,h9⟩
  ·subst h1 h3
   exact ⟨.sl 1 [],by simp [Go.Am.frz],by simp [idsOf],fun H'=>.inr (.inl ⟨rfl,1,[],rfl,.inr rfl,by rw [h2]; rfl,rfl⟩)⟩
  ·subst h1 h4
   refine ⟨.sl z ts,by simp [Go.Am.frz],by simp [idsOf],fun H'=>.inr (.inl ⟨rfl,z,ts,rfl,h2,RepL.frame (H:=H) (H':=H') (fun i hi=>by cases hi) h3,rfl⟩)⟩
  ·subst h1 h8
   obtain ⟨ts,a1,a2,a3⟩:=RepL.frz (H:=H) (e:=e) (n:=n) (fun x v L h=>Rep.frz e n x v L (by simp [Kd.dep] at hd; exact hd) h) h7
   have he:elemsOf H o g m off len=some ((b.es.drop off).take len):=by simp only [elemsOf,h2]; rw [if_pos ⟨h3,h4,h5⟩]
   refine ⟨.sl (szOf H o) ts,by simp [Go.Am.frz,he,a1],by simp [idsOf,he,a2],fun H'=>.inr (.inl ⟨rfl,_,ts,rfl,.inl ?_,a3 H',rfl⟩)⟩
   simp [szOf,h2,h6]
theorem Reps.frz {H:Heap}:∀ (fs:List Kd) (n:Nat) (x:Kd.dens fs) (vs:List AV) (L:List Id),Kd.deps fs≤n→Reps false H fs x vs L→∃ ts,frzs H n vs=some ts∧idsOfs H n vs=L∧∀ H',Reps false H' fs x (ts.map .c) []
 | [],n,x,[],L,_,h=>⟨[],by simp [frzs],by cases h; simp [idsOfs],fun _=>rfl⟩
 | [],n,x,_ :: _,L,_,h=>by simp [Reps] at h
 | _ :: _,n,x,[],L,_,h=>by simp [Reps] at h
 | t :: r,n,x,v :: vs,L,hd,⟨hs,L1,L2,h1,h2,hL⟩=>by
  obtain ⟨tv,a1,a2,a3⟩:=Rep.frz t n x.1 v L1 (Nat.le_trans (Nat.le_max_left _ _) hd) h1
  obtain ⟨ts,b1,b2,b3⟩:=Reps.frz r n x.2 vs L2 (Nat.le_trans (Nat.le_max_right _ _) hd) h2
  exact ⟨tv :: ts,by simp [frzs,a1,b1],by simp [idsOfs,a2,b2,hL],fun H'=>⟨hs,[],[],a3 H',b3 H',rfl⟩⟩
end
end Go.Am
/- The machine on typed data against the small machine: what is its own,and what can be come to from there. -/
namespace Go.Am
def Cl (H:Heap) (L:List Id):Prop:=∀ p∈L,∃ b,H p=some b∧b.w=true∧∀ y∈b.es,fineV (· ∈ L) y
theorem Cl.nil {H:Heap}:Cl H []:=fun p h=>by cases h
theorem Cl.app {H:Heap} {L M:List Id} (h:Cl H L) (k:Cl H M):Cl H (L++M):=by
 intro p hp
 rcases List.mem_append.1 hp with hp | hp
 ·obtain ⟨b,h1,h2,h3⟩:=h p hp
  exact ⟨b,h1,h2,fun y hy=>fineV_mono (fun q hq=>List.mem_append.2 (.inl hq)) y (h3 y hy)⟩
 ·obtain ⟨b,h1,h2,h3⟩:=k p hp
  exact ⟨b,h1,h2,fun y hy=>fineV_mono (fun q hq=>List.mem_append.2 (.inr hq)) y (h3 y hy)⟩
theorem RepL.cl {H:Heap} {e:Kd} (ih:∀ (x:e.den) (v:AV) (L:List Id),Rep true H e x v L→Cl H L):∀ {xs:List e.den} {vs:List AV} {L:List Id},RepL (Rep true H e) xs vs L→Cl H L
 | [],[],L,h=>by cases h; exact Cl.nil
 | [],_ :: _,_,h=>h.elim
 | _ :: _,[],_,h=>h.elim
 | x :: xs,v :: vs,L,⟨L1,L2,h1,h2,hL⟩=>by rw [hL]; exact (ih x v L1 h1).app (RepL.cl ih h2)
mutual
theorem Rep.cl {H:Heap}:∀ (t:Kd) (x:t.den) (v:AV) (L:List Id),Rep true H t x v L→Cl H L
 | .int k,x,v,L,h=>by rw [h.2]; exact Cl.nil
 | .bool,x,v,L,h=>by rw [h.2]; exact Cl.nil
 | .str,x,v,L,h=>by rw [h.2]; exact Cl.nil
 | .st fs,x,v,L,h=>Reps.cl fs x v.cells L h.2
 | .sl sz e,x,v,L,h=>by
  rcases h with ⟨_,_,h⟩ | ⟨h,_⟩ | ⟨o,g,n,off,len,b,L',h1,h2,h3,h4,h5,h6,h7,h8,h9,h10⟩
  ·rw [h]; exact Cl.nil
  ·cases h
  ·subst h8
   have hc:=RepL.cl (fun x v L h=>Rep.cl e x v L h) h7
   obtain ⟨w1,w2⟩:=h9 rfl
   intro p hp
   rcases List.mem_cons.1 hp with rfl | hp
   ·exact ⟨b,h2,w1,fun y hy=>fineV_mono (fun q hq=>by simp [hq]) y (w2.1 y hy).2.2⟩
   ·obtain ⟨b',k1,k2,k3⟩:=hc p hp
    exact ⟨b',k1,k2,fun y hy=>fineV_mono (fun q hq=>by simp [hq]) y (k3 y hy)⟩
theorem Reps.cl {H:Heap}:∀ (fs:List Kd) (x:Kd.dens fs) (vs:List AV) (L:List Id),Reps true H fs x vs L→Cl H L
 | [],x,[],L,h=>by cases h; exact Cl.nil
 | [],x,_ :: _,L,h=>by simp [Reps] at h
 | _ :: _,x,[],L,h=>by simp [Reps] at h
 | t :: r,x,v :: vs,L,⟨hs,L1,L2,h1,h2,hL⟩=>by rw [hL]; exact (Rep.cl t x.1 v L1 h1).app (Reps.cl r x.2 vs L2 h2)
end
theorem fineVs_of {X:Id→Prop}:∀ {l:List AV},(∀ y∈l,fineV X y)→fineVs X l
 | [],_=>trivial
 | y :: r,h=>⟨h y (by simp),fineVs_of fun z hz=>h z (by simp [hz])⟩
mutual
theorem reach_sub {H:Heap} {L:List Id} (hc:Cl H L):∀ (n:Nat) (v:AV),fineV (· ∈ L) v→∀ i∈reach H n v,i∈L
 | 0,v,_,i,hi=>by cases v <;> simp [reach] at hi
 | n + 1,.c t,_,i,hi=>by simp [reach] at hi
 | n + 1,.agg cs,hf,i,hi=>reachs_sub hc n cs hf i (by simpa [reach] using hi)
 | n + 1,.nils,_,i,hi=>by simp [reach] at hi
 | n + 1,.undef,_,i,hi=>by simp [reach] at hi
 | n + 1,.ref o g m off len,hf,i,hi=>by
  simp only [reach,List.mem_cons] at hi
  rcases hi with rfl | hi
  ·exact hf
  ·split at hi
   ·rename_i b hb
    obtain ⟨b',h1,_,h3⟩:=hc o hf
    rw [hb] at h1
    cases h1
    exact reachs_sub hc n b.es (fineVs_of h3) i hi
   ·cases hi
 | n + 1,.ptr o g m j off,hf,i,hi=>by
  simp only [reach,List.mem_cons] at hi
  rcases hi with rfl | hi
  ·exact hf
  ·split at hi
   ·rename_i b hb
    obtain ⟨b',h1,_,h3⟩:=hc o hf
    rw [hb] at h1
    cases h1
    exact reachs_sub hc n b.es (fineVs_of h3) i hi
   ·cases hi
 | n + 1,.fn f cs,hf,i,hi=>reachs_sub hc n cs hf i (by simpa [reach] using hi)
 | n + 1,.tup _,hf,i,hi=>hf.elim
 | n + 1,.tptr _ _,hf,i,hi=>hf.elim
theorem reachs_sub {H:Heap} {L:List Id} (hc:Cl H L):∀ (n:Nat) (vs:List AV),fineVs (· ∈ L) vs→∀ i∈reachs H n vs,i∈L
 | n,[],_,i,hi=>by simp [reachs] at hi
 | n,v :: r,hf,i,hi=>by
  simp only [reachs,List.mem_append] at hi
  rcases hi with hi | hi
  ·exact reach_sub hc n v hf.1 i hi
  ·exact reachs_sub hc n r hf.2 i hi
end
theorem reachs_mem {H:Heap} {n:Nat} {i:Id} {v:AV}:∀ {vs:List AV},v∈vs→i∈reach H n v→i∈reachs H n vs
 | w :: r,hv,hi=>by
  simp only [reachs,List.mem_append]
  rcases List.mem_cons.1 hv with rfl | hv
  ·exact .inl hi
  ·exact .inr (reachs_mem hv hi)
theorem RepL.reach {H:Heap} {e:Kd} {n:Nat} (ih:∀ (x:e.den) (v:AV) (L:List Id),Rep true H e x v L→∀ i∈L,i∈Go.Am.reach H n v):∀ {xs:List e.den} {vs:List AV} {L:List Id},RepL (Rep true H e) xs vs L→∀ i∈L,∃ v∈vs,i∈Go.Am.reach H n v
 | [],[],L,h,i,hi=>by cases h; cases hi
 | [],_ :: _,_,h,_,_=>h.elim
 | _ :: _,[],_,h,_,_=>h.elim
 | x :: xs,v :: vs,L,⟨L1,L2,h1,h2,hL⟩,i,hi=>by
  rw [hL] at hi
  rcases List.mem_append.1 hi with hi | hi
  ·exact ⟨v,by simp,ih x v L1 h1 i hi⟩
  ·obtain ⟨w,hw,k⟩:=RepL.reach ih h2 i hi
   exact ⟨w,by simp [hw],k⟩
theorem Rep.true_c {H:Heap} {t:Kd} {x:t.den} {tv:TV} {L:List Id} (hs:t.isS=false) (h:Rep true H t x (.c tv) L):L=[]:=by
 cases t with
 | int k=>exact h.2
 | bool=>exact h.2
 | str=>exact h.2
 | st fs=>cases hs
 | sl sz e=>
  rcases h with ⟨h,_⟩ | ⟨h,_⟩ | ⟨o,g,n,off,len,b,L',h,_⟩
  ·cases h
  ·cases h
  ·cases h
theorem Reps.true_c {H:Heap}:∀ {fs:List Kd} {x:Kd.dens fs} {ts:List TV} {L:List Id},Reps true H fs x (ts.map .c) L→L=[]
 | [],x,[],L,h=>h
 | [],x,_ :: _,L,h=>by simp [Reps] at h
 | _ :: _,x,[],L,h=>by simp [Reps] at h
 | t :: r,x,v :: vs,L,⟨hs,L1,L2,h1,h2,hL⟩=>by rw [hL,Rep.true_c hs h1,Reps.true_c h2]; rfl
mutual
theorem Rep.reach {H:Heap}:∀ (t:Kd) (n:Nat) (x:t.den) (v:AV) (L:List Id),t.dep≤n→Rep true H t x v L→∀ i∈L,i∈Go.Am.reach H n v
 | .int k,n,x,v,L,_,h,i,hi=>by rw [h.2] at hi; cases hi
 | .bool,n,x,v,L,_,h,i,hi=>by rw [h.2] at hi; cases hi
 | .str,n,x,v,L,_,h,i,hi=>by rw [h.2] at hi; cases hi
 | .st fs,0,x,v,L,hd,_,_,_=>by simp [Kd.dep] at hd
 | .sl sz e,0,x,v,L,hd,_,_,_=>by simp [Kd.dep] at hd
 | .st fs,n + 1,x,v,L,hd,⟨h1,h2⟩,i,hi=>by
  cases v with
  | agg cs=>
   obtain ⟨w,hw,k⟩:=Reps.reach fs n x cs L (by simpa [Kd.dep] using hd) h2 i hi
   simp only [Go.Am.reach]
   exact reachs_mem hw k
  | c tv=>
   cases tv with
   | agg ts=>
    have h2:Reps true H fs x (ts.map .c) L:=h2
    rw [Reps.true_c h2] at hi
    cases hi
   | _=>cases h1
  | _=>cases h1
 | .sl sz e,n + 1,x,v,L,hd,h,i,hi=>by
  rcases h with ⟨_,_,h⟩ | ⟨h,_⟩ | ⟨o,g,m,off,len,b,L',h1,h2,h3,h4,h5,h6,h7,h8,h9,h10⟩
  ·rw [h] at hi; cases hi
  ·cases h
  ·subst h1 h8
   simp only [Go.Am.reach,h2]
   rcases List.mem_cons.1 hi with rfl | hi
   ·simp
   ·obtain ⟨w,hw,k⟩:=RepL.reach (fun x v L h=>Rep.reach e n x v L (by simp [Kd.dep] at hd; exact hd) h) h7 i hi
    exact List.mem_cons_of_mem _ (reachs_mem (List.mem_of_mem_drop (List.mem_of_mem_take hw)) k)
theorem Reps.reach {H:Heap}:∀ (fs:List Kd) (n:Nat) (x:Kd.dens fs) (vs:List AV) (L:List Id),Kd.deps fs≤n→Reps true H fs x vs L→∀ i∈L,∃ v∈vs,i∈Go.Am.reach H n v
 | [],n,x,[],L,_,h,i,hi=>by cases h; cases hi
 | [],n,x,_ :: _,L,_,h,_,_=>by simp [Reps] at h
 | _ :: _,n,x,[],L,_,h,_,_=>by simp [Reps] at h
 | t :: r,n,x,v :: vs,L,hd,⟨hs,L1,L2,h1,h2,hL⟩,i,hi=>by
  rw [hL] at hi
  rcases List.mem_append.1 hi with hi | hi
  ·exact ⟨v,by simp,Rep.reach t n x.1 v L1 (Nat.le_trans (Nat.le_max_left _ _) hd) h1 i hi⟩
  ·obtain ⟨w,hw,k⟩:=Reps.reach r n x.2 vs L2 (Nat.le_trans (Nat.le_max_right _ _) hd) h2 i hi
   exact ⟨w,by simp [hw],k⟩
end
def AllW (H:Heap):Prop:=∀ o b,H o=some b→b.w=true
theorem AllW.upd {H:Heap} {o:Id} {b:Obj} (h:AllW H) (hb:b.w=true):AllW (hupd H o b):=by
 intro p c hp
 rw [hupd_at] at hp
 split at hp
 ·cases hp; exact hb
 ·exact h p c hp
theorem storeV_w {H H':Heap} {n:Nat} {x a:AV} (h:AllW H) (hs:storeV H n x a=some H'):AllW H':=by
 unfold storeV at hs
 split at hs
 ·split at hs
  ·rename_i b hb
   split at hs
   ·split at hs
    ·split at hs
     ·cases hs; exact h.upd (h _ b hb)
     ·cases hs
    ·cases hs
   ·cases hs
  ·cases hs
 ·cases hs
theorem callOp_w {T:Tab} {R:Run} {d f:Nat} {vs:List AV} {H H':Heap} {nx nx':Nat} {v:AV} (hm:T.mode f ≠ .mu) (h:AllW H) (hc:callOp T R d f vs H nx=some (v,H',nx')):AllW H':=by
 unfold callOp at hc
 split at hc
 ·rename_i e; exact (hm e).elim
 ·split at hc
  ·split at hc
   ·split at hc
    ·rename_i hq
     cases hc
     intro o b ho
     unfold over at ho
     split at ho
     ·rename_i hr
      split at ho
      ·exact hq.2 o b hr ho
      ·unfold kill at ho
       split at ho
       ·rename_i b1 hb1
        cases ho
        exact hq.2 o b1 hr hb1
       ·cases ho
     ·exact h o b ho
    ·cases hc
   ·cases hc
  ·cases hc
 ·split at hc
  ·split at hc
   ·split at hc
    ·cases hc; exact h
    ·cases hc
   ·cases hc
  ·split at hc
   ·split at hc
    ·split at hc
     ·cases hc; exact h
     ·cases hc
    ·cases hc
   ·cases hc
end Go.Am
/- The small machine: all that may be written stays so. -/
namespace Go.Am
theorem operV_w {T:Tab} {R:Run} {d:Nat} {dst:Option Nat} {E:AEnv} {H H':Heap} {nx nx':Nat} {o:AOp} {v:AV} (hm:∀ f,T.mode f ≠ .mu) (h:AllW H) (hc:operV T R d dst E H nx o=some (v,H',nx')):AllW H':=by
 cases o with
 | call f args=>exact callOp_w (hm f) h hc
 | callv f args=>
  simp only [operV] at hc
  split at hc
  ·exact callOp_w (hm _) h hc
  ·cases hc
 | store n a x=>
  simp only [operV] at hc
  split at hc
  ·rename_i H2 hs; cases hc; exact storeV_w h hs
  ·cases hc
 | append sz x y=>
  simp only [operV] at hc
  split at hc
  ·split at hc
   ·split at hc
    ·split at hc
     ·cases hc; exact h
     ·split at hc
      ·cases hc; exact h.upd rfl
      ·cases hc
    ·split at hc
     ·rename_i b hb
      split at hc
      ·rename_i hw
       split at hc
       ·cases hc; exact h
       ·split at hc
        ·cases hc; exact h.upd hw.2.2.2.1
        ·split at hc
         ·cases hc; exact h.upd hw.2.2.2.1
         ·cases hc
      ·cases hc
     ·cases hc
    ·cases hc
   ·cases hc
  ·cases hc
 | copy sz x y=>
  simp only [operV] at hc
  split at hc
  ·split at hc
   ·split at hc
    ·rename_i hw
     cases hc; exact h.upd hw.2.2.2.1
    ·cases hc
   ·cases hc
  ·cases hc
 | clear z x=>
  simp only [operV] at hc
  split at hc
  ·split at hc
   ·split at hc
    ·rename_i hw
     cases hc; exact h.upd hw.2.2.2.1
    ·cases hc
   ·cases hc
  ·cases hc; exact h
  ·cases hc
 | _=>
  simp only [operV] at hc
  first
   | (cases hc; exact h)
   | (repeat' split at hc) <;> first | (cases hc; done) | (cases hc; exact h) | (cases hc; exact h.upd rfl)
theorem operF_w {T:Tab} {R:Run} {d:Nat} {o:AOper} {s s':St} (hm:∀ f,T.mode f ≠ .mu) (h:AllW s.H) (hc:operF T R d o s=some s'):AllW s'.H:=by
 unfold operF at hc
 split at hc
 ·split at hc
  ·rename_i hv; cases hc; exact operV_w hm h hv
  ·cases hc
 ·cases hc; exact h
 ·cases hc
theorem runF_w {T:Tab} (hm:∀ f,T.mode f ≠ .mu):∀ (n d:Nat) (K:List It) (s s':St),runF T n d K s=some s'→AllW s.H→AllW s'.H
 | 0,d,K,s,s',h,_=>by cases h
 | n + 1,d,K,s,s',h,hw=>by
  unfold runF at h
  split at h
  ·cases h; exact hw
  ·cases h; exact hw
  ·exact runF_w hm n _ _ _ _ h hw
  ·exact runF_w hm n _ _ _ _ h hw
  ·exact runF_w hm n _ _ _ _ h hw
  ·split at h
   ·exact runF_w hm n _ _ _ _ h hw
   ·cases h
  ·exact runF_w hm n _ _ _ _ h hw
  ·exact runF_w hm n _ _ _ _ h hw
  ·exact runF_w hm n _ _ _ _ h hw
  ·split at h
   ·exact runF_w hm n _ _ _ _ h hw
   ·cases h
  ·exact runF_w hm n _ _ _ _ h hw
  ·split at h
   ·exact runF_w hm n _ _ _ _ h hw
   ·cases h
  ·split at h
   ·rename_i ho
    exact runF_w hm n _ _ _ _ h (operF_w hm hw ho)
   ·cases h
  ·exact runF_w hm n _ _ _ _ h hw
  ·split at h
   ·rename_i ho
    exact runF_w hm n _ _ _ _ h (operF_w hm hw ho)
   ·cases h
theorem arun_w {T:Tab} (hm:∀ f,T.mode f ≠ .mu) {d:Nat} {K:List It} {s s':St} (h:arun T d K s=some s') (hw:AllW s.H):AllW s'.H:=by
 obtain ⟨n,hn⟩:=arun_iff.1 h
 exact runF_w hm n d K s s' hn hw
end Go.Am
/- The machine on typed data: contracts of functions. Definitions. -/
namespace Go.Am
def ArgR (H:Heap):(l:List PKd)→Kd.dens (insK l)→List AV→List Id→Prop
 | [],_,[],L=>L=[]
 | .dat t :: r,x,v :: q,L=>(∃ tv,v = .c tv∧∀ H',Rep false H' t x.1 v [])∧ArgR H r x.2 q L
 | .cell t :: r,x,v :: q,L=>∃ o g b w L1 L2,v = .ptr o g 1 0 0∧H o=some b∧b.gen=g∧b.es=[w]∧b.sz=w.cells.length∧0 < b.sz∧stor w=true∧b.w=true∧Rep true H t x.1 w L1∧ArgR H r x.2 q L2∧L=o :: (L1++L2)
 | .kept t :: r,x,v :: q,L=>∃ L1 L2,Rep true H t x.1 v L1∧ArgR H r x.2 q L2∧L=L1++L2
 | .own t :: r,x,v :: q,L=>∃ L1 L2,Rep true H t x.1 v L1∧ArgR H r x.2 q L2∧L=L1++L2
 | _,_,_,_=>False
def LeftR (H:Heap):(l:List PKd)→Kd.dens (outK l)→List AV→List Id→Prop
 | [],_,[],L=>L=[]
 | .dat t :: r,y,v :: q,L=>LeftR H r y q L
 | .raw :: r,y,v :: q,L=>LeftR H r y q L
 | .cell t :: r,y,v :: q,L=>∃ o g b w L1 L2,v = .ptr o g 1 0 0∧H o=some b∧b.gen=g∧b.es=[w]∧b.sz=w.cells.length∧0 < b.sz∧stor w=true∧b.w=true∧Rep true H t y.1 w L1∧LeftR H r y.2 q L2∧L=o :: (L1++L2)
 | .kept t :: r,y,v :: q,L=>∃ L1 L2,Rep true H t y.1 v L1∧LeftR H r y.2 q L2∧L=L1++L2
 | .own t :: r,y,v :: q,L=>LeftR H r y q L
 | _,_,_,_=>False
def ResR (H:Heap):(l:List Kd)→Kd.dens l→List AV→List Id→Prop
 | [],_,[],L=>L=[]
 | t :: r,y,v :: q,L=>∃ L1 L2,Rep true H t y.1 v L1∧ResR H r y.2 q L2∧L=L1++L2
 | _,_,_,_=>False
def initP:(n:Nat)→(l:List PKd)→Kd.dens (insK l)→List PV×List PV×List (Option PObj)
 | _,[],_=>([],[],[])
 | n,.dat t :: r,x=>match initP n r x.2 with | (vs,an,os)=>(.d true t x.1 :: vs,an,os)
 | n,.cell t :: r,x=>match ownify (n + 1) t x.1 with
  | (v,o1)=>match initP (n + 1 + o1.length) r x.2 with | (vs,an,os)=>(.cp n 0 :: vs,.cp n 0 :: an,some (.cell false none v) :: (o1++os))
 | n,.kept t :: r,x=>match ownify n t x.1 with
  | (v,o1)=>match initP (n + o1.length) r x.2 with | (vs,an,os)=>(v :: vs,v :: an,o1++os)
 | n,.own t :: r,x=>match ownify n t x.1 with
  | (v,o1)=>match initP (n + o1.length) r x.2 with | (vs,an,os)=>(v :: vs,an,o1++os)
 | _,.raw :: _,_=>([],[],[])
def initS (l:List PKd) (x:Kd.dens (insK l)):PS:=match initP 0 l x with | (vs,an,os)=>⟨bindE 0 vs,an,os⟩
def leafOK:Kd→Bool
 | .sl sz e=>goodSl sz e
 | .st _=>false
 | _=>true
def kindOK:Kd→Bool
 | .st fs=>fs.all leafOK && !fs.isEmpty
 | t=>leafOK t
def pkdOK:PKd→Bool
 | .dat t=>Nat.ble t.dep 11
 | .raw=>false
 | .cell t | .own t=>kindOK t && Nat.ble t.dep 11
 | .kept (.sl sz e)=>goodSl sz e && (e.flat && Nat.ble (Kd.sl sz e).dep 11)
 | .kept _=>false
def sigOK (sg:Sig):Bool:=sg.ps.all pkdOK && sg.rs.all kindOK
def handI (d nx:Nat):Id→Prop
 | .dy k=>k < nx
 | .st d' _=>d' < d
 | .ex _=>False
def ConOK (T:Tab) (f:Nat) (sg:Sig) (F:sg.F):Prop:=∀ (d nx:Nat) (H:Heap) (args:List AV) (Ls:List Id) (x:Kd.dens (insK sg.ps)) (ys:Kd.dens (sg.rs++outK sg.ps)),
 F x=some ys→ArgR H sg.ps x args Ls→Ls.Nodup→(∀ i,i ∉ Ls→H i=none)→(∀ i∈Ls,handI d nx i) →
 ∃ rs H1 nx' Lr La,callB T (arun T) (8 * d) f args H nx=some (rs,H1,nx')∧nx≤nx'∧ResR H1 sg.rs (fstDens _ _ ys) rs Lr∧LeftR H1 sg.ps (sndDens _ _ ys) args La∧(Lr++La).Nodup ∧
  (∀ p∈Lr++La,p∈Ls∨∃ k,p = .dy k∧nx≤k∧k < nx')∧AllW H1∧(∀ k,nx'≤k→H1 (.dy k)=none)
end Go.Am
/- The machine on typed data against the small machine: what is its own gets names. -/
namespace Go.Am
structure Named (H:Heap) (n:Nat) (os:List (Option PObj)) (Q:List (List Id×AV)) (L:List Id):Prop where
 len:Q.length=os.length
 ids:(Q.map (·.1)).flatten=L
 ob:∀ (Y:Vw),Y.H=H→(∀ i q,Q[i]? = some q→Y.μ (n + i)=q.2∧Y.L (n + i)=q.1)→∀ i o,os[i]? = some o→∃ sz e xs,o=some (.sl false 0 none sz e true xs)∧ObR Y (n + i) (.sl false 0 none sz e true xs)
theorem Named.nil {H:Heap} {n:Nat}:Named H n [] [] []:=⟨rfl,rfl,fun Y _ _ i o h=>by simp at h⟩
theorem Named.app {H:Heap} {n:Nat} {os os':List (Option PObj)} {Q Q':List (List Id×AV)} {L L':List Id} (h:Named H n os Q L) (k:Named H (n + os.length) os' Q' L'):Named H n (os++os') (Q++Q') (L++L'):=by
 refine ⟨by simp [h.len,k.len],by simp [h.ids,k.ids],fun Y hH hq i o ho=>?_⟩
 by_cases hi:i < os.length
 ·rw [List.getElem?_append_left hi] at ho
  exact h.ob Y hH (fun i q hi=>hq i q (by rw [List.getElem?_append_left (List.getElem?_eq_some_iff.1 hi).1]; exact hi)) i o ho
 ·rw [List.getElem?_append_right (by omega)] at ho
  have:=k.ob Y hH (fun j q hj=>by
   have h2:=hq (os.length + j) q (by rw [List.getElem?_append_right (by rw [h.len]; omega),h.len]; simpa using hj)
   rw [Nat.add_assoc]; exact h2) (i - os.length) o ho
  rw [show n + os.length + (i - os.length)=n + i by omega] at this
  exact this
def AsgQ (Y:Vw) (n:Nat) (Q:List (List Id×AV)):Prop:=∀ (i:Nat) (q:List Id×AV),Q[i]? = some q→Y.μ (n + i)=q.2∧Y.L (n + i)=q.1
theorem AsgQ.left {Y:Vw} {n:Nat} {Q Q':List (List Id×AV)} (h:AsgQ Y n (Q++Q')):AsgQ Y n Q:=fun i q hi=>h i q (by rw [List.getElem?_append_left (List.getElem?_eq_some_iff.1 hi).1]; exact hi)
theorem AsgQ.right {Y:Vw} {n:Nat} {Q Q':List (List Id×AV)} (h:AsgQ Y n (Q++Q')):AsgQ Y (n + Q.length) Q':=fun j q hj=>by
 have h2:=h (Q.length + j) q (by rw [List.getElem?_append_right (by omega)]; simpa using hj)
 rw [Nat.add_assoc]; exact h2
theorem ownifyL_rel {H:Heap} {n:Nat} {t:Kd} {x:t.den} {v:AV} {L:List Id} (hk:leafOK t=true) (h:Rep true H t x v L) :
  ∃ Q,Named H n (ownifyL n t x).2 Q L∧(∀ Y:Vw,Y.H=H→AsgQ Y n Q→n + (ownifyL n t x).2.length≤Y.hp.length→VR Y (ownifyL n t x).1 v)∧cellLeaf (ownifyL n t x).1=true∧freeP (ownifyL n t x).1=true:=by
 cases t with
 | st fs=>cases hk
 | int k=>exact ⟨[],by rw [h.2]; exact Named.nil,fun Y hH _ _=>⟨[],⟨h.1,rfl⟩,fun _=>rfl,fun i hi=>by cases hi⟩,rfl,rfl⟩
 | bool=>exact ⟨[],by rw [h.2]; exact Named.nil,fun Y hH _ _=>⟨[],⟨h.1,rfl⟩,fun _=>rfl,fun i hi=>by cases hi⟩,rfl,rfl⟩
 | str=>exact ⟨[],by rw [h.2]; exact Named.nil,fun Y hH _ _=>⟨[],⟨h.1,rfl⟩,fun _=>rfl,fun i hi=>by cases hi⟩,rfl,rfl⟩
 | sl sz e=>
  refine ⟨[(L,v)],⟨rfl,by simp,fun Y hH hq i o ho=>?_⟩,fun Y hH hq hl=>?_,rfl,rfl⟩
  ·cases i with
   | zero=>
    simp [ownifyL] at ho
    obtain ⟨q1,q2⟩:=hq 0 _ rfl
    exact ⟨sz,e,x,ho.symm,(sl_named hk h hH q1 q2).1⟩
   | succ i=>simp [ownifyL] at ho
  ·obtain ⟨q1,q2⟩:=hq 0 _ rfl
   refine ⟨?_,q1.symm,(sl_named hk h hH q1 q2).2⟩
   have:n + 1≤Y.hp.length:=hl
   omega
theorem ownifyS_rel {H:Heap}:∀ {fs:List Kd} {n:Nat} {x:Kd.dens fs} {vs:List AV} {L:List Id},fs.all leafOK=true→Reps true H fs x vs L →
  ∃ Q,Named H n (ownifyS n fs x).2 Q L∧(∀ Y:Vw,Y.H=H→AsgQ Y n Q→n + (ownifyS n fs x).2.length≤Y.hp.length→VRs Y (ownifyS n fs x).1 vs)∧(ownifyS n fs x).1.all cellLeaf=true∧freePs (ownifyS n fs x).1=true∧(ownifyS n fs x).1.length=fs.length
 | [],n,x,[],L,_,h=>by cases h; exact ⟨[],Named.nil,fun Y _ _ _=>trivial,rfl,rfl,rfl⟩
 | [],n,x,_ :: _,L,_,h=>by simp [Reps] at h
 | _ :: _,n,x,[],L,_,h=>by simp [Reps] at h
 | t :: r,n,x,v :: vs,L,hk,⟨hs,L1,L2,h1,h2,hL⟩=>by
  simp only [List.all_cons,Bool.and_eq_true] at hk
  obtain ⟨Q1,a1,a2,a3,a4⟩:=ownifyL_rel (n:=n) hk.1 h1
  obtain ⟨Q2,b1,b2,b3,b4,b5⟩:=ownifyS_rel (n:=n + (ownifyL n t x.1).2.length) hk.2 h2
  have e:ownifyS n (t :: r) x=((ownifyL n t x.1).1 :: (ownifyS (n + (ownifyL n t x.1).2.length) r x.2).1,(ownifyL n t x.1).2++(ownifyS (n + (ownifyL n t x.1).2.length) r x.2).2):=rfl
  rw [e,hL]
  refine ⟨Q1++Q2,a1.app b1,fun Y hH hq hl=>?_,by simp [a3,b3],by simp [freePs,a4,b4],by simp [b5]⟩
  simp only [List.length_append] at hl
  have hr:=hq.right
  rw [a1.len] at hr
  exact ⟨a2 Y hH hq.left (by omega),b2 Y hH hr (by omega)⟩
theorem ownify_rel {H:Heap} {n:Nat} {t:Kd} {x:t.den} {v:AV} {L:List Id} (hk:kindOK t=true) (h:Rep true H t x v L) :
  ∃ Q,Named H n (ownify n t x).2 Q L∧(∀ Y:Vw,Y.H=H→AsgQ Y n Q→n + (ownify n t x).2.length≤Y.hp.length→VR Y (ownify n t x).1 v)∧cellOK (ownify n t x).1=true∧freeP (ownify n t x).1=true:=by
 have leaf:leafOK t=true→ownify n t x=ownifyL n t x→∃ Q,Named H n (ownify n t x).2 Q L∧(∀ Y:Vw,Y.H=H→AsgQ Y n Q→n + (ownify n t x).2.length≤Y.hp.length→VR Y (ownify n t x).1 v)∧cellOK (ownify n t x).1=true∧freeP (ownify n t x).1=true:=by
  intro hl e
  rw [e]
  obtain ⟨Q,a1,a2,a3,a4⟩:=ownifyL_rel (n:=n) hl h
  refine ⟨Q,a1,a2,?_,a4⟩
  cases t with
  | st=>cases hl
  | _=>exact a3
 cases t with
 | st fs=>
  simp only [kindOK,Bool.and_eq_true] at hk
  obtain ⟨Q,a1,a2,a3,a4,a5⟩:=ownifyS_rel (n:=n) hk.1 h.2
  refine ⟨Q,a1,fun Y hH hq hl=>⟨h.1,a2 Y hH hq hl⟩,?_,a4⟩
  show ((ownifyS n fs x).1.all cellLeaf && !(ownifyS n fs x).1.isEmpty)=true
  rw [a3,Bool.true_and]
  cases hv:(ownifyS n fs x).1 with
  | nil=>
   rw [hv] at a5
   cases fs with
   | nil=>cases hk.2
   | cons=>simp at a5
  | cons=>rfl
 | int k=>exact leaf rfl rfl
 | bool=>exact leaf rfl rfl
 | str=>exact leaf rfl rfl
 | sl sz e=>exact leaf hk rfl
end Go.Am
/- The machine on typed data against the small machine: how a function begins. -/
namespace Go.Am
def keptA:List PKd→List AV→List AV
 | .cell _ :: r,v :: q=>v :: keptA r q
 | .kept _ :: r,v :: q=>v :: keptA r q
 | _ :: r,_ :: q=>keptA r q
 | _,_=>[]
structure Ini (H:Heap) (n:Nat) (l:List PKd) (args:List AV) (L:List Id) (vs an:List PV) (os:List (Option PObj)) (Q:List (List Id×AV)):Prop where
 len:Q.length=os.length
 ids:(Q.map (·.1)).flatten=L
 vr:∀ Y:Vw,Y.H=H→AsgQ Y n Q→n + os.length≤Y.hp.length→VRs Y vs args∧VRs Y an (keptA l args)∧∀ (i:Nat) (o:Option PObj),os[i]? = some o→∃ ob,o=some ob∧ObR Y (n + i) ob∧tmpO ob=none∧roOf ob=false
 fr:freePs an=true
 kp:∀ t,hasKps t an=false
 np:vs.length=args.length
theorem Named.any {H:Heap} {n:Nat} {os:List (Option PObj)} {Q:List (List Id×AV)} {L:List Id} (h:Named H n os Q L) {Y:Vw} (hH:Y.H=H) (hq:AsgQ Y n Q) (i:Nat) (o:Option PObj) (ho:os[i]? = some o) :
  ∃ ob,o=some ob∧ObR Y (n + i) ob∧tmpO ob=none∧roOf ob=false:=by
 obtain ⟨sz,e,xs,h1,h2⟩:=h.ob Y hH hq i o ho
 exact ⟨_,h1,h2,rfl,rfl⟩
theorem any_app {Y:Vw} {n:Nat} {os os':List (Option PObj)} (h:∀ (i:Nat) (o:Option PObj),os[i]? = some o→∃ ob,o=some ob∧ObR Y (n + i) ob∧tmpO ob=none∧roOf ob=false)
  (k:∀ (i:Nat) (o:Option PObj),os'[i]? = some o→∃ ob,o=some ob∧ObR Y (n + os.length + i) ob∧tmpO ob=none∧roOf ob=false) :
  ∀ (i:Nat) (o:Option PObj),(os++os')[i]? = some o→∃ ob,o=some ob∧ObR Y (n + i) ob∧tmpO ob=none∧roOf ob=false:=by
 intro i o ho
 by_cases hi:i < os.length
 ·rw [List.getElem?_append_left hi] at ho; exact h i o ho
 ·rw [List.getElem?_append_right (by omega)] at ho
  have:=k (i - os.length) o ho
  rw [show n + os.length + (i - os.length)=n + i by omega] at this
  exact this
theorem ini_rel {H:Heap}:∀ {l:List PKd} {n:Nat} {x:Kd.dens (insK l)} {args:List AV} {L:List Id},l.all pkdOK=true→ArgR H l x args L →
  ∃ Q,Ini H n l args L (initP n l x).1 (initP n l x).2.1 (initP n l x).2.2 Q
 | [],n,x,[],L,_,h=>by
  cases h
  exact ⟨[],rfl,rfl,fun Y _ _ _=>⟨trivial,trivial,fun i o h=>by simp [initP] at h⟩,rfl,fun _=>rfl,rfl⟩
 | [],n,x,_ :: _,L,_,h=>by simp [ArgR] at h
 | .raw :: _,n,x,_,L,hk,h=>by simp [pkdOK] at hk
 | .dat t :: r,n,x,[],L,_,h=>by simp [ArgR] at h
 | .cell t :: r,n,x,[],L,_,h=>by simp [ArgR] at h
 | .kept t :: r,n,x,[],L,_,h=>by simp [ArgR] at h
 | .own t :: r,n,x,[],L,_,h=>by simp [ArgR] at h
 | .dat t :: r,n,x,v :: q,L,hk,⟨⟨tv,h1,h2⟩,h3⟩=>by
  simp only [List.all_cons,Bool.and_eq_true] at hk
  obtain ⟨Q,I⟩:=ini_rel (n:=n) hk.2 h3
  refine ⟨Q,I.len,I.ids,fun Y hH hq hl=>?_,I.fr,I.kp,by simp [initP,I.np]⟩
  obtain ⟨k1,k2,k3⟩:=I.vr Y hH hq hl
  exact ⟨⟨⟨[],h2 Y.H,fun _=>rfl,fun i hi=>by cases hi⟩,k1⟩,k2,k3⟩
 | .kept t :: r,n,x,v :: q,L,hk,⟨L1,L2,h1,h2,hL⟩=>by
  simp only [List.all_cons,Bool.and_eq_true] at hk
  have hkt:kindOK t=true:=by
   cases t <;> simp [pkdOK] at hk
   simp [kindOK,leafOK,hk.1.1]
  obtain ⟨Q1,a1,a2,a3,a4⟩:=ownify_rel (n:=n) hkt h1
  obtain ⟨Q2,I⟩:=ini_rel (n:=n + (ownify n t x.1).2.length) hk.2 h2
  subst hL
  refine ⟨Q1++Q2,by simp [initP,a1.len,I.len],by simp [a1.ids,I.ids],fun Y hH hq hl=>?_,by simp [initP,freePs,a4,I.fr],fun t'=>by simp [initP,hasKps,hasKp_ok a3,I.kp],by simp [initP,I.np]⟩
  have hl:n + ((ownify n t x.1).2++(initP (n + (ownify n t x.1).2.length) r x.2).2.2).length≤Y.hp.length:=hl
  rw [List.length_append] at hl
  have hr:=hq.right
  rw [a1.len] at hr
  obtain ⟨k1,k2,k3⟩:=I.vr Y hH hr (by omega)
  have hv:=a2 Y hH hq.left (by omega)
  exact ⟨⟨hv,k1⟩,⟨hv,k2⟩,any_app (a1.any hH hq.left) k3⟩
 | .own t :: r,n,x,v :: q,L,hk,⟨L1,L2,h1,h2,hL⟩=>by
  simp only [List.all_cons,Bool.and_eq_true,pkdOK] at hk
  obtain ⟨Q1,a1,a2,a3,a4⟩:=ownify_rel (n:=n) hk.1.1 h1
  obtain ⟨Q2,I⟩:=ini_rel (n:=n + (ownify n t x.1).2.length) hk.2 h2
  subst hL
  refine ⟨Q1++Q2,by simp [initP,a1.len,I.len],by simp [a1.ids,I.ids],fun Y hH hq hl=>?_,by simp [initP,I.fr],fun t'=>by simp [initP,I.kp],by simp [initP,I.np]⟩
  have hl:n + ((ownify n t x.1).2++(initP (n + (ownify n t x.1).2.length) r x.2).2.2).length≤Y.hp.length:=hl
  rw [List.length_append] at hl
  have hr:=hq.right
  rw [a1.len] at hr
  obtain ⟨k1,k2,k3⟩:=I.vr Y hH hr (by omega)
  exact ⟨⟨a2 Y hH hq.left (by omega),k1⟩,k2,any_app (a1.any hH hq.left) k3⟩
 | .cell t :: r,n,x,v :: q,L,hk,⟨o,g,b,w,L1,L2,e1,e2,e3,e4,e5,e6,e7,e8,h1,h2,hL⟩=>by
  simp only [List.all_cons,Bool.and_eq_true,pkdOK] at hk
  obtain ⟨Q1,a1,a2,a3,a4⟩:=ownify_rel (n:=n + 1) hk.1.1 h1
  obtain ⟨Q2,I⟩:=ini_rel (n:=n + 1 + (ownify (n + 1) t x.1).2.length) hk.2 h2
  subst hL
  refine ⟨([o],v) :: (Q1++Q2),by simp [initP,a1.len,I.len],by simp [a1.ids,I.ids],fun Y hH hq hl=>?_,by simp [initP,freePs,freeP,I.fr],fun t'=>by simp [initP,hasKps,hasKp,I.kp],by simp [initP,I.np]⟩
  have hl:n + (some (PObj.cell false none (ownify (n + 1) t x.1).1) :: ((ownify (n + 1) t x.1).2++(initP (n + 1 + (ownify (n + 1) t x.1).2.length) r x.2).2.2)).length≤Y.hp.length:=hl
  rw [List.length_cons,List.length_append] at hl
  obtain ⟨q1,q2⟩:=hq 0 _ rfl
  have q1:Y.μ n=v:=q1
  have q2:Y.L n=[o]:=q2
  have hq':AsgQ Y (n + 1) (Q1++Q2):=AsgQ.right (Q:=[([o],v)]) hq
  have hr:=hq'.right
  rw [a1.len] at hr
  obtain ⟨k1,k2,k3⟩:=I.vr Y hH hr (by omega)
  have hv:=a2 Y hH hq'.left (by omega)
  have hc:VR Y (.cp n 0) v:=⟨by omega,o,g,q1.trans e1,e1⟩
  refine ⟨⟨hc,k1⟩,⟨hc,k2⟩,any_app (os:=[some (.cell false none (ownify (n + 1) t x.1).1)]) (fun i ob hi=>?_) (any_app (a1.any hH hq'.left) k3)⟩
  cases i with
  | zero=>
   cases hi
   exact ⟨_,rfl,⟨o,g,b,w,q1.trans e1,by rw [hH]; exact e2,e3,e4,e5,e6,e7,fun _=>e8,q2,hv,a3⟩,rfl,rfl⟩
  | succ i=>simp at hi
end Go.Am
/- The machine on typed data against the small machine: how a function begins,whole. -/
namespace Go.Am
def Away (Ls:List Id) (d nx:Nat) (i:Id):Prop:=i ∉ Ls∧(∀ k,i = .dy k→k < nx)∧∀ t,i ≠ .st d t
theorem hget_get:∀ {hp:List (Option PObj)} {a:Nat} {ob:PObj},hget hp a=some ob→hp[a]? = some (some ob)
 | x :: r,0,ob,h=>by simp only [hget] at h; simp [h]
 | x :: r,a + 1,ob,h=>by simp only [hget] at h; simpa using hget_get h
theorem look_bind:∀ {vs:List PV} {n t:Nat},look (bindE n vs) t = .undef∨∃ i,t=n + i∧vs[i]? = some (look (bindE n vs) t)
 | [],n,t=>.inl rfl
 | v :: r,n,t=>by
  simp only [bindE,look_cons]
  by_cases h:n=t
  ·rw [if_pos h]; exact .inr ⟨0,by omega,rfl⟩
  ·rw [if_neg h]
   rcases look_bind (vs:=r) (n:=n + 1) (t:=t) with k | ⟨i,k1,k2⟩
   ·exact .inl k
   ·exact .inr ⟨i + 1,by omega,by simpa using k2⟩
theorem flat_mem {Q:List (List Id×AV)} {i:Nat} {q:List Id×AV} (h:Q[i]? = some q) {o:Id} (ho:o∈q.1):o∈(Q.map (·.1)).flatten:=
 List.mem_flatten.2 ⟨q.1,List.mem_map.2 ⟨q,List.mem_of_getElem? h,rfl⟩,ho⟩
theorem flat_nodup:∀ {Q:List (List Id×AV)} {i:Nat} {q:List Id×AV},(Q.map (·.1)).flatten.Nodup→Q[i]? = some q→q.1.Nodup
 | p :: r,0,q,h,hq=>by
  simp at hq; subst hq
  simp only [List.map_cons,List.flatten_cons] at h
  exact (List.nodup_append.1 h).1
 | p :: r,i + 1,q,h,hq=>by
  simp only [List.map_cons,List.flatten_cons] at h
  exact flat_nodup (i:=i) (List.nodup_append.1 h).2.1 (by simpa using hq)
theorem flat_dis:∀ {Q:List (List Id×AV)} {i j:Nat} {q p:List Id×AV},(Q.map (·.1)).flatten.Nodup→i≠j→Q[i]? = some q→Q[j]? = some p→∀ o∈q.1,o ∉ p.1
 | _ :: _,0,0,_,_,_,hij,_,_,_,_=>(hij rfl).elim
 | x :: r,0,j + 1,q,p,h,_,hq,hp,o,ho=>by
  simp at hq; subst hq
  simp only [List.map_cons,List.flatten_cons] at h
  intro hm
  exact (List.nodup_append.1 h).2.2 o ho o (flat_mem (i:=j) (by simpa using hp) hm) rfl
 | x :: r,i + 1,0,q,p,h,_,hq,hp,o,ho=>by
  simp at hp; subst hp
  simp only [List.map_cons,List.flatten_cons] at h
  intro hm
  exact (List.nodup_append.1 h).2.2 o hm o (flat_mem (i:=i) (by simpa using hq) ho) rfl
 | x :: r,i + 1,j + 1,q,p,h,hij,hq,hp,o,ho=>by
  simp only [List.map_cons,List.flatten_cons] at h
  exact flat_dis (i:=i) (j:=j) (List.nodup_append.1 h).2.1 (by omega) (by simpa using hq) (by simpa using hp) o ho
theorem init_rel {d nx:Nat} {H:Heap} {l:List PKd} {x:Kd.dens (insK l)} {args:List AV} {Ls:List Id} (hk:l.all pkdOK=true) (h:ArgR H l x args Ls) (hnd:Ls.Nodup) (hH:∀ i,i ∉ Ls→H i=none) (hh:∀ i∈Ls,handI d nx i) :
  ∃ μ L,Rel d (keptA l args) (Away Ls d nx) (fun _=>none) (initS l x) μ L (bindArgs args) H nx:=by
 obtain ⟨Q,I⟩:=ini_rel (n:=0) hk h
 generalize hp:initP 0 l x=p at I
 obtain ⟨vs,an,os⟩:=p
 have hS:initS l x=⟨bindE 0 vs,an,os⟩:=by unfold initS; rw [hp]
 rw [hS]
 let μ:Nat→AV:=fun i=>(Q.getD i ([],.undef)).2
 let L:Nat→List Id:=fun i=>(Q.getD i ([],.undef)).1
 have hq:AsgQ ⟨d,os,μ,L,H,nx⟩ 0 Q:=by
  intro i q hi
  have:Q.getD i ([],.undef)=q:=by simp [List.getD,hi]
  refine ⟨?_,?_⟩
  ·show (Q.getD (0 + i) ([],.undef)).2=q.2
   rw [Nat.zero_add,this]
  ·show (Q.getD (0 + i) ([],.undef)).1=q.1
   rw [Nat.zero_add,this]
 obtain ⟨k1,k2,k3⟩:=I.vr ⟨d,os,μ,L,H,nx⟩ rfl hq (by show 0 + os.length≤os.length; omega)
 have hQ:∀ {a:Nat},live os a→∃ q,Q[a]? = some q∧L a=q.1:=by
  intro a ha
  obtain ⟨ob,hob⟩:=live_iff.1 ha
  have hlt:=hget_lt hob
  rw [← I.len] at hlt
  refine ⟨Q[a],List.getElem?_eq_getElem hlt,?_⟩
  show (Q.getD a ([],.undef)).1=_
  simp [List.getD,List.getElem?_eq_getElem hlt]
 have hO:∀ {a:Nat} {ob:PObj},hget os a=some ob→ObR ⟨d,os,μ,L,H,nx⟩ a ob∧tmpO ob=none∧roOf ob=false:=by
  intro a ob ha
  obtain ⟨ob',e,h1,h2,h3⟩:=k3 a _ (hget_get ha)
  cases e
  rw [Nat.zero_add] at h1
  exact ⟨h1,h2,h3⟩
 have hnd':(Q.map (·.1)).flatten.Nodup:=by rw [I.ids]; exact hnd
 have hin:∀ {a:Nat} {ob:PObj},hget os a=some ob→∀ i∈L a,i∈Ls:=by
  intro a ob ha i hi
  obtain ⟨q,q1,q2⟩:=hQ (live_iff.2 ⟨ob,ha⟩)
  rw [q2] at hi
  rw [← I.ids]
  exact flat_mem q1 hi
 refine ⟨μ,L,?_,k2,I.kp,fun a ob ha=>(hO ha).1,?_,?_,?_,?_,?_,?_,?_,?_,?_⟩
 ·intro t
  show VR _ (look (bindE 0 vs) t) (bindArgs args t)
  rcases look_bind (vs:=vs) (n:=0) (t:=t) with e | ⟨i,e1,e2⟩
  ·rw [e]; trivial
  ·obtain ⟨a,g1,g2⟩:=k1.get e2
   have:bindArgs args t=a:=by
    rw [Nat.zero_add] at e1; subst e1
    simp [bindArgs,List.getD,g1]
   rw [this]; exact g2
 ·intro a b hab ha hb i hi
  obtain ⟨q,q1,q2⟩:=hQ ha
  obtain ⟨p,p1,p2⟩:=hQ hb
  rw [q2] at hi
  rw [p2]
  exact flat_dis hnd' hab q1 p1 i hi
 ·intro a ha
  obtain ⟨q,q1,q2⟩:=hQ ha
  rw [q2]; exact flat_nodup hnd' q1
 ·intro a ob ha i hi
  have:=hh i (hin ha i hi)
  cases i with
  | dy k=>exact this
  | st d' t=>exact .inl this
  | ex=>exact this
 ·intro a ha i hi
  obtain ⟨ob,hob⟩:=live_iff.1 ha
  have:=hh i (hin hob i (List.mem_of_mem_tail hi))
  cases i with
  | dy k=>exact this
  | st d' t=>exact this
  | ex=>exact this
 ·intro a ob t ha ht
  rw [(hO ha).2.1] at ht; cases ht
 ·intro k hk'
  refine hH _ fun hm=>?_
  have:k < nx:=hh _ hm
  omega
 ·intro i hi; exact hH i hi.1
 ·intro a ob ha _ i hi hP
  exact hP.1 (hin ha i hi)
 ·intro k hk' hP
  have:=hP.2.1 k rfl
  omega
end Go.Am
