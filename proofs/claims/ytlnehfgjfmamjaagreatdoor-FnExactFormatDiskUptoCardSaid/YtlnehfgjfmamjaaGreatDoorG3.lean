/- The small machine against Go's: calls. -/
import Derived.Test.YtlnehfgjfmamjaaGreatDoorG2
set_option linter.unusedSimpArgs false
set_option linter.unusedVariables false
namespace Go.Am
variable {P:Program}
structure TabOK (P:Program) (T:Tab):Prop where
 mix:P.follows .mixedOrders=true
 fn : ∀ f F, T.fn f = some F → ∃ fn, P.funcs[f]? = some fn ∧ fn.name ≠ "runtime.NumGoroutine" ∧ fnOf P fn = some F
 nat:∀ f g,T.nat f=some g→Callable P f∧∀ (ts us:List TV) (w:World) (φ:Id→Option Addr) (vals:List Value),g ts=some us→Sim w φ H0→VTup (ctx w φ H0) (ts.map .c) vals →
  Calls P f vals.toArray w (fun e w'=>∃ v,e = .returned v∧VRel (ctx w' φ H0) (tupOf (us.map .c)) v∧Grown w w')
theorem fnOf_spec {fn:Func} {F:AFn} (h:fnOf P fn=some F):∃ c,fn.body=some c∧resOf P fn.results.toList=some F.res∧codeOf P c=some F.body∧okD fn.ntmps F.body=true∧F.np≤fn.ntmps:=by
 unfold fnOf at h
 split at h
 ·rename_i c r hc hr
  split at h
  ·rename_i b hb
   split at h
   ·rename_i hk
    obtain rfl:=Option.some.inj h
    exact ⟨c,hc,hr,hb,hk.1,hk.2⟩
   ·cases h
  ·cases h
 ·cases h
theorem TabOK.callable {T:Tab} (hT:TabOK P T) {f:Nat} {F:AFn} (h:T.fn f=some F):Callable P f:=by
 obtain ⟨fn,h1,h2,h3⟩:=hT.fn f F h
 obtain ⟨c,h4,_⟩:=fnOf_spec h3
 exact ⟨fn,h1,h2,by rw [h4]; rfl⟩
theorem VTup.get {X:Ctx}:∀ {l:List AV} {vs:List Value},VTup X l vs→∀ t:Nat,VRel X (l.getD t .undef) (vs.getD t undef)
 | [],[],_,t=>by simp [VRel]
 | x :: r,v :: q,h,t=>by
  cases t with
  | zero=>exact h.1
  | succ t=>simpa using VTup.get h.2 t
theorem callB_sound {T:Tab} (hT:TabOK P T) {n:Nat} (hM:Main P T n) {d f:Nat} {args rs:List AV} {H H':Heap} {nx nx':Nat} (h:callB T (runF T n) d f args H nx=some (rs,H',nx')) {w:World} {φ:Id→Option Addr} {vals:List Value}
  (hs:Sim w φ H) (hv:VTup (ctx w φ H) args vals) :
  Callable P f∧Calls P f vals.toArray w (fun e w'=>∃ v φ',e = .returned v∧VRel (ctx w' φ' H') (tupOf rs) v∧Sim w' φ' H'∧Ext w φ H w' φ' H'):=by
 unfold callB at h
 split at h
 ·rename_i F hF
  split at h
  ·rename_i hnp
   split at h
   ·rename_i s hrun
    split at h
    ·rename_i rs' hres
     obtain ⟨rfl,rfl,rfl⟩:=so3 h
     refine ⟨hT.callable hF,?_⟩
     obtain ⟨fn,h1,h2,h3⟩:=hT.fn f F hF
     obtain ⟨c,h4,h5,h6,h7,h8⟩:=fnOf_spec h3
     have hlen:=hv.length
     intro cs
     let b:Frame:={ (default:Frame) with fn:=f,kind:=.normal }
     have henter:Frame.enter P f vals.toArray .normal =
       b.at { tmps:=vals.toArray++Array.replicate (fn.ntmps - vals.toArray.size) undef,defers:=[] } [.code c]:=by
      simp [Frame.enter,Frame.at,h1,h4,b]
     have hsr:SR fn.ntmps w φ ⟨bindArgs args,H,nx⟩ { tmps:=vals.toArray++Array.replicate (fn.ntmps - vals.toArray.size) undef,defers:=[] }:=by
      refine ⟨hs,?_,by simp; omega⟩
      intro t
      have h9:=hv.get t
      by_cases hlt:t < vals.length
      ·have:(vals.toArray++Array.replicate (fn.ntmps - vals.toArray.size) undef).getD t undef=vals.getD t undef:=by
        rw [Array.getD_eq_getD_getElem?,Array.getElem?_append_left (by simpa using hlt)]
        simp
       simp only [bindArgs,this]
       exact h9
      ·have:bindArgs args t = .undef:=by
        simp only [bindArgs,List.getD_eq_getElem?_getD]
        rw [List.getElem?_eq_none (by omega)]; rfl
       simp only [this]
       trivial
     obtain ⟨a',w',φ',todo,g1,g2,g3,g4⟩:=hM d [.code F.body] _ s hrun fn.ntmps b [.code c] cs _ w φ ⟨h6,h7,trivial⟩ hsr
     rw [← henter] at g1
     obtain ⟨v,e1,e2⟩:=results_rel (P:=P) g2 h5 hres
     exact ⟨.returned v,w',_,⟨v,φ',rfl,e2,g2.sim,g3⟩,g1,rfl,rfl,g4,rfl,fn,h1,e1⟩
    ·cases h
   ·cases h
  ·cases h
 ·cases h
section
variable {w:World} {φ:Id→Option Addr} {H:Heap}
theorem frz_tup_rel (hs:Sim w φ H) {n:Nat}:∀ {l:List AV} {ts:List TV} {vs:List Value},NoW H (idsOfs H n l)→VTup (ctx w φ H) l vs→frzs H n l=some ts→VTup (ctx w φ H) (ts.map .c) vs
 | [],ts,vs,_,hr,hf=>by
  simp only [frzs] at hf
  obtain rfl:=Option.some.inj hf
  exact hr
 | x :: r,ts,vs,hn,hr,hf=>by
  simp only [frzs] at hf
  simp only [idsOfs] at hn
  split at hf
  ·rename_i y hy
   split at hf
   ·rename_i ys hys
    obtain rfl:=Option.some.inj hf
    cases vs with
    | nil=>exact hr.elim
    | cons v q=>
     exact ⟨frz_rel hs n x y v (fun id hi=>hn id (by simp [hi])) hr.1 hy,frz_tup_rel hs (fun id hi=>hn id (by simp [hi])) hr.2 hys⟩
   ·cases hf
  ·cases hf
theorem frzs_length {n:Nat}:∀ {l:List AV} {ts:List TV},frzs H n l=some ts→ts.length=l.length
 | [],ts,hf=>by simp only [frzs] at hf; obtain rfl:=Option.some.inj hf; rfl
 | x :: r,ts,hf=>by
  simp only [frzs] at hf
  split at hf
  ·split at hf
   ·rename_i ys hys
    obtain rfl:=Option.some.inj hf
    simp [frzs_length hys]
   ·cases hf
  ·cases hf
theorem tupOf_rel {X:Ctx} {l:List AV} {v:Value} (h:VRel X (tupOf l) v):∃ vs:List Value,VTup X l vs∧∀ (X':Ctx) (l':List AV),l'.length=l.length→VTup X' l' vs→VRel X' (tupOf l') v:=by
 unfold tupOf at h
 split at h
 ·rename_i x
  refine ⟨[v],⟨h,trivial⟩,fun X' l' hl h'=>?_⟩
  cases l' with
  | nil=>simp at hl
  | cons y q=>
   cases q with
   | nil=>exact h'.1
   | cons=>simp at hl
 ·rename_i hne
  obtain ⟨vs,rfl,hvs⟩:=h
  refine ⟨vs,hvs,fun X' l' hl h'=>?_⟩
  unfold tupOf
  split
  ·rename_i y
   cases l with
   | nil=>simp at hl
   | cons x q=>cases q with
    | nil=>exact (hne x rfl).elim
    | cons=>simp at hl
  ·exact ⟨vs,rfl,h'⟩
theorem vtup_c {X X':Ctx} (h:LeMem X.m X'.m):∀ {l:List TV} {vs:List Value},VTup X (l.map .c) vs→VTup X' (l.map .c) vs
 | [],[],_=>trivial
 | [],_ :: _,e=>e.elim
 | t :: r,[],e=>e.elim
 | t :: r,v :: q,e=>⟨TRel.mono h t v e.1,vtup_c h e.2⟩
theorem plain_any {m m':Mem}:∀ {l:List TV} {vs:List Value},l.all TV.plain=true→TRels m l vs→TRels m' l vs
 | [],[],_,_=>trivial
 | [],_ :: _,_,h=>h.elim
 | _ :: _,[],_,h=>h.elim
 | t :: r,v :: q,hp,h=>by
  simp only [List.all_cons,Bool.and_eq_true] at hp
  refine ⟨?_,h.2.1,plain_any hp.2 h.2.2⟩
  cases t with
  | s x=>exact h.1
  | agg=>simp [TV.plain] at hp
  | sl=>simp [TV.plain] at hp
theorem scalar_any {m m':Mem} {t:TV} {v:Value} (hp:t.scalar=true) (h:TRel m t v):TRel m' t v:=by
 cases t with
 | s x=>exact h
 | agg cs=>obtain ⟨vs,e,hvs⟩:=h; exact ⟨vs,e,plain_any hp hvs⟩
 | sl=>simp [TV.scalar] at hp
theorem vtup_scalar {X X':Ctx}:∀ {l:List TV} {vs:List Value},l.all TV.scalar=true→VTup X (l.map .c) vs→VTup X' (l.map .c) vs
 | [],[],_,_=>trivial
 | [],_ :: _,_,h=>h.elim
 | _ :: _,[],_,h=>h.elim
 | t :: r,v :: q,hp,h=>by
  simp only [List.all_cons,Bool.and_eq_true] at hp
  exact ⟨scalar_any hp.1 h.1,vtup_scalar hp.2 h.2⟩
theorem noW_lockL (l:List Id):NoW (lockL H l) l:=by
 intro id hi ob ho
 rw [lockL_at,if_pos hi] at ho
 split at ho
 ·obtain rfl:=Option.some.inj ho; rfl
 ·cases ho
theorem noW_lockAll (l:List Id):NoW (lockAll H) l:=by
 intro id _ ob ho
 unfold lockAll at ho
 split at ho
 ·obtain rfl:=Option.some.inj ho; rfl
 ·cases ho
theorem lockAll_ag (id:Id):AgR H (lockAll H) id:=by
 cases h:H id with
 | none=>exact .inl ⟨h,by simp only [lockAll,h]⟩
 | some b=>exact .inr ⟨b,{ b with w:=false },h,by simp only [lockAll,h],rfl,rfl,rfl⟩
theorem freeze_result {w0:World} {φ0:Id→Option Addr} {Hs:Heap} (hs:Sim w φ H) (he:Ext w0 φ0 Hs w φ H) {rs:List AV} {us:List TV} {v:Value} (hr:VRel (ctx w φ H) (tupOf rs) v) (hf:frzs H 12 rs=some us) :
  ∃ Hc,VRel (ctx w φ Hc) (tupOf (us.map .c)) v∧Ext w0 φ0 Hs w φ Hc:=by
 have hlk:=lk_lockL H (idsOfs H 12 rs)
 have hs':=hlk.sim hs
 obtain ⟨e1,e2⟩:=frzs_ag (H:=H) (H1:=lockL H (idsOfs H 12 rs)) 12 rs (fun id _=>lockL_ag _ _)
 refine ⟨lockL H (idsOfs H 12 rs),?_,he.trans hlk.ext⟩
 have hr':=VRel.mono ((hlk.ext (w:=w) (φ:=φ)).leCtx hs.pl) _ _ hr
 obtain ⟨vs,h1,h2⟩:=tupOf_rel hr'
 refine h2 _ _ (by simp [frzs_length hf]) (frz_tup_rel hs' (n:=12) ?_ h1 (by rw [e1,hf]))
 rw [e2]
 exact noW_lockL _
end
theorem closed_sound {T:Tab} (hT:TabOK P T) {n:Nat} (hM:Main P T n) {f:Nat} {ts us:List TV} (h:callC T (runF T n) f ts=some us) {w:World} {φ:Id→Option Addr} {vals:List Value}
  (hs:Sim w φ H0) (hv:VTup (ctx w φ H0) (ts.map .c) vals) :
  Callable P f∧Calls P f vals.toArray w (fun e w'=>∃ v φ' Hc,e = .returned v∧VRel (ctx w' φ' Hc) (tupOf (us.map .c)) v∧Ext w φ H0 w' φ' Hc):=by
 unfold callC at h
 split at h
 ·rename_i g hg
  obtain ⟨h1,h2⟩:=hT.nat f g hg
  refine ⟨h1,(h2 ts us w φ vals h hs hv).mono ?_⟩
  rintro e w' ⟨v,rfl,h3,h4⟩
  exact ⟨v,φ,H0,rfl,h3,h4.ext hs⟩
 ·split at h
  ·rename_i rs Hc nx' hb
   obtain ⟨h1,h2⟩:=callB_sound hT hM hb hs hv
   refine ⟨h1,h2.mono ?_⟩
   rintro e w' ⟨v,φ',rfl,h3,h4,h5⟩
   obtain ⟨Hc',g1,g2⟩:=freeze_result h4 h5 h3 h
   exact ⟨v,φ',Hc',rfl,g1,g2⟩
  ·cases h
open Classical in
noncomputable def fence (φ:Id→Option Addr) (H:Heap):Id→Option Addr:=fun id=>match id with
 | .ex b=>if Mut φ H b then some ⟨b,0,none⟩ else none
 | _=>none
theorem fence_mut {φ:Id→Option Addr} {H:Heap} {b:Nat}:Mut (fence φ H) H0 b↔Mut φ H b:=by
 constructor
 ·rintro (⟨o,ob,a,h1,_⟩ | ⟨k,a,h1,rfl⟩)
  ·cases h1
  ·unfold fence at h1
   simp only at h1
   split at h1
   ·rename_i hm
    obtain rfl:=Option.some.inj h1
    exact hm
   ·cases h1
 ·intro h
  exact .inr ⟨b,⟨b,0,none⟩,by unfold fence; simp only; rw [if_pos h],rfl⟩
theorem fence_imm {w:World} {φ:Id→Option Addr} {H:Heap}:imm w (fence φ H) H0=imm w φ H:=by
 funext a
 unfold imm
 by_cases h:Mut φ H a.block
 ·rw [if_pos h,if_pos (fence_mut.2 h)]
 ·rw [if_neg h,if_neg (fun e=>h (fence_mut.1 e))]
theorem mut_lt {w:World} {φ:Id→Option Addr} {H:Heap} (hs:Sim w φ H) {b:Nat} (h:Mut φ H b):b < w.heap.size:=by
 rcases h with ⟨o,ob,a,_,_,h3,rfl⟩ | ⟨k,a,h1,rfl⟩
 ·exact hs.pl o a h3
 ·exact hs.pl _ a h1
theorem fence_sim {w:World} {φ:Id→Option Addr} {H:Heap} (hs:Sim w φ H):Sim w (fence φ H) H0:=by
 refine ⟨?_,fun o ob h=>(by cases h),fun o ob p oc b c h=>(by cases h),fun o ob h=>(by cases h),fun o ob b k c h=>(by cases h)⟩
 intro o a h
 unfold fence at h
 split at h
 ·split at h
  ·rename_i hm
   obtain rfl:=Option.some.inj h
   exact mut_lt hs hm
  ·cases h
 ·cases h
theorem fence_grown {w w':World} {φ φ':Id→Option Addr} {H Hc:Heap} (h:Ext w (fence φ H) H0 w' φ' Hc):Grown w w':=by
 refine ⟨h.os,h.tape,h.output,h.size,fun b hb=>?_⟩
 by_cases hm:Mut φ H b
 ·exact h.exh b ⟨b,0,none⟩ (by unfold fence; simp only; rw [if_pos hm])
 ·exact h.fr b hb (fun e=>hm (fence_mut.1 e))
theorem fence_back {w w':World} {φ φ':Id→Option Addr} {H Hc:Heap} (h:Ext w (fence φ H) H0 w' φ' Hc):LeMem (imm w' φ' Hc) (imm w' φ H):=by
 intro a v ha
 rw [imm_some] at ha ⊢
 refine ⟨fun hm=>ha.1 (.inr ⟨a.block,⟨a.block,0,none⟩,?_,rfl⟩),ha.2⟩
 rw [h.ex]
 unfold fence; simp only; rw [if_pos hm]
end Go.Am
/- A call that runs on a part of the heap: what it does to the whole. -/
namespace Go.Am
def MutS (φ:Id→Option Addr) (H:Heap) (S:List Id) (b:Nat):Prop:=∃ o ob a,o∈S∧H o=some ob∧ob.w=true∧φ o=some a∧a.block=b
open Classical in
noncomputable def phiS (φ:Id→Option Addr) (H:Heap) (S:List Id):Id→Option Addr:=fun id=>match id with
 | .ex b=>if Mut φ H b∧¬ MutS φ H S b then some ⟨b,0,none⟩ else none
 | .st d t=>φ (.st d t)
 | .dy k=>φ (.dy k)
theorem phiS_real {φ:Id→Option Addr} {H:Heap} {S:List Id} {o:Id} (h:o.real):phiS φ H S o=φ o:=by
 cases o with
 | ex k=>exact h.elim
 | st=>rfl
 | dy=>rfl
theorem restr_some {H:Heap} {S:List Id} {o:Id} {b:Obj} (h:restr H S o=some b):o∈S∧H o=some b:=by
 unfold restr at h; split at h
 ·exact ⟨‹_›,h⟩
 ·cases h
theorem restr_in {H:Heap} {S:List Id} {o:Id} (h:o∈S):restr H S o=H o:=by unfold restr; rw [if_pos h]
mutual
theorem fineV_mono {X Y:Id→Prop} (h:∀ p,X p→Y p):∀ (v:AV),fineV X v→fineV Y v
 | .c _,hv=>hv
 | .agg cs,hv=>fineVs_mono h cs hv
 | .nils,_=>trivial
 | .undef,_=>trivial
 | .ref o _ _ _ _,hv=>h o hv
 | .ptr o _ _ _ _,hv=>h o hv
 | .fn _ cs,hv=>fineVs_mono h cs hv
 | .tup _,hv=>hv.elim
 | .tptr _ _,hv=>hv.elim
theorem fineVs_mono {X Y:Id→Prop} (h:∀ p,X p→Y p):∀ (l:List AV),fineVs X l→fineVs Y l
 | [],_=>trivial
 | x :: r,hv=>⟨fineV_mono h x hv.1,fineVs_mono h r hv.2⟩
end
section
variable {w w':World} {φ φ':Id→Option Addr} {H H1 H2:Heap} {S:List Id} {nx:Nat}
theorem mut_phiS (hs:Sim w φ H) {b:Nat}:Mut (phiS φ H S) (restr H S) b↔Mut φ H b:=by
 constructor
 ·rintro (⟨o,ob,a,h1,h2,h3,h4⟩ | ⟨k,a,h1,h2⟩)
  ·obtain ⟨hS,hH⟩:=restr_some h1
   rw [phiS_real (hs.re _ _ hH)] at h3
   exact .inl ⟨o,ob,a,hH,h2,h3,h4⟩
  ·unfold phiS at h1
   simp only at h1
   split at h1
   ·rename_i hc
    obtain rfl:=Option.some.inj h1
    subst h2
    exact hc.1
   ·cases h1
 ·intro h
  by_cases hm:MutS φ H S b
  ·obtain ⟨o,ob,a,h1,h2,h3,h4,h5⟩:=hm
   exact .inl ⟨o,ob,a,by rw [restr_in h1]; exact h2,h3,by rw [phiS_real (hs.re _ _ h2)]; exact h4,h5⟩
  ·exact .inr ⟨b,⟨b,0,none⟩,by unfold phiS; simp only; rw [if_pos ⟨h,hm⟩],rfl⟩
theorem imm_phiS (hs:Sim w φ H):imm w (phiS φ H S) (restr H S)=imm w φ H:=by
 funext a
 unfold imm
 by_cases h:Mut φ H a.block
 ·rw [if_pos h,if_pos ((mut_phiS hs).2 h)]
 ·rw [if_neg h,if_neg (fun e=>h ((mut_phiS hs).1 e))]
mutual
theorem VRel.inS (hs:Sim w φ H):∀ (x:AV) (v:Value),okIn (· ∈ S) x→VRel (ctx w φ H) x v→VRel (ctx w (phiS φ H S) (restr H S)) x v
 | .c t,v,_,hr=>by
  show TRel (imm w (phiS φ H S) (restr H S)) t v
  rw [imm_phiS hs]; exact hr
 | .agg cs,v,ho,⟨vs,e,r⟩=>⟨vs,e,VRels.inS hs cs vs ho r⟩
 | .tup cs,v,ho,⟨vs,e,r⟩=>⟨vs,e,VTup.inS hs cs vs ho r⟩
 | .nils,v,_,hr=>hr
 | .tptr t off,v,_,hr=>by
  obtain ⟨u,b,e,h1,h2,h3⟩:=hr
  refine ⟨u,b,e,h1,?_,?_⟩
  ·show TRel (imm w (phiS φ H S) (restr H S)) t u
   rw [imm_phiS hs]; exact h2
  ·intro j y hj
   show imm w (phiS φ H S) (restr H S) (b.add j)=some y
   rw [imm_phiS hs]; exact h3 j y hj
 | .ref o g n off len,v,ho,hr=>by
  obtain ⟨a,cap,e,h1,ob,h2,h3⟩:=hr
  have ho:o∈S:=ho
  refine ⟨a,cap,e,h1,ob,?_,?_⟩
  ·show restr H S o=some ob
   rw [restr_in ho]; exact h2
  ·refine h3.imp id ?_
   rintro ⟨k1,k2,k3,k4⟩
   refine ⟨k1,k2,k3,k4.imp id ?_⟩
   rintro ⟨b,q1,q2⟩
   exact ⟨b,by show phiS φ H S o=some b; rw [phiS_real (hs.re _ _ h2)]; exact q1,q2⟩
 | .ptr o g n i off,v,ho,hr=>by
  obtain ⟨a,e,ob,h2,h3⟩:=hr
  have ho:o∈S:=ho
  refine ⟨a,e,ob,?_,?_⟩
  ·show restr H S o=some ob
   rw [restr_in ho]; exact h2
  ·refine h3.imp id ?_
   rintro ⟨k1,k2,b,q1,q2⟩
   exact ⟨k1,k2,b,by show phiS φ H S o=some b; rw [phiS_real (hs.re _ _ h2)]; exact q1,q2⟩
 | .fn f caps,v,ho,⟨vs,e,r⟩=>⟨vs,e,VTup.inS hs caps vs ho r⟩
 | .undef,_,_,_=>trivial
theorem VRels.inS (hs:Sim w φ H):∀ (l:List AV) (vs:List Value),okIns (· ∈ S) l→VRels (ctx w φ H) l vs→VRels (ctx w (phiS φ H S) (restr H S)) l vs
 | [],[],_,_=>trivial
 | x :: r,v :: q,ho,⟨a,b,c⟩=>⟨VRel.inS hs x v ho.1 a,b,VRels.inS hs r q ho.2 c⟩
 | [],_ :: _,_,e=>e.elim
 | _ :: _,[],_,e=>e.elim
theorem VTup.inS (hs:Sim w φ H):∀ (l:List AV) (vs:List Value),okIns (· ∈ S) l→VTup (ctx w φ H) l vs→VTup (ctx w (phiS φ H S) (restr H S)) l vs
 | [],[],_,_=>trivial
 | x :: r,v :: q,ho,⟨a,c⟩=>⟨VRel.inS hs x v ho.1 a,VTup.inS hs r q ho.2 c⟩
 | [],_ :: _,_,e=>e.elim
 | _ :: _,[],_,e=>e.elim
end
theorem sim_phiS (hs:Sim w φ H) (hc:∀ o∈S,∀ b,H o=some b→∀ x∈b.es,okIn (· ∈ S) x):Sim w (phiS φ H S) (restr H S):=by
 refine ⟨?_,?_,?_,fun o ob h=>hs.re o ob (restr_some h).2,?_⟩
 ·intro o a h
  cases o with
  | ex k=>
   unfold phiS at h
   simp only at h
   split at h
   ·rename_i hk
    obtain rfl:=Option.some.inj h
    exact mut_lt hs hk.1
   ·cases h
  | st=>exact hs.pl _ a h
  | dy=>exact hs.pl _ a h
 ·intro o ob h
  obtain ⟨h1,h2⟩:=restr_some h
  obtain ⟨b,h3,h4⟩:=hs.obj o ob h2
  refine ⟨b,by rw [phiS_real (hs.re _ _ h2)]; exact h3,h4.spot,h4.lt,h4.pos,?_,h4.fr⟩
  intro i x hx
  obtain ⟨k0,v,k1,k2⟩:=h4.el i x hx
  exact ⟨k0,v,VRel.inS hs x v (hc o h1 ob h2 x (List.mem_of_getElem? hx)) k1,k2⟩
 ·intro o ob p oc b c h1 h2 h3 h4 h5 h6
  obtain ⟨_,e1⟩:=restr_some h1
  obtain ⟨_,e2⟩:=restr_some h3
  rw [phiS_real (hs.re _ _ e1)] at h5
  rw [phiS_real (hs.re _ _ e2)] at h6
  exact hs.sep o ob p oc b c e1 h2 e2 h4 h5 h6
 ·intro o ob b k c h1 h2 h3
  obtain ⟨hS,e1⟩:=restr_some h1
  rw [phiS_real (hs.re _ _ e1)] at h2
  unfold phiS at h3
  simp only at h3
  split at h3
  ·rename_i hk
   obtain rfl:=Option.some.inj h3
   intro hb
   rcases hk.1 with ⟨p,oc,a,g1,g2,g3,g4⟩ | ⟨q,a,g1,g2⟩
   ·by_cases hpo:p=o
    ·subst hpo
     exact hk.2 ⟨p,oc,a,hS,g1,g2,g3,g4⟩
    ·exact hs.sep p oc o ob a b g1 g2 e1 hpo g3 h2 (by rw [g4]; exact hb.symm)
   ·exact hs.sx o ob b q a e1 h2 g1 (by rw [g2]; exact hb)
  ·cases h3
open Classical in
noncomputable def phiN (φ φ':Id→Option Addr) (H:Heap) (S:List Id) (nx:Nat):Id→Option Addr:=fun o=>if region H S nx o∧o.real then φ' o else φ o
mutual
theorem VRel.fine {K:Id→Prop} {Hn:Heap} {φn:Id→Option Addr} (hk:∀ o,K o→Hn o=H1 o∧φn o=φ' o):∀ (x:AV) (v:Value),fineV K x→VRel (ctx w' φ' H1) x v→VRel (ctx w' φn Hn) x v
 | .c t,v,ho,hr=>scalar_any ho hr
 | .agg cs,v,ho,⟨vs,e,r⟩=>⟨vs,e,VRels.fine hk cs vs ho r⟩
 | .tup cs,v,ho,_=>ho.elim
 | .nils,v,_,hr=>hr
 | .tptr t off,v,ho,hr=>ho.elim
 | .ref o g n off len,v,ho,hr=>by
  obtain ⟨a,cap,e,h1,ob,h2,h3⟩:=hr
  obtain ⟨e1,e2⟩:=hk o ho
  refine ⟨a,cap,e,h1,ob,?_,?_⟩
  ·show Hn o=some ob
   rw [e1]; exact h2
  ·refine h3.imp id ?_
   rintro ⟨k1,k2,k3,k4⟩
   refine ⟨k1,k2,k3,k4.imp id ?_⟩
   rintro ⟨b,q1,q2⟩
   exact ⟨b,by show φn o=some b; rw [e2]; exact q1,q2⟩
 | .ptr o g n i off,v,ho,hr=>by
  obtain ⟨a,e,ob,h2,h3⟩:=hr
  obtain ⟨e1,e2⟩:=hk o ho
  refine ⟨a,e,ob,?_,?_⟩
  ·show Hn o=some ob
   rw [e1]; exact h2
  ·refine h3.imp id ?_
   rintro ⟨k1,k2,b,q1,q2⟩
   exact ⟨k1,k2,b,by show φn o=some b; rw [e2]; exact q1,q2⟩
 | .fn f caps,v,ho,⟨vs,e,r⟩=>⟨vs,e,VTup.fine hk caps vs ho r⟩
 | .undef,_,_,_=>trivial
theorem VRels.fine {K:Id→Prop} {Hn:Heap} {φn:Id→Option Addr} (hk:∀ o,K o→Hn o=H1 o∧φn o=φ' o):∀ (l:List AV) (vs:List Value),fineVs K l→VRels (ctx w' φ' H1) l vs→VRels (ctx w' φn Hn) l vs
 | [],[],_,_=>trivial
 | x :: r,v :: q,ho,⟨a,b,c⟩=>⟨VRel.fine hk x v ho.1 a,b,VRels.fine hk r q ho.2 c⟩
 | [],_ :: _,_,e=>e.elim
 | _ :: _,[],_,e=>e.elim
theorem VTup.fine {K:Id→Prop} {Hn:Heap} {φn:Id→Option Addr} (hk:∀ o,K o→Hn o=H1 o∧φn o=φ' o):∀ (l:List AV) (vs:List Value),fineVs K l→VTup (ctx w' φ' H1) l vs→VTup (ctx w' φn Hn) l vs
 | [],[],_,_=>trivial
 | x :: r,v :: q,ho,⟨a,c⟩=>⟨VRel.fine hk x v ho.1 a,VTup.fine hk r q ho.2 c⟩
 | [],_ :: _,_,e=>e.elim
 | _ :: _,[],_,e=>e.elim
end
theorem fine_tupOf {K:Id→Prop} {Hn:Heap} {φn:Id→Option Addr} (hk:∀ o,K o→Hn o=H1 o∧φn o=φ' o) {l:List AV} {v:Value} (h:fineVs K l) (hr:VRel (ctx w' φ' H1) (tupOf l) v):VRel (ctx w' φn Hn) (tupOf l) v:=by
 obtain ⟨vs,h1,h2⟩:=tupOf_rel hr
 exact h2 _ _ rfl (VTup.fine hk _ _ h h1)
structure After (w w':World) (φ φ':Id→Option Addr) (H H2 H1:Heap) (S:List Id) (nx:Nat):Prop where
 sim:Sim w φ H
 lk:Lk H H2
 sm:∀ o∈S,H2 o=H o
 sim1:Sim w' φ' H1
 ext:Ext w (phiS φ H2 S) (restr H2 S) w' φ' H1
 wr:∀ o b,region H S nx o→H1 o=some b→b.w=true
theorem After.sim2 (A:After w w' φ φ' H H2 H1 S nx):Sim w φ H2:=A.lk.sim A.sim
theorem After.mutS (A:After w w' φ φ' H H2 H1 S nx) {b:Nat}:MutS φ H2 S b↔MutS φ H S b:=by
 constructor
 ·rintro ⟨o,ob,a,h1,h2,h3⟩; exact ⟨o,ob,a,h1,by rw [← A.sm o h1]; exact h2,h3⟩
 ·rintro ⟨o,ob,a,h1,h2,h3⟩; exact ⟨o,ob,a,h1,by rw [A.sm o h1]; exact h2,h3⟩
theorem After.still (A:After w w' φ φ' H H2 H1 S nx) {b:Nat} (hb:b < w.heap.size) (hm:¬ MutS φ H S b):w'.heap[b]? = w.heap[b]?:=by
 by_cases h:Mut φ H2 b
 ·have:phiS φ H2 S (.ex b)=some ⟨b,0,none⟩:=by
   unfold phiS; simp only; rw [if_pos ⟨h,fun e=>hm (A.mutS.1 e)⟩]
  exact A.ext.exh b _ this
 ·exact A.ext.fr b hb (fun e=>h ((mut_phiS A.sim2).1 e))
theorem After.not_mutS (A:After w w' φ φ' H H2 H1 S nx) {o:Id} {ob:Obj} {b:Addr} (ho:H o=some ob) (hb:φ o=some b) (hn:o ∉ S):¬ MutS φ H S b.block:=by
 rintro ⟨p,oc,a,h1,h2,h3,h4,h5⟩
 exact A.sim.sep p oc o ob a b h2 h3 ho (fun e=>hn (e ▸ h1)) h4 hb h5
theorem After.apart (A:After w w' φ φ' H H2 H1 S nx) {o:Id} {ob:Obj} {b:Addr} (hr:region H S nx o) (ho:H1 o=some ob) (hb:φ' o=some b) (hlt:b.block < w.heap.size):MutS φ H S b.block:=by
 have hw:=A.wr o ob hr ho
 have h1:Mut φ' H1 b.block:=.inl ⟨o,ob,b,ho,hw,hb,rfl⟩
 have h2:=(mut_phiS A.sim2).1 (A.ext.mu _ hlt h1)
 refine Classical.byContradiction fun hm=>?_
 have h3:phiS φ H2 S (.ex b.block)=some ⟨b.block,0,none⟩:=by
  unfold phiS; simp only; rw [if_pos ⟨h2,fun e=>hm (A.mutS.1 e)⟩]
 rw [← A.ext.ex] at h3
 exact A.sim1.sx o ob b _ _ ho hb h3 rfl
theorem region_not {o:Id} {ob:Obj} (h:H o=some ob) (hn:¬ region H S nx o):o ∉ S:=fun e=>hn (.inl e)
theorem After.done (A:After w w' φ φ' H H2 H1 S nx):Ext w φ H w' (phiN φ φ' H S nx) (over H H1 S nx)∧Sim w' (phiN φ φ' H S nx) (over H H1 S nx) ∧
  ∀ o,inK H H1 S nx o→over H H1 S nx o=H1 o∧phiN φ φ' H S nx o=φ' o:=by
 have hk:∀ o,inK H H1 S nx o→over H H1 S nx o=H1 o∧phiN φ φ' H S nx o=φ' o:=by
  intro o ho
  obtain ⟨X,hx,hX⟩:=ho
  obtain ⟨hr,b,hb,_⟩:=hX o hx
  have hre:=A.sim1.re o b hb
  refine ⟨?_,?_⟩
  ·unfold over; rw [if_pos hr,if_pos ⟨X,hx,hX⟩]
  ·unfold phiN; rw [if_pos ⟨hr,hre⟩]
 have cases3:∀ o ob,over H H1 S nx o=some ob→(¬ region H S nx o∧H o=some ob∧phiN φ φ' H S nx o=φ o) ∨
   (region H S nx o∧inK H H1 S nx o∧H1 o=some ob∧phiN φ φ' H S nx o=φ' o) ∨
   (region H S nx o∧(∃ b1,H1 o=some b1∧ob=⟨b1.gen + 1,b1.sz,b1.w,[]⟩)∧phiN φ φ' H S nx o=φ' o):=by
  intro o ob h
  unfold over at h
  split at h
  ·rename_i hr
   split at h
   ·rename_i hK
    exact .inr (.inl ⟨hr,hK,h,(hk o hK).2⟩)
   ·cases h1:H1 o with
    | none=>rw [h1] at h; cases h
    | some b1=>
     rw [h1] at h
     refine .inr (.inr ⟨hr,⟨b1,rfl,(Option.some.inj h).symm⟩,?_⟩)
     unfold phiN; rw [if_pos ⟨hr,A.sim1.re o b1 h1⟩]
  ·rename_i hr
   refine .inl ⟨hr,h,?_⟩
   unfold phiN; rw [if_neg (fun e=>hr e.1)]
 have hex:∀ k,phiN φ φ' H S nx (.ex k)=φ (.ex k):=fun k=>by
  unfold phiN; rw [if_neg (fun e=>e.2.elim)]
 have hE:Ext w φ H w' (phiN φ φ' H S nx) (over H H1 S nx):=by
  refine ⟨A.ext.os,A.ext.tape,A.ext.output,A.ext.size,?_,?_,A.ext.bs,?_,hex,?_⟩
  ·intro b hb hm
   refine A.still hb ?_
   rintro ⟨o,ob,a,_,h2,h3,h4,h5⟩
   exact hm (.inl ⟨o,ob,a,h2,h3,h4,h5⟩)
  ·rintro b hb (⟨o,ob,a,h1,h2,h3,h4⟩ | ⟨k,a,h1,h2⟩)
   ·rcases cases3 o ob h1 with ⟨_,e1,e2⟩ | ⟨hr,_,e1,e2⟩ | ⟨hr,⟨b1,e1,rfl⟩,e2⟩
    ·exact .inl ⟨o,ob,a,e1,h2,by rw [← e2]; exact h3,h4⟩
    ·rw [e2] at h3
     subst h4
     obtain ⟨p,oc,c,_,g2,g3,g4,g5⟩:=A.apart hr e1 h3 hb
     exact .inl ⟨p,oc,c,g2,g3,g4,g5⟩
    ·rw [e2] at h3
     subst h4
     obtain ⟨p,oc,c,_,g2,g3,g4,g5⟩:=A.apart hr e1 h3 hb
     exact .inl ⟨p,oc,c,g2,g3,g4,g5⟩
   ·rw [hex] at h1; exact .inr ⟨k,a,h1,h2⟩
  ·intro o x hx
   by_cases hr:region H S nx o
   ·have hS:o∈S:=by
     rcases hr with h | ⟨_,h⟩
     ·exact h
     ·rw [hx] at h; cases h
    have hre:=A.sim.re o x hx
    obtain ⟨x1,g1,g2⟩:=A.ext.ob o x (by rw [restr_in hS,A.sm o hS]; exact hx)
    by_cases hK:inK H H1 S nx o
    ·refine ⟨x1,by rw [(hk o hK).1]; exact g1,g2.imp id ?_⟩
     rintro ⟨a,b,c,e⟩
     exact ⟨a,b,c,by rw [(hk o hK).2,e,phiS_real hre]⟩
    ·refine ⟨⟨x1.gen + 1,x1.sz,x1.w,[]⟩,by unfold over; rw [if_pos hr,if_neg hK,g1]; rfl,.inl (.inl ?_)⟩
     show x.gen < x1.gen + 1
     rcases g2 with g2 | g2
     ·unfold Newer at g2; omega
     ·omega
   ·exact ⟨x,by unfold over; rw [if_neg hr]; exact hx,.inr ⟨rfl,rfl,rfl,by unfold phiN; rw [if_neg (fun e=>hr e.1)]⟩⟩
  ·intro k a ha
   refine A.still (A.sim.pl _ a ha) ?_
   rintro ⟨o,ob,c,h1,h2,h3,h4,h5⟩
   exact A.sim.sx o ob c k a h2 h4 ha h5
 refine ⟨hE,?_,hk⟩
 have hctx:=hE.leCtx A.sim.pl
 refine ⟨?_,?_,?_,?_,?_⟩
 ·intro o a h
  unfold phiN at h
  split at h
  ·exact A.sim1.pl o a h
  ·exact Nat.lt_of_lt_of_le (A.sim.pl o a h) A.ext.size
 ·intro o ob h
  rcases cases3 o ob h with ⟨hr,e1,e2⟩ | ⟨hr,hK,e1,e2⟩ | ⟨hr,⟨b1,e1,rfl⟩,e2⟩
  ·obtain ⟨b,h1,h2⟩:=A.sim.obj o ob e1
   have hst:=A.still h2.lt (A.not_mutS e1 h1 (region_not e1 hr))
   refine ⟨b,by rw [e2]; exact h1,h2.spot,Nat.lt_of_lt_of_le h2.lt A.ext.size,h2.pos,?_,?_⟩
   ·intro i x hx
    obtain ⟨k0,v,k1,k2,k3⟩:=h2.el i x hx
    refine ⟨k0,v,VRel.mono hctx _ _ k1,k2,fun j u hj=>⟨(k3 j u hj).1,?_⟩⟩
    rw [cell_same (w:=w) (w':=w') (a:=b.add (i * ob.sz + j)) (by rw [add_block]; exact hst)]
    exact (k3 j u hj).2
   ·intro hw
    obtain ⟨c,e,lo,hi,g1,g2⟩:=h2.fr hw
    exact ⟨c,e,lo,hi,by rw [hst]; exact g1,g2⟩
  ·obtain ⟨b,h1,h2⟩:=A.sim1.obj o ob e1
   refine ⟨b,by rw [e2]; exact h1,h2.spot,h2.lt,h2.pos,?_,h2.fr⟩
   intro i x hx
   obtain ⟨k0,v,k1,k2⟩:=h2.el i x hx
   refine ⟨k0,v,VRel.fine hk x v ?_ k1,k2⟩
   obtain ⟨X,hx',hX⟩:=hK
   obtain ⟨_,b',hb',hf⟩:=hX o hx'
   rw [e1] at hb'
   obtain rfl:=Option.some.inj hb'
   have hmono:∀ p,X p→inK H H1 S nx p:=fun p hp=>⟨X,hp,hX⟩
   exact fineV_mono hmono x (hf x (List.mem_of_getElem? hx))
  ·obtain ⟨b,h1,h2⟩:=A.sim1.obj o b1 e1
   exact ⟨b,by rw [e2]; exact h1,h2.spot,h2.lt,h2.pos,fun i x hx=>(by simp at hx),h2.fr⟩
 ·intro o ob p oc b c h1 h2 h3 h4 h5 h6
  have wrp:∀ (q:Id) (x:Obj),region H S nx q→H1 q=some x→x.w=true:=A.wr
  have mix:∀ (o p:Id) (ob oc:Obj) (b c:Addr),¬ region H S nx o→H o=some ob→φ o=some b→region H S nx p→H1 p=some oc→φ' p=some c→b.block≠c.block:=by
   intro o p ob oc b c hr ho hb hp hpo hc e
   obtain ⟨b',g1,g2⟩:=A.sim.obj o ob ho
   rw [hb] at g1
   obtain rfl:=Option.some.inj g1
   have:=A.apart hp hpo hc (by rw [← e]; exact g2.lt)
   rw [← e] at this
   exact A.not_mutS ho hb (region_not ho hr) this
  have inR:∀ (q:Id) (x:Obj),over H H1 S nx q=some x→region H S nx q→∃ y,H1 q=some y∧phiN φ φ' H S nx q=φ' q∧y.w=true:=by
   intro q x hq hr
   rcases cases3 q x hq with ⟨hn,_,_⟩ | ⟨_,_,e1,e2⟩ | ⟨_,⟨b1,e1,rfl⟩,e2⟩
   ·exact (hn hr).elim
   ·exact ⟨x,e1,e2,wrp q x hr e1⟩
   ·exact ⟨b1,e1,e2,wrp q b1 hr e1⟩
  have outR:∀ (q:Id) (x:Obj),over H H1 S nx q=some x→¬ region H S nx q→H q=some x∧phiN φ φ' H S nx q=φ q:=by
   intro q x hq hr
   rcases cases3 q x hq with ⟨_,e1,e2⟩ | ⟨h,_,_,_⟩ | ⟨h,_,_⟩
   ·exact ⟨e1,e2⟩
   ·exact (hr h).elim
   ·exact (hr h).elim
  by_cases hro:region H S nx o
  ·obtain ⟨y,y1,y2,y3⟩:=inR o ob h1 hro
   rw [y2] at h5
   by_cases hrp:region H S nx p
   ·obtain ⟨z,z1,z2,z3⟩:=inR p oc h3 hrp
    rw [z2] at h6
    exact A.sim1.sep o y p z b c y1 y3 z1 h4 h5 h6
   ·obtain ⟨z1,z2⟩:=outR p oc h3 hrp
    rw [z2] at h6
    exact fun e=>mix p o oc y c b hrp z1 h6 hro y1 h5 e.symm
  ·obtain ⟨y1,y2⟩:=outR o ob h1 hro
   rw [y2] at h5
   by_cases hrp:region H S nx p
   ·obtain ⟨z,z1,z2,z3⟩:=inR p oc h3 hrp
    rw [z2] at h6
    exact mix o p ob z b c hro y1 h5 hrp z1 h6
   ·obtain ⟨z1,z2⟩:=outR p oc h3 hrp
    rw [z2] at h6
    exact A.sim.sep o ob p oc b c y1 h2 z1 h4 h5 h6
 ·intro o ob h
  rcases cases3 o ob h with ⟨_,e1,_⟩ | ⟨_,_,e1,_⟩ | ⟨_,⟨b1,e1,rfl⟩,_⟩
  ·exact A.sim.re o ob e1
  ·exact A.sim1.re o ob e1
  ·exact A.sim1.re o b1 e1
 ·intro o ob b k c h1 h2 h3
  rw [hex] at h3
  have key:∀ (y:Obj),region H S nx o→H1 o=some y→φ' o=some b→b.block≠c.block:=by
   intro y hr hy hb e
   have hlt:b.block < w.heap.size:=by rw [e]; exact A.sim.pl _ c h3
   obtain ⟨p,oc,a,_,g2,g3,g4,g5⟩:=A.apart hr hy hb hlt
   exact A.sim.sx p oc a k c g2 g4 h3 (by rw [g5]; exact e)
  rcases cases3 o ob h1 with ⟨hr,e1,e2⟩ | ⟨hr,hK,e1,e2⟩ | ⟨hr,⟨b1,e1,rfl⟩,e2⟩
  ·rw [e2] at h2; exact A.sim.sx o ob b k c e1 h2 h3
  ·rw [e2] at h2; exact key ob hr e1 h2
  ·rw [e2] at h2; exact key b1 hr e1 h2
theorem frzOr_rel (hs:Sim w φ H) {H0':Heap} (hag:∀ id,AgR H0' H id) {x:AV} {v:Value} (hn:NoW H (idsOf H0' 12 x)) (hr:VRel (ctx w φ H) x v):VRel (ctx w φ H) (frzOr H0' x) v:=by
 unfold frzOr
 split
 ·rename_i t ht
  obtain ⟨e1,e2⟩:=frz_ag (H:=H0') (H1:=H) 12 x (fun id _=>hag id)
  exact frz_rel hs 12 x t v (by rw [e2]; exact hn) hr (by rw [e1,ht])
 ·exact hr
theorem sep_rel (hs:Sim w φ H) {H0':Heap} (hag:∀ id,AgR H0' H id):∀ (keep:List Bool) (vs:List AV) (vals:List Value),NoW H (sepRd H0' keep vs)→VTup (ctx w φ H) vs vals→VTup (ctx w φ H) (sepArgs H0' keep vs) vals
 | keep,[],vals,_,hr=>by simpa [sepArgs] using hr
 | _,_ :: _,[],_,hr=>hr.elim
 | [],x :: r,v :: q,hn,hr=>by
  simp only [sepRd] at hn
  exact ⟨frzOr_rel hs hag (fun id hi=>hn id (by simp [hi])) hr.1,sep_rel hs hag [] r q (fun id hi=>hn id (by simp [hi])) hr.2⟩
 | b :: k,x :: r,v :: q,hn,hr=>by
  simp only [sepRd] at hn
  cases b with
  | true=>exact ⟨hr.1,sep_rel hs hag k r q (fun id hi=>hn id (by simp [hi])) hr.2⟩
  | false=>exact ⟨frzOr_rel hs hag (fun id hi=>hn id (by simp [hi])) hr.1,sep_rel hs hag k r q (fun id hi=>hn id (by simp [hi])) hr.2⟩
end
end Go.Am
/- The small machine against Go's: whole calls. -/
namespace Go.Am
variable {P:Program}
theorem callOK_of {T:Tab} (hT:TabOK P T) {n:Nat} (hM:Main P T n):CallOK P T (runF T n):=by
 intro d f vs H nx v H' nx' h
 unfold callOp at h
 split at h
 ·-- it may write
  split at h
  ·rename_i rs H1 nx1 hb
   obtain ⟨rfl,rfl,rfl⟩:=so3 h
   constructor
   ·unfold callB at hb
    split at hb
    ·rename_i F hF; exact hT.callable hF
    ·cases hb
   ·intro w φ vals hs hv
    obtain ⟨_,h2⟩:=callB_sound hT hM hb hs hv
    exact h2
  ·cases h
 ·rename_i keep hmo
  split at h
  ·rename_i hp
   split at h
   ·rename_i rs H1 nx1 hb
    split at h
    ·rename_i hq
     obtain ⟨rfl,rfl,rfl⟩:=so3 h
     constructor
     ·unfold callB at hb
      split at hb
      ·rename_i F hF; exact hT.callable hF
      ·cases hb
     ·intro w φ vals hs hv
      have hlk:=lk_lockL H (sepRd H keep vs)
      have hs2:=hlk.sim hs
      have hsm:∀ o∈reachs H 12 (sepArgs H keep vs),lockL H (sepRd H keep vs) o=H o:=fun o ho=>by rw [lockL_at,if_neg (hp.2 o ho).2]
      have hv2:=VTup.mono ((hlk.ext (w:=w) (φ:=φ)).leCtx hs.pl) _ _ hv
      have hv3:=sep_rel hs2 (fun id=>lockL_ag _ id) keep vs vals (noW_lockL _) hv2
      have hsS:=sim_phiS (S:=reachs H 12 (sepArgs H keep vs)) hs2 (fun o ho b hb'=>(hp.2 o ho).1 b (by rw [← hsm o ho]; exact hb'))
      have hvS:=VTup.inS hs2 _ _ hp.1 hv3
      have hre:restr (lockL H (sepRd H keep vs)) (reachs H 12 (sepArgs H keep vs))=restr H (reachs H 12 (sepArgs H keep vs)):=restr_ag hsm
      rw [hre] at hsS hvS
      obtain ⟨_,h2⟩:=callB_sound hT hM hb hsS hvS
      refine h2.mono ?_
      rintro e w' ⟨v,φ',rfl,h3,h4,h5⟩
      have A:After w w' φ φ' H (lockL H (sepRd H keep vs)) H1 (reachs H 12 (sepArgs H keep vs)) nx:=⟨hs,hlk,hsm,h4,by rw [hre]; exact h5,hq.2⟩
      obtain ⟨a1,a2,a3⟩:=A.done
      exact ⟨v,phiN φ φ' H (reachs H 12 (sepArgs H keep vs)) nx,rfl,fine_tupOf a3 hq.1 h3,a2,a1⟩
    ·cases h
   ·cases h
  ·cases h
 ·split at h
  ·rename_i ts hts
   split at h
   ·rename_i us hus
    have hcall:Callable P f:=by
     unfold callC at hus
     split at hus
     ·rename_i g hg; exact (hT.nat f g hg).1
     ·split at hus
      ·rename_i hb
       unfold callB at hb
       split at hb
       ·rename_i F hF; exact hT.callable hF
       ·cases hb
      ·cases hus
    have key:∀ (w:World) (φ:Id→Option Addr) (vals:List Value),Sim w φ H→VTup (ctx w φ H) vs vals →
      Calls P f vals.toArray w (fun e w'=>∃ x φ' Hc,e = .returned x∧VRel (ctx w' φ' Hc) (tupOf (us.map .c)) x∧Ext w (fence φ (lockL H (idsOfs H 12 vs))) H0 w' φ' Hc):=by
     intro w φ vals hs hv
     have hlk:=lk_lockL H (idsOfs H 12 vs)
     have hs':=hlk.sim hs
     obtain ⟨e1,e2⟩:=frzs_ag (H:=H) (H1:=lockL H (idsOfs H 12 vs)) 12 vs (fun id _=>lockL_ag _ _)
     have hv':=VTup.mono ((hlk.ext (w:=w) (φ:=φ)).leCtx hs.pl) _ _ hv
     have hv2:VTup (ctx w φ (lockL H (idsOfs H 12 vs))) (ts.map .c) vals:=
      frz_tup_rel hs' (n:=12) (by rw [e2]; exact noW_lockL _) hv' (by rw [e1,hts])
     have hv3:VTup (ctx w (fence φ (lockL H (idsOfs H 12 vs))) H0) (ts.map .c) vals:=
      vtup_c (X:=ctx w φ (lockL H (idsOfs H 12 vs))) (by
       show LeMem (imm w φ (lockL H (idsOfs H 12 vs))) (imm w (fence φ (lockL H (idsOfs H 12 vs))) H0)
       rw [fence_imm]; exact fun _ _ h=>h) hv2
     exact (closed_sound hT hM hus (fence_sim hs') hv3).2
    split at h
    ·rename_i hsc
     obtain ⟨rfl,rfl,rfl⟩:=so3 h
     refine ⟨hcall,fun w φ vals hs hv=>(key w φ vals hs hv).mono ?_⟩
     rintro e w' ⟨x,φ',Hc,rfl,h1,h2⟩
     have hg:=fence_grown h2
     obtain ⟨us',g1,g2⟩:=tupOf_rel h1
     exact ⟨x,φ,rfl,g2 _ _ rfl (vtup_scalar hsc g1),hg.sim hs,hg.ext hs⟩
    ·cases h
   ·cases h
  ·split at h
   ·rename_i rs Hc nx1 hb
    split at h
    ·rename_i us hus
     split at h
     ·rename_i hsc
      obtain ⟨rfl,rfl,rfl⟩:=so3 h
      constructor
      ·unfold callB at hb
       split at hb
       ·rename_i F hF; exact hT.callable hF
       ·cases hb
      ·intro w φ vals hs hv
       have hlk:=lk_lockAll H
       have hs':=hlk.sim hs
       have hv':=VTup.mono ((hlk.ext (w:=w) (φ:=φ)).leCtx hs.pl) _ _ hv
       have hargs:∀ (l:List AV) (q:List Value),VTup (ctx w φ (lockAll H)) l q→VTup (ctx w φ (lockAll H)) (l.map (frzOr H)) q:=by
        intro l
        induction l with
        | nil=>intro q h; exact h
        | cons x r ih=>
         intro q h
         cases q with
         | nil=>exact h.elim
         | cons y q=>
          refine ⟨?_,ih q h.2⟩
          unfold frzOr
          split
          ·rename_i t ht
           obtain ⟨e1,e2⟩:=frz_ag (H:=H) (H1:=lockAll H) 12 x (fun id _=>lockAll_ag id)
           exact frz_rel hs' 12 x t y (noW_lockAll _) h.1 (by rw [e1,ht])
          ·exact h.1
       obtain ⟨_,h2⟩:=callB_sound hT hM hb hs' (hargs _ _ hv')
       refine h2.mono ?_
       rintro e w' ⟨x,φ',rfl,h3,h4,h5⟩
       obtain ⟨Hd,g1,g2⟩:=freeze_result h4 h5 h3 hus
       have hg:Grown w w':=by
        refine ⟨h5.os,h5.tape,h5.output,h5.size,fun b hb=>?_⟩
        by_cases hm:Mut φ (lockAll H) b
        ·rcases hm with ⟨o,ob,a,k1,k2,_⟩ | ⟨k,a,k1,rfl⟩
         ·have:=noW_lockAll (H:=H) [o] o (by simp) ob k1
          rw [this] at k2; cases k2
         ·exact h5.exh k a k1
        ·exact h5.fr b hb hm
       obtain ⟨us',k1,k2⟩:=tupOf_rel g1
       exact ⟨x,φ,rfl,k2 _ _ rfl (vtup_scalar hsc k1),hg.sim hs,hg.ext hs⟩
     ·cases h
    ·cases h
   ·cases h
theorem main_all {T:Tab} (hT:TabOK P T):∀ n,Main P T n:=by
 intro n
 induction n using Nat.strongRecOn with
 | _ n ih=>exact main_step hT.mix ih (fun m hm=>callOK_of hT (ih m hm))
theorem sound {T:Tab} (hT:TabOK P T) {f:Nat} {ts us:List TV} (h:callC T (arun T) f ts=some us) {w:World} {φ:Id→Option Addr} {vals:List Value} (hs:Sim w φ H0) (hv:VTup (ctx w φ H0) (ts.map .c) vals) :
  Calls P f vals.toArray w (fun e w'=>∃ v φ' Hc,e = .returned v∧VRel (ctx w' φ' Hc) (tupOf (us.map .c)) v∧Ext w φ H0 w' φ' Hc):=by
 obtain ⟨n,hn⟩:=callC_cont h
 exact (closed_sound hT (main_all hT n) hn hs hv).2
end Go.Am
/- A function that runs in another's place: its text,and what an operation of it does there. -/
namespace Go.Am
def shO (k:Nat):Opd→Opd
 | .t n=>.t (n + k)
 | .k v=>.k v
def shOo (k:Nat):Option Opd→Option Opd
 | some x=>some (shO k x)
 | none=>none
def shD (k:Nat):Option Nat→Option Nat
 | some t=>some (t + k)
 | none=>none
def shG (k:Nat):Option (Nat×Bool)→Option (Nat×Bool)
 | some (t,b)=>some (t + k,b)
 | none=>none
def shP (k:Nat):AOp→AOp
 | .mov x=>.mov (shO k x)
 | .pick c a b=>.pick (shO k c) (shO k a) (shO k b)
 | .nilc x=>.nilc (shO k x)
 | .alloc z=>.alloc z
 | .box x=>.box (shO k x)
 | .build z ps=>.build z (ps.map fun p=>(p.1,p.2.1,shO k p.2.2))
 | .bslice sz l=>.bslice sz (l.map (shO k))
 | .bsliceD sz l=>.bsliceD sz (l.map (shO k))
 | .load ag n a=>.load ag n (shO k a)
 | .store n a x=>.store n (shO k a) (shO k x)
 | .bin op x y=>.bin op (shO k x) (shO k y)
 | .binB op x y=>.binB op (shO k x) (shO k y)
 | .binS ng ls x y=>.binS ng ls (shO k x) (shO k y)
 | .un op x=>.un op (shO k x)
 | .conv kd x=>.conv kd (shO k x)
 | .same x=>.same (shO k x)
 | .b2s x=>.b2s (shO k x)
 | .s2b x=>.s2b (shO k x)
 | .mkfn f l=>.mkfn f (l.map (shO k))
 | .mksl sz z n=>.mksl sz z (shO k n)
 | .slice sz x a b c=>.slice sz (shO k x) (shOo k a) (shOo k b) (shOo k c)
 | .faddr x off=>.faddr (shO k x) off
 | .field x off n ag=>.field (shO k x) off n ag
 | .iaddr sz x i=>.iaddr sz (shO k x) (shO k i)
 | .index x i=>.index (shO k x) (shO k i)
 | .len s x=>.len s (shO k x)
 | .append sz x y=>.append sz (shO k x) (shO k y)
 | .copy sz x y=>.copy sz (shO k x) (shO k y)
 | .clear z x=>.clear z (shO k x)
 | .minmax m l=>.minmax m (l.map (shO k))
 | .extract x i=>.extract (shO k x) i
 | .call f l=>.call f (l.map (shO k))
 | .callv f l=>.callv (shO k f) (l.map (shO k))
 | .caps x g m i=>.caps (shO k x) g m i
 | .tupl l=>.tupl (l.map (shO k))
def shA (k:Nat) (o:AOper):AOper:=⟨shD k o.dst,shG k o.guard,shP k o.op⟩
structure InlX where
 M:Nat→Bool
 fn:Nat→Option AFn
abbrev Clo:=List (Nat×Nat)
def cloG:Clo→Nat→Option Nat
 | [],_=>none
 | (a,g) :: r,t=>match Nat.beq a t with | true=>some g | false=>cloG r t
def cloV (cl:Clo):Opd→Option Nat
 | .t n=>cloG cl n
 | .k (.fn g [])=>some g
 | .k _=>none
def cloO (cl:Clo) (o:AOper):Clo:=match o.dst,o.op with
 | some t,.mkfn g _=>(t,g) :: cl
 | some t,.mov x=>(match cloV cl x with | some g=>(t,g) :: cl | none=>cl)
 | some t,.nilc x=>(match cloV cl x with | some g=>(t,g) :: cl | none=>cl)
 | _,_=>cl
def cloL:Clo→List AOper→Clo
 | cl,[]=>cl
 | cl,o :: r=>cloL (cloO cl o) r
def cloC:Clo→AC→Clo
 | cl,.ops l=>cloL cl l
 | cl,.opsU _ l _=>cloL cl l
 | cl,.seq a b=>cloC (cloC cl a) b
 | cl,.cond _ a b=>cloC (cloC cl a) b
 | cl,.block _ b=>cloC cl b
 | cl,.loop b=>cloC cl b
 | cl,_=>cl
def cloA (cl:Clo):Nat→List Opd→Clo
 | _,[]=>[]
 | n,x :: r=>match cloV cl x with | some g=>(n,g) :: cloA cl (n + 1) r | none=>cloA cl (n + 1) r
def ltO (n:Nat) (o:AOper):Bool:=(looksO o).all (fun t=>Nat.blt t n) && (match o.dst with | some t=>Nat.blt t n | none=>true)
def wfC (n:Nat):AC→Bool
 | .skip | .ret=>true
 | .ops l=>l.all (ltO n)
 | .opsU fs l _=>fs.isEmpty && l.all (ltO n)
 | .seq a b=>wfC n a && wfC n b
 | .cond c a b=>c.tmps.all (fun t=>Nat.blt t n) && (wfC n a && wfC n b)
 | .block i b=>!Nat.beq i RB && wfC n b
 | .loop b=>wfC n b
 | .exit i=>!Nat.beq i RB
 | .enter _ _ _=>false
def resO (n k:Nat):List ARes→Option (List Opd)
 | []=>some []
 | .tmp t :: r=>match Nat.blt t n,resO n k r with | true,some l=>some (.t (t + k) :: l) | _,_=>none
 | .cell _ _ _ :: _=>none
def wfF (F:AFn):Bool:=wfC F.ntmps F.body && (Nat.ble F.np F.ntmps && Nat.ble F.ntmps 65536)
def capsO (x:Opd) (g m at_:Nat):Nat→Nat→List AOper
 | _,0=>[⟨none,none,.caps x g m m⟩]
 | i,n + 1=>⟨some (at_ + i),none,.caps x g m i⟩ :: capsO x g m at_ (i + 1) n
def inlB (X:InlX) (go:Nat→Clo→AC→AC) (j:Nat) (cl:Clo) (dst:Option Nat) (f:Nat) (args:List Opd) (mid:AFn→List AOper) (np:AFn→Bool):Option AC:=
 match X.M f,X.fn f with
 | true,some F=>match wfF F && (np F && Nat.blt j 7),resO F.ntmps (65536 * (j + 1)) F.res with
  | true,some rs=>some (.seq (.enter (65536 * (j + 1)) F.ntmps (args.map (shO (65536 * j)))) (.seq (.ops (mid F)) (.seq (.block RB (go (j + 1) (cloC (cloA cl 0 args) F.body) F.body)) (.ops [⟨shD (65536 * j) dst,none,.tupl rs⟩]))))
  | _,_=>none
 | _,_=>none
def inlO (X:InlX) (go:Nat→Clo→AC→AC) (j:Nat) (cl:Clo) (o:AOper):Option AC:=
 match o.guard,o.op with
 | none,.call f args=>inlB X go j cl o.dst f args (fun _=>[]) (fun F=>Nat.beq args.length F.np)
 | none,.callv x args=>match cloV cl x with
  | some g=>inlB X go j cl o.dst g args (fun F=>capsO (shO (65536 * j) x) g (F.np - args.length) (65536 * (j + 1) + args.length) 0 (F.np - args.length)) (fun F=>Nat.ble args.length F.np)
  | none=>none
 | _,_=>none
def inlL (X:InlX) (go:Nat→Clo→AC→AC) (j:Nat) (cl:Clo):List AOper→AC
 | []=>.ops []
 | o :: r=>match inlO X go j cl o with
  | some c=>.seq c (inlL X go j cl r)
  | none=>.seq (.ops [shA (65536 * j) o]) (inlL X go j cl r)
def inlC (X:InlX) (go:Nat→Clo→AC→AC) (j:Nat) (cl:Clo):AC→AC
 | .skip=>.skip
 | .ops l=>if l.any (fun o=>(inlO X go j cl o).isSome) then inlL X go j cl l else .ops (l.map (shA (65536 * j)))
 | .opsU fs l prs=>.opsU fs (l.map (shA (65536 * j))) prs
 | .seq a b=>.seq (inlC X go j cl a) (inlC X go j cl b)
 | .cond c a b=>.cond (shO (65536 * j) c) (inlC X go j cl a) (inlC X go j cl b)
 | .block i b=>.block i (inlC X go j cl b)
 | .loop b=>.loop (inlC X go j cl b)
 | .exit i=>.exit i
 | .ret=>if Nat.beq j 0 then .ret else .exit RB
 | .enter a b c=>.enter a b c
def inlN (X:InlX):Nat→Nat→Clo→AC→AC
 | 0=>fun j cl=>inlC ⟨fun _=>false,fun _=>none⟩ (fun _ _ c=>c) j cl
 | m + 1=>fun j cl=>inlC X (inlN X m) j cl
def inlF (X:InlX) (F:AFn):AFn:=⟨F.np,F.ntmps,F.res,inlN X 8 0 (cloC [] F.body) F.body⟩
def fnL:List (Nat×AFn)→Nat→Option AFn
 | [],_=>none
 | (a,v) :: r,t=>match Nat.beq a t with | true=>some v | false=>fnL r t
def memN:List Nat→Nat→Bool
 | [],_=>false
 | a :: r,t=>match Nat.beq a t with | true=>true | false=>memN r t
section
variable {E Ê:AEnv} {k:Nat}
theorem ev_sh {x:Opd} (h:∀ t,t∈x.tmps→Ê (t + k)=E t):ev Ê (shO k x)=ev E x:=by
 cases x with
 | t n=>exact h n (by simp [Opd.tmps])
 | k v=>rfl
theorem evs_sh {l:List Opd} (h:∀ t,t∈l.flatMap Opd.tmps→Ê (t + k)=E t):(l.map (shO k)).map (ev Ê)=l.map (ev E):=by
 rw [List.map_map]
 refine List.map_congr_left fun x hx=>ev_sh fun t ht=>h t ?_
 exact List.mem_flatMap.2 ⟨x,hx,ht⟩
theorem optI_sh {x:Option Opd} (h:∀ t,t∈oTmps x→Ê (t + k)=E t):optI Ê (shOo k x)=optI E x:=by
 cases x with
 | none=>rfl
 | some y=>simp only [optI,shOo,ev_sh (x:=y) h]
theorem sid_sh {d j t:Nat} (hj:j < 8):sid (8 * d) (t + 65536 * j)=sid (8 * d + j) t:=by
 unfold sid
 congr 1 <;> omega
def isCall:AOp→Bool
 | .call _ _ | .callv _ _=>true
 | _=>false
theorem operV_sh {T T':Tab} {R R':Run} {d j:Nat} {dst:Option Nat} {H:Heap} {nx:Nat} {o:AOp} (hj:j < 8) (h:∀ t,t∈looks o→Ê (t + 65536 * j)=E t) (hc:isCall o=false) :
  operV T' R' (8 * d) (shD (65536 * j) dst) Ê H nx (shP (65536 * j) o)=operV T R (8 * d + j) dst E H nx o:=by
 cases o
 case call=>cases hc
 case callv=>cases hc
 case build z ps=>
  have:((ps.map fun p=>(p.1,p.2.1,shO (65536 * j) p.2.2)).map fun p=>(p.1,p.2.1,ev Ê p.2.2))=(ps.map fun p=>(p.1,p.2.1,ev E p.2.2)):=by
   rw [List.map_map]
   refine List.map_congr_left fun p hp=>?_
   simp only [Function.comp]
   rw [ev_sh (x:=p.2.2) fun t ht=>h t (List.mem_flatMap.2 ⟨p,hp,ht⟩)]
  simp only [operV,shP,this]
 case slice sz x a b c=>
  simp only [looks,List.mem_append] at h
  have h1:=ev_sh (E:=E) (Ê:=Ê) (x:=x) fun t ht=>h t (.inl ht)
  have h2:=optI_sh (E:=E) (Ê:=Ê) (x:=a) fun t ht=>h t (.inr (.inl ht))
  have h3:=optI_sh (E:=E) (Ê:=Ê) (x:=b) fun t ht=>h t (.inr (.inr (.inl ht)))
  have h4:=optI_sh (E:=E) (Ê:=Ê) (x:=c) fun t ht=>h t (.inr (.inr (.inr ht)))
  simp only [operV,shP,h1,h2,h3,h4]
 case pick x a b=>
  simp only [looks,List.mem_append] at h
  have h1:=ev_sh (E:=E) (Ê:=Ê) (x:=x) fun t ht=>h t (.inl ht)
  have h2:=ev_sh (E:=E) (Ê:=Ê) (x:=a) fun t ht=>h t (.inr (.inl ht))
  have h3:=ev_sh (E:=E) (Ê:=Ê) (x:=b) fun t ht=>h t (.inr (.inr ht))
  simp only [operV,shP,h1,h2,h3]
 case alloc z=>cases dst <;> simp only [operV,shP,shD,sid_sh hj]
 case box x=>
  have h1:=ev_sh (E:=E) (Ê:=Ê) h
  cases dst <;> simp only [operV,shP,shD,sid_sh hj,h1]
 case bslice sz l=>
  have h1:=evs_sh (E:=E) (Ê:=Ê) (l:=l) h
  cases dst with
  | none=>simp only [operV,shP,shD]
  | some t=>simp only [operV,shP,shD,sid_sh hj,h1,List.length_map]
 case bsliceD sz l=>simp only [operV,shP,evs_sh (E:=E) (Ê:=Ê) (l:=l) h,List.length_map]
 case mkfn f l=>simp only [operV,shP,evs_sh (E:=E) (Ê:=Ê) (l:=l) h]
 case minmax m l=>simp only [operV,shP,evs_sh (E:=E) (Ê:=Ê) (l:=l) h]
 case tupl l=>simp only [operV,shP,evs_sh (E:=E) (Ê:=Ê) (l:=l) h]
 case store | bin | binB | binS | iaddr | index | append | copy=>
  rename_i x y
  simp only [looks,List.mem_append] at h
  have h1:=ev_sh (E:=E) (Ê:=Ê) (x:=x) fun t ht=>h t (.inl ht)
  have h2:=ev_sh (E:=E) (Ê:=Ê) (x:=y) fun t ht=>h t (.inr ht)
  simp only [operV,shP,h1,h2]
 all_goals simp only [operV,shP,ev_sh (E:=E) (Ê:=Ê) h]
end
end Go.Am
/- A function that runs in another's place comes to what it comes to in its own. -/
namespace Go.Am
section
variable {T:Tab} {n d:Nat} {K:List It} {s r:St}
theorem rs_seq {a b:AC} (h:runF T n d (.code (.seq a b) :: K) s=some r):∃ m,m < n∧runF T m d (.code a :: .code b :: K) s=some r:=by
 cases n with
 | zero=>simp [runF] at h
 | succ n=>exact ⟨n,by omega,by simpa only [runF] using h⟩
theorem rs_enter {off k:Nat} {args:List Opd} (h:runF T n d (.code (.enter off k args) :: K) s=some r):∃ m,m < n∧runF T m d K ⟨enterE s.E off k (args.map (ev s.E)),s.H,s.nx⟩=some r:=by
 cases n with
 | zero=>simp [runF] at h
 | succ n=>exact ⟨n,by omega,by simpa only [runF] using h⟩
theorem rs_block {i:Nat} {b:AC} (h:runF T n d (.code (.block i b) :: K) s=some r):∃ m,m < n∧runF T m d (.code b :: .blk i :: K) s=some r:=by
 cases n with
 | zero=>simp [runF] at h
 | succ n=>exact ⟨n,by omega,by simpa only [runF] using h⟩
theorem rs_ops0 (h:runF T n d (.code (.ops []) :: K) s=some r):∃ m,m < n∧runF T m d K s=some r:=by
 cases n with
 | zero=>simp [runF] at h
 | succ n=>exact ⟨n,by omega,by simpa only [runF] using h⟩
theorem rs_op {o:AOper} {l:List AOper} (h:runF T n d (.code (.ops (o :: l)) :: K) s=some r):∃ m s',m < n∧operF T (runF T m) d o s=some s'∧runF T m d (.code (.ops l) :: K) s'=some r:=by
 cases n with
 | zero=>simp [runF] at h
 | succ n=>
  simp only [runF] at h
  split at h
  ·rename_i s' hs
   exact ⟨n,s',by omega,hs,h⟩
  ·cases h
theorem rs_blk {i:Nat} (h:runF T n d (.blk i :: K) s=some r):∃ m,m < n∧runF T m d K s=some r:=by
 cases n with
 | zero=>simp [runF] at h
 | succ n=>exact ⟨n,by omega,by simpa only [runF] using h⟩
end
structure Pend where
 res:List ARes
 dst:Option Nat
 K:List It
 E:AEnv
 Y:InlX
 go:Nat→Clo→AC→AC
 cl:Clo
 nt:Nat
noncomputable def InFin (T:Tab) (d:Nat):List Pend→List It→St→Option St
 | [],K,s=>arun T (8 * d) K s
 | p :: ps,K,s=>match arun T (8 * d + (ps.length + 1)) K s with
  | some s1=>(match resV s1.E s1.H p.res with
   | some rs=>InFin T d ps p.K ⟨updO p.E p.dst (tupOf rs),s1.H,s1.nx⟩
   | none=>none)
  | none=>none
theorem InFin_congr {T:Tab} {d:Nat} {ps:List Pend} {K K2:List It} {s s2:St} (h:arun T (8 * d + ps.length) K s=arun T (8 * d + ps.length) K2 s2):InFin T d ps K s=InFin T d ps K2 s2:=by
 cases ps with
 | nil=>simpa [InFin] using h
 | cons p ps=>simp only [List.length_cons] at h; simp only [InFin,h]
def InFr (X Y:InlX) (go:Nat→Clo→AC→AC):Prop:=(Y=X∧∃ m,go=inlN X m)∨∀ f,Y.M f=false
theorem fr_of (X:InlX):∀ m,∃ Y go,InFr X Y go∧inlN X m=fun j cl=>inlC Y go j cl
 | 0=>⟨_,_,.inr fun _=>rfl,rfl⟩
 | m + 1=>⟨X,inlN X m,.inl ⟨rfl,m,rfl⟩,rfl⟩
inductive InIt (Y:InlX) (go:Nat→Clo→AC→AC) (j:Nat) (cl:Clo) (nt:Nat):It→It→Prop
 | code {c:AC}:wfC nt c=true→InIt Y go j cl nt (.code (inlC Y go j cl c)) (.code c)
 | opsA {l:List AOper}:l.all (ltO nt)=true→InIt Y go j cl nt (.code (.ops (l.map (shA (65536 * j))))) (.code (.ops l))
 | opsB {l:List AOper}:l.all (ltO nt)=true→InIt Y go j cl nt (.code (inlL Y go j cl l)) (.code (.ops l))
 | opsU {fs:List Foot} {l:List AOper} {prs:List (Nat×Nat)}:l.all (ltO nt)=true→InIt Y go j cl nt (.code (.opsU fs (l.map (shA (65536 * j))) prs)) (.code (.opsU fs l prs))
 | blk {i:Nat}:i≠RB→InIt Y go j cl nt (.blk i) (.blk i)
 | lp {b:AC}:wfC nt b=true→InIt Y go j cl nt (.lp (inlC Y go j cl b)) (.lp b)
def ltD (n:Nat):Option Nat→Prop
 | some t=>t < n
 | none=>True
inductive InSR (X:InlX):List Pend→InlX→(Nat→Clo→AC→AC)→Clo→Nat→List It→List It→Prop
 | nil {Y go cl nt}:InSR X [] Y go cl nt [] []
 | pop {p:Pend} {ps:List Pend} {Y go cl nt} {rs:List Opd} {K':List It}:resO nt (65536 * (ps.length + 1)) p.res=some rs→InFr X p.Y p.go→ltD p.nt p.dst →
   InSR X ps p.Y p.go p.cl p.nt p.K K'→InSR X (p :: ps) Y go cl nt [] (.blk RB :: .code (.ops [⟨shD (65536 * ps.length) p.dst,none,.tupl rs⟩]) :: K')
 | cons {ps Y go cl nt} {i i':It} {K K':List It}:InIt Y go ps.length cl nt i' i→InSR X ps Y go cl nt K K'→InSR X ps Y go cl nt (i :: K) (i' :: K')
theorem InSR.unw {X:InlX} {ps:List Pend} {Y:InlX} {go:Nat→Clo→AC→AC} {cl:Clo} {nt:Nat} {K K':List It} (h:InSR X ps Y go cl nt K K') {i:Nat} (hi:i≠RB):∀ {K2':List It},unwind i K'=some K2'→∃ K2,unwind i K=some K2∧InSR X ps Y go cl nt K2 K2':=by
 induction h with
 | nil=>intro K2' h; cases h
 | pop _ _ _ _ _=>
  intro K2' h
  simp only [unwind] at h
  rw [if_neg (Ne.symm hi)] at h
  simp at h
 | cons hit hk ih=>
  intro K2' h
  cases hit with
  | blk hb=>
   simp only [unwind] at h ⊢
   split at h
   ·rename_i e
    cases h
    exact ⟨_,by rw [if_pos e],hk⟩
   ·rename_i e
    try rw [if_neg hb] at h
    obtain ⟨K2,h1,h2⟩:=ih h
    exact ⟨K2,by rw [if_neg e,if_neg hb]; exact h1,h2⟩
  | _=>
   simp only [unwind] at h
   obtain ⟨K2,h1,h2⟩:=ih h
   exact ⟨K2,by simp only [unwind]; exact h1,h2⟩
theorem InSR.unwR {X:InlX} {qs:List Pend} {Y:InlX} {go:Nat→Clo→AC→AC} {cl:Clo} {nt:Nat} {K K':List It} (h:InSR X qs Y go cl nt K K'):∀ {K2':List It},unwind RB K'=some K2' →
  ∃ p ps rs K3,qs=p :: ps∧K2' = .code (.ops [⟨shD (65536 * ps.length) p.dst,none,.tupl rs⟩]) :: K3∧resO nt (65536 * (ps.length + 1)) p.res=some rs∧InFr X p.Y p.go∧ltD p.nt p.dst∧InSR X ps p.Y p.go p.cl p.nt p.K K3:=by
 induction h with
 | nil=>intro K2' h; cases h
 | @pop p ps Y go cl nt rs K' h1 h2 h3 h4 _=>
  intro K2' h
  simp only [unwind] at h
  simp at h
  subst h
  exact ⟨p,ps,rs,K',rfl,rfl,h1,h2,h3,h4⟩
 | cons hit hk ih=>
  intro K2' h
  cases hit with
  | blk hb=>
   simp only [unwind] at h
   rw [if_neg hb,if_neg hb] at h
   exact ih h
  | _=>
   simp only [unwind] at h
   exact ih h
def EnvR:List Pend→Nat→AEnv→AEnv→Prop
 | [],nt,E,Ê=>nt≤65536∧∀ t,t < nt→Ê t=E t
 | p :: ps,nt,E,Ê=>(nt≤65536∧∀ t,t < nt→Ê (t + 65536 * (ps.length + 1))=E t)∧EnvR ps p.nt p.E Ê
theorem EnvR.top:∀ {ps:List Pend} {nt:Nat} {E Ê:AEnv},EnvR ps nt E Ê→nt≤65536∧∀ t,t < nt→Ê (t + 65536 * ps.length)=E t
 | [],_,_,_,h=>⟨h.1,fun t ht=>by simpa using h.2 t ht⟩
 | _ :: _,_,_,_,h=>h.1
theorem EnvR.congr:∀ {ps:List Pend} {nt:Nat} {E Ê Ê':AEnv},(∀ u,u < 65536 * (ps.length + 1)→Ê' u=Ê u)→EnvR ps nt E Ê→EnvR ps nt E Ê'
 | [],_,_,_,_,hc,h=>⟨h.1,fun t ht=>(hc t (by have:=h.1; simp; omega)).trans (h.2 t ht)⟩
 | p :: ps,_,_,_,_,hc,h=>⟨⟨h.1.1,fun t ht=>(hc _ (by have:=h.1.1; simp only [List.length_cons]; omega)).trans (h.1.2 t ht)⟩,EnvR.congr (fun u hu=>hc u (by simp only [List.length_cons]; omega)) h.2⟩
theorem EnvR.set:∀ {ps:List Pend} {nt:Nat} {E Ê:AEnv} {t:Nat} {v:AV},EnvR ps nt E Ê→t < nt→EnvR ps nt (upd E t v) (upd Ê (t + 65536 * ps.length) v)
 | [],nt,E,Ê,t,v,h,ht=>⟨h.1,fun u hu=>by
   simp only [upd,List.length_nil,Nat.mul_zero,Nat.add_zero]
   split
   ·rfl
   ·exact h.2 u hu⟩
 | p :: ps,nt,E,Ê,t,v,h,ht=>⟨⟨h.1.1,fun u hu=>by
   simp only [upd,List.length_cons]
   by_cases e:u=t
   ·subst e; simp
   ·rw [if_neg (by omega),if_neg e]; exact h.1.2 u hu⟩,
   EnvR.congr (fun u hu=>by simp only [upd,List.length_cons]; rw [if_neg (by omega)]) h.2⟩
theorem EnvR.setO {ps:List Pend} {nt:Nat} {E Ê:AEnv} {dst:Option Nat} {v:AV} (h:EnvR ps nt E Ê) (hd:ltD nt dst):EnvR ps nt (updO E dst v) (updO Ê (shD (65536 * ps.length) dst) v):=by
 cases dst with
 | none=>exact h
 | some t=>exact h.set hd
def bot:List Pend→Nat→Nat
 | [],nt=>nt
 | p :: ps,_=>bot ps p.nt
def wfR (F:AFn):Bool:=F.res.all fun r=>match r with | .tmp t=>Nat.blt t F.ntmps | .cell t _ _=>Nat.blt t F.ntmps
structure InlOK (X:InlX) (T T':Tab):Prop where
 fnS:∀ f F',T'.fn f=some F'→X.M f=false∧∃ F,T.fn f=some F∧F'=inlF X F∧wfF F=true∧wfR F=true
 fnM:∀ f F,X.M f=true→X.fn f=some F→T.fn f=some F∧T.mode f = .mu
 gone:∀ f,X.M f=true→T'.mode f = .fz∧T'.fn f=none∧T'.nat f=none
 same:∀ f,X.M f=false→T'.mode f=T.mode f∧T'.nat f=T.nat f∧T.mode f ≠ .mu
def CaIH (T T':Tab) (n:Nat):Prop:=∀ e f args H nx x,callB T' (runF T' n) (8 * e) f args H nx=some x→callB T (arun T) (8 * e) f args H nx=some x
section
variable {X:InlX} {T T':Tab} {n d j:Nat}
theorem nxd_mul {d j:Nat} (hj:j < 8):nxd (8 * d + j)=8 * (d + 1):=by unfold nxd; omega
theorem callOp_sh (hX:InlOK X T T') (hi:CaIH T T' n) (hj:j < 8) {f:Nat} {vs:List AV} {H:Heap} {nx:Nat} {x:AV×Heap×Nat} (h:callOp T' (runF T' n) (8 * d) f vs H nx=some x) :
  X.M f=false∧callOp T (arun T) (8 * d + j) f vs H nx=some x:=by
 cases hM:X.M f with
 | true=>
  exfalso
  obtain ⟨g1,g2,g3⟩:=hX.gone f hM
  unfold callOp at h
  rw [g1] at h
  simp only [callC,callB,g2,g3] at h
  split at h <;> simp at h
 | false=>
  refine ⟨rfl,?_⟩
  obtain ⟨s1,s2,s3⟩:=hX.same f hM
  unfold callOp at h ⊢
  rw [s1] at h
  have n0:nxd (8 * d)=8 * (d + 1):=nxd_mul (j:=0) (by omega)
  rw [nxd_mul hj]
  rw [n0] at h
  cases hm:T.mode f with
  | mu=>exact (s3 hm).elim
  | sep keep=>
   rw [hm] at h
   simp only at h ⊢
   split at h
   ·rename_i hp
    rw [if_pos hp]
    split at h
    ·rename_i rs H1 nx' hb
     rw [hi _ _ _ _ _ _ hb]
     exact h
    ·cases h
   ·cases h
  | fz=>
   rw [hm] at h
   simp only at h ⊢
   split at h
   ·rename_i ts hts
    split at h
    ·rename_i us hus
     have:callC T (arun T) f ts=some us:=by
      unfold callC at hus ⊢
      rw [s2] at hus
      split at hus
      ·exact hus
      ·split at hus
       ·rename_i rs H1 nx1 hb
        have hb:callB T' (runF T' n) (8 * 0) f (ts.map .c) Go.Am.H0 0=some (rs,H1,nx1):=hb
        have:=hi _ _ _ _ _ _ hb
        rw [show (0:Nat)=8 * 0 from rfl,this]
        exact hus
       ·cases hus
     rw [this]
     exact h
    ·cases h
   ·split at h
    ·rename_i rs H1 nx1 hb
     rw [hi _ _ _ _ _ _ hb]
     exact h
    ·cases h
theorem wantedA_sh {E Ê:AEnv} {k:Nat} {g:Option (Nat×Bool)} (h:∀ t b,g=some (t,b)→Ê (t + k)=E t):wantedA Ê (shG k g)=wantedA E g:=by
 cases g with
 | none=>rfl
 | some p=>obtain ⟨t,b⟩:=p; simp only [wantedA,shG,h t b rfl]
theorem footCall_sh {f:Nat} {vs:List AV} {H:Heap} {nx:Nat} (h:T'.mode f=T.mode f):footCall T' f vs H nx=footCall T f vs H nx:=by
 unfold footCall; rw [h]
theorem operF_sh (hX:InlOK X T T') (hi:CaIH T T' n) {ps:List Pend} {nt:Nat} {E Ê:AEnv} {H:Heap} {nx:Nat} (hj:ps.length < 8) (he:EnvR ps nt E Ê) {o:AOper} (ho:ltO nt o=true) {s':St}
  (h:operF T' (runF T' n) (8 * d) (shA (65536 * ps.length) o) ⟨Ê,H,nx⟩=some s') :
  ∃ E1,operF T (arun T) (8 * d + ps.length) o ⟨E,H,nx⟩=some ⟨E1,s'.H,s'.nx⟩∧EnvR ps nt E1 s'.E∧footO T' (8 * d) (shA (65536 * ps.length) o) ⟨Ê,H,nx⟩=footO T (8 * d + ps.length) o ⟨E,H,nx⟩:=by
 obtain ⟨ht1,ht2⟩:=he.top
 unfold ltO at ho
 simp only [Bool.and_eq_true,List.all_eq_true] at ho
 have hl:∀ t,t∈looksO o→Ê (t + 65536 * ps.length)=E t:=fun t ht=>ht2 t (Nat.le_of_ble_eq_true (ho.1 t ht))
 have hd:ltD nt o.dst:=by
  have:=ho.2
  cases hdst:o.dst with
  | none=>trivial
  | some t=>rw [hdst] at this; exact Nat.le_of_ble_eq_true this
 have hg:wantedA Ê (shG (65536 * ps.length) o.guard)=wantedA E o.guard:=wantedA_sh fun t b e=>hl t (by unfold looksO; rw [e]; simp)
 have hlo:∀ t,t∈looks o.op→Ê (t + 65536 * ps.length)=E t:=fun t ht=>hl t (by unfold looksO; exact List.mem_append_right _ ht)
 have hfz:∀ (hc:isCall o.op=false),foot T' (8 * d) (shD (65536 * ps.length) o.dst) Ê H nx (shP (65536 * ps.length) o.op)=foot T (8 * d + ps.length) o.dst E H nx o.op:=by
  intro hc
  cases hop:o.op
  all_goals (rw [hop] at hlo hc)
  case call=>cases hc
  case callv=>cases hc
  case alloc z=>cases o.dst <;> simp only [foot,shP,shD,sid_sh hj]
  case box x=>cases o.dst <;> simp only [foot,shP,shD,sid_sh hj]
  case bslice sz l=>cases o.dst <;> simp only [foot,shP,shD,sid_sh hj]
  case load | store | iaddr | append | copy=>
   simp only [looks,List.mem_append] at hlo
   simp only [foot,shP]
   repeat rw [ev_sh (E:=E) (Ê:=Ê)]
   all_goals (intro t ht; exact hlo t (by simp [ht]))
  case slice sz x a b c=>
   simp only [looks,List.mem_append] at hlo
   simp only [foot,shP]
   rw [ev_sh (E:=E) (Ê:=Ê) fun t ht=>hlo t (.inl ht)]
  case b2s x=>simp only [foot,shP]; rw [ev_sh (E:=E) (Ê:=Ê) hlo]
  case clear z x=>simp only [foot,shP]; rw [ev_sh (E:=E) (Ê:=Ê) hlo]
  all_goals rfl
 unfold operF at h ⊢
 unfold footO
 simp only [shA] at h ⊢
 rw [hg] at h
 split at h
 ·rename_i hw
  rw [hg]
  simp only [hw]
  split at h
  ·rename_i v H1 nx1 hv
   cases h
   cases hc:isCall o.op with
   | false=>
    rw [operV_sh (T:=T) (R:=arun T) (E:=E) hj hlo hc] at hv
    exact ⟨updO E o.dst v,by rw [hv],he.setO hd,hfz hc⟩
   | true=>
    cases hop:o.op
    all_goals (rw [hop] at hc hlo hv)
    case call f args=>
     simp only [operV,shP] at hv ⊢
     rw [evs_sh (E:=E) (Ê:=Ê) hlo] at hv
     obtain ⟨c1,c2⟩:=callOp_sh (j:=ps.length) hX hi hj hv
     refine ⟨updO E o.dst v,by rw [c2],he.setO hd,?_⟩
     simp only [foot]
     rw [evs_sh (E:=E) (Ê:=Ê) hlo,footCall_sh (hX.same f c1).1]
    case callv x args=>
     simp only [looks,List.mem_append] at hlo
     simp only [operV,shP] at hv ⊢
     rw [ev_sh (E:=E) (Ê:=Ê) (x:=x) fun t ht=>hlo t (.inl ht)] at hv
     split at hv
     ·rename_i g caps hx
      rw [evs_sh (E:=E) (Ê:=Ê) fun t ht=>hlo t (.inr ht)] at hv
      obtain ⟨c1,c2⟩:=callOp_sh (j:=ps.length) hX hi hj hv
      refine ⟨updO E o.dst v,by simp only [hx,c2],he.setO hd,?_⟩
      simp only [foot]
      rw [ev_sh (E:=E) (Ê:=Ê) (x:=x) fun t ht=>hlo t (.inl ht),hx]
      simp only
      rw [evs_sh (E:=E) (Ê:=Ê) fun t ht=>hlo t (.inr ht),footCall_sh (hX.same g c1).1]
     ·cases hv
    all_goals cases hc
  ·cases h
 ·rename_i hw
  cases h
  rw [hg]
  simp only [hw]
  exact ⟨updO E o.dst (.tup []),rfl,he.setO hd,trivial⟩
 ·cases h
theorem resO_ok {nt k:Nat} {E Ê:AEnv} {H:Heap} (h:∀ t,t < nt→Ê (t + k)=E t):∀ {res:List ARes} {os:List Opd},resO nt k res=some os→resV E H res=some (os.map (ev Ê))
 | [],os,e=>by simp only [resO] at e; cases e; rfl
 | .tmp t :: r,os,e=>by
  simp only [resO] at e
  split at e
  ·rename_i l hl hr
   cases e
   simp only [resV,resO_ok h hr,List.map_cons,ev]
   rw [h t (Nat.le_of_ble_eq_true hl)]
  ·cases e
 | .cell _ _ _ :: r,os,e=>by simp only [resO] at e; cases e
theorem sim_pop (hsim:∀ m,m < n→∀ (ps:List Pend) (Y:InlX) (go:Nat→Clo→AC→AC) (cl:Clo) (nt:Nat) (K K':List It) (E Ê:AEnv) (H:Heap) (nx:Nat) (r':St),InFr X Y go→InSR X ps Y go cl nt K K'→EnvR ps nt E Ê→ps.length < 8→runF T' m (8 * d) K' ⟨Ê,H,nx⟩=some r' →
   ∃ r,InFin T d ps K ⟨E,H,nx⟩=some r∧r.H=r'.H∧r.nx=r'.nx∧∀ t,t < bot ps nt→r.E t=r'.E t)
  {p:Pend} {ps:List Pend} {nt:Nat} {rs:List Opd} {K3:List It} {E Ê:AEnv} {H:Heap} {nx:Nat} {r':St} (h1:resO nt (65536 * (ps.length + 1)) p.res=some rs) (h2:InFr X p.Y p.go) (h3:ltD p.nt p.dst) (h4:InSR X ps p.Y p.go p.cl p.nt p.K K3)
  (he:EnvR (p :: ps) nt E Ê) (hj:(p :: ps).length < 8) (h:∃ m,m≤n∧runF T' m (8 * d) (.code (.ops [⟨shD (65536 * ps.length) p.dst,none,.tupl rs⟩]) :: K3) ⟨Ê,H,nx⟩=some r') {K:List It} (hK:arun T (8 * d + (ps.length + 1)) K ⟨E,H,nx⟩=some ⟨E,H,nx⟩) :
  ∃ r,InFin T d (p :: ps) K ⟨E,H,nx⟩=some r∧r.H=r'.H∧r.nx=r'.nx∧∀ t,t < bot (p :: ps) nt→r.E t=r'.E t:=by
 obtain ⟨m,hm,h⟩:=h
 obtain ⟨m1,s1,hm1,ho,h⟩:=rs_op h
 obtain ⟨m2,hm2,h⟩:=rs_ops0 h
 unfold operF at ho
 simp only [wantedA,operV] at ho
 cases ho
 simp only [List.length_cons] at hj
 obtain ⟨r,a1,a2⟩:=hsim m2 (by omega) ps p.Y p.go p.cl p.nt p.K K3 _ _ H nx r' h2 h4 (he.2.setO (v:=tupOf (rs.map (ev Ê))) h3) (by omega) h
 refine ⟨r,?_,a2⟩
 simp only [InFin,hK,resO_ok he.1.2 h1]
 exact a1
theorem enter_env {ps:List Pend} {nt:Nat} {E Ê:AEnv} {F:AFn} {l:List AV} {p:Pend} (he:EnvR ps nt E Ê) (hn:F.ntmps≤65536) (hp:p.nt=nt) (hE:p.E=E):EnvR (p :: ps) F.ntmps (bindArgs l) (enterE Ê (65536 * (ps.length + 1)) F.ntmps l):=by
 refine ⟨⟨hn,fun t ht=>?_⟩,?_⟩
 ·simp only [enterE]
  rw [if_pos (by omega)]
  simp [bindArgs]
 ·rw [hp,hE]
  exact EnvR.congr (fun u hu=>by simp only [enterE]; rw [if_neg (by omega)]) he
theorem caps_run {T':Tab} {D:Nat} {x:Opd} {g m at_:Nat} {K:List It} {H:Heap} {nx:Nat} {r:St} (hx:∀ t∈x.tmps,t < at_):∀ (k i:Nat) (n:Nat) (Ê:AEnv),i + k=m→runF T' n D (.code (.ops (capsO x g m at_ i k)) :: K) ⟨Ê,H,nx⟩=some r →
  ∃ l n',n' < n∧ev Ê x = .fn g l∧l.length=m∧runF T' n' D K ⟨fun t=>if at_ + i≤t∧t < at_ + i + k then l.getD (t - at_) .undef else Ê t,H,nx⟩=some r
 | 0,i,n,Ê,hk,h=>by
  simp only [capsO] at h
  obtain ⟨m1,s1,hm1,ho,h⟩:=rs_op h
  obtain ⟨m2,hm2,h⟩:=rs_ops0 h
  unfold operF at ho
  simp only [wantedA,operV] at ho
  cases hev:ev Ê x with
  | fn g' l=>
   rw [hev] at ho
   simp only at ho
   by_cases hc:g'=g∧l.length=m
   ·rw [if_pos hc] at ho
    have:l[m]? = none:=by rw [List.getElem?_eq_none]; omega
    rw [this] at ho
    cases ho
    refine ⟨l,m2,by omega,by rw [hc.1],hc.2,?_⟩
    have:(fun t=>if at_ + i≤t∧t < at_ + i + 0 then l.getD (t - at_) .undef else Ê t)=Ê:=by
     funext t; rw [if_neg (by omega)]
    rw [this]; exact h
   ·rw [if_neg hc] at ho; cases ho
  | _=>rw [hev] at ho; cases ho
 | k + 1,i,n,Ê,hk,h=>by
  simp only [capsO] at h
  obtain ⟨m1,s1,hm1,ho,h⟩:=rs_op h
  unfold operF at ho
  simp only [wantedA,operV] at ho
  cases hev:ev Ê x with
  | fn g' l=>
   rw [hev] at ho
   simp only at ho
   by_cases hc:g'=g∧l.length=m
   ·rw [if_pos hc] at ho
    have hi:i < l.length:=by omega
    rw [List.getElem?_eq_getElem hi] at ho
    cases ho
    obtain ⟨l2,n2,a1,a2,a3,a4⟩:=caps_run hx k (i + 1) m1 _ (by omega) h
    have e2:ev (updO Ê (some (at_ + i)) l[i]) x=ev Ê x:=by
     cases x with
     | t q=>
      have:=hx q (by simp [Opd.tmps])
      simp only [ev,updO,upd]
      rw [if_neg (by omega)]
     | k v=>rfl
    rw [e2,hev] at a2
    cases a2
    refine ⟨l,n2,by omega,rfl,hc.2,?_⟩
    have:(fun t=>if at_ + i≤t∧t < at_ + i + (k + 1) then l.getD (t - at_) AV.undef else Ê t)=(fun t=>if at_ + (i + 1)≤t∧t < at_ + (i + 1) + k then l.getD (t - at_) AV.undef else updO Ê (some (at_ + i)) l[i] t):=by
     funext t
     by_cases e:t=at_ + i
     ·subst e
      rw [if_pos (by omega),if_neg (by omega)]
      simp [updO,upd,List.getD,hi]
     ·by_cases c:at_ + i≤t∧t < at_ + i + (k + 1)
      ·rw [if_pos c,if_pos (by omega)]
      ·rw [if_neg c,if_neg (by omega)]
       simp [updO,upd,e]
    rw [this]; exact a4
   ·rw [if_neg hc] at ho; cases ho
  | _=>rw [hev] at ho; cases ho
end
end Go.Am
/- A function that runs in another's place: whole runs,and calls. -/
namespace Go.Am
def SimN (X:InlX) (T T':Tab) (n:Nat):Prop:=∀ (d:Nat) (ps:List Pend) (Y:InlX) (go:Nat→Clo→AC→AC) (cl:Clo) (nt:Nat) (K K':List It) (E Ê:AEnv) (H:Heap) (nx:Nat) (r':St),
 InFr X Y go→InSR X ps Y go cl nt K K'→EnvR ps nt E Ê→ps.length < 8→runF T' n (8 * d) K' ⟨Ê,H,nx⟩=some r' →
  ∃ r,InFin T d ps K ⟨E,H,nx⟩=some r∧r.H=r'.H∧r.nx=r'.nx∧∀ t,t < bot ps nt→r.E t=r'.E t
section
variable {X:InlX} {T T':Tab} {n d:Nat}
theorem resV_congr {E E':AEnv} {H:Heap}:∀ {res:List ARes},(∀ r∈res,match r with | .tmp t=>E' t=E t | .cell t _ _=>E' t=E t)→resV E' H res=resV E H res
 | [],_=>rfl
 | .tmp t :: r,h=>by
  simp only [resV,resV_congr (res:=r) fun x hx=>h x (List.mem_cons_of_mem _ hx)]
  rw [show E' t=E t from h (.tmp t) (List.mem_cons_self ..)]
 | .cell t a k :: r,h=>by
  simp only [resV,resV_congr (res:=r) fun x hx=>h x (List.mem_cons_of_mem _ hx)]
  rw [show E' t=E t from h (.cell t a k) (List.mem_cons_self ..)]
theorem caIH_of (hX:InlOK X T T') (hs:SimN X T T' n):CaIH T T' n:=by
 intro e f args H nx x h
 unfold callB at h
 split at h
 ·rename_i F' hF'
  obtain ⟨hM,F,hF,rfl,hw,hr⟩:=hX.fnS f F' hF'
  split at h
  ·rename_i ha
   split at h
   ·rename_i s hrun
    obtain ⟨Y,go,g1,g2⟩:=fr_of X 8
    unfold wfF at hw
    simp only [Bool.and_eq_true] at hw
    have hrun:runF T' n (8 * e) [.code (inlC Y go 0 (cloC [] F.body) F.body)] ⟨bindArgs args,H,nx⟩=some s:=by
     have:(inlF X F).body=inlC Y go 0 (cloC [] F.body) F.body:=by
      show inlN X 8 0 (cloC [] F.body) F.body=_
      rw [g2]
     rw [← this]; exact hrun
    obtain ⟨r,a1,a2,a3,a4⟩:=hs e [] Y go _ F.ntmps [.code F.body] _ (bindArgs args) (bindArgs args) H nx s g1 (.cons (.code hw.1) .nil) ⟨Nat.le_of_ble_eq_true hw.2.2,fun _ _=>rfl⟩ (by simp) hrun
    have a1:arun T (8 * e) [.code F.body] ⟨bindArgs args,H,nx⟩=some r:=a1
    unfold callB
    rw [hF]
    simp only
    have ha:args.length=F.np:=ha
    rw [if_pos ha,a1]
    simp only
    have:resV r.E r.H F.res=resV s.E s.H F.res:=by
     rw [a2]
     refine resV_congr fun q hq=>?_
     unfold wfR at hr
     rw [List.all_eq_true] at hr
     have:=hr q hq
     cases q with
     | tmp t=>exact a4 t (Nat.le_of_ble_eq_true this)
     | cell t _ _=>exact a4 t (Nat.le_of_ble_eq_true this)
    rw [this,a2,a3]
    exact h
   ·cases h
  ·cases h
 ·cases h
theorem bindArgs_caps {F:AFn} {ps:List Pend} {vs l:List AV} {Ê:AEnv} (h:vs.length + l.length=F.np) (hn:F.np≤F.ntmps) :
  ∀ t,t < F.ntmps→(fun u=>if 65536 * (ps.length + 1) + vs.length + 0≤u∧u < 65536 * (ps.length + 1) + vs.length + 0 + l.length then l.getD (u - (65536 * (ps.length + 1) + vs.length)) AV.undef else enterE Ê (65536 * (ps.length + 1)) F.ntmps vs u) (t + 65536 * (ps.length + 1))=bindArgs (vs++l) t:=by
 intro t ht
 simp only [bindArgs,enterE]
 by_cases c:t < vs.length
 ·rw [if_neg (by omega),if_pos (by omega)]
  have:t + 65536 * (ps.length + 1) - 65536 * (ps.length + 1)=t:=by omega
  rw [this]
  simp [List.getD,List.getElem?_append,c]
 ·by_cases c2:t < vs.length + l.length
  ·rw [if_pos (by omega)]
   have:t + 65536 * (ps.length + 1) - (65536 * (ps.length + 1) + vs.length)=t - vs.length:=by omega
   rw [this]
   simp [List.getD,List.getElem?_append,c]
  ·rw [if_neg (by omega),if_pos (by omega)]
   have:t + 65536 * (ps.length + 1) - 65536 * (ps.length + 1)=t:=by omega
   rw [this]
   have e1:vs[t]? = none:=by rw [List.getElem?_eq_none]; omega
   have e2:(vs++l)[t]? = none:=by rw [List.getElem?_eq_none]; simp; omega
   simp [List.getD,e1,e2]
theorem sim_push (hX:InlOK X T T') (ih:∀ m,m < n→SimN X T T' m) {ps:List Pend} {Y:InlX} {go:Nat→Clo→AC→AC} {cl:Clo} {nt:Nat} {K K':List It} {E Ê2:AEnv} {H:Heap} {nx:Nat} {r':St}
  (hY:InFr X Y go) (hk:InSR X ps Y go cl nt K K') {f:Nat} {F:AFn} {o:AOper} {l:List AOper} {rs:List Opd} {vals:List AV} {c2:Clo} (ho:o.guard=none) (hol:(o :: l).all (ltO nt)=true)
  (hMf:X.M f=true) (hFf:X.fn f=some F) (hw:wfF F=true) (hj:ps.length < 7) (hro:resO F.ntmps (65536 * (ps.length + 1)) F.res=some rs)
  (hop:operV T (arun T) (8 * d + ps.length) o.dst E H nx o.op=callOp T (arun T) (8 * d + ps.length) f vals H nx) (hlen:vals.length=F.np)
  {m':Nat} (hgo:go=inlN X m') (he:EnvR (⟨F.res,o.dst,.code (.ops l) :: K,E,Y,go,cl,nt⟩ :: ps) F.ntmps (bindArgs vals) Ê2)
  (h:∃ m,m≤n∧runF T' m (8 * d) (.code (.seq (.block RB (go (ps.length + 1) c2 F.body)) (.ops [⟨shD (65536 * ps.length) o.dst,none,.tupl rs⟩])) :: .code (inlL Y go ps.length cl l) :: K') ⟨Ê2,H,nx⟩=some r') :
  ∃ r,InFin T d ps (.code (.ops (o :: l)) :: K) ⟨E,H,nx⟩=some r∧r.H=r'.H∧r.nx=r'.nx∧∀ t,t < bot ps nt→r.E t=r'.E t:=by
 obtain ⟨m,hm,h⟩:=h
 obtain ⟨m1,hm1,h⟩:=rs_seq h
 obtain ⟨m2,hm2,h⟩:=rs_block h
 obtain ⟨Y2,go2,g1,g2⟩:=fr_of X m'
 simp only [List.all_cons,Bool.and_eq_true] at hol
 have hd:ltD nt o.dst:=by
  have:=hol.1
  unfold ltO at this
  simp only [Bool.and_eq_true] at this
  have:=this.2
  cases hdst:o.dst with
  | none=>trivial
  | some t=>rw [hdst] at this; exact Nat.le_of_ble_eq_true this
 unfold wfF at hw
 simp only [Bool.and_eq_true] at hw
 subst hgo
 have hb:inlN X m' (ps.length + 1) c2 F.body=inlC Y2 go2 (ps.length + 1) c2 F.body:=by rw [g2]
 rw [hb] at h
 obtain ⟨r,a1,a2,a3,a4⟩:=ih m2 (by omega) d (⟨F.res,o.dst,.code (.ops l) :: K,E,Y,inlN X m',cl,nt⟩ :: ps) Y2 go2 c2 F.ntmps [.code F.body] _ (bindArgs vals) Ê2 H nx r' g1
  (.cons (.code hw.1) (.pop (rs:=rs) hro hY hd (.cons (.opsB hol.2) hk))) he (by simp only [List.length_cons]; omega) h
 refine ⟨r,?_,a2,a3,a4⟩
 simp only [InFin] at a1
 split at a1
 ·rename_i s1 hs1
  split at a1
  ·rename_i rv hrv
   have hcall:callOp T (arun T) (8 * d + ps.length) f vals H nx=some (tupOf rv,s1.H,s1.nx):=by
    unfold callOp
    obtain ⟨t1,t2⟩:=hX.fnM f F hMf hFf
    rw [t2]
    simp only [callB,t1]
    rw [if_pos hlen]
    have e:8 * d + ps.length + 1=8 * d + (ps.length + 1):=by omega
    rw [e,hs1]
    simp only [hrv]
   rw [← a1]
   refine InFin_congr ?_
   rw [arun_op]
   unfold operF
   rw [ho]
   simp only [wantedA,hop,hcall]
  ·cases a1
 ·cases a1
theorem sim_n (hX:InlOK X T T'):∀ n,SimN X T T' n:=by
 intro n
 induction n using Nat.strongRecOn with
 | ind n ih=>
 intro d ps Y go cl nt K K' E Ê H nx r' hY hSR he hj h
 have hca:∀ m,m < n→CaIH T T' m:=fun m hm=>caIH_of hX (ih m hm)
 have step:∀ {m:Nat} {K0 K2 K2':List It} {E2 Ê2:AEnv} {H2:Heap} {nx2:Nat},m < n→arun T (8 * d + ps.length) K0 ⟨E,H,nx⟩=arun T (8 * d + ps.length) K2 ⟨E2,H2,nx2⟩→InSR X ps Y go cl nt K2 K2'→EnvR ps nt E2 Ê2→runF T' m (8 * d) K2' ⟨Ê2,H2,nx2⟩=some r' →
   ∃ r,InFin T d ps K0 ⟨E,H,nx⟩=some r∧r.H=r'.H∧r.nx=r'.nx∧∀ t,t < bot ps nt→r.E t=r'.E t:=by
  intro m K0 K2 K2' E2 Ê2 H2 nx2 hm hr hs2 he2 hrun
  obtain ⟨r,a1,a2⟩:=ih m hm d ps Y go cl nt K2 K2' E2 Ê2 H2 nx2 r' hY hs2 he2 hj hrun
  exact ⟨r,by rw [InFin_congr hr]; exact a1,a2⟩
 have opsA:∀ {l:List AOper} {K0 K0':List It},InSR X ps Y go cl nt K0 K0'→l.all (ltO nt)=true→runF T' n (8 * d) (.code (.ops (l.map (shA (65536 * ps.length)))) :: K0') ⟨Ê,H,nx⟩=some r' →
   ∃ r,InFin T d ps (.code (.ops l) :: K0) ⟨E,H,nx⟩=some r∧r.H=r'.H∧r.nx=r'.nx∧∀ t,t < bot ps nt→r.E t=r'.E t:=by
  intro l K0 K0' hk hl h
  cases l with
  | nil=>
   obtain ⟨m,hm,h⟩:=rs_ops0 h
   exact step hm arun_ops0 hk he h
  | cons o l=>
   simp only [List.all_cons,Bool.and_eq_true] at hl
   simp only [List.map_cons] at h
   obtain ⟨m,s',hm,ho,h⟩:=rs_op h
   obtain ⟨E1,b1,b2,_⟩:=operF_sh hX (hca m hm) hj he hl.1 ho
   exact step hm (by rw [arun_op,b1]) (.cons (.opsA hl.2) hk) b2 h
 have opsB:∀ {l:List AOper} {K0 K0':List It},InSR X ps Y go cl nt K0 K0'→l.all (ltO nt)=true→runF T' n (8 * d) (.code (inlL Y go ps.length cl l) :: K0') ⟨Ê,H,nx⟩=some r' →
   ∃ r,InFin T d ps (.code (.ops l) :: K0) ⟨E,H,nx⟩=some r∧r.H=r'.H∧r.nx=r'.nx∧∀ t,t < bot ps nt→r.E t=r'.E t:=by
  intro l K0 K0' hk hl h
  cases l with
  | nil=>
   simp only [inlL] at h
   obtain ⟨m,hm,h⟩:=rs_ops0 h
   exact step hm arun_ops0 hk he h
  | cons o l=>
   have hl0:=hl
   simp only [List.all_cons,Bool.and_eq_true] at hl
   simp only [inlL] at h
   cases hi:inlO Y go ps.length cl o with
   | none=>
    rw [hi] at h
    simp only at h
    obtain ⟨m1,hm1,h⟩:=rs_seq h
    obtain ⟨m,s',hm,ho,h⟩:=rs_op h
    obtain ⟨m2,hm2,h⟩:=rs_ops0 h
    obtain ⟨E1,b1,b2,_⟩:=operF_sh hX (hca m (by omega)) hj he hl.1 ho
    exact step (by omega:m2 < n) (by rw [arun_op,b1]) (.cons (.opsB hl.2) hk) b2 h
   | some c=>
    rw [hi] at h
    simp only at h
    obtain ⟨m1,hm1,h⟩:=rs_seq h
    unfold ltO at hl
    simp only [Bool.and_eq_true,List.all_eq_true] at hl
    have hlo:∀ t,t∈looks o.op→t < nt:=fun t ht=>Nat.le_of_ble_eq_true (hl.1.1 t (by unfold looksO; exact List.mem_append_right _ ht))
    obtain ⟨ht1,ht2⟩:=he.top
    unfold inlO at hi
    split at hi
    ·rename_i f args hg hop
     unfold inlB at hi
     split at hi
     ·rename_i F hM hF
      split at hi
      ·rename_i rs hc hrs
       cases hi
       have hYX:Y=X∧∃ m,go=inlN X m:=by
        rcases hY with h | h
        ·exact h
        ·rw [h f] at hM; cases hM
       obtain ⟨hYX,m',hgo⟩:=hYX
       have hM:X.M f=true:=hYX ▸ hM
       have hF:X.fn f=some F:=hYX ▸ hF
       simp only [Bool.and_eq_true] at hc
       obtain ⟨c1,c2,c3⟩:=hc
       have c3:=Nat.le_of_ble_eq_true c3
       have c1':=c1
       unfold wfF at c1'
       simp only [Bool.and_eq_true] at c1'
       obtain ⟨m2,hm2,h⟩:=rs_seq h
       obtain ⟨m3,hm3,h⟩:=rs_enter h
       obtain ⟨m4,hm4,h⟩:=rs_seq h
       obtain ⟨m5,hm5,h⟩:=rs_ops0 h
       rw [hop] at hlo
       simp only at h
       rw [evs_sh (E:=E) (Ê:=Ê) (k:=65536 * ps.length) fun t ht=>ht2 t (hlo t ht)] at h
       refine sim_push hX ih hY hk hg hl0 hM hF c1 (by omega) hrs (vals:=args.map (ev E)) (by rw [hop]; rfl) (by rw [List.length_map]; exact Nat.eq_of_beq_eq_true c2) hgo (enter_env he (Nat.le_of_ble_eq_true c1'.2.2) rfl rfl) ⟨m5,by omega,h⟩
      ·cases hi
     ·cases hi
    ·rename_i x args hg hop
     split at hi
     ·rename_i g hclo
      unfold inlB at hi
      split at hi
      ·rename_i F hM hF
       split at hi
       ·rename_i rs hc hrs
        cases hi
        have hYX:Y=X∧∃ m,go=inlN X m:=by
         rcases hY with h | h
         ·exact h
         ·rw [h g] at hM; cases hM
        obtain ⟨hYX,m',hgo⟩:=hYX
        have hM:X.M g=true:=hYX ▸ hM
        have hF:X.fn g=some F:=hYX ▸ hF
        simp only [Bool.and_eq_true] at hc
        obtain ⟨c1,c2,c3⟩:=hc
        have c3:=Nat.le_of_ble_eq_true c3
        have c2:=Nat.le_of_ble_eq_true c2
        have c1':=c1
        unfold wfF at c1'
        simp only [Bool.and_eq_true] at c1'
        obtain ⟨m2,hm2,h⟩:=rs_seq h
        obtain ⟨m3,hm3,h⟩:=rs_enter h
        obtain ⟨m4,hm4,h⟩:=rs_seq h
        rw [hop] at hlo
        simp only [looks,List.mem_append] at hlo
        simp only at h
        rw [evs_sh (E:=E) (Ê:=Ê) (k:=65536 * ps.length) fun t ht=>ht2 t (hlo t (.inr ht))] at h
        have hvl:(args.map (ev E)).length=args.length:=List.length_map ..
        obtain ⟨lc,n2,q1,q2,q3,q4⟩:=caps_run (x:=shO (65536 * ps.length) x) (at_:=65536 * (ps.length + 1) + args.length) (fun t ht=>by
         cases x with
         | t q=>
          simp only [shO,Opd.tmps,List.mem_singleton] at ht
          have:=hlo q (.inl (by simp [Opd.tmps]))
          omega
         | k v=>simp [shO,Opd.tmps] at ht) _ 0 _ _ (Nat.zero_add _) h
        have hxv:ev (enterE Ê (65536 * (ps.length + 1)) F.ntmps (args.map (ev E))) (shO (65536 * ps.length) x)=ev E x:=by
         rw [← ev_sh (E:=E) (Ê:=Ê) (k:=65536 * ps.length) (x:=x) fun t ht=>ht2 t (hlo t (.inl ht))]
         cases x with
         | t q=>
          have:=hlo q (.inl (by simp [Opd.tmps]))
          simp only [shO,ev,enterE]
          rw [if_neg (by omega)]
         | k v=>rfl
        rw [hxv] at q2
        have hlen:(args.map (ev E)).length + lc.length=F.np:=by rw [hvl]; omega
        refine sim_push (F:=F) (Ê2:=fun t=>if 65536 * (ps.length + 1) + args.length + 0≤t∧t < 65536 * (ps.length + 1) + args.length + 0 + (F.np - args.length) then lc.getD (t - (65536 * (ps.length + 1) + args.length)) .undef else enterE Ê (65536 * (ps.length + 1)) F.ntmps (args.map (ev E)) t) hX ih hY hk hg hl0 hM hF c1 (by omega) hrs (vals:=args.map (ev E)++lc) (by rw [hop]; simp only [operV,q2]) (by rw [List.length_append]; exact hlen) hgo ?_ ⟨n2,by omega,q4⟩
        refine ⟨⟨Nat.le_of_ble_eq_true c1'.2.2,?_⟩,?_⟩
        ·have:=bindArgs_caps (ps:=ps) (Ê:=Ê) hlen (Nat.le_of_ble_eq_true c1'.2.1)
         rw [hvl,show lc.length=F.np - args.length from q3] at this
         exact this
        ·refine EnvR.congr (fun u hu=>?_) he
         have hu:u < 65536 * (ps.length + 1):=hu
         simp only [enterE]
         rw [if_neg (by omega),if_neg (by omega)]
       ·cases hi
      ·cases hi
     ·cases hi
    ·cases hi
 cases hSR with
 | nil=>
  cases n with
  | zero=>simp [runF] at h
  | succ n=>
   simp only [runF] at h
   cases h
   exact ⟨⟨E,H,nx⟩,arun_nil,rfl,rfl,fun t ht=>(he.2 t ht).symm⟩
 | pop h1 h2 h3 h4=>
  obtain ⟨m,hm,h⟩:=rs_blk h
  exact sim_pop (fun m hm=>ih m hm d) h1 h2 h3 h4 he hj ⟨m,by omega,h⟩ arun_nil
 | cons hit hk=>
  cases hit with
  | blk hb=>
   obtain ⟨m,hm,h⟩:=rs_blk h
   exact step hm arun_blk hk he h
  | @lp b hw=>
   cases n with
   | zero=>simp [runF] at h
   | succ n=>
    simp only [runF] at h
    exact step (Nat.lt_succ_self n) arun_lp (.cons (.code hw) (.cons (.lp hw) hk)) he h
  | opsA hl=>exact opsA hk hl h
  | opsB hl=>exact opsB hk hl h
  | @opsU fs l prs hl=>
   cases n with
   | zero=>simp [runF] at h
   | succ n=>
    cases l with
    | nil=>
     simp only [List.map_nil,runF] at h
     split at h
     ·rename_i hp
      exact step (Nat.lt_succ_self n) (by rw [arun_opsU0,if_pos hp]) hk he h
     ·cases h
    | cons o l=>
     simp only [List.all_cons,Bool.and_eq_true] at hl
     simp only [List.map_cons,runF] at h
     split at h
     ·rename_i s' ho
      obtain ⟨E1,b1,b2,b3⟩:=operF_sh hX (hca n (Nat.lt_succ_self n)) hj he hl.1 ho
      rw [b3] at h
      exact step (Nat.lt_succ_self n) (by rw [arun_opU,b1]) (.cons (.opsU hl.2) hk) b2 h
     ·cases h
  | @code c hw=>
   cases c with
   | skip=>
    cases n with
    | zero=>simp [runF] at h
    | succ n=>
     simp only [inlC,runF] at h
     exact step (Nat.lt_succ_self n) arun_skip hk he h
   | ops l=>
    simp only [inlC] at h
    have hw:l.all (ltO nt)=true:=hw
    split at h
    ·exact opsB hk hw h
    ·exact opsA hk hw h
   | opsU fs l prs=>
    simp only [inlC] at h
    simp only [wfC,Bool.and_eq_true] at hw
    obtain ⟨r,a⟩:∃ r,InFin T d ps (.code (.opsU fs l prs) :: _) ⟨E,H,nx⟩=some r∧r.H=r'.H∧r.nx=r'.nx∧∀ t,t < bot ps nt→r.E t=r'.E t:=by
     cases n with
     | zero=>simp [runF] at h
     | succ n=>
      cases l with
      | nil=>
       simp only [List.map_nil,runF] at h
       split at h
       ·rename_i hp
        exact step (Nat.lt_succ_self n) (by rw [arun_opsU0,if_pos hp]) hk he h
       ·cases h
      | cons o l=>
       have hl:=hw.2
       simp only [List.all_cons,Bool.and_eq_true] at hl
       simp only [List.map_cons,runF] at h
       split at h
       ·rename_i s' ho
        obtain ⟨E1,b1,b2,b3⟩:=operF_sh hX (hca n (Nat.lt_succ_self n)) hj he hl.1 ho
        rw [b3] at h
        exact step (Nat.lt_succ_self n) (by rw [arun_opU,b1]) (.cons (.opsU hl.2) hk) b2 h
       ·cases h
    exact ⟨r,a⟩
   | seq a b=>
    simp only [inlC] at h
    simp only [wfC,Bool.and_eq_true] at hw
    obtain ⟨m,hm,h⟩:=rs_seq h
    exact step hm arun_seq (.cons (.code hw.1) (.cons (.code hw.2) hk)) he h
   | cond c a b=>
    simp only [wfC,Bool.and_eq_true,List.all_eq_true] at hw
    have hev:ev Ê (shO (65536 * ps.length) c)=ev E c:=ev_sh fun t ht=>he.top.2 t (Nat.le_of_ble_eq_true (hw.1 t ht))
    cases n with
    | zero=>simp [runF] at h
    | succ n=>
     simp only [inlC,runF] at h
     rw [hev] at h
     split at h
     ·rename_i t htv
      refine step (Nat.lt_succ_self n) (K2:=.code (if t=true then a else b) :: _) (by rw [arun_cond]; simp only [htv]) (.cons (i':=.code (if t=true then inlC Y go ps.length cl a else inlC Y go ps.length cl b)) ?_ hk) he h
      cases t with
      | true=>exact .code hw.2.1
      | false=>exact .code hw.2.2
     ·cases h
   | block i b=>
    simp only [inlC] at h
    simp only [wfC,Bool.and_eq_true,Bool.not_eq_true'] at hw
    obtain ⟨m,hm,h⟩:=rs_block h
    refine step hm arun_block (.cons (.code hw.2) (.cons (.blk ?_) hk)) he h
    intro e
    have:=hw.1
    rw [e] at this
    simp at this
   | loop b=>
    have hw:wfC nt b=true:=hw
    cases n with
    | zero=>simp [runF] at h
    | succ n=>
     simp only [inlC,runF] at h
     exact step (Nat.lt_succ_self n) arun_loop (.cons (.code hw) (.cons (.lp hw) hk)) he h
   | exit i=>
    simp only [wfC,Bool.not_eq_true'] at hw
    have hi:i≠RB:=by
     intro e
     rw [e] at hw
     simp at hw
    cases n with
    | zero=>simp [runF] at h
    | succ n=>
     simp only [inlC,runF] at h
     split at h
     ·rename_i K2' hu
      obtain ⟨K2,u1,u2⟩:=hk.unw hi hu
      exact step (Nat.lt_succ_self n) (by rw [arun_exit,u1]) u2 he h
     ·cases h
   | ret=>
    simp only [inlC] at h
    cases ps with
    | nil=>
     simp only [List.length_nil] at h
     cases n with
     | zero=>simp [runF] at h
     | succ n=>
      have e0:Nat.beq 0 0=true:=rfl
      simp only [e0,if_true,runF] at h
      cases h
      exact ⟨⟨E,H,nx⟩,arun_ret,rfl,rfl,fun t ht=>(he.2 t ht).symm⟩
    | cons p ps=>
     have:Nat.beq (p :: ps).length 0=false:=rfl
     rw [this] at h
     simp only [Bool.false_eq_true,if_false] at h
     cases n with
     | zero=>simp [runF] at h
     | succ n=>
      simp only [runF] at h
      split at h
      ·rename_i K2' hu
       obtain ⟨p2,ps2,rs,K3,e1,e2,h1,h2,h3,h4⟩:=hk.unwR hu
       cases e1
       subst e2
       exact sim_pop (fun m hm=>ih m hm d) h1 h2 h3 h4 he hj ⟨n,by omega,h⟩ arun_ret
      ·cases h
   | enter _ _ _=>cases hw
theorem callC_inl (hX:InlOK X T T') {f:Nat} {ts us:List TV} (hM:X.M f=false) (h:callC T' (arun T') f ts=some us):callC T (arun T) f ts=some us:=by
 obtain ⟨n,h⟩:=callC_cont h
 unfold callC at h ⊢
 rw [(hX.same f hM).2.1] at h
 split at h
 ·exact h
 ·split at h
  ·rename_i rs H1 nx1 hb
   have hb:callB T' (runF T' n) (8 * 0) f (ts.map .c) Go.Am.H0 0=some (rs,H1,nx1):=hb
   have:=caIH_of hX (sim_n hX n) _ _ _ _ _ _ hb
   rw [show (0:Nat)=8 * 0 from rfl,this]
   exact h
  ·cases h
end
end Go.Am
/- Kinds of data,what they hold,and how a value of the small machine stands for it. -/
namespace Go.Am
theorem sid8 (d t:Nat):sid (8 * d) t = .st d t:=by unfold sid; congr 1 <;> omega
theorem nxd8 (d:Nat):nxd (8 * d)=8 * (d + 1):=by unfold nxd; omega
inductive Kd where
 | int (k:IntKind)
 | bool
 | str
 | st (fs:List Kd)
 | sl (sz:Nat) (e:Kd)
 deriving Inhabited
mutual
def Kd.beq:Kd→Kd→Bool
 | .int k,.int k'=>decide (k=k')
 | .bool,.bool=>true
 | .str,.str=>true
 | .st fs,.st gs=>Kd.beqs fs gs
 | .sl n e,.sl m f=>Nat.beq n m && Kd.beq e f
 | _,_=>false
def Kd.beqs:List Kd→List Kd→Bool
 | [],[]=>true
 | a :: r,b :: q=>Kd.beq a b && Kd.beqs r q
 | _,_=>false
end
mutual
theorem Kd.beq_eq:∀ (a b:Kd),Kd.beq a b=true→a=b
 | .int k,b,h=>by cases b <;> simp_all [Kd.beq]
 | .bool,b,h=>by cases b <;> simp_all [Kd.beq]
 | .str,b,h=>by cases b <;> simp_all [Kd.beq]
 | .st fs,b,h=>by
  cases b with
  | st gs=>simp only [Kd.beq] at h; rw [Kd.beqs_eq fs gs h]
  | _=>simp [Kd.beq] at h
 | .sl n e,b,h=>by
  cases b with
  | sl m f=>
   simp only [Kd.beq,Bool.and_eq_true] at h
   rw [Nat.eq_of_beq_eq_true h.1,Kd.beq_eq e f h.2]
  | _=>simp [Kd.beq] at h
theorem Kd.beqs_eq:∀ (a b:List Kd),Kd.beqs a b=true→a=b
 | [],b,h=>by cases b <;> simp_all [Kd.beqs]
 | a :: r,b,h=>by
  cases b with
  | nil=>simp [Kd.beqs] at h
  | cons x q=>
   simp only [Kd.beqs,Bool.and_eq_true] at h
   rw [Kd.beq_eq a x h.1,Kd.beqs_eq r q h.2]
end
mutual
def Kd.den:Kd→Type
 | .int _=>Int
 | .bool=>Bool
 | .str=>List UInt8
 | .st fs=>Kd.dens fs
 | .sl _ e=>List (Kd.den e)
def Kd.dens:List Kd→Type
 | []=>Unit
 | t :: r=>Kd.den t×Kd.dens r
end
mutual
def Kd.dflt:(t:Kd)→t.den
 | .int _=>(0:Int)
 | .bool=>false
 | .str=>([]:List UInt8)
 | .st fs=>Kd.dflts fs
 | .sl _ _=>[]
def Kd.dflts:(l:List Kd)→Kd.dens l
 | []=>()
 | t :: r=>(Kd.dflt t,Kd.dflts r)
end
def Kd.flat:Kd→Bool
 | .sl _ _=>false
 | .st fs=>fs.all fun t=>match t with | .int _ | .bool | .str=>true | _=>false
 | _=>true
def Kd.isS:Kd→Bool
 | .st _=>true
 | _=>false
def Kd.cn:Kd→Nat
 | .st fs=>fs.length
 | _=>1
def RepL {α:Type} (R:α→AV→List Id→Prop):List α→List AV→List Id→Prop
 | [],[],L=>L=[]
 | x :: xs,v :: vs,L=>∃ L1 L2,R x v L1∧RepL R xs vs L2∧L=L1++L2
 | _,_,_=>False
def outW (es:List AV) (off len:Nat):List AV:=es.take off++es.drop (off + len)
theorem outW_mem {es:List AV} {off len:Nat} {x:AV} (h:x∈outW es off len):x∈es:=by
 rcases List.mem_append.1 h with h | h
 ·exact List.mem_of_mem_take h
 ·exact List.mem_of_mem_drop h
theorem outW_all {es:List AV} {len:Nat} {x:AV} (hl:es.length≤len) (h:x∈outW es 0 len):False:=by
 unfold outW at h
 rw [List.take_zero,List.nil_append,Nat.zero_add,List.drop_of_length_le hl] at h
 cases h
theorem outW_set {es:List AV} {off len i:Nat} {w:AV} (h:i < len):outW (es.set (off + i) w) off len=outW es off len:=by
 unfold outW
 rw [List.take_set_of_le (by omega),List.drop_set_of_lt (by omega)]
mutual
def Rep (own:Bool) (H:Heap):(t:Kd)→t.den→AV→List Id→Prop
 | .int k,n,v,L=>v = .c (.s (.int k n))∧L=[]
 | .bool,b,v,L=>v = .c (.s (.bool b))∧L=[]
 | .str,s,v,L=>v = .c (.s (.string ⟨List.toArray s⟩))∧L=[]
 | .st fs,x,v,L=>v.isAgg=true∧Reps own H fs x v.cells L
 | .sl sz e,xs,v,L=>
  (v = .nils∧xs=[]∧L=[]) ∨
  (own=false∧∃ z ts,v = .c (.sl z ts)∧(z=sz∨ts=[])∧RepL (Rep own H e) xs (ts.map .c) []∧L=[]) ∨
  (∃ o g n off len b L',v = .ref o g n off len∧H o=some b∧b.gen=g∧b.es.length=n∧off + len≤n∧b.sz=sz ∧
   RepL (Rep own H e) xs ((b.es.drop off).take len) L'∧L=o :: L'∧(own=true→b.w=true∧(∀ x∈b.es,stor x=true∧x.cells.length=sz∧fineV (· ∈ L') x)∧∀ x∈outW b.es off len,fineV (fun _=>False) x)∧sz=e.cn)
def Reps (own:Bool) (H:Heap):(fs:List Kd)→Kd.dens fs→List AV→List Id→Prop
 | [],_,[],L=>L=[]
 | t :: r,x,v :: vs,L=>t.isS=false∧∃ L1 L2,Rep own H t x.1 v L1∧Reps own H r x.2 vs L2∧L=L1++L2
 | _,_,_,_=>False
end
theorem RepL.imp {α:Type} {R R':α→AV→List Id→Prop}:∀ {xs:List α} {vs:List AV} {L:List Id},(∀ x v L',v∈vs→(∀ i∈L',i∈L)→R x v L'→R' x v L')→RepL R xs vs L→RepL R' xs vs L
 | [],[],L,_,h=>h
 | [],_ :: _,L,_,h=>h.elim
 | _ :: _,[],L,_,h=>h.elim
 | x :: xs,v :: vs,L,hi,⟨L1,L2,h1,h2,e⟩=>by
  subst e
  exact ⟨L1,L2,hi x v L1 (by simp) (fun i hi=>by simp [hi]) h1,RepL.imp (fun x v L' hv hL h=>hi x v L' (by simp [hv]) (fun i h'=>by simp [hL i h']) h) h2,rfl⟩
theorem RepL.len {α:Type} {R:α→AV→List Id→Prop}:∀ {xs:List α} {vs:List AV} {L:List Id},RepL R xs vs L→xs.length=vs.length
 | [],[],L,h=>rfl
 | [],_ :: _,L,h=>h.elim
 | _ :: _,[],L,h=>h.elim
 | x :: xs,v :: vs,L,⟨L1,L2,h1,h2,e⟩=>by simp [RepL.len h2]
theorem RepL.get {α:Type} {R:α→AV→List Id→Prop}:∀ {xs:List α} {vs:List AV} {L:List Id},RepL R xs vs L→∀ (i:Nat) (x:α),xs[i]? = some x→∃ v L',vs[i]? = some v∧R x v L'∧∀ j∈L',j∈L
 | [],[],L,h,i,x,hx=>by simp at hx
 | [],_ :: _,L,h,_,_,_=>h.elim
 | _ :: _,[],L,h,_,_,_=>h.elim
 | y :: xs,v :: vs,L,⟨L1,L2,h1,h2,e⟩,i,x,hx=>by
  subst e
  cases i with
  | zero=>simp at hx; subst hx; exact ⟨v,L1,rfl,h1,fun j hj=>by simp [hj]⟩
  | succ i=>
   obtain ⟨u,L',a,b,c⟩:=RepL.get h2 i x (by simpa using hx)
   exact ⟨u,L',by simpa using a,b,fun j hj=>by simp [c j hj]⟩
theorem RepL.append {α:Type} {R:α→AV→List Id→Prop}:∀ {xs ys:List α} {vs us:List AV} {L M:List Id},RepL R xs vs L→RepL R ys us M→RepL R (xs++ys) (vs++us) (L++M)
 | [],ys,[],us,L,M,h,k=>by cases h; exact k
 | [],_,_ :: _,_,_,_,h,_=>h.elim
 | _ :: _,_,[],_,_,_,h,_=>h.elim
 | x :: xs,ys,v :: vs,us,L,M,⟨L1,L2,h1,h2,e⟩,k=>by
  subst e
  exact ⟨L1,L2++M,h1,RepL.append h2 k,by simp⟩
theorem RepL.split {α:Type} {R:α→AV→List Id→Prop}:∀ {xs:List α} {vs:List AV} {L:List Id} (n:Nat),RepL R xs vs L→∃ L1 L2,RepL R (xs.take n) (vs.take n) L1∧RepL R (xs.drop n) (vs.drop n) L2∧L=L1++L2
 | xs,vs,L,0,h=>⟨[],L,by simp [RepL],by simpa using h,rfl⟩
 | [],[],L,n + 1,h=>by cases h; exact ⟨[],[],by simp [RepL],by simp [RepL],rfl⟩
 | [],_ :: _,L,n + 1,h=>h.elim
 | _ :: _,[],L,n + 1,h=>h.elim
 | x :: xs,v :: vs,L,n + 1,⟨L1,L2,h1,h2,e⟩=>by
  subst e
  obtain ⟨M1,M2,a,b,e⟩:=RepL.split n h2
  subst e
  exact ⟨L1++M1,M2,⟨L1,M1,h1,a,rfl⟩,b,by simp⟩
mutual
theorem Rep.frame {own:Bool} {H H':Heap}:∀ (t:Kd) (x:t.den) (v:AV) (L:List Id),(∀ i∈L,H' i=H i)→Rep own H t x v L→Rep own H' t x v L
 | .int k,n,v,L,_,h=>h
 | .bool,n,v,L,_,h=>h
 | .str,n,v,L,_,h=>h
 | .st fs,x,v,L,hf,h=>⟨h.1,Reps.frame fs x v.cells L hf h.2⟩
 | .sl sz e,xs,v,L,hf,h=>by
  rcases h with h | ⟨h0,z,ts,h1,h2,h3,h4⟩ | ⟨o,g,n,off,len,b,L',h1,h2,h3,h4,h5,h6,h7,h8,h9⟩
  ·exact .inl h
  ·exact .inr (.inl ⟨h0,z,ts,h1,h2,h3.imp (fun x v L' _ hL h=>Rep.frame e x v L' (fun i hi=>absurd (hL i hi) (by simp)) h),h4⟩)
  ·subst h8
   exact .inr (.inr ⟨o,g,n,off,len,b,L',h1,(hf o (by simp)).trans h2,h3,h4,h5,h6,h7.imp (fun x v L'' _ hL h=>Rep.frame e x v L'' (fun i hi=>hf i (by simp [hL i hi])) h),rfl,h9⟩)
theorem Reps.frame {own:Bool} {H H':Heap}:∀ (fs:List Kd) (x:Kd.dens fs) (vs:List AV) (L:List Id),(∀ i∈L,H' i=H i)→Reps own H fs x vs L→Reps own H' fs x vs L
 | [],x,[],L,_,h=>h
 | [],x,_ :: _,L,_,h=>h.elim
 | t :: r,x,[],L,_,h=>h.elim
 | t :: r,x,v :: vs,L,hf,⟨h0,L1,L2,h1,h2,e⟩=>by
  subst e
  exact ⟨h0,L1,L2,Rep.frame t x.1 v L1 (fun i hi=>hf i (by simp [hi])) h1,Reps.frame r x.2 vs L2 (fun i hi=>hf i (by simp [hi])) h2,rfl⟩
end
theorem RepL.frame {own:Bool} {H H':Heap} {e:Kd} {xs:List e.den} {vs:List AV} {L:List Id} (hf:∀ i∈L,H' i=H i) (h:RepL (Rep own H e) xs vs L):RepL (Rep own H' e) xs vs L:=
 h.imp fun x v L' _ hL h=>Rep.frame e x v L' (fun i hi=>hf i (hL i hi)) h
mutual
theorem Rep.read {own:Bool} {H:Heap}:∀ (t:Kd) (x:t.den) (v:AV) (L:List Id),Rep own H t x v L→Rep false H t x v L
 | .int k,n,v,L,h=>h
 | .bool,n,v,L,h=>h
 | .str,n,v,L,h=>h
 | .st fs,x,v,L,h=>⟨h.1,Reps.read fs x v.cells L h.2⟩
 | .sl sz e,xs,v,L,h=>by
  rcases h with h | ⟨h0,z,ts,h1,h2,h3,h4⟩ | ⟨o,g,n,off,len,b,L',h1,h2,h3,h4,h5,h6,h7,h8,h9⟩
  ·exact .inl h
  ·exact .inr (.inl ⟨rfl,z,ts,h1,h2,h3.imp (fun x v L' _ _ h=>Rep.read e x v L' h),h4⟩)
  ·exact .inr (.inr ⟨o,g,n,off,len,b,L',h1,h2,h3,h4,h5,h6,h7.imp (fun x v L'' _ hL h=>Rep.read e x v L'' h),h8,(fun h=>by cases h),h9.2⟩)
theorem Reps.read {own:Bool} {H:Heap}:∀ (fs:List Kd) (x:Kd.dens fs) (vs:List AV) (L:List Id),Reps own H fs x vs L→Reps false H fs x vs L
 | [],x,[],L,h=>h
 | [],x,_ :: _,L,h=>h.elim
 | t :: r,x,[],L,h=>h.elim
 | t :: r,x,v :: vs,L,⟨h0,L1,L2,h1,h2,e⟩=>⟨h0,L1,L2,Rep.read t x.1 v L1 h1,Reps.read r x.2 vs L2 h2,e⟩
end
theorem Rep.leaf {own own':Bool} {H H':Heap} {t:Kd} {x:t.den} {v:AV} {L:List Id} (hs:t.isS=false) (hf:t.flat=true) (h:Rep own H t x v L):Rep own' H' t x v L∧L=[]:=by
 cases t with
 | st=>simp [Kd.isS] at hs
 | sl=>simp [Kd.flat] at hf
 | _=>exact ⟨h,h.2⟩
theorem Reps.flat {own own':Bool} {H H':Heap}:∀ (fs:List Kd) (x:Kd.dens fs) (vs:List AV) (L:List Id),(Kd.st fs).flat=true→Reps own H fs x vs L→Reps own' H' fs x vs L∧L=[]
 | [],x,[],L,_,h=>⟨h,h⟩
 | [],x,_ :: _,L,_,h=>h.elim
 | t :: r,x,[],L,_,h=>h.elim
 | t :: r,x,v :: vs,L,hf,⟨h0,L1,L2,h1,h2,e⟩=>by
  simp only [Kd.flat,List.all_cons,Bool.and_eq_true] at hf
  obtain ⟨a,rfl⟩:=h1.leaf (own':=own') (H':=H') h0 (by cases t <;> simp_all [Kd.flat])
  obtain ⟨b,rfl⟩:=Reps.flat (own':=own') (H':=H') r x.2 vs L2 (by simpa only [Kd.flat] using hf.2) h2
  exact ⟨⟨h0,[],[],a,b,e⟩,by rw [e]; rfl⟩
theorem Rep.flat {own own':Bool} {H H':Heap} {t:Kd} {x:t.den} {v:AV} {L:List Id} (hf:t.flat=true) (h:Rep own H t x v L):Rep own' H' t x v L∧L=[]:=by
 cases t with
 | st fs=>obtain ⟨a,b⟩:=Reps.flat (own':=own') (H':=H') fs x v.cells L hf h.2; exact ⟨⟨h.1,a⟩,b⟩
 | sl=>simp [Kd.flat] at hf
 | _=>exact ⟨h,h.2⟩
theorem Reps.len {own:Bool} {H:Heap}:∀ (fs:List Kd) (x:Kd.dens fs) (vs:List AV) (L:List Id),Reps own H fs x vs L→vs.length=fs.length
 | [],x,[],L,h=>rfl
 | [],x,_ :: _,L,h=>h.elim
 | t :: r,x,[],L,h=>h.elim
 | t :: r,x,v :: vs,L,⟨h0,L1,L2,h1,h2,e⟩=>by simp [Reps.len r x.2 vs L2 h2]
theorem Rep.stor {own:Bool} {H:Heap} {t:Kd} {x:t.den} {v:AV} {L:List Id} (h:Rep own H t x v L):Go.Am.stor v=true∧v.cells.length=t.cn∧v.isAgg=t.isS:=by
 cases t with
 | int=>obtain ⟨rfl,_⟩:=h; exact ⟨rfl,rfl,rfl⟩
 | bool=>obtain ⟨rfl,_⟩:=h; exact ⟨rfl,rfl,rfl⟩
 | str=>obtain ⟨rfl,_⟩:=h; exact ⟨rfl,rfl,rfl⟩
 | st fs=>
  obtain ⟨h1,h2⟩:=h
  refine ⟨?_,Reps.len fs x _ L h2,h1⟩
  cases v <;> simp_all [AV.isAgg,Go.Am.stor]
 | sl sz e=>
  rcases h with ⟨rfl,_⟩ | ⟨_,z,ts,rfl,_⟩ | ⟨o,g,n,off,len,b,L',rfl,_⟩ <;> exact ⟨rfl,rfl,rfl⟩
theorem Reps.plain {H:Heap}:∀ (fs:List Kd) (x:Kd.dens fs) (vs:List AV) (L:List Id),Reps true H fs x vs L→∀ y,AV.c y∈vs→y.plain=true
 | [],x,[],L,h,y,hy=>by cases hy
 | [],x,_ :: _,L,h,_,_=>h.elim
 | t :: r,x,[],L,h,_,_=>h.elim
 | t :: r,x,v :: vs,L,⟨h0,L1,L2,h1,h2,e⟩,y,hy=>by
  rcases List.mem_cons.1 hy with rfl | hy
  ·cases t with
   | st=>simp [Kd.isS] at h0
   | sl sz e=>
    rcases h1 with ⟨h,_⟩ | ⟨h,_⟩ | ⟨o,g,n,off,len,b,L',h,_⟩ <;> cases h
   | _=>
    obtain ⟨h,_⟩:=h1
    cases h; rfl
  ·exact Reps.plain r x.2 vs L2 h2 y hy
mutual
theorem Rep.fine {H:Heap}:∀ (t:Kd) (x:t.den) (v:AV) (L:List Id),Rep true H t x v L→fineV (· ∈ L) v
 | .int k,n,v,L,h=>by obtain ⟨rfl,_⟩:=h; rfl
 | .bool,n,v,L,h=>by obtain ⟨rfl,_⟩:=h; rfl
 | .str,n,v,L,h=>by obtain ⟨rfl,_⟩:=h; rfl
 | .st fs,x,v,L,h=>by
  obtain ⟨h1,h2⟩:=h
  have:=Reps.fine fs x v.cells L h2
  cases v with
  | agg cs=>exact this
  | c t=>
   cases t with
   | agg ts=>
    show TV.scalar (.agg ts)=true
    simp only [TV.scalar,List.all_eq_true]
    intro y hy
    exact Reps.plain fs x _ L h2 y (by simp [AV.cells,TV.cells]; exact hy)
   | _=>simp [AV.isAgg] at h1
  | _=>simp [AV.isAgg] at h1
 | .sl sz e,xs,v,L,h=>by
  rcases h with ⟨rfl,_⟩ | ⟨h0,_⟩ | ⟨o,g,n,off,len,b,L',rfl,h2,h3,h4,h5,h6,h7,h8,h9⟩
  ·trivial
  ·cases h0
  ·subst h8; show o∈o :: L'; simp
theorem Reps.fine {H:Heap}:∀ (fs:List Kd) (x:Kd.dens fs) (vs:List AV) (L:List Id),Reps true H fs x vs L→fineVs (· ∈ L) vs
 | [],x,[],L,h=>trivial
 | [],x,_ :: _,L,h=>h.elim
 | t :: r,x,[],L,h=>h.elim
 | t :: r,x,v :: vs,L,⟨h0,L1,L2,h1,h2,e⟩=>by
  subst e
  exact ⟨fineV_mono (fun p hp=>by simp [hp]) v (Rep.fine t x.1 v L1 h1),fineVs_mono (fun p hp=>by simp [hp]) vs (Reps.fine r x.2 vs L2 h2)⟩
end
end Go.Am
/- A machine on typed data: its code is the small machine's; it tells a function of Lean. Definitions. -/
namespace Go.Am
namespace R
def guardK {ρ:Type} (c:Bool) (k:Option ρ):Option ρ:=bif c then k else none
def bndK {ρ:Type} (len:Nat) (l h:Int) (k:Nat→Nat→Option ρ):Option ρ:=if 0≤l∧l≤h∧h≤len then k l.toNat (h - l).toNat else none
def iAdd (k:IntKind) (a b:Int):Int:=k.wrap (a + b)
def iSub (k:IntKind) (a b:Int):Int:=k.wrap (a - b)
def iMul (k:IntKind) (a b:Int):Int:=k.wrap (a * b)
def iQuo (k:IntKind) (a b:Int):Int:=k.wrap (a.tdiv b)
def iRem (a b:Int):Int:=a.tmod b
def iAnd (k:IntKind) (a b:Int):Int:=k.wrap (BitVec.ofInt k.bits a &&& BitVec.ofInt k.bits b).toNat
def iOr (k:IntKind) (a b:Int):Int:=k.wrap (BitVec.ofInt k.bits a ||| BitVec.ofInt k.bits b).toNat
def iXor (k:IntKind) (a b:Int):Int:=k.wrap (BitVec.ofInt k.bits a ^^^ BitVec.ofInt k.bits b).toNat
def iAndNot (k:IntKind) (a b:Int):Int:=k.wrap (BitVec.ofInt k.bits a &&& ~~~(BitVec.ofInt k.bits b)).toNat
def iShl (k:IntKind) (a b:Int):Int:=k.wrap (a * 2 ^ (min b.toNat k.bits))
def iShr (k:IntKind) (a b:Int):Int:=a.fdiv (2 ^ (min b.toNat k.bits))
def iEq (a b:Int):Bool:=a == b
def iNe (a b:Int):Bool:=a != b
def iLt (a b:Int):Bool:=decide (a < b)
def iLe (a b:Int):Bool:=decide (a≤b)
def iGt (a b:Int):Bool:=decide (a > b)
def iGe (a b:Int):Bool:=decide (a ≥ b)
def iConv (k:IntKind) (n:Int):Int:=k.wrap n
def bEq (a b:Bool):Bool:=a == b
def bNe (a b:Bool):Bool:=a != b
def bNot (a:Bool):Bool:=!a
def bAnd (a b:Bool):Bool:=a && b
def bOr (a b:Bool):Bool:=a || b
def gNz (b:Int):Bool:=decide (b≠0)
def gNn (b:Int):Bool:=decide (0≤b)
def gCat (a b:List UInt8):Bool:=decide (a.length + b.length≤140737488355328)
def gApp {α:Type} (xs ys:List α) (sz:Nat):Bool:=decide ((xs.length + ys.length) * sz≤4294967296)
def gMk (m:Int) (sz:Nat):Bool:=decide (0≤m∧m * sz≤4294967296)
def gS2b (s:List UInt8):Bool:=decide (s.length≤4294967296)
def gLt (a b:Nat):Bool:=decide (a < b)
def gZero (a b:Int):Bool:=decide (a=0∧b=0)
def strLess (a b:List UInt8):Bool:=Go.Op.bytesLess a b
def strEq (a b:List UInt8):Bool:=a == b
def cat {α:Type} (a b:List α):List α:=a++b
def lenI {α:Type} (a:List α):Int:=(a.length:Int)
def lenN {α:Type} (a:List α):Nat:=a.length
def ofN (n:Nat):Int:=n
def toN (n:Int):Nat:=n.toNat
def addN (n m:Nat):Nat:=n + m
def sub {α:Type} (a:List α) (l n:Nat):List α:=(a.drop l).take n
def dropL {α:Type} (l:Nat) (a:List α):List α:=a.drop l
def setL {α:Type} (a:List α) (i:Nat) (y:α):List α:=a.set i y
def repL {α:Type} (n:Nat) (y:α):List α:=List.replicate n y
def byteI (b:UInt8):Int:=(b.toNat:Int)
def bytesP (s:List UInt8):List Int:=s.map byteI
def strP (s:List Int):List UInt8:=s.map fun n=>UInt8.ofNat n.toNat
def litS (s:List Nat):List UInt8:=s.map UInt8.ofNat
def iMin (a b:Int):Int:=if b < a then b else a
def iMax (a b:Int):Int:=if b > a then b else a
def idxK {α ρ:Type} (xs:List α) (i:Int) (k:α→Option ρ):Option ρ:=if 0≤i then (match xs[i.toNat]? with | some x=>k x | none=>none) else none
def bindK {α ρ:Type} (o:Option α) (k:α→Option ρ):Option ρ:=match o with | some a=>k a | none=>none
def joinK {σ ρ:Type} (k:σ→Option ρ) (b:(σ→Option ρ)→Option ρ):Option ρ:=b k
def loopF {σ ρ:Type} (F:(σ→Option ρ)→σ→Option ρ):Nat→σ→Option ρ
 | 0,_=>none
 | n + 1,s=>F (loopF F n) s
end R
structure Words:Type 1 where
 guardK {ρ:Type} (c:Bool) (k:Option ρ):Option ρ
 bndK {ρ:Type} (len:Nat) (l h:Int) (k:Nat→Nat→Option ρ):Option ρ
 iAdd (k:IntKind) (a b:Int):Int
 iSub (k:IntKind) (a b:Int):Int
 iMul (k:IntKind) (a b:Int):Int
 iQuo (k:IntKind) (a b:Int):Int
 iRem (a b:Int):Int
 iAnd (k:IntKind) (a b:Int):Int
 iOr (k:IntKind) (a b:Int):Int
 iXor (k:IntKind) (a b:Int):Int
 iAndNot (k:IntKind) (a b:Int):Int
 iShl (k:IntKind) (a b:Int):Int
 iShr (k:IntKind) (a b:Int):Int
 iEq (a b:Int):Bool
 iNe (a b:Int):Bool
 iLt (a b:Int):Bool
 iLe (a b:Int):Bool
 iGt (a b:Int):Bool
 iGe (a b:Int):Bool
 iConv (k:IntKind) (n:Int):Int
 bEq (a b:Bool):Bool
 bNe (a b:Bool):Bool
 bNot (a:Bool):Bool
 bAnd (a b:Bool):Bool
 bOr (a b:Bool):Bool
 gNz (b:Int):Bool
 gNn (b:Int):Bool
 gCat (a b:List UInt8):Bool
 gApp {α:Type} (xs ys:List α) (sz:Nat):Bool
 gMk (m:Int) (sz:Nat):Bool
 gS2b (s:List UInt8):Bool
 gLt (a b:Nat):Bool
 gZero (a b:Int):Bool
 strLess (a b:List UInt8):Bool
 strEq (a b:List UInt8):Bool
 cat {α:Type} (a b:List α):List α
 lenI {α:Type} (a:List α):Int
 lenN {α:Type} (a:List α):Nat
 ofN (n:Nat):Int
 toN (n:Int):Nat
 addN (n m:Nat):Nat
 sub {α:Type} (a:List α) (l n:Nat):List α
 dropL {α:Type} (l:Nat) (a:List α):List α
 setL {α:Type} (a:List α) (i:Nat) (y:α):List α
 repL {α:Type} (n:Nat) (y:α):List α
 byteI (b:UInt8):Int
 bytesP (s:List UInt8):List Int
 strP (s:List Int):List UInt8
 litS (s:List Nat):List UInt8
 iMin (a b:Int):Int
 iMax (a b:Int):Int
 idxK {α ρ:Type} (xs:List α) (i:Int) (k:α→Option ρ):Option ρ
 bindK {α ρ:Type} (o:Option α) (k:α→Option ρ):Option ρ
 joinK {σ ρ:Type} (k:σ→Option ρ) (b:(σ→Option ρ)→Option ρ):Option ρ
 loopF {σ ρ:Type} (F:(σ→Option ρ)→σ→Option ρ) (n:Nat) (s:σ):Option ρ
def RW:Words:={ guardK:=R.guardK,bndK:=R.bndK,iAdd:=R.iAdd,iSub:=R.iSub,iMul:=R.iMul,iQuo:=R.iQuo,iRem:=R.iRem,iAnd:=R.iAnd,iOr:=R.iOr,iXor:=R.iXor,iAndNot:=R.iAndNot,iShl:=R.iShl,iShr:=R.iShr,iEq:=R.iEq,iNe:=R.iNe,iLt:=R.iLt,iLe:=R.iLe,iGt:=R.iGt,iGe:=R.iGe,iConv:=R.iConv,bEq:=R.bEq,bNe:=R.bNe,bNot:=R.bNot,bAnd:=R.bAnd,bOr:=R.bOr,gNz:=R.gNz,gNn:=R.gNn,gCat:=R.gCat,gApp:=R.gApp,gMk:=R.gMk,gS2b:=R.gS2b,gLt:=R.gLt,gZero:=R.gZero,strLess:=R.strLess,strEq:=R.strEq,cat:=R.cat,lenI:=R.lenI,lenN:=R.lenN,ofN:=R.ofN,toN:=R.toN,addN:=R.addN,sub:=R.sub,dropL:=R.dropL,setL:=R.setL,repL:=R.repL,byteI:=R.byteI,bytesP:=R.bytesP,strP:=R.strP,litS:=R.litS,iMin:=R.iMin,iMax:=R.iMax,idxK:=R.idxK,bindK:=R.bindK,joinK:=R.joinK,loopF:=R.loopF }
theorem words_ex:∃ W:Words,W=RW:=⟨RW,rfl⟩
noncomputable section
def WW:Words:=Classical.choose words_ex
theorem WW_eq:WW=RW:=Classical.choose_spec words_ex
def guardK {ρ:Type} (c:Bool) (k:Option ρ):Option ρ:=WW.guardK c k
def bndK {ρ:Type} (len:Nat) (l h:Int) (k:Nat→Nat→Option ρ):Option ρ:=WW.bndK len l h k
def iAdd (k:IntKind) (a b:Int):Int:=WW.iAdd k a b
def iSub (k:IntKind) (a b:Int):Int:=WW.iSub k a b
def iMul (k:IntKind) (a b:Int):Int:=WW.iMul k a b
def iQuo (k:IntKind) (a b:Int):Int:=WW.iQuo k a b
def iRem (a b:Int):Int:=WW.iRem a b
def iAnd (k:IntKind) (a b:Int):Int:=WW.iAnd k a b
def iOr (k:IntKind) (a b:Int):Int:=WW.iOr k a b
def iXor (k:IntKind) (a b:Int):Int:=WW.iXor k a b
def iAndNot (k:IntKind) (a b:Int):Int:=WW.iAndNot k a b
def iShl (k:IntKind) (a b:Int):Int:=WW.iShl k a b
def iShr (k:IntKind) (a b:Int):Int:=WW.iShr k a b
def iEq (a b:Int):Bool:=WW.iEq a b
def iNe (a b:Int):Bool:=WW.iNe a b
def iLt (a b:Int):Bool:=WW.iLt a b
def iLe (a b:Int):Bool:=WW.iLe a b
def iGt (a b:Int):Bool:=WW.iGt a b
def iGe (a b:Int):Bool:=WW.iGe a b
def iConv (k:IntKind) (n:Int):Int:=WW.iConv k n
def bEq (a b:Bool):Bool:=WW.bEq a b
def bNe (a b:Bool):Bool:=WW.bNe a b
def bNot (a:Bool):Bool:=WW.bNot a
def bAnd (a b:Bool):Bool:=WW.bAnd a b
def bOr (a b:Bool):Bool:=WW.bOr a b
def gNz (b:Int):Bool:=WW.gNz b
def gNn (b:Int):Bool:=WW.gNn b
def gCat (a b:List UInt8):Bool:=WW.gCat a b
def gApp {α:Type} (xs ys:List α) (sz:Nat):Bool:=WW.gApp xs ys sz
def gMk (m:Int) (sz:Nat):Bool:=WW.gMk m sz
def gS2b (s:List UInt8):Bool:=WW.gS2b s
def gLt (a b:Nat):Bool:=WW.gLt a b
def gZero (a b:Int):Bool:=WW.gZero a b
def strLess (a b:List UInt8):Bool:=WW.strLess a b
def strEq (a b:List UInt8):Bool:=WW.strEq a b
def cat {α:Type} (a b:List α):List α:=WW.cat a b
def lenI {α:Type} (a:List α):Int:=WW.lenI a
def lenN {α:Type} (a:List α):Nat:=WW.lenN a
def ofN (n:Nat):Int:=WW.ofN n
def toN (n:Int):Nat:=WW.toN n
def addN (n m:Nat):Nat:=WW.addN n m
def sub {α:Type} (a:List α) (l n:Nat):List α:=WW.sub a l n
def dropL {α:Type} (l:Nat) (a:List α):List α:=WW.dropL l a
def setL {α:Type} (a:List α) (i:Nat) (y:α):List α:=WW.setL a i y
def repL {α:Type} (n:Nat) (y:α):List α:=WW.repL n y
def byteI (b:UInt8):Int:=WW.byteI b
def bytesP (s:List UInt8):List Int:=WW.bytesP s
def strP (s:List Int):List UInt8:=WW.strP s
def litS (s:List Nat):List UInt8:=WW.litS s
def iMin (a b:Int):Int:=WW.iMin a b
def iMax (a b:Int):Int:=WW.iMax a b
def idxK {α ρ:Type} (xs:List α) (i:Int) (k:α→Option ρ):Option ρ:=WW.idxK xs i k
def bindK {α ρ:Type} (o:Option α) (k:α→Option ρ):Option ρ:=WW.bindK o k
def joinK {σ ρ:Type} (k:σ→Option ρ) (b:(σ→Option ρ)→Option ρ):Option ρ:=WW.joinK k b
def loopF {σ ρ:Type} (F:(σ→Option ρ)→σ→Option ρ) (n:Nat) (s:σ):Option ρ:=WW.loopF F n s
theorem guardK_def {ρ:Type} (c:Bool) (k:Option ρ):guardK c k=(bif c then k else none):=by unfold guardK; rw [WW_eq]; rfl
theorem bndK_def {ρ:Type} (len:Nat) (l h:Int) (k:Nat→Nat→Option ρ):bndK len l h k=(if 0≤l∧l≤h∧h≤len then k l.toNat (h - l).toNat else none):=by unfold bndK; rw [WW_eq]; rfl
theorem iAdd_def (k:IntKind) (a b:Int):iAdd k a b=(k.wrap (a + b)):=by unfold iAdd; rw [WW_eq]; rfl
theorem iSub_def (k:IntKind) (a b:Int):iSub k a b=(k.wrap (a - b)):=by unfold iSub; rw [WW_eq]; rfl
theorem iMul_def (k:IntKind) (a b:Int):iMul k a b=(k.wrap (a * b)):=by unfold iMul; rw [WW_eq]; rfl
theorem iQuo_def (k:IntKind) (a b:Int):iQuo k a b=(k.wrap (a.tdiv b)):=by unfold iQuo; rw [WW_eq]; rfl
theorem iRem_def (a b:Int):iRem a b=(a.tmod b):=by unfold iRem; rw [WW_eq]; rfl
theorem iAnd_def (k:IntKind) (a b:Int):iAnd k a b=(k.wrap (BitVec.ofInt k.bits a &&& BitVec.ofInt k.bits b).toNat):=by unfold iAnd; rw [WW_eq]; rfl
theorem iOr_def (k:IntKind) (a b:Int):iOr k a b=(k.wrap (BitVec.ofInt k.bits a ||| BitVec.ofInt k.bits b).toNat):=by unfold iOr; rw [WW_eq]; rfl
theorem iXor_def (k:IntKind) (a b:Int):iXor k a b=(k.wrap (BitVec.ofInt k.bits a ^^^ BitVec.ofInt k.bits b).toNat):=by unfold iXor; rw [WW_eq]; rfl
theorem iAndNot_def (k:IntKind) (a b:Int):iAndNot k a b=(k.wrap (BitVec.ofInt k.bits a &&& ~~~(BitVec.ofInt k.bits b)).toNat):=by unfold iAndNot; rw [WW_eq]; rfl
theorem iShl_def (k:IntKind) (a b:Int):iShl k a b=(k.wrap (a * 2 ^ (min b.toNat k.bits))):=by unfold iShl; rw [WW_eq]; rfl
theorem iShr_def (k:IntKind) (a b:Int):iShr k a b=(a.fdiv (2 ^ (min b.toNat k.bits))):=by unfold iShr; rw [WW_eq]; rfl
theorem iEq_def (a b:Int):iEq a b=(a == b):=by unfold iEq; rw [WW_eq]; rfl
theorem iNe_def (a b:Int):iNe a b=(a != b):=by unfold iNe; rw [WW_eq]; rfl
theorem iLt_def (a b:Int):iLt a b=(decide (a < b)):=by unfold iLt; rw [WW_eq]; rfl
theorem iLe_def (a b:Int):iLe a b=(decide (a≤b)):=by unfold iLe; rw [WW_eq]; rfl
theorem iGt_def (a b:Int):iGt a b=(decide (a > b)):=by unfold iGt; rw [WW_eq]; rfl
theorem iGe_def (a b:Int):iGe a b=(decide (a ≥ b)):=by unfold iGe; rw [WW_eq]; rfl
theorem iConv_def (k:IntKind) (n:Int):iConv k n=(k.wrap n):=by unfold iConv; rw [WW_eq]; rfl
theorem bEq_def (a b:Bool):bEq a b=(a == b):=by unfold bEq; rw [WW_eq]; rfl
theorem bNe_def (a b:Bool):bNe a b=(a != b):=by unfold bNe; rw [WW_eq]; rfl
theorem bNot_def (a:Bool):bNot a=(!a):=by unfold bNot; rw [WW_eq]; rfl
theorem bAnd_def (a b:Bool):bAnd a b=(a && b):=by unfold bAnd; rw [WW_eq]; rfl
theorem bOr_def (a b:Bool):bOr a b=(a || b):=by unfold bOr; rw [WW_eq]; rfl
theorem gNz_def (b:Int):gNz b=(decide (b≠0)):=by unfold gNz; rw [WW_eq]; rfl
theorem gNn_def (b:Int):gNn b=(decide (0≤b)):=by unfold gNn; rw [WW_eq]; rfl
theorem gCat_def (a b:List UInt8):gCat a b=(decide (a.length + b.length≤140737488355328)):=by unfold gCat; rw [WW_eq]; rfl
theorem gApp_def {α:Type} (xs ys:List α) (sz:Nat):gApp xs ys sz=(decide ((xs.length + ys.length) * sz≤4294967296)):=by unfold gApp; rw [WW_eq]; rfl
theorem gMk_def (m:Int) (sz:Nat):gMk m sz=(decide (0≤m∧m * sz≤4294967296)):=by unfold gMk; rw [WW_eq]; rfl
theorem gS2b_def (s:List UInt8):gS2b s=(decide (s.length≤4294967296)):=by unfold gS2b; rw [WW_eq]; rfl
theorem gLt_def (a b:Nat):gLt a b=(decide (a < b)):=by unfold gLt; rw [WW_eq]; rfl
theorem gZero_def (a b:Int):gZero a b=(decide (a=0∧b=0)):=by unfold gZero; rw [WW_eq]; rfl
theorem strLess_def (a b:List UInt8):strLess a b=(Go.Op.bytesLess a b):=by unfold strLess; rw [WW_eq]; rfl
theorem strEq_def (a b:List UInt8):strEq a b=(a == b):=by unfold strEq; rw [WW_eq]; rfl
theorem cat_def {α:Type} (a b:List α):cat a b=(a++b):=by unfold cat; rw [WW_eq]; rfl
theorem lenI_def {α:Type} (a:List α):lenI a=((a.length:Int)):=by unfold lenI; rw [WW_eq]; rfl
theorem lenN_def {α:Type} (a:List α):lenN a=(a.length):=by unfold lenN; rw [WW_eq]; rfl
theorem ofN_def (n:Nat):ofN n=(n):=by unfold ofN; rw [WW_eq]; rfl
theorem toN_def (n:Int):toN n=(n.toNat):=by unfold toN; rw [WW_eq]; rfl
theorem addN_def (n m:Nat):addN n m=(n + m):=by unfold addN; rw [WW_eq]; rfl
theorem sub_def {α:Type} (a:List α) (l n:Nat):sub a l n=((a.drop l).take n):=by unfold sub; rw [WW_eq]; rfl
theorem dropL_def {α:Type} (l:Nat) (a:List α):dropL l a=(a.drop l):=by unfold dropL; rw [WW_eq]; rfl
theorem setL_def {α:Type} (a:List α) (i:Nat) (y:α):setL a i y=(a.set i y):=by unfold setL; rw [WW_eq]; rfl
theorem repL_def {α:Type} (n:Nat) (y:α):repL n y=(List.replicate n y):=by unfold repL; rw [WW_eq]; rfl
theorem byteI_def (b:UInt8):byteI b=((b.toNat:Int)):=by unfold byteI; rw [WW_eq]; rfl
theorem bytesP_def (s:List UInt8):bytesP s=s.map byteI:=by
 unfold bytesP; rw [WW_eq]
 show s.map R.byteI=s.map byteI
 rw [show byteI=R.byteI from funext fun b=>byteI_def b]
theorem strP_def (s:List Int):strP s=(s.map fun n=>UInt8.ofNat n.toNat):=by unfold strP; rw [WW_eq]; rfl
theorem litS_def (s:List Nat):litS s=(s.map UInt8.ofNat):=by unfold litS; rw [WW_eq]; rfl
theorem iMin_def (a b:Int):iMin a b=(if b < a then b else a):=by unfold iMin; rw [WW_eq]; rfl
theorem iMax_def (a b:Int):iMax a b=(if b > a then b else a):=by unfold iMax; rw [WW_eq]; rfl
theorem idxK_def {α ρ:Type} (xs:List α) (i:Int) (k:α→Option ρ):idxK xs i k=(if 0≤i then (match xs[i.toNat]? with | some x=>k x | none=>none) else none):=by unfold idxK; rw [WW_eq]; rfl
theorem bindK_def {α ρ:Type} (o:Option α) (k:α→Option ρ):bindK o k=(match o with | some a=>k a | none=>none):=by unfold bindK; rw [WW_eq]; rfl
theorem joinK_def {σ ρ:Type} (k:σ→Option ρ) (b:(σ→Option ρ)→Option ρ):joinK k b=(b k):=by unfold joinK; rw [WW_eq]; rfl
theorem loopF_eq {σ ρ:Type} (F:(σ→Option ρ)→σ→Option ρ) (n:Nat) (s:σ):loopF F n s=R.loopF F n s:=by unfold loopF; rw [WW_eq]; rfl
theorem loopF_zero {σ ρ:Type} (F:(σ→Option ρ)→σ→Option ρ) (s:σ):loopF F 0 s=none:=loopF_eq F 0 s
theorem loopF_succ {σ ρ:Type} (F:(σ→Option ρ)→σ→Option ρ) (n:Nat) (s:σ):loopF F (n + 1) s=F (loopF F n) s:=by
 rw [loopF_eq]
 show F (R.loopF F n) s=_
 rw [show R.loopF F n=loopF F n from funext fun s=>(loopF_eq F n s).symm]
inductive PV where
 | d (p:Bool) (t:Kd) (x:t.den)
 | agg (cs:List PV)
 | nils
 | own (a:Nat)
 | win (a off len:Nat)
 | cp (a off:Nat)
 | ep (a ver i off:Nat) (e:Kd) (x:e.den)
 | tp (p:Bool) (e:Kd) (x:e.den) (off:Nat)
 | kp (tmp:Nat) (v:PV) (off:Nat)
 | fn (f:Nat) (caps:List PV)
 | tup (l:List PV)
 | undef
 | np
 deriving Inhabited
inductive PObj where
 | sl (ro:Bool) (ver:Nat) (tmp:Option Nat) (sz:Nat) (e:Kd) (deep:Bool) (xs:List e.den)
 | cell (ro:Bool) (tmp:Option Nat) (v:PV)
def tmpO:PObj→Option Nat
 | .sl _ _ tmp _ _ _ _=>tmp
 | .cell _ tmp _=>tmp
def roOf:PObj→Bool
 | .sl ro _ _ _ _ _ _=>ro
 | .cell ro _ _=>ro
structure PS where
 env:List (Nat×PV)
 anc:List PV
 heap:List (Option PObj)
def look:List (Nat×PV)→Nat→PV
 | [],_=>.undef
 | (a,v) :: r,t=>match Nat.beq a t with | true=>v | false=>look r t
def hget:List (Option PObj)→Nat→Option PObj
 | [],_=>none
 | o :: _,0=>o
 | _ :: r,n + 1=>hget r n
def hset:List (Option PObj)→Nat→Option PObj→List (Option PObj)
 | [],_,_=>[]
 | _ :: r,0,x=>x :: r
 | o :: r,n + 1,x=>o :: hset r n x
def PS.put (ps:PS):Option Nat→PV→PS
 | none,_=>ps
 | some t,v=>{ ps with env:=(t,v) :: ps.env }
def leafsP (p:Bool):(fs:List Kd)→Kd.dens fs→List PV
 | [],_=>[]
 | t :: r,x=>.d p t x.1 :: leafsP p r x.2
def PV.cells:PV→List PV
 | .agg cs=>cs
 | .d p (.st fs) x=>leafsP p fs x
 | v=>[v]
def PV.isAgg:PV→Bool
 | .agg _=>true
 | .d _ (.st _) _=>true
 | _=>false
def castK (t t':Kd) (x:t.den):Option t'.den:=if h:Kd.beq t t'=true then some (Kd.beq_eq t t' h ▸ x) else none
def asLeaf (hp:List (Option PObj)) (t:Kd):PV→Option t.den
 | .d _ t' x=>castK t' t x
 | .nils=>match t with | .sl sz e=>some ([]:List e.den) | _=>none
 | .own a=>match hget hp a with | some (.sl _ _ _ sz e _ xs)=>castK (.sl sz e) t xs | _=>none
 | .win a off len=>match hget hp a with | some (.sl _ _ _ sz e _ xs)=>castK (.sl sz e) t (sub xs off len) | _=>none
 | _=>none
def asDs (hp:List (Option PObj)):(fs:List Kd)→List PV→Option (Kd.dens fs)
 | [],[]=>some ()
 | t :: r,v :: q=>match t.isS,asLeaf hp t v,asDs hp r q with | false,some x,some y=>some (x,y) | _,_,_=>none
 | _,_=>none
def asSt (hp:List (Option PObj)) (fs:List Kd):PV→Option (Kd.dens fs)
 | .agg cs=>asDs hp fs cs
 | .d _ t' x=>castK t' (.st fs) x
 | _=>none
def asD (hp:List (Option PObj)):(t:Kd)→PV→Option t.den
 | .st fs,v=>asSt hp fs v
 | .int k,v=>asLeaf hp (.int k) v
 | .bool,v=>asLeaf hp .bool v
 | .str,v=>asLeaf hp .str v
 | .sl sz e,v=>asLeaf hp (.sl sz e) v
def freeLeaf:PV→Bool
 | .d p t _=>p || t.flat
 | .nils | .own _ | .win _ _ _=>true
 | _=>false
def freeV:PV→Bool
 | .agg cs=>cs.all freeLeaf
 | v=>freeLeaf v
def nameLeaf:PV→List Nat
 | .own a=>[a]
 | .win a _ _=>[a]
 | _=>[]
def namesV:PV→List Nat
 | .agg cs=>cs.flatMap nameLeaf
 | v=>nameLeaf v
def intP:PV→Option (IntKind×Int)
 | .d _ (.int k) n=>some (k,n)
 | _=>none
def boolP:PV→Option Bool
 | .d _ .bool b=>some b
 | _=>none
def bytP:PV→Option (List UInt8)
 | .d _ .str s=>some s
 | _=>none
def scalarLeaf:PV→Bool
 | .d _ t _=>t.flat && !t.isS
 | _=>false
def ownSl (hp:List (Option PObj)) (sz:Nat) (e:Kd):PV→Option (List e.den×List Nat)
 | .nils=>some ([],[])
 | .own a=>match hget hp a with
  | some (.sl false _ none sz' e' true xs)=>(match castK (.sl sz' e') (.sl sz e) xs with | some x=>some (x,[a]) | none=>none)
  | _=>none
 | .win a off len=>match hget hp a with
  | some (.sl false _ none sz' e' true xs)=>(match e'.flat,castK (.sl sz' e') (.sl sz e) (sub xs off len) with | true,some x=>some (x,[a]) | _,_=>none)
  | _=>none
 | _=>none
def plainL (hp:List (Option PObj)) (t:Kd) (v:PV):Option (t.den×List Nat):=match asLeaf hp t v with | some x=>some (x,[]) | none=>none
def ownLeaf (hp:List (Option PObj)):(t:Kd)→PV→Option (t.den×List Nat)
 | .sl sz e,v=>ownSl hp sz e v
 | .st fs,v=>plainL hp (.st fs) v
 | .int k,v=>plainL hp (.int k) v
 | .bool,v=>plainL hp .bool v
 | .str,v=>plainL hp .str v
def ownLeafs (hp:List (Option PObj)):(fs:List Kd)→List PV→Option (Kd.dens fs×List Nat)
 | [],[]=>some ((),[])
 | t :: r,v :: q=>match t.isS,ownLeaf hp t v,ownLeafs hp r q with | false,some (x,a),some (y,b)=>some ((x,y),a++b) | _,_,_=>none
 | _,_=>none
def asOwn (hp:List (Option PObj)):(t:Kd)→PV→Option (t.den×List Nat)
 | .st fs,v=>match v.isAgg with | true=>ownLeafs hp fs v.cells | false=>none
 | .int k,v=>ownLeaf hp (.int k) v
 | .bool,v=>ownLeaf hp .bool v
 | .str,v=>ownLeaf hp .str v
 | .sl sz e,v=>ownLeaf hp (.sl sz e) v
def ownifyL (n:Nat):(t:Kd)→t.den→PV×List (Option PObj)
 | .sl sz e,x=>(.own n,[some (.sl false 0 none sz e true x)])
 | t,x=>(.d true t x,[])
def ownifyS:(n:Nat)→(fs:List Kd)→Kd.dens fs→List PV×List (Option PObj)
 | _,[],_=>([],[])
 | n,t :: r,x=>match ownifyL n t x.1 with
  | (v,o)=>match ownifyS (n + o.length) r x.2 with | (vs,os)=>(v :: vs,o++os)
def ownify (n:Nat):(t:Kd)→t.den→PV×List (Option PObj)
 | .st fs,x=>match ownifyS n fs x with | (vs,os)=>(.agg vs,os)
 | t,x=>ownifyL n t x
def delN:List (Option PObj)→List Nat→List (Option PObj)
 | hp,[]=>hp
 | hp,a :: r=>delN (hset hp a none) r
abbrev Hints:=List (Nat×Kd×Bool)
def hintOf:Hints→Nat→Option (Kd×Bool)
 | [],_=>none
 | (a,k) :: r,t=>match Nat.beq a t with | true=>some k | false=>hintOf r t
def elemHint (hn:Hints):Option Nat→Option (Nat×Kd)
 | some t=>match hintOf hn t with | some (.sl sz e,_)=>some (sz,e) | _=>none
 | none=>none
def constV:Value→PV
 | .int k n=>.d true (.int k) n
 | .bool b=>.d true .bool b
 | .string s=>.d true .str (litS (s.data.toList.map UInt8.toNat))
 | .pointer none=>.np
 | _=>.undef
def constA:AV→PV
 | .c (.s v)=>constV v
 | .agg cs=>.agg (go cs)
 | .nils=>.nils
 | .fn f []=>.fn f []
 | _=>.undef
where go:List AV→List PV
 | []=>[]
 | .c (.s v) :: r=>constV v :: go r
 | .nils :: r=>.nils :: go r
 | _ :: r=>.undef :: go r
def pev (ps:PS):Opd→PV
 | .t n=>look ps.env n
 | .k v=>constA v
def pureLeaf:PV→Bool
 | .d p t _=>p || t.flat
 | .nils=>true
 | _=>false
def pureCap:PV→Bool
 | .kp _ v _=>(match v with | .agg cs=>cs.all pureLeaf | v=>pureLeaf v)
 | .tp p _ _ _=>p
 | v=>pureLeaf v
def pureV:PV→Bool
 | .agg cs=>cs.all pureLeaf
 | .fn _ cs=>cs.all pureCap
 | .tp p _ _ _=>p
 | .kp _ v _=>(match v with | .agg cs=>cs.all pureLeaf | v=>pureLeaf v)
 | v=>pureLeaf v
mutual
def hasKp (t:Nat):PV→Bool
 | .kp t' _ _=>Nat.beq t t'
 | .fn _ cs=>hasKps t cs
 | .agg cs=>hasKps t cs
 | .tup cs=>hasKps t cs
 | _=>false
def hasKps (t:Nat):List PV→Bool
 | []=>false
 | v :: r=>hasKp t v || hasKps t r
end
def killE (t:Nat):List (Nat×PV)→List (Nat×PV)
 | []=>[]
 | (u,v) :: r=>(u,match hasKp t v with | true=>.undef | false=>v) :: killE t r
def cellLeaf:PV→Bool
 | .d _ t _=>!t.isS
 | .nils | .own _ | .cp _ _ | .np=>true
 | _=>false
def cellOK:PV→Bool
 | .agg cs=>cs.all cellLeaf && !cs.isEmpty
 | .d _ (.st fs) _=>!fs.isEmpty
 | v=>cellLeaf v
def delO (t:Nat):Option PObj→Option PObj
 | some ob=>(match tmpO ob with
  | some u=>(match Nat.beq u t with | true=>none | false=>some ob)
  | none=>some ob)
 | none=>none
def delT (t:Nat) (hp:List (Option PObj)):List (Option PObj):=hp.map (delO t)
def PS.new (ps:PS) (o:PObj):PS:={ ps with heap:=ps.heap++[some o] }
section
variable {ρ:Type}
def binI (op:BinOp) (kd:IntKind) (a b:Int) (k:PV→Option ρ):Option ρ:=
 match op with
 | .add=>k (.d true (.int kd) (iAdd kd a b))
 | .sub=>k (.d true (.int kd) (iSub kd a b))
 | .mul=>k (.d true (.int kd) (iMul kd a b))
 | .quo=>guardK (gNz b) (k (.d true (.int kd) (iQuo kd a b)))
 | .rem=>guardK (gNz b) (k (.d true (.int kd) (iRem a b)))
 | .and=>k (.d true (.int kd) (iAnd kd a b))
 | .or=>k (.d true (.int kd) (iOr kd a b))
 | .xor=>k (.d true (.int kd) (iXor kd a b))
 | .andNot=>k (.d true (.int kd) (iAndNot kd a b))
 | .eql=>k (.d true .bool (iEq a b))
 | .neq=>k (.d true .bool (iNe a b))
 | .lss=>k (.d true .bool (iLt a b))
 | .leq=>k (.d true .bool (iLe a b))
 | .gtr=>k (.d true .bool (iGt a b))
 | .geq=>k (.d true .bool (iGe a b))
 | .shl=>guardK (gNn b) (k (.d true (.int kd) (iShl kd a b)))
 | .shr=>guardK (gNn b) (k (.d true (.int kd) (iShr kd a b)))
def isShift:BinOp→Bool
 | .shl | .shr=>true
 | _=>false
def binS' (op:BinOp) (a b:List UInt8) (k:PV→Option ρ):Option ρ:=
 match op with
 | .add=>guardK (gCat a b) (k (.d true .str (cat a b)))
 | .eql=>k (.d true .bool (strEq a b))
 | .neq=>k (.d true .bool (bNot (strEq a b)))
 | .lss=>k (.d true .bool (strLess a b))
 | .leq=>k (.d true .bool (bOr (strLess a b) (strEq a b)))
 | .gtr=>k (.d true .bool (bNot (bOr (strLess a b) (strEq a b))))
 | .geq=>k (.d true .bool (bNot (strLess a b)))
 | _=>none
def eqLeaf (l:Lf) (x y:PV):Option Bool:=
 match l with
 | .i=>match intP x,intP y with | some (k,a),some (k',b)=>if k=k' then some (iEq a b) else none | _,_=>none
 | .s=>match bytP x,bytP y with | some a,some b=>some (strEq a b) | _,_=>none
 | .b=>match boolP x,boolP y with | some a,some b=>some (bEq a b) | _,_=>none
def eqLeafs:List Lf→List PV→List PV→Option Bool
 | [],[],[]=>some true
 | [l],[x],[y]=>eqLeaf l x y
 | l :: ls,x :: r,y :: q=>match eqLeaf l x y,eqLeafs ls r q with | some a,some b=>some (bAnd a b) | _,_=>none
 | _,_,_=>none
def intsOf:List PV→Option (List Int)
 | []=>some []
 | v :: r=>match intP v,intsOf r with | some (.i64,n),some l=>some (n :: l) | _,_=>none
def minmaxI (mx:Bool):List Int→Int→Int
 | [],a=>a
 | b :: r,a=>minmaxI mx r (match mx with | true=>iMax a b | false=>iMin a b)
def optP (ps:PS):Option Opd→Option (Option Int)
 | none=>some none
 | some y=>match intP (pev ps y) with | some (_,n)=>some (some n) | none=>none
def boundK (len:Nat) (lo hi:Option Int) (k:Nat→Nat→Option ρ):Option ρ:=
 bndK len (match lo with | some l=>l | none=>0) (match hi with | some h=>h | none=>ofN len) k
def elemsP (hp:List (Option PObj)) (e:Kd):List PV→Option (List e.den×List Nat×Bool)
 | []=>some ([],[],true)
 | v :: r=>match elemsP hp e r with
  | some (xs,ns,ow)=>(match asOwn hp e v with
   | some (x,m)=>some (x :: xs,m++ns,ow)
   | none=>match asD hp e v,namesV v with | some x,[]=>some (x :: xs,ns,false) | _,_=>none)
  | none=>none
def srcP (hp:List (Option PObj)) (sz:Nat) (e:Kd):PV→Option (List e.den×Option Nat×Bool)
 | .own a=>match hget hp a with
  | some (.sl ro _ _ sz' e' dp xs)=>(match castK (.sl sz' e') (.sl sz e) xs with | some x=>some (x,some a,dp && !ro) | none=>none)
  | _=>none
 | .win a off len=>match hget hp a with
  | some (.sl _ _ _ sz' e' dp xs)=>(match castK (.sl sz' e') (.sl sz e) (sub xs off len) with | some x=>some (x,none,e.flat) | none=>none)
  | _=>none
 | .d _ .str s=>match castK (.sl 1 (.int .u8)) (.sl sz e) (bytesP s) with | some x=>some (x,none,e.flat) | none=>none
 | .d _ (.sl sz' e') x=>match castK (.sl sz' e') (.sl sz e) x with | some x=>some (x,none,e.flat) | none=>none
 | .nils=>some ([],none,true)
 | _=>none
def srcTy (hp:List (Option PObj)):PV→Option (Nat×Kd)
 | .own a=>match hget hp a with | some (.sl _ _ _ sz e _ _)=>some (sz,e) | _=>none
 | .win a _ _=>match hget hp a with | some (.sl _ _ _ sz e _ _)=>some (sz,e) | _=>none
 | .d _ (.sl sz e) _=>some (sz,e)
 | .d _ .str _=>some (1,.int .u8)
 | _=>none
def opt1 {α:Type}:Option α→List α
 | some a=>[a]
 | none=>[]
def nodupB:List Nat→Bool
 | []=>true
 | a :: r=>!r.elem a && nodupB r
def delTo:Option Nat→List (Option PObj)→List (Option PObj)
 | some t,hp=>delT t hp
 | none,hp=>hp
def killTo:Option Nat→List (Nat×PV)→List (Nat×PV)
 | some t,e=>killE t e
 | none,e=>e
def PS.newSl (ps:PS) (tm:Option Nat) (ds:List Nat) (sz:Nat) (e:Kd) (dp:Bool) (xs:List e.den):PS:=
 { ps with env:=killTo tm ps.env,heap:=delTo tm (delN ps.heap ds)++[some (.sl false 0 tm sz e dp xs)] }
def appendP (ps:PS) (sz:Nat) (e:Kd) (del:List Nat) (base:List e.den) (dp:Bool) (y:PV) (k:PV→PS→Option ρ):Option ρ:=
 match srcP ps.heap sz e y with
 | some (ys,nm,ow)=>
  if (del.any fun a=>(opt1 nm).elem a)=true then none else
  if (nm.isNone || e.flat || ow)=true then
   guardK (gApp base ys sz) (k (.own ps.heap.length) (ps.newSl none (del++(if (dp && ow && !e.flat)=true then opt1 nm else [])) sz e (dp && ow) (cat base ys)))
  else none
 | none=>none
def putP (hp:List (Option PObj)) (e:Kd) (dp:Bool) (v:PV):Option (e.den×List Nat):=
 match dp with
 | true=>(match asOwn hp e v with | some (y,ns)=>(match nodupB ns with | true=>some (y,ns) | false=>none) | none=>none)
 | false=>(match asD hp e v,namesV v with | some y,[]=>some (y,[]) | _,_=>none)
def storeDP (ps:PS) (c ver ver':Nat) (tmp:Option Nat) (sz:Nat) (e:Kd) (dp:Bool) (xs:List e.den) (i n off:Nat) (v:PV) (k:PV→PS→Option ρ):Option ρ:=
 match Nat.beq ver ver' && (Nat.beq off 0 && Nat.beq n e.cn),putP ps.heap e dp v with
 | true,some (y,ns)=>(match ns.elem c with
  | true=>none
  | false=>k .undef { ps with heap:=hset (delN ps.heap ns) c (some (.sl false (ver' + 1) tmp sz e dp (setL xs i y))) })
 | _,_=>none
def setLs:(fs:List Kd)→Kd.dens fs→Nat→PV→Option (Kd.dens fs)
 | t :: r,x,0,.d _ t' y=>(match t.isS || !t.flat,castK t' t y with | false,some z=>some (z,x.2) | _,_=>none)
 | _ :: r,x,n + 1,v=>(match setLs r x.2 n v with | some y=>some (x.1,y) | none=>none)
 | _,_,_,_=>none
def setF:(e:Kd)→e.den→Nat→PV→Option e.den
 | .st fs,x,off,v=>setLs fs x off v
 | _,_,_,_=>none
def storeFP (ps:PS) (c ver ver':Nat) (tmp:Option Nat) (sz:Nat) (e:Kd) (dp:Bool) (xs:List e.den) (i off:Nat) (e1:Kd) (x1:e1.den) (v:PV) (k:PV→PS→Option ρ):Option ρ:=
 match Nat.beq ver ver',castK e1 e x1 with
 | true,some x=>(match setF e x off v with
  | some y=>k .undef { ps with heap:=hset ps.heap c (some (.sl false (ver' + 1) tmp sz e dp (setL xs i y))) }
  | none=>none)
 | _,_=>none
structure FX where
 sz:Nat
 e:Kd
 ys:List e.den
def getFs:(fs:List Kd)→Kd.dens fs→Nat→Option FX
 | .sl sz e :: _,x,0=>some ⟨sz,e,x.1⟩
 | _ :: r,x,n + 1=>getFs r x.2 n
 | _,_,_=>none
def getF:(e:Kd)→e.den→Nat→Option FX
 | .sl sz e,x,0=>some ⟨sz,e,x⟩
 | .st fs,x,n=>getFs fs x n
 | _,_,_=>none
def putFs:(fs:List Kd)→Kd.dens fs→Nat→(sz:Nat)→(e:Kd)→List e.den→Option (Kd.dens fs)
 | t :: _,x,0,sz,e,ys=>(match castK (.sl sz e) t ys with | some y=>some (y,x.2) | none=>none)
 | _ :: r,x,n + 1,sz,e,ys=>(match putFs r x.2 n sz e ys with | some y=>some (x.1,y) | none=>none)
 | [],_,_,_,_,_=>none
def putF:(e0:Kd)→e0.den→Nat→(sz:Nat)→(e:Kd)→List e.den→Option e0.den
 | .sl s0 e0,_,0,sz,e,ys=>castK (.sl sz e) (.sl s0 e0) ys
 | .st fs,x,n,sz,e,ys=>putFs fs x n sz e ys
 | _,_,_,_,_,_=>none
def lenL:List PV→Nat
 | []=>0
 | _ :: r=>lenL r + 1
def nthL:List PV→Nat→Option PV
 | [],_=>none
 | x :: _,0=>some x
 | _ :: r,n + 1=>nthL r n
def tup1:List PV→PV
 | [x]=>x
 | l=>.tup l
def opP (hn:Hints) (pm:List Nat) (dst:Option Nat) (ps:PS) (o:AOp) (k:PV→PS→Option ρ):Option ρ:=
 match o with
 | .mov x=>k (pev ps x) ps
 | .pick c a b=>match boolP (pev ps c),pev ps a,pev ps b with
  | some t,.d p tx x,.d q ty y=>(match castK ty tx y with
   | some y=>k (.d (p && q) tx (bif t then x else y)) ps
   | none=>none)
  | _,_,_=>none
 | .nilc x=>match pev ps x with
  | .cp a f=>k (.cp a f) ps
  | .ep a v i f e x=>k (.ep a v i f e x) ps
  | .tp p e x f=>k (.tp p e x f) ps
  | .kp t v f=>k (.kp t v f) ps
  | .fn f l=>k (.fn f l) ps
  | _=>none
 | .alloc z=>match dst with
  | some t=>(match cellOK (constA z) with
   | true=>k (.cp ps.heap.length 0) { ps with env:=killE t ps.env,heap:=delT t ps.heap++[some (.cell false (some t) (constA z))] }
   | false=>none)
  | none=>none
 | .box x=>match dst,cellOK (pev ps x) with
  | some t,true=>(match pm.elem t && pureV (pev ps x) with
   | true=>k (.kp t (pev ps x) 0) { ps with env:=killE t ps.env,heap:=delT t ps.heap }
   | false=>k (.cp ps.heap.length 0) { ps with env:=killE t ps.env,heap:=delT t ps.heap++[some (.cell false (some t) (pev ps x))] })
  | _,_=>none
 | .build zero parts=>match fillP (zero.map constA) (parts.map fun p=>(p.1,p.2.1,pev ps p.2.2)) with
  | some cs=>k (.agg cs) ps
  | none=>none
 | .bslice sz l=>match dst,elemHint hn dst with
  | some t,some (sz',e)=>if sz=sz'∧sz=e.cn∧0 < sz then (match elemsP ps.heap e (l.map (pev ps)) with
   | some (xs,ns,ow)=>if nodupB ns=true∧(ow=true∨ns=[]) then k (.own ps.heap.length) (ps.newSl (some t) ns sz e ow xs) else none
   | none=>none) else none
  | _,_=>none
 | .bsliceD sz l=>match elemHint hn dst with
  | some (sz',e)=>if sz=sz'∧sz=e.cn∧0 < sz then (match elemsP ps.heap e (l.map (pev ps)) with
   | some (xs,ns,ow)=>if nodupB ns=true∧(ow=true∨ns=[]) then k (.own ps.heap.length) (ps.newSl none ns sz e ow xs) else none
   | none=>none) else none
  | _=>none
 | .load ag n a=>match pev ps a with
  | .cp c off=>(match hget ps.heap c with
   | some (.cell _ _ v)=>loadP ag n off v k ps
   | _=>none)
  | .ep c ver i off e x=>(match hget ps.heap c with
   | some (.sl ro ver' _ _ _ _ _)=>(match Nat.beq ver ver' with | true=>loadP ag n off (.d false e x) k ps | false=>none)
   | _=>none)
  | .tp p e x off=>loadP ag n off (.d p e x) k ps
  | .kp _ v off=>loadP ag n off v k ps
  | _=>none
 | .store n a x=>match pev ps a,cellOK (pev ps x) with
  | .cp c off,true=>(match hget ps.heap c with
   | some (.cell false tmp u)=>(match storeC n off u (pev ps x) with
    | some u'=>(match promT pm ps c off tmp u' with
     | some t=>k .undef { ps with env:=(t,.kp t u' 0) :: ps.env,heap:=hset ps.heap c none }
     | none=>k .undef { ps with heap:=hset ps.heap c (some (.cell false tmp u')) })
    | none=>none)
   | _=>none)
  | .ep c ver i off e x',true=>(match hget ps.heap c with
   | some (.sl false ver' tmp sz e' dp xs)=>(match e.flat with
    | true=>(match Nat.beq ver ver',storeE ps.heap n off e x' (pev ps x) with
     | true,some y=>(match castK e e' y with
       | some y=>k .undef { ps with heap:=hset ps.heap c (some (.sl false (ver' + 1) tmp sz e' dp (setL xs i y))) }
       | none=>none)
     | _,_=>none)
    | false=>(match Nat.beq off 0 && Nat.beq n e'.cn,Nat.beq n 1 with
     | false,true=>storeFP ps c ver ver' tmp sz e' dp xs i off e x' (pev ps x) k
     | _,_=>storeDP ps c ver ver' tmp sz e' dp xs i n off (pev ps x) k))
   | _=>none)
  | _,_=>none
 | .bin op x y=>match intP (pev ps x),intP (pev ps y) with
  | some (kd,a),some (kd',b)=>if kd=kd'∨isShift op=true then binI op kd a b (fun v=>k v ps) else none
  | _,_=>(match bytP (pev ps x),bytP (pev ps y) with
   | some a,some b=>binS' op a b (fun v=>k v ps)
   | _,_=>none)
 | .binB op x y=>match boolP (pev ps x),boolP (pev ps y) with
  | some a,some b=>(match op with
   | .eql=>k (.d true .bool (bEq a b)) ps
   | .neq=>k (.d true .bool (bNe a b)) ps
   | _=>none)
  | _,_=>none
 | .binS neg ls x y=>match (pev ps x).isAgg,(pev ps y).isAgg,eqLeafs ls (pev ps x).cells (pev ps y).cells with
  | true,true,some r=>k (.d true .bool (match neg with | true=>bNot r | false=>r)) ps
  | _,_,_=>none
 | .un op x=>match op with
  | .not=>(match boolP (pev ps x) with | some b=>k (.d true .bool (bNot b)) ps | none=>none)
  | .neg=>(match intP (pev ps x) with | some (kd,n)=>k (.d true (.int kd) (iSub kd 0 n)) ps | none=>none)
  | _=>none
 | .conv kd x=>match intP (pev ps x) with
  | some (_,n)=>k (.d true (.int kd) (iConv kd n)) ps
  | none=>none
 | .same x=>match bytP (pev ps x) with
  | some s=>k (.d true .str s) ps
  | none=>none
 | .b2s x=>match asLeaf ps.heap (.sl 1 (.int .u8)) (pev ps x) with
  | some xs=>k (.d true .str (strP xs)) ps
  | none=>none
 | .s2b x=>match bytP (pev ps x) with
  | some s=>guardK (gS2b s) (k (.own ps.heap.length) (ps.newSl none [] 1 (.int .u8) true (bytesP s)))
  | none=>none
 | .mkfn f caps=>k (.fn f (caps.map (pev ps))) ps
 | .mksl sz zero n=>match elemHint hn dst,intP (pev ps n) with
  | some (sz',e),some (_,m)=>if sz=sz'∧sz=e.cn∧0 < sz then (match asOwn [] e (constA zero) with
   | some (z,_)=>guardK (gMk m sz) (k (.own ps.heap.length) (ps.newSl none [] sz e true (repL (toN m) z)))
   | none=>none) else none
  | _,_=>none
 | .slice sz x lo hi mx=>match optP ps lo,optP ps hi,optP ps mx with
  | some lo,some hi,some none=>(match bytP (pev ps x) with
   | some s=>if sz=0 then boundK (lenN s) lo hi (fun l n=>k (.d true .str (sub s l n)) ps) else none
   | none=>if sz=0 then none else (match pev ps x with
    | .d p (.sl sz' e) s=>if sz=sz' then boundK (lenN (s:List e.den)) lo hi (fun l n=>k (.d p (.sl sz' e) (sub (s:List e.den) l n)) ps) else none
    | .own a=>(match hget ps.heap a with
     | some (.sl _ _ _ sz' e _ s)=>if sz=sz' then boundK (lenN s) lo hi (fun l n=>k (.win a l n) ps) else none
     | _=>none)
    | .nils=>guardK (gZero (match lo with | some l=>l | none=>0) (match hi with | some h=>h | none=>0)) (k .nils ps)
    | _=>none))
  | _,_,_=>none
 | .faddr x off=>match pev ps x with
  | .cp a f=>k (.cp a (f + off)) ps
  | .ep a v i f e x=>k (.ep a v i (f + off) e x) ps
  | .tp p e x f=>k (.tp p e x (f + off)) ps
  | .kp t v f=>k (.kp t v (f + off)) ps
  | _=>none
 | .field x off n ag=>match (pev ps x).isAgg with
  | true=>if off + n≤(pev ps x).cells.length then
    (match ag with
    | true=>k (.agg (((pev ps x).cells.drop off).take n)) ps
    | false=>match (pev ps x).cells[off]? with | some v=>k v ps | none=>none) else none
  | false=>none
 | .iaddr sz x i=>match intP (pev ps i) with
  | some (_,j)=>(match pev ps x with
   | .d p (.sl sz' e) xs=>if sz=sz' then idxK xs j (fun y=>k (.tp p e y 0) ps) else none
   | .own a=>(match hget ps.heap a with
    | some (.sl _ ver _ sz' e _ xs)=>if sz=sz' then idxK xs j (fun y=>k (.ep a ver (toN j) 0 e y) ps) else none
    | _=>none)
   | .win a off len=>(match hget ps.heap a with
    | some (.sl _ ver _ sz' e _ xs)=>if sz=sz' then guardK (gLt (toN j) len) (idxK (dropL off xs) j (fun y=>k (.ep a ver (addN off (toN j)) 0 e y) ps)) else none
    | _=>none)
   | _=>none)
  | none=>none
 | .index x i=>match bytP (pev ps x),intP (pev ps i) with
  | some s,some (_,j)=>idxK s j (fun b=>k (.d true (.int .u8) (byteI b)) ps)
  | _,_=>none
 | .len str x=>match str with
  | true=>(match bytP (pev ps x) with | some s=>k (.d true (.int .i64) (lenI s)) ps | none=>none)
  | false=>(match pev ps x with
   | .d _ (.sl _ e) xs=>k (.d true (.int .i64) (lenI (xs:List e.den))) ps
   | .nils=>k (.d true (.int .i64) (0:Int)) ps
   | .own a=>(match hget ps.heap a with | some (.sl _ _ _ _ _ _ xs)=>k (.d true (.int .i64) (lenI xs)) ps | _=>none)
   | .win _ _ len=>k (.d true (.int .i64) (ofN len)) ps
   | _=>none)
 | .append sz x y=>match pev ps x with
  | .nils=>(match (match srcTy ps.heap (pev ps y) with | some q=>some q | none=>elemHint hn dst) with
   | some (sz',e)=>if sz=sz'∧sz=e.cn∧0 < sz then appendP ps sz e [] [] true (pev ps y) k else none
   | none=>none)
  | .own a=>(match hget ps.heap a with
   | some (.sl false _ none sz' e dp xs)=>if sz=sz' then appendP ps sz e [a] xs dp (pev ps y) k else none
   | _=>none)
  | .win a off len=>(match hget ps.heap a with
   | some (.sl false _ none sz' e dp xs)=>if sz=sz'∧e.flat=true then appendP ps sz e [a] (sub xs off len) dp (pev ps y) k else none
   | _=>none)
  | _=>none
 | .minmax mx l=>match intsOf (l.map (pev ps)) with
  | some (a :: r)=>k (.d true (.int .i64) (minmaxI mx r a)) ps
  | _=>none
 | .extract x i=>match pev ps x with
  | .tup l=>(match l[i]? with | some v=>k v ps | none=>none)
  | _=>none
 | .caps x g m i=>match pev ps x with
  | .fn g' l=>(match Nat.beq g' g && Nat.beq (lenL l) m with
   | true=>(match nthL l i with | some v=>k v ps | none=>k (.tup []) ps)
   | false=>none)
  | _=>none
 | .tupl l=>k (tup1 (l.map (pev ps))) ps
 | .clear z x=>match pev ps x with
  | .own a=>(match hget ps.heap a with
   | some (.sl false ver tmp sz e dp xs)=>(match e.flat,asOwn [] e (constA z) with
    | true,some (y,_)=>k (.tup []) { ps with heap:=hset ps.heap a (some (.sl false (ver + 1) tmp sz e dp (repL (lenN xs) y))) }
    | _,_=>none)
   | _=>none)
  | .win a off len=>(match hget ps.heap a with
   | some (.sl false ver tmp sz e dp xs)=>(match e.flat,asOwn [] e (constA z) with
    | true,some (y,_)=>k (.tup []) { ps with heap:=hset ps.heap a (some (.sl false (ver + 1) tmp sz e dp (cat (sub xs 0 off) (cat (repL len y) (dropL (addN off len) xs))))) }
    | _,_=>none)
   | _=>none)
  | .nils=>k (.tup []) ps
  | _=>none
 | _=>none
where
 promT (pm:List Nat) (ps:PS) (c off:Nat) (tmp:Option Nat) (u:PV):Option Nat:=
  match tmp,off with
  | some t,0=>(match look ps.env t with
   | .cp c' 0=>if pm.elem t && (pureV u && Nat.beq c c') then some t else none
   | _=>none)
  | _,_=>none
 loadP (ag:Bool) (n off:Nat) (v:PV) (k:PV→PS→Option ρ) (ps:PS):Option ρ:=
  match ag with
  | false=>(match v.cells[off]? with | some u=>k u ps | none=>none)
  | true=>(match v.isAgg with
   | true=>if off=0∧n=v.cells.length then k v ps else if off + n≤v.cells.length then k (.agg ((v.cells.drop off).take n)) ps else none
   | false=>none)
 storeP (n off:Nat) (u v:PV):Option PV:=
  if v.cells.length=n∧off + n≤u.cells.length then
   (match u.isAgg with
   | true=>if off=0∧n=u.cells.length∧v.isAgg=true then some v else some (.agg (u.cells.take off++v.cells++u.cells.drop (off + n)))
   | false=>if off=0∧v.isAgg=false then some v else none)
  else none
 storeC (n off:Nat) (u v:PV):Option PV:=match storeP n off u v with
  | some (.d p (.st fs) x)=>some (.agg (leafsP p fs x))
  | o=>o
 storeE (hp:List (Option PObj)) (n off:Nat) (e:Kd) (x:e.den) (v:PV):Option e.den:=
  match e.flat with
  | true=>(match storeP n off (.d true e x) v with | some u=>asD hp e u | none=>none)
  | false=>none
 fillP:List PV→List (Nat×Nat×PV)→Option (List PV)
  | cs,[]=>some cs
  | cs,(off,n,v) :: r=>match cellOK v with
   | false=>none
   | true=>if v.cells.length=n∧off + n≤cs.length then fillP (cs.take off++v.cells++cs.drop (off + n)) r else none
end
end
end Go.Am
