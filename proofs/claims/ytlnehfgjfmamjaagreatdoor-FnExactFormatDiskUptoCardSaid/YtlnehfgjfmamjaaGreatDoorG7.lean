/- The machine on typed data against the small machine: the contract of a function. -/
import Derived.Test.YtlnehfgjfmamjaaGreatDoorG6
set_option linter.unusedSimpArgs false
set_option linter.unusedVariables false
namespace Go.Am
theorem ArgR.len {H:Heap}:∀ {l:List PKd} {x:Kd.dens (insK l)} {args:List AV} {L:List Id},ArgR H l x args L→args.length=l.length
 | [],x,[],L,_=>rfl
 | [],x,_ :: _,L,h=>by simp [ArgR] at h
 | .raw :: _,x,_,L,h=>by simp [ArgR] at h
 | .dat t :: r,x,[],L,h=>by simp [ArgR] at h
 | .cell t :: r,x,[],L,h=>by simp [ArgR] at h
 | .kept t :: r,x,[],L,h=>by simp [ArgR] at h
 | .own t :: r,x,[],L,h=>by simp [ArgR] at h
 | .dat t :: r,x,v :: q,L,⟨_,h⟩=>by simp [h.len]
 | .kept t :: r,x,v :: q,L,⟨_,_,_,h,_⟩=>by simp [h.len]
 | .own t :: r,x,v :: q,L,⟨_,_,_,h,_⟩=>by simp [h.len]
 | .cell t :: r,x,v :: q,L,⟨_,_,_,_,_,_,_,_,_,_,_,_,_,_,_,h,_⟩=>by simp [h.len]
def ExW (H:Heap) (L:List Id):Prop:=∀ p∈L,∃ b,H p=some b∧b.w=true
theorem Cl.ex {H:Heap} {L:List Id} (h:Cl H L):ExW H L:=fun p hp=>by obtain ⟨b,h1,h2,_⟩:=h p hp; exact ⟨b,h1,h2⟩
theorem ExW.app {H:Heap} {L M:List Id} (h:ExW H L) (k:ExW H M):ExW H (L++M):=fun p hp=>(List.mem_append.1 hp).elim (h p) (k p)
theorem ArgR.ex {H:Heap}:∀ {l:List PKd} {x:Kd.dens (insK l)} {args:List AV} {L:List Id},ArgR H l x args L→ExW H L
 | [],x,[],L,h=>by cases h; intro p hp; cases hp
 | [],x,_ :: _,L,h=>by simp [ArgR] at h
 | .raw :: _,x,_,L,h=>by simp [ArgR] at h
 | .dat t :: r,x,[],L,h=>by simp [ArgR] at h
 | .cell t :: r,x,[],L,h=>by simp [ArgR] at h
 | .kept t :: r,x,[],L,h=>by simp [ArgR] at h
 | .own t :: r,x,[],L,h=>by simp [ArgR] at h
 | .dat t :: r,x,v :: q,L,⟨_,h⟩=>h.ex
 | .kept t :: r,x,v :: q,L,⟨_,_,h1,h,hL⟩=>by rw [hL]; exact (Rep.cl _ _ _ _ h1).ex.app h.ex
 | .own t :: r,x,v :: q,L,⟨_,_,h1,h,hL⟩=>by rw [hL]; exact (Rep.cl _ _ _ _ h1).ex.app h.ex
 | .cell t :: r,x,v :: q,L,⟨o,_,b,_,_,_,_,e2,_,_,_,_,_,e8,h1,h,hL⟩=>by
  rw [hL]
  intro p hp
  rcases List.mem_cons.1 hp with rfl | hp
  ·exact ⟨b,e2,e8⟩
  ·exact (Rep.cl _ _ _ _ h1).ex.app h.ex p hp
theorem LeftR.ex {H:Heap}:∀ {l:List PKd} {y:Kd.dens (outK l)} {args:List AV} {L:List Id},LeftR H l y args L→ExW H L
 | [],y,[],L,h=>by cases h; intro p hp; cases hp
 | [],y,_ :: _,L,h=>by simp [LeftR] at h
 | .raw :: r,y,[],L,h=>by simp [LeftR] at h
 | .dat t :: r,y,[],L,h=>by simp [LeftR] at h
 | .cell t :: r,y,[],L,h=>by simp [LeftR] at h
 | .kept t :: r,y,[],L,h=>by simp [LeftR] at h
 | .own t :: r,y,[],L,h=>by simp [LeftR] at h
 | .dat t :: r,y,v :: q,L,h=>LeftR.ex (l:=r) h
 | .raw :: r,y,v :: q,L,h=>LeftR.ex (l:=r) h
 | .own t :: r,y,v :: q,L,h=>LeftR.ex (l:=r) h
 | .kept t :: r,y,v :: q,L,⟨_,_,h1,h,hL⟩=>by rw [hL]; exact (Rep.cl _ _ _ _ h1).ex.app h.ex
 | .cell t :: r,y,v :: q,L,⟨o,_,b,_,_,_,_,e2,_,_,_,_,_,e8,h1,h,hL⟩=>by
  rw [hL]
  intro p hp
  rcases List.mem_cons.1 hp with rfl | hp
  ·exact ⟨b,e2,e8⟩
  ·exact (Rep.cl _ _ _ _ h1).ex.app h.ex p hp
theorem ResR.cl {H:Heap}:∀ {l:List Kd} {y:Kd.dens l} {rs:List AV} {L:List Id},ResR H l y rs L→Cl H L
 | [],y,[],L,h=>by cases h; exact Cl.nil
 | [],y,_ :: _,L,h=>by simp [ResR] at h
 | _ :: _,y,[],L,h=>by simp [ResR] at h
 | t :: r,y,v :: q,L,⟨_,_,h1,h,hL⟩=>by rw [hL]; exact (Rep.cl _ _ _ _ h1).app h.cl
section
variable {tb:PTab} {T:Tab} {d:Nat} {anV:List AV} {P0:Id→Prop} {H0:Heap} {ps:PS} {μ:Nat→AV} {L:Nat→List Id} {E:AEnv} {H:Heap} {nx:Nat}
theorem resP_rel (R:Rel d anV P0 H0 ps μ L E H nx):∀ {res:List ARes} {vs:List PV},resP ps res=some vs→∃ rs,resV E H res=some rs∧VRs ⟨d,ps.heap,μ,L,H,nx⟩ vs rs
 | [],vs,h=>by cases h; exact ⟨[],rfl,trivial⟩
 | .tmp t :: r,vs,h=>by
  simp only [resP] at h
  split at h
  ·rename_i l hl
   cases h
   obtain ⟨rs,h1,h2⟩:=resP_rel R hl
   exact ⟨E t :: rs,by simp only [resV,h1],R.env t,h2⟩
  ·cases h
 | .cell t ag n :: r,vs,h=>by
  simp only [resP] at h
  split at h
  ·rename_i l v hl hv
   cases h
   obtain ⟨rs,h1,h2⟩:=resP_rel R hl
   have he:=R.env t
   unfold resP.loadR at hv
   split at hv
   ·rename_i c hc
    rw [hc] at he
    split at hv
    ·rename_i ro tmp u hg
     obtain ⟨o,g,b,w,e1,e2,e3,e4,e5,e6,e7,e8,e9,e10,e11⟩:=R.ob c _ hg
     have e1:μ c = .ptr o g 1 0 0:=e1
     have e2:H o=some b:=e2
     obtain ⟨_,o',g',k1,k2⟩:=he
     have k1:μ c = .ptr o' g' 1 0 0:=k1
     rw [e1] at k1
     cases k1
     have hk:u.known=true:=by cases u <;> first | rfl | cases e11
     obtain ⟨c1,c2⟩:=cells_rel u w hk e10
     have hlen:u.cells.length=w.cells.length:=c1.len
     have key:∃ v',loadV H ag n (E t)=some v'∧VR ⟨d,ps.heap,μ,L,H,nx⟩ v v':=by
      rw [k2]
      simp only [loadV,e2]
      rw [if_pos ⟨e3,by rw [e4]; rfl⟩,e4]
      simp only [List.getElem?_cons_zero]
      cases ag with
      | true=>
       simp only at hv
       split at hv
       ·rename_i hcc
        cases hv
        simp only [if_true]
        rw [if_pos (by rw [← c2]; exact hcc.1),if_pos ⟨trivial,by rw [hcc.2,hlen,e5]⟩]
        exact ⟨w,rfl,e10⟩
       ·cases hv
      | false=>
       simp only at hv
       obtain ⟨a,q1,q2⟩:=c1.get hv
       exact ⟨a,by simpa using q1,q2⟩
     obtain ⟨v',g1,g2⟩:=key
     exact ⟨v' :: rs,by simp only [resV,g1,h1],g2,h2⟩
    ·cases hv
   ·cases hv
  ·cases h
theorem ownsP_rel (hob:Obs ⟨d,ps.heap,μ,L,H,nx⟩):∀ {l:List Kd} {vs:List PV} {rs:List AV} {y:Kd.dens l} {ns:List Nat},VRs ⟨d,ps.heap,μ,L,H,nx⟩ vs rs→ownsP ps.heap l vs=some (y,ns) →
  ResR H l y rs (idsN L ns)∧OwnN ⟨d,ps.heap,μ,L,H,nx⟩ ns
 | [],[],[],y,ns,_,h=>by simp only [ownsP] at h; cases h; exact ⟨rfl,fun a ha=>by cases ha⟩
 | [],_ :: _,_,y,ns,_,h=>by simp [ownsP] at h
 | _ :: _,[],_,y,ns,_,h=>by simp [ownsP] at h
 | [],[],_ :: _,y,ns,h,_=>h.elim
 | _ :: _,_ :: _,[],y,ns,h,_=>h.elim
 | t :: r,v :: q,a :: as,y,ns,⟨h1,h2⟩,h=>by
  simp only [ownsP] at h
  split at h
  ·rename_i x1 n1 x2 n2 e1 e2
   cases h
   obtain ⟨k1,k2⟩:=asOwn_rel hob h1 e1
   obtain ⟨k3,k4⟩:=ownsP_rel hob h2 e2
   exact ⟨⟨_,_,k1,k3,idsN_app⟩,k2.app k4⟩
  ·cases h
def FreeN (hp:List (Option PObj)) (ns:List Nat):Prop:=∀ a∈ns,∃ ob,hget hp a=some ob∧roOf ob=false∧tmpO ob=none
theorem FreeN.app {hp:List (Option PObj)} {a b:List Nat} (h:FreeN hp a) (k:FreeN hp b):FreeN hp (a++b):=by
 intro x hx
 rcases List.mem_append.1 hx with hx | hx
 ·exact h x hx
 ·exact k x hx
theorem OwnN.free {X:Vw} {ns:List Nat} (h:OwnN X ns):FreeN X.hp ns:=by
 intro a ha
 obtain ⟨ver,sz,e,xs,hx⟩:=h a ha
 exact ⟨_,hx,rfl,rfl⟩
theorem ancP_nil {hp:List (Option PObj)} {an:List PV} {z:Kd.dens (outK [])×List Nat} (h:ancP hp [] an=some z):z=((),[]):=by
 cases an with
 | nil=>exact (Option.some.inj (show some ((():Unit),([]:List Nat))=some z from h)).symm
 | cons=>exact nomatch (show (none:Option (Kd.dens (outK [])×List Nat))=some z from h)
theorem ancP_kept {hp:List (Option PObj)} {t:Kd} {r:List PKd} {u:PV} {an:List PV} {z:Kd.dens (outK (.kept t :: r))×List Nat} (h:ancP hp (.kept t :: r) (u :: an)=some z) :
  ∃ x a y b,asOwn hp t u=some (x,a)∧ancP hp r an=some (y,b)∧z=((x,y),a++b):=by
 have h:(match asOwn hp t u,ancP hp r an with | some (x,a),some (y,b)=>some (((x,y):Kd.den t×Kd.dens (outK r)),a++b) | _,_=>none)=some z:=h
 split at h
 ·rename_i x a y b e1 e2
  exact ⟨x,a,y,b,e1,e2,(Option.some.inj h).symm⟩
 ·cases h
theorem ancP_cell {hp:List (Option PObj)} {t:Kd} {r:List PKd} {u:PV} {an:List PV} {z:Kd.dens (outK (.cell t :: r))×List Nat} (h:ancP hp (.cell t :: r) (u :: an)=some z) :
  ∃ c w x a y b,u = .cp c 0∧hget hp c=some (.cell false none w)∧asOwn hp t w=some (x,a)∧ancP hp r an=some (y,b)∧z=((x,y),c :: (a++b)):=by
 cases u with
 | cp c off=>
  cases off with
  | succ off=>exact nomatch (show (none:Option (Kd.dens (outK (.cell t :: r))×List Nat))=some z from h)
  | zero=>
   have h:(match hget hp c with
    | some (.cell false none u)=>(match asOwn hp t u,ancP hp r an with | some (x,a),some (y,b)=>some (((x,y):Kd.den t×Kd.dens (outK r)),c :: (a++b)) | _,_=>none)
    | _=>none)=some z:=h
   split at h
   ·rename_i w hg
    split at h
    ·rename_i x a y b e1 e2
     exact ⟨c,w,x,a,y,b,rfl,hg,e1,e2,(Option.some.inj h).symm⟩
    ·cases h
   ·cases h
 | _=>exact nomatch (show (none:Option (Kd.dens (outK (.cell t :: r))×List Nat))=some z from h)
theorem ancP_rel (hob:Obs ⟨d,ps.heap,μ,L,H,nx⟩) (l:List PKd):∀ (an:List PV) (args:List AV) (y:Kd.dens (outK l)) (ns:List Nat),l.length=args.length→VRs ⟨d,ps.heap,μ,L,H,nx⟩ an (keptA l args)→ancP ps.heap l an=some (y,ns) →
  LeftR H l y args (idsN L ns)∧FreeN ps.heap ns:=by
 induction l with
 | nil=>
  intro an args y ns hl h1 h
  cases ancP_nil h
  cases args with
  | cons=>simp at hl
  | nil=>exact ⟨rfl,fun a ha=>by cases ha⟩
 | cons p r ih=>
  intro an args y ns hl h1 h
  cases args with
  | nil=>simp at hl
  | cons v q=>
   have hl2:r.length=q.length:=by simpa using hl
   cases p with
   | raw=>exact ih an q y ns hl2 h1 h
   | dat t=>exact ih an q y ns hl2 h1 h
   | own t=>exact ih an q y ns hl2 h1 h
   | kept t=>
    cases an with
    | nil=>exact nomatch (show (none:Option (Kd.dens (outK (.kept t :: r))×List Nat))=some (y,ns) from h)
    | cons u an=>
     obtain ⟨h1,h2⟩:=h1
     obtain ⟨x1,n1,x2,n2,e1,e2,e3⟩:=ancP_kept h
     cases e3
     obtain ⟨k1,k2⟩:=asOwn_rel hob h1 e1
     obtain ⟨k3,k4⟩:=ih an q _ _ hl2 h2 e2
     exact ⟨⟨_,_,k1,k3,idsN_app⟩,(OwnN.free k2).app k4⟩
   | cell t=>
    cases an with
    | nil=>exact nomatch (show (none:Option (Kd.dens (outK (.cell t :: r))×List Nat))=some (y,ns) from h)
    | cons u an=>
     obtain ⟨h1,h2⟩:=h1
     obtain ⟨c,w,x1,n1,x2,n2,e0,hg,e1,e2,e3⟩:=ancP_cell h
     cases e3
     subst e0
     obtain ⟨o,g,b,w',q1,q2,q3,q4,q5,q6,q7,q8,q9,q10,q11⟩:=hob c _ hg
     obtain ⟨k1,k2⟩:=asOwn_rel hob q10 e1
     obtain ⟨k3,k4⟩:=ih an q _ _ hl2 h2 e2
     obtain ⟨_,o',g',p1,p2⟩:=h1
     rw [q1] at p1
     cases p1
     refine ⟨⟨o,g,b,w',_,_,p2,q2,q3,q4,q5,q6,q7,q8 rfl,k1,k3,?_⟩,?_⟩
     ·show L c++idsN L (n1++n2)=_
      have q9:L c=[o]:=q9
      rw [q9,idsN_app]; rfl
     ·intro a ha
      rcases List.mem_cons.1 ha with rfl | ha
      ·exact ⟨_,hg,rfl,rfl⟩
      ·exact (OwnN.free k2).app k4 a ha
end
theorem finC_some {sg:Sig} {res:List ARes} {ps:PS} {ys:Kd.dens (sg.rs++outK sg.ps)} (h:finC sg res ps=some ys) :
  ∃ vs x a y b,resP ps res=some vs∧ownsP ps.heap sg.rs vs=some (x,a)∧ancP ps.heap sg.ps ps.anc=some (y,b)∧nodupB (a++b)=true∧ys=appDens _ _ x y:=by
 unfold finC at h
 split at h
 ·rename_i vs hv
  split at h
  ·rename_i x a y b h1 h2
   split at h
   ·rename_i hn
    cases h
    exact ⟨vs,x,a,y,b,hv,h1,h2,hn,rfl⟩
   ·cases h
  ·cases h
 ·cases h
theorem fst_app:∀ {l m:List Kd} (x:Kd.dens l) (y:Kd.dens m),fstDens l m (appDens l m x y)=x
 | [],m,x,y=>rfl
 | t :: r,m,x,y=>by
  show (x.1,fstDens r m (appDens r m x.2 y))=x
  rw [fst_app (l:=r)]; rfl
theorem snd_app:∀ {l m:List Kd} (x:Kd.dens l) (y:Kd.dens m),sndDens l m (appDens l m x y)=y
 | [],m,x,y=>rfl
 | t :: r,m,x,y=>snd_app (l:=r) x.2 y
theorem con_of {tb:PTab} {T:Tab} {n f:Nat} {fn:AFn} {sg:Sig} {F:sg.F} {cx:Cx} (hm:∀ f,T.mode f ≠ .mu) (hs:Sound tb T n) (hfn:T.fn f=some fn) (hnp:fn.np=sg.ps.length) (hsg:sigOK sg=true)
  (hF:∀ x ys,F x=some ys→evC tb n cx (finC sg fn.res) [.code fn.body] (initS sg.ps x)=some ys):ConOK T f sg F:=by
 intro d nx H args Ls x ys hx hA hnd hH hh
 simp only [sigOK,Bool.and_eq_true] at hsg
 obtain ⟨μ,L,R⟩:=init_rel hsg.1 hA hnd hH hh
 have hev:=hF x ys hx
 obtain ⟨s',a1,a2,ps',μ',L',a3,R'⟩:=hs cx _ _ [.code fn.body] _ _ d _ _ _ μ L _ H nx hev R (.code (fun t _ hP=>hP.2.2 t rfl) .nil) trivial
 obtain ⟨vs,x1,a,y1,b,f1,f2,f3,f4,f5⟩:=finC_some a3
 subst f5
 obtain ⟨rs,r1,r2⟩:=resP_rel R' f1
 obtain ⟨o1,o2⟩:=ownsP_rel R'.obs r2 f2
 obtain ⟨l1,l2⟩:=ancP_rel R'.obs _ _ _ _ _ (by rw [hA.len]) R'.anc f3
 have hfree:=(OwnN.free o2).app l2
 have hw:AllW H:=by
  intro o b hb
  by_cases ho:o∈Ls
  ·obtain ⟨b',h1,h2⟩:=hA.ex o ho
   rw [hb] at h1; cases h1; exact h2
  ·rw [hH o ho] at hb; cases hb
 refine ⟨rs,s'.H,s'.nx,idsN L' a,idsN L' b,?_,a2,?_,?_,?_,?_,arun_w hm a1 hw,R'.fresh⟩
 ·unfold callB
  rw [hfn]
  simp only
  rw [if_pos (by rw [hA.len,hnp]),a1]
  simp only [r1]
 ·rw [fst_app]; exact o1
 ·rw [snd_app]; exact l1
 ·rw [← idsN_app]
  exact idsN_nodup R' (nodupB_spec f4) fun c hc=>by obtain ⟨ob,h1,_⟩:=hfree c hc; exact live_iff.2 ⟨ob,h1⟩
 ·intro p hp
  rw [← idsN_app] at hp
  obtain ⟨c,hc,hpc⟩:=mem_idsN.1 hp
  obtain ⟨ob,h1,h2,h3⟩:=hfree c hc
  have h4:=R'.p1 c ob h1 h2 p hpc
  have h5:=ids_old R' h1 h3 p hpc
  by_cases hpl:p∈Ls
  ·exact .inl hpl
  ·right
   cases p with
   | dy k=>
    refine ⟨k,rfl,?_,h5⟩
    by_cases hk:k < nx
    ·exact (h4 ⟨hpl,fun k' e=>by cases e; exact hk,fun t e=>by cases e⟩).elim
    ·omega
   | st d' t=>
    have h5:d' < d:=h5
    exact (h4 ⟨hpl,fun k' e=>(by cases e),fun t' e=>(by cases e; omega)⟩).elim
   | ex k=>exact h5.elim
end Go.Am
/- The machine on typed data against the small machine: values that hang on names alone; arguments of a call. -/
namespace Go.Am
def BndN (X:Vw) (ns:List Nat) (Li:List Id):Prop:=∀ i∈Li,∃ a∈ns,live X.hp a∧i∈X.L a
theorem BndN.app {X:Vw} {ns ms:List Nat} {L M:List Id} (h:BndN X ns L) (k:BndN X ms M):BndN X (ns++ms) (L++M):=by
 intro i hi
 rcases List.mem_append.1 hi with hi | hi
 ·obtain ⟨a,b,c⟩:=h i hi; exact ⟨a,by simp [b],c⟩
 ·obtain ⟨a,b,c⟩:=k i hi; exact ⟨a,by simp [b],c⟩
theorem deepB_app {hp:List (Option PObj)}:∀ {a b:List Nat},deepB hp (a++b)=(deepB hp a && deepB hp b)
 | [],b=>rfl
 | x :: r,b=>by simp only [List.cons_append,deepB,deepB_app (a:=r),Bool.and_assoc]
section
variable {X:Vw} (hob:Obs X)
include hob
theorem own_free {b:Nat} {a:AV} (h:VR X (.own b) a) {ro:Bool} {ver:Nat} {tmp:Option Nat} {sz:Nat} {e:Kd} {dp:Bool} {xs:List e.den} (hb:hget X.hp b=some (.sl ro ver tmp sz e dp xs)) (hd:(dp || e.flat)=true) :
  ∃ Li,Rep false X.H (.sl sz e) xs a Li∧∀ i∈Li,i∈X.L b:=by
 obtain ⟨h1,rfl,h3⟩:=h
 obtain ⟨k0,k1,k2⟩:=hob b _ hb
 rcases k2 with ⟨e1,e2,e3⟩ | ⟨o,g,n,off,len,ob,L',e1,e2,e3,e4,e5,e6,e7,e8,e9,e10,e11⟩
 ·exact ⟨[],.inl ⟨e1,e2,rfl⟩,fun i hi=>by cases hi⟩
 ·refine ⟨o :: L',.inr (.inr ⟨o,g,n,off,len,ob,L',e1,e2,e3,e4,e5,e6,RepL.readE e8,rfl,(fun h=>by cases h),k0⟩),?_⟩
  ·intro i hi
   rw [e10]
   cases dp with
   | true=>simpa using hi
   | false=>
    obtain ⟨_,q⟩:=RepL.flatE (own':=false) (H':=X.H) (by simpa using hd) e8
    subst q
    simpa using hi
theorem win_free {b off len:Nat} {a:AV} (h:VR X (.win b off len) a) {ro:Bool} {ver:Nat} {tmp:Option Nat} {sz:Nat} {e:Kd} {dp:Bool} {xs:List e.den} (hb:hget X.hp b=some (.sl ro ver tmp sz e dp xs)) (hd:(dp || e.flat)=true) :
  ∃ Li,Rep false X.H (.sl sz e) (sub xs off len) a Li∧∀ i∈Li,i∈X.L b:=by
 obtain ⟨Li,h1,h2⟩:=win_read hob h hb
 obtain ⟨h0,h3⟩:=h
 obtain ⟨k0,k1,k2⟩:=hob b _ hb
 rcases k2 with ⟨e1,e2,e3⟩ | ⟨o,g,n,off0,len0,ob,L',e1,e2,e3,e4,e5,e6,e7,e8,e9,e10,e11⟩
 ·rcases h3 with ⟨_,rfl,rfl,rfl⟩ | ⟨o,g,n,off0,len0,q,_⟩
  ·exact ⟨[],.inl ⟨rfl,by rw [e2,sub_def]; rfl,rfl⟩,fun i hi=>by cases hi⟩
  ·rw [e1] at q; cases q
 ·rcases h3 with ⟨q,_⟩ | ⟨o',g',n',off0',len0',q,q2,rfl⟩
  ·rw [e1] at q; cases q
  ·rw [e1] at q
   obtain ⟨rfl,rfl,rfl,rfl,rfl⟩:=q
   obtain ⟨M,m1,m2⟩:=e8.sub off len
   refine ⟨o :: M,.inr (.inr ⟨o,g,n,off0 + off,len,ob,M,rfl,e2,e3,e4,by omega,e6,?_,rfl,(fun h=>by cases h),k0⟩),?_⟩
   ·rw [take_drop_sub _ _ _ _ _ q2,sub_def]
    exact RepL.readE m1
   ·intro i hi
    rw [e10]
    rcases List.mem_cons.1 hi with rfl | hi
    ·simp
    ·cases dp with
     | true=>simp [m2 i hi]
     | false=>
      obtain ⟨_,q⟩:=RepL.flatE (own':=false) (H':=X.H) (by simpa using hd) e8
      subst q
      exact absurd (m2 i hi) (by simp)
theorem asLeaf_free {t:Kd} {v:PV} {a:AV} {x:t.den} (h:VR X v a) (hx:asLeaf X.hp t v=some x) (hf:freeLeaf v=true) (hd:deepB X.hp (nameLeaf v)=true) :
  ∃ Li,Rep false X.H t x a Li∧BndN X (nameLeaf v) Li:=by
 cases v with
 | d p t' y=>
  simp only [asLeaf] at hx
  obtain ⟨Li,h1,h2,h3⟩:=h
  have hL:Li=[]:=h2 (by simpa [freeLeaf] using hf)
  subst hL
  exact ⟨[],cast_rep hx h1,fun i hi=>by cases hi⟩
 | nils=>
  obtain rfl:a = .nils:=h
  simp only [asLeaf] at hx
  cases t with
  | sl sz e=>
   obtain rfl:=Option.some.inj hx
   exact ⟨[],.inl ⟨rfl,rfl,rfl⟩,fun i hi=>by cases hi⟩
  | _=>cases hx
 | own b=>
  simp only [asLeaf] at hx
  split at hx
  ·rename_i ro ver tmp sz e dp xs hb
   simp only [nameLeaf,deepB,hb,Bool.and_true] at hd
   obtain ⟨Li,h1,h2⟩:=own_free hob h hb hd
   exact ⟨Li,cast_rep hx h1,fun i hi=>⟨b,by simp [nameLeaf],live_iff.2 ⟨_,hb⟩,h2 i hi⟩⟩
  ·cases hx
 | win b off len=>
  simp only [asLeaf] at hx
  split at hx
  ·rename_i ro ver tmp sz e dp xs hb
   simp only [nameLeaf,deepB,hb,Bool.and_true] at hd
   obtain ⟨Li,h1,h2⟩:=win_free hob h hb hd
   exact ⟨Li,cast_rep hx h1,fun i hi=>⟨b,by simp [nameLeaf],live_iff.2 ⟨_,hb⟩,h2 i hi⟩⟩
  ·cases hx
 | _=>simp [asLeaf] at hx
theorem asDs_free:∀ (fs:List Kd) (vs:List PV) (as:List AV) (x:Kd.dens fs),VRs X vs as→asDs X.hp fs vs=some x→vs.all freeLeaf=true→deepB X.hp (vs.flatMap nameLeaf)=true→∃ Li,Reps false X.H fs x as Li∧BndN X (vs.flatMap nameLeaf) Li
 | [],[],[],x,_,_,_,_=>⟨[],rfl,fun i hi=>by cases hi⟩
 | [],_ :: _,_,x,_,h,_,_=>by simp [asDs] at h
 | [],[],_ :: _,x,h,_,_,_=>h.elim
 | t :: r,[],_,x,_,h,_,_=>by simp [asDs] at h
 | t :: r,v :: q,[],x,h,_,_,_=>h.elim
 | t :: r,v :: q,a :: as,x,⟨h1,h2⟩,h,hf,hd=>by
  simp only [List.all_cons,Bool.and_eq_true] at hf
  simp only [List.flatMap_cons,deepB_app,Bool.and_eq_true] at hd
  simp only [asDs] at h
  split at h
  ·rename_i x1 x2 e1 e2 e3
   obtain rfl:=Option.some.inj h
   obtain ⟨L1,k1,k2⟩:=asLeaf_free hob h1 e2 hf.1 hd.1
   obtain ⟨L2,k3,k4⟩:=asDs_free r q as _ h2 e3 hf.2 hd.2
   exact ⟨L1++L2,⟨e1,L1,L2,k1,k3,rfl⟩,by rw [List.flatMap_cons]; exact k2.app k4⟩
  ·cases h
theorem asD_free {t:Kd} {v:PV} {a:AV} {x:t.den} (h:VR X v a) (hx:asD X.hp t v=some x) (hf:freeV v=true) (hd:deepB X.hp (namesV v)=true) :
  ∃ Li,Rep false X.H t x a Li∧BndN X (namesV v) Li:=by
 have leaf:∀ (t:Kd) (x:t.den),asLeaf X.hp t v=some x→∃ Li,Rep false X.H t x a Li∧BndN X (namesV v) Li:=by
  intro t x hx
  cases v with
  | agg cs=>simp [asLeaf] at hx
  | _=>exact asLeaf_free hob h hx hf hd
 cases t with
 | st fs=>
  cases v with
  | agg cs=>
   obtain ⟨h1,h2⟩:=h
   obtain ⟨Li,k1,k2⟩:=asDs_free hob fs cs _ x h2 hx hf hd
   exact ⟨Li,⟨h1,k1⟩,k2⟩
  | d p t' y=>
   have hx':castK t' (.st fs) y=some x:=hx
   obtain ⟨Li,h1,h2,h3⟩:=h
   have hL:Li=[]:=h2 (by simpa [freeV,freeLeaf] using hf)
   subst hL
   exact ⟨[],cast_rep hx' h1,fun i hi=>by cases hi⟩
  | _=>exact nomatch (show (none:Option (Kd.dens fs))=some x from hx)
 | int k=>exact leaf _ _ hx
 | bool=>exact leaf _ _ hx
 | str=>exact leaf _ _ hx
 | sl sz e=>exact leaf _ _ hx
end
end Go.Am
/- The machine on typed data against the small machine: arguments of a call that owns some of them. -/
namespace Go.Am
mutual
theorem okIn_of {X:Id→Prop}:∀ (v:AV),fineV X v→okIn X v
 | .c t,_=>trivial
 | .agg cs,h=>okIns_of cs h
 | .nils,_=>trivial
 | .undef,_=>trivial
 | .ref _ _ _ _ _,h=>h
 | .ptr _ _ _ _ _,h=>h
 | .fn _ cs,h=>okIns_of cs h
 | .tup _,h=>h.elim
 | .tptr _ _,h=>h.elim
theorem okIns_of {X:Id→Prop}:∀ (l:List AV),fineVs X l→okIns X l
 | [],_=>trivial
 | x :: r,h=>⟨okIn_of x h.1,okIns_of r h.2⟩
end
mutual
theorem okIn_mono {X Y:Id→Prop} (h:∀ p,X p→Y p):∀ (v:AV),okIn X v→okIn Y v
 | .c t,_=>trivial
 | .agg cs,k=>okIns_mono h cs k
 | .nils,_=>trivial
 | .undef,_=>trivial
 | .ref _ _ _ _ _,k=>h _ k
 | .ptr _ _ _ _ _,k=>h _ k
 | .fn _ cs,k=>okIns_mono h cs k
 | .tup cs,k=>okIns_mono h cs k
 | .tptr _ _,_=>trivial
theorem okIns_mono {X Y:Id→Prop} (h:∀ p,X p→Y p):∀ (l:List AV),okIns X l→okIns Y l
 | [],_=>trivial
 | x :: r,k=>⟨okIn_mono h x k.1,okIns_mono h r k.2⟩
end
theorem pkd_dep:∀ {k:PKd} {t:Kd},pkdOK k=true→(k = .dat t∨k = .cell t∨k = .kept t∨k = .own t)→t.dep≤11
 | _,t,h,.inl e=>by subst e; exact Nat.le_of_ble_eq_true h
 | _,t,h,.inr (.inl e)=>by subst e; simp only [pkdOK,Bool.and_eq_true] at h; exact Nat.le_of_ble_eq_true h.2
 | _,t,h,.inr (.inr (.inl e))=>by
  subst e
  cases t with
  | sl sz e=>simp only [pkdOK,Bool.and_eq_true] at h; exact Nat.le_of_ble_eq_true h.2.2
  | _=>cases h
 | _,t,h,.inr (.inr (.inr e))=>by subst e; simp only [pkdOK,Bool.and_eq_true] at h; exact Nat.le_of_ble_eq_true h.2
section
variable {H:Heap}
theorem ArgR.cl:∀ {l:List PKd} {x:Kd.dens (insK l)} {args:List AV} {L:List Id},ArgR H l x args L→Cl H L
 | [],x,[],L,h=>by cases h; exact Cl.nil
 | [],x,_ :: _,L,h=>by simp [ArgR] at h
 | .raw :: _,x,_,L,h=>by simp [ArgR] at h
 | .dat t :: r,x,[],L,h=>by simp [ArgR] at h
 | .cell t :: r,x,[],L,h=>by simp [ArgR] at h
 | .kept t :: r,x,[],L,h=>by simp [ArgR] at h
 | .own t :: r,x,[],L,h=>by simp [ArgR] at h
 | .dat t :: r,x,v :: q,L,⟨_,h⟩=>h.cl
 | .kept t :: r,x,v :: q,L,⟨_,_,h1,h,hL⟩=>by rw [hL]; exact (Rep.cl _ _ _ _ h1).app h.cl
 | .own t :: r,x,v :: q,L,⟨_,_,h1,h,hL⟩=>by rw [hL]; exact (Rep.cl _ _ _ _ h1).app h.cl
 | .cell t :: r,x,v :: q,L,⟨o,_,b,w,L1,L2,_,e2,_,e4,_,_,_,e8,h1,h,hL⟩=>by
  rw [hL]
  have hc:=(Rep.cl _ _ _ _ h1).app h.cl
  intro p hp
  rcases List.mem_cons.1 hp with rfl | hp
  ·refine ⟨b,e2,e8,fun y hy=>?_⟩
   rw [e4] at hy
   simp at hy
   subst hy
   exact fineV_mono (fun q hq=>by simp [hq]) y (Rep.fine _ _ _ _ h1)
  ·obtain ⟨b',k1,k2,k3⟩:=hc p hp
   exact ⟨b',k1,k2,fun y hy=>fineV_mono (fun q hq=>by simp only [List.mem_cons]; exact .inr hq) y (k3 y hy)⟩
theorem ArgR.okIns:∀ {l:List PKd} {x:Kd.dens (insK l)} {args:List AV} {L:List Id},ArgR H l x args L→Go.Am.okIns (· ∈ L) args
 | [],x,[],L,h=>trivial
 | [],x,_ :: _,L,h=>by simp [ArgR] at h
 | .raw :: _,x,_,L,h=>by simp [ArgR] at h
 | .dat t :: r,x,[],L,h=>by simp [ArgR] at h
 | .cell t :: r,x,[],L,h=>by simp [ArgR] at h
 | .kept t :: r,x,[],L,h=>by simp [ArgR] at h
 | .own t :: r,x,[],L,h=>by simp [ArgR] at h
 | .dat t :: r,x,v :: q,L,⟨⟨tv,hv,_⟩,h⟩=>by subst hv; exact ⟨trivial,h.okIns⟩
 | .kept t :: r,x,v :: q,L,⟨_,_,h1,h,hL⟩=>by
  subst hL
  exact ⟨okIn_of v (fineV_mono (fun p hp=>List.mem_append.2 (.inl hp)) v (Rep.fine _ _ _ _ h1)),okIns_mono (fun p hp=>List.mem_append.2 (.inr hp)) q h.okIns⟩
 | .own t :: r,x,v :: q,L,⟨_,_,h1,h,hL⟩=>by
  subst hL
  exact ⟨okIn_of v (fineV_mono (fun p hp=>List.mem_append.2 (.inl hp)) v (Rep.fine _ _ _ _ h1)),okIns_mono (fun p hp=>List.mem_append.2 (.inr hp)) q h.okIns⟩
 | .cell t :: r,x,v :: q,L,⟨o,_,b,w,L1,L2,e1,e2,_,e4,_,_,_,e8,h1,h,hL⟩=>by
  subst hL e1
  refine ⟨?_,okIns_mono (fun p hp=>by simp only [List.mem_cons,List.mem_append]; exact .inr (.inr hp)) q h.okIns⟩
  show o∈o :: _
  simp
theorem ArgR.reach_sub {M:List Id} (hc:Cl H M) (n:Nat):∀ {l:List PKd} {x:Kd.dens (insK l)} {args:List AV} {L:List Id},ArgR H l x args L→(∀ i∈L,i∈M)→∀ i∈reachs H n args,i∈M
 | [],x,[],L,h,_,i,hi=>by simp [reachs] at hi
 | [],x,_ :: _,L,h,_,_,_=>by simp [ArgR] at h
 | .raw :: _,x,_,L,h,_,_,_=>by simp [ArgR] at h
 | .dat t :: r,x,[],L,h,_,_,_=>by simp [ArgR] at h
 | .cell t :: r,x,[],L,h,_,_,_=>by simp [ArgR] at h
 | .kept t :: r,x,[],L,h,_,_,_=>by simp [ArgR] at h
 | .own t :: r,x,[],L,h,_,_,_=>by simp [ArgR] at h
 | .dat t :: r,x,v :: q,L,⟨⟨tv,hv,_⟩,h⟩,hs,i,hi=>by
  subst hv
  simp only [reachs,List.mem_append] at hi
  rcases hi with hi | hi
  ·cases n <;> simp [reach] at hi
  ·exact h.reach_sub hc n hs i hi
 | .kept t :: r,x,v :: q,L,⟨_,_,h1,h,hL⟩,hs,i,hi=>by
  subst hL
  simp only [reachs,List.mem_append] at hi
  rcases hi with hi | hi
  ·exact Go.Am.reach_sub hc n v (fineV_mono (fun p hp=>hs p (List.mem_append.2 (.inl hp))) v (Rep.fine _ _ _ _ h1)) i hi
  ·exact h.reach_sub hc n (fun p hp=>hs p (List.mem_append.2 (.inr hp))) i hi
 | .own t :: r,x,v :: q,L,⟨_,_,h1,h,hL⟩,hs,i,hi=>by
  subst hL
  simp only [reachs,List.mem_append] at hi
  rcases hi with hi | hi
  ·exact Go.Am.reach_sub hc n v (fineV_mono (fun p hp=>hs p (List.mem_append.2 (.inl hp))) v (Rep.fine _ _ _ _ h1)) i hi
  ·exact h.reach_sub hc n (fun p hp=>hs p (List.mem_append.2 (.inr hp))) i hi
 | .cell t :: r,x,v :: q,L,⟨o,g,b,w,L1,L2,e1,e2,_,e4,_,_,_,e8,h1,h,hL⟩,hs,i,hi=>by
  subst hL e1
  simp only [reachs,List.mem_append] at hi
  rcases hi with hi | hi
  ·exact Go.Am.reach_sub hc n (.ptr o g 1 0 0) (show o∈M from hs o (by simp)) i hi
  ·exact h.reach_sub hc n (fun p hp=>hs p (by simp only [List.mem_cons,List.mem_append]; exact .inr (.inr hp))) i hi
theorem ArgR.reach:∀ {l:List PKd} {x:Kd.dens (insK l)} {args:List AV} {L:List Id},l.all pkdOK=true→ArgR H l x args L→∀ i∈L,i∈reachs H 12 args
 | [],x,[],L,_,h,i,hi=>by cases h; cases hi
 | [],x,_ :: _,L,_,h,_,_=>by simp [ArgR] at h
 | .raw :: _,x,_,L,_,h,_,_=>by simp [ArgR] at h
 | .dat t :: r,x,[],L,_,h,_,_=>by simp [ArgR] at h
 | .cell t :: r,x,[],L,_,h,_,_=>by simp [ArgR] at h
 | .kept t :: r,x,[],L,_,h,_,_=>by simp [ArgR] at h
 | .own t :: r,x,[],L,_,h,_,_=>by simp [ArgR] at h
 | .dat t :: r,x,v :: q,L,hk,⟨⟨tv,hv,_⟩,h⟩,i,hi=>by
  simp only [List.all_cons,Bool.and_eq_true] at hk
  simp only [reachs,List.mem_append]
  exact .inr (h.reach hk.2 i hi)
 | .kept t :: r,x,v :: q,L,hk,⟨_,_,h1,h,hL⟩,i,hi=>by
  simp only [List.all_cons,Bool.and_eq_true] at hk
  subst hL
  simp only [reachs,List.mem_append]
  rcases List.mem_append.1 hi with hi | hi
  ·exact .inl (Rep.reach t 12 _ v _ (Nat.le_trans (pkd_dep hk.1 (by simp)) (by omega)) h1 i hi)
  ·exact .inr (h.reach hk.2 i hi)
 | .own t :: r,x,v :: q,L,hk,⟨_,_,h1,h,hL⟩,i,hi=>by
  simp only [List.all_cons,Bool.and_eq_true] at hk
  subst hL
  simp only [reachs,List.mem_append]
  rcases List.mem_append.1 hi with hi | hi
  ·exact .inl (Rep.reach t 12 _ v _ (Nat.le_trans (pkd_dep hk.1 (by simp)) (by omega)) h1 i hi)
  ·exact .inr (h.reach hk.2 i hi)
 | .cell t :: r,x,v :: q,L,hk,⟨o,_,b,w,L1,L2,e1,e2,_,e4,_,_,_,e8,h1,h,hL⟩,i,hi=>by
  simp only [List.all_cons,Bool.and_eq_true] at hk
  subst hL e1
  simp only [reachs,List.mem_append]
  rcases List.mem_cons.1 hi with rfl | hi
  ·left
   simp only [Go.Am.reach,List.mem_cons]
   exact .inl trivial
  ·rcases List.mem_append.1 hi with hi | hi
   ·left
    simp only [Go.Am.reach,e2,e4,reachs,List.append_nil,List.mem_cons]
    exact .inr (Rep.reach t 11 _ w _ (pkd_dep hk.1 (by simp)) h1 i hi)
   ·exact .inr (h.reach hk.2 i hi)
theorem ArgR.frame {H':Heap}:∀ {l:List PKd} {x:Kd.dens (insK l)} {args:List AV} {L:List Id},(∀ i∈L,H' i=H i)→ArgR H l x args L→ArgR H' l x args L
 | [],x,[],L,_,h=>h
 | [],x,_ :: _,L,_,h=>by simp [ArgR] at h
 | .raw :: _,x,_,L,_,h=>by simp [ArgR] at h
 | .dat t :: r,x,[],L,_,h=>by simp [ArgR] at h
 | .cell t :: r,x,[],L,_,h=>by simp [ArgR] at h
 | .kept t :: r,x,[],L,_,h=>by simp [ArgR] at h
 | .own t :: r,x,[],L,_,h=>by simp [ArgR] at h
 | .dat t :: r,x,v :: q,L,hf,⟨h1,h⟩=>⟨h1,h.frame hf⟩
 | .kept t :: r,x,v :: q,L,hf,⟨L1,L2,h1,h,hL⟩=>by
  subst hL
  exact ⟨L1,L2,Rep.frame _ _ _ _ (fun i hi=>hf i (List.mem_append.2 (.inl hi))) h1,h.frame (fun i hi=>hf i (List.mem_append.2 (.inr hi))),rfl⟩
 | .own t :: r,x,v :: q,L,hf,⟨L1,L2,h1,h,hL⟩=>by
  subst hL
  exact ⟨L1,L2,Rep.frame _ _ _ _ (fun i hi=>hf i (List.mem_append.2 (.inl hi))) h1,h.frame (fun i hi=>hf i (List.mem_append.2 (.inr hi))),rfl⟩
 | .cell t :: r,x,v :: q,L,hf,⟨o,g,b,w,L1,L2,e1,e2,e3,e4,e5,e6,e7,e8,h1,h,hL⟩=>by
  subst hL
  exact ⟨o,g,b,w,L1,L2,e1,(hf o (by simp)).trans e2,e3,e4,e5,e6,e7,e8,Rep.frame _ _ _ _ (fun i hi=>hf i (by simp [hi])) h1,h.frame (fun i hi=>hf i (by simp [hi])),rfl⟩
theorem LeftR.frame {H':Heap}:∀ {l:List PKd} {y:Kd.dens (outK l)} {args:List AV} {L:List Id},(∀ i∈L,H' i=H i)→LeftR H l y args L→LeftR H' l y args L
 | [],y,[],L,_,h=>h
 | [],y,_ :: _,L,_,h=>by simp [LeftR] at h
 | .raw :: r,y,[],L,_,h=>by simp [LeftR] at h
 | .dat t :: r,y,[],L,_,h=>by simp [LeftR] at h
 | .cell t :: r,y,[],L,_,h=>by simp [LeftR] at h
 | .kept t :: r,y,[],L,_,h=>by simp [LeftR] at h
 | .own t :: r,y,[],L,_,h=>by simp [LeftR] at h
 | .dat t :: r,y,v :: q,L,hf,h=>LeftR.frame (l:=r) hf h
 | .raw :: r,y,v :: q,L,hf,h=>LeftR.frame (l:=r) hf h
 | .own t :: r,y,v :: q,L,hf,h=>LeftR.frame (l:=r) hf h
 | .kept t :: r,y,v :: q,L,hf,⟨L1,L2,h1,h,hL⟩=>by
  subst hL
  exact ⟨L1,L2,Rep.frame _ _ _ _ (fun i hi=>hf i (List.mem_append.2 (.inl hi))) h1,h.frame (fun i hi=>hf i (List.mem_append.2 (.inr hi))),rfl⟩
 | .cell t :: r,y,v :: q,L,hf,⟨o,g,b,w,L1,L2,e1,e2,e3,e4,e5,e6,e7,e8,h1,h,hL⟩=>by
  subst hL
  exact ⟨o,g,b,w,L1,L2,e1,(hf o (by simp)).trans e2,e3,e4,e5,e6,e7,e8,Rep.frame _ _ _ _ (fun i hi=>hf i (by simp [hi])) h1,h.frame (fun i hi=>hf i (by simp [hi])),rfl⟩
theorem ResR.frame {H':Heap}:∀ {l:List Kd} {y:Kd.dens l} {rs:List AV} {L:List Id},(∀ i∈L,H' i=H i)→ResR H l y rs L→ResR H' l y rs L
 | [],y,[],L,_,h=>h
 | [],y,_ :: _,L,_,h=>by simp [ResR] at h
 | _ :: _,y,[],L,_,h=>by simp [ResR] at h
 | t :: r,y,v :: q,L,hf,⟨L1,L2,h1,h,hL⟩=>by
  subst hL
  exact ⟨L1,L2,Rep.frame _ _ _ _ (fun i hi=>hf i (List.mem_append.2 (.inl hi))) h1,h.frame (fun i hi=>hf i (List.mem_append.2 (.inr hi))),rfl⟩
theorem ResR.fine:∀ {l:List Kd} {y:Kd.dens l} {rs:List AV} {L:List Id},ResR H l y rs L→fineVs (· ∈ L) rs
 | [],y,[],L,h=>trivial
 | [],y,_ :: _,L,h=>by simp [ResR] at h
 | _ :: _,y,[],L,h=>by simp [ResR] at h
 | t :: r,y,v :: q,L,⟨L1,L2,h1,h,hL⟩=>by
  subst hL
  exact ⟨fineV_mono (fun p hp=>List.mem_append.2 (.inl hp)) v (Rep.fine _ _ _ _ h1),fineVs_mono (fun p hp=>List.mem_append.2 (.inr hp)) q h.fine⟩
theorem LeftR.cl:∀ {l:List PKd} {y:Kd.dens (outK l)} {args:List AV} {L:List Id},LeftR H l y args L→Cl H L
 | [],y,[],L,h=>by cases h; exact Cl.nil
 | [],y,_ :: _,L,h=>by simp [LeftR] at h
 | .raw :: r,y,[],L,h=>by simp [LeftR] at h
 | .dat t :: r,y,[],L,h=>by simp [LeftR] at h
 | .cell t :: r,y,[],L,h=>by simp [LeftR] at h
 | .kept t :: r,y,[],L,h=>by simp [LeftR] at h
 | .own t :: r,y,[],L,h=>by simp [LeftR] at h
 | .dat t :: r,y,v :: q,L,h=>LeftR.cl (l:=r) h
 | .raw :: r,y,v :: q,L,h=>LeftR.cl (l:=r) h
 | .own t :: r,y,v :: q,L,h=>LeftR.cl (l:=r) h
 | .kept t :: r,y,v :: q,L,⟨_,_,h1,h,hL⟩=>by rw [hL]; exact (Rep.cl _ _ _ _ h1).app h.cl
 | .cell t :: r,y,v :: q,L,⟨o,_,b,w,L1,L2,_,e2,_,e4,_,_,_,e8,h1,h,hL⟩=>by
  rw [hL]
  have hc:=(Rep.cl _ _ _ _ h1).app h.cl
  intro p hp
  rcases List.mem_cons.1 hp with rfl | hp
  ·refine ⟨b,e2,e8,fun y hy=>?_⟩
   rw [e4] at hy
   simp at hy
   subst hy
   exact fineV_mono (fun q hq=>by simp [hq]) y (Rep.fine _ _ _ _ h1)
  ·obtain ⟨b',k1,k2,k3⟩:=hc p hp
   exact ⟨b',k1,k2,fun y hy=>fineV_mono (fun q hq=>by simp only [List.mem_cons]; exact .inr hq) y (k3 y hy)⟩
end
section
variable {d:Nat} {anV:List AV} {P0:Id→Prop} {H0:Heap} {ps:PS} {μ:Nat→AV} {L:Nat→List Id} {E:AEnv} {H:Heap} {nx:Nat}
theorem frzOr_rep {t:Kd} {x:t.den} {v:AV} {M:List Id} (hd:t.dep≤12) (h:Rep false H t x v M):∃ tv,frzOr H v = .c tv∧frz H 12 v=some tv∧idsOf H 12 v=M∧∀ H',Rep false H' t x (.c tv) []:=by
 obtain ⟨tv,h1,h2,h3⟩:=Rep.frz t 12 x v M hd h
 exact ⟨tv,by simp [frzOr,h1],h1,h2,h3⟩
theorem frzOr_ptr {o:Id} {g n j off:Nat}:frzOr H (.ptr o g n j off) = .ptr o g n j off:=by simp [frzOr,frz]
def MutN (hp:List (Option PObj)) (ns:List Nat):Prop:=∀ a∈ns,∃ ob,hget hp a=some ob∧roOf ob=false
theorem MutN.app {hp:List (Option PObj)} {a b:List Nat} (h:MutN hp a) (k:MutN hp b):MutN hp (a++b):=by
 intro x hx
 rcases List.mem_append.1 hx with hx | hx
 ·exact h x hx
 ·exact k x hx
theorem OwnN.mutN {X:Vw} {ns:List Nat} (h:OwnN X ns):MutN X.hp ns:=by
 intro a ha
 obtain ⟨ver,sz,e,xs,hx⟩:=h a ha
 exact ⟨_,hx,rfl⟩
theorem argsP_rel (hob:Obs ⟨d,ps.heap,μ,L,H,nx⟩):∀ {l:List PKd} {vs:List PV} {avs:List AV} {a:ArgsP l},l.all pkdOK=true→VRs ⟨d,ps.heap,μ,L,H,nx⟩ vs avs→argsP ps.heap l vs=some a →
  ArgR H l a.xs (sepArgs H (keepK l) avs) (idsN L a.sn)∧MutN ps.heap a.sn ∧
  (∀ i∈sepRd H (keepK l) avs,(∃ b∈a.dn,live ps.heap b∧i∈L b)∨(⟨d,ps.heap,μ,L,H,nx⟩:Vw).Imm i) ∧
  (a.fr=true→deepB ps.heap a.dn=true→∀ i∈sepRd H (keepK l) avs,∃ b∈a.dn,live ps.heap b∧i∈L b)
 | [],[],[],a,_,_,h=>by
  simp only [argsP] at h; cases h
  exact ⟨rfl,fun a ha=>(by cases ha),fun i hi=>(by cases hi),fun _ _ i hi=>(by cases hi)⟩
 | [],_ :: _,_,a,_,_,h=>by simp [argsP] at h
 | [],[],_ :: _,a,_,h,_=>h.elim
 | .raw :: r,_,_,a,hk,_,h=>by simp [pkdOK] at hk
 | .dat t :: r,[],_,a,_,_,h=>by simp [argsP] at h
 | .kept t :: r,[],_,a,_,_,h=>by simp [argsP] at h
 | .own t :: r,[],_,a,_,_,h=>by simp [argsP] at h
 | .cell t :: r,[],_,a,_,_,h=>by simp [argsP] at h
 | _ :: _,_ :: _,[],a,_,h,_=>h.elim
 | .dat t :: r,v :: q,av :: aq,a,hk,⟨h1,h2⟩,h=>by
  simp only [List.all_cons,Bool.and_eq_true] at hk
  simp only [argsP] at h
  split at h
  ·rename_i x a' e1 e2
   cases h
   obtain ⟨k1,k2,k3,k4⟩:=argsP_rel hob hk.2 h2 e2
   obtain ⟨Li,r1,r2⟩:=asD_rel hob h1 e1
   obtain ⟨tv,f1,f2,f3,f4⟩:=frzOr_rep (Nat.le_trans (pkd_dep hk.1 (.inl rfl)) (by omega)) r1
   refine ⟨?_,k2,?_,?_⟩
   ·show ArgR H (.dat t :: r) (x,a'.xs) ((if false=true then av else frzOr H av) :: sepArgs H (keepK r) aq) (idsN L a'.sn)
    rw [if_neg (by simp)]
    exact ⟨⟨tv,f1,fun H'=>by rw [f1]; exact f4 H'⟩,k1⟩
   ·intro i hi
    have hi:i∈(if false=true then [] else idsOf H 12 av)++sepRd H (keepK r) aq:=hi
    rw [if_neg (by simp)] at hi
    rcases List.mem_append.1 hi with hi | hi
    ·rw [f3] at hi
     exact (r2 i hi).imp (fun ⟨b,p1,p2⟩=>⟨b,List.mem_append.2 (.inl p1),p2⟩) id
    ·exact (k3 i hi).imp (fun ⟨b,p1,p2⟩=>⟨b,List.mem_append.2 (.inr p1),p2⟩) id
   ·intro hfr hdb i hi
    have hfr:(freeV v && a'.fr)=true:=hfr
    have hdb:deepB ps.heap (namesV v++a'.dn)=true:=hdb
    simp only [Bool.and_eq_true] at hfr
    rw [deepB_app,Bool.and_eq_true] at hdb
    have hi:i∈(if false=true then [] else idsOf H 12 av)++sepRd H (keepK r) aq:=hi
    rw [if_neg (by simp)] at hi
    rcases List.mem_append.1 hi with hi | hi
    ·obtain ⟨Li',r1',r2'⟩:=asD_free hob h1 e1 hfr.1 hdb.1
     obtain ⟨_,_,_,f3',_⟩:=frzOr_rep (Nat.le_trans (pkd_dep hk.1 (.inl rfl)) (by omega)) r1'
     rw [f3'] at hi
     obtain ⟨b,p1,p2⟩:=r2' i hi
     exact ⟨b,List.mem_append.2 (.inl p1),p2⟩
    ·obtain ⟨b,p1,p2⟩:=k4 hfr.2 hdb.2 i hi
     exact ⟨b,List.mem_append.2 (.inr p1),p2⟩
  ·cases h
 | .kept t :: r,v :: q,av :: aq,a,hk,⟨h1,h2⟩,h=>by
  simp only [List.all_cons,Bool.and_eq_true] at hk
  simp only [argsP] at h
  split at h
  ·rename_i x ns a' e1 e2
   cases h
   obtain ⟨k1,k2,k3,k4⟩:=argsP_rel hob hk.2 h2 e2
   obtain ⟨r1,r2⟩:=asOwn_rel hob h1 e1
   refine ⟨?_,(OwnN.mutN r2).app k2,?_,?_⟩
   ·show ArgR H (.kept t :: r) (x,a'.xs) ((if true=true then av else frzOr H av) :: sepArgs H (keepK r) aq) (idsN L (ns++a'.sn))
    rw [if_pos rfl]
    exact ⟨_,_,r1,k1,idsN_app⟩
   ·exact fun i hi=>k3 i hi
   ·exact fun p1 p2 i hi=>k4 p1 p2 i hi
  ·cases h
 | .own t :: r,v :: q,av :: aq,a,hk,⟨h1,h2⟩,h=>by
  simp only [List.all_cons,Bool.and_eq_true] at hk
  simp only [argsP] at h
  split at h
  ·rename_i x ns a' e1 e2
   cases h
   obtain ⟨k1,k2,k3,k4⟩:=argsP_rel hob hk.2 h2 e2
   obtain ⟨r1,r2⟩:=asOwn_rel hob h1 e1
   refine ⟨?_,(OwnN.mutN r2).app k2,?_,?_⟩
   ·show ArgR H (.own t :: r) (x,a'.xs) ((if true=true then av else frzOr H av) :: sepArgs H (keepK r) aq) (idsN L (ns++a'.sn))
    rw [if_pos rfl]
    exact ⟨_,_,r1,k1,idsN_app⟩
   ·exact fun i hi=>k3 i hi
   ·exact fun p1 p2 i hi=>k4 p1 p2 i hi
  ·cases h
 | .cell t :: r,v :: q,av :: aq,a,hk,⟨h1,h2⟩,h=>by
  simp only [List.all_cons,Bool.and_eq_true] at hk
  cases v with
  | cp c off=>
   cases off with
   | succ off=>simp [argsP] at h
   | zero=>
    simp only [argsP] at h
    split at h
    ·rename_i tmp u hg
     split at h
     ·rename_i x ns a' e1 e2
      cases h
      obtain ⟨k1,k2,k3,k4⟩:=argsP_rel hob hk.2 h2 e2
      obtain ⟨o,g,b,w,q1,q2,q3,q4,q5,q6,q7,q8,q9,q10,q11⟩:=hob c _ hg
      obtain ⟨r1,r2⟩:=asOwn_rel hob q10 e1
      obtain ⟨_,o',g',p1,p2⟩:=h1
      have q1:μ c = .ptr o g 1 0 0:=q1
      have p1:μ c = .ptr o' g' 1 0 0:=p1
      rw [q1] at p1
      cases p1
      have q9:L c=[o]:=q9
      have hav:sepArgs H (keepK (PKd.cell t :: r)) (av :: aq)=av :: sepArgs H (keepK r) aq:=by
       show (if false=true then av else frzOr H av) :: sepArgs H (keepK r) aq=_
       rw [if_neg (by simp),p2,frzOr_ptr]
      have hrd:sepRd H (keepK (PKd.cell t :: r)) (av :: aq)=sepRd H (keepK r) aq:=by
       show (if false=true then [] else idsOf H 12 av)++sepRd H (keepK r) aq=_
       rw [if_neg (by simp),p2]; simp [idsOf]
      refine ⟨?_,?_,?_,?_⟩
      ·rw [hav]
       refine ⟨o,g,b,w,_,_,p2,q2,q3,q4,q5,q6,q7,q8 rfl,r1,k1,?_⟩
       show L c++idsN L (ns++a'.sn)=_
       rw [q9,idsN_app]; rfl
      ·intro b hb
       rcases List.mem_cons.1 hb with rfl | hb
       ·exact ⟨_,hg,rfl⟩
       ·exact (OwnN.mutN r2).app k2 b hb
      ·rw [hrd]; exact k3
      ·rw [hrd]; exact k4
     ·cases h
    ·cases h
  | _=>simp [argsP] at h
end
end Go.Am
/- The machine on typed data against the small machine: what a call leaves of its arguments. -/
namespace Go.Am
def numQ:Nat→List (List Id×AV)→List (Nat×(List Id×AV))
 | _,[]=>[]
 | n,q :: r=>(n,q) :: numQ (n + 1) r
theorem numQ_snd:∀ {n:Nat} {Q:List (List Id×AV)},(numQ n Q).map (·.2.1)=Q.map (·.1)
 | n,[]=>rfl
 | n,q :: r=>by simp [numQ,numQ_snd (n:=n + 1) (Q:=r)]
theorem numQ_mem:∀ {n:Nat} {Q:List (List Id×AV)} {p:Nat×(List Id×AV)},p∈numQ n Q→∃ i,p.1=n + i∧Q[i]? = some p.2
 | n,q :: r,p,h=>by
  rcases List.mem_cons.1 h with rfl | h
  ·exact ⟨0,rfl,rfl⟩
  ·obtain ⟨i,h1,h2⟩:=numQ_mem h
   exact ⟨i + 1,by omega,by simpa using h2⟩
theorem numQ_get:∀ {n:Nat} {Q:List (List Id×AV)} {i:Nat} {q:List Id×AV},Q[i]? = some q→(n + i,q)∈numQ n Q
 | n,x :: r,0,q,h=>by simp at h; subst h; simp [numQ]
 | n,x :: r,i + 1,q,h=>by
  have:=numQ_get (n:=n + 1) (Q:=r) (i:=i) (by simpa using h)
  simp only [numQ,List.mem_cons]
  right
  rw [show n + (i + 1)=n + 1 + i by omega]; exact this
theorem numQ_nodup:∀ {n:Nat} {Q:List (List Id×AV)},((numQ n Q).map (·.1)).Nodup
 | n,[]=>List.nodup_nil
 | n,q :: r=>by
  simp only [numQ,List.map_cons]
  refine List.nodup_cons.2 ⟨fun hm=>?_,numQ_nodup⟩
  obtain ⟨p,hp,e⟩:=List.mem_map.1 hm
  obtain ⟨i,h1,_⟩:=numQ_mem hp
  omega
def AsgP (Y:Vw) (P:List (Nat×(List Id×AV))):Prop:=∀ p∈P,Y.L p.1=p.2.1∧Y.μ p.1=p.2.2
theorem AsgP.q {Y:Vw} {n:Nat} {Q:List (List Id×AV)} (h:AsgP Y (numQ n Q)):AsgQ Y n Q:=fun i q hi=>⟨(h _ (numQ_get hi)).2,(h _ (numQ_get hi)).1⟩
theorem ownLeaf_names {hp hp':List (Option PObj)} {t:Kd} {v:PV} {x x':t.den} {ns ns':List Nat} (h:ownLeaf hp t v=some (x,ns)) (h':ownLeaf hp' t v=some (x',ns')):ns=ns':=by
 have pl:∀ {hp:List (Option PObj)} {t:Kd} {x:t.den} {ns:List Nat},plainL hp t v=some (x,ns)→ns=[]:=by
  intro hp t x ns h
  unfold plainL at h
  split at h
  ·cases h; rfl
  ·cases h
 cases t with
 | sl sz e=>
  simp only [ownLeaf] at h h'
  cases v with
  | nils=>simp only [ownSl] at h h'; cases h; cases h'; rfl
  | own a=>
   have one:∀ {hp:List (Option PObj)} {x:List e.den} {ns:List Nat},ownSl hp sz e (.own a)=some (x,ns)→ns=[a]:=by
    intro hp x ns h
    simp only [ownSl] at h
    split at h
    ·split at h
     ·cases h; rfl
     ·cases h
    ·cases h
   rw [one h,one h']
  | win a off len=>
   have one:∀ {hp:List (Option PObj)} {x:List e.den} {ns:List Nat},ownSl hp sz e (.win a off len)=some (x,ns)→ns=[a]:=by
    intro hp x ns h
    simp only [ownSl] at h
    split at h
    ·split at h
     ·cases h; rfl
     ·cases h
    ·cases h
   rw [one h,one h']
  | _=>simp [ownSl] at h
 | int k=>rw [pl h,pl h']
 | bool=>rw [pl h,pl h']
 | str=>rw [pl h,pl h']
 | st fs=>rw [pl h,pl h']
theorem ownLeafs_names {hp hp':List (Option PObj)}:∀ {fs:List Kd} {vs:List PV} {x x':Kd.dens fs} {ns ns':List Nat},ownLeafs hp fs vs=some (x,ns)→ownLeafs hp' fs vs=some (x',ns')→ns=ns'
 | [],[],x,x',ns,ns',h,h'=>by simp only [ownLeafs] at h h'; cases h; cases h'; rfl
 | [],_ :: _,x,x',ns,ns',h,h'=>by simp [ownLeafs] at h
 | _ :: _,[],x,x',ns,ns',h,h'=>by simp [ownLeafs] at h
 | t :: r,v :: q,x,x',ns,ns',h,h'=>by
  simp only [ownLeafs] at h h'
  split at h
  ·rename_i e1 e2 e3
   cases h
   split at h'
   ·rename_i f1 f2 f3
    cases h'
    rw [ownLeaf_names e2 f2,ownLeafs_names e3 f3]
   ·cases h'
  ·cases h
theorem asOwn_names {hp hp':List (Option PObj)} {t:Kd} {v:PV} {x x':t.den} {ns ns':List Nat} (h:asOwn hp t v=some (x,ns)) (h':asOwn hp' t v=some (x',ns')):ns=ns':=by
 cases t with
 | st fs=>
  simp only [asOwn] at h h'
  split at h
  ·rename_i hag
   rw [hag] at h'
   exact ownLeafs_names h h'
  ·cases h
 | int k=>exact ownLeaf_names (t:=.int k) h h'
 | bool=>exact ownLeaf_names (t:=.bool) h h'
 | str=>exact ownLeaf_names (t:=.str) h h'
 | sl sz e=>exact ownLeaf_names (t:=.sl sz e) h h'
structure LeftOK (X:Vw) (H1:Heap) (hp hp2:List (Option PObj)) (S:List Nat) (P:List (Nat×(List Id×AV))) (La:List Id):Prop where
 len:hp.length≤hp2.length
 ids:(P.map (·.2.1)).flatten=La
 nam:∀ p∈P,(p.1∈S∧p.1 < X.hp.length∧p.2=(X.L p.1,X.μ p.1))∨(hp.length≤p.1∧p.1 < hp2.length)
 nod:(P.map (·.1)).Nodup
 keep:∀ a,a < hp.length→a ∉ S→hget hp2 a=hget hp a
 chg:∀ a∈S,∀ ob,hget hp2 a=some ob→(∃ ob0,hget X.hp a=some ob0∧laterO (some ob0) (some ob)∧tmpO ob=tmpO ob0)∧∃ p∈P,p.1=a
 cel:∀ s∈S,(∃ ob,hget X.hp s=some ob∧tmpO ob=none)∨∃ p∈P,p.1=s
 new:∀ a,hp.length≤a→a < hp2.length→∃ p∈P,p.1=a
 ob:∀ Y:Vw,Y.H=H1→AsgP Y P→hp2.length≤Y.hp.length→∀ p∈P,∀ ob,hget hp2 p.1=some ob→ObR Y p.1 ob∧roOf ob=false∧(hp.length≤p.1→tmpO ob=none)
theorem argsP_lt (X:Vw):∀ {l:List PKd} {vs:List PV} {a:ArgsP l},MutN X.hp a.sn→∀ n∈a.sn,n < X.hp.length:=by
 intro l vs a h n hn
 obtain ⟨ob,h1,_⟩:=h n hn
 exact hget_lt h1
theorem left_ok {X:Vw} {H1 Hs:Heap} (hob:Obs X) (hHs:Hs=X.H):∀ {l:List PKd} {vs:List PV} {avs:List AV} {a:ArgsP l} {y:Kd.dens (outK l)} {La:List Id} {hp hp2:List (Option PObj)},l.all pkdOK=true→VRs X vs avs→argsP X.hp l vs=some a→a.sn.Nodup →
  LeftR H1 l y (sepArgs Hs (keepK l) avs) La→X.hp.length≤hp.length→(∀ n∈a.sn,hget hp n=none∨hget hp n=hget X.hp n)→leftP l vs y hp=some hp2→∃ P,LeftOK X H1 hp hp2 a.sn P La
 | [],[],[],a,y,La,hp,hp2,_,_,ha,_,hl,_,_,h=>by
  simp only [argsP] at ha; cases ha
  simp only [leftP] at h; cases h
  cases hl
  exact ⟨[],Nat.le_refl _,rfl,fun p hp=>(by cases hp),List.nodup_nil,fun _ _ _=>rfl,fun a ha=>(by cases ha),fun a ha=>(by cases ha),fun a h1 h2=>(by omega),fun Y _ _ _ p hp=>(by cases hp)⟩
 | [],_ :: _,_,a,y,La,hp,hp2,_,_,ha,_,hl,_,_,h=>by simp [argsP] at ha
 | [],[],_ :: _,a,y,La,hp,hp2,_,hv,_,_,hl,_,_,h=>hv.elim
 | .raw :: r,_,_,a,y,La,hp,hp2,hk,_,_,_,hl,_,_,h=>by simp [pkdOK] at hk
 | .dat t :: r,[],_,a,y,La,hp,hp2,_,_,ha,_,hl,_,_,h=>by simp [argsP] at ha
 | .kept t :: r,[],_,a,y,La,hp,hp2,_,_,ha,_,hl,_,_,h=>by simp [argsP] at ha
 | .own t :: r,[],_,a,y,La,hp,hp2,_,_,ha,_,hl,_,_,h=>by simp [argsP] at ha
 | .cell t :: r,[],_,a,y,La,hp,hp2,_,_,ha,_,hl,_,_,h=>by simp [argsP] at ha
 | _ :: _,_ :: _,[],a,y,La,hp,hp2,_,hv,_,_,hl,_,_,h=>hv.elim
 | .dat t :: r,v :: q,av :: aq,a,y,La,hp,hp2,hk,⟨h1,h2⟩,ha,hnd,hl,hln,hS,h=>by
  simp only [List.all_cons,Bool.and_eq_true] at hk
  simp only [argsP] at ha
  split at ha
  ·rename_i x a' e1 e2
   cases ha
   exact left_ok (l:=r) hob hHs hk.2 h2 e2 hnd hl hln hS (by simpa only [leftP] using h)
  ·cases ha
 | .own t :: r,v :: q,av :: aq,a,y,La,hp,hp2,hk,⟨h1,h2⟩,ha,hnd,hl,hln,hS,h=>by
  simp only [List.all_cons,Bool.and_eq_true] at hk
  simp only [argsP] at ha
  split at ha
  ·rename_i x ns a' e1 e2
   cases ha
   have hnd:(ns++a'.sn).Nodup:=hnd
   have hS:∀ n∈ns++a'.sn,hget hp n=none∨hget hp n=hget X.hp n:=hS
   obtain ⟨n1,n2,n3⟩:=List.nodup_append.1 hnd
   simp only [leftP] at h
   split at h
   ·rename_i x' ns' f1
    have:=asOwn_names f1 e1
    subst this
    obtain ⟨r1,r2⟩:=asOwn_rel hob h1 e1
    obtain ⟨P,I⟩:=left_ok (l:=r) (a:=a') hob hHs hk.2 h2 e2 n2 hl (by rw [delN_length]; exact hln) (fun n hn=>by
     rw [hget_delN,if_neg (fun hm=>n3 n hm n hn rfl)]
     exact hS n (List.mem_append.2 (.inr hn))) h
    have hdl:(delN hp ns').length=hp.length:=delN_length
    refine ⟨P,hdl ▸ I.len,I.ids,fun p hp'=>?_,I.nod,fun a ha hn=>?_,fun a ha ob hb=>?_,fun s hs=>?_,fun a k1 k2=>I.new a (by rw [hdl]; exact k1) k2,fun Y k1 k2 k3 p hp' ob hb=>?_⟩
    ·rcases I.nam p hp' with ⟨k1,k2⟩ | k
     ·exact .inl ⟨List.mem_append.2 (.inr k1),k2⟩
     ·rw [hdl] at k; exact .inr k
    ·rw [I.keep a (by rw [hdl]; exact ha) (fun hm=>hn (List.mem_append.2 (.inr hm))),hget_delN,if_neg (fun hm=>hn (List.mem_append.2 (.inl hm)))]
    ·rcases List.mem_append.1 ha with ha | ha
     ·obtain ⟨ob',hb',_⟩:=(OwnN.mutN r2) a ha
      rw [I.keep a (by rw [hdl]; exact Nat.lt_of_lt_of_le (hget_lt hb') hln) (fun hm=>n3 a ha a hm rfl),hget_delN,if_pos ha] at hb
      cases hb
     ·exact I.chg a ha ob hb
    ·rcases List.mem_append.1 hs with hs | hs
     ·obtain ⟨ver,sz,e,xs,hx⟩:=r2 s hs
      exact .inl ⟨_,hx,rfl⟩
     ·exact I.cel s hs
    ·have:=I.ob Y k1 k2 k3 p hp' ob hb
     rw [hdl] at this; exact this
   ·cases h
  ·cases ha
 | .kept t :: r,v :: q,av :: aq,a,y,La,hp,hp2,hk,⟨h1,h2⟩,ha,hnd,hl,hln,hS,h=>by
  simp only [List.all_cons,Bool.and_eq_true] at hk
  cases t with
  | sl sz e=>
   simp only [pkdOK,Bool.and_eq_true] at hk
   obtain ⟨⟨hgs,hfl,_⟩,hk⟩:=hk
   simp only [argsP] at ha
   split at ha
   ·rename_i x ns a' e1 e2
    cases ha
    have hnd:(ns++a'.sn).Nodup:=hnd
    have hS:∀ n∈ns++a'.sn,hget hp n=none∨hget hp n=hget X.hp n:=hS
    obtain ⟨n1,n2,n3⟩:=List.nodup_append.1 hnd
    obtain ⟨r1,r2⟩:=asOwn_rel hob h1 e1
    have hsv:sepArgs Hs (keepK (PKd.kept (.sl sz e) :: r)) (av :: aq)=av :: sepArgs Hs (keepK r) aq:=by
     show (if true=true then av else frzOr Hs av) :: sepArgs Hs (keepK r) aq=_
     rw [if_pos rfl]
    rw [hsv] at hl
    obtain ⟨L1,L2,g1,g2,g3⟩:=hl
    simp only [asOwn,ownLeaf] at e1
    cases v with
    | nils=>
     simp only [ownSl] at e1; cases e1
     have hav:av = .nils:=h1
     subst hav
     have hL1:L1=[]:=by
      rcases g1 with ⟨_,_,k⟩ | ⟨k,_⟩ | ⟨o,g,n,off,len,b,L',k,_⟩
      ·exact k
      ·cases k
      ·cases k
     subst hL1
     simp only [leftP] at h
     have hk2:leftP.keptP (.sl sz e) .nils y.1 hp=some hp:=rfl
     rw [hk2] at h
     obtain ⟨P,I⟩:=left_ok (l:=r) (a:=a') hob hHs hk h2 e2 n2 g2 hln (fun n hn=>hS n (by simpa using hn)) h
     exact ⟨P,I.len,by rw [I.ids,g3]; rfl,I.nam,I.nod,I.keep,I.chg,I.cel,I.new,I.ob⟩
    | own c=>
     have e1':=e1
     simp only [ownSl] at e1
     split at e1
     ·rename_i ver sz' e' xs hg
      split at e1
      ·rename_i x' hcast
       cases e1
       obtain ⟨hty,_⟩:=castK_eq hcast
       cases hty
       obtain ⟨_,hva,hisr⟩:=h1
       have hcS:c ∉ a'.sn:=fun hm=>n3 c (by simp) c hm rfl
       have hcl:c < X.hp.length:=hget_lt hg
       simp only [leftP] at h
       split at h
       ·rename_i hp1 hkp
        have hkp:leftP.keptL (.sl sz e) (.own c) y.1 hp=some hp1:=hkp
        simp only [leftP.keptL] at hkp
        split at hkp
        ·rename_i ver' tmp' sz' e' dp' xs' hg'
         cases hkp
         have hgg:hget hp c=hget X.hp c:=by
          rcases hS c (by simp) with k | k
          ·rw [k] at hg'; cases hg'
          ·exact k
         rw [hgg,hg] at hg'
         cases hg'
         have hset_len:(hset hp c (some (.sl false (ver + 1) none sz e true y.1))).length=hp.length:=hset_length
         obtain ⟨P,I⟩:=left_ok (l:=r) (a:=a') hob hHs hk h2 e2 n2 g2 (by rw [hset_len]; exact hln) (fun n hn=>by
          rw [hget_hset,if_neg (fun k:n=c∧c < hp.length=>hcS (k.1 ▸ hn))]
          exact hS n (by simp [hn])) h
         have hL1:L1=X.L c:=by
          obtain ⟨k0,k1,k2⟩:=hob c _ hg
          rcases k2 with ⟨f1,f2,f3⟩ | ⟨o,g,n,off,len,b,L',f1,f2,f3,f4,f5,f6,f7,f8,f9,f10,f11⟩
          ·rw [f3]
           rcases g1 with ⟨_,_,k⟩ | ⟨k,_⟩ | ⟨o,g,n,off,len,b,L',k,_⟩
           ·exact k
           ·cases k
           ·rw [hva,f1] at k; cases k
          ·obtain ⟨_,q⟩:=RepL.flatE (own':=false) (H':=X.H) hfl f8
           subst q
           rw [f10]
           rcases g1 with ⟨k,_⟩ | ⟨k,_⟩ | ⟨o',g',n',off',len',b',L'',k,k2,k3,k4,k5,k6,k7,k8,k9⟩
           ·rw [hva,f1] at k; cases k
           ·cases k
           ·rw [hva,f1] at k
            cases k
            obtain ⟨_,q⟩:=RepL.flatE (own':=false) (H':=X.H) hfl k7
            subst q
            rw [k8]; simp
         have hc2:hget hp2 c=some (.sl false (ver + 1) none sz e true y.1):=by
          rw [I.keep c (by rw [hset_len]; omega) hcS,hget_hset,if_pos ⟨rfl,by omega⟩]
         have hnotP:∀ p∈P,p.1≠c:=by
          intro p hp' e
          rcases I.nam p hp' with ⟨k1,_⟩ | ⟨k1,_⟩
          ·exact hcS (e ▸ k1)
          ·rw [hset_len] at k1; omega
         refine ⟨(c,(X.L c,X.μ c)) :: P,hset_len ▸ I.len,by simp [I.ids,g3,hL1],fun p hp'=>?_,?_,fun a ha hn=>?_,fun a ha ob hb=>?_,fun s hs=>?_,fun a k1 k2=>?_,fun Y k1 k2 k3 p hp' ob hb=>?_⟩
         ·rcases List.mem_cons.1 hp' with rfl | hp'
          ·exact .inl ⟨List.mem_append.2 (.inl (by simp)),hcl,rfl⟩
          ·rcases I.nam p hp' with ⟨k1,k2⟩ | k
           ·exact .inl ⟨List.mem_append.2 (.inr k1),k2⟩
           ·rw [hset_len] at k; exact .inr k
         ·refine List.nodup_cons.2 ⟨fun hm=>?_,I.nod⟩
          obtain ⟨p,hp',e⟩:=List.mem_map.1 hm
          exact hnotP p hp' e
         ·have hn:a ∉ [c]++a'.sn:=hn
          rw [I.keep a (by rw [hset_len]; exact ha) (fun hm=>hn (by simp [hm])),hget_hset,if_neg (fun k:a=c∧c < hp.length=>hn (by simp [k.1]))]
         ·have ha:a∈[c]++a'.sn:=ha
          rcases List.mem_append.1 ha with ha | ha
          ·have:a=c:=by simpa using ha
           subst this
           rw [hc2] at hb
           cases hb
           exact ⟨⟨_,hg,.inl (Nat.lt_succ_self _),rfl⟩,_,List.mem_cons_self ..,rfl⟩
          ·obtain ⟨k1,p,k2,k3⟩:=I.chg a ha ob hb
           exact ⟨k1,p,List.mem_cons_of_mem _ k2,k3⟩
         ·have hs:s∈[c]++a'.sn:=hs
          rcases List.mem_append.1 hs with hs | hs
          ·have:s=c:=by simpa using hs
           subst this
           exact .inr ⟨_,List.mem_cons_self ..,rfl⟩
          ·exact (I.cel s hs).imp id fun ⟨p,k1,k2⟩=>⟨p,List.mem_cons_of_mem _ k1,k2⟩
         ·obtain ⟨p,q1,q2⟩:=I.new a (by rw [hset_len]; exact k1) k2
          exact ⟨p,List.mem_cons_of_mem _ q1,q2⟩
         ·rcases List.mem_cons.1 hp' with rfl | hp'
          ·rw [hc2] at hb
           cases hb
           obtain ⟨q1,q2⟩:=k2 _ (List.mem_cons_self ..)
           refine ⟨(sl_named hgs g1 k1 (q2.trans hva.symm) (q1.trans hL1.symm)).1,rfl,fun _=>rfl⟩
          ·have:=I.ob Y k1 (fun p hp=>k2 p (List.mem_cons_of_mem _ hp)) k3 p hp' ob hb
           rw [hset_len] at this; exact this
        ·cases hkp
       ·cases h
      ·cases e1
     ·cases e1
    | win c off len=>
     simp only [leftP] at h
     have hk2:leftP.keptP (.sl sz e) (.win c off len) y.1 hp=none:=rfl
     rw [hk2] at h
     cases h
    | _=>simp [ownSl] at e1
   ·cases ha
  | _=>simp [pkdOK] at hk
 | .cell t :: r,v :: q,av :: aq,a,y,La,hp,hp2,hk,⟨h1,h2⟩,ha,hnd,hl,hln,hS,h=>by
  simp only [List.all_cons,Bool.and_eq_true] at hk
  cases v with
  | cp c off=>
   cases off with
   | succ off=>simp [argsP] at ha
   | zero=>
    simp only [argsP] at ha
    split at ha
    ·rename_i tmp u hg
     split at ha
     ·rename_i x ns a' e1 e2
      cases ha
      have hnd:(c :: (ns++a'.sn)).Nodup:=hnd
      have hS:∀ n∈c :: (ns++a'.sn),hget hp n=none∨hget hp n=hget X.hp n:=hS
      obtain ⟨hcn,hnd'⟩:=List.nodup_cons.1 hnd
      obtain ⟨n1,n2,n3⟩:=List.nodup_append.1 hnd'
      obtain ⟨o,g,b,w,q1,q2,q3,q4,q5,q6,q7,q8,q9,q10,q11⟩:=hob c _ hg
      obtain ⟨r1,r2⟩:=asOwn_rel hob q10 e1
      obtain ⟨_,o',g',p1,p2⟩:=h1
      rw [q1] at p1
      cases p1
      have hsv:sepArgs Hs (keepK (PKd.cell t :: r)) (av :: aq)=av :: sepArgs Hs (keepK r) aq:=by
       show (if false=true then av else frzOr Hs av) :: sepArgs Hs (keepK r) aq=_
       rw [if_neg (by simp),p2,frzOr_ptr]
      rw [hsv] at hl
      obtain ⟨o2,g2,b2,w2,L1,L2,s1,s2,s3,s4,s5,s6,s7,s8,s9,s10,s11⟩:=hl
      rw [p2] at s1
      cases s1
      have hcl:c < X.hp.length:=hget_lt hg
      have hgc:hget hp c=some (.cell false tmp u):=by
       simp only [leftP] at h
       rcases hS c (by simp) with k | k
       ·rw [k] at h; cases h
       ·rw [k,hg]
      simp only [leftP,hgc] at h
      split at h
      ·rename_i x' ns' f1
       have:=asOwn_names f1 e1
       subst this
       have hkt:kindOK t=true:=by have:=hk.1; simp only [pkdOK,Bool.and_eq_true] at this; exact this.1
       obtain ⟨Q,a1,a2,a3,a4⟩:=ownify_rel (n:=hp.length) hkt s9
       generalize hpr:ownify hp.length t y.1=pr at h a1 a2 a3 a4
       obtain ⟨v,os⟩:=pr
       simp only at h a1 a2 a3 a4
       have hl0:(hset (delN hp ns') c (some (.cell false tmp v))).length=hp.length:=by rw [hset_length,delN_length]
       have hl1:(hset (delN hp ns') c (some (.cell false tmp v))++os).length=hp.length + os.length:=by rw [List.length_append,hl0]
       have hlow:∀ a,a < hp.length→hget (hset (delN hp ns') c (some (.cell false tmp v))++os) a=if a=c then some (.cell false tmp v) else if a∈ns' then none else hget hp a:=by
        intro a ha
        rw [hget_append,hl0,if_pos ha,hget_hset,delN_length]
        by_cases hac:a=c
        ·rw [if_pos ⟨hac,by omega⟩,if_pos hac]
        ·rw [if_neg (fun k:a=c∧c < hp.length=>hac k.1),if_neg hac,hget_delN]
       have hSlt:∀ n∈a'.sn,n < hp.length:=by
        intro n hn
        obtain ⟨_,hm,_⟩:=argsP_rel (d:=X.d) (μ:=X.μ) (L:=X.L) (H:=X.H) (nx:=X.nx) (ps:=⟨[],[],X.hp⟩) hob hk.2 h2 e2
        obtain ⟨ob,k1,_⟩:=hm n hn
        exact Nat.lt_of_lt_of_le (hget_lt k1) hln
       obtain ⟨P,I⟩:=left_ok (l:=r) (a:=a') hob hHs hk.2 h2 e2 n2 s10 (by rw [hl1]; omega) (fun n hn=>by
        rw [hlow n (hSlt n hn),if_neg (fun e:n=c=>hcn (e ▸ List.mem_append.2 (.inr hn))),if_neg (fun hm:n∈ns'=>n3 n hm n hn rfl)]
        exact hS n (by simp [hn])) h
       have hcS:c ∉ a'.sn:=fun hm=>hcn (List.mem_append.2 (.inr hm))
       have hc2:hget hp2 c=some (.cell false tmp v):=by
        rw [I.keep c (by rw [hl1]; omega) hcS,hlow c (by omega),if_pos rfl]
       have hPlow:∀ p∈P,p.1∈a'.sn∨hp.length + os.length≤p.1:=by
        intro p hp'
        rcases I.nam p hp' with ⟨k1,_⟩ | ⟨k1,_⟩
        ·exact .inl k1
        ·rw [hl1] at k1; exact .inr k1
       have hQn:∀ p∈numQ hp.length Q,hp.length≤p.1∧p.1 < hp.length + os.length:=by
        intro p hp'
        obtain ⟨i,k1,k2⟩:=numQ_mem hp'
        have:=(List.getElem?_eq_some_iff.1 k2).1
        rw [a1.len] at this
        omega
       have q9':X.L c=[o]:=q9
       refine ⟨(c,(X.L c,X.μ c)) :: (numQ hp.length Q++P),Nat.le_trans (by rw [hl1]; omega) I.len,?_,fun p hp'=>?_,?_,fun a ha hn=>?_,fun a ha ob hb=>?_,fun s hs=>?_,fun a k1 k2=>?_,fun Y k1 k2 k3 p hp' ob hb=>?_⟩
       ·simp only [List.map_cons,List.map_append,List.flatten_cons,List.flatten_append,numQ_snd,I.ids,a1.ids]
        rw [q9',s11]; rfl
       ·rcases List.mem_cons.1 hp' with rfl | hp'
        ·exact .inl ⟨by simp,hcl,rfl⟩
        ·rcases List.mem_append.1 hp' with hp' | hp'
         ·obtain ⟨k1,k2⟩:=hQn p hp'
          exact .inr ⟨k1,Nat.lt_of_lt_of_le k2 (by rw [← hl1]; exact I.len)⟩
         ·rcases I.nam p hp' with ⟨k1,k2⟩ | ⟨k1,k2⟩
          ·exact .inl ⟨by simp [k1],k2⟩
          ·rw [hl1] at k1; exact .inr ⟨by omega,k2⟩
       ·simp only [List.map_cons,List.map_append]
        refine List.nodup_cons.2 ⟨fun hm=>?_,List.nodup_append.2 ⟨numQ_nodup,I.nod,fun i hi j hj e=>?_⟩⟩
        ·rcases List.mem_append.1 hm with hm | hm
         ·obtain ⟨p,hp',e⟩:=List.mem_map.1 hm
          have:=(hQn p hp').1
          omega
         ·obtain ⟨p,hp',e⟩:=List.mem_map.1 hm
          rcases hPlow p hp' with k | k
          ·exact hcS (e ▸ k)
          ·omega
        ·subst e
         obtain ⟨p,hp',e1⟩:=List.mem_map.1 hi
         obtain ⟨p',hp'',e2⟩:=List.mem_map.1 hj
         obtain ⟨k1,k2⟩:=hQn p hp'
         rcases hPlow p' hp'' with k | k
         ·have:=hSlt _ k; omega
         ·omega
       ·have hn:a ∉ c :: (ns'++a'.sn):=hn
        rw [I.keep a (by rw [hl1]; omega) (fun hm=>hn (by simp [hm])),hlow a ha,if_neg (fun e:a=c=>hn (by simp [e])),if_neg (fun e:a∈ns'=>hn (by simp [e]))]
       ·have ha:a∈c :: (ns'++a'.sn):=ha
        rcases List.mem_cons.1 ha with rfl | ha
        ·rw [hc2] at hb
         cases hb
         exact ⟨⟨_,hg,trivial,rfl⟩,_,List.mem_cons_self ..,rfl⟩
        ·rcases List.mem_append.1 ha with ha | ha
         ·obtain ⟨ob',hb',_⟩:=(OwnN.mutN r2) a ha
          have:a < hp.length:=Nat.lt_of_lt_of_le (hget_lt hb') hln
          rw [I.keep a (by rw [hl1]; omega) (fun hm=>n3 a ha a hm rfl),hlow a this,if_neg (fun e:a=c=>hcn (e ▸ List.mem_append.2 (.inl ha))),if_pos ha] at hb
          cases hb
         ·obtain ⟨k1,p,k2,k3⟩:=I.chg a ha ob hb
          exact ⟨k1,p,by simp [k2],k3⟩
       ·have hs:s∈c :: (ns'++a'.sn):=hs
        rcases List.mem_cons.1 hs with rfl | hs
        ·exact .inr ⟨_,List.mem_cons_self ..,rfl⟩
        ·rcases List.mem_append.1 hs with hs | hs
         ·obtain ⟨ver,sz,e,xs,hx⟩:=r2 s hs
          exact .inl ⟨_,hx,rfl⟩
         ·exact (I.cel s hs).imp id fun ⟨p,k1,k2⟩=>⟨p,by simp [k1],k2⟩
       ·by_cases hal:a < hp.length + os.length
        ·have hi:a - hp.length < Q.length:=by rw [a1.len]; omega
         refine ⟨(hp.length + (a - hp.length),Q[a - hp.length]),?_,by show hp.length + (a - hp.length)=a; omega⟩
         refine List.mem_cons_of_mem _ (List.mem_append.2 (.inl (numQ_get ?_)))
         exact List.getElem?_eq_getElem hi
        ·obtain ⟨p,q1,q2⟩:=I.new a (by rw [hl1]; omega) k2
         exact ⟨p,by simp [q1],q2⟩
       ·have hQa:AsgQ Y hp.length Q:=AsgP.q fun p hp=>k2 p (by simp [hp])
        have hlen2:hp.length + os.length≤Y.hp.length:=Nat.le_trans (by rw [← hl1]; exact I.len) k3
        rcases List.mem_cons.1 hp' with rfl | hp'
        ·rw [hc2] at hb
         cases hb
         obtain ⟨t1,t2⟩:=k2 _ (List.mem_cons_self ..)
         refine ⟨⟨o,g,b2,w2,t2.trans q1,by rw [k1]; exact s2,s3,s4,s5,s6,s7,fun _=>s8,t1.trans q9',a2 Y k1 hQa hlen2,a3⟩,rfl,fun k=>?_⟩
         have k:hp.length≤c:=k
         omega
        ·rcases List.mem_append.1 hp' with hp' | hp'
         ·obtain ⟨i,t1,t2⟩:=numQ_mem hp'
          obtain ⟨u1,u2⟩:=hQn p hp'
          have hk2:hget hp2 p.1=hget os i:=by
           rw [I.keep p.1 (by rw [hl1]; exact u2) (fun hm=>by have:=hSlt _ hm; omega),hget_append,hl0,if_neg (by omega),t1]
           congr 1; omega
          rw [hk2] at hb
          obtain ⟨ob',w1,w2,w3,w4⟩:=a1.any k1 hQa i _ (hget_get hb)
          cases w1
          rw [← t1] at w2
          exact ⟨w2,w4,fun _=>w3⟩
         ·obtain ⟨w1,w2,w3⟩:=I.ob Y k1 (fun p hp=>k2 p (by simp [hp])) k3 p hp' ob hb
          refine ⟨w1,w2,fun k=>w3 ?_⟩
          rcases hPlow p hp' with k' | k'
          ·have:=hSlt _ k'; omega
          ·rw [hl1]; exact k'
      ·cases h
     ·cases ha
    ·cases ha
  | _=>simp [argsP] at ha
end Go.Am
/- The machine on typed data against the small machine: a call that owns some of its arguments. -/
namespace Go.Am
theorem ownifyR_rel {H:Heap} (l:List Kd):∀ (n:Nat) (y:Kd.dens l) (rs:List AV) (L:List Id),l.all kindOK=true→ResR H l y rs L →
  ∃ Q,Named H n (ownifyR n l y).2 Q L∧(∀ Y:Vw,Y.H=H→AsgQ Y n Q→n + (ownifyR n l y).2.length≤Y.hp.length→VRs Y (ownifyR n l y).1 rs):=by
 induction l with
 | nil=>
  intro n y rs L _ h
  cases rs with
  | nil=>cases h; exact ⟨[],Named.nil,fun Y _ _ _=>trivial⟩
  | cons=>exact h.elim
 | cons t r ih=>
  intro n y rs L hk h
  cases rs with
  | nil=>exact h.elim
  | cons v q=>
   obtain ⟨L1,L2,h1,h2,hL⟩:=h
   simp only [List.all_cons,Bool.and_eq_true] at hk
   obtain ⟨Q1,a1,a2,_⟩:=ownify_rel (n:=n) hk.1 h1
   obtain ⟨Q2,b1,b2⟩:=ih (n + (ownify n t y.1).2.length) y.2 q L2 hk.2 h2
   subst hL
   have e:ownifyR n (t :: r) y=((ownify n t y.1).1 :: (ownifyR (n + (ownify n t y.1).2.length) r y.2).1,(ownify n t y.1).2++(ownifyR (n + (ownify n t y.1).2.length) r y.2).2):=rfl
   rw [e]
   refine ⟨Q1++Q2,a1.app b1,fun Y hH hq hl=>?_⟩
   simp only [List.length_append] at hl
   have hr:=hq.right
   rw [a1.len] at hr
   exact ⟨a2 Y hH hq.left (by omega),b2 Y hH hr (by omega)⟩
theorem tup_rel {Y:Vw}:∀ {ws:List PV} {rs:List AV},VRs Y ws rs→VR Y (tupP ws) (tupOf rs)
 | [],[],h=>⟨[],rfl,h⟩
 | [x],[v],h=>h.1
 | x :: y :: r,v :: w :: q,h=>⟨_,rfl,h⟩
 | [],_ :: _,h=>h.elim
 | _ :: _,[],h=>h.elim
 | [x],_ :: _ :: _,h=>h.2.elim
 | _ :: _ :: _,[_],h=>h.2.elim
theorem Rel.call {d:Nat} {anV:List AV} {P0:Id→Prop} {H0:Heap} {ps:PS} {μ:Nat→AV} {L:Nat→List Id} {E:AEnv} {H:Heap} {nx:Nat}
  (R:Rel d anV P0 H0 ps μ L E H nx) {env':List (Nat×PV)} {hp':List (Option PObj)} {μ':Nat→AV} {L':Nat→List Id} {H':Heap} {nx':Nat} {S:List Nat} {P:List (Nat×(List Id×AV))}
  (henv:∀ t,VR ⟨d,hp',μ',L',H',nx'⟩ (look env' t) (E t)) (hanc:VRs ⟨d,hp',μ',L',H',nx'⟩ ps.anc anV)
  (hS:MutN ps.heap S) (hL:∀ a,a < ps.heap.length→L' a=L a) (hPL:∀ p∈P,L' p.1=p.2.1)
  (hids:(P.map (·.2.1)).flatten.Nodup)
  (hfrom:∀ i∈(P.map (·.2.1)).flatten,i∈idsN L S∨∃ k,i = .dy k∧nx≤k∧k < nx')
  (hcel:∀ s∈S,(∃ ob,hget ps.heap s=some ob∧tmpO ob=none)∨∃ p∈P,p.1=s)
  (hold:∀ a ob,hget hp' a=some ob→ObR ⟨d,hp',μ',L',H',nx'⟩ a ob∧((a ∉ S∧hget ps.heap a=some ob) ∨
   ((∃ p∈P,p.1=a)∧roOf ob=false∧(a < ps.heap.length→∃ ob0,hget ps.heap a=some ob0∧tmpO ob=tmpO ob0)∧(ps.heap.length≤a→tmpO ob=none))))
  (hH:∀ i,i ∉ idsN L S→(∀ k,i = .dy k→k < nx)→H' i=H i) (hnx:nx≤nx') (hf:∀ k,nx'≤k→H' (.dy k)=none) :
  Rel d anV P0 H0 ⟨env',ps.anc,hp'⟩ μ' L' E H' nx':=by
 have hQ:((P.map (·.2)).map (·.1))=P.map (·.2.1):=by simp [List.map_map]
 have hids':((P.map (·.2)).map (·.1)).flatten.Nodup:=by rw [hQ]; exact hids
 have idx:∀ {p:Nat×(List Id×AV)},p∈P→∃ i:Nat,(P.map (·.2))[i]? = some p.2∧P[i]? = some p:=by
  intro p hp
  obtain ⟨i,hi,e⟩:=List.mem_iff_getElem.1 hp
  exact ⟨i,by simp [List.getElem?_eq_getElem hi,e],by rw [List.getElem?_eq_getElem hi,e]⟩
 have pdis:∀ {p q:Nat×(List Id×AV)},p∈P→q∈P→p.1≠q.1→∀ i∈p.2.1,i ∉ q.2.1:=by
  intro p q hp hq hne i hi
  obtain ⟨a,h1,h1'⟩:=idx hp
  obtain ⟨b,h2,h2'⟩:=idx hq
  refine flat_dis hids' (fun e=>?_) h1 h2 i hi
  subst e
  rw [h1'] at h2'
  cases h2'
  exact hne rfl
 have pmem:∀ {p:Nat×(List Id×AV)} {i:Id},p∈P→i∈p.2.1→i∈(P.map (·.2.1)).flatten:=
  fun hp hi=>List.mem_flatten.2 ⟨_,List.mem_map.2 ⟨_,hp,rfl⟩,hi⟩
 have apart:∀ {a:Nat} {ob:PObj},hget ps.heap a=some ob→a ∉ S→∀ i∈L a,i ∉ (P.map (·.2.1)).flatten:=by
  intro a ob ha hn i hi hm
  rcases hfrom i hm with h | ⟨k,rfl,hk,_⟩
  ·obtain ⟨s,hs,his⟩:=mem_idsN.1 h
   obtain ⟨os,h1,_⟩:=hS s hs
   exact R.dis a s (fun e=>hn (e ▸ hs)) (live_iff.2 ⟨_,ha⟩) (live_iff.2 ⟨_,h1⟩) i hi his
  ·have:k < nx:=R.age a ob ha _ hi
   omega
 have oldP:∀ {p:Nat×(List Id×AV)},p∈P→ps.heap.length≤p.1→∀ i∈p.2.1,oldI d nx' i:=by
  intro p hp hlen i hi
  rcases hfrom i (pmem hp hi) with h | ⟨k,rfl,_,hk⟩
  ·obtain ⟨s,hs,his⟩:=mem_idsN.1 h
   have hslt:s < ps.heap.length:=by obtain ⟨os,h1,_⟩:=hS s hs; exact hget_lt h1
   rcases hcel s hs with ⟨ob,h1,h2⟩ | ⟨p',hp',e⟩
   ·have:=ids_old R h1 h2 i his
    cases i with
    | dy k=>exact Nat.lt_of_lt_of_le this hnx
    | st=>exact this
    | ex=>exact this
   ·refine (pdis hp hp' (by omega) i hi ?_).elim
    rw [← hPL p' hp',e,hL s hslt]
    exact his
  ·exact hk
 have back:∀ {a:Nat},live hp' a→∃ ob,hget hp' a=some ob:=fun h=>live_iff.1 h
 refine ⟨henv,hanc,R.ank,fun a ob ha=>(hold a ob ha).1,?_,?_,?_,?_,?_,hf,?_,?_,fun k hk=>R.p2 k (Nat.le_trans hnx hk)⟩
 ·intro a b hab hla hlb i hi
  obtain ⟨oa,ha⟩:=back hla
  obtain ⟨ob,hb⟩:=back hlb
  rcases (hold a oa ha).2 with ⟨a1,a2⟩ | ⟨⟨p,p1,p2⟩,_⟩
  ·rw [hL a (hget_lt a2)] at hi
   rcases (hold b ob hb).2 with ⟨b1,b2⟩ | ⟨⟨q,q1,q2⟩,_⟩
   ·rw [hL b (hget_lt b2)]
    exact R.dis a b hab (live_iff.2 ⟨_,a2⟩) (live_iff.2 ⟨_,b2⟩) i hi
   ·intro hib
    rw [← q2,hPL q q1] at hib
    exact apart a2 a1 i hi (pmem q1 hib)
  ·rw [← p2,hPL p p1] at hi
   rcases (hold b ob hb).2 with ⟨b1,b2⟩ | ⟨⟨q,q1,q2⟩,_⟩
   ·rw [hL b (hget_lt b2)]
    exact fun hib=>apart b2 b1 i hib (pmem p1 hi)
   ·rw [← q2,hPL q q1]
    exact pdis p1 q1 (by rw [p2,q2]; exact hab) i hi
 ·intro a hla
  obtain ⟨oa,ha⟩:=back hla
  rcases (hold a oa ha).2 with ⟨a1,a2⟩ | ⟨⟨p,p1,p2⟩,_⟩
  ·rw [hL a (hget_lt a2)]; exact R.nd a (live_iff.2 ⟨_,a2⟩)
  ·rw [← p2,hPL p p1]
   obtain ⟨i,h1,_⟩:=idx p1
   exact flat_nodup hids' h1
 ·intro a oa ha i hi
  rcases (hold a oa ha).2 with ⟨a1,a2⟩ | ⟨⟨p,p1,p2⟩,_,p3,p4⟩
  ·rw [hL a (hget_lt a2)] at hi
   exact ageI_mono hnx (R.age a oa a2 i hi)
  ·by_cases hlt:a < ps.heap.length
   ·obtain ⟨ob0,k1,k2⟩:=p3 hlt
    rw [hL a hlt] at hi
    rw [k2]
    exact ageI_mono hnx (R.age a ob0 k1 i hi)
   ·rw [← p2,hPL p p1] at hi
    have:=oldP p1 (by omega) i hi
    cases i with
    | dy k=>exact this
    | st d' t=>exact .inl this
    | ex=>exact this
 ·intro a hla i hi
  obtain ⟨oa,ha⟩:=back hla
  have old_mono:oldI d nx i→oldI d nx' i:=by
   intro h
   cases i with
   | dy k=>exact Nat.lt_of_lt_of_le h hnx
   | st=>exact h
   | ex=>exact h
  rcases (hold a oa ha).2 with ⟨a1,a2⟩ | ⟨⟨p,p1,p2⟩,_,p3,p4⟩
  ·rw [hL a (hget_lt a2)] at hi
   exact old_mono (R.tl a (live_iff.2 ⟨_,a2⟩) i hi)
  ·by_cases hlt:a < ps.heap.length
   ·obtain ⟨ob0,k1,k2⟩:=p3 hlt
    rw [hL a hlt] at hi
    exact old_mono (R.tl a (live_iff.2 ⟨_,k1⟩) i hi)
   ·rw [← p2,hPL p p1] at hi
    exact oldP p1 (by omega) i (List.mem_of_mem_tail hi)
 ·intro a oa t ha ht o ho
  rcases (hold a oa ha).2 with ⟨a1,a2⟩ | ⟨⟨p,p1,p2⟩,_,p3,p4⟩
  ·rw [hL a (hget_lt a2)] at ho
   exact R.st a oa t a2 ht o ho
  ·by_cases hlt:a < ps.heap.length
   ·obtain ⟨ob0,k1,k2⟩:=p3 hlt
    rw [hL a hlt] at ho
    exact R.st a ob0 t k1 (k2 ▸ ht) o ho
   ·rw [p4 (by omega)] at ht; cases ht
 ·intro i hi
  refine (hH i (fun hm=>?_) fun k e=>?_).trans (R.p0 i hi)
  ·obtain ⟨s,hs,his⟩:=mem_idsN.1 hm
   obtain ⟨os,h1,h2⟩:=hS s hs
   exact R.p1 s os h1 h2 i his hi
  ·subst e
   by_cases hk:k < nx
   ·exact hk
   ·exact (R.p2 k (by omega) hi).elim
 ·intro a oa ha hro i hi hP
  rcases (hold a oa ha).2 with ⟨a1,a2⟩ | ⟨⟨p,p1,p2⟩,_⟩
  ·rw [hL a (hget_lt a2)] at hi
   exact R.p1 a oa a2 hro i hi hP
  ·rw [← p2,hPL p p1] at hi
   rcases hfrom i (pmem p1 hi) with h | ⟨k,rfl,hk,_⟩
   ·obtain ⟨s,hs,his⟩:=mem_idsN.1 h
    obtain ⟨os,h1,h2⟩:=hS s hs
    exact R.p1 s os h1 h2 i his hP
   ·exact R.p2 k hk hP
section
variable {T:Tab} {d:Nat} {anV:List AV} {P0:Id→Prop} {H0:Heap} {ps:PS} {μ:Nat→AV} {L:Nat→List Id} {E:AEnv} {H:Heap} {nx:Nat}
theorem call_sep (R:Rel d anV P0 H0 ps μ L E H nx) {f:Nat} {sg:Sig} {F:sg.F} {vs:List PV} {avs:List AV} {a:ArgsP sg.ps} {ys:Kd.dens (sg.rs++outK sg.ps)}
  (hsg:sigOK sg=true) (hm:T.mode f = .sep (keepK sg.ps)) (hc:ConOK T f sg F) (hvs:VRs ⟨d,ps.heap,μ,L,H,nx⟩ vs avs) (ha:argsP ps.heap sg.ps vs=some a) (hF:F a.xs=some ys) (hnd:a.sn.Nodup)
  (hrd:∀ i∈sepRd H (keepK sg.ps) avs,i ∉ idsN L a.sn) :
  ∃ rs H' nx' Lr La,callOp T (arun T) (8 * d) f avs H nx=some (tupOf rs,H',nx')∧nx≤nx'∧ResR H' sg.rs (fstDens _ _ ys) rs Lr∧LeftR H' sg.ps (sndDens _ _ ys) (sepArgs H (keepK sg.ps) avs) La∧(La++Lr).Nodup ∧
   (∀ i∈La++Lr,i∈idsN L a.sn∨∃ k,i = .dy k∧nx≤k∧k < nx')∧(∀ i,i ∉ idsN L a.sn→(∀ k,i = .dy k→k < nx)→H' i=H i)∧(∀ k,nx'≤k→H' (.dy k)=none):=by
 have hsg':=hsg
 simp only [sigOK,Bool.and_eq_true] at hsg'
 obtain ⟨hA,hmut,_,_⟩:=argsP_rel R.obs hsg'.1 hvs ha
 have hcl:=hA.cl
 have hmem:∀ i,i∈reachs H 12 (sepArgs H (keepK sg.ps) avs)↔i∈idsN L a.sn:=fun i=>⟨hA.reach_sub hcl 12 (fun _ h=>h) i,hA.reach hsg'.1 i⟩
 generalize hSd:reachs H 12 (sepArgs H (keepK sg.ps) avs)=S at hmem
 have hlive:∀ b∈a.sn,live ps.heap b:=fun b hb=>by obtain ⟨ob,h1,_⟩:=hmut b hb; exact live_iff.2 ⟨ob,h1⟩
 have hrs:∀ i∈idsN L a.sn,restr H S i=H i:=fun i hi=>by simp only [restr]; rw [if_pos ((hmem i).2 hi)]
 have hage:∀ i∈idsN L a.sn,handI (d + 1) nx i:=by
  intro i hi
  obtain ⟨b,hb,hib⟩:=mem_idsN.1 hi
  obtain ⟨ob,h1,_⟩:=hmut b hb
  have:=R.age b ob h1 i hib
  cases i with
  | dy k=>exact this
  | st d' t=>
   show d' < d + 1
   rcases this with h | h <;> omega
  | ex=>exact this
 obtain ⟨rs,H1,nx',Lr,La,c1,c2,c3,c4,c5,c6,c7,c8⟩:=hc (d + 1) nx (restr H S) _ (idsN L a.sn) a.xs ys hF (hA.frame hrs) (idsN_nodup R hnd hlive)
  (fun i hi=>by simp only [restr]; rw [if_neg (fun h=>hi ((hmem i).1 h))]) hage
 have hreg:∀ i∈Lr++La,region H S nx i:=by
  intro i hi
  rcases c6 i hi with h | ⟨k,rfl,hk,_⟩
  ·exact .inl ((hmem i).2 h)
  ·exact .inr ⟨by simp [isFresh,hk],R.fresh k hk⟩
 have hcl1:Cl H1 (Lr++La):=c3.cl.app c4.cl
 have hinK:∀ i∈Lr++La,inK H H1 S nx i:=by
  intro i hi
  refine ⟨(· ∈ Lr++La),hi,fun p hp=>⟨hreg p hp,?_⟩⟩
  obtain ⟨b,h1,_,h3⟩:=hcl1 p hp
  exact ⟨b,h1,h3⟩
 have hov:∀ i∈Lr++La,over H H1 S nx i=H1 i:=by
  intro i hi
  simp only [over]
  rw [if_pos (hreg i hi),if_pos (hinK i hi)]
 have hpre:sepPre H (keepK sg.ps) avs:=by
  unfold sepPre
  rw [hSd]
  refine ⟨okIns_mono (fun p hp=>(hmem p).2 hp) _ hA.okIns,fun o ho=>⟨fun b hb x hx=>?_,fun h=>hrd o h ((hmem o).1 ho)⟩⟩
  obtain ⟨b',h1,_,h3⟩:=hcl o ((hmem o).1 ho)
  rw [hb] at h1
  cases h1
  exact okIn_mono (fun p hp=>(hmem p).2 hp) x (okIn_of x (h3 x hx))
 have hpost:sepPost H H1 S nx rs:=⟨fineVs_mono (fun p hp=>hinK p (by simp [hp])) rs c3.fine,fun o b _ hb=>c7 o b hb⟩
 refine ⟨rs,over H H1 S nx,nx',Lr,La,?_,c2,c3.frame (fun i hi=>hov i (by simp [hi])),c4.frame (fun i hi=>hov i (by simp [hi])),List.perm_append_comm.nodup_iff.1 c5,fun i hi=>c6 i (List.mem_append.2 (List.mem_append.1 hi).symm),fun i hi hk=>?_,fun k hk=>?_⟩
 ·subst hSd
  unfold callOp
  rw [hm]
  simp only [nxd8]
  rw [if_pos hpre,c1]
  simp only
  rw [if_pos hpost]
 ·simp only [over]
  rw [if_neg]
  rintro (h | ⟨h,_⟩)
  ·exact hi ((hmem i).1 h)
  ·cases i with
   | dy k=>
    have:=hk k rfl
    simp [isFresh] at h
    omega
   | _=>simp [isFresh] at h
 ·simp only [over]
  rw [if_pos (.inr ⟨by simp [isFresh]; omega,R.fresh k (by omega)⟩)]
  split
  ·exact c8 k hk
  ·rw [c8 k hk]; rfl
end
end Go.Am
/- The machine on typed data against the small machine: calls that tell what is live. -/
namespace Go.Am
def lkP:List (Nat×(List Id×AV))→Nat→List Id×AV
 | [],_=>([],.undef)
 | p :: r,a=>if p.1=a then p.2 else lkP r a
theorem lkP_of:∀ {P:List (Nat×(List Id×AV))} {p:Nat×(List Id×AV)},(P.map (·.1)).Nodup→p∈P→lkP P p.1=p.2
 | q :: r,p,h,hp=>by
  simp only [List.map_cons] at h
  obtain ⟨h1,h2⟩:=List.nodup_cons.1 h
  simp only [lkP]
  rcases List.mem_cons.1 hp with rfl | hp
  ·rw [if_pos rfl]
  ·rw [if_neg (fun e:q.1=p.1=>h1 (e ▸ List.mem_map.2 ⟨p,hp,rfl⟩))]
   exact lkP_of h2 hp
section
variable {tb:PTab} {T:Tab} {n:Nat} {d:Nat} {anV:List AV} {P0:Id→Prop} {H0:Heap} {ps:PS} {μ:Nat→AV} {L:Nat→List Id} {E:AEnv} {H:Heap} {nx:Nat} {ρ:Type} {r:ρ} {k:PV→PS→Option ρ}
theorem ca_read (R:Rel d anV P0 H0 ps μ L E H nx) {f:Nat} {sg:Sig} {F:sg.F} {vs:List PV} {avs:List AV} {a:ArgsP sg.ps} {ys:Kd.dens (sg.rs++outK sg.ps)}
  (hsg:sigOK sg=true) (hm:T.mode f = .sep (keepK sg.ps)) (hc:ConOK T f sg F) (hvs:VRs ⟨d,ps.heap,μ,L,H,nx⟩ vs avs) (ha:argsP ps.heap sg.ps vs=some a) (hF:F a.xs=some ys) (hsn:a.sn=[])
  (hk:k (tupP (ownifyR ps.heap.length sg.rs (fstDens sg.rs (outK sg.ps) ys)).1) { ps with heap:=ps.heap++(ownifyR ps.heap.length sg.rs (fstDens sg.rs (outK sg.ps) ys)).2 }=some r) :
  CaRes T d anV P0 H0 E ps μ L H nx k r f avs:=by
 obtain ⟨rs,H',nx',Lr,La,c1,c2,c3,c4,c5,c6,c7,c8⟩:=call_sep R hsg hm hc hvs ha hF (by rw [hsn]; exact List.nodup_nil) (by rw [hsn]; intro i _ h; cases h)
 rw [hsn] at c6 c7
 simp only [sigOK,Bool.and_eq_true] at hsg
 obtain ⟨Q,a1,a2⟩:=ownifyR_rel _ ps.heap.length _ _ _ hsg.2 c3
 generalize hpr:ownifyR ps.heap.length sg.rs (fstDens sg.rs (outK sg.ps) ys)=pr at hk a1 a2
 obtain ⟨ws,os⟩:=pr
 simp only at hk a1 a2
 let P:=numQ ps.heap.length Q
 let μ':Nat→AV:=fun b=>if b < ps.heap.length then μ b else (lkP P b).2
 let L':Nat→List Id:=fun b=>if b < ps.heap.length then L b else (lkP P b).1
 have hμ:∀ b,b < ps.heap.length→μ' b=μ b:=fun b hb=>by show (if b < ps.heap.length then μ b else (lkP P b).2)=μ b; rw [if_pos hb]
 have hL:∀ b,b < ps.heap.length→L' b=L b:=fun b hb=>by show (if b < ps.heap.length then L b else (lkP P b).1)=L b; rw [if_pos hb]
 have hPge:∀ p∈P,ps.heap.length≤p.1:=fun p hp=>by obtain ⟨i,h1,_⟩:=numQ_mem hp; omega
 let Y:Vw:=⟨d,ps.heap++os,μ',L',H',nx'⟩
 have hasg:AsgP Y P:=by
  intro p hp
  have hl:=lkP_of numQ_nodup hp
  have hge:=hPge p hp
  refine ⟨?_,?_⟩
  ·show (if p.1 < ps.heap.length then L p.1 else (lkP P p.1).1)=_
   rw [if_neg (by omega)]; rw [show lkP P p.1=p.2 from hl]
  ·show (if p.1 < ps.heap.length then μ p.1 else (lkP P p.1).2)=_
   rw [if_neg (by omega)]; rw [show lkP P p.1=p.2 from hl]
 have hfl:(P.map (·.2.1)).flatten=Lr:=by rw [numQ_snd,a1.ids]
 have hvw:VRs Y ws rs:=a2 Y rfl hasg.q (by show _≤(ps.heap++os).length; simp)
 have hnew:∀ {b:Nat},ps.heap.length≤b→live (ps.heap++os) b→∃ p∈P,p.1=b:=by
  intro b hb hl
  obtain ⟨ob,h1⟩:=live_iff.1 hl
  have hlt:=hget_lt h1
  rw [List.length_append,← a1.len] at hlt
  have hi:b - ps.heap.length < Q.length:=by omega
  refine ⟨(ps.heap.length + (b - ps.heap.length),Q[b - ps.heap.length]),numQ_get (List.getElem?_eq_getElem hi),?_⟩
  show ps.heap.length + (b - ps.heap.length)=b
  omega
 have g:Grow ⟨d,ps.heap,μ,L,H,nx⟩ Y none:=by
  refine Grow.of rfl (by show ps.heap.length≤(ps.heap++os).length; simp) hμ (fun b hb=>?_) c2 (fun i h1 h2=>?_) (fun i hi=>?_)
  ·show laterO (hget ps.heap b) (hget (ps.heap++os) b)
   rw [hget_append,if_pos hb]; exact laterO.refl _
  ·refine c7 i (by simp [idsN]) fun q e=>?_
   subst e
   by_cases hq:q < nx
   ·exact hq
   ·exact (h2 (.inl ⟨q,rfl,by show nx≤q; omega⟩)).elim
  ·obtain ⟨b,h1,h2⟩:=hi
   have h1:live (ps.heap++os) b:=h1
   have h2:(L' b).head? = some i:=h2
   by_cases hb:b < ps.heap.length
   ·left
    rw [hL b hb] at h2
    refine ⟨b,?_,h2⟩
    have:hget (ps.heap++os) b=hget ps.heap b:=by rw [hget_append,if_pos hb]
    unfold live at h1 ⊢
    rw [this] at h1; exact h1
   ·right
    obtain ⟨p,p1,p2⟩:=hnew (by omega) h1
    have hi:i∈p.2.1:=by
     rw [← p2,show L' p.1=p.2.1 from (hasg p p1).1] at h2
     exact List.mem_of_head? h2
    have him:i∈Lr:=by rw [← hfl]; exact List.mem_flatten.2 ⟨_,List.mem_map.2 ⟨_,p1,rfl⟩,hi⟩
    rcases c6 i (by simp [him]) with h | ⟨q,rfl,hq,_⟩
    ·cases h
    ·exact .inl ⟨q,rfl,hq⟩
 have R':Rel d anV P0 H0 ⟨ps.env,ps.anc,ps.heap++os⟩ μ' L' E H' nx':=by
  refine Rel.call (S:=[]) (P:=P) R (fun t=>VR.mono g _ _ (fun _ e=>by cases e) (R.env t)) (VRs.mono g _ _ (fun _ e=>by cases e) R.anc) (fun b hb=>by cases hb) hL (fun p hp=>(hasg p hp).1) (by rw [hfl]; exact (List.nodup_append.1 c5).2.1)
   (fun i hi=>c6 i (by rw [hfl] at hi; simp [hi])) (fun s hs=>by cases hs) (fun b ob hb=>?_) (fun i _ hk=>c7 i (by simp [idsN]) hk) c2 c8
  by_cases hlt:b < ps.heap.length
  ·rw [hget_append,if_pos hlt] at hb
   refine ⟨ObR.mono g hlt (hL b hlt) (fun i hi=>?_) (R.ob b ob hb),.inl ⟨by simp,hb⟩⟩
   refine c7 i (by simp [idsN]) fun q e=>?_
   subst e
   exact R.age b ob hb _ hi
  ·have hp:=hnew (by omega) (live_iff.2 ⟨ob,hb⟩)
   rw [hget_append,if_neg hlt] at hb
   obtain ⟨ob',w1,w2,w3,w4⟩:=a1.any (Y:=Y) rfl hasg.q _ _ (hget_get hb)
   cases w1
   rw [show ps.heap.length + (b - ps.heap.length)=b by omega] at w2
   exact ⟨w2,.inr ⟨hp,w4,fun h=>absurd h hlt,fun _=>w3⟩⟩
 exact ⟨_,_,_,μ',L',H',nx',hk,c1,R',tup_rel hvw,by show ps.heap.length≤(ps.heap++os).length; simp,fun b hb=>⟨hμ b hb,hL b hb⟩,c2,rfl,EW.refl _,(LB.refl _).app rfl⟩
theorem ca_own (R:Rel d anV P0 H0 ps μ L E H nx) {f:Nat} {sg:Sig} {F:sg.F} {vs:List PV} {avs:List AV} {a:ArgsP sg.ps} {ys:Kd.dens (sg.rs++outK sg.ps)} {hp2:List (Option PObj)}
  (hsg:sigOK sg=true) (hm:T.mode f = .sep (keepK sg.ps)) (hc:ConOK T f sg F) (hvs:VRs ⟨d,ps.heap,μ,L,H,nx⟩ vs avs) (ha:argsP ps.heap sg.ps vs=some a) (hF:F a.xs=some ys)
  (hnd:nodupB a.sn=true) (hdis:disN a.dn a.sn=true) (hfr:a.fr=true) (hdb:deepB ps.heap a.dn=true) (han:freePs ps.anc=true) (hleft:leftP sg.ps vs (sndDens sg.rs (outK sg.ps) ys) (ps.heap.map clnO)=some hp2)
  (hk:k (tupP (ownifyR hp2.length sg.rs (fstDens sg.rs (outK sg.ps) ys)).1) ⟨clnE ps.env,ps.anc,hp2++(ownifyR hp2.length sg.rs (fstDens sg.rs (outK sg.ps) ys)).2⟩=some r) :
  CaRes T d anV P0 H0 E ps μ L H nx k r f avs:=by
 have hnd:=nodupB_spec hnd
 have hsg':=hsg
 simp only [sigOK,Bool.and_eq_true] at hsg'
 obtain ⟨_,hmut,_,hrd⟩:=argsP_rel R.obs hsg'.1 hvs ha
 obtain ⟨rs,H',nx',Lr,La,c1,c2,c3,c4,c5,c6,c7,c8⟩:=call_sep R hsg hm hc hvs ha hF hnd (by
  intro i hi hm
  obtain ⟨b,hb,hbl,hib⟩:=hrd hfr hdb i hi
  obtain ⟨s,hs,his⟩:=mem_idsN.1 hm
  obtain ⟨os,h1,_⟩:=hmut s hs
  exact R.dis b s (disN_ne hdis hb hs) hbl (live_iff.2 ⟨_,h1⟩) i hib his)
 have hcl:(ps.heap.map clnO).length=ps.heap.length:=by simp
 have hgc:∀ b,hget (ps.heap.map clnO) b=clnO (hget ps.heap b):=fun b=>hget_map (f:=clnO) rfl
 obtain ⟨P1,I⟩:=left_ok (X:=⟨d,ps.heap,μ,L,H,nx⟩) (Hs:=H) R.obs rfl hsg'.1 hvs ha hnd c4 (by rw [hcl]; exact Nat.le_refl _) (fun b hb=>by
  show hget (ps.heap.map clnO) b=none∨hget (ps.heap.map clnO) b=hget ps.heap b
  rw [hgc]
  cases hx:clnO (hget ps.heap b) with
  | none=>exact .inl rfl
  | some ob=>exact .inr (clnO_some hx).1.symm) hleft
 obtain ⟨Q,a1,a2⟩:=ownifyR_rel _ hp2.length _ _ _ hsg'.2 c3
 generalize hpr:ownifyR hp2.length sg.rs (fstDens sg.rs (outK sg.ps) ys)=pr at hk a1 a2
 obtain ⟨ws,os⟩:=pr
 simp only at hk a1 a2
 have hN:ps.heap.length≤hp2.length:=hcl ▸ I.len
 let P:=P1++numQ hp2.length Q
 have hP1lt:∀ p∈P1,p.1 < hp2.length:=by
  intro p hp
  rcases I.nam p hp with ⟨_,h,_⟩ | ⟨_,h⟩
  ·have h:p.1 < ps.heap.length:=h
   omega
  ·exact h
 have hnod:(P.map (·.1)).Nodup:=by
  show ((P1++numQ hp2.length Q).map (·.1)).Nodup
  rw [List.map_append]
  refine List.nodup_append.2 ⟨I.nod,numQ_nodup,fun i hi j hj e=>?_⟩
  subst e
  obtain ⟨p,hp,e1⟩:=List.mem_map.1 hi
  obtain ⟨q,hq,e2⟩:=List.mem_map.1 hj
  obtain ⟨m,h1,_⟩:=numQ_mem hq
  have:=hP1lt p hp
  omega
 let μ':Nat→AV:=fun b=>if b < ps.heap.length then μ b else (lkP P b).2
 let L':Nat→List Id:=fun b=>if b < ps.heap.length then L b else (lkP P b).1
 have hμ:∀ b,b < ps.heap.length→μ' b=μ b:=fun b hb=>by show (if b < ps.heap.length then μ b else (lkP P b).2)=μ b; rw [if_pos hb]
 have hL:∀ b,b < ps.heap.length→L' b=L b:=fun b hb=>by show (if b < ps.heap.length then L b else (lkP P b).1)=L b; rw [if_pos hb]
 let Y:Vw:=⟨d,hp2++os,μ',L',H',nx'⟩
 have hasg:AsgP Y P:=by
  intro p hp
  have hl:=lkP_of hnod hp
  by_cases hlt:p.1 < ps.heap.length
  ·have hp':p.2=(L p.1,μ p.1):=by
    rcases List.mem_append.1 hp with hp | hp
    ·rcases I.nam p hp with ⟨_,_,h⟩ | ⟨h,_⟩
     ·exact h
     ·rw [hcl] at h; omega
    ·obtain ⟨m,h1,_⟩:=numQ_mem hp
     omega
   refine ⟨?_,?_⟩
   ·show L' p.1=_; rw [hL _ hlt,hp']
   ·show μ' p.1=_; rw [hμ _ hlt,hp']
  ·refine ⟨?_,?_⟩
   ·show (if p.1 < ps.heap.length then L p.1 else (lkP P p.1).1)=_
    rw [if_neg hlt,hl]
   ·show (if p.1 < ps.heap.length then μ p.1 else (lkP P p.1).2)=_
    rw [if_neg hlt,hl]
 have hasg1:AsgP Y P1:=fun p hp=>hasg p (List.mem_append.2 (.inl hp))
 have hasgQ:AsgQ Y hp2.length Q:=AsgP.q fun p hp=>hasg p (List.mem_append.2 (.inr hp))
 have hlenY:hp2.length + os.length≤Y.hp.length:=by show _≤(hp2++os).length; simp
 have hfl:(P.map (·.2.1)).flatten=La++Lr:=by
  show ((P1++numQ hp2.length Q).map (·.2.1)).flatten=_
  rw [List.map_append,List.flatten_append,I.ids,numQ_snd,a1.ids]
 have hvw:VRs Y ws rs:=a2 Y rfl hasgQ hlenY
 have pmem:∀ {p:Nat×(List Id×AV)} {i:Id},p∈P→i∈p.2.1→i∈La++Lr:=fun hp hi=>by
  rw [← hfl]; exact List.mem_flatten.2 ⟨_,List.mem_map.2 ⟨_,hp,rfl⟩,hi⟩
 have cases3:∀ {b:Nat} {ob:PObj},hget (hp2++os) b=some ob→(b < ps.heap.length∧b ∉ a.sn∧hget ps.heap b=some ob∧clnO (some ob)=some ob) ∨
   (b < ps.heap.length∧b∈a.sn∧(∃ ob0,hget ps.heap b=some ob0∧laterO (some ob0) (some ob)∧tmpO ob=tmpO ob0)∧(∃ p∈P1,p.1=b)∧hget hp2 b=some ob) ∨
   (ps.heap.length≤b∧b < hp2.length∧(∃ p∈P1,p.1=b)∧hget hp2 b=some ob)∨(hp2.length≤b∧(∃ p∈P,p.1=b)∧hget os (b - hp2.length)=some ob):=by
  intro b ob hb
  by_cases h2:b < hp2.length
  ·rw [hget_append,if_pos h2] at hb
   by_cases h1:b < ps.heap.length
   ·by_cases hs:b∈a.sn
    ·obtain ⟨k1,k2⟩:=I.chg b hs ob hb
     exact .inr (.inl ⟨h1,hs,k1,k2,hb⟩)
    ·rw [I.keep b (by rw [hcl]; exact h1) hs,hgc] at hb
     obtain ⟨k1,k2⟩:=clnO_some hb
     exact .inl ⟨h1,hs,k1,k2⟩
   ·exact .inr (.inr (.inl ⟨by omega,h2,I.new b (by rw [hcl]; omega) h2,hb⟩))
  ·have hlt:=hget_lt hb
   rw [List.length_append,← a1.len] at hlt
   rw [hget_append,if_neg h2] at hb
   have hi:b - hp2.length < Q.length:=by omega
   refine .inr (.inr (.inr ⟨by omega,⟨(hp2.length + (b - hp2.length),Q[b - hp2.length]),List.mem_append.2 (.inr (numQ_get (List.getElem?_eq_getElem hi))),?_⟩,hb⟩))
   show hp2.length + (b - hp2.length)=b
   omega
 have hnoKI:∀ {t:Nat},¬ (⟨d,ps.heap,μ,L,H,nx⟩:Vw).top (.st d t)→Id.st d t ∉ idsN L a.sn:=by
  intro t ht hm
  obtain ⟨s,hs,his⟩:=mem_idsN.1 hm
  obtain ⟨ob,h1,_⟩:=hmut s hs
  have hl:live ps.heap s:=live_iff.2 ⟨_,h1⟩
  cases hLs:L s with
  | nil=>rw [hLs] at his; cases his
  | cons x q=>
   rw [hLs] at his
   rcases List.mem_cons.1 his with e | his
   ·exact ht ⟨s,hl,by show (L s).head? = _; rw [hLs,e]; rfl⟩
   ·have:=R.tl s hl (.st d t) (by rw [hLs]; exact his)
    have:d < d:=this
    omega
 have g:GrowF ⟨d,ps.heap,μ,L,H,nx⟩ Y:=by
  refine ⟨rfl,by show ps.heap.length≤(hp2++os).length; rw [List.length_append]; omega,hμ,fun b hb=>?_,fun t o ho=>?_⟩
  ·show laterO (hget ps.heap b) (hget (hp2++os) b)
   cases hx:hget (hp2++os) b with
   | none=>exact laterO_none _
   | some ob=>
    have hb:b < ps.heap.length:=hb
    rcases cases3 hx with ⟨_,_,h,_⟩ | ⟨_,_,⟨ob0,h,h2,_⟩,_⟩ | ⟨h,_⟩ | ⟨h,_⟩
    ·rw [h]; exact laterO.refl _
    ·rw [h]; exact h2
    ·omega
    ·omega
  ·obtain ⟨ho1,ho2⟩:=ho
   have ho1:o = .st d t:=ho1
   subst ho1
   have hni:=hnoKI ho2
   refine ⟨c7 _ hni fun q e=>(by cases e),rfl,fun htop=>?_⟩
   obtain ⟨b,h1,h2⟩:=htop
   obtain ⟨ob,hb⟩:=live_iff.1 (show live (hp2++os) b from h1)
   have h2:(L' b).head? = some (.st d t):=h2
   have viaP:∀ {p:Nat×(List Id×AV)},p∈P→p.1=b→False:=by
    intro p hp e
    have hL2:L' p.1=p.2.1:=(hasg p hp).1
    rw [← e,hL2] at h2
    rcases c6 _ (pmem hp (List.mem_of_head? h2)) with h | ⟨q,h,_⟩
    ·exact hni h
    ·cases h
   rcases cases3 hb with ⟨h3,_,h4,_⟩ | ⟨h3,_,⟨ob0,h4,_⟩,_⟩ | ⟨h3,_,⟨p,p1,p2⟩,_⟩ | ⟨h3,⟨p,p1,p2⟩,_⟩
   ·rw [hL b h3] at h2
    exact ho2 ⟨b,live_iff.2 ⟨_,h4⟩,h2⟩
   ·rw [hL b h3] at h2
    exact ho2 ⟨b,live_iff.2 ⟨_,h4⟩,h2⟩
   ·exact viaP (List.mem_append.2 (.inl p1)) p2
   ·exact viaP p1 p2
 have R':Rel d anV P0 H0 ⟨clnE ps.env,ps.anc,hp2++os⟩ μ' L' E H' nx':=by
  refine Rel.call (S:=a.sn) (P:=P) R (fun t=>?_) (VRs.monoF g _ _ han R.anc) hmut hL (fun p hp=>(hasg p hp).1) (by rw [hfl]; exact c5) (fun i hi=>c6 i (by rw [hfl] at hi; exact hi))
   (fun s hs=>(I.cel s hs).imp id fun ⟨p,h1,h2⟩=>⟨p,List.mem_append.2 (.inl h1),h2⟩) (fun b ob hb=>?_) c7 c2 c8
  ·show VR Y (look (clnE ps.env) t) (E t)
   rcases look_clnE ps.env t with h | ⟨h,hf⟩
   ·rw [h]; trivial
   ·rw [h]; exact VR.monoF g _ _ hf (R.env t)
  ·rcases cases3 hb with ⟨h1,h2,h3,h4⟩ | ⟨h1,h2,⟨ob0,h3,_,h4⟩,⟨p,p1,p2⟩,h6⟩ | ⟨h1,h2,⟨p,p1,p2⟩,h6⟩ | ⟨h1,h2,h3⟩
   ·refine ⟨ObR.monoF g h1 (hL b h1) (fun i hi=>?_) h4 (R.ob b ob h3),.inl ⟨h2,h3⟩⟩
    refine c7 i (fun hm=>?_) fun q e=>?_
    ·obtain ⟨s,hs,his⟩:=mem_idsN.1 hm
     obtain ⟨obs,hq,_⟩:=hmut s hs
     exact R.dis b s (fun e=>h2 (e ▸ hs)) (live_iff.2 ⟨_,h3⟩) (live_iff.2 ⟨_,hq⟩) i hi his
    ·subst e
     exact R.age b ob h3 _ hi
   ·rw [← p2] at h6
    obtain ⟨w1,w2,w3⟩:=I.ob Y rfl hasg1 (by show hp2.length≤(hp2++os).length; simp) p p1 ob h6
    rw [p2] at w1
    exact ⟨w1,.inr ⟨⟨p,List.mem_append.2 (.inl p1),p2⟩,w2,fun _=>⟨ob0,h3,h4⟩,fun h=>by omega⟩⟩
   ·rw [← p2] at h6
    obtain ⟨w1,w2,w3⟩:=I.ob Y rfl hasg1 (by show hp2.length≤(hp2++os).length; simp) p p1 ob h6
    rw [p2] at w1
    exact ⟨w1,.inr ⟨⟨p,List.mem_append.2 (.inl p1),p2⟩,w2,fun h=>(by omega),fun _=>w3 (by rw [hcl,p2]; exact h1)⟩⟩
   ·obtain ⟨ob',w1,w2,w3,w4⟩:=a1.any (Y:=Y) rfl hasgQ _ _ (hget_get h3)
    cases w1
    rw [show hp2.length + (b - hp2.length)=b by omega] at w2
    exact ⟨w2,.inr ⟨h2,w4,fun h=>(by omega),fun _=>w3⟩⟩
 refine ⟨_,_,_,μ',L',H',nx',hk,c1,R',tup_rel hvw,by show ps.heap.length≤(hp2++os).length; rw [List.length_append]; omega,fun b hb=>⟨hμ b hb,hL b hb⟩,c2,rfl,fun t=>?_,fun b hb hl=>?_⟩
 ·rcases look_clnE ps.env t with h | ⟨h,_⟩
  ·exact .inr (.inl h)
  ·exact .inl h
 ·obtain ⟨ob,h⟩:=live_iff.1 hl
  rcases cases3 h with ⟨_,_,h3,_⟩ | ⟨_,_,⟨ob0,h3,_⟩,_⟩ | ⟨h3,_⟩ | ⟨h3,_⟩
  ·exact live_iff.2 ⟨_,h3⟩
  ·exact live_iff.2 ⟨_,h3⟩
  ·omega
  ·omega
end
end Go.Am
/- The machine on typed data against the small machine: calls that read data and tell data. -/
namespace Go.Am
def allDat:List PKd→Bool
 | []=>true
 | .dat _ :: r=>allDat r
 | _ :: _=>false
theorem flat_deps:∀ {fs:List Kd},(Kd.st fs).flat=true→Kd.deps fs=0
 | [],_=>rfl
 | t :: r,h=>by
  simp only [Kd.flat,List.all_cons,Bool.and_eq_true] at h
  have hr:(Kd.st r).flat=true:=by simpa only [Kd.flat] using h.2
  simp only [Kd.deps,flat_deps hr]
  cases t <;> simp_all [Kd.dep]
theorem flat_dep {t:Kd} (h:t.flat=true):t.dep≤1:=by
 cases t with
 | st fs=>simp only [Kd.dep,flat_deps h]; omega
 | sl=>cases h
 | _=>simp [Kd.dep]
theorem Reps.plainF {own:Bool} {H:Heap}:∀ {fs:List Kd} {x:Kd.dens fs} {ts:List TV} {L:List Id},(Kd.st fs).flat=true→Reps own H fs x (ts.map .c) L→ts.all TV.plain=true
 | [],x,[],L,_,h=>rfl
 | [],x,_ :: _,L,_,h=>by simp [Reps] at h
 | _ :: _,x,[],L,_,h=>by simp [Reps] at h
 | t :: r,x,v :: vs,L,hf,⟨hs,L1,L2,h1,h2,hL⟩=>by
  simp only [Kd.flat,List.all_cons,Bool.and_eq_true] at hf
  simp only [List.all_cons,Bool.and_eq_true]
  refine ⟨?_,Reps.plainF (fs:=r) (by simpa only [Kd.flat] using hf.2) h2⟩
  cases t with
  | int k=>obtain ⟨h1,_⟩:=h1; cases h1; rfl
  | bool=>obtain ⟨h1,_⟩:=h1; cases h1; rfl
  | str=>obtain ⟨h1,_⟩:=h1; cases h1; rfl
  | st=>cases hs
  | sl=>simp at hf
theorem Rep.scalarF {own:Bool} {H:Heap} {t:Kd} {x:t.den} {tv:TV} {L:List Id} (hf:t.flat=true) (h:Rep own H t x (.c tv) L):tv.scalar=true:=by
 cases t with
 | int k=>obtain ⟨h1,_⟩:=h; cases h1; rfl
 | bool=>obtain ⟨h1,_⟩:=h; cases h1; rfl
 | str=>obtain ⟨h1,_⟩:=h; cases h1; rfl
 | sl=>cases hf
 | st fs=>
  obtain ⟨h1,h2⟩:=h
  cases tv with
  | agg ts=>exact Reps.plainF hf h2
  | _=>cases h1
theorem Rep.frzF {own:Bool} {H:Heap} {t:Kd} {x:t.den} {v:AV} {L:List Id} (hf:t.flat=true) (h:Rep own H t x v L):∃ tv,Go.Am.frz H 12 v=some tv∧tv.scalar=true∧∀ H',Rep true H' t x (.c tv) []:=by
 obtain ⟨tv,h1,h2,h3⟩:=Rep.frz t 12 x v L (Nat.le_trans (flat_dep hf) (by omega)) ((Rep.flat (own':=false) (H':=H) hf h).1 |> fun k=>by
  have:=(Rep.flat (own':=false) (H':=H) hf h).2
  subst this; exact k)
 exact ⟨tv,h1,Rep.scalarF hf (h3 H),fun H'=>(Rep.flat (own':=true) (H':=H') hf (h3 H)).1⟩
theorem ResR.frz {H:Heap} (l:List Kd):∀ (y:Kd.dens l) (rs:List AV) (L:List Id),l.all Kd.flat=true→ResR H l y rs L→∃ us,frzs H 12 rs=some us∧us.all TV.scalar=true∧∀ H',ResR H' l y (us.map .c) []:=by
 induction l with
 | nil=>
  intro y rs L _ h
  cases rs with
  | nil=>exact ⟨[],by simp [frzs],rfl,fun _=>rfl⟩
  | cons=>exact h.elim
 | cons t r ih=>
  intro y rs L hf h
  cases rs with
  | nil=>exact h.elim
  | cons v q=>
   obtain ⟨L1,L2,h1,h2,hL⟩:=h
   simp only [List.all_cons,Bool.and_eq_true] at hf
   obtain ⟨tv,a1,a2,a3⟩:=Rep.frzF hf.1 h1
   obtain ⟨us,b1,b2,b3⟩:=ih y.2 q L2 hf.2 h2
   exact ⟨tv :: us,by simp [frzs,a1,b1],by simp [a2,b2],fun H'=>⟨[],[],a3 H',b3 H',rfl⟩⟩
theorem ownifyL_flat {n:Nat} {t:Kd} {x:t.den} (h:t.flat=true):(ownifyL n t x).2=[]:=by
 cases t <;> first | rfl | cases h
theorem ownifyS_flat:∀ {fs:List Kd} {n:Nat} {x:Kd.dens fs},(Kd.st fs).flat=true→(ownifyS n fs x).2=[]
 | [],n,x,_=>rfl
 | t :: r,n,x,h=>by
  simp only [Kd.flat,List.all_cons,Bool.and_eq_true] at h
  show (ownifyL n t x.1).2++(ownifyS (n + (ownifyL n t x.1).2.length) r x.2).2=[]
  rw [ownifyL_flat (by cases t <;> simp_all [Kd.flat]),ownifyS_flat (by simpa only [Kd.flat] using h.2)]; rfl
theorem ownify_flat {n:Nat} {t:Kd} {x:t.den} (h:t.flat=true):(ownify n t x).2=[]:=by
 cases t with
 | st fs=>exact ownifyS_flat h
 | sl=>cases h
 | _=>rfl
theorem ownifyR_flat (l:List Kd):∀ (n:Nat) (y:Kd.dens l),l.all Kd.flat=true→(ownifyR n l y).2=[]:=by
 induction l with
 | nil=>intro n y _; rfl
 | cons t r ih=>
  intro n y h
  simp only [List.all_cons,Bool.and_eq_true] at h
  show (ownify n t y.1).2++(ownifyR (n + (ownify n t y.1).2.length) r y.2).2=[]
  rw [ownify_flat h.1,ih _ _ h.2]; rfl
theorem res_rel {X:Vw} {l:List Kd} {y:Kd.dens l} {us:List TV} (hf:l.all Kd.flat=true) (hk:l.all kindOK=true) (h:ResR X.H l y (us.map .c) []):VR X (tupP (ownifyR X.hp.length l y).1) (tupOf (us.map .c)):=by
 obtain ⟨Q,a1,a2⟩:=ownifyR_rel (H:=X.H) l X.hp.length y _ _ hk h
 have h0:=ownifyR_flat l X.hp.length y hf
 rw [h0] at a1 a2
 have hQ:Q=[]:=List.eq_nil_of_length_eq_zero (by rw [a1.len]; rfl)
 subst hQ
 exact tup_rel (a2 X rfl (fun i q hi=>by simp at hi) (by simp))
def FzOK (T:Tab) (f:Nat) (sg:Sig) (F:sg.F):Prop:=∀ (x:Kd.dens (insK sg.ps)) (ys:Kd.dens (sg.rs++outK sg.ps)) (ts:List TV),
 F x=some ys→ArgR Go.Am.H0 sg.ps x (ts.map .c) []→∃ us,callC T (arun T) f ts=some us∧us.all TV.scalar=true∧∀ H,ResR H sg.rs (fstDens _ _ ys) (us.map .c) []
theorem fz_of {T:Tab} {f:Nat} {sg:Sig} {F:sg.F} (hn:T.nat f=none) (hf:sg.rs.all Kd.flat=true) (hc:ConOK T f sg F):FzOK T f sg F:=by
 intro x ys ts hF hA
 obtain ⟨rs,H1,nx',Lr,La,c1,c2,c3,_⟩:=hc 0 0 Go.Am.H0 (ts.map .c) [] x ys hF hA List.nodup_nil (fun _ _=>rfl) (fun i hi=>by cases hi)
 obtain ⟨us,a1,a2,a3⟩:=c3.frz _ _ _ _ hf
 refine ⟨us,?_,a2,a3⟩
 unfold callC
 rw [hn]
 simp only [c1,a1]
section
variable {tb:PTab} {T:Tab} {n:Nat} {d:Nat} {anV:List AV} {P0:Id→Prop} {H0:Heap} {ps:PS} {μ:Nat→AV} {L:Nat→List Id} {E:AEnv} {H:Heap} {nx:Nat} {ρ:Type} {r:ρ} {k:PV→PS→Option ρ}
theorem argsP_dat (hob:Obs ⟨d,ps.heap,μ,L,H,nx⟩):∀ {l:List PKd} {vs:List PV} {avs:List AV} {a:ArgsP l},l.all pkdOK=true→allDat l=true→VRs ⟨d,ps.heap,μ,L,H,nx⟩ vs avs→argsP ps.heap l vs=some a →
  a.sn=[]∧∃ ts,frzs H 12 avs=some ts∧ArgR Go.Am.H0 l a.xs (ts.map .c) [] ∧
  (∀ i∈idsOfs H 12 avs,(∃ b∈a.dn,live ps.heap b∧i∈L b)∨(⟨d,ps.heap,μ,L,H,nx⟩:Vw).Imm i) ∧
  (a.fr=true→deepB ps.heap a.dn=true→∀ i∈idsOfs H 12 avs,∃ b∈a.dn,live ps.heap b∧i∈L b)
 | [],[],[],a,_,_,_,h=>by
  simp only [argsP] at h; cases h
  exact ⟨rfl,[],by simp [frzs],rfl,fun i hi=>(by simp [idsOfs] at hi),fun _ _ i hi=>(by simp [idsOfs] at hi)⟩
 | [],_ :: _,_,a,_,_,_,h=>by simp [argsP] at h
 | [],[],_ :: _,a,_,_,h,_=>h.elim
 | .raw :: r,_,_,a,_,hk,_,h=>by cases hk
 | .kept t :: r,_,_,a,_,hk,_,h=>by cases hk
 | .own t :: r,_,_,a,_,hk,_,h=>by cases hk
 | .cell t :: r,_,_,a,_,hk,_,h=>by cases hk
 | .dat t :: r,[],_,a,_,_,_,h=>by simp [argsP] at h
 | .dat t :: _,_ :: _,[],a,_,_,h,_=>h.elim
 | .dat t :: r,v :: q,av :: aq,a,hk,hd,⟨h1,h2⟩,h=>by
  simp only [List.all_cons,Bool.and_eq_true] at hk
  simp only [argsP] at h
  split at h
  ·rename_i x a' e1 e2
   cases h
   obtain ⟨k0,ts,k1,k2,k3,k4⟩:=argsP_dat hob hk.2 (show allDat r=true from hd) h2 e2
   obtain ⟨Li,r1,r2⟩:=asD_rel hob h1 e1
   have hdep:=Nat.le_trans (pkd_dep hk.1 (.inl rfl)) (show 11≤12 by omega)
   obtain ⟨tv,f1,f2,f3,f4⟩:=frzOr_rep hdep r1
   refine ⟨k0,tv :: ts,by simp [frzs,f2,k1],⟨⟨tv,rfl,f4⟩,k2⟩,?_,?_⟩
   ·intro i hi
    simp only [idsOfs,List.mem_append] at hi
    rcases hi with hi | hi
    ·rw [f3] at hi
     exact (r2 i hi).imp (fun ⟨b,p1,p2⟩=>⟨b,List.mem_append.2 (.inl p1),p2⟩) id
    ·exact (k3 i hi).imp (fun ⟨b,p1,p2⟩=>⟨b,List.mem_append.2 (.inr p1),p2⟩) id
   ·intro hfr hdb i hi
    have hfr:(freeV v && a'.fr)=true:=hfr
    have hdb:deepB ps.heap (namesV v++a'.dn)=true:=hdb
    simp only [Bool.and_eq_true] at hfr
    rw [deepB_app,Bool.and_eq_true] at hdb
    simp only [idsOfs,List.mem_append] at hi
    rcases hi with hi | hi
    ·obtain ⟨Li',r1',r2'⟩:=asD_free hob h1 e1 hfr.1 hdb.1
     obtain ⟨_,_,_,f3',_⟩:=frzOr_rep hdep r1'
     rw [f3'] at hi
     obtain ⟨b,p1,p2⟩:=r2' i hi
     exact ⟨b,List.mem_append.2 (.inl p1),p2⟩
    ·obtain ⟨b,p1,p2⟩:=k4 hfr.2 hdb.2 i hi
     exact ⟨b,List.mem_append.2 (.inr p1),p2⟩
  ·cases h
theorem ca_same (R:Rel d anV P0 H0 ps μ L E H nx) {f:Nat} {avs:List AV} {l:List Kd} {y:Kd.dens l} {us:List TV} (hc:callOp T (arun T) (8 * d) f avs H nx=some (tupOf (us.map .c),H,nx)) (hf:l.all Kd.flat=true) (hk:l.all kindOK=true) (hr:ResR H l y (us.map .c) [])
  (hkk:k (tupP (ownifyR ps.heap.length l y).1) ps=some r):CaRes T d anV P0 H0 E ps μ L H nx k r f avs:=
 ⟨_,ps,_,μ,L,H,nx,hkk,hc,R,res_rel (X:=⟨d,ps.heap,μ,L,H,nx⟩) hf hk hr,Nat.le_refl _,fun _ _=>⟨rfl,rfl⟩,Nat.le_refl _,rfl,EW.refl _,LB.refl _⟩
theorem ca_fz (R:Rel d anV P0 H0 ps μ L E H nx) {f:Nat} {sg:Sig} {F:sg.F} {vs:List PV} {avs:List AV} {a:ArgsP sg.ps} {ys:Kd.dens (sg.rs++outK sg.ps)}
  (hsg:sigOK sg=true) (hd:allDat sg.ps=true) (hf:sg.rs.all Kd.flat=true) (hm:T.mode f = .fz) (hc:FzOK T f sg F) (hvs:VRs ⟨d,ps.heap,μ,L,H,nx⟩ vs avs) (ha:argsP ps.heap sg.ps vs=some a) (hF:F a.xs=some ys)
  (hk:k (tupP (ownifyR ps.heap.length sg.rs (fstDens sg.rs (outK sg.ps) ys)).1) { ps with heap:=ps.heap++(ownifyR ps.heap.length sg.rs (fstDens sg.rs (outK sg.ps) ys)).2 }=some r) :
  CaRes T d anV P0 H0 E ps μ L H nx k r f avs:=by
 simp only [sigOK,Bool.and_eq_true] at hsg
 obtain ⟨_,ts,k1,k2,_⟩:=argsP_dat R.obs hsg.1 hd hvs ha
 obtain ⟨us,u1,u2,u3⟩:=hc _ ys ts hF k2
 rw [ownifyR_flat _ _ _ hf,List.append_nil] at hk
 refine ca_same R (us:=us) ?_ hf hsg.2 (u3 H) hk
 unfold callOp
 rw [hm]
 simp only [k1,u1]
 rw [if_pos u2]
end
end Go.Am
/- The machine on typed data against the small machine: a call that is run in place. -/
namespace Go.Am
theorem lockAll_some {H:Heap} {o:Id} {b:Obj} (h:H o=some b):lockAll H o=some { b with w:=false }:=by simp only [lockAll,h]
mutual
theorem Rep.lock {H:Heap}:∀ (t:Kd) (x:t.den) (v:AV) (L:List Id),Rep false H t x v L→Rep false (lockAll H) t x v L
 | .int k,n,v,L,h=>h
 | .bool,n,v,L,h=>h
 | .str,n,v,L,h=>h
 | .st fs,x,v,L,h=>⟨h.1,Reps.lock fs x v.cells L h.2⟩
 | .sl sz e,xs,v,L,h=>by
  rcases h with h | ⟨h0,z,ts,h1,h2,h3,h4⟩ | ⟨o,g,n,off,len,b,L',h1,h2,h3,h4,h5,h6,h7,h8,h9⟩
  ·exact .inl h
  ·exact .inr (.inl ⟨h0,z,ts,h1,h2,h3.imp (fun x v L' _ _ h=>Rep.lock e x v L' h),h4⟩)
  ·exact .inr (.inr ⟨o,g,n,off,len,_,L',h1,lockAll_some h2,h3,h4,h5,h6,h7.imp (fun x v L'' _ _ h=>Rep.lock e x v L'' h),h8,(fun q=>by cases q),h9.2⟩)
theorem Reps.lock {H:Heap}:∀ (fs:List Kd) (x:Kd.dens fs) (vs:List AV) (L:List Id),Reps false H fs x vs L→Reps false (lockAll H) fs x vs L
 | [],x,[],L,h=>h
 | [],x,_ :: _,L,h=>by simp [Reps] at h
 | _ :: _,x,[],L,h=>by simp [Reps] at h
 | t :: r,x,v :: vs,L,⟨h0,L1,L2,h1,h2,e⟩=>⟨h0,L1,L2,Rep.lock t x.1 v L1 h1,Reps.lock r x.2 vs L2 h2,e⟩
end
section
variable {tb:PTab} {T:Tab} {n:Nat} {d:Nat} {anV:List AV} {P0:Id→Prop} {H0:Heap} {ps:PS} {μ:Nat→AV} {L:Nat→List Id} {E:AEnv} {H:Heap} {nx:Nat} {ρ:Type} {r:ρ} {k:PV→PS→Option ρ}
def dnV (d:Nat) (hp:List (Option PObj)) (μ:Nat→AV) (L:Nat→List Id) (H:Heap) (nx:Nat):Vw:=⟨d + 1,hp.map roN,μ,fun a=>(L a).take 1,lockAll H,nx⟩
theorem hget_roN {hp:List (Option PObj)} {a:Nat}:hget (hp.map roN) a=roN (hget hp a):=hget_map (f:=roN) rfl
theorem live_roN {hp:List (Option PObj)} {a:Nat}:live (hp.map roN) a↔live hp a:=by
 unfold live
 rw [hget_roN]
 cases hget hp a with
 | none=>exact Iff.rfl
 | some o=>cases o <;> exact Iff.rfl
theorem head_take {α:Type} {l:List α}:(l.take 1).head? = l.head?:=by cases l <;> rfl
theorem dn_top {i:Id}:(dnV d ps.heap μ L H nx).top i↔(⟨d,ps.heap,μ,L,H,nx⟩:Vw).top i:=by
 constructor
 ·rintro ⟨a,h1,h2⟩
  refine ⟨a,live_roN.1 h1,?_⟩
  have h2:((L a).take 1).head? = some i:=h2
  rw [head_take] at h2; exact h2
 ·rintro ⟨a,h1,h2⟩
  refine ⟨a,live_roN.2 h1,?_⟩
  show ((L a).take 1).head? = some i
  rw [head_take]; exact h2
theorem dn_imm {i:Id} (h:(⟨d,ps.heap,μ,L,H,nx⟩:Vw).Imm i):(dnV d ps.heap μ L H nx).Imm i:=by
 refine ⟨fun t=>h.1 (dn_top.1 t),?_⟩
 have h2:=h.2
 cases i with
 | dy k=>exact h2
 | st d' t=>
  have h2:d' < d:=h2
  show d' < d + 1
  omega
 | ex=>exact h2
theorem down_leaf {p:Bool} {t:Kd} {x:t.den} {a:AV} (h:VR ⟨d,ps.heap,μ,L,H,nx⟩ (.d p t x) a):∃ Li,Rep false (lockAll H) t x a Li∧∀ i∈Li,(dnV d ps.heap μ L H nx).Imm i:=by
 obtain ⟨Li,h1,h2,h3⟩:=h
 exact ⟨Li,Rep.lock _ _ _ _ h1,fun i hi=>dn_imm (h3 i hi)⟩
theorem downLs_rel:∀ {cs:List PV} {as:List AV} {fs:List Kd} {y:Kd.dens fs},VRs ⟨d,ps.heap,μ,L,H,nx⟩ cs as→downLs cs=some ⟨fs,y⟩→∃ Li,Reps false (lockAll H) fs y as Li∧∀ i∈Li,(dnV d ps.heap μ L H nx).Imm i
 | [],[],fs,y,_,h=>by simp only [downLs] at h; cases h; exact ⟨[],rfl,fun i hi=>by cases hi⟩
 | [],_ :: _,_,_,h,_=>h.elim
 | v :: r,[],_,_,h,_=>h.elim
 | v :: r,a :: as,fs,y,⟨h1,h2⟩,h=>by
  cases v with
  | d p t x=>
   simp only [downLs] at h
   split at h
   ·rename_i gs z e1 e2
    cases h
    obtain ⟨L1,k1,k2⟩:=down_leaf h1
    obtain ⟨L2,k3,k4⟩:=downLs_rel h2 e2
    exact ⟨L1++L2,⟨e1,L1,L2,k1,k3,rfl⟩,fun i hi=>(List.mem_append.1 hi).elim (k2 i) (k4 i)⟩
   ·cases h
  | _=>simp [downLs] at h
theorem downU_rel {u:PV} {w:AV} {t:Kd} {x:t.den} (h:VR ⟨d,ps.heap,μ,L,H,nx⟩ u w) (hd:downU u=some ⟨t,x⟩):∃ Li,Rep false (lockAll H) t x w Li∧∀ i∈Li,(dnV d ps.heap μ L H nx).Imm i:=by
 cases u with
 | d p t' y=>
  simp only [downU] at hd
  cases hd
  exact down_leaf h
 | agg cs=>
  simp only [downU] at hd
  split at hd
  ·rename_i fs y e
   cases hd
   obtain ⟨Li,k1,k2⟩:=downLs_rel h.2 e
   exact ⟨Li,⟨h.1,k1⟩,k2⟩
  ·cases hd
 | _=>simp [downU] at hd
theorem downP_rel {v w:PV} {a:AV} (h:VR ⟨d,ps.heap,μ,L,H,nx⟩ v a) (hd:downP v=some w):VR (dnV d ps.heap μ L H nx) w a∧frz H 12 a=none:=by
 cases v with
 | cp c o=>
  simp only [downP] at hd
  cases hd
  obtain ⟨h1,oo,g,h2,h3⟩:=h
  exact ⟨⟨by show c < (ps.heap.map roN).length; simp; exact h1,oo,g,h2,h3⟩,by rw [h3]; simp [frz]⟩
 | tp p e x o=>
  simp only [downP] at hd
  cases hd
  rcases h with ⟨y,h1,h2⟩ | ⟨h0,oo,gg,m,j,b,w,Li,h1,h2,h3,h4,h5,h6,h7,h9,h10⟩
  ·exact ⟨.inl ⟨y,h1,Rep.frame e x _ [] (fun i hi=>by cases hi) h2⟩,by rw [h1]; simp [frz]⟩
  ·exact ⟨.inr ⟨h0,oo,gg,m,j,_,w,Li,h1,lockAll_some h2,h3,h4,h5,h6,Rep.lock _ _ _ _ h7,dn_imm h9,fun i hi=>dn_imm (h10 i hi)⟩,by rw [h1]; simp [frz]⟩
 | kp t u o=>
  simp only [downP] at hd
  split at hd
  ·rename_i e x hu
   cases hd
   obtain ⟨h0,h0',oo,gg,b,w,h1,h2,h3,h4,h5,h6,h7⟩:=h
   obtain ⟨Li,k1,k2⟩:=downU_rel h7 hu
   have hs:=Rep.stor k1
   refine ⟨.inr ⟨rfl,oo,gg,1,0,_,w,Li,h2,lockAll_some h3,h4,by show b.es.length=1; rw [h5]; rfl,by show b.sz=e.cn; rw [h6,hs.2.1],by show b.es[0]? = some w; rw [h5]; rfl,k1,⟨fun ht=>h1.2 (dn_top.1 ht),?_⟩,k2⟩,by rw [h2]; simp [frz]⟩
   rw [h1.1]
   show d < d + 1
   omega
  ·cases hd
 | _=>simp [downP] at hd
theorem downPs_rel:∀ {vs ws:List PV} {as:List AV},VRs ⟨d,ps.heap,μ,L,H,nx⟩ vs as→downPs vs=some ws→VRs (dnV d ps.heap μ L H nx) ws as
 | [],ws,[],_,h=>by simp only [downPs] at h; cases h; trivial
 | [],_,_ :: _,h,_=>h.elim
 | _ :: _,_,[],h,_=>h.elim
 | v :: r,ws,a :: as,⟨h1,h2⟩,h=>by
  simp only [downPs] at h
  split at h
  ·rename_i w l e1 e2
   cases h
   exact ⟨(downP_rel h1 e1).1,downPs_rel h2 e2⟩
  ·cases h
theorem downV_rel {v w:PV} {a:AV} (h:VR ⟨d,ps.heap,μ,L,H,nx⟩ v a) (hd:downV v=some w):VR (dnV d ps.heap μ L H nx) w a∧frz H 12 a=none:=by
 cases v with
 | fn f cs=>
  simp only [downV] at hd
  split at hd
  ·rename_i l e
   cases hd
   obtain ⟨vs,h1,h2⟩:=h
   exact ⟨⟨vs,h1,downPs_rel h2 e⟩,by rw [h1]; simp [frz]⟩
  ·cases hd
 | _=>exact downP_rel h hd
theorem frzs_none_cons {v:AV} {r:List AV} (h:frz H 12 v=none∨frzs H 12 r=none):frzs H 12 (v :: r)=none:=by
 simp only [frzs]
 rcases h with h | h
 ·rw [h]
 ·cases frz H 12 v with
  | none=>rfl
  | some y=>simp only [h]
def inlOK:PKd→Bool
 | .dat t=>Nat.ble t.dep 11
 | .raw=>true
 | _=>false
theorem inlArgs_rel (hob:Obs ⟨d,ps.heap,μ,L,H,nx⟩):∀ {l:List PKd} {vs ws:List PV} {avs:List AV},l.all inlOK=true→VRs ⟨d,ps.heap,μ,L,H,nx⟩ vs avs→inlArgs ps.heap l vs=some ws →
  VRs (dnV d ps.heap μ L H nx) ws (avs.map (frzOr H))∧(noRaw l=false→frzs H 12 avs=none)∧avs.length=l.length
 | [],[],ws,[],_,_,h=>by simp only [inlArgs] at h; cases h; exact ⟨trivial,fun h=>(by cases h),rfl⟩
 | [],_ :: _,_,_,_,_,h=>by simp [inlArgs] at h
 | [],[],_,_ :: _,_,h,_=>h.elim
 | .kept t :: r,_,_,_,hk,_,_=>by simp [inlOK] at hk
 | .own t :: r,_,_,_,hk,_,_=>by simp [inlOK] at hk
 | .cell t :: r,_,_,_,hk,_,_=>by simp [inlOK] at hk
 | .dat t :: r,[],_,_,_,_,h=>by simp [inlArgs] at h
 | .raw :: r,[],_,_,_,_,h=>by simp [inlArgs] at h
 | .dat _ :: _,_ :: _,_,[],_,h,_=>h.elim
 | .raw :: _,_ :: _,_,[],_,h,_=>h.elim
 | .dat t :: r,v :: q,ws,av :: aq,hk,⟨h1,h2⟩,h=>by
  simp only [List.all_cons,Bool.and_eq_true] at hk
  simp only [inlArgs] at h
  split at h
  ·rename_i x l e1 e2
   cases h
   obtain ⟨k1,k2,k3⟩:=inlArgs_rel hob hk.2 h2 e2
   obtain ⟨Li,r1,r2⟩:=asD_rel hob h1 e1
   obtain ⟨tv,f1,f2,f3,f4⟩:=frzOr_rep (Nat.le_trans (Nat.le_of_ble_eq_true hk.1) (by omega)) r1
   refine ⟨⟨?_,k1⟩,fun hn=>frzs_none_cons (.inr (k2 hn)),by simp [k3]⟩
   show VR _ (.d true t x) (frzOr H av)
   rw [f1]
   exact ⟨[],f4 _,fun _=>rfl,fun i hi=>by cases hi⟩
  ·cases h
 | .raw :: r,v :: q,ws,av :: aq,hk,⟨h1,h2⟩,h=>by
  simp only [List.all_cons,Bool.and_eq_true] at hk
  simp only [inlArgs] at h
  split at h
  ·rename_i w l e1 e2
   cases h
   obtain ⟨k1,k2,k3⟩:=inlArgs_rel hob hk.2 h2 e2
   obtain ⟨r1,r2⟩:=downV_rel h1 e1
   refine ⟨⟨?_,k1⟩,fun _=>frzs_none_cons (.inl r2),by simp [k3]⟩
   show VR _ w (frzOr H av)
   have:frzOr H av=av:=by simp [frzOr,r2]
   rw [this]; exact r1
  ·cases h
theorem dn_cellLeaf:∀ {v:PV} {a:AV},cellLeaf v=true→VR ⟨d,ps.heap,μ,L,H,nx⟩ v a→VR (dnV d ps.heap μ L H nx) v a
 | .d p t x,a,_,⟨Li,h1,h2,h3⟩=>⟨Li,Rep.lock _ _ _ _ h1,h2,fun i hi=>dn_imm (h3 i hi)⟩
 | .nils,_,_,h=>h
 | .own b,a,_,⟨h1,h2,h3⟩=>⟨by show b < (ps.heap.map roN).length; simp; exact h1,h2,h3⟩
 | .cp b off,a,_,⟨h1,h2⟩=>⟨by show b < (ps.heap.map roN).length; simp; exact h1,h2⟩
 | .np,_,_,h=>h
theorem dn_cellLeafs:∀ {vs:List PV} {as:List AV},vs.all cellLeaf=true→VRs ⟨d,ps.heap,μ,L,H,nx⟩ vs as→VRs (dnV d ps.heap μ L H nx) vs as
 | [],[],_,_=>trivial
 | [],_ :: _,_,h=>h.elim
 | _ :: _,[],_,h=>h.elim
 | v :: r,a :: as,hc,⟨h1,h2⟩=>by
  simp only [List.all_cons,Bool.and_eq_true] at hc
  exact ⟨dn_cellLeaf hc.1 h1,dn_cellLeafs hc.2 h2⟩
theorem dn_cell {v:PV} {a:AV} (hc:cellOK v=true) (h:VR ⟨d,ps.heap,μ,L,H,nx⟩ v a):VR (dnV d ps.heap μ L H nx) v a:=by
 cases v with
 | agg cs=>
  simp only [cellOK,Bool.and_eq_true] at hc
  exact ⟨h.1,dn_cellLeafs hc.1 h.2⟩
 | d p t x=>
  obtain ⟨Li,h1,h2,h3⟩:=h
  exact ⟨Li,Rep.lock _ _ _ _ h1,h2,fun i hi=>dn_imm (h3 i hi)⟩
 | nils=>exact dn_cellLeaf hc h
 | own b=>exact dn_cellLeaf hc h
 | cp b off=>exact dn_cellLeaf hc h
 | np=>exact dn_cellLeaf hc h
 | _=>simp [cellOK,cellLeaf] at hc
theorem RepL.lockR {own:Bool} {e:Kd} {xs:List e.den} {vs:List AV} {M:List Id} (h:RepL (Rep own H e) xs vs M):RepL (Rep false (lockAll H) e) xs vs M:=
 h.imp fun x v L' _ _ h=>Rep.lock e x v L' (by cases own with | true=>exact Rep.read e x v L' h | false=>exact h)
theorem Rel.down (R:Rel d anV P0 H0 ps μ L E H nx) {ws:List PV} {avs:List AV} (h:VRs (dnV d ps.heap μ L H nx) ws avs) :
  Rel (d + 1) [] (fun i=>(∀ k,i = .dy k→k < nx)∧∀ t,i ≠ .st (d + 1) t) (lockAll H) ⟨bindE 0 ws,[],ps.heap.map roN⟩ μ (fun a=>(L a).take 1) (bindArgs avs) (lockAll H) nx:=by
 have hg:∀ {a:Nat} {ob:PObj},hget (ps.heap.map roN) a=some ob→∃ ob0,hget ps.heap a=some ob0∧roN (some ob0)=some ob:=by
  intro a ob ha
  rw [hget_roN] at ha
  cases hx:hget ps.heap a with
  | none=>rw [hx] at ha; cases ha
  | some ob0=>rw [hx] at ha; exact ⟨ob0,rfl,ha⟩
 have hro:∀ {ob0 ob:PObj},roN (some ob0)=some ob→tmpO ob=none∧roOf ob=true:=by
  intro ob0 ob h
  cases ob0 <;> (simp only [roN] at h; cases h; exact ⟨rfl,rfl⟩)
 have htk:∀ {a:Nat} {i:Id},i∈(L a).take 1→i∈L a:=fun hi=>List.mem_of_mem_take hi
 refine ⟨fun t=>?_,trivial,fun t=>rfl,fun a ob ha=>?_,fun a b hab ha hb i hi hj=>?_,fun a ha=>?_,fun a ob ha i hi=>?_,fun a ha i hi=>?_,fun a ob t ha ht=>?_,fun k hk=>?_,fun i hi=>rfl,fun a ob ha hr=>?_,fun k hk hP=>?_⟩
 ·show VR (dnV d ps.heap μ L H nx) (look (bindE 0 ws) t) (bindArgs avs t)
  rcases look_bind (vs:=ws) (n:=0) (t:=t) with e | ⟨i,e1,e2⟩
  ·rw [e]; trivial
  ·obtain ⟨a,g1,g2⟩:=h.get e2
   have:bindArgs avs t=a:=by
    rw [Nat.zero_add] at e1; subst e1
    simp [bindArgs,List.getD,g1]
   rw [this]; exact g2
 ·obtain ⟨ob0,h1,h2⟩:=hg ha
  have hob:=R.ob a ob0 h1
  cases ob0 with
  | sl ro ver tmp sz e dp xs=>
   simp only [roN] at h2
   cases h2
   obtain ⟨k1,k2,k3⟩:=hob
   refine ⟨k1,k2,?_⟩
   rcases k3 with ⟨e1,e2,e3⟩ | ⟨o,g,m,off,len,b,L',e1,e2,e3,e4,e5,e6,e7,e8,e9,e10,e11⟩
   ·refine .inl ⟨e1,e2,?_⟩
    show (L a).take 1=[]
    have e3:L a=[]:=e3
    rw [e3]; rfl
   ·have e10:L a=o :: (if dp=true then L' else []):=e10
    refine .inr ⟨o,g,m,off,len,_,L',e1,lockAll_some e2,e3,e4,e5,e6,fun q=>(by cases q),RepL.lockR e8,fun x hx=>⟨(e9 x hx).1,(e9 x hx).2.1,fun q=>(by cases q)⟩,?_,fun _ i hi=>?_,fun q=>(by cases q)⟩
    ·show (L a).take 1=o :: (if false=true then L' else [])
     rw [e10]; rfl
    ·cases dp with
     | false=>exact dn_imm (e11.1 rfl i hi)
     | true=>
      have hla:live ps.heap a:=live_iff.2 ⟨_,h1⟩
      have e10:L a=o :: L':=e10
      refine dn_imm ⟨?_,R.tl a hla i (by rw [e10]; exact hi)⟩
      rintro ⟨c,hc,hh⟩
      have hh:(L c).head? = some i:=hh
      have hic:=List.mem_of_head? hh
      by_cases hac:a=c
      ·subst hac
       rw [e10] at hh
       have:=R.nd a hla
       rw [e10] at this
       simp at hh
       subst hh
       exact (List.nodup_cons.1 this).1 hi
      ·exact R.dis a c hac hla hc i (by rw [e10]; simp [hi]) hic
  | cell ro tmp v=>
   simp only [roN] at h2
   cases h2
   obtain ⟨o,g,b,w,e1,e2,e3,e4,e5,e6,e7,e8,e9,e10,e11⟩:=hob
   refine ⟨o,g,_,w,e1,lockAll_some e2,e3,e4,e5,e6,e7,fun q=>(by cases q),?_,dn_cell e11 e10,e11⟩
   show (L a).take 1=[o]
   have e9:L a=[o]:=e9
   rw [e9]; rfl
 ·exact R.dis a b hab (live_roN.1 ha) (live_roN.1 hb) i (htk hi) (htk hj)
 ·exact List.Sublist.nodup (List.take_sublist 1 (L a)) (R.nd a (live_roN.1 ha))
 ·obtain ⟨ob0,h1,h2⟩:=hg ha
  have:=R.age a ob0 h1 i (htk hi)
  cases i with
  | dy k=>exact this
  | st d' t=>
   left
   show d' < d + 1
   rcases this with h | h <;> omega
  | ex=>exact this
 ·have hi:i∈((L a).take 1).tail:=hi
  cases hL:L a with
  | nil=>rw [hL] at hi; cases hi
  | cons x q=>rw [hL] at hi; simp at hi
 ·obtain ⟨ob0,h1,h2⟩:=hg ha
  rw [(hro h2).1] at ht; cases ht
 ·simp only [lockAll,R.fresh k hk]
 ·obtain ⟨ob0,h1,h2⟩:=hg ha
  rw [(hro h2).2] at hr; cases hr
 ·have:=hP.1 k rfl
  omega
theorem datsP_frz (hob:Obs ⟨d,ps.heap,μ,L,H,nx⟩) (l:List Kd):∀ (vs:List PV) (rs:List AV) (y:Kd.dens l),l.all Kd.flat=true→VRs ⟨d,ps.heap,μ,L,H,nx⟩ vs rs→datsP ps.heap l vs=some y →
  ∃ us,frzs H 12 rs=some us∧us.all TV.scalar=true∧∀ H',ResR H' l y (us.map .c) []:=by
 induction l with
 | nil=>
  intro vs rs y _ h hd
  cases vs with
  | cons=>simp [datsP] at hd
  | nil=>
   cases rs with
   | cons=>exact h.elim
   | nil=>exact ⟨[],by simp [frzs],rfl,fun _=>rfl⟩
 | cons t r ih=>
  intro vs rs y hf h hd
  cases vs with
  | nil=>simp [datsP] at hd
  | cons v q=>
   cases rs with
   | nil=>exact h.elim
   | cons a as=>
    obtain ⟨h1,h2⟩:=h
    simp only [datsP] at hd
    split at hd
    ·rename_i x z e1 e2
     cases hd
     simp only [List.all_cons,Bool.and_eq_true] at hf
     obtain ⟨Li,k1,_⟩:=asD_rel hob h1 e1
     obtain ⟨tv,a1,a2,a3⟩:=Rep.frzF hf.1 k1
     obtain ⟨us,b1,b2,b3⟩:=ih q as z hf.2 h2 e2
     exact ⟨tv :: us,by simp [frzs,a1,b1],by simp [a2,b2],fun H'=>⟨[],[],a3 H',b3 H',rfl⟩⟩
    ·cases hd
theorem ca_inl (hs:Sound tb T n) (R:Rel d anV P0 H0 ps μ L E H nx) {f:Nat} {sg:Sig} {fn:AFn} {hn:Hints} {pm:List Nat} {N:Nat} {vs ws:List PV} {avs:List AV} {ys:Kd.dens sg.rs}
  (hm:T.mode f = .fz) (hfn:T.fn f=some fn) (hnp:fn.np=sg.ps.length) (hr:noRaw sg.ps=false) (hp:sg.ps.all inlOK=true) (hf:sg.rs.all Kd.flat=true) (hk:sg.rs.all kindOK=true)
  (hvs:VRs ⟨d,ps.heap,μ,L,H,nx⟩ vs avs) (ha:inlArgs ps.heap sg.ps vs=some ws) (hev:evC tb n ⟨hn,pm,resT fn.res,N⟩ (finI sg fn.res) [.code fn.body] ⟨bindE 0 ws,[],ps.heap.map roN⟩=some ys)
  (hkk:k (tupP (ownifyR ps.heap.length sg.rs ys).1) ps=some r):CaRes T d anV P0 H0 E ps μ L H nx k r f avs:=by
 obtain ⟨g1,g2,g3⟩:=inlArgs_rel R.obs hp hvs ha
 obtain ⟨s',a1,a2,ps',μ',L',a3,R'⟩:=hs _ _ _ [.code fn.body] _ _ (d + 1) _ _ _ μ _ _ _ nx hev (R.down g1) (.code (fun t _ hP=>hP.2 t rfl) .nil) trivial
 unfold finI at a3
 split at a3
 ·rename_i vs' hv
  obtain ⟨rs,r1,r2⟩:=resP_rel R' hv
  obtain ⟨us,u1,u2,u3⟩:=datsP_frz R'.obs _ _ _ _ hf r2 a3
  refine ca_same R (us:=us) ?_ hf hk (u3 H) hkk
  unfold callOp
  rw [hm]
  simp only [g2 hr,nxd8]
  have:callB T (arun T) (8 * (d + 1)) f (avs.map (frzOr H)) (lockAll H) nx=some (rs,s'.H,s'.nx):=by
   unfold callB
   rw [hfn]
   simp only
   rw [if_pos (by rw [List.length_map,g3,hnp]),a1]
   simp only [r1]
  rw [this]
  simp only [u1]
  rw [if_pos u2]
 ·cases a3
def EntOK (T:Tab) (f:Nat):CE→Prop
 | .con true sg F=>T.mode f = .fz∧allDat sg.ps=true∧sg.rs.all Kd.flat=true∧sigOK sg=true∧FzOK T f sg F
 | .con false sg F=>T.mode f = .sep (keepK sg.ps)∧sigOK sg=true∧ConOK T f sg F
 | .inl sg fn _ _=>T.mode f = .fz∧T.fn f=some fn∧fn.np=sg.ps.length∧noRaw sg.ps=false∧sg.ps.all inlOK=true∧sg.rs.all Kd.flat=true∧sg.rs.all kindOK=true
def TbOK (tb:PTab) (T:Tab):Prop:=∀ f e,tb f=some e→EntOK T f e
theorem ca_ok (ht:TbOK tb T) (hs:Sound tb T n):CaOK tb T n:=by
 intro ρ cx f vs avs ps k r d anV P0 H0 μ L E H nx R hvs h
 unfold caS at h
 split at h
 ·rename_i fz sg F hf
  have he:=ht f _ hf
  split at h
  ·rename_i a ha
   split at h
   ·rename_i hsn
    obtain ⟨ys,hF,hk⟩:=bindK_some h
    cases fz with
    | true=>exact ca_fz R he.2.2.2.1 he.2.1 he.2.2.1 he.1 he.2.2.2.2 hvs ha hF hk
    | false=>exact ca_read R he.2.1 he.1 he.2.2 hvs ha hF hsn hk
   ·rename_i x q hsn
    split at h
    ·rename_i hc
     simp only [Bool.and_eq_true] at hc
     obtain ⟨c1,c2,c3,c4,c5⟩:=hc
     obtain ⟨ys,hF,hk⟩:=bindK_some h
     split at hk
     ·rename_i hp hl
      cases fz with
      | true=>
       have hsg:=he.2.2.2.1
       simp only [sigOK,Bool.and_eq_true] at hsg
       obtain ⟨h0,_⟩:=argsP_dat R.obs hsg.1 he.2.1 hvs ha
       rw [h0] at hsn; cases hsn
      | false=>exact ca_own R he.2.1 he.1 he.2.2 hvs ha hF c1 c2 c3 c4 c5 hl hk
     ·cases hk
    ·cases h
  ·cases h
 ·rename_i sg fn hn pm hf
  obtain ⟨e1,e2,e3,e4,e5,e6,e7⟩:=ht f _ hf
  split at h
  ·rename_i l hl
   obtain ⟨ys,hev,hk⟩:=bindK_some h
   exact ca_inl hs R e1 e2 e3 e4 e5 e6 e7 hvs hl hev hk
  ·cases h
 ·cases h
theorem mode_ok (ht:TbOK tb T):ModeOK tb T:=by
 intro f
 cases hf:tb f with
 | none=>trivial
 | some e=>
  have he:=ht f e hf
  cases e with
  | con fz sg F=>
   cases fz with
   | true=>exact he.1
   | false=>exact he.1
  | inl sg fn hn pm=>exact he.1
theorem cf_ok (ht:TbOK tb T):CfOK tb T:=by
 intro f vs avs ps F d anV P0 H0 μ L E H nx R hvs h hl
 unfold pfCall at h
 split at h
 ·rename_i sg G hf
  obtain ⟨e1,e2,e3,e4,e5⟩:=ht f _ hf
  simp only [sigOK,Bool.and_eq_true] at e4
  split at h
  ·rename_i a ha
   cases h
   obtain ⟨_,ts,k1,_,k3,k4⟩:=argsP_dat R.obs e4.1 e2 hvs ha
   have hft:footCall T f avs H nx=⟨idsOfs H 12 avs,[],[],false,false,false,none⟩:=by
    unfold footCall
    rw [e1]
    simp only [k1]
   rw [hft]
   refine ⟨fun h=>(by cases h),rfl,rfl,fun h=>(by cases h),fun m h=>(by cases h),fun _ o ho=>?_,fun o ho=>(by cases ho),rfl,mk_tm,fun _ h=>h⟩
   have ho:o∈idsOfs H 12 avs:=ho
   by_cases hc:(a.fr && deepB ps.heap a.dn)=true
   ·simp only [Bool.and_eq_true] at hc
    left
    obtain ⟨b,h1,h2,h3⟩:=k4 hc.1 hc.2 o ho
    exact ⟨b,h1,h2,h3⟩
   ·rcases k3 o ho with ⟨b,h1,h2,h3⟩ | h
    ·exact .inl ⟨b,h1,h2,h3⟩
    ·refine .inr (.inl ⟨?_,.inl h⟩)
     show (!(a.fr && deepB ps.heap a.dn))=true
     simp only [Bool.not_eq_true] at hc
     rw [hc]; rfl
  ·cases h
 ·rename_i sg G hf
  obtain ⟨e1,e2,e3⟩:=ht f _ hf
  have e2':=e2
  simp only [sigOK,Bool.and_eq_true] at e2'
  split at h
  ·rename_i a ha
   cases h
   obtain ⟨hA,hmut,k3,k4⟩:=argsP_rel R.obs e2'.1 hvs ha
   have hft:footCall T f avs H nx=⟨sepRd H (keepK sg.ps) avs++reachs H 12 (sepArgs H (keepK sg.ps) avs),reachs H 12 (sepArgs H (keepK sg.ps) avs),[],true,false,false,some nx⟩:=by
    unfold footCall
    rw [e1]
   rw [hft]
   have hsn:∀ o∈reachs H 12 (sepArgs H (keepK sg.ps) avs),Nm ⟨d,ps.heap,μ,L,H,nx⟩ a.sn o:=by
    intro o ho
    obtain ⟨b,h1,h2⟩:=mem_idsN.1 (hA.reach_sub hA.cl 12 (fun _ h=>h) o ho)
    obtain ⟨ob,h3,_⟩:=hmut b h1
    exact ⟨b,h1,live_iff.2 ⟨_,h3⟩,h2⟩
   refine ⟨fun h=>(by cases h),rfl,rfl,fun _=>rfl,fun m h=>(by cases h; exact ⟨rfl,rfl,rfl⟩),fun _ o ho=>?_,fun o ho=>.inl (hsn o ho),rfl,mk_tm,fun _ h=>h⟩
   rcases List.mem_append.1 (show o∈sepRd H (keepK sg.ps) avs++reachs H 12 (sepArgs H (keepK sg.ps) avs) from ho) with ho | ho
   ·by_cases hc:(a.fr && deepB ps.heap a.dn)=true
    ·simp only [Bool.and_eq_true] at hc
     left
     obtain ⟨b,h1,h2,h3⟩:=k4 hc.1 hc.2 o ho
     exact ⟨b,List.mem_append.2 (.inl h1),h2,h3⟩
    ·rcases k3 o ho with ⟨b,h1,h2,h3⟩ | h
     ·exact .inl ⟨b,List.mem_append.2 (.inl h1),h2,h3⟩
     ·refine .inr (.inl ⟨?_,.inl h⟩)
      show (!(a.fr && deepB ps.heap a.dn))=true
      simp only [Bool.not_eq_true] at hc
      rw [hc]; rfl
   ·left
    obtain ⟨b,h1,h2⟩:=hsn o ho
    exact ⟨b,List.mem_append.2 (.inr h1),h2⟩
  ·cases h
 ·rename_i sg fn hn pm hf
  obtain ⟨e1,_⟩:=ht f _ hf
  cases h
  unfold footCall
  rw [e1]
  simp only
  split
  ·exact ⟨fun h=>(by cases h),rfl,rfl,fun h=>(by cases h),fun m h=>(by cases h),fun h=>(by cases h),fun o ho=>(by cases ho),rfl,mk_tm,fun _ h=>h⟩
  ·exact ⟨fun h=>rfl,rfl,rfl,fun h=>rfl,fun m h=>(by cases h),fun h=>(by cases h),fun o ho=>(by cases ho),rfl,mk_tm,fun _ h=>h⟩
 ·cases h
theorem tb_sound (ht:TbOK tb T) (n:Nat):Sound tb T n:=(evC_sound (fun n hs=>ca_ok ht hs) (cf_ok ht) (mode_ok ht) n).1
end
end Go.Am
