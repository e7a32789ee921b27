/- From functions told by the machine on typed data to contracts,and from a law so told to its row. -/
import Derived.Test.YtlnehfgjfmamjaaGreatDoorG9
import Derived.IntWalk
import Derived.JoinedOf
set_option linter.unusedSimpArgs false
set_option linter.unusedVariables false
namespace Go.Am
def NN:Nat:=1208925819614629174706176
def lookC:List (Nat×CE)→Nat→Option CE
 | [],_=>none
 | (a,v) :: r,t=>match Nat.beq a t with | true=>some v | false=>lookC r t
theorem tb_of {T:Tab}:∀ {l:List (Nat×CE)},(∀ p∈l,EntOK T p.1 p.2)→TbOK (lookC l) T
 | [],_,f,e,h=>by cases h
 | (a,v) :: r,hl,f,e,h=>by
  simp only [lookC] at h
  split at h
  ·rename_i hb
   cases h
   have:=Nat.eq_of_beq_eq_true hb
   subst this
   exact hl _ (List.mem_cons_self ..)
  ·exact tb_of (fun p hp=>hl p (List.mem_cons_of_mem _ hp)) f e h
def modeL:List (Nat×List Bool)→Nat→CMode
 | [],_=>.fz
 | (a,v) :: r,t=>match Nat.beq a t with | true=>.sep v | false=>modeL r t
def tabOf (l:List (Nat×AFn)) (m:List (Nat×List Bool)):Tab:=⟨fnL l,modeL m,fun _=>none⟩
theorem modeL_ne:∀ {m:List (Nat×List Bool)} {f:Nat},modeL m f ≠ .mu
 | [],f,h=>by cases h
 | (a,v) :: r,f,h=>by
  simp only [modeL] at h
  split at h
  ·cases h
  ·exact modeL_ne h
theorem fnL_mem:∀ {l:List (Nat×AFn)} {f:Nat} {F:AFn},fnL l f=some F→(f,F)∈l
 | [],f,F,h=>by cases h
 | (a,v) :: r,f,F,h=>by
  simp only [fnL] at h
  split at h
  ·rename_i hb
   cases h
   have:=Nat.eq_of_beq_eq_true hb
   subst this
   exact List.mem_cons_self ..
  ·exact List.mem_cons_of_mem _ (fnL_mem h)
theorem con_fn {l:List (Nat×AFn)} {m:List (Nat×List Bool)} {ces:List (Nat×CE)} (ht:∀ p∈ces,EntOK (tabOf l m) p.1 p.2) {f:Nat} {fn:AFn} {sg:Sig} {F:sg.F} (hn:Hints) (pm:List Nat) (hfn:fnL l f=some fn) (hnp:fn.np=sg.ps.length) (hsg:sigOK sg=true)
  (hF:∀ x,F x=evC (lookC ces) 100000 ⟨hn,pm,resT fn.res,NN⟩ (finC sg fn.res) [.code fn.body] (initS sg.ps x)):ConOK (tabOf l m) f sg F:=
 con_of (fun f=>modeL_ne) (tb_sound (tb_of ht) 100000) hfn hnp hsg (cx:=⟨hn,pm,resT fn.res,NN⟩) (fun x ys h=>(hF x).symm.trans h)
theorem con_none {T:Tab} {f:Nat} {sg:Sig} {F:sg.F} (h:∀ x,F x=none):ConOK T f sg F:=fun d nx H args Ls x ys h'=>by rw [h] at h'; cases h'
theorem ent_fz {l:List (Nat×AFn)} {m:List (Nat×List Bool)} {f:Nat} {sg:Sig} {F:sg.F} (hc:ConOK (tabOf l m) f sg F) (hm:modeL m f = .fz) (h1:allDat sg.ps=true) (h2:sg.rs.all Kd.flat=true) (h3:sigOK sg=true):EntOK (tabOf l m) f (.con true sg F):=
 ⟨hm,h1,h2,h3,fz_of rfl h2 hc⟩
theorem ent_sep {l:List (Nat×AFn)} {m:List (Nat×List Bool)} {f:Nat} {sg:Sig} {F:sg.F} (hc:ConOK (tabOf l m) f sg F) (hm:modeL m f = .sep (keepK sg.ps)) (h3:sigOK sg=true):EntOK (tabOf l m) f (.con false sg F):=
 ⟨hm,h3,hc⟩
theorem ent_inl {l:List (Nat×AFn)} {m:List (Nat×List Bool)} {f:Nat} {sg:Sig} {fn:AFn} (hn:Hints) (pm:List Nat) (h1:modeL m f = .fz) (h2:fnL l f=some fn) (h3:fn.np=sg.ps.length) (h4:noRaw sg.ps=false) (h5:sg.ps.all inlOK=true) (h6:sg.rs.all Kd.flat=true) (h7:sg.rs.all kindOK=true) :
  EntOK (tabOf l m) f (.inl sg fn hn pm):=⟨h1,h2,h3,h4,h5,h6,h7⟩
open Go.Proofs.YtlnehfgjfmamjaaGreatDoor
mutual
def kdOf:Ty→Kd
 | .int k=>.int k
 | .bool=>.bool
 | .str=>.str
 | .st fs=>.st (leafsTys fs)
 | .sl sz e=>.sl sz (kdOf e)
def leafsTy:Ty→List Kd
 | .st fs=>leafsTys fs
 | .int k=>[.int k]
 | .bool=>[.bool]
 | .str=>[.str]
 | .sl sz e=>[.sl sz (kdOf e)]
def leafsTys:List Ty→List Kd
 | []=>[]
 | f :: r=>leafsTy f++leafsTys r
end
mutual
def Kd.inR:(t:Kd)→t.den→Prop
 | .int k,(n:Int)=>k.min≤n∧n≤k.max
 | .st fs,x=>Kd.inRs fs x
 | .sl _ e,(xs:List e.den)=>∀ x∈xs,Kd.inR e x
 | .bool,_=>True
 | .str,_=>True
def Kd.inRs:(l:List Kd)→Kd.dens l→Prop
 | [],_=>True
 | t :: r,x=>Kd.inR t x.1∧Kd.inRs r x.2
end
mutual
def Kd.bulk:(t:Kd)→t.den→Nat
 | .int _,_=>1
 | .bool,_=>1
 | .str,(s:List UInt8)=>s.length + 1
 | .st fs,x=>Kd.bulks fs x + 1
 | .sl _ e,(xs:List e.den)=>(xs.map (Kd.bulk e)).sum + 1
def Kd.bulks:(l:List Kd)→Kd.dens l→Nat
 | [],_=>0
 | t :: r,x=>Kd.bulk t x.1 + Kd.bulks r x.2
end
theorem reps_app {H:Heap}:∀ {l m:List Kd} {x:Kd.dens l} {y:Kd.dens m} {a b:List AV},Reps false H l x a []→Reps false H m y b []→Reps false H (l++m) (appDens l m x y) (a++b) []
 | [],m,x,y,[],b,_,h=>h
 | [],_,_,_,_ :: _,_,h,_=>by simp [Reps] at h
 | _ :: _,_,_,_,[],_,h,_=>by simp [Reps] at h
 | t :: r,m,x,y,v :: a,b,⟨h0,L1,L2,h1,h2,hL⟩,h=>by
  have e1:L1=[]:=by cases L1 with | nil=>rfl | cons=>cases hL
  subst e1
  have e2:L2=[]:=by cases L2 with | nil=>rfl | cons=>cases hL
  subst e2
  exact ⟨h0,[],[],h1,reps_app h2 h,rfl⟩
theorem inRs_app:∀ {l m:List Kd} {x:Kd.dens l} {y:Kd.dens m},Kd.inRs l x→Kd.inRs m y→Kd.inRs (l++m) (appDens l m x y)
 | [],m,x,y,_,h=>h
 | t :: r,m,x,y,h1,h=>⟨h1.1,inRs_app h1.2 h⟩
theorem bulks_app:∀ {l m:List Kd} {x:Kd.dens l} {y:Kd.dens m},Kd.bulks (l++m) (appDens l m x y)=Kd.bulks l x + Kd.bulks m y
 | [],m,x,y=>by simp [appDens,Kd.bulks]
 | t :: r,m,x,y=>by
  show Kd.bulk t x.1 + Kd.bulks (r++m) (appDens r m x.2 y)=Kd.bulk t x.1 + Kd.bulks r x.2 + Kd.bulks m y
  rw [bulks_app (l:=r)]; omega
theorem list_den {e:Kd}:∀ {xs:List TV},(∀ x∈xs,∃ y:e.den,(∀ H,Rep false H e y (.c x) [])∧e.inR y∧e.bulk y≤tvB x) →
  ∃ ys:List e.den,(∀ H,RepL (Rep false H e) ys (xs.map .c) [])∧(∀ y∈ys,e.inR y)∧(ys.map e.bulk).sum≤cellsB xs
 | [],_=>⟨[],fun H=>rfl,fun y hy=>(by cases hy),by simp [cellsB]⟩
 | x :: r,h=>by
  obtain ⟨y,h1,h2,h3⟩:=h x (List.mem_cons_self ..)
  obtain ⟨ys,k1,k2,k3⟩:=list_den (xs:=r) fun z hz=>h z (List.mem_cons_of_mem _ hz)
  refine ⟨y :: ys,fun H=>⟨[],[],h1 H,k1 H,rfl⟩,fun z hz=>?_,?_⟩
  ·rcases List.mem_cons.1 hz with rfl | hz
   ·exact h2
   ·exact k2 z hz
  ·simp only [List.map_cons,List.sum_cons,cellsB]; omega
mutual
theorem wtc_den:∀ (ty:Ty) (cs:List TV),WTc ty cs→∃ y:Kd.dens (leafsTy ty),(∀ H,Reps false H (leafsTy ty) y (cs.map .c) [])∧Kd.inRs (leafsTy ty) y∧Kd.bulks (leafsTy ty) y≤cellsB cs
 | .int k,cs,⟨n,h,h1,h2⟩=>by
  subst h
  exact ⟨(n,()),fun H=>⟨rfl,[],[],⟨rfl,rfl⟩,rfl,rfl⟩,⟨⟨h1,h2⟩,trivial⟩,by simp [leafsTy,Kd.bulks,Kd.bulk,cellsB,tvB]⟩
 | .bool,cs,⟨b,h⟩=>by
  subst h
  exact ⟨(b,()),fun H=>⟨rfl,[],[],⟨rfl,rfl⟩,rfl,rfl⟩,⟨trivial,trivial⟩,by simp [leafsTy,Kd.bulks,Kd.bulk,cellsB,tvB]⟩
 | .str,cs,⟨s,h⟩=>by
  subst h
  refine ⟨(s.data.toList,()),fun H=>⟨rfl,[],[],⟨?_,rfl⟩,rfl,rfl⟩,⟨trivial,trivial⟩,?_⟩
  ·show AV.c (.s (.string s)) = .c (.s (.string ⟨List.toArray s.data.toList⟩))
   simp
  ·have:s.data.toList.length=s.size:=by rw [Array.length_toList]; rfl
   show s.data.toList.length + 1 + 0≤cellsB [.s (.string s)]
   simp only [cellsB,tvB]; omega
 | .sl sz e,cs,⟨xs,h,hx⟩=>by
  subst h
  obtain ⟨ys,k1,k2,k3⟩:=list_den (e:=kdOf e) (xs:=xs) fun x hxm=>wt_den e x (hx x hxm)
  refine ⟨(ys,()),fun H=>⟨rfl,[],[],.inr (.inl ⟨rfl,sz,xs,rfl,.inl rfl,k1 H,rfl⟩),rfl,rfl⟩,⟨k2,trivial⟩,?_⟩
  show (ys.map (Kd.bulk (kdOf e))).sum + 1 + 0≤cellsB [.sl sz xs]
  simp only [cellsB,tvB]; omega
 | .st fs,cs,h=>wts_den fs cs h
theorem wts_den:∀ (fs:List Ty) (cs:List TV),WTs fs cs→∃ y:Kd.dens (leafsTys fs),(∀ H,Reps false H (leafsTys fs) y (cs.map .c) [])∧Kd.inRs (leafsTys fs) y∧Kd.bulks (leafsTys fs) y≤cellsB cs
 | [],cs,h=>by
  have h:cs=[]:=h
  subst h
  exact ⟨(),fun H=>rfl,trivial,by simp [leafsTys,Kd.bulks]⟩
 | f :: r,cs,⟨a,b,h,h1,h2⟩=>by
  subst h
  obtain ⟨y,a1,a2,a3⟩:=wtc_den f a h1
  obtain ⟨z,b1,b2,b3⟩:=wts_den r b h2
  refine ⟨appDens _ _ y z,fun H=>?_,inRs_app a2 b2,?_⟩
  ·rw [List.map_append]; exact reps_app (a1 H) (b1 H)
  ·show Kd.bulks (leafsTy f++leafsTys r) _≤_
   rw [bulks_app,cellsB_append]; omega
theorem wt_den:∀ (ty:Ty) (x:TV),WTc ty x.cells∧x.isA=ty.isSt→∃ y:(kdOf ty).den,(∀ H,Rep false H (kdOf ty) y (.c x) [])∧(kdOf ty).inR y∧(kdOf ty).bulk y≤tvB x
 | .st fs,x,⟨h1,h2⟩=>by
  cases x with
  | agg cs=>
   obtain ⟨y,k1,k2,k3⟩:=wts_den fs cs h1
   exact ⟨y,fun H=>⟨rfl,k1 H⟩,k2,by show Kd.bulks (leafsTys fs) y + 1≤cellsB cs + 1; omega⟩
  | _=>cases h2
 | .int k,x,⟨h1,h2⟩=>by
  obtain ⟨n,h,a,b⟩:=h1
  cases x with
  | s v=>cases h; exact ⟨n,fun H=>⟨rfl,rfl⟩,⟨a,b⟩,by simp [kdOf,Kd.bulk,tvB]⟩
  | agg cs=>cases h2
  | sl z xs=>cases h
 | .bool,x,⟨h1,h2⟩=>by
  obtain ⟨n,h⟩:=h1
  cases x with
  | s v=>cases h; exact ⟨n,fun H=>⟨rfl,rfl⟩,trivial,by simp [kdOf,Kd.bulk,tvB]⟩
  | agg cs=>cases h2
  | sl z xs=>cases h
 | .str,x,⟨h1,h2⟩=>by
  obtain ⟨s,h⟩:=h1
  cases x with
  | s v=>
   cases h
   refine ⟨s.data.toList,fun H=>⟨?_,rfl⟩,trivial,?_⟩
   ·show AV.c (.s (.string s)) = .c (.s (.string ⟨List.toArray s.data.toList⟩))
    simp
   ·have:s.data.toList.length=s.size:=by rw [Array.length_toList]; rfl
    show s.data.toList.length + 1≤tvB (.s (.string s))
    simp only [tvB]; omega
  | agg cs=>cases h2
  | sl z xs=>cases h
 | .sl sz e,x,⟨h1,h2⟩=>by
  obtain ⟨xs,h,hx⟩:=h1
  cases x with
  | sl z ys=>
   cases h
   obtain ⟨ys,k1,k2,k3⟩:=list_den (e:=kdOf e) (xs:=xs) fun x hxm=>wt_den e x (hx x hxm)
   refine ⟨ys,fun H=>.inr (.inl ⟨rfl,sz,xs,rfl,.inl rfl,k1 H,rfl⟩),k2,?_⟩
   show (ys.map (Kd.bulk (kdOf e))).sum + 1≤tvB (.sl sz xs)
   simp only [tvB]; omega
  | agg cs=>cases h2
  | s v=>cases h
end
def datL:List Ty→List PKd
 | []=>[]
 | t :: r=>.dat (kdOf t) :: datL r
theorem args_den:∀ (tys:List Ty) (xs:List TV),WTl tys xs→∃ x:Kd.dens (insK (datL tys)),ArgR Go.Am.H0 (datL tys) x (xs.map .c) []∧Kd.inRs (insK (datL tys)) x∧Kd.bulks (insK (datL tys)) x≤cellsB xs
 | [],[],_=>⟨(),rfl,trivial,by simp [cellsB,datL,insK,Kd.bulks]⟩
 | t :: r,x :: q,⟨h1,h2⟩=>by
  obtain ⟨y,a1,a2,a3⟩:=wt_den t x h1
  obtain ⟨z,b1,b2,b3⟩:=args_den r q h2
  refine ⟨(y,z),⟨⟨x,rfl,fun H=>a1 H⟩,b1⟩,⟨a2,b2⟩,?_⟩
  show Kd.bulk (kdOf t) y + Kd.bulks (insK (datL r)) z≤tvB x + cellsB q
  omega
 | [],_ :: _,h=>h.elim
 | _ :: _,[],h=>h.elim
section
variable {H:Type} {enc:TypeId×Value→H} {P:Program}
theorem law_row {T:Tab} (hT:TabOK P T) {f:FuncId} {fn:Func} {s:ChangeSpec} {tb:TypeId} {n:Nat} {tys:List Ty} {F:Sig.F ⟨datL tys,[.bool]⟩} (hl:laidOutB P=true) (hres:fn.resultTypes = #[tb]) (htb:P.underlying tb=some .bool) (hvars:s.vars=[])
  (htys:mapMO (tyOf P n) fn.params.toList=some tys) (hread:(fn.params.toList.all fun t=>P.readableRec t && decide (t < P.types.size))=true)
  (hspec:∀ ds:List (DataW H),ds.length=fn.params.toList.length→s.fn H ds={ results:=[.lit (.bool true)],args:=ds })
  (hent:EntOK T f (.con true ⟨datL tys,[.bool]⟩ F))
  (hlaw:∀ x,Kd.inRs (insK (datL tys)) x→Kd.bulks (insK (datL tys)) x≤1048576→∃ z,F x=some (true,z))
  (W:World) (base:Nat) (args:Array Value) (ds gs:List (DataW H)) (before:List MemPlace)
  (hval:∀ (j:Nat) t v,fn.params[j]? = some t→args[j]? = some v→Value.okWide P W .any base t v)
  (hW:DataW.Whole enc P fn.params.toList s.vars false W args.toList ds gs before) (hk:Rows.uptoSmall H (ds++gs)=true) :
  Calls P f args W fun e W'=>∃ v,e = .returned v∧s.post enc P fn false true false false W args v W':=by
 refine row_contract hT hl hres htb hvars htys hread hspec (fun xs hx hb=>?_) W base args ds gs before hval hW hk
 obtain ⟨x,a1,a2,a3⟩:=args_den tys xs hx
 obtain ⟨z,hz⟩:=hlaw x a2 (by omega)
 obtain ⟨_,_,_,_,hf⟩:=hent
 obtain ⟨us,u1,u2,u3⟩:=hf x _ xs hz a1
 have u3:=u3 Go.Am.H0
 cases us with
 | nil=>exact u3.elim
 | cons u r=>
  obtain ⟨L1,L2,k1,k2,_⟩:=u3
  cases r with
  | cons=>exact k2.elim
  | nil=>
   obtain ⟨k1,_⟩:=k1
   cases k1
   exact u1
end
end Go.Am
/- From a law told on a table with functions in others' places to its row. -/
namespace Go.Am
def inlT (X:InlX):List (Nat×AFn)→List (Nat×AFn)
 | []=>[]
 | (f,F) :: r=>match X.M f with | true=>inlT X r | false=>(f,inlF X F) :: inlT X r
def wfT (l:List (Nat×AFn)):Bool:=l.all fun p=>wfF p.2 && wfR p.2
def inlX (M:List Nat) (l:List (Nat×AFn)):InlX:=⟨memN M,fnL l⟩
def tabM (l:List (Nat×AFn)) (m:List (Nat×List Bool)) (M:List Nat):Tab:=⟨fnL l,fun f=>if memN M f then .mu else modeL m f,fun _=>none⟩
theorem inlT_some {X:InlX}:∀ {l:List (Nat×AFn)} {f:Nat} {F':AFn},fnL (inlT X l) f=some F'→X.M f=false∧∃ F,fnL l f=some F∧F'=inlF X F
 | [],f,F',h=>by cases h
 | (a,F) :: r,f,F',h=>by
  simp only [inlT] at h
  cases hM:X.M a with
  | true=>
   rw [hM] at h
   obtain ⟨h1,F1,h2,h3⟩:=inlT_some (l:=r) h
   refine ⟨h1,F1,?_,h3⟩
   simp only [fnL]
   cases hb:Nat.beq a f with
   | true=>
    have:=Nat.eq_of_beq_eq_true hb
    subst this
    rw [hM] at h1; cases h1
   | false=>exact h2
  | false=>
   rw [hM] at h
   simp only [fnL] at h ⊢
   cases hb:Nat.beq a f with
   | true=>
    rw [hb] at h
    cases h
    have:=Nat.eq_of_beq_eq_true hb
    subst this
    exact ⟨hM,F,rfl,rfl⟩
   | false=>
    rw [hb] at h
    exact inlT_some (l:=r) h
theorem inl_ok {l:List (Nat×AFn)} {m:List (Nat×List Bool)} {M:List Nat} (hw:wfT l=true) (hm:(M.all fun f=>(m.all fun p=>!Nat.beq p.1 f))=true) :
  InlOK (inlX M l) (tabM l m M) (tabOf (inlT (inlX M l) l) m):=by
 have memM:∀ {M:List Nat} {f:Nat},memN M f=true→f∈M:=by
  intro M
  induction M with
  | nil=>intro f h; cases h
  | cons a r ih=>
   intro f h
   simp only [memN] at h
   cases hb:Nat.beq a f with
   | true=>
    have:=Nat.eq_of_beq_eq_true hb
    subst this
    exact List.mem_cons_self ..
   | false=>rw [hb] at h; exact List.mem_cons_of_mem _ (ih h)
 have mode0:∀ {m:List (Nat×List Bool)} {f:Nat},(m.all fun p=>!Nat.beq p.1 f)=true→modeL m f = .fz:=by
  intro m
  induction m with
  | nil=>intro f _; rfl
  | cons p r ih=>
   intro f h
   obtain ⟨a,v⟩:=p
   simp only [List.all_cons,Bool.and_eq_true,Bool.not_eq_true'] at h
   simp only [modeL,h.1]
   exact ih h.2
 refine ⟨fun f F' h=>?_,fun f F hM hF=>⟨hF,if_pos hM⟩,fun f hM=>⟨?_,?_,rfl⟩,fun f hM=>⟨?_,rfl,?_⟩⟩
 ·obtain ⟨h1,F,h2,h3⟩:=inlT_some h
  refine ⟨h1,F,h2,h3,?_⟩
  unfold wfT at hw
  rw [List.all_eq_true] at hw
  have:=hw _ (fnL_mem h2)
  simpa using this
 ·rw [List.all_eq_true] at hm
  exact mode0 (hm f (memM hM))
 ·cases h:(tabOf (inlT (inlX M l) l) m).fn f with
  | none=>rfl
  | some F'=>
   have:=(inlT_some (X:=inlX M l) h).1
   rw [hM] at this; cases this
 ·show modeL m f=if memN M f=true then .mu else modeL m f
  have hM:memN M f=false:=hM
  rw [hM]; rfl
 ·show (if memN M f=true then CMode.mu else modeL m f) ≠ .mu
  have hM:memN M f=false:=hM
  rw [hM]
  exact modeL_ne
open Go.Proofs.YtlnehfgjfmamjaaGreatDoor
section
variable {H:Type} {enc:TypeId×Value→H} {P:Program}
theorem law_rowM {T T':Tab} {X:InlX} (hT:TabOK P T) (hX:InlOK X T T') {f:FuncId} {fn:Func} {s:ChangeSpec} {tb:TypeId} {n:Nat} {tys:List Ty} {F:Sig.F ⟨datL tys,[.bool]⟩} (hl:laidOutB P=true) (hres:fn.resultTypes = #[tb]) (htb:P.underlying tb=some .bool) (hvars:s.vars=[])
  (htys:mapMO (tyOf P n) fn.params.toList=some tys) (hread:(fn.params.toList.all fun t=>P.readableRec t && decide (t < P.types.size))=true)
  (hspec:∀ ds:List (DataW H),ds.length=fn.params.toList.length→s.fn H ds={ results:=[.lit (.bool true)],args:=ds })
  (hM:X.M f=false) (hent:EntOK T' f (.con true ⟨datL tys,[.bool]⟩ F))
  (hlaw:∀ x,Kd.inRs (insK (datL tys)) x→Kd.bulks (insK (datL tys)) x≤1048576→∃ z,F x=some (true,z))
  (W:World) (base:Nat) (args:Array Value) (ds gs:List (DataW H)) (before:List MemPlace)
  (hval:∀ (j:Nat) t v,fn.params[j]? = some t→args[j]? = some v→Value.okWide P W .any base t v)
  (hW:DataW.Whole enc P fn.params.toList s.vars false W args.toList ds gs before) (hk:Rows.uptoSmall H (ds++gs)=true) :
  Calls P f args W fun e W'=>∃ v,e = .returned v∧s.post enc P fn false true false false W args v W':=by
 refine row_contract hT hl hres htb hvars htys hread hspec (fun xs hx hb=>?_) W base args ds gs before hval hW hk
 obtain ⟨x,a1,a2,a3⟩:=args_den tys xs hx
 obtain ⟨z,hz⟩:=hlaw x a2 (by omega)
 obtain ⟨_,_,_,_,hf⟩:=hent
 obtain ⟨us,u1,u2,u3⟩:=hf x _ xs hz a1
 have u3:=u3 Go.Am.H0
 cases us with
 | nil=>exact u3.elim
 | cons u r=>
  obtain ⟨L1,L2,k1,k2,_⟩:=u3
  cases r with
  | cons=>exact k2.elim
  | nil=>
   obtain ⟨k1,_⟩:=k1
   cases k1
   exact callC_inl hX hM u1
end
end Go.Am
/- Plain laws about the words that told functions are made of. -/
namespace Go.Am
theorem bindK_pure {α ρ:Type} (a:α) (k:α→Option ρ):bindK (some a) k=k a:=by rw [bindK_def]
theorem bindK_none {α ρ:Type} (k:α→Option ρ):bindK none k=none:=by rw [bindK_def]
theorem guardK_true {ρ:Type} (k:Option ρ):guardK true k=k:=by rw [guardK_def]; rfl
theorem guardK_pos {ρ:Type} {c:Bool} (h:c=true) (k:Option ρ):guardK c k=k:=by rw [h,guardK_true]
theorem cond_or (b c:Bool):(bif b then some true else some c)=some (b || c):=by cases b <;> rfl
theorem cond_or' (b c:Bool):(bif b then some c else some true)=some (!b || c):=by cases b <;> rfl
theorem cond_and (b c:Bool):(bif b then some c else some false)=some (b && c):=by cases b <;> rfl
theorem cond_some {α:Type} (b:Bool) (x y:α):(bif b then some x else some y)=some (bif b then x else y):=by cases b <;> rfl
theorem iAdd64 {a b:Int} (h:-9223372036854775808≤a + b∧a + b≤9223372036854775807):iAdd .i64 a b=a + b:=by rw [iAdd_def,Go.IntWalk.i64_in _ h]
theorem iSub64 {a b:Int} (h:-9223372036854775808≤a - b∧a - b≤9223372036854775807):iSub .i64 a b=a - b:=by rw [iSub_def,Go.IntWalk.i64_in _ h]
theorem iMul64 {a b:Int} (h:-9223372036854775808≤a * b∧a * b≤9223372036854775807):iMul .i64 a b=a * b:=by rw [iMul_def,Go.IntWalk.i64_in _ h]
theorem iConv64 {a:Int} (h:-9223372036854775808≤a∧a≤9223372036854775807):iConv .i64 a=a:=by rw [iConv_def,Go.IntWalk.i64_in _ h]
theorem byteI_range (b:UInt8):0≤byteI b∧byteI b≤255:=by
 rw [byteI_def]
 have:=b.toNat_lt
 omega
theorem idxK_get {α ρ:Type} {xs:List α} {n:Nat} {x:α} {k:α→Option ρ} (h:xs[n]? = some x):idxK xs (n:Int) k=k x:=by
 rw [idxK_def,if_pos (by omega)]
 simp only [Int.toNat_natCast,h]
theorem idxK_lt {α ρ:Type} {xs:List α} {n:Nat} {k:α→Option ρ} (h:n < xs.length):idxK xs (n:Int) k=k xs[n]:=idxK_get (List.getElem?_eq_getElem h)
theorem iLt_nat (a b:Nat):iLt (a:Int) (b:Int)=decide (a < b):=by rw [iLt_def]; simp
theorem iLt_len {α:Type} (n:Nat) (xs:List α):iLt (n:Int) (lenI xs)=decide (n < xs.length):=by rw [lenI_def,iLt_nat]
theorem gMk_pos {n sz:Nat} (h:n * sz≤4294967296):gMk (n:Int) sz=true:=by
 rw [gMk_def]; simp only [decide_eq_true_eq]
 refine ⟨by omega,?_⟩
 have:((n:Int) * (sz:Int))=((n * sz:Nat):Int):=by simp
 rw [this]; omega
theorem gApp_pos {α:Type} {xs ys:List α} {sz:Nat} (h:(xs.length + ys.length) * sz≤4294967296):gApp xs ys sz=true:=by rw [gApp_def]; simpa using h
theorem gCat_pos {a b:List UInt8} (h:a.length + b.length≤140737488355328):gCat a b=true:=by rw [gCat_def]; simpa using h
theorem gS2b_pos {a:List UInt8} (h:a.length≤4294967296):gS2b a=true:=by rw [gS2b_def]; simpa using h
theorem gNz_pos {a:Int} (h:a≠0):gNz a=true:=by rw [gNz_def]; simpa using h
theorem gNn_pos {a:Int} (h:0≤a):gNn a=true:=by rw [gNn_def]; simpa using h
theorem NN_big:(1152921504606846976:Nat) < NN:=by unfold NN; omega
theorem loop_eq {σ ρ:Type} {F:(σ→Option ρ)→σ→Option ρ} (P:σ→Prop) (m:σ→Nat) (g:σ→Option ρ)
  (h:∀ (rec:σ→Option ρ) (s:σ),P s→(∀ s',P s'→m s' < m s→rec s'=g s')→F rec s=g s):∀ (N:Nat) (s:σ),P s→m s < N→loopF F N s=g s
 | 0,s,_,hm=>by omega
 | N + 1,s,hp,hm=>by
  rw [loopF_succ]
  exact h _ s hp fun s' hp' hm'=>loop_eq P m g h N s' hp' (by omega)
theorem loop_post {σ ρ:Type} {F:(σ→Option ρ)→σ→Option ρ} (P:σ→Prop) (m:σ→Nat) (Q:σ→ρ→Prop)
  (h:∀ (rec:σ→Option ρ) (s:σ),P s→(∀ s',P s'→m s' < m s→∃ r,rec s'=some r∧Q s' r)→∃ r,F rec s=some r∧Q s r):∀ (N:Nat) (s:σ),P s→m s < N→∃ r,loopF F N s=some r∧Q s r
 | 0,s,_,hm=>by omega
 | N + 1,s,hp,hm=>by
  rw [loopF_succ]
  exact h _ s hp fun s' hp' hm'=>loop_post P m Q h N s' hp' (by omega)
theorem loop_list {α σ ρ a:Type} {F:(σ→Option ρ)→σ→Option ρ} {xs:List α} (mk:Int→a→σ) (inv:Nat→a→Prop) (g:a→List α→Option ρ)
  (hend:∀ (rec:σ→Option ρ) (s:a),inv xs.length s→F rec (mk xs.length s)=g s [])
  (hstep:∀ (rec:σ→Option ρ) (n:Nat) (h:n < xs.length) (s:a),inv n s→(∀ s',inv (n + 1) s'→rec (mk ((n + 1:Nat):Int) s')=g s' (xs.drop (n + 1)))→F rec (mk n s)=g s (xs[n] :: xs.drop (n + 1))) :
  ∀ (N:Nat) (s:a),inv 0 s→xs.length < N→loopF F N (mk 0 s)=g s xs:=by
 have key:∀ (k n:Nat) (N:Nat) (s:a),n + k=xs.length→inv n s→k < N→loopF F N (mk n s)=g s (xs.drop n):=by
  intro k
  induction k with
  | zero=>
   intro n N s hn hi hN
   have:n=xs.length:=by omega
   subst this
   cases N with
   | zero=>omega
   | succ N=>
    rw [loopF_succ,hend _ s hi,List.drop_length]
  | succ k ih=>
   intro n N s hn hi hN
   cases N with
   | zero=>omega
   | succ N=>
    have hlt:n < xs.length:=by omega
    rw [loopF_succ,hstep _ n hlt s hi fun s' hi'=>ih (n + 1) N s' (by omega) hi' (by omega),List.drop_eq_getElem_cons hlt]
 intro N s hi hN
 have:=key xs.length 0 N s (by omega) hi hN
 simpa using this
theorem loop_listP {α σ ρ a:Type} {F:(σ→Option ρ)→σ→Option ρ} {xs:List α} (mk:Int→a→σ) (inv:Nat→a→Prop) (Q:ρ→Prop)
  (hend:∀ (rec:σ→Option ρ) (s:a),inv xs.length s→∃ r,F rec (mk xs.length s)=some r∧Q r)
  (hstep:∀ (rec:σ→Option ρ) (n:Nat) (h:n < xs.length) (s:a),inv n s→(∀ s',inv (n + 1) s'→∃ r,rec (mk ((n + 1:Nat):Int) s')=some r∧Q r)→∃ r,F rec (mk n s)=some r∧Q r) :
  ∀ (N:Nat) (s:a),inv 0 s→xs.length < N→∃ r,loopF F N (mk 0 s)=some r∧Q r:=by
 have key:∀ (k n:Nat) (N:Nat) (s:a),n + k=xs.length→inv n s→k < N→∃ r,loopF F N (mk n s)=some r∧Q r:=by
  intro k
  induction k with
  | zero=>
   intro n N s hn hi hN
   have:n=xs.length:=by omega
   subst this
   cases N with
   | zero=>omega
   | succ N=>rw [loopF_succ]; exact hend _ s hi
  | succ k ih=>
   intro n N s hn hi hN
   cases N with
   | zero=>omega
   | succ N=>
    rw [loopF_succ]
    exact hstep _ n (by omega) s hi fun s' hi'=>ih (n + 1) N s' (by omega) hi' (by omega)
 intro N s hi hN
 exact key xs.length 0 N s (by omega) hi hN
theorem NN_len {n:Nat} (h:n≤4294967296):n < NN:=by unfold NN; omega
theorem iAdd_nat {n:Nat} (h:n≤4294967296):iAdd .i64 (n:Int) 1=((n + 1:Nat):Int):=by
 rw [iAdd64 (by omega)]; simp
theorem set_take {α:Type} {xs ys:List α} {n:Nat} (hl:ys.length=xs.length) (h:n < xs.length) (hp:ys.take n=xs.take n):(ys.set n xs[n]).take (n + 1)=xs.take (n + 1):=by
 rw [List.take_set]
 apply List.ext_getElem?
 intro i
 by_cases hi:i < n
 ·have e:(ys.take n)[i]? = (xs.take n)[i]?:=by rw [hp]
  simp only [List.getElem?_take,hi,if_true] at e
  simp only [List.getElem?_set,List.getElem?_take]
  rw [if_neg (by omega),if_pos (by omega),if_pos (by omega)]
  exact e
 ·by_cases hin:i=n
  ·subst hin
   simp only [List.getElem?_set,List.getElem?_take,List.length_take]
   rw [if_pos trivial,if_pos (by omega),if_pos (by omega),List.getElem?_eq_getElem h]
  ·simp only [List.getElem?_set,List.getElem?_take]
   rw [if_neg (by omega),if_neg (by omega),if_neg (by omega)]
theorem toS_ok {α:Type} {f:α×Unit→Option (α×Unit)} {xs:List α} {d:α} {z:Nat} (hz:0 < z) (hf:∀ y∈xs,f (y,())=some (y,())) (hl:xs.length * z≤4294967296) :
  (guardK (gMk (lenI xs) z) <| loopF (fun rec (s:Int×List α×Unit)=>bif iLt s.1 (lenI xs) then idxK xs s.1 fun y=>bindK (f (y,())) fun w=>idxK s.2.1 s.1 fun _=>rec (iAdd .i64 s.1 1,setL s.2.1 (toN s.1) w.1,()) else some s.2) NN (0,repL (toN (lenI xs)) d,()))=some (xs,()):=by
 have hl1:xs.length≤4294967296:=Nat.le_trans (Nat.le_mul_of_pos_right _ hz) hl
 rw [lenI_def,guardK_pos (gMk_pos hl)]
 have:=loop_list (xs:=xs) (a:=List α) (σ:=Int×List α×Unit) (ρ:=List α×Unit) (F:=fun rec (s:Int×List α×Unit)=>bif iLt s.1 (lenI xs) then idxK xs s.1 fun y=>bindK (f (y,())) fun w=>idxK s.2.1 s.1 fun _=>rec (iAdd .i64 s.1 1,setL s.2.1 (toN s.1) w.1,()) else some s.2)
  (fun i s=>(i,s,())) (fun n s=>s.length=xs.length∧s.take n=xs.take n) (fun _ _=>some (xs,())) (fun rec s hs=>?_) (fun rec n h s hs hr=>?_) NN (repL (toN (lenI xs)) d) ⟨by rw [repL_def,toN_def,lenI_def]; simp,by simp⟩ (NN_len hl1)
 ·rw [lenI_def] at this; exact this
 ·simp only [iLt_len,Nat.lt_irrefl,decide_false,cond_false]
  obtain ⟨h1,h2⟩:=hs
  rw [← h1] at h2
  rw [List.take_length,h1,List.take_length] at h2
  rw [h2]
 ·simp only [iLt_len,h,decide_true,cond_true]
  rw [idxK_lt h,hf _ (List.getElem_mem h),bindK_pure,idxK_lt (by rw [hs.1]; exact h),iAdd_nat (by omega),toN_def,setL_def]
  exact hr _ ⟨by rw [List.length_set]; exact hs.1,set_take hs.1 h hs.2⟩
theorem toP_ok {α:Type} {xs:List α} {d:α} {z:Nat} (hz:0 < z) (hl:xs.length * z≤4294967296) :
  (guardK (gMk (lenI xs) z) <| loopF (fun rec (s:Int×List α×Unit)=>bif iLt s.1 (lenI xs) then idxK xs s.1 fun y=>idxK s.2.1 s.1 fun _=>rec (iAdd .i64 s.1 1,setL s.2.1 (toN s.1) y,()) else some s.2) NN (0,repL (toN (lenI xs)) d,()))=some (xs,()):=by
 have hl1:xs.length≤4294967296:=Nat.le_trans (Nat.le_mul_of_pos_right _ hz) hl
 rw [lenI_def,guardK_pos (gMk_pos hl)]
 have:=loop_list (xs:=xs) (a:=List α) (σ:=Int×List α×Unit) (ρ:=List α×Unit) (F:=fun rec (s:Int×List α×Unit)=>bif iLt s.1 (lenI xs) then idxK xs s.1 fun y=>idxK s.2.1 s.1 fun _=>rec (iAdd .i64 s.1 1,setL s.2.1 (toN s.1) y,()) else some s.2)
  (fun i s=>(i,s,())) (fun n s=>s.length=xs.length∧s.take n=xs.take n) (fun _ _=>some (xs,())) (fun rec s hs=>?_) (fun rec n h s hs hr=>?_) NN (repL (toN (lenI xs)) d) ⟨by rw [repL_def,toN_def,lenI_def]; simp,by simp⟩ (NN_len hl1)
 ·rw [lenI_def] at this; exact this
 ·simp only [iLt_len,Nat.lt_irrefl,decide_false,cond_false]
  obtain ⟨h1,h2⟩:=hs
  rw [← h1] at h2
  rw [List.take_length,h1,List.take_length] at h2
  rw [h2]
 ·simp only [iLt_len,h,decide_true,cond_true]
  rw [idxK_lt h,idxK_lt (by rw [hs.1]; exact h),iAdd_nat (by omega),toN_def,setL_def]
  exact hr _ ⟨by rw [List.length_set]; exact hs.1,set_take hs.1 h hs.2⟩
theorem eqS_refl {α:Type} {f:α×α×Unit→Option (Bool×Unit)} {xs:List α} (hf:∀ y∈xs,f (y,y,())=some (true,())) (hl:xs.length≤4294967296) :
  (bif iNe (lenI xs) (lenI xs) then some (false,()) else loopF (fun rec (s:Int×Unit)=>bif iLt s.1 (lenI xs) then idxK xs s.1 fun y=>idxK xs s.1 fun y'=>bindK (f (y,y',())) fun w=>bif bNot w.1 then some (false,()) else rec (iAdd .i64 s.1 1,()) else some (true,())) NN (0,()))=some (true,()):=by
 rw [iNe_def]
 simp only [bne_self_eq_false,cond_false]
 refine loop_list (xs:=xs) (a:=Unit) (fun i s=>(i,())) (fun n s=>True) (fun _ _=>some (true,())) (fun rec s _=>?_) (fun rec n h s _ hr=>?_) NN () trivial (NN_len hl)
 ·simp only [iLt_len,Nat.lt_irrefl,decide_false,cond_false]
 ·simp only [iLt_len,h,decide_true,cond_true]
  rw [idxK_lt h,idxK_lt h,hf _ (List.getElem_mem h),bindK_pure,bNot_def,iAdd_nat (by omega)]
  exact hr () trivial
theorem eqP_refl {α:Type} {ne:α→α→Bool} {xs:List α} (hf:∀ y,ne y y=false) (hl:xs.length≤4294967296) :
  (bif iNe (lenI xs) (lenI xs) then some (false,()) else loopF (fun rec (s:Int×Unit)=>bif iLt s.1 (lenI xs) then idxK xs s.1 fun y=>idxK xs s.1 fun y'=>bif ne y y' then some (false,()) else rec (iAdd .i64 s.1 1,()) else some (true,())) NN (0,()))=some (true,()):=by
 rw [iNe_def]
 simp only [bne_self_eq_false,cond_false]
 refine loop_list (xs:=xs) (a:=Unit) (fun i s=>(i,())) (fun n s=>True) (fun _ _=>some (true,())) (fun rec s _=>?_) (fun rec n h s _ hr=>?_) NN () trivial (NN_len hl)
 ·simp only [iLt_len,Nat.lt_irrefl,decide_false,cond_false]
 ·simp only [iLt_len,h,decide_true,cond_true]
  rw [idxK_lt h,idxK_lt h,hf,iAdd_nat (by omega)]
  exact hr () trivial
theorem szS_ok {α:Type} {f:α×Int×Unit→Option (Int×Unit)} {xs:List α} (hf:∀ y∈xs,∀ v,∃ r,f (y,v)=some r) (hl:xs.length≤4294967296) (l:Int) :
  ∃ r,(bif iLt l 0 then some ((-1),()) else loopF (fun rec (s:Int×Int×Unit)=>bif iLt s.1 (lenI xs) then idxK xs s.1 fun y=>bindK (f (y,s.2)) fun w=>bif iLt w.1 0 then some ((-1),()) else rec (iAdd .i64 s.1 1,w) else some s.2) NN (0,l,()))=some r:=by
 cases iLt l 0 with
 | true=>exact ⟨_,rfl⟩
 | false=>
  have:=loop_listP (xs:=xs) (a:=Int×Unit) (σ:=Int×Int×Unit) (F:=fun rec (s:Int×Int×Unit)=>bif iLt s.1 (lenI xs) then idxK xs s.1 fun y=>bindK (f (y,s.2)) fun w=>bif iLt w.1 0 then some ((-1),()) else rec (iAdd .i64 s.1 1,w) else some s.2)
   (fun i s=>(i,s)) (fun n s=>True) (fun _=>True) (fun rec s _=>?_) (fun rec n h s _ hr=>?_) NN (l,()) trivial (NN_len hl)
  ·obtain ⟨r,h,_⟩:=this; exact ⟨r,h⟩
  ·simp only [iLt_len,Nat.lt_irrefl,decide_false,cond_false]; exact ⟨_,rfl,trivial⟩
  ·simp only [iLt_len,h,decide_true,cond_true]
   rw [idxK_lt h]
   obtain ⟨r,hr'⟩:=hf _ (List.getElem_mem h) s
   rw [hr',bindK_pure,iAdd_nat (by omega)]
   cases iLt r.1 0 with
   | true=>exact ⟨_,rfl,trivial⟩
   | false=>exact hr _ trivial
theorem facts_of {P:Program} {f:FuncId} {fn:Func} {s:ChangeSpec} {c:OpenClaim} (h0:(c.wf (OpenSpec.ofChange s))=true) (h1:(laidOutB P)=true) (h2:(mapsRowed P)=true) (h3:(fn.params.all (P.readableRec ·))=true) (h4:(namedTie P c.named s.vars)=true) (h5:((c.stops == []))=true) (h6:((P.stops == []))=true) (h7:((c.knobs == []))=true) (h8:((P.stopKnobs == []))=true) (h9:((c.inPlace == P.inPlace f))=true) (h10:((c.unfollowed == P.unfollowed f))=true) (h11:((c.recurses == P.recurses f))=true) (h12:((c.named == P.varsNamed f))=true) (h13:((c.maps == (fn.params.toList++s.plain.varTypes P).any (P.mapsRec ·)))=true) (h14:((c.ifaces == (fn.params.toList++s.plain.varTypes P).any (P.ifacesRec ·)))=true) (h15:((c.mapsOut == P.mapsAmong fn.resultTypes.toList))=true) (h16:((c.loops == (fn.params.toList++s.plain.varTypes P).any (P.loopsFrom ·)))=true) (h17:((c.wideKeys == (fn.params.toList++s.plain.varTypes P++fn.resultTypes.toList).any (P.wideKeysFrom ·)))=true) (h18:(s.vars.all (P.varReadable ·))=true) (h19:(fn.resultTypes.all (fun t=>P.readableRec t && decide (t < P.types.size)))=true) (h20:((c.ifacesOut == fn.resultTypes.toList.any (P.ifacesRec ·)))=true) (h21:((c.loopsOut == fn.resultTypes.toList.any (P.loopsFrom ·)))=true) (h22:((c.plainKeys == P.plainKeys))=true) (h23:(c.shortTexts.isNone)=true) (h24:(P.stopsHeard)=true) (h25:(P.mayEnter)=true) (h26:((c.lifted == P.liftsFinal))=true) (h27:((P.make == some c.make))=true) (h28:((c.kinds == (if c.domain.isEmpty then [] else fn.params.toList.map fun t=>match P.underlying t with | some (.int k)=>some k | _=>none)))=true) (h29:((c.pinned == c.pinnedBy))=true) (h30:((c.veiled == (fn.params.toList++s.plain.varTypes P++fn.resultTypes.toList).any (P.veiledRec ·)))=true) (h31:(c.veiledFits P fn.params.toList (fn.params.toList++s.plain.varTypes P++fn.resultTypes.toList))=true):joinedFacts P f fn s c=true:=by
 unfold joinedFacts
 simp only [Bool.and_eq_true]
 exact ⟨⟨⟨⟨⟨⟨⟨⟨⟨⟨⟨⟨⟨⟨⟨⟨⟨⟨⟨⟨⟨⟨⟨⟨⟨⟨⟨⟨⟨⟨⟨h0,h1⟩,h2⟩,h3⟩,h4⟩,h5⟩,h6⟩,h7⟩,h8⟩,h9⟩,h10⟩,h11⟩,h12⟩,h13⟩,h14⟩,h15⟩,h16⟩,h17⟩,h18⟩,h19⟩,h20⟩,h21⟩,h22⟩,h23⟩,h24⟩,h25⟩,h26⟩,h27⟩,h28⟩,h29⟩,h30⟩,h31⟩
end Go.Am
/- Plain laws about loops over lists,about lists that are written through,and about how much an argument holds. -/
namespace Go.Am
theorem loop_range {ρ:Type} {F:(Int×Unit→Option ρ)→Int×Unit→Option ρ} (m:Nat) (p:Nat→Bool) (r e:Option ρ)
  (hend:∀ rec,F rec ((m:Int),())=e) (hstep:∀ rec n,n < m→F rec ((n:Int),())=bif p n then r else rec (((n + 1:Nat):Int),())) (hm:m≤4294967296) :
  loopF F NN (0,())=bif (List.range m).any p then r else e:=by
 have key:∀ (k n:Nat) (N:Nat),n + k=m→k < N→loopF F N ((n:Int),())=bif ((List.range' n k).any p) then r else e:=by
  intro k
  induction k with
  | zero=>
   intro n N hn hN
   have:n=m:=by omega
   subst this
   cases N with
   | zero=>omega
   | succ N=>rw [loopF_succ,hend]; simp [List.range']
  | succ k ih=>
   intro n N hn hN
   cases N with
   | zero=>omega
   | succ N=>
    rw [loopF_succ,hstep _ n (by omega),ih (n + 1) N (by omega) (by omega)]
    simp only [List.range'_succ,List.any_cons]
    cases p n <;> simp
 have:=key m 0 NN (by omega) (NN_len hm)
 rw [List.range_eq_range']
 exact this
theorem any_getD {α:Type} (xs:List α) (d:α) (p:α→Bool):(List.range xs.length).any (fun n=>p (xs.getD n d))=xs.any p:=by
 rw [Bool.eq_iff_iff]
 simp only [List.any_eq_true,List.mem_range]
 constructor
 ·rintro ⟨n,hn,hp⟩
  refine ⟨_,List.getElem_mem hn,?_⟩
  simpa [List.getD,hn] using hp
 ·rintro ⟨x,hx,hp⟩
  obtain ⟨n,hn,e⟩:=List.getElem_of_mem hx
  exact ⟨n,hn,by simp [List.getD,hn,e,hp]⟩
theorem loop_any {α ρ:Type} {F:(Int×Unit→Option ρ)→Int×Unit→Option ρ} {xs:List α} (p:α→Bool) (r e:Option ρ)
  (hend:∀ rec,F rec ((xs.length:Int),())=e) (hstep:∀ rec n (h:n < xs.length),F rec ((n:Int),())=bif p xs[n] then r else rec (((n + 1:Nat):Int),())) (hm:xs.length≤4294967296) :
  loopF F NN (0,())=bif xs.any p then r else e:=by
 cases hx:xs with
 | nil=>
  have:=loop_range (F:=F) 0 (fun _=>false) r e (fun rec=>by have:=hend rec; rw [hx] at this; exact this) (fun rec n h=>by omega) (by omega)
  simpa using this
 | cons d q=>
  rw [← hx,← any_getD xs d]
  refine loop_range xs.length _ r e hend (fun rec n h=>?_) hm
  rw [hstep rec n h]
  simp [List.getD,h]
theorem loop_find {α ρ τ:Type} {F:(τ→Option ρ)→τ→Option ρ} {xs:List α} (mk:Int→τ) (p:α→Bool) (r:Nat→Option ρ) (e:Option ρ)
  (hend:∀ rec,F rec (mk xs.length)=e) (hstep:∀ rec n (h:n < xs.length),F rec (mk n)=bif p xs[n] then r n else rec (mk ((n + 1:Nat):Int))) (hm:xs.length≤4294967296) :
  loopF F NN (mk 0)=match xs.findIdx? p with | some i=>r i | none=>e:=by
 refine loop_list (xs:=xs) (a:=Unit) (σ:=τ) (F:=F) (fun i _=>mk i) (fun n _=>∀ i (h:i < xs.length),i < n→p xs[i]=false) (fun _ _=>match xs.findIdx? p with | some i=>r i | none=>e) (fun rec s hs=>?_) (fun rec n h s hs hr=>?_) NN () (fun i h hi=>by omega) (NN_len hm)
 ·have:xs.findIdx? p=none:=by
   rw [List.findIdx?_eq_none_iff]
   intro x hx
   obtain ⟨i,hi,e⟩:=List.getElem_of_mem hx
   rw [← e]; exact hs i hi hi
  rw [this]
  exact hend rec
 ·show F rec (mk n)=_
  rw [hstep rec n h]
  cases hp:p xs[n] with
  | true=>
   have:xs.findIdx? p=some n:=by
    rw [List.findIdx?_eq_some_iff_getElem]
    exact ⟨h,hp,fun j hj=>by rw [hs j (by omega) hj]; simp⟩
   rw [this,cond_true]
  | false=>
   rw [cond_false]
   refine hr () (fun i hi hin=>?_)
   by_cases e:i=n
   ·subst e; exact hp
   ·exact hs i hi (by omega)
def iterG {σ ρ:Type} (st:σ→ρ ⊕ σ):Nat→σ→Option ρ
 | 0,_=>none
 | n + 1,s=>match st s with | .inl r=>some r | .inr s'=>iterG st n s'
theorem pigeon:∀ (n:Nat) (L:List Int),(∀ i:Nat,1≤i→i≤n→(i:Int)∈L)→n≤L.length
 | 0,L,_=>Nat.zero_le _
 | n + 1,L,h=>by
  have hm:=h (n + 1) (by omega) (Nat.le_refl _)
  have:=pigeon n (L.erase ((n + 1:Nat):Int)) (fun i h1 h2=>(List.mem_erase_of_ne (by omega)).2 (h i h1 (by omega)))
  rw [List.length_erase_of_mem hm] at this
  have:0 < L.length:=List.length_pos_of_mem hm
  omega
theorem toN_nat (n:Nat):toN (n:Int)=n:=by rw [toN_def]; simp
theorem idxK_setL {α ρ:Type} {xs:List α} {n:Nat} (h:n < xs.length) (v:α) (k:α→Option ρ):idxK (setL xs n v) (n:Int) k=k v:=by
 rw [setL_def]
 exact idxK_get (by simp [h])
theorem setL_setL {α:Type} (xs:List α) (n:Nat) (v w:α):setL (setL xs n v) n w=setL xs n w:=by
 simp only [setL_def,List.set_set]
theorem cond_pair {α:Type} (c a b:Bool) (u:α):(bif c then (a,u) else (b,u))=(bif c then a else b,u):=by cases c <;> rfl
theorem iNe_eq (a b:Int):iNe a b = !iEq a b:=by rw [iNe_def,iEq_def]; rfl
theorem gt_le (a b:Int):iGt a b = !iLe a b:=by rw [iGt_def,iLe_def,Bool.eq_iff_iff]; simp
theorem lt_ge (a b:Int):iLt a b = !iGe a b:=by rw [iLt_def,iGe_def,Bool.eq_iff_iff]; simp
theorem len0 {α:Type} (xs:List α):iGt (lenI xs) 0 = !iEq (lenI xs) 0:=by
 rw [iGt_def,lenI_def,iEq_def]
 cases xs with
 | nil=>rfl
 | cons x r=>
  have h1:decide ((((x :: r).length:Nat):Int) > 0)=true:=by simp; try omega
  have h2:((((x :: r).length:Nat):Int) == 0)=false:=by simp; try omega
  rw [h1,h2]; rfl
noncomputable def inB (x lo hi:Int):Bool:=iGe x lo && iLe x hi
theorem in_ok (x lo hi:Int):(bindK (bif iGe x lo then some (iLe x hi) else some false) fun y0=>some (y0,()))=some (inB x lo hi,()):=by
 simp only [cond_and,bindK_pure,inB]
theorem inB_iff {x lo hi:Int}:inB x lo hi=true↔lo≤x∧x≤hi:=by
 simp only [inB,iGe_def,iLe_def,Bool.and_eq_true,decide_eq_true_eq,ge_iff_le]
noncomputable def geO:Option Int→Int→Bool
 | none,_=>false
 | some q,y=>iGe q y
noncomputable def riseP (P:Int→Bool):Option Int→List Int→Bool
 | _,[]=>true
 | p,y :: r=>(P y && !geO p y) && riseP P (some y) r
def prevO (xs:List Int):Nat→Option Int
 | 0=>none
 | n + 1=>xs[n]?
theorem prev_get {xs:List Int} {n:Nat} {ρ:Type} (hn:n < xs.length) (k:Bool→Option ρ) (hl:xs.length≤4294967296) :
  bindK (bif iGt (n:Int) 0 then idxK xs (iSub .i64 (n:Int) 1) fun y4=>idxK xs (n:Int) fun y5=>some (iGe y4 y5) else some false) k=k (geO (prevO xs n) xs[n]):=by
 cases n with
 | zero=>simp [iGt_def,bindK_pure,prevO,geO]
 | succ n=>
  have:iGt ((n + 1:Nat):Int) 0=true:=by rw [iGt_def]; simp <;> omega
  rw [this,cond_true,iSub64 (by omega)]
  have e:((n + 1:Nat):Int) - 1=(n:Int):=by omega
  rw [e,idxK_lt (by omega:n < xs.length),idxK_lt hn,bindK_pure]
  simp [prevO,geO,List.getElem?_eq_getElem (by omega:n < xs.length)]
theorem prev_get1 {xs:List Int} {n:Nat} {ρ:Type} (hn:n < xs.length) (k:Bool→Option ρ) (hl:xs.length≤4294967296) :
  bindK (bif iGt (n:Int) 0 then idxK xs (iSub .i64 (n:Int) 1) fun y4=>some (iGe y4 xs[n]) else some false) k=k (geO (prevO xs n) xs[n]):=by
 cases n with
 | zero=>simp [iGt_def,bindK_pure,prevO,geO]
 | succ n=>
  have:iGt ((n + 1:Nat):Int) 0=true:=by rw [iGt_def]; simp <;> omega
  rw [this,cond_true,iSub64 (by omega)]
  have e:((n + 1:Nat):Int) - 1=(n:Int):=by omega
  rw [e,idxK_lt (by omega:n < xs.length),bindK_pure]
  simp [prevO,geO,List.getElem?_eq_getElem (by omega:n < xs.length)]
theorem loop_rise {ρ:Type} {F:(Int×Unit→Option ρ)→Int×Unit→Option ρ} {xs:List Int} (P:Int→Bool) (r e:Option ρ)
  (hend:∀ rec,F rec ((xs.length:Int),())=e) (hstep:∀ rec n (h:n < xs.length),F rec ((n:Int),())=bif (!P xs[n] || geO (prevO xs n) xs[n]) then r else rec (((n + 1:Nat):Int),())) (hm:xs.length≤4294967296) :
  loopF F NN (0,())=bif riseP P none xs then e else r:=by
 refine loop_list (xs:=xs) (a:=Option Int) (σ:=Int×Unit) (F:=F) (fun i _=>(i,())) (fun n p=>p=prevO xs n) (fun p q=>bif riseP P p q then e else r) (fun rec s hs=>?_) (fun rec n h s hs hr=>?_) NN none rfl (NN_len hm)
 ·show F rec ((xs.length:Int),())=_
  rw [hend]; rfl
 ·subst hs
  show F rec ((n:Int),())=_
  rw [hstep rec n h,hr (some xs[n]) (by simp [prevO,List.getElem?_eq_getElem h])]
  simp only [riseP]
  cases P xs[n] <;> cases geO (prevO xs n) xs[n] <;> simp
theorem eqI_ok (xs ys:List Int) (hl:xs.length≤4294967296) :
  (bif iNe (lenI xs) (lenI ys) then some (false,()) else loopF (fun rec0 (s1:Int×Unit)=>bif iLt s1.1 (lenI xs) then idxK xs s1.1 fun y2=>idxK ys s1.1 fun y3=>bif iNe y2 y3 then some (false,()) else rec0 (iAdd .i64 s1.1 1,()) else some (true,())) NN (0,()))=some (xs == ys,()):=by
 by_cases h:xs.length=ys.length
 ·have:iNe (lenI xs) (lenI ys)=false:=by rw [iNe_def,lenI_def,lenI_def,h]; simp
  rw [this,cond_false]
  have e:some (xs == ys,())=bif ((List.range xs.length).any fun n=>xs[n]? != ys[n]?) then some (false,()) else some (true,()):=by
   have:(xs == ys) = !((List.range xs.length).any fun n=>xs[n]? != ys[n]?):=by
    rw [Bool.eq_iff_iff]
    simp only [beq_iff_eq,Bool.not_eq_true',List.any_eq_false,List.mem_range,bne_iff_ne,ne_eq,Decidable.not_not]
    constructor
    ·rintro rfl n _; rfl
    ·intro hh
     apply List.ext_getElem?
     intro n
     by_cases hn:n < xs.length
     ·exact hh n hn
     ·rw [List.getElem?_eq_none (by omega),List.getElem?_eq_none (by omega)]
   rw [this]
   cases List.any _ _ <;> rfl
  rw [e]
  refine loop_range xs.length _ _ _ (fun rec=>?_) (fun rec n hn=>?_) hl
  ·simp only [iLt_len,Nat.lt_irrefl,decide_false,cond_false]
  ·have hn':n < ys.length:=by omega
   simp only [iLt_len,hn,decide_true,cond_true,idxK_lt hn,idxK_lt hn',iAdd_nat (show n≤4294967296 by omega)]
   rw [List.getElem?_eq_getElem hn,List.getElem?_eq_getElem hn']
   have:(some xs[n] != some ys[n])=iNe xs[n] ys[n]:=by rw [iNe_def]; rfl
   rw [this]
 ·have:iNe (lenI xs) (lenI ys)=true:=by rw [iNe_def,lenI_def,lenI_def]; simp; omega
  rw [this,cond_true]
  have:(xs == ys)=false:=by
   rw [Bool.eq_false_iff]
   intro e
   exact h (by rw [eq_of_beq e])
  rw [this]
def mkAll {α:Type} (mk:Int→α→α) (c:Nat):Int→List α→List α
 | _,[]=>[]
 | k,y :: r=>mk k y :: mkAll mk c (k + c) r
theorem mkAll_length {α:Type} {mk:Int→α→α} {c:Nat}:∀ {k:Int} {xs:List α},(mkAll mk c k xs).length=xs.length
 | _,[]=>rfl
 | _,y :: r=>by simp [mkAll,mkAll_length (xs:=r)]
theorem mkAll_get {α:Type} {mk:Int→α→α} {c:Nat}:∀ {k:Int} {xs:List α} {n:Nat} (h:n < xs.length),(mkAll mk c k xs)[n]? = some (mk (k + c * n) xs[n])
 | _,[],n,h=>by simp at h
 | k,y :: r,0,h=>by simp [mkAll]
 | k,y :: r,n + 1,h=>by
  simp only [mkAll,List.getElem?_cons_succ,List.getElem_cons_succ]
  rw [mkAll_get (k:=k + c) (xs:=r) (n:=n) (by simpa using h)]
  congr 2
  rw [Int.natCast_add,Int.mul_add]
  simp only [Int.natCast_one,Int.mul_one]
  omega
theorem mark_ok {α:Type} {F:(Int×Int×List α×Unit→Option (Int×List α×Unit))→Int×Int×List α×Unit→Option (Int×List α×Unit)} (mk:Int→α→α) (c:Nat) {xs:List α} {k0:Int} (hk0:0≤k0)
  (hend:∀ rec k ys,ys.length=xs.length→F rec ((xs.length:Int),k,ys,())=some (k,ys,()))
  (hstep:∀ rec n k (ys:List α) (hy:ys.length=xs.length) (h:n < ys.length),0≤k→k≤k0 + c * xs.length→F rec ((n:Int),k,ys,())=rec (((n + 1:Nat):Int),k + c,ys.set n (mk k ys[n]),())) (hm:xs.length≤4294967296) :
  loopF F NN (0,k0,xs,())=some (k0 + c * xs.length,mkAll mk c k0 xs,()):=by
 have:=loop_list (xs:=xs) (a:=Int×List α×Unit) (σ:=Int×Int×List α×Unit) (F:=F) (fun i s=>(i,s))
  (fun n s=>s.1=k0 + c * n∧s.2.1.length=xs.length∧s.2.1.take n=(mkAll mk c k0 xs).take n∧s.2.1.drop n=xs.drop n)
  (fun s r=>some (k0 + c * xs.length,mkAll mk c k0 xs,())) (fun rec s hs=>?_) (fun rec n h s hs hr=>?_) NN (k0,xs,()) ⟨by simp,rfl,by simp,by simp⟩ (NN_len hm)
 ·exact this
 ·obtain ⟨k,ys,u⟩:=s
  obtain ⟨h1,h2,h3,_⟩:=hs
  simp only at h1 h2 h3
  show F rec ((xs.length:Int),k,ys,())=_
  rw [hend rec k ys h2,h1]
  have:ys=mkAll mk c k0 xs:=by
   rw [← h2,List.take_length] at h3
   rw [h3,h2,List.take_of_length_le (by rw [mkAll_length]; exact Nat.le_refl _)]
  rw [this]
 ·obtain ⟨k,ys,u⟩:=s
  obtain ⟨h1,h2,h3,h4⟩:=hs
  simp only at h1 h2 h3 h4
  have hyn:ys[n]? = some xs[n]:=by
   have:=congrArg (fun l:List α=>l[0]?) h4
   simp only [List.getElem?_drop,Nat.add_zero] at this
   rw [this,List.getElem?_eq_getElem h]
  have hlt:n < ys.length:=by omega
  have hye:ys[n]=xs[n]:=by rw [List.getElem?_eq_getElem hlt] at hyn; exact Option.some.inj hyn
  have hkb:k≤k0 + c * xs.length:=by
   rw [h1]
   have:(c:Int) * n≤c * xs.length:=Int.mul_le_mul_of_nonneg_left (by omega) (by omega)
   omega
  have hkn:0≤k:=by
   rw [h1]
   have:(0:Int)≤c * n:=Int.mul_nonneg (by omega) (by omega)
   omega
  show F rec ((n:Int),k,ys,())=_
  rw [hstep rec n k ys h2 hlt hkn hkb]
  refine hr (k + c,ys.set n (mk k ys[n]),()) ⟨?_,by simp [h2],?_,?_⟩
  ·show k + c=k0 + c * ((n + 1:Nat):Int)
   rw [h1,Int.natCast_add,Int.mul_add]; simp; omega
  ·show (ys.set n (mk k ys[n])).take (n + 1)=_
   apply List.ext_getElem?
   intro i
   by_cases hi:i < n
   ·have e:(ys.take n)[i]? = ((mkAll mk c k0 xs).take n)[i]?:=by rw [h3]
    simp only [List.getElem?_take,hi,if_true] at e
    simp only [List.getElem?_take,List.getElem?_set]
    rw [if_pos (by omega),if_neg (by omega),if_pos (by omega)]
    exact e
   ·by_cases hin:i=n
    ·subst hin
     simp only [List.getElem?_take,List.getElem?_set]
     rw [if_pos (by omega),if_pos trivial,if_pos (by omega),if_pos (by omega),mkAll_get h,hye,h1]
    ·simp only [List.getElem?_take]
     rw [if_neg (by omega),if_neg (by omega)]
  ·show (ys.set n (mk k ys[n])).drop (n + 1)=xs.drop (n + 1)
   have:xs.drop (n + 1)=(xs.drop n).drop 1:=by rw [List.drop_drop]
   rw [this,← h4,List.drop_drop]
   apply List.ext_getElem?
   intro i
   simp only [List.getElem?_drop,List.getElem?_set]
   rw [if_neg (by omega)]
theorem held_ok {α:Type} {F:(Int×Int×Unit→Option (Int×Unit))→Int×Int×Unit→Option (Int×Unit)} (mk:Int→α→α) (c:Nat) {xs:List α} {k0:Int} (hk0:0≤k0)
  (hend:∀ rec k,F rec (((mkAll mk c k0 xs).length:Int),k,())=some (k,()))
  (hstep:∀ rec n k (h:n < (mkAll mk c k0 xs).length) (y:α),(mkAll mk c k0 xs)[n]=mk k y→0≤k→k≤k0 + c * xs.length→F rec ((n:Int),k,())=rec (((n + 1:Nat):Int),k + c,())) (hm:xs.length≤4294967296) :
  loopF F NN (0,k0,())=some (k0 + c * xs.length,()):=by
 have hl:(mkAll mk c k0 xs).length=xs.length:=mkAll_length
 have:=loop_list (xs:=mkAll mk c k0 xs) (a:=Int×Unit) (σ:=Int×Int×Unit) (F:=F) (fun i s=>(i,s)) (fun n s=>s.1=k0 + c * n)
  (fun s r=>some (k0 + c * xs.length,())) (fun rec s hs=>?_) (fun rec n h s hs hr=>?_) NN (k0,()) (by simp) (NN_len (by omega))
 ·exact this
 ·obtain ⟨k,u⟩:=s
  simp only at hs
  show F rec (((mkAll mk c k0 xs).length:Int),k,())=_
  rw [hend,hs,hl]
 ·obtain ⟨k,u⟩:=s
  simp only at hs
  have h':n < xs.length:=by omega
  have hg:=mkAll_get (mk:=mk) (c:=c) (k:=k0) h'
  rw [List.getElem?_eq_getElem h] at hg
  have hg:=Option.some.inj hg
  have hkb:k≤k0 + c * xs.length:=by
   rw [hs]
   have:(c:Int) * n≤c * xs.length:=Int.mul_le_mul_of_nonneg_left (by omega) (by omega)
   omega
  have hkn:0≤k:=by
   rw [hs]
   have:(0:Int)≤c * n:=Int.mul_nonneg (by omega) (by omega)
   omega
  show F rec ((n:Int),k,())=_
  rw [hstep rec n k h xs[n] (by rw [hg,hs]) hkn hkb]
  refine hr (k + c,()) ?_
  show k + c=k0 + c * ((n + 1:Nat):Int)
  rw [hs,Int.natCast_add,Int.mul_add]; simp; omega
theorem iQuo64 {a b:Int} (h0:0≤a) (h1:a≤9223372036854775807) (hb:0 < b):iQuo .i64 a b=a.tdiv b:=by
 rw [iQuo_def,Go.IntWalk.i64_in]
 rw [Int.tdiv_eq_ediv_of_nonneg h0]
 have h2:=Int.ediv_le_self b h0
 have h3:=Int.ediv_nonneg h0 (Int.le_of_lt hb)
 omega
theorem text_ok {F:(Int×List UInt8×Unit→Option (List UInt8×Unit))→Int×List UInt8×Unit→Option (List UInt8×Unit)}
  (hF:∀ rec (n:Int) (s:List UInt8),0≤n→n≤9223372036854775807→s.length≤100→∃ b:UInt8,F rec (n,s,())=bif decide (n > 0) then rec (n.tdiv 10,b :: s,()) else some (litS [109]++s,())) {n:Int} (h0:0≤n) (h1:n≤9223372036854775807) :
  ∃ r,loopF F NN (n,litS [],())=some (r,()):=by
 have key:∀ (j:Nat) (N:Nat) (n:Int) (s:List UInt8),0≤n→n≤9223372036854775807→n < 10 ^ j→s.length + j≤100→j < N→∃ r,loopF F N (n,s,())=some (r,()):=by
  intro j
  induction j with
  | zero=>
   intro N n s hn hb hj hs hN
   have:n=0:=by simp at hj; omega
   subst this
   cases N with
   | zero=>omega
   | succ N=>
    rw [loopF_succ]
    obtain ⟨b,hb2⟩:=hF (loopF F N) 0 s (by omega) (by omega) (by omega)
    rw [hb2]
    exact ⟨_,rfl⟩
  | succ j ih=>
   intro N n s hn hb hj hs hN
   cases N with
   | zero=>omega
   | succ N=>
    rw [loopF_succ]
    obtain ⟨b,hb2⟩:=hF (loopF F N) n s hn hb (by omega)
    rw [hb2]
    by_cases hp:n > 0
    ·rw [decide_eq_true hp,cond_true]
     refine ih N (n.tdiv 10) (b :: s) ?_ ?_ ?_ (by simp; omega) (by omega)
     ·exact Int.tdiv_nonneg hn (by omega)
     ·rw [Int.tdiv_eq_ediv_of_nonneg hn]; omega
     ·rw [Int.tdiv_eq_ediv_of_nonneg hn]
      have:(10:Int) ^ (j + 1)=10 ^ j * 10:=by rw [Int.pow_succ]
      omega
    ·rw [decide_eq_false hp,cond_false]; exact ⟨_,rfl⟩
 refine key 40 NN n _ h0 h1 (Int.lt_of_le_of_lt h1 (by decide)) (by rw [litS_def]; simp) (by unfold NN; omega)
theorem bulk_len {e:Kd}:∀ (xs:List e.den),(∀ y∈xs,1≤e.bulk y)→xs.length≤(xs.map e.bulk).sum
 | [],_=>by simp
 | x :: r,h=>by
  have:=bulk_len r fun y hy=>h y (List.mem_cons_of_mem _ hy)
  have:=h x (List.mem_cons_self ..)
  simp only [List.length_cons,List.map_cons,List.sum_cons]; omega
theorem bulk_mem {e:Kd}:∀ (xs:List e.den) (y:e.den),y∈xs→e.bulk y≤(xs.map e.bulk).sum
 | x :: r,y,h=>by
  simp only [List.map_cons,List.sum_cons]
  rcases List.mem_cons.1 h with rfl | h
  ·omega
  ·have:=bulk_mem r y h; omega
theorem bulk_mul {e:Kd} {c:Nat}:∀ (xs:List e.den),(∀ y∈xs,c≤e.bulk y)→xs.length * c≤(xs.map e.bulk).sum
 | [],_=>by simp
 | x :: r,h=>by
  have:=bulk_mul r fun y hy=>h y (List.mem_cons_of_mem _ hy)
  have:=h x (List.mem_cons_self ..)
  simp only [List.length_cons,List.map_cons,List.sum_cons,Nat.add_mul,Nat.one_mul]; omega
end Go.Am
