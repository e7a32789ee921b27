/- The machine on typed data against the small machine: 'append' and what is stored. -/
import Derived.Test.YtlnehfgjfmamjaaGreatDoorG4
set_option linter.unusedSimpArgs false
set_option linter.unusedVariables false
namespace Go.Am
theorem RepL.set {α:Type} {R:α→AV→List Id→Prop}:∀ {xs:List α} {vs:List AV} {L:List Id} {i:Nat} {x y:α} {v w:AV},RepL R xs vs L→xs[i]? = some x→vs[i]? = some v→(∀ Li,R x v Li→R y w Li)→RepL R (xs.set i y) (vs.set i w) L
 | [],_,_,i,x,_,_,_,_,h,_,_=>by simp at h
 | _ :: _,[],_,_,_,_,_,_,h,_,_,_=>h.elim
 | a :: xs,b :: vs,L,i,x,y,v,w,⟨L1,L2,h1,h2,e⟩,hx,hv,hr=>by
  subst e
  cases i with
  | zero=>
   simp at hx hv
   subst hx; subst hv
   exact ⟨L1,L2,hr L1 h1,h2,rfl⟩
  | succ i=>exact ⟨L1,L2,h1,RepL.set h2 (by simpa using hx) (by simpa using hv) hr,rfl⟩
theorem set_window (es:List AV) (off len i:Nat) (w:AV) (h:i < len):((es.set (off + i) w).drop off).take len=((es.drop off).take len).set i w:=by
 rw [List.drop_set,if_neg (by omega),show off + i - off=i from by omega,List.take_set]
section
variable {X:Vw}
theorem leafs_cell {own:Bool} {H:Heap} {p:Bool}:∀ (fs:List Kd) (x:Kd.dens fs) (vs:List AV) (L:List Id),Reps own H fs x vs L→(leafsP p fs x).all cellLeaf=true
 | [],x,[],L,h=>rfl
 | [],x,_ :: _,L,h=>h.elim
 | t :: r,x,[],L,h=>h.elim
 | t :: r,x,v :: vs,L,⟨h0,L1,L2,h1,h2,e⟩=>by simp [leafsP,cellLeaf,h0,leafs_cell (p:=p) r x.2 vs L2 h2]
theorem cells_ok {v:PV} {a:AV} (h:cellOK v=true) (hr:VR X v a):v.cells.all cellLeaf=true∧v.cells≠[]:=by
 cases v with
 | agg cs=>
  simp only [cellOK,Bool.and_eq_true] at h
  exact ⟨h.1,by intro e; have e:cs=[]:=e; subst e; simp at h⟩
 | d p t x=>
  obtain ⟨Li,h1,_⟩:=hr
  cases t with
  | st fs=>
   refine ⟨leafs_cell fs x a.cells Li h1.2,?_⟩
   cases fs with
   | nil=>simp [cellOK] at h
   | cons=>simp [PV.cells,leafsP]
  | _=>exact ⟨rfl,by simp [PV.cells]⟩
 | nils=>exact ⟨rfl,by simp [PV.cells]⟩
 | own b=>exact ⟨rfl,by simp [PV.cells]⟩
 | cp b off=>exact ⟨rfl,by simp [PV.cells]⟩
 | np=>exact ⟨rfl,by simp [PV.cells]⟩
 | _=>simp [cellOK,cellLeaf] at h
theorem storeP_rel {n off:Nat} {u v u':PV} {w x:AV} (hu:VR X u w) (hv:VR X v x) (ou:cellOK u=true) (ov:cellOK v=true) (h:opP.storeP n off u v=some u') :
  ∃ w',(if off=0∧n=w.cells.length∧x.isAgg=w.isAgg then some x else match putCells w.cells off x.cells with | some cs=>reEl w cs | none=>none)=some w'∧VR X u' w'∧cellOK u'=true∧x.cells.length=n∧w'.cells.length=w.cells.length∧w'.isAgg=w.isAgg:=by
 obtain ⟨cu1,cu2⟩:=cells_rel u w (known_ok ou) hu
 obtain ⟨cv1,cv2⟩:=cells_rel v x (known_ok ov) hv
 have lu:=cu1.len
 have lv:=cv1.len
 unfold opP.storeP at h
 split at h
 ·rename_i hc
  have hxn:x.cells.length=n:=by omega
  split at h
  ·rename_i hag
   have hw:w.isAgg=true:=by rw [← cu2]; exact hag
   split at h
   ·rename_i hw2
    cases h
    have hx:x.isAgg=true:=by rw [← cv2]; exact hw2.2.2
    exact ⟨x,by rw [if_pos ⟨hw2.1,by omega,by rw [hx,hw]⟩],hv,ov,hxn,by omega,by rw [hx,hw]⟩
   ·rename_i hw2
    cases h
    refine ⟨.agg (w.cells.take off++x.cells++w.cells.drop (off + x.cells.length)),?_,⟨rfl,?_⟩,?_,hxn,?_,by rw [hw]; rfl⟩
    ·rw [if_neg]
     ·unfold putCells
      rw [if_pos (by omega)]
      simp only [reEl,hw,if_true]
     ·rintro ⟨q1,q2,q3⟩
      exact hw2 ⟨q1,by omega,by rw [cv2,q3,hw]⟩
    ·show VRs X _ (w.cells.take off++x.cells++w.cells.drop (off + x.cells.length))
     rw [hxn]
     exact ((cu1.take off).app cv1).app (cu1.drop (off + n))
    ·obtain ⟨a1,a2⟩:=cells_ok ou hu
     obtain ⟨b1,b2⟩:=cells_ok ov hv
     simp only [cellOK,Bool.and_eq_true,List.all_append,Bool.not_eq_true']
     rw [List.all_eq_true] at a1
     refine ⟨⟨⟨?_,b1⟩,?_⟩,?_⟩
     ·rw [List.all_eq_true]; exact fun q hq=>a1 q (List.mem_of_mem_take hq)
     ·rw [List.all_eq_true]; exact fun q hq=>a1 q (List.mem_of_mem_drop hq)
     ·cases hv':v.cells with
      | nil=>exact (b2 hv').elim
      | cons=>simp
    ·show (w.cells.take off++x.cells++w.cells.drop (off + x.cells.length)).length=_
     simp only [List.length_append,List.length_take,List.length_drop]; omega
  ·rename_i hag
   split at h
   ·rename_i hw2
    cases h
    have hx:x.isAgg=false:=by rw [← cv2]; exact hw2.2
    have hw:w.isAgg=false:=by rw [← cu2]; exact hag
    have nag:∀ (p:PV),p.isAgg=false→p.cells=[p]:=by
     intro p hp
     cases p with
     | d q t y=>cases t with
      | st=>cases hp
      | _=>rfl
     | agg=>cases hp
     | _=>rfl
    have e1:=nag u hag
    have e2:=nag v hw2.2
    rw [e1] at lu
    rw [e2] at lv
    simp at lu lv
    exact ⟨x,by rw [if_pos ⟨hw2.1,by omega,by rw [hx,hw]⟩],hv,ov,hxn,by omega,by rw [hx,hw]⟩
   ·cases h
 ·cases h
end
theorem storeC_rel {X:Vw} {n off:Nat} {u v u':PV} {w x:AV} (hu:VR X u w) (hv:VR X v x) (ou:cellOK u=true) (ov:cellOK v=true) (h:opP.storeC n off u v=some u') :
  ∃ w',(if off=0∧n=w.cells.length∧x.isAgg=w.isAgg then some x else match putCells w.cells off x.cells with | some cs=>reEl w cs | none=>none)=some w'∧VR X u' w'∧cellOK u'=true∧x.cells.length=n∧w'.cells.length=w.cells.length∧w'.isAgg=w.isAgg:=by
 unfold opP.storeC at h
 split at h
 ·rename_i p fs y hs
  cases h
  obtain ⟨w',q1,q2,q3,q4⟩:=storeP_rel hu hv ou ov hs
  obtain ⟨c1,c2⟩:=cells_rel _ w' (known_ok q3) q2
  obtain ⟨k1,k2⟩:=cells_ok q3 q2
  refine ⟨w',q1,⟨c2.symm,c1⟩,?_,q4⟩
  simp only [cellOK,Bool.and_eq_true]
  refine ⟨k1,?_⟩
  cases hc:leafsP p fs y with
  | nil=>exact (k2 hc).elim
  | cons=>rfl
 ·exact storeP_rel hu hv ou ov h
section
variable {T:Tab} {Rn:Run} {d:Nat} {anV:List AV} {P0:Id→Prop} {H0:Heap} {ps:PS} {μ:Nat→AV} {L:Nat→List Id} {E:AEnv} {H:Heap} {nx:Nat} {dst:Option Nat} {hn:Hints} {pm:List Nat} {ρ:Type} {r:ρ} {k:PV→PS→Option ρ}
variable (R:Rel d anV P0 H0 ps μ L E H nx)
include R
theorem hp0_top {o:Id} {c:Nat} {ob:PObj} (hc:hget ps.heap c=some ob) (hro:roOf ob=false) (hL:o∈L c) {b:Obj}:∀ i,P0 i→hupd H o b i=H i:=by
 intro i hi
 refine hupd_ne H b ?_
 rintro rfl
 exact R.p1 c ob hc hro i hL hi
theorem fresh_top {o:Id} {c:Nat} {ob:PObj} (hc:hget ps.heap c=some ob) (hL:o∈L c) {b:Obj}:∀ q,nx≤q→hupd H o b (.dy q)=none:=by
 intro q hq
 rw [hupd_ne H b]
 ·exact R.fresh q hq
 ·rintro rfl
  have:q < nx:=R.age c ob hc _ hL
  omega
theorem not_other {c a:Nat} {ob:PObj} (hla:live ps.heap a) (hne:a≠c) (hc:hget ps.heap c=some ob) {o:Id} (ho:o∈L c):∀ i∈L a,i≠o:=by
 rintro i hi rfl
 exact R.dis a c hne hla (live_iff.2 ⟨ob,hc⟩) i hi ho
omit R in
theorem Grow.headL {X Y:Vw} {tm:Option Nat} (g:Grow X Y tm) {L':Nat→List Id} (h:∀ a,(L' a).head? = (Y.L a).head?):Grow X { Y with L:=L' } tm:=by
 have ht:∀ i,({ Y with L:=L' }:Vw).top i→Y.top i:=by
  rintro i ⟨a,ha,htop⟩
  refine ⟨a,ha,?_⟩
  rw [← h a]; exact htop
 exact ⟨g.d,g.len,g.mu,g.ob,fun i hi=>⟨(g.imm i hi).1,fun q=>(g.imm i hi).2.1 (ht i q),(g.imm i hi).2.2⟩,fun t o h1 h2=>⟨(g.ki t o h1 h2).1,(g.ki t o h1 h2).2.1,fun q=>(g.ki t o h1 h2).2.2 (ht o q)⟩⟩
omit R in
theorem RepL.put {α:Type} {Q:α→AV→List Id→Prop} {y:α} {w:AV} {Ly:List Id} (hy:Q y w Ly):∀ {xs:List α} {vs:List AV} {L:List Id} {i:Nat},RepL Q xs vs L→i < xs.length→∃ A Lo B,L=A++(Lo++B)∧RepL Q (xs.set i y) (vs.set i w) (A++(Ly++B))
 | [],_,_,i,_,h=>by simp at h
 | _ :: _,[],_,_,h,_=>h.elim
 | a :: xs,b :: vs,L,0,⟨L1,L2,h1,h2,e⟩,_=>⟨[],L1,L2,e,⟨Ly,L2,hy,h2,rfl⟩⟩
 | a :: xs,b :: vs,L,i + 1,⟨L1,L2,h1,h2,e⟩,h=>by
  obtain ⟨A,Lo,B,e2,h3⟩:=RepL.put hy h2 (by simpa using h)
  subst e2
  exact ⟨L1++A,Lo,B,by rw [e,List.append_assoc],⟨L1,A++(Ly++B),h1,h3,by rw [List.append_assoc]⟩⟩
omit R in
theorem mem_win {es:List AV} {off len:Nat} {z:AV} (h:z∈es):z∈(es.drop off).take len∨z∈outW es off len:=by
 have e:es=es.take off++((es.drop off).take len++es.drop (off + len)):=by
  rw [← List.drop_drop,List.take_append_drop,List.take_append_drop]
 rw [e] at h
 unfold outW
 simp only [List.mem_append] at h ⊢
 rcases h with h | h | h
 ·exact .inr (.inl h)
 ·exact .inl h
 ·exact .inr (.inr h)
omit R in
theorem putP_rel {hp:List (Option PObj)} {X:Vw} (hX:X.hp=hp) (hob:Obs X) {e:Kd} {dp:Bool} {v:PV} {a:AV} {y:e.den} {ns:List Nat} (h:VR X v a) (hx:putP hp e dp v=some (y,ns)) :
  ∃ Ly,Rep dp X.H e y a Ly∧OwnN X ns∧nodupB ns=true∧(dp=true→Ly=idsN X.L ns)∧(dp=false→ns=[]∧∀ i∈Ly,X.Imm i):=by
 subst hX
 cases dp with
 | true=>
  simp only [putP] at hx
  split at hx
  ·rename_i y' ns' hy
   split at hx
   ·rename_i hn
    cases hx
    obtain ⟨q1,q2⟩:=asOwn_rel hob h hy
    exact ⟨_,q1,q2,hn,fun _=>rfl,fun h=>by cases h⟩
   ·cases hx
  ·cases hx
 | false=>
  simp only [putP] at hx
  split at hx
  ·rename_i y' hy hn
   cases hx
   obtain ⟨Li,q1,q2⟩:=asD_rel hob h hy
   refine ⟨Li,q1,(fun a ha=>by cases ha),rfl,(fun h=>by cases h),fun _=>⟨rfl,fun i hi=>?_⟩⟩
   rcases q2 i hi with ⟨b,hb,_⟩ | q
   ·rw [hn] at hb; cases hb
   ·exact q
  ·cases hx
omit R in
theorem setLs_rel {X:Vw} {own:Bool} {H:Heap} {v:PV} {a:AV} (hv:VR X v a):∀ (fs:List Kd) (x y:Kd.dens fs) (vs:List AV) (L:List Id) (n:Nat),Reps own H fs x vs L→setLs fs x n v=some y →
  Reps own H fs y (vs.set n a) L∧n < vs.length∧a.isAgg=false∧a.cells=[a]∧∀ X:Id→Prop,fineV X a
 | [],x,y,vs,L,n,_,h=>by simp [setLs] at h
 | t :: r,x,y,[],L,n,h,_=>h.elim
 | t :: r,x,y,w :: vs,L,0,⟨h0,L1,L2,h1,h2,e⟩,h=>by
  cases v with
  | d p t' z=>
   simp only [setLs] at h
   split at h
   ·rename_i q z' hfl hz
    cases h
    obtain ⟨rfl,rfl⟩:=castK_eq hz
    simp only [Bool.or_eq_false_iff,Bool.not_eq_false'] at hfl
    obtain ⟨Li,k1,_⟩:=hv
    obtain ⟨k2,k3⟩:=Rep.leaf (own':=own) (H':=H) hfl.1 hfl.2 k1
    subst k3
    obtain ⟨_,k4⟩:=Rep.leaf (own':=own) (H':=H) hfl.1 hfl.2 h1
    subst k4
    refine ⟨⟨h0,[],L2,k2,h2,e⟩,by simp,by rw [k2.stor.2.2]; exact hfl.1,?_,fun Z=>?_⟩
    ·cases t' with
     | st=>simp [Kd.isS] at hfl
     | sl=>simp [Kd.flat] at hfl
     | _=>obtain ⟨rfl,_⟩:=k2; rfl
    ·cases t' with
     | st=>simp [Kd.isS] at hfl
     | sl=>simp [Kd.flat] at hfl
     | _=>obtain ⟨rfl,_⟩:=k2; rfl
   ·cases h
  | _=>simp [setLs] at h
 | t :: r,x,y,w :: vs,L,n + 1,⟨h0,L1,L2,h1,h2,e⟩,h=>by
  have h:(match setLs r x.2 n v with | some y=>some ((x.1,y):Kd.dens (t :: r)) | none=>none)=some y:=by
   cases v <;> exact h
  split at h
  ·rename_i y' hy
   cases h
   obtain ⟨k1,k2,k3⟩:=setLs_rel hv r x.2 y' vs L2 n h2 hy
   exact ⟨⟨h0,L1,L2,h1,k1,e⟩,by simp; omega,k3⟩
  ·cases h
omit R in
theorem setF_st {v:PV} {off:Nat}:∀ {e:Kd} {x y:e.den},setF e x off v=some y→∃ fs,e = .st fs
 | .st fs,_,_,_=>⟨fs,rfl⟩
 | .int k,x,y,h=>by have h:(none:Option Int)=some y:=h; cases h
 | .bool,x,y,h=>by have h:(none:Option Bool)=some y:=h; cases h
 | .str,x,y,h=>by have h:(none:Option (List UInt8))=some y:=h; cases h
 | .sl sz e,x,y,h=>by have h:(none:Option (List e.den))=some y:=h; cases h
theorem ok_storeS {c ver i off:Nat} {fs:List Kd} {x' y:(Kd.st fs).den} {tmp:Option Nat} {sz:Nat} {dp:Bool} {xs:List (Kd.den (.st fs))} {a x:Opd} {o:Id} {g m off0 len0:Nat} {b:Obj} {w:AV} {L':List Id} (hok:cellOK (pev ps x)=true)
  (hc:hget ps.heap c=some (.sl false ver tmp sz (.st fs) dp xs)) (hy:setLs fs x' off (pev ps x)=some y) (h:k .undef { ps with heap:=hset ps.heap c (some (.sl false (ver + 1) tmp sz (.st fs) dp (setL xs i y))) }=some r)
  (h3:ev E a = .ptr o g m (off0 + i) off) (hmu:μ c = .ref o g m off0 len0) (e2:H o=some b) (e3:b.gen=g) (e4:b.es.length=m) (e5:b.sz=(Kd.st fs).cn) (ew:false=false→b.w=true) (e6:b.es[off0 + i]? = some w)
  (ebd:off0 + len0≤m) (eil:i < len0) (z2:xs[i]? = some x') (s0:sz=(Kd.st fs).cn) (s1:0 < sz) {L1:List Id} (wag:w.isAgg=true) (wr:Reps dp H fs x' w.cells L1)
  (t8:RepL (Rep dp H (.st fs)) xs ((b.es.drop off0).take len0) L') (t9:∀ x∈b.es,stor x=true∧x.cells.length=sz∧(dp=true→fineV (· ∈ L') x)) (t10:L c=o :: (if dp=true then L' else [])) (t11:(dp=false→∀ i∈L',(⟨d,ps.heap,μ,L,H,nx⟩:Vw).Imm i)∧(dp=true→∀ x∈outW b.es off0 len0,fineV (fun _=>False) x)) :
  OpOK T Rn d anV P0 H0 none E ps μ L H nx k r (.store 1 a x):=by
 have h2:=R.pev x
 have hl:live ps.heap c:=live_iff.2 ⟨_,hc⟩
 have hst:=(cellOK_stor hok h2).1
 have hL:o∈L c:=by rw [t10]; simp
 have hhead:(L c).head? = some o:=by rw [t10]; rfl
 have htop:(⟨d,ps.heap,μ,L,H,nx⟩:Vw).top o:=⟨c,hl,hhead⟩
 obtain ⟨j1,j2,j3,j4,j5⟩:=setLs_rel h2 fs x' y w.cells L1 off wr hy
 have hput:putCells w.cells off (ev E x).cells=some (w.cells.set off (ev E x)):=by
  unfold putCells
  rw [j4,if_pos (by show off + 1≤_; omega)]
  rw [List.set_eq_take_append_cons_drop,if_pos j2]
  simp
 let w':AV:=.agg (w.cells.set off (ev E x))
 have hw':∀ (own:Bool) (HH:Heap) (Li:List Id),Rep own HH (.st fs) x' w Li→Rep own HH (.st fs) y w' Li:=fun own HH Li hr=>⟨rfl,(setLs_rel h2 fs x' y w.cells Li off hr.2 hy).1⟩
 have hop:operV T Rn (8 * d) none E H nx (.store 1 a x)=some (.undef,hupd H o { b with es:=b.es.set (off0 + i) w' },nx):=by
  have:storeV H 1 (ev E x) (.ptr o g m (off0 + i) off)=some (hupd H o { b with es:=b.es.set (off0 + i) w' }):=by
   simp only [storeV,e2]
   rw [if_pos ⟨e3,e4,ew rfl,by rw [j4]; rfl,hst⟩,e6]
   simp only
   rw [if_neg (fun q=>by rw [j3,wag] at q; cases q.2.2),hput]
   simp only [reEl,wag,if_true]
   rfl
  simp only [operV,h3,this]
 have ho':∀ b' ob,hget (hset ps.heap c (some (.sl false (ver + 1) tmp sz (.st fs) dp (setL xs i y)))) b'=some ob→(b'=c∧ob = .sl false (ver + 1) tmp sz (.st fs) dp (setL xs i y))∨(b'≠c∧hget ps.heap b'=some ob):=by
  intro b' ob hb
  rw [hget_hset] at hb
  split at hb
  ·rename_i hh
   cases hb
   exact .inl ⟨hh.1,rfl⟩
  ·rename_i hne
   exact .inr ⟨fun e=>hne ⟨e,hget_lt hc⟩,hb⟩
 have gr:=R.chg (tm:=none) (env':=ps.env) (hp':=hset ps.heap c (some (.sl false (ver + 1) tmp sz (.st fs) dp (setL xs i y)))) (H':=hupd H o { b with es:=b.es.set (off0 + i) w' }) (fun i=>i=o) hset_length (fun i hi=>.inl (by rw [hi]; exact htop)) (fun i hi=>hupd_ne H _ hi)
  (fun b' ob hb=>by
   rcases ho' b' ob hb with ⟨rfl,rfl⟩ | ⟨_,z⟩
   ·exact ⟨_,hc,.inl (Nat.lt_succ_self _),fun t' h'=>by cases h'⟩
   ·exact ⟨ob,z,laterO.refl _,fun t' h'=>by cases h'⟩)
 refine ⟨_,_,_,μ,L,_,nx,h,hop,?_,fun h=>(h rfl).elim,by show _≤(hset ps.heap c _).length; rw [hset_length]; exact Nat.le_refl _,fun _ _=>⟨rfl,fun _=>rfl⟩,Nat.le_refl _,rfl,EW.refl _,LB.set (fun _=>live_iff.2 ⟨_,hc⟩)⟩
 refine Rel.next R (tm:=none) (Ch:=fun a=>a=c) gr (fun u=>.inr ⟨rfl,fun t' h'=>by cases h'⟩) ?_ ?_ (Nat.le_refl _) (fresh_top R hc hL) (hp0_top R hc rfl hL)
 ·intro b' ob hb hne
  rcases ho' b' ob hb with ⟨z,_⟩ | ⟨z2,z1⟩
  ·exact (hne z).elim
  ·exact ⟨z1,rfl,fun i hi=>hupd_ne H _ (not_other R (live_iff.2 ⟨_,z1⟩) z2 hc hL i hi)⟩
 ·rintro b' ob hb rfl
  rcases ho' b' ob hb with ⟨_,rfl⟩ | ⟨z,_⟩
  ·have hnoL:∀ j∈L',j≠o:=by
    rintro j hj rfl
    cases dp with
    | true=>
     have:=R.nd b' hl
     have hh:L b'=j :: L':=by have:=t10; simpa using this
     rw [hh] at this
     exact (List.nodup_cons.1 this).1 hj
    | false=>exact (t11.1 rfl j hj).1 htop
   have hrep:RepL (Rep dp (hupd H o { b with es:=b.es.set (off0 + i) w' }) (.st fs)) (setL xs i y) (((b.es.set (off0 + i) w').drop off0).take len0) L':=by
    rw [set_window _ _ _ _ _ eil,setL_def]
    have t8':RepL (Rep dp (hupd H o { b with es:=b.es.set (off0 + i) w' }) (.st fs)) xs ((b.es.drop off0).take len0) L':=RepL.frame (fun j hj=>hupd_ne H _ (hnoL j hj)) t8
    refine RepL.set (x:=x') (v:=w) t8' z2 ?_ (hw' _ _)
    rw [List.getElem?_take_of_lt eil,List.getElem?_drop]; exact e6
   have hrepH:RepL (Rep dp H (.st fs)) (setL xs i y) (((b.es.set (off0 + i) w').drop off0).take len0) L':=by
    rw [set_window _ _ _ _ _ eil,setL_def]
    refine RepL.set (x:=x') (v:=w) t8 z2 ?_ (hw' _ _)
    rw [List.getElem?_take_of_lt eil,List.getElem?_drop]; exact e6
   refine ⟨⟨s0,s1,.inr ⟨o,g,m,off0,len0,{ b with es:=b.es.set (off0 + i) w' },L',hmu,hupd_same _ _ _,e3,by simpa using e4,ebd,by rw [e5,s0],fun _=>ew rfl,hrep,?_,t10,fun q j hj=>(gr.imm j (t11.1 q j hj)).2,?_⟩⟩,R.nd b' hl,(show ∀ i∈L b',ageI d nx tmp i from R.age b' _ hc),fun _=>R.p1 b' _ hc rfl,R.tl b' hl,fun t ht=>R.st b' _ t hc ht,?_⟩
   ·intro q hq
    have hq:q∈b.es.set (off0 + i) w':=hq
    rcases mem_win (off:=off0) (len:=len0) hq with hw | hw
    ·obtain ⟨f1,f2,f3⟩:=hrepH.fineE q hw
     exact ⟨f1,by rw [f2]; exact s0.symm,f3⟩
    ·rw [outW_set eil] at hw
     obtain ⟨f1,f2,_⟩:=t9 q (outW_mem hw)
     exact ⟨f1,f2,fun hd=>fineV_mono (fun p hp=>hp.elim) q (t11.2 hd q hw)⟩
   ·intro q z hz
    have hz:z∈outW (b.es.set (off0 + i) w') off0 len0:=hz
    rw [outW_set eil] at hz
    exact t11.2 q z hz
   ·intro c2 hne hl2 i2 hi hi2
    obtain ⟨o2,ho2⟩:=live_iff.1 hl2
    rcases ho' c2 o2 ho2 with ⟨z,_⟩ | ⟨_,z⟩
    ·exact hne z
    ·exact R.dis b' c2 (Ne.symm hne) hl (live_iff.2 ⟨_,z⟩) i2 hi hi2
  ·exact (z rfl).elim
theorem ok_storeF {n c ver i off:Nat} {e:Kd} {x':e.den} {ver':Nat} {tmp:Option Nat} {sz:Nat} {e':Kd} {dp:Bool} {xs:List e'.den} {a x:Opd} (hx:pev ps a = .ep c ver i off e x') (hok:cellOK (pev ps x)=true) (hfl:e.flat=false)
  (hc:hget ps.heap c=some (.sl false ver' tmp sz e' dp xs)) (hn1:Nat.beq n 1=true) (h:storeFP ps c ver ver' tmp sz e' dp xs i off e x' (pev ps x) k=some r):OpOK T Rn d anV P0 H0 none E ps μ L H nx k r (.store n a x):=by
 obtain rfl:=Nat.eq_of_beq_eq_true hn1
 have h1:=R.pev a
 rw [hx] at h1
 have h2:=R.pev x
 unfold storeFP at h
 split at h
 rotate_left
 ·cases h
 rename_i x2 hb hx2
 split at h
 rotate_left
 ·cases h
 rename_i y hy
 obtain rfl:=Nat.eq_of_beq_eq_true hb
 obtain ⟨o,g,m,off0,len0,b,w,L1,h3,hmu,e2,e3,e4,e5,e5',ew,e6,e7,e8,ebd,eil,z0,z1,z2⟩:=ep_read R h1 hc
 obtain ⟨s0,s1,s2⟩:=R.ob c _ hc
 rcases s2 with ⟨t1,_⟩ | ⟨o',g',n',off',len',b',L',t1,t2,t3,t4,t5,t6,t7,t8,t9,t10,t11⟩
 ·have t1:μ c = .nils:=t1
  rw [hmu] at t1; cases t1
 have t1:μ c = .ref o' g' n' off' len':=t1
 rw [hmu] at t1
 cases t1
 have t2:H o=some b':=t2
 rw [e2] at t2
 cases t2
 obtain ⟨rfl,rfl⟩:=castK_eq z1
 rw [castK_self] at hx2
 cases hx2
 obtain ⟨fs,rfl⟩:=setF_st hy
 have hy:setLs fs x' off (pev ps x)=some y:=hy
 have t10:L c=o :: (if dp=true then L' else []):=t10
 have wag:=e7.1
 have wr:Reps dp H fs x' w.cells L1:=e7.2
 exact ok_storeS R (L':=L') hok hc hy h h3 hmu e2 e3 e4 e5 ew e6 ebd eil z2 s0 s1 wag wr t8 t9 t10 ⟨t11.1,t11.2⟩
theorem ok_storeD {n c ver i off:Nat} {e:Kd} {x':e.den} {ver':Nat} {tmp:Option Nat} {sz:Nat} {e':Kd} {dp:Bool} {xs:List e'.den} {a x:Opd} (hx:pev ps a = .ep c ver i off e x') (hok:cellOK (pev ps x)=true) (hfl:e.flat=false)
  (hc:hget ps.heap c=some (.sl false ver' tmp sz e' dp xs)) (h:storeDP ps c ver ver' tmp sz e' dp xs i n off (pev ps x) k=some r):OpOK T Rn d anV P0 H0 none E ps μ L H nx k r (.store n a x):=by
 have h1:=R.pev a
 rw [hx] at h1
 have h2:=R.pev x
 unfold storeDP at h
 split at h
 ·rename_i y ns hb hp
  split at h
  ·cases h
  ·rename_i hcn
   simp only [Bool.and_eq_true] at hb
   obtain rfl:=Nat.eq_of_beq_eq_true hb.1
   obtain rfl:=Nat.eq_of_beq_eq_true hb.2.1
   obtain rfl:=Nat.eq_of_beq_eq_true hb.2.2
   have hcn:c ∉ ns:=by
    intro hm
    rw [List.elem_eq_mem] at hcn
    simp [hm] at hcn
   obtain ⟨o,g,m,off0,len0,b,w,L1,h3,hmu,e2,e3,e4,e5,e5',ew,e6,e7,e8,ebd,eil,z0,z1,z2⟩:=ep_read R h1 hc
   obtain ⟨s0,s1,s2⟩:=R.ob c _ hc
   rcases s2 with ⟨t1,_⟩ | ⟨o',g',n',off',len',b',L',t1,t2,t3,t4,t5,t6,t7,t8,t9,t10,t11⟩
   ·have t1:μ c = .nils:=t1
    rw [hmu] at t1; cases t1
   ·have t1:μ c = .ref o' g' n' off' len':=t1
    rw [hmu] at t1
    cases t1
    have t2:H o=some b':=t2
    rw [e2] at t2
    cases t2
    obtain ⟨rfl,rfl⟩:=castK_eq z1
    have hl:live ps.heap c:=live_iff.2 ⟨_,hc⟩
    have hdeep:deepSt ps (.store e.cn a x)=true:=by simp only [deepSt,hx,hfl]; rfl
    obtain ⟨Ly,r1,r2,r3,r4,r5⟩:=putP_rel rfl R.obs h2 hp
    have hown:=OwnN.rel R r2
    have hlive:∀ a∈ns,live ps.heap a:=fun a ha=>(hown a ha).elim fun ob h=>live_iff.2 ⟨ob,h.1⟩
    have hst:=(cellOK_stor hok h2).1
    have t10:L c=o :: (if dp=true then L' else []):=t10
    have hL:o∈L c:=by rw [t10]; simp
    have hhead:(L c).head? = some o:=by rw [t10]; rfl
    have htop:(⟨d,ps.heap,μ,L,H,nx⟩:Vw).top o:=⟨c,hl,hhead⟩
    have hLyold:dp=true→∀ j∈Ly,oldI d nx j∧∃ a∈ns,j∈L a:=by
     intro q j hj
     rw [r4 q] at hj
     obtain ⟨a',ha,hia⟩:=mem_idsN.1 hj
     obtain ⟨ob,q1,_,q3⟩:=hown a' ha
     exact ⟨ids_old R q1 q3 j hia,a',ha,hia⟩
    have hLyc:dp=true→∀ j∈Ly,j ∉ L c:=by
     intro q j hj hjc
     obtain ⟨_,a',ha,hia⟩:=hLyold q j hj
     exact R.dis a' c (fun e=>hcn (e ▸ ha)) (hlive a' ha) hl j hia hjc
    have hwx:(ev E x).cells.length=e.cn∧(ev E x).isAgg=w.isAgg:=⟨r1.stor.2.1,by rw [r1.stor.2.2,e7.stor.2.2]⟩
    have hop:operV T Rn (8 * d) none E H nx (.store e.cn a x)=some (.undef,hupd H o { b with es:=b.es.set (off0 + i) (ev E x) },nx):=by
     have:storeV H e.cn (ev E x) (.ptr o g m (off0 + i) 0)=some (hupd H o { b with es:=b.es.set (off0 + i) (ev E x) }):=by
      simp only [storeV,e2]
      rw [if_pos ⟨e3,e4,ew rfl,hwx.1,hst⟩,e6]
      simp only
      rw [if_pos ⟨trivial,e5.symm,hwx.2⟩]
     simp only [operV,h3,this]
    have ho':∀ b' ob,hget (hset (delN ps.heap ns) c (some (.sl false (ver + 1) tmp sz e dp (setL xs i y)))) b'=some ob→(b'=c∧ob = .sl false (ver + 1) tmp sz e dp (setL xs i y))∨(b'≠c∧b' ∉ ns∧hget ps.heap b'=some ob):=by
     intro b' ob hb
     rw [hget_hset,delN_length] at hb
     split at hb
     ·rename_i hh
      cases hb
      exact .inl ⟨hh.1,rfl⟩
     ·rename_i hne
      rw [hget_delN] at hb
      split at hb
      ·cases hb
      ·rename_i hnn
       exact .inr ⟨fun e=>hne ⟨e,hget_lt hc⟩,hnn,hb⟩
    have hlen:(hset (delN ps.heap ns) c (some (.sl false (ver + 1) tmp sz e dp (setL xs i y)))).length=ps.heap.length:=by rw [hset_length,delN_length]
    have gr0:=R.chg (tm:=none) (env':=ps.env) (hp':=hset (delN ps.heap ns) c (some (.sl false (ver + 1) tmp sz e dp (setL xs i y)))) (H':=hupd H o { b with es:=b.es.set (off0 + i) (ev E x) }) (fun i=>i=o) hlen (fun i hi=>.inl (by rw [hi]; exact htop)) (fun i hi=>hupd_ne H _ hi)
     (fun b' ob hb=>by
      rcases ho' b' ob hb with ⟨rfl,rfl⟩ | ⟨_,_,z⟩
      ·exact ⟨_,hc,.inl (Nat.lt_succ_self _),fun t' h'=>by cases h'⟩
      ·exact ⟨ob,z,laterO.refl _,fun t' h'=>by cases h'⟩)
    have hix:i < xs.length:=(List.getElem?_eq_some_iff.1 z2).1
    obtain ⟨A,Lo,B,eL,hrep⟩:=RepL.put r1 t8 hix
    have hL2:∀ j∈A++(Ly++B),j∈L'∨j∈Ly:=by
     intro j hj
     rw [eL]
     simp only [List.mem_append] at hj ⊢
     rcases hj with hj | hj | hj
     ·exact .inl (.inl hj)
     ·exact .inr hj
     ·exact .inl (.inr (.inr hj))
    have gr:=gr0.headL (L':=updN L c (o :: (if dp=true then A++(Ly++B) else []))) (fun a'=>by
     show (updN L c _ a').head? = (L a').head?
     by_cases e:a'=c
     ·subst e; rw [updN_at,hhead]; rfl
     ·rw [updN_ne e])
    refine ⟨_,_,_,μ,updN L c (o :: (if dp=true then A++(Ly++B) else [])),_,nx,h,hop,?_,fun h=>(h rfl).elim,by show _≤(hset _ c _).length; rw [hlen]; exact Nat.le_refl _,fun _ _=>⟨rfl,fun q=>by rw [hdeep] at q; cases q⟩,Nat.le_refl _,rfl,EW.refl _,?_⟩
    ·refine Rel.next R (tm:=none) (Ch:=fun a=>a=c) gr (fun u=>.inr ⟨rfl,fun t' h'=>by cases h'⟩) ?_ ?_ (Nat.le_refl _) (fresh_top R hc hL) (hp0_top R hc rfl hL)
     ·intro b' ob hb hne
      rcases ho' b' ob hb with ⟨z,_⟩ | ⟨z2,_,z1⟩
      ·exact (hne z).elim
      ·exact ⟨z1,updN_ne z2,fun i hi=>hupd_ne H _ (not_other R (live_iff.2 ⟨_,z1⟩) z2 hc hL i hi)⟩
     ·rintro b' ob hb rfl
      rcases ho' b' ob hb with ⟨_,rfl⟩ | ⟨z,_⟩
      ·have hnd0:=R.nd b' hl
       have hoL':dp=true→L b'=o :: L':=fun q=>by rw [t10,if_pos q]
       have hno:∀ j∈A++(Ly++B),j≠o:=by
        rintro j hj rfl
        cases dp with
        | true=>
         rcases hL2 j hj with hj | hj
         ·have:=hoL' rfl
          rw [this] at hnd0
          exact (List.nodup_cons.1 hnd0).1 hj
         ·exact hLyc rfl j hj hL
        | false=>
         rcases hL2 j hj with hj | hj
         ·exact (t11.1 rfl j hj).1 htop
         ·exact ((r5 rfl).2 j hj).1 htop
       have hrep':RepL (Rep dp (hupd H o { b with es:=b.es.set (off0 + i) (ev E x) }) e) (setL xs i y) (((b.es.set (off0 + i) (ev E x)).drop off0).take len0) (A++(Ly++B)):=by
        rw [set_window _ _ _ _ _ eil,setL_def]
        exact RepL.frame (fun j hj=>hupd_ne H _ (hno j hj)) hrep
       have hrepH:RepL (Rep dp H e) (setL xs i y) (((b.es.set (off0 + i) (ev E x)).drop off0).take len0) (A++(Ly++B)):=by
        rw [set_window _ _ _ _ _ eil,setL_def]
        exact hrep
       have hin:∀ j∈(if dp=true then A++(Ly++B) else []),dp=true∧j∈A++(Ly++B):=by
        intro j hj
        cases dp with
        | true=>exact ⟨rfl,hj⟩
        | false=>cases hj
       have hold:∀ j∈(if dp=true then A++(Ly++B) else []),oldI d nx j:=by
        intro j hj
        obtain ⟨q,hj⟩:=hin j hj
        rcases hL2 j hj with hj | hj
        ·exact R.tl b' hl j (by rw [hoL' q]; exact hj)
        ·exact (hLyold q j hj).1
       have hwhere:∀ j∈o :: (if dp=true then A++(Ly++B) else []),j∈L b'∨∃ a∈ns,j∈L a:=by
        intro j hj
        rcases List.mem_cons.1 hj with rfl | hj
        ·exact .inl hL
        ·obtain ⟨q,hj⟩:=hin j hj
         rcases hL2 j hj with hj | hj
         ·exact .inl (by rw [hoL' q]; simp [hj])
         ·exact .inr (hLyold q j hj).2
       have eLb:updN L b' (o :: (if dp=true then A++(Ly++B) else [])) b'=o :: (if dp=true then A++(Ly++B) else []):=updN_at
       refine ⟨⟨s0,s1,.inr ⟨o,g,m,off0,len0,{ b with es:=b.es.set (off0 + i) (ev E x) },A++(Ly++B),hmu,hupd_same _ _ _,e3,by simpa using e4,ebd,by rw [e5,s0],fun _=>ew rfl,hrep',?_,eLb,fun q j hj=>?_,fun q z hz=>?_⟩⟩,?_,?_,?_,?_,?_,?_⟩
       ·intro q hq
        have hq:q∈b.es.set (off0 + i) (ev E x):=hq
        rcases mem_win (off:=off0) (len:=len0) hq with hw | hw
        ·obtain ⟨f1,f2,f3⟩:=hrepH.fineE q hw
         exact ⟨f1,by rw [f2]; exact s0.symm,f3⟩
        ·rw [outW_set eil] at hw
         obtain ⟨f1,f2,_⟩:=t9 q (outW_mem hw)
         exact ⟨f1,f2,fun hd=>fineV_mono (fun p hp=>hp.elim) q (t11.2 hd q hw)⟩
       ·refine (gr.imm j ?_).2
        rcases hL2 j hj with hj | hj
        ·exact t11.1 q j hj
        ·exact (r5 q).2 j hj
       ·have hz:z∈outW (b.es.set (off0 + i) (ev E x)) off0 len0:=hz
        rw [outW_set eil] at hz
        exact t11.2 q z hz
       ·rw [eLb]
        refine List.nodup_cons.2 ⟨fun hm=>hno o (hin o hm).2 rfl,?_⟩
        cases dp with
        | false=>exact List.nodup_nil
        | true=>
         have hLn:L'.Nodup:=by
          rw [hoL' rfl] at hnd0
          exact (List.nodup_cons.1 hnd0).2
         rw [eL] at hLn
         have hyn:Ly.Nodup:=by rw [r4 rfl]; exact idsN_nodup R (nodupB_spec r3) hlive
         have hdisj:∀ j∈Ly,j ∉ L':=fun j hj hj'=>hLyc rfl j hj (by rw [hoL' rfl]; simp [hj'])
         rw [if_pos rfl]
         obtain ⟨n1,n2,n3⟩:=List.nodup_append.1 hLn
         obtain ⟨n4,n5,n6⟩:=List.nodup_append.1 n2
         refine List.nodup_append.2 ⟨n1,List.nodup_append.2 ⟨hyn,n5,?_⟩,?_⟩
         ·rintro j hj j2 hj2 rfl
          exact hdisj j hj (by rw [eL]; simp [hj2])
         ·rintro j hj j2 hj2 rfl
          rcases List.mem_append.1 hj2 with hj2 | hj2
          ·exact hdisj j hj2 (by rw [eL]; simp [hj])
          ·exact n3 j hj j (by simp [hj2]) rfl
       ·rw [eLb]
        intro j hj
        rcases List.mem_cons.1 hj with rfl | hj
        ·exact R.age b' _ hc _ hL
        ·have:=hold j hj
         cases j with
         | dy k=>exact this
         | st d' t'=>exact .inl this
         | ex=>exact this
       ·intro _
        rw [eLb]
        intro j hj
        rcases hwhere j hj with hj | ⟨a',ha,hj⟩
        ·exact R.p1 b' _ hc rfl j hj
        ·obtain ⟨ob,q1,q2,_⟩:=hown a' ha
         exact R.p1 a' ob q1 q2 j hj
       ·rw [eLb]; exact hold
       ·intro t ht o2 ho2
        rw [eLb] at ho2
        exact R.st b' _ t hc ht o2 (by rw [hhead]; exact ho2)
       ·intro c2 hne hl2 j hj hj2
        obtain ⟨o2,ho2⟩:=live_iff.1 hl2
        rcases ho' c2 o2 ho2 with ⟨z,_⟩ | ⟨_,zn,z⟩
        ·exact hne z
        ·rw [eLb] at hj
         rw [updN_ne hne] at hj2
         have hlc2:live ps.heap c2:=live_iff.2 ⟨_,z⟩
         rcases hwhere j hj with hj | ⟨a',ha,hj⟩
         ·exact R.dis b' c2 (Ne.symm hne) hl hlc2 j hj hj2
         ·exact R.dis a' c2 (fun e=>zn (e ▸ ha)) (hlive a' ha) hlc2 j hj hj2
      ·exact (z rfl).elim
    ·intro a' ha hla
     obtain ⟨ob,hob⟩:=live_iff.1 hla
     rcases ho' a' ob hob with ⟨rfl,_⟩ | ⟨_,_,z⟩
     ·exact hl
     ·exact live_iff.2 ⟨_,z⟩
 ·cases h
theorem ok_store {n:Nat} {a x:Opd} (hdst:dst=none) (h:opP hn pm dst ps (.store n a x) k=some r):OpOK T Rn d anV P0 H0 dst E ps μ L H nx k r (.store n a x):=by
 subst hdst
 simp only [opP] at h
 have h1:=R.pev a
 have h2:=R.pev x
 split at h
 ·rename_i c off hx hok
  rw [hx] at h1
  split at h
  ·rename_i tmp u hc
   split at h
   ·rename_i u' hu'
    obtain ⟨o,g,b,w,e1,e2,e3,e4,e5,e6,e7,e8,e9,e10,e11⟩:=R.ob c _ hc
    have e1:μ c = .ptr o g 1 0 0:=e1
    have e2:H o=some b:=e2
    have e9:L c=[o]:=e9
    obtain ⟨h0,o',g',k1,k2⟩:=h1
    have k1:μ c = .ptr o' g' 1 0 0:=k1
    rw [e1] at k1
    cases k1
    obtain ⟨w',q1,q2,q3,q4,q5,q6⟩:=storeC_rel e10 h2 e11 hok hu'
    have hst:=(cellOK_stor hok h2).1
    have hst':=(cellOK_stor q3 q2).1
    have hL:o∈L c:=by rw [e9]; simp
    have htop:(⟨d,ps.heap,μ,L,H,nx⟩:Vw).top o:=⟨c,live_iff.2 ⟨_,hc⟩,by show (L c).head? = some o; rw [e9]; rfl⟩
    have hop:operV T Rn (8 * d) none E H nx (.store n a x)=some (.undef,hupd H o { b with es:=[w'] },nx):=by
     have:storeV H n (ev E x) (.ptr o g 1 0 off)=some (hupd H o { b with es:=[w'] }):=by
      simp only [storeV,e2]
      rw [if_pos ⟨e3,by rw [e4]; rfl,e8 rfl,q4,hst⟩,e4]
      simp only [List.getElem?_cons_zero,List.set_cons_zero]
      have q1':(if off=0∧n=b.sz∧(ev E x).isAgg=w.isAgg then some (ev E x) else match putCells w.cells off (ev E x).cells with | some cs=>reEl w cs | none=>none)=some w':=by rw [e5]; exact q1
      exact congrArg (fun z:Option AV=>match z with | some new=>some (hupd H o { b with es:=[new] }) | none=>none) q1'
     simp only [operV,k2,this]
    split at h
    ·-- it becomes a value
     rename_i t ht
     have hpr:∃ c',tmp=some t∧off=0∧look ps.env t = .cp c' 0∧c=c'∧pureV u'=true:=by
      unfold opP.promT at ht
      split at ht
      ·split at ht
       ·rename_i t' _ _ c' hl
        split at ht
        ·rename_i hcond
         simp only [Bool.and_eq_true] at hcond
         cases ht
         exact ⟨c',rfl,rfl,hl,Nat.eq_of_beq_eq_true hcond.2.2,hcond.2.1⟩
        ·cases ht
       ·cases ht
      ·cases ht
     obtain ⟨c',p1,p2,p3,p4,p5⟩:=hpr
     subst p1; subst p2; subst p4
     have hd:hget (hset ps.heap c none) c=none:=by rw [hget_hset]; simp [hget_lt hc]
     have ho':∀ b' ob,hget (hset ps.heap c none) b'=some ob→hget ps.heap b'=some ob∧b'≠c:=by
      intro b' ob hb
      rw [hget_hset] at hb
      split at hb
      ·cases hb
      ·rename_i hne
       exact ⟨hb,fun e=>hne ⟨e,hget_lt hc⟩⟩
     have gr:=R.chg (tm:=none) (env':=ps.env) (hp':=hset ps.heap c none) (H':=hupd H o { b with es:=[w'] }) (fun i=>i=o) hset_length (fun i hi=>.inl (by rw [hi]; exact htop)) (fun i hi=>hupd_ne H _ hi)
      (fun b' ob hb=>⟨ob,(ho' b' ob hb).1,laterO.refl _,fun t' h'=>by cases h'⟩)
     have R1:Rel d anV P0 H0 ⟨ps.env,ps.anc,hset ps.heap c none⟩ μ L E (hupd H o { b with es:=[w'] }) nx:=by
      refine Rel.next R (tm:=none) (Ch:=fun _=>False) gr (fun u=>.inr ⟨rfl,fun t' h'=>by cases h'⟩) ?_ (fun _ _ _ h=>h.elim) (Nat.le_refl _) (fresh_top R hc hL) (hp0_top R hc rfl hL)
      intro b' ob hb _
      obtain ⟨z1,z2⟩:=ho' b' ob hb
      exact ⟨z1,rfl,fun i hi=>hupd_ne H _ (not_other R (live_iff.2 ⟨_,z1⟩) z2 hc hL i hi)⟩
     have hE:E t = .ptr o g 1 0 0:=by
      have:=R.env t
      rw [p3] at this
      obtain ⟨_,o2,g2,z1,z2⟩:=this
      have z1:μ c = .ptr o2 g2 1 0 0:=z1
      rw [e1] at z1
      cases z1
      exact z2
     have hos:o = .st d t:=R.st c _ t hc rfl o (by rw [e9]; rfl)
     have hkp:VR ⟨d,hset ps.heap c none,μ,L,hupd H o { b with es:=[w'] },nx⟩ (.kp t u' 0) (E t):=by
      rw [hE]
      refine ⟨p5,q3,o,g,{ b with es:=[w'] },w',⟨hos,?_⟩,rfl,hupd_same _ _ _,e3,rfl,by show b.sz=w'.cells.length; omega,VR.mono gr u' w' (fun _ h=>by cases h) q2⟩
      rintro ⟨b',hb',htop'⟩
      obtain ⟨ob,hob⟩:=live_iff.1 hb'
      obtain ⟨z1,z2⟩:=ho' b' ob hob
      exact not_other R (live_iff.2 ⟨_,z1⟩) z2 hc hL o (List.mem_of_head? htop') rfl
     refine ⟨_,_,_,μ,L,_,nx,h,hop,R1.setEnv (env:=(t,.kp t u' 0) :: ps.env) (fun v=>?_),fun h=>(h rfl).elim,by show _≤(hset ps.heap c none).length; rw [hset_length]; exact Nat.le_refl _,fun _ _=>⟨rfl,fun _=>rfl⟩,Nat.le_refl _,rfl,fun v=>?_,LB.set (fun h=>by cases h)⟩
     rw [look_cons]
     by_cases hv:t=v
     ·subst hv; rw [if_pos rfl]; exact hkp
     ·rw [if_neg hv]; exact R1.env v
     ·show EWv _ (look ((t,.kp t u' 0) :: ps.env) v)
      rw [look_cons]
      by_cases hv:t=v
      ·subst hv; exact .inr (.inr ⟨_,_,p3⟩)
      ·rw [if_neg hv]; exact .inl rfl
    ·have ho':∀ b' ob,hget (hset ps.heap c (some (.cell false tmp u'))) b'=some ob→(b'=c∧ob = .cell false tmp u')∨(b'≠c∧hget ps.heap b'=some ob):=by
      intro b' ob hb
      rw [hget_hset] at hb
      split at hb
      ·rename_i hh
       cases hb
       exact .inl ⟨hh.1,rfl⟩
      ·rename_i hne
       exact .inr ⟨fun e=>hne ⟨e,hget_lt hc⟩,hb⟩
     have gr:=R.chg (tm:=none) (env':=ps.env) (hp':=hset ps.heap c (some (.cell false tmp u'))) (H':=hupd H o { b with es:=[w'] }) (fun i=>i=o) hset_length (fun i hi=>.inl (by rw [hi]; exact htop)) (fun i hi=>hupd_ne H _ hi)
      (fun b' ob hb=>by
       rcases ho' b' ob hb with ⟨rfl,rfl⟩ | ⟨_,z⟩
       ·exact ⟨_,hc,trivial,fun t' h'=>by cases h'⟩
       ·exact ⟨ob,z,laterO.refl _,fun t' h'=>by cases h'⟩)
     refine ⟨_,_,_,μ,L,_,nx,h,hop,?_,fun h=>(h rfl).elim,by show _≤(hset ps.heap c _).length; rw [hset_length]; exact Nat.le_refl _,fun _ _=>⟨rfl,fun _=>rfl⟩,Nat.le_refl _,rfl,EW.refl _,LB.set (fun _=>live_iff.2 ⟨_,hc⟩)⟩
     refine Rel.next R (tm:=none) (Ch:=fun a=>a=c) gr (fun u=>.inr ⟨rfl,fun t' h'=>by cases h'⟩) ?_ ?_ (Nat.le_refl _) (fresh_top R hc hL) (hp0_top R hc rfl hL)
     ·intro b' ob hb hne
      rcases ho' b' ob hb with ⟨z,_⟩ | ⟨z2,z1⟩
      ·exact (hne z).elim
      ·exact ⟨z1,rfl,fun i hi=>hupd_ne H _ (not_other R (live_iff.2 ⟨_,z1⟩) z2 hc hL i hi)⟩
     ·rintro b' ob hb rfl
      rcases ho' b' ob hb with ⟨_,rfl⟩ | ⟨z,_⟩
      ·refine ⟨⟨o,g,{ b with es:=[w'] },w',e1,hupd_same _ _ _,e3,rfl,by show b.sz=w'.cells.length; omega,e6,hst',e8,e9,VR.mono gr u' w' (fun _ h=>by cases h) q2,q3⟩,R.nd b' (live_iff.2 ⟨_,hc⟩),(show ∀ i∈L b',ageI d nx tmp i from R.age b' _ hc),fun _=>R.p1 b' _ hc rfl,R.tl b' (live_iff.2 ⟨_,hc⟩),fun t ht=>R.st b' _ t hc ht,?_⟩
       intro c2 hne hl2 i hi hi2
       obtain ⟨o2,ho2⟩:=live_iff.1 hl2
       rcases ho' c2 o2 ho2 with ⟨z,_⟩ | ⟨_,z⟩
       ·exact hne z
       ·exact R.dis b' c2 (Ne.symm hne) (live_iff.2 ⟨_,hc⟩) (live_iff.2 ⟨_,z⟩) i hi hi2
      ·exact (z rfl).elim
   ·cases h
  ·cases h
 ·rename_i c ver i off e x' hx hok
  rw [hx] at h1
  split at h
  ·rename_i ver' tmp sz e' dp xs hc
   split at h
   rotate_left
   ·rename_i hfl
    split at h
    ·rename_i qn
     exact ok_storeF R hx hok hfl hc qn h
    ·exact ok_storeD R hx hok hfl hc h
   split at h
   ·rename_i y hver hy
    obtain rfl:=Nat.eq_of_beq_eq_true hver
    split at h
    ·rename_i y' hy'
     obtain ⟨o,g,m,off0,len0,b,w,L1,h3,hmu,e2,e3,e4,e5,e5',ew,e6,e7,e8,ebd,eil,z0,z1,z2⟩:=ep_read R h1 hc
     obtain ⟨s0,s1,s2⟩:=R.ob c _ hc
     rcases s2 with ⟨t1,_⟩ | ⟨o',g',n',off',len',b',L',t1,t2,t3,t4,t5,t6,t7,t8,t9,t10,t11⟩
     ·have t1:μ c = .nils:=t1
      rw [hmu] at t1; cases t1
     ·have t1:μ c = .ref o' g' n' off' len':=t1
      rw [hmu] at t1
      cases t1
      have t2:H o=some b':=t2
      rw [e2] at t2
      cases t2
      obtain ⟨rfl,rfl⟩:=castK_eq z1
      obtain ⟨he,hyy⟩:=castK_eq hy'
      subst hyy
      unfold opP.storeE at hy
      split at hy
      ·rename_i hflat
       split at hy
       ·rename_i u hu
        have e7f:Rep false H e x' w []:=by
         obtain ⟨z,rfl⟩:=e7.flat (own':=false) (H':=H) hflat
         exact z
        have hve:VR ⟨d,ps.heap,μ,L,H,nx⟩ (.d true e x') w:=⟨[],e7f,fun _=>rfl,fun i hi=>by cases hi⟩
        have oke:cellOK (.d true e x')=true:=by
         cases e with
         | st fs=>
          cases fs with
          | nil=>simp [Kd.cn] at s0; omega
          | cons=>rfl
         | sl=>rfl
         | int=>rfl
         | bool=>rfl
         | str=>rfl
        obtain ⟨w',q1,q2,q3,q4,q5,q6⟩:=storeP_rel hve h2 oke hok hu
        have hst:=(cellOK_stor hok h2).1
        have hst':=(cellOK_stor q3 q2).1
        obtain ⟨Ly,r1,_⟩:=asD_rel R.obs q2 hy
        have hrep:∀ (own:Bool) (HH:Heap),Rep own HH e y w' []:=fun own HH=>by
         obtain ⟨z,rfl⟩:=r1.flat (own':=own) (H':=HH) hflat
         exact z
        have hL:o∈L c:=by
         have:L c=o :: (if dp=true then L' else []):=t10
         rw [this]; simp
        have hhead:(L c).head? = some o:=by
         have:L c=o :: (if dp=true then L' else []):=t10
         rw [this]; rfl
        have htop:(⟨d,ps.heap,μ,L,H,nx⟩:Vw).top o:=⟨c,live_iff.2 ⟨_,hc⟩,hhead⟩
        have hop:operV T Rn (8 * d) none E H nx (.store n a x)=some (.undef,hupd H o { b with es:=b.es.set (off0 + i) w' },nx):=by
         have:storeV H n (ev E x) (.ptr o g m (off0 + i) off)=some (hupd H o { b with es:=b.es.set (off0 + i) w' }):=by
          simp only [storeV,e2]
          rw [if_pos ⟨e3,e4,ew rfl,q4,hst⟩,e6]
          simp only
          have q1':(if off=0∧n=b.sz∧(ev E x).isAgg=w.isAgg then some (ev E x) else match putCells w.cells off (ev E x).cells with | some cs=>reEl w cs | none=>none)=some w':=by rw [e5,← e7.stor.2.1]; exact q1
          exact congrArg (fun z:Option AV=>match z with | some new=>some (hupd H o { b with es:=b.es.set (off0 + i) new }) | none=>none) q1'
         simp only [operV,h3,this]
        have ho':∀ b' ob,hget (hset ps.heap c (some (.sl false (ver + 1) tmp sz e dp (setL xs i y)))) b'=some ob→(b'=c∧ob = .sl false (ver + 1) tmp sz e dp (setL xs i y))∨(b'≠c∧hget ps.heap b'=some ob):=by
         intro b' ob hb
         rw [hget_hset] at hb
         split at hb
         ·rename_i hh
          cases hb
          exact .inl ⟨hh.1,rfl⟩
         ·rename_i hne
          exact .inr ⟨fun e=>hne ⟨e,hget_lt hc⟩,hb⟩
        have gr:=R.chg (tm:=none) (env':=ps.env) (hp':=hset ps.heap c (some (.sl false (ver + 1) tmp sz e dp (setL xs i y)))) (H':=hupd H o { b with es:=b.es.set (off0 + i) w' }) (fun i=>i=o) hset_length (fun i hi=>.inl (by rw [hi]; exact htop)) (fun i hi=>hupd_ne H _ hi)
         (fun b' ob hb=>by
          rcases ho' b' ob hb with ⟨rfl,rfl⟩ | ⟨_,z⟩
          ·exact ⟨_,hc,.inl (Nat.lt_succ_self _),fun t' h'=>by cases h'⟩
          ·exact ⟨ob,z,laterO.refl _,fun t' h'=>by cases h'⟩)
        refine ⟨_,_,_,μ,L,_,nx,h,hop,?_,fun h=>(h rfl).elim,by show _≤(hset ps.heap c _).length; rw [hset_length]; exact Nat.le_refl _,fun _ _=>⟨rfl,fun _=>rfl⟩,Nat.le_refl _,rfl,EW.refl _,LB.set (fun _=>live_iff.2 ⟨_,hc⟩)⟩
        refine Rel.next R (tm:=none) (Ch:=fun a=>a=c) gr (fun u=>.inr ⟨rfl,fun t' h'=>by cases h'⟩) ?_ ?_ (Nat.le_refl _) (fresh_top R hc hL) (hp0_top R hc rfl hL)
        ·intro b' ob hb hne
         rcases ho' b' ob hb with ⟨z,_⟩ | ⟨z2,z1⟩
         ·exact (hne z).elim
         ·exact ⟨z1,rfl,fun i hi=>hupd_ne H _ (not_other R (live_iff.2 ⟨_,z1⟩) z2 hc hL i hi)⟩
        ·rintro b' ob hb rfl
         rcases ho' b' ob hb with ⟨_,rfl⟩ | ⟨z,_⟩
         ·refine ⟨⟨s0,s1,.inr ⟨o,g,m,off0,len0,{ b with es:=b.es.set (off0 + i) w' },L',hmu,hupd_same _ _ _,e3,by simpa using e4,ebd,by rw [e5,s0],fun _=>ew rfl,?_,?_,t10,fun q j hj=>(gr.imm j (t11.1 q j hj)).2,?_⟩⟩,R.nd b' (live_iff.2 ⟨_,hc⟩),(show ∀ i∈L b',ageI d nx tmp i from R.age b' _ hc),fun _=>R.p1 b' _ hc rfl,R.tl b' (live_iff.2 ⟨_,hc⟩),fun t ht=>R.st b' _ t hc ht,?_⟩
          ·show RepL _ (setL xs i y) (((b.es.set (off0 + i) w').drop off0).take len0) L'
           rw [set_window _ _ _ _ _ eil,setL_def]
           have t8':RepL (Rep dp (hupd H o { b with es:=b.es.set (off0 + i) w' }) e) xs ((b.es.drop off0).take len0) L':=by
            refine RepL.frame (fun j hj=>hupd_ne H _ ?_) t8
            cases dp with
            | true=>
             rintro rfl
             have:=R.nd b' (live_iff.2 ⟨_,hc⟩)
             have hh:L b'=j :: L':=by have:=t10; simpa using this
             rw [hh] at this
             exact (List.nodup_cons.1 this).1 hj
            | false=>
             rintro rfl
             exact (t11.1 rfl j hj).1 htop
           refine RepL.set (x:=x') (v:=w) t8' z2 ?_ ?_
           ·rw [List.getElem?_take_of_lt eil,List.getElem?_drop]; exact e6
           ·intro Li hLi
            have:Li=[]:=(hLi.flat (own':=false) (H':=H) hflat).2
            subst this
            exact hrep _ _
          ·intro q hq
           have hq:q∈b.es.set (off0 + i) w':=hq
           rcases List.mem_or_eq_of_mem_set hq with hq | rfl
           ·exact t9 q hq
           ·refine ⟨hst',by rw [q5,e7.stor.2.1]; exact s0.symm,fun _=>?_⟩
            exact fineV_mono (fun p hp=>by cases hp) q (Rep.fine e y q [] (hrep true H))
          ·intro q z hz
           have hz:z∈outW (b.es.set (off0 + i) w') off0 len0:=hz
           rw [outW_set eil] at hz
           exact t11.2 q z hz
          ·intro c2 hne hl2 i2 hi hi2
           obtain ⟨o2,ho2⟩:=live_iff.1 hl2
           rcases ho' c2 o2 ho2 with ⟨z,_⟩ | ⟨_,z⟩
           ·exact hne z
           ·exact R.dis b' c2 (Ne.symm hne) (live_iff.2 ⟨_,hc⟩) (live_iff.2 ⟨_,z⟩) i2 hi hi2
         ·exact (z rfl).elim
       ·cases hy
      ·cases hy
    ·cases h
   ·cases h
  ·cases h
 ·cases h
end
end Go.Am
/- The machine on typed data against the small machine: 'append'. -/
namespace Go.Am
mutual
theorem Rep.uniq {own:Bool} {H:Heap}:∀ (t:Kd) (x:t.den) (v:AV) (L M:List Id),Rep own H t x v L→Rep own H t x v M→L=M
  | .int k,n,v,L,M,h,k'=>by rw [h.2,k'.2]
  | .bool,n,v,L,M,h,k'=>by rw [h.2,k'.2]
  | .str,n,v,L,M,h,k'=>by rw [h.2,k'.2]
  | .st fs,x,v,L,M,h,k'=>Reps.uniq fs x v.cells L M h.2 k'.2
  | .sl sz e,xs,v,L,M,h,k'=>by
    rcases h with ⟨rfl,_,rfl⟩ | ⟨h0,z,ts,rfl,h2,h3,rfl⟩ | ⟨o,g,n,off,len,b,L',rfl,h2,h3,h4,h5,h6,h7,rfl,h9⟩
    · rcases k' with ⟨_,_,rfl⟩ | ⟨_,z,ts,q,_⟩ | ⟨o,g,n,off,len,b,L',q,_⟩
      · rfl
      · cases q
      · cases q
    · rcases k' with ⟨q,_⟩ | ⟨_,z',ts',q,_,_,rfl⟩ | ⟨o,g,n,off,len,b,L',q,_⟩
      · cases q
      · rfl
      · cases q
    · rcases k' with ⟨q,_⟩ | ⟨_,z',ts',q,_⟩ | ⟨o',g',n',off',len',b',M',q,k2,k3,k4,k5,k6,k7,rfl,k9⟩
      · cases q
      · cases q
      · cases q
        rw [h2] at k2
        cases k2
        rw [RepL.uniqA (fun x v L M=>Rep.uniq e x v L M) h7 k7]
theorem Reps.uniq {own:Bool} {H:Heap}:∀ (fs:List Kd) (x:Kd.dens fs) (vs:List AV) (L M:List Id),Reps own H fs x vs L→Reps own H fs x vs M→L=M
  | [],x,[],L,M,h,k=>by rw [show L=[] from h,show M=[] from k]
  | [],x,_ :: _,L,M,h,_=>h.elim
  | t :: r,x,[],L,M,h,_=>h.elim
  | t :: r,x,v :: vs,L,M,⟨h0,L1,L2,h1,h2,e⟩,⟨_,M1,M2,k1,k2,e'⟩=>by
    rw [e,e',Rep.uniq t x.1 v L1 M1 h1 k1,Reps.uniq r x.2 vs L2 M2 h2 k2]
theorem RepL.uniqA {α:Type} {R:α→AV→List Id→Prop} (hu:∀ x v L M,R x v L→R x v M→L=M):∀ {xs:List α} {vs:List AV} {L M:List Id},RepL R xs vs L→RepL R xs vs M→L=M
  | [],[],L,M,h,k=>by rw [show L=[] from h,show M=[] from k]
  | [],_ :: _,L,M,h,_=>h.elim
  | _ :: _,[],L,M,h,_=>h.elim
  | x :: xs,v :: vs,L,M,⟨L1,L2,h1,h2,e⟩,⟨M1,M2,k1,k2,e'⟩=>by
    rw [e,e',hu x v L1 M1 h1 k1,RepL.uniqA hu h2 k2]
end
theorem RepL.uniq {own:Bool} {H:Heap} {e:Kd} {xs:List e.den} {vs:List AV} {L M:List Id} (h:RepL (Rep own H e) xs vs L) (k:RepL (Rep own H e) xs vs M):L=M:=
  RepL.uniqA (fun x v L M=>Rep.uniq e x v L M) h k
section
variable {T:Tab} {Rn:Run} {d:Nat} {anV:List AV} {P0:Id→Prop} {H0:Heap} {ps:PS} {μ:Nat→AV} {L:Nat→List Id} {E:AEnv} {H:Heap} {nx:Nat} {dst:Option Nat} {hn:Hints} {pm:List Nat} {ρ:Type} {r:ρ} {k:PV→PS→Option ρ}
theorem hupd_self {o:Id} {b:Obj} (h:H o=some b):hupd H o b=H:=by
  funext p
  unfold hupd
  split
  · rename_i e; rw [e,h]
  · rfl
variable (R:Rel d anV P0 H0 ps μ L E H nx)
include R
theorem Rel.newNil (ds:List Nat) {sz:Nat} {e:Kd} {dp:Bool} (hsz:sz=e.cn) (hsz0:0 < sz) :
    Rel d anV P0 H0 (ps.newSl none ds sz e dp []) (updN μ ps.heap.length .nils) (updN L ps.heap.length []) E H nx ∧
      VR ⟨d,(ps.newSl none ds sz e dp []).heap,updN μ ps.heap.length .nils,updN L ps.heap.length [],H,nx⟩ (.own ps.heap.length) .nils ∧
      ps.heap.length≤(ps.newSl none ds sz e dp []).heap.length∧∀ a,a < ps.heap.length→updN μ ps.heap.length .nils a=μ a∧updN L ps.heap.length [] a=L a:=by
  have hlen:(delN ps.heap ds).length=ps.heap.length:=delN_length
  have hp':∀ {a:Nat} {ob:PObj},hget (ps.newSl none ds sz e dp []).heap a=some ob→a≠ps.heap.length→hget ps.heap a=some ob∧a < ps.heap.length:=by
    intro a ob h hne
    have h:hget (delN ps.heap ds++[some (.sl false 0 none sz e dp [])]) a=some ob:=h
    rw [hget_append,hlen] at h
    split at h
    · rename_i hlt
      rw [hget_delN] at h
      split at h
      · cases h
      · exact ⟨h,hlt⟩
    · rename_i hlt
      rw [hget_ge (by simp; omega)] at h
      cases h
  have hnew:hget (ps.newSl none ds sz e dp []).heap ps.heap.length=some (.sl false 0 none sz e dp []):=by
    show hget (delN ps.heap ds++[some (.sl false 0 none sz e dp [])]) ps.heap.length=_
    rw [hget_append,hlen,if_neg (by omega),Nat.sub_self]; rfl
  have hmu:∀ a,a < ps.heap.length→updN μ ps.heap.length .nils a=μ a:=fun a ha=>updN_ne (by omega)
  have hL:∀ a,a < ps.heap.length→updN L ps.heap.length [] a=L a:=fun a ha=>updN_ne (by omega)
  have g:Grow ⟨d,ps.heap,μ,L,H,nx⟩ ⟨d,(ps.newSl none ds sz e dp []).heap,updN μ ps.heap.length .nils,updN L ps.heap.length [],H,nx⟩ none:=by
    refine Grow.of rfl ?_ hmu ?_ (Nat.le_refl _) (fun _ _ _=>rfl) ?_
    · show ps.heap.length≤(delN ps.heap ds++[_]).length
      rw [List.length_append,hlen]; omega
    · intro a ha
      cases hx:hget (ps.newSl none ds sz e dp []).heap a with
      | none=>cases hget ps.heap a <;> trivial
      | some ob=>
        have ha:a < ps.heap.length:=ha
        have:=(hp' hx (by omega)).1
        show laterO (hget ps.heap a) (some ob)
        rw [this]; exact laterO.refl _
    · rintro i ⟨a,ha,htop⟩
      obtain ⟨ob,hob⟩:=live_iff.1 ha
      by_cases hane:a=ps.heap.length
      · subst hane
        have htop:(updN L ps.heap.length [] ps.heap.length).head? = some i:=htop
        rw [updN_at] at htop
        cases htop
      · obtain ⟨h1,h4⟩:=hp' hob hane
        have htop:(updN L ps.heap.length [] a).head? = some i:=htop
        rw [hL a h4] at htop
        exact .inl ⟨a,live_iff.2 ⟨ob,h1⟩,htop⟩
  refine ⟨?_,⟨?_,updN_at.symm,trivial⟩,g.len,fun a ha=>⟨hmu a ha,hL a ha⟩⟩
  · refine Rel.next R (tm:=none) (Ch:=fun a=>a=ps.heap.length) g (fun u=>.inr ⟨rfl,fun t h=>by cases h⟩) ?_ ?_ (Nat.le_refl _) R.fresh (fun _ _=>rfl)
    · intro a ob ha hne
      obtain ⟨h1,h4⟩:=hp' ha hne
      exact ⟨h1,hL a h4,fun i hi=>rfl⟩
    · rintro a ob ha rfl
      have ha:=hnew.symm.trans ha
      cases ha
      rw [updN_at]
      exact ⟨⟨hsz,hsz0,.inl ⟨updN_at,rfl,updN_at⟩⟩,List.nodup_nil,(fun i hi=>by cases hi),(fun _ i hi=>by cases hi),(fun i hi=>by cases hi),(fun t ht=>by cases ht),(fun c _ _ i hi=>by cases hi)⟩
  · show ps.heap.length < (delN ps.heap ds++[_]).length
    rw [List.length_append,hlen]; simp
theorem srcP_rel {sz:Nat} {e:Kd} {y:PV} {ya:AV} {ys:List e.den} {nm:Option Nat} {ow:Bool} (hy:VR ⟨d,ps.heap,μ,L,H,nx⟩ y ya) (h:srcP ps.heap sz e y=some (ys,nm,ow)) :
    ∃ es Lx,srcE H ya=some es∧RepL (Rep false H e) ys es Lx∧(∀ i∈Lx,(⟨d,ps.heap,μ,L,H,nx⟩:Vw).Imm i)∧(∀ a,nm=some a→live ps.heap a) ∧
      (ow=true→e.flat=true∨(nm=none∧ys=[])∨∃ a ob,nm=some a∧hget ps.heap a=some ob∧roOf ob=false∧∃ Ln,RepL (Rep true H e) ys es Ln∧(∀ i∈Ln,i∈L a)∧Ln.Nodup∧∀ i∈Ln,oldI d nx i):=by
  have src:∀ {v:AV} {l},elems H v=some l→v.isStr=false→srcE H v=some l:=by
    intro v l h1 h2
    cases v with
    | c t=>cases t with
      | s x=>cases x <;> first | exact h1 | cases h2
      | _=>exact h1
    | _=>exact h1
  cases y with
  | own a=>
    simp only [srcP] at h
    split at h
    · rename_i ro ver tmp sz' e' dp xs hc
      split at h
      · rename_i zs hz
        cases h
        obtain ⟨hk,rfl⟩:=castK_eq hz
        cases hk
        have hl:live ps.heap a:=live_iff.2 ⟨_,hc⟩
        rcases own_len R hy hc with ⟨q1,q2,q3⟩ | ⟨o,g,m,off,b,L',q1,q2,q3,q4,q5,q6,q7,q8⟩
        · refine ⟨[],[],by rw [q1]; rfl,by rw [show xs=[] from q3]; rfl,(fun i hi=>by cases hi),(fun c hc'=>by cases hc'; exact hl),fun ho=>?_⟩
          have hro:dp=true∧ro=false:=by simpa using ho
          exact .inr (.inr ⟨a,_,rfl,hc,hro.2,[],by rw [show xs=[] from q3]; rfl,(fun i hi=>by cases hi),List.nodup_nil,fun i hi=>by cases hi⟩)
        · obtain ⟨s0,s1,s2⟩:=R.ob a _ hc
          rcases s2 with ⟨t1,_⟩ | ⟨o',g',n',off',len',b',Lx,t1,t2,t3,t4,t5,t6,t7,t8,t9,t10,t11⟩
          · have t1:μ a = .nils:=t1
            rw [q2] at t1; cases t1
          · have t1:μ a = .ref o' g' n' off' len':=t1
            rw [q2] at t1
            cases t1
            have t2:H o=some b':=t2
            rw [q3] at t2
            cases t2
            have hr:RepL (Rep false H e) xs ((b.es.drop off).take xs.length) Lx:=t8.imp fun x v L'' _ _ h=>by
              cases dp with
              | true=>exact Rep.read e x v L'' h
              | false=>exact h
            refine ⟨_,Lx,src (l:=(b.es.drop off).take xs.length) ?_ (by rw [q1]; rfl),hr,?_,(fun c hc'=>by cases hc'; exact hl),fun ho=>?_⟩
            · rw [q1]
              simp only [elems,elemsOf,q3]
              rw [if_pos ⟨q4,q5,q6⟩]
            · intro i hi
              cases dp with
              | true=>exact ids_nested R hl (by simpa using t10) i hi
              | false=>exact t11.1 rfl i hi
            · have hro:dp=true∧ro=false:=by simpa using ho
              obtain ⟨rfl,hro⟩:=hro
              have hL:L a=o :: Lx:=by simpa using t10
              have hnd:=R.nd a hl
              rw [hL] at hnd
              exact .inr (.inr ⟨a,_,rfl,hc,hro,Lx,t8,(fun i hi=>by rw [hL]; simp [hi]),(List.nodup_cons.1 hnd).2,fun i hi=>R.tl a hl i (by rw [hL]; exact hi)⟩)
      · cases h
    · cases h
  | win a off len=>
    simp only [srcP] at h
    split at h
    · rename_i ro ver tmp sz' e' dp xs hc
      split at h
      · rename_i zs hz
        cases h
        obtain ⟨hk,rfl⟩:=castK_eq hz
        cases hk
        have hl:live ps.heap a:=live_iff.2 ⟨_,hc⟩
        obtain ⟨Li,w1,w2⟩:=win_read R.obs hy hc
        obtain ⟨es,L',w3,w4,w5⟩:=w1.elems
        obtain ⟨w6,w7⟩:=w1.lenV
        refine ⟨es,L',src w3 w7,w4,?_,(fun c hc'=>by cases hc'),fun ho=>.inl ho⟩
        intro i hi
        obtain ⟨s0,s1,s2⟩:=R.ob a _ hc
        obtain ⟨y0,y1⟩:=hy
        rcases y1 with ⟨y2,rfl,rfl,rfl⟩ | ⟨o,g,m,off0,len0,y2,y3,rfl⟩
        · have w3:some []=some es:=w3
          cases w3
          cases hsub:sub xs 0 0 with
          | nil=>rw [hsub] at w4; have:L'=[]:=w4; rw [this] at hi; cases hi
          | cons=>simp [sub_def] at hsub
        · rcases s2 with ⟨t1,_⟩ | ⟨o',g',n',off',len',b',Lx,t1,t2,t3,t4,t5,t6,t7,t8,t9,t10,t11⟩
          · have t1:μ a = .nils:=t1
            have y2:μ a=_:=y2
            rw [y2] at t1; cases t1
          · have t1:μ a = .ref o' g' n' off' len':=t1
            have y2:μ a=_:=y2
            rw [y2] at t1
            cases t1
            have t2:H o=some b':=t2
            obtain ⟨M,m1,m2⟩:=t8.sub off len
            have he:es=(((b'.es.drop off0).take len0).drop off).take len:=by
              simp only [elems,elemsOf,t2] at w3
              rw [if_pos ⟨t3,t4,by omega⟩] at w3
              cases w3
              exact take_drop_sub _ _ _ _ _ y3
            subst he
            have hML:L'=M:=by
              have u1:RepL (Rep false H e) (sub xs off len) ((((b'.es.drop off0).take len0).drop off).take len) M:=by
               rw [sub_def]
               exact m1.imp fun x v L'' _ _ h=>by
                cases dp with
                | true=>exact Rep.read e x v L'' h
                | false=>exact h
              exact RepL.uniq w4 u1
            subst hML
            cases dp with
            | true=>exact ids_nested R hl (by simpa using t10) i (m2 i hi)
            | false=>exact t11.1 rfl i (m2 i hi)
      · cases h
    · cases h
  | nils=>
    simp only [srcP] at h
    cases h
    obtain rfl:ya = .nils:=hy
    exact ⟨[],[],rfl,rfl,(fun i hi=>by cases hi),(fun c hc'=>by cases hc'),fun _=>.inr (.inl ⟨rfl,rfl⟩)⟩
  | d p t x=>
    cases t with
    | str=>
      simp only [srcP] at h
      split at h
      · rename_i zs hz
        cases h
        obtain ⟨hk,rfl⟩:=castK_eq hz
        cases hk
        obtain ⟨Li,⟨rfl,_⟩,_⟩:=hy
        exact ⟨_,[],rfl,rep_bytes x,(fun i hi=>by cases hi),(fun c hc'=>by cases hc'),fun _=>.inl rfl⟩
      · cases h
    | sl sz' e'=>
      simp only [srcP] at h
      split at h
      · rename_i zs hz
        cases h
        obtain ⟨hk,rfl⟩:=castK_eq hz
        cases hk
        obtain ⟨Li,w1,w2,w8⟩:=hy
        obtain ⟨es,L',w3,w4,w5⟩:=w1.elems
        obtain ⟨w6,w7⟩:=w1.lenV
        exact ⟨es,L',src w3 w7,w4,(fun i hi=>w8 i (w5 i hi)),(fun c hc'=>by cases hc'),fun ho=>.inl ho⟩
      · cases h
    | _=>exact absurd h (by simp [srcP])
  | _=>exact absurd h (by simp [srcP])
omit R in
theorem RepL.flatE {own own':Bool} {H H':Heap} {e:Kd} (hf:e.flat=true):∀ {xs:List e.den} {vs:List AV} {L:List Id},RepL (Rep own H e) xs vs L→RepL (Rep own' H' e) xs vs []∧L=[]
  | [],[],L,h=>⟨rfl,h⟩
  | [],_ :: _,L,h=>h.elim
  | _ :: _,[],L,h=>h.elim
  | x :: xs,v :: vs,L,⟨L1,L2,h1,h2,e'⟩=>by
    obtain ⟨a,rfl⟩:=h1.flat (own':=own') (H':=H') hf
    obtain ⟨b,rfl⟩:=RepL.flatE hf h2
    exact ⟨⟨[],[],a,b,rfl⟩,by rw [e']; rfl⟩
omit R in
theorem RepL.readE {own:Bool} {H:Heap} {e:Kd} {xs:List e.den} {vs:List AV} {L:List Id} (h:RepL (Rep own H e) xs vs L):RepL (Rep false H e) xs vs L:=h.imp fun x v L' _ _ h=>Rep.read e x v L' h
theorem appendP_ok {sz:Nat} {e:Kd} {del:List Nat} {base:List e.den} {dp:Bool} {x y:Opd} (hsz:sz=e.cn) (hsz0:0 < sz)
    (hbase:(ev E x = .nils∧base=[])∨∃ o g n off len b Lb a,ev E x = .ref o g n off len∧H o=some b∧b.gen=g∧b.es.length=n∧off + len≤n∧b.w=true∧b.sz=sz ∧
      RepL (Rep dp H e) base ((b.es.drop off).take len) Lb∧(∀ z∈b.es,stor z=true∧z.cells.length=sz∧(dp=true→fineV (· ∈ Lb) z)) ∧
      a∈del∧(L a).head? = some o∧(∀ i∈Lb,(⟨d,ps.heap,μ,L,H,nx⟩:Vw).Imm i∧i≠o)∧(dp=true→(∀ i∈Lb,i∈L a)∧Lb.Nodup)∧(dp=true→∀ z∈outW b.es off len,fineV (fun _=>False) z))
    (hdel:∀ a∈del,∃ ob,hget ps.heap a=some ob∧roOf ob=false∧tmpO ob=none)
    (h:appendP ps sz e del base dp (pev ps y) k=some r):OpOK T Rn d anV P0 H0 dst E ps μ L H nx k r (.append sz x y):=by
  unfold appendP at h
  split at h
  · rename_i ys nm ow hs
    split at h
    · cases h
    · rename_i hdis
      split at h
      · rename_i hcond
        obtain ⟨hg,hk⟩:=guardK_some h
        rw [gApp_def] at hg
        have hg:(base.length + ys.length) * sz≤4294967296:=of_decide_eq_true hg
        have hcat:cat base ys=base++ys:=cat_def _ _
        rw [hcat] at hk
        obtain ⟨es,Lx,s1,s2,s3,s4,s5⟩:=srcP_rel R (R.pev y) hs
        have hfe:=s2.fineE
        have hfits:fits sz es=true:=fits_of fun z hz=>⟨(hfe z hz).1,by rw [(hfe z hz).2.1,hsz]⟩
        have hesl:ys.length=es.length:=RepL.len s2
        generalize huse:(if (dp && ow && !e.flat)=true then opt1 nm else [])=use at hk
        have hsrc:∃ Ls,(dp=true→ow=true→RepL (Rep true H e) ys es Ls)∧(∀ i∈Ls,∃ a∈use,i∈L a)∧Ls.Nodup∧(∀ i∈Ls,oldI d nx i)∧∀ a∈use,nm=some a∧∃ ob,hget ps.heap a=some ob∧roOf ob=false:=by
          by_cases hb:dp=true∧ow=true
          · by_cases hf:e.flat=true
            · refine ⟨[],fun _ _=>(s2.flatE hf).1,(fun i hi=>by cases hi),List.nodup_nil,(fun i hi=>by cases hi),fun a ha=>?_⟩
              rw [← huse,if_neg (by simp [hf])] at ha
              cases ha
            · rcases s5 hb.2 with hf' | ⟨hn,hy⟩ | ⟨a,ob,hn,hob,hro,Ln,r1,r2,r3,r4⟩
              · exact (hf hf').elim
              · subst hy
                have:es=[]:=List.length_eq_zero_iff.1 hesl.symm
                subst this
                refine ⟨[],fun _ _=>rfl,(fun i hi=>by cases hi),List.nodup_nil,(fun i hi=>by cases hi),fun a ha=>?_⟩
                rw [← huse,if_pos (by simp [hb.1,hb.2,hf]),hn] at ha
                cases ha
              · have hu:use=[a]:=by rw [← huse,if_pos (by simp [hb.1,hb.2,hf]),hn]; rfl
                subst hu
                refine ⟨Ln,fun _ _=>r1,fun i hi=>⟨a,by simp,r2 i hi⟩,r3,r4,fun c hc=>?_⟩
                obtain rfl:c=a:=by simpa using hc
                exact ⟨hn,ob,hob,hro⟩
          · refine ⟨[],fun h1 h2=>(hb ⟨h1,h2⟩).elim,(fun i hi=>by cases hi),List.nodup_nil,(fun i hi=>by cases hi),fun a ha=>?_⟩
            rw [← huse,if_neg (by intro q; simp at q; exact hb q.1)] at ha
            cases ha
        obtain ⟨Ls,u1,u2,u3,u4,u5⟩:=hsrc
        have hds:∀ a∈del++use,∃ ob,hget ps.heap a=some ob∧roOf ob=false:=by
          intro a ha
          rcases List.mem_append.1 ha with ha | ha
          · obtain ⟨ob,z1,z2,_⟩:=hdel a ha; exact ⟨ob,z1,z2⟩
          · exact (u5 a ha).2
        have hne:∀ a∈del,∀ c∈use,a≠c:=by
          rintro a ha c hc rfl
          have:=(u5 a hc).1
          apply hdis
          rw [List.any_eq_true]
          exact ⟨a,ha,by rw [this]; simp [opt1]⟩
        have hdd:∀ a∈del,∀ i∈L a,i ∉ Ls:=by
          intro a ha i hi hs
          obtain ⟨c,hc,hic⟩:=u2 i hs
          obtain ⟨oa,z1,_⟩:=hdel a ha
          obtain ⟨_,oc,z2,_⟩:=u5 c hc
          exact R.dis a c (hne a ha c hc) (live_iff.2 ⟨_,z1⟩) (live_iff.2 ⟨_,z2⟩) i hi hic
        have mk:∀ (o:Id) (b:Obj) (off len nx':Nat) (W:List AV) (Lb:List Id),nx≤nx'→(∀ q,nx'≤q→o ≠ .dy q)→ageI d nx' none o→(NewI d nx none o∨∃ a∈del,(L a).head? = some o) →
            b.sz=sz→b.w=true→off + len≤b.es.length→(b.es.drop off).take len=W++es→RepL (Rep dp H e) base W Lb→(∀ z∈b.es,stor z=true∧z.cells.length=sz∧(dp=true→fineV (· ∈ Lb) z∨z∈es))→(dp=true→∀ z∈outW b.es off len,fineV (fun _=>False) z) →
            (∀ i∈Lb,(⟨d,ps.heap,μ,L,H,nx⟩:Vw).Imm i∧i≠o)→(dp=true→(∀ i∈Lb,∃ a∈del,i∈L a)∧Lb.Nodup) →
            operV T Rn (8 * d) dst E H nx (.append sz x y)=some (.ref o b.gen b.es.length off len,hupd H o b,nx')→OpOK T Rn d anV P0 H0 dst E ps μ L H nx k r (.append sz x y):=by
          intro o b off len nx' W Lb hnx hfr hage ho hbs hbw hol hwin hrep hfine houts himm hown hop
          have hoLs:o ∉ Ls:=by
            intro hm
            rcases ho with (⟨q,rfl,hq⟩ | ⟨t,_,ht⟩) | ⟨a,ha,hh⟩
            · have:q < nx:=u4 _ hm
              omega
            · cases ht
            · exact hdd a ha o (List.mem_of_head? hh) hm
          obtain ⟨r1,r2,r3,r4⟩:=R.newSl (tm:=none) (del++use) (o:=o) (b:=b) (sz:=sz) (e:=e) (dp:=dp && ow) (xs:=base++ys) (Ln:=if (dp && ow)=true then Lb++Ls else []) (Lx:=if (dp && ow)=true then Lb++Ls else Lb++Lx) (off:=off) (len:=len) (nx':=nx')
            hds (ho.imp id fun ⟨a,ha,hh⟩=>⟨a,by simp [ha],hh⟩)
            (by
              intro i hi
              split at hi
              · rename_i hb
                simp only [Bool.and_eq_true] at hb
                rcases List.mem_append.1 hi with hi | hi
                · obtain ⟨a,ha,hia⟩:=(hown hb.1).1 i hi; exact ⟨a,by simp [ha],hia⟩
                · obtain ⟨a,ha,hia⟩:=u2 i hi; exact ⟨a,by simp [ha],hia⟩
              · cases hi)
            (by
              intro i hi
              split at hi
              · rcases List.mem_append.1 hi with hi | hi
                · exact (himm i hi).1.2
                · exact u4 i hi
              · cases hi)
            (by
              refine List.nodup_cons.2 ⟨?_,?_⟩
              · intro hm
                split at hm
                · rcases List.mem_append.1 hm with hm | hm
                  · exact (himm o hm).2 rfl
                  · exact hoLs hm
                · cases hm
              · split
                · rename_i hb
                  simp only [Bool.and_eq_true] at hb
                  refine List.nodup_append.2 ⟨(hown hb.1).2,u3,?_⟩
                  rintro i hi j hj rfl
                  obtain ⟨a,ha,hia⟩:=(hown hb.1).1 i hi
                  exact hdd a ha i hia hj
                · exact List.nodup_nil)
            hnx hfr hage (fun t ht=>by cases ht) (fun t ht=>by cases ht) hsz hsz0 hbs hbw hol
            (by
              rw [hwin]
              split
              · rename_i hb
                rw [hb]
                simp only [Bool.and_eq_true] at hb
                refine RepL.append ?_ (u1 hb.1 hb.2)
                rw [hb.1] at hrep; exact hrep
              · rename_i hb
                have:(dp && ow)=false:=by simpa using hb
                rw [this]
                exact RepL.append hrep.readE s2)
            (fun hb=>by rw [if_pos hb,if_pos hb])
            (fun hb=>by
              rw [if_neg (by rw [hb]; simp),if_neg (by rw [hb]; simp)]
              refine ⟨rfl,fun i hi=>?_⟩
              rcases List.mem_append.1 hi with hi | hi
              · exact (himm i hi).1
              · exact s3 i hi)
            (fun z hz=>⟨(hfine z hz).1,(hfine z hz).2.1,fun hb=>by
              rw [if_pos hb]
              simp only [Bool.and_eq_true] at hb
              rcases (hfine z hz).2.2 hb.1 with q | q
              · exact fineV_mono (fun p hp=>by simp [hp]) z q
              · exact fineV_mono (fun p hp=>by simp [hp]) z (((u1 hb.1 hb.2).fineE z q).2.2 rfl)⟩) (fun hb=>houts (by simp only [Bool.and_eq_true] at hb; exact hb.1))
          exact ⟨_,_,_,_,_,_,nx',hk,hop,r1,fun _=>r2,r3,keepL r4,hnx,rfl,EW.killTo none ps.env,LB.newSl _ _ _ _ _ _ _⟩
        rcases hbase with ⟨b1,b2⟩ | ⟨o,g,n,off,len,b,Lb,a,b1,b2,b3,b4,b5,b6,b7,b8,b9,b10,b11,b12,b13,b14⟩
        · subst b2
          by_cases hes:es=[]
          · subst hes
            have:ys=[]:=List.length_eq_zero_iff.1 hesl
            subst this
            obtain ⟨r1,r2,r3,r4⟩:=R.newNil (del++use) (sz:=sz) (e:=e) (dp:=dp && ow) hsz hsz0
            exact ⟨_,_,.nils,_,_,_,nx,hk,by simp only [operV,s1,b1,hfits,if_true],r1,fun _=>r2,r3,keepL r4,Nat.le_refl _,rfl,EW.killTo none ps.env,LB.newSl _ _ _ _ _ _ _⟩
          · have hsm:es.length * sz≤4294967296:=by simpa [hesl] using hg
            refine mk (.dy nx) ⟨genAt H (.dy nx),sz,true,es⟩ 0 es.length (nx + 1) [] [] (Nat.le_succ nx) (fun q hq e=>by cases e; omega) (Nat.lt_succ_self nx) (.inl (.inl ⟨nx,rfl,Nat.le_refl _⟩)) rfl rfl (by simp) (by simp) rfl
              (fun z hz=>⟨(hfe z hz).1,by rw [(hfe z hz).2.1,hsz],fun _=>.inr hz⟩) (fun _ z hz=>(outW_all (Nat.le_refl _) hz).elim) (fun i hi=>by cases hi) (fun _=>⟨(fun i hi=>by cases hi),List.nodup_nil⟩) ?_
            simp only [operV,s1,b1,hfits,if_true]
            rw [if_neg hes,if_pos hsm]
        · have hlen:base.length=len:=by
            have:=RepL.len b8
            simp only [List.length_take,List.length_drop] at this
            omega
          have hoage:ageI d nx none o:=by
            obtain ⟨ob,z1,_,z3⟩:=hdel a b10
            have:=R.age a ob z1 o (List.mem_of_head? b11)
            rw [z3] at this; exact this
          have hofr:∀ q,nx≤q→o ≠ .dy q:=by
            rintro q hq rfl
            have:q < nx:=hoage
            omega
          have hcond2:b.gen=g∧b.es.length=n∧off + len≤n∧b.w=true∧b.sz=sz:=⟨b3,b4,b5,b6,b7⟩
          have hwl:((b.es.drop off).take len).length=len:=by simp; omega
          by_cases hes:es=[]
          · subst hes
            refine mk o b off len nx ((b.es.drop off).take len) Lb (Nat.le_refl _) hofr hoage (.inr ⟨a,b10,b11⟩) b7 b6 (by omega) (by simp) b8 (fun z hz=>⟨(b9 z hz).1,(b9 z hz).2.1,fun q=>.inl ((b9 z hz).2.2 q)⟩) b14 b12 (fun q=>⟨fun i hi=>⟨a,b10,(b13 q).1 i hi⟩,(b13 q).2⟩) ?_
            simp only [operV,s1,b1,hfits,if_true,b2]
            rw [if_pos hcond2,hupd_self b2,b3,b4]
          · by_cases hin:off + len + es.length≤n
            · refine mk o { b with es:=b.es.take (off + len)++es++b.es.drop (off + len + es.length) } off (len + es.length) nx ((b.es.drop off).take len) Lb (Nat.le_refl _) hofr hoage (.inr ⟨a,b10,b11⟩) b7 b6 (by simp; omega) ?_ b8 ?_ ?_ b12 (fun q=>⟨fun i hi=>⟨a,b10,(b13 q).1 i hi⟩,(b13 q).2⟩) ?_
              · show ((b.es.take (off + len)++es++b.es.drop (off + len + es.length)).drop off).take (len + es.length)=_
                rw [List.append_assoc,List.drop_append_of_le_length (by simp; omega)]
                have e1:(b.es.take (off + len)).drop off=(b.es.drop off).take len:=by rw [List.drop_take]; congr 1; omega
                rw [e1,List.take_append,List.take_of_length_le (by omega)]
                congr 1
                rw [hwl,show len + es.length - len=es.length from by omega,List.take_append_of_le_length (Nat.le_refl _),List.take_length]
              · intro z hz
                have hz:z∈b.es.take (off + len)++es++b.es.drop (off + len + es.length):=hz
                simp only [List.mem_append] at hz
                rcases hz with (hz | hz) | hz
                · have:=b9 z (List.mem_of_mem_take hz); exact ⟨this.1,this.2.1,fun q=>.inl (this.2.2 q)⟩
                · exact ⟨(hfe z hz).1,by rw [(hfe z hz).2.1,hsz],fun _=>.inr hz⟩
                · have:=b9 z (List.mem_of_mem_drop hz); exact ⟨this.1,this.2.1,fun q=>.inl (this.2.2 q)⟩
              · intro q z hz
                have hz:z∈outW (b.es.take (off + len)++es++b.es.drop (off + len + es.length)) off (len + es.length):=hz
                refine b14 q z ?_
                unfold outW at hz ⊢
                rcases List.mem_append.1 hz with hz | hz
                · rw [List.append_assoc,List.take_append_of_le_length (by simp; omega),List.take_take,Nat.min_eq_left (by omega)] at hz
                  exact List.mem_append_left _ hz
                · rw [List.drop_append,List.drop_of_length_le (by simp; omega),List.nil_append,List.drop_drop] at hz
                  refine List.mem_append_right _ ?_
                  have e2:b.es.drop (off + len + es.length + (off + (len + es.length) - (b.es.take (off + len)++es).length))=(b.es.drop (off + len)).drop (es.length + (off + (len + es.length) - (b.es.take (off + len)++es).length)):=by rw [List.drop_drop]; congr 1; omega
                  rw [e2] at hz
                  exact List.mem_of_mem_drop hz
              · simp only [operV,s1,b1,hfits,if_true,b2]
                rw [if_pos hcond2,if_neg hes,if_pos hin]
                have:(b.es.take (off + len)++es++b.es.drop (off + len + es.length)).length=n:=by simp; omega
                rw [this,b3]
            · have hsm:(len + es.length) * sz≤4294967296:=by rw [← hlen,← hesl]; exact hg
              refine mk o { b with gen:=if off=0 then g else g + 1,es:=(b.es.drop off).take len++es } 0 (len + es.length) nx ((b.es.drop off).take len) Lb (Nat.le_refl _) hofr hoage (.inr ⟨a,b10,b11⟩) b7 b6 (by simp; omega) ?_ b8 ?_ ?_ b12 (fun q=>⟨fun i hi=>⟨a,b10,(b13 q).1 i hi⟩,(b13 q).2⟩) ?_
              · show (((b.es.drop off).take len++es).drop 0).take (len + es.length)=_
                rw [List.drop_zero]
                exact List.take_of_length_le (by simp; omega)
              · intro z hz
                have hz:z∈(b.es.drop off).take len++es:=hz
                rcases List.mem_append.1 hz with hz | hz
                · have:=b9 z (List.mem_of_mem_drop (List.mem_of_mem_take hz)); exact ⟨this.1,this.2.1,fun q=>.inl (this.2.2 q)⟩
                · exact ⟨(hfe z hz).1,by rw [(hfe z hz).2.1,hsz],fun _=>.inr hz⟩
              · intro q z hz
                have hz:z∈outW ((b.es.drop off).take len++es) 0 (len + es.length):=hz
                exact (outW_all (by simp; omega) hz).elim
              · simp only [operV,s1,b1,hfits,if_true,b2]
                rw [if_pos hcond2,if_neg hes,if_neg hin,if_pos hsm]
                have:((b.es.drop off).take len++es).length=len + es.length:=by rw [List.length_append,hwl]
                rw [this]
      · cases h
  · cases h
theorem ok_append {sz:Nat} {x y:Opd} (h:opP hn pm dst ps (.append sz x y) k=some r):OpOK T Rn d anV P0 H0 dst E ps μ L H nx k r (.append sz x y):=by
  simp only [opP] at h
  have h1:=R.pev x
  split at h
  · rename_i hx
    rw [hx] at h1
    split at h
    · rename_i sz' e he
      split at h
      · rename_i hc
        exact appendP_ok R hc.2.1 hc.2.2 (.inl ⟨h1,rfl⟩) (fun a ha=>by cases ha) h
      · cases h
    · cases h
  · rename_i a hx
    rw [hx] at h1
    split at h
    · rename_i ver sz' e dp xs hc
      split at h
      · rename_i hs
        subst hs
        have hl:live ps.heap a:=live_iff.2 ⟨_,hc⟩
        obtain ⟨s0,s1,s2⟩:=R.ob a _ hc
        refine appendP_ok R s0 s1 ?_ (fun c hc'=>by obtain rfl:c=a:=(by simpa using hc'); exact ⟨_,hc,rfl,rfl⟩) h
        obtain ⟨_,h2,_⟩:=h1
        have h2:ev E x=μ a:=h2
        rcases s2 with ⟨t1,t2,_⟩ | ⟨o,g,n,off,len,b,Lx,t1,t2,t3,t4,t5,t6,t7,t8,t9,t10,t11⟩
        · exact .inl ⟨h2.trans t1,t2⟩
        · have t10:L a=o :: (if dp=true then Lx else []):=t10
          refine .inr ⟨o,g,n,off,len,b,Lx,a,h2.trans t1,t2,t3,t4,t5,t7 rfl,t6,t8,t9,by simp,by rw [t10]; rfl,?_,fun q=>?_,t11.2⟩
          · intro i hi
            cases dp with
            | true=>
              have hL:L a=o :: Lx:=by simpa using t10
              refine ⟨ids_nested R hl hL i hi,?_⟩
              rintro rfl
              have:=R.nd a hl
              rw [hL] at this
              exact (List.nodup_cons.1 this).1 hi
            | false=>
              refine ⟨t11.1 rfl i hi,?_⟩
              rintro rfl
              exact (t11.1 rfl i hi).1 ⟨a,hl,by show (L a).head? = some i; rw [t10]; rfl⟩
          · subst q
            have hL:L a=o :: Lx:=by simpa using t10
            have hnd:=R.nd a hl
            rw [hL] at hnd
            exact ⟨fun i hi=>by rw [hL]; simp [hi],(List.nodup_cons.1 hnd).2⟩
      · cases h
    · cases h
  · rename_i a off len hx
    rw [hx] at h1
    split at h
    · rename_i ver sz' e dp xs hc
      split at h
      · rename_i hs
        obtain ⟨rfl,hflat⟩:=hs
        have hl:live ps.heap a:=live_iff.2 ⟨_,hc⟩
        obtain ⟨s0,s1,s2⟩:=R.ob a _ hc
        refine appendP_ok R s0 s1 ?_ (fun c hc'=>by obtain rfl:c=a:=(by simpa using hc'); exact ⟨_,hc,rfl,rfl⟩) h
        obtain ⟨y0,y1⟩:=h1
        rcases y1 with ⟨y2,y3,rfl,rfl⟩ | ⟨o,g,m,off0,len0,y2,y3,y4⟩
        · exact .inl ⟨y3,by simp [sub_def]⟩
        · have y2:μ a=_:=y2
          rcases s2 with ⟨t1,t2,_⟩ | ⟨o',g',n,off',len',b,Lx,t1,t2,t3,t4,t5,t6,t7,t8,t9,t10,t11⟩
          · have t1:μ a = .nils:=t1
            rw [y2] at t1; cases t1
          · have t1:μ a=_:=t1
            rw [y2] at t1
            cases t1
            have t10:L a=o :: (if dp=true then Lx else []):=t10
            obtain ⟨t8',rfl⟩:=RepL.flatE (own':=dp) (H':=H) hflat t8
            obtain ⟨M,m1,m2⟩:=t8'.sub off len
            have hM:M=[]:=List.eq_nil_iff_forall_not_mem.2 fun i hi=>by simpa using m2 i hi
            subst hM
            refine .inr ⟨o,g,m,off0 + off,len,b,[],a,y4,t2,t3,t4,by omega,t7 rfl,t6,?_,t9,by simp,by rw [t10]; rfl,(fun i hi=>by cases hi),fun q=>⟨(fun i hi=>by cases hi),List.nodup_nil⟩,fun q z hz=>fineV_mono (fun p hp=>by cases hp) z ((t9 z (outW_mem hz)).2.2 q)⟩
            rw [take_drop_sub _ _ _ _ _ y3,sub_def]
            exact m1
      · cases h
    · cases h
  · cases h
end
end Go.Am
/- The machine on typed data against the small machine: part of a slice is written anew. -/
namespace Go.Am
theorem window_put {α:Type} (es vs:List α) (off0 len0 off:Nat) (h:off + vs.length≤len0) (hn:off0 + len0≤es.length) :
  ((es.take (off0 + off)++vs++es.drop (off0 + off + vs.length)).drop off0).take len0=((es.drop off0).take len0).take off++(vs++((es.drop off0).take len0).drop (off + vs.length)):=by
 apply List.ext_getElem?
 intro i
 simp only [List.getElem?_take,List.getElem?_drop,List.getElem?_append,List.length_append,List.length_take,List.length_drop]
 repeat' split
 all_goals first | omega | rfl | (congr 1; omega)
section
variable {T:Tab} {Rn:Run} {d:Nat} {anV:List AV} {P0:Id→Prop} {H0:Heap} {ps:PS} {μ:Nat→AV} {L:Nat→List Id} {E:AEnv} {H:Heap} {nx:Nat} {dst:Option Nat} {hn:Hints} {pm:List Nat} {ρ:Type} {r:ρ} {k:PV→PS→Option ρ}
variable (R:Rel d anV P0 H0 ps μ L E H nx)
include R
theorem ok_setWin {o:AOp} {res:PV} {rv:AV} {a:Nat} {ver:Nat} {tmp:Option Nat} {sz:Nat} {e:Kd} {dp:Bool} {xs:List e.den} (hc:hget ps.heap a=some (.sl false ver tmp sz e dp xs)) (hf:e.flat=true)
  {id:Id} {g n off0 len0:Nat} (hmu:μ a = .ref id g n off0 len0) {b:Obj} (hb:H id=some b) {off:Nat} {ys zs:List e.den} {vs:List AV} (hz:∀ H',RepL (Rep true H' e) zs vs []) (hle:off + zs.length≤len0)
  (hys:ys=xs.take off++(zs++xs.drop (off + zs.length))) (hk:k res { ps with heap:=hset ps.heap a (some (.sl false (ver + 1) tmp sz e dp ys)) }=some r)
  (hrv:∀ X:Vw,VR X res rv)
  (hop:operV T Rn (8 * d) dst E H nx o=some (rv,hupd H id { b with es:=b.es.take (off0 + off)++vs++b.es.drop (off0 + off + vs.length) },nx)) :
  OpOK T Rn d anV P0 H0 dst E ps μ L H nx k r o:=by
 obtain ⟨s0,s1,s2⟩:=R.ob a _ hc
 rcases s2 with ⟨t1,_⟩ | ⟨o',g',n',off',len',b',L',t1,t2,t3,t4,t5,t6,t7,t8,t9,t10,t11⟩
 ·have t1:μ a = .nils:=t1
  rw [hmu] at t1; cases t1
 ·have t1:μ a = .ref o' g' n' off' len':=t1
  rw [hmu] at t1
  cases t1
  have t2:H id=some b':=t2
  rw [hb] at t2
  cases t2
  have hL':=RepL.flat0 hf t8
  subst hL'
  have t10:L a=id :: (if dp=true then [] else []):=t10
  have hLa:L a=[id]:=by rw [t10]; cases dp <;> rfl
  have hlen:zs.length=vs.length:=(hz H).len
  have hxl:=t8.len
  have hwl:((b.es.drop off0).take len0).length=len0:=by simp; omega
  have hL:id∈L a:=by rw [hLa]; simp
  have htop:(⟨d,ps.heap,μ,L,H,nx⟩:Vw).top id:=⟨a,live_iff.2 ⟨_,hc⟩,by show (L a).head? = some id; rw [hLa]; rfl⟩
  generalize hes:b.es.take (off0 + off)++vs++b.es.drop (off0 + off + vs.length)=es' at hop
  have hesl:es'.length=b.es.length:=by rw [← hes]; simp; omega
  have ho':∀ b' ob,hget (hset ps.heap a (some (.sl false (ver + 1) tmp sz e dp ys))) b'=some ob→(b'=a∧ob = .sl false (ver + 1) tmp sz e dp ys)∨(b'≠a∧hget ps.heap b'=some ob):=by
   intro b' ob hb
   rw [hget_hset] at hb
   split at hb
   ·rename_i hh
    cases hb
    exact .inl ⟨hh.1,rfl⟩
   ·rename_i hne
    exact .inr ⟨fun e=>hne ⟨e,hget_lt hc⟩,hb⟩
  have gr:=R.chg (tm:=none) (env':=ps.env) (hp':=hset ps.heap a (some (.sl false (ver + 1) tmp sz e dp ys))) (H':=hupd H id { b with es:=es' }) (fun i=>i=id) hset_length (fun i hi=>.inl (by rw [hi]; exact htop)) (fun i hi=>hupd_ne H _ hi)
   (fun b' ob hb=>by
    rcases ho' b' ob hb with ⟨rfl,rfl⟩ | ⟨_,z⟩
    ·exact ⟨_,hc,.inl (Nat.lt_succ_self _),fun t' h'=>by cases h'⟩
    ·exact ⟨ob,z,laterO.refl _,fun t' h'=>by cases h'⟩)
  refine ⟨_,_,_,μ,L,_,nx,hk,hop,?_,fun _=>hrv _,by show _≤(hset ps.heap a _).length; rw [hset_length]; exact Nat.le_refl _,fun _ _=>⟨rfl,fun _=>rfl⟩,Nat.le_refl _,rfl,EW.refl _,LB.set (fun _=>live_iff.2 ⟨_,hc⟩)⟩
  refine Rel.next R (tm:=none) (Ch:=fun c=>c=a) gr (fun u=>.inr ⟨rfl,fun t' h'=>by cases h'⟩) ?_ ?_ (Nat.le_refl _) (fresh_top R hc hL) (hp0_top R hc rfl hL)
  ·intro b' ob hb hne
   rcases ho' b' ob hb with ⟨z,_⟩ | ⟨z2,z1⟩
   ·exact (hne z).elim
   ·exact ⟨z1,rfl,fun i hi=>hupd_ne H _ (not_other R (live_iff.2 ⟨_,z1⟩) z2 hc hL i hi)⟩
  ·rintro b' ob hb rfl
   rcases ho' b' ob hb with ⟨_,rfl⟩ | ⟨z,_⟩
   ·refine ⟨⟨s0,s1,.inr ⟨id,g,n,off0,len0,{ b with es:=es' },[],hmu,hupd_same _ _ _,t3,by show es'.length=n; rw [hesl]; exact t4,t5,t6,fun _=>t7 rfl,?_,?n9,t10,fun q j hj=>(by cases hj),fun q z hz=>fineV_mono (fun p hp=>by cases hp) z ((?n9 z (outW_mem hz)).2.2 q)⟩⟩,R.nd b' (live_iff.2 ⟨_,hc⟩),(show ∀ i∈L b',ageI d nx tmp i from R.age b' _ hc),fun _=>R.p1 b' _ hc rfl,R.tl b' (live_iff.2 ⟨_,hc⟩),fun t ht=>R.st b' _ t hc ht,?_⟩
    ·show RepL _ ys ((es'.drop off0).take len0) []
     have hwin:(es'.drop off0).take len0=((b.es.drop off0).take len0).take off++(vs++((b.es.drop off0).take len0).drop (off + vs.length)):=by
      rw [← hes]; exact window_put _ _ _ _ _ (by omega) (by omega)
     rw [hwin,hys]
     obtain ⟨L1,L2,w1,w2,_⟩:=RepL.split off t8
     have:=RepL.flat0 hf w1
     subst this
     obtain ⟨L3,L4,w3,w4,_⟩:=RepL.split (off + zs.length) t8
     have:=RepL.flat0 hf w4
     subst this
     rw [← hlen]
     have z0:RepL (Rep dp (hupd H id { b with es:=es' }) e) zs vs []:=by
      refine (hz (hupd H id { b with es:=es' })).imp fun x v L' _ hl h=>?_
      have:L'=[]:=by
       cases L' with
       | nil=>rfl
       | cons q _=>cases hl q (by simp)
      subst this
      exact (h.flat (own':=dp) (H':=hupd H id { b with es:=es' }) hf).1
     exact RepL.append (L:=[]) (M:=[]) (RepL.frame (fun i hi=>by cases hi) w1) (RepL.append (L:=[]) (M:=[]) z0 (RepL.frame (fun i hi=>by cases hi) w4))
    ·intro q hq
     have hq:q∈es':=hq
     rw [← hes] at hq
     rcases List.mem_append.1 hq with hq | hq
     ·rcases List.mem_append.1 hq with hq | hq
      ·exact t9 q (List.mem_of_mem_take hq)
      ·obtain ⟨i,hi,e1⟩:=List.getElem_of_mem hq
       have hx:zs[i]? = some zs[i]:=List.getElem?_eq_getElem (by omega)
       obtain ⟨v,Lv,g1,g2,g3⟩:=RepL.get (hz H) i _ hx
       have e2:vs[i]? = some q:=by rw [List.getElem?_eq_getElem hi,e1]
       rw [e2] at g1
       cases g1
       have hst:=g2.stor
       refine ⟨hst.1,by rw [hst.2.1]; exact s0.symm,fun _=>fineV_mono (fun p hp=>by have:=g3 p hp; cases this) q (Rep.fine e _ q _ g2)⟩
     ·exact t9 q (List.mem_of_mem_drop hq)
    ·intro c2 hne hl2 i2 hi hi2
     obtain ⟨o2,ho2⟩:=live_iff.1 hl2
     rcases ho' c2 o2 ho2 with ⟨z,_⟩ | ⟨_,z⟩
     ·exact hne z
     ·exact R.dis b' c2 (Ne.symm hne) (live_iff.2 ⟨_,hc⟩) (live_iff.2 ⟨_,z⟩) i2 hi hi2
   ·exact (z rfl).elim
omit R in
theorem zero_rel {μ:Nat→AV} {L:Nat→List Id} {H:Heap} {nx d:Nat} {e:Kd} {z:AV} {y:e.den} {ns:List Nat} (hf:e.flat=true) (h:asOwn [] e (constA z)=some (y,ns)):∀ H',Rep true H' e y z []:=by
 let X0:Vw:=⟨d,[],μ,L,H,nx⟩
 obtain ⟨q1,q2⟩:=asOwn_rel (X:=X0) (fun a ob ha=>by simp [X0,hget] at ha) (constA_rel z) h
 intro H'
 have hns:ns=[]:=by
  cases ns with
  | nil=>rfl
  | cons a q=>obtain ⟨_,_,_,_,ha⟩:=q2 a (by simp); simp [X0,hget] at ha
 subst hns
 have q1:Rep true H e y z []:=q1
 obtain ⟨w,_⟩:=q1.flat (own':=true) (H':=H') hf
 exact w
omit R in
theorem repl_rel {H:Heap} {e:Kd} {z:AV} {y:e.den} (h:Rep true H e y z []):∀ n,RepL (Rep true H e) (List.replicate n y) (List.replicate n z) []
 | 0=>rfl
 | n + 1=>⟨[],[],h,repl_rel h n,rfl⟩
theorem ok_clear {z:AV} {x:Opd} (h:opP hn pm dst ps (.clear z x) k=some r):OpOK T Rn d anV P0 H0 dst E ps μ L H nx k r (.clear z x):=by
 simp only [opP] at h
 have h1:=R.pev x
 have vt:∀ X:Vw,VR X (.tup []) (.tup []):=fun X=>⟨[],rfl,trivial⟩
 split at h
 ·rename_i a hx
  rw [hx] at h1
  obtain ⟨_,hv,_⟩:=h1
  split at h
  ·rename_i ver tmp sz e dp xs hc
   split at h
   ·rename_i y ns hf hz
    have hzr:=zero_rel (μ:=μ) (L:=L) (H:=H) (nx:=nx) (d:=d) hf hz
    obtain ⟨s0,s1,s2⟩:=R.ob a _ hc
    rcases s2 with ⟨t1,t2,t3⟩ | ⟨o,g,n,off0,len0,b,L',t1,t2,t3,t4,t5,t6,t7,t8,t9,t10,t11⟩
    ·have t1:μ a = .nils:=t1
     have hv:ev E x = .nils:=hv.trans t1
     have hop:operV T Rn (8 * d) dst E H nx (.clear z x)=some (.tup [],H,nx):=by simp only [operV,hv]
     subst t2
     have gr:=R.chg (tm:=none) (env':=ps.env) (hp':=hset ps.heap a (some (.sl false (ver + 1) tmp sz e dp (repL (lenN ([]:List e.den)) y)))) (H':=H) (fun i=>False) hset_length (fun i hi=>hi.elim) (fun i hi=>rfl)
      (fun b' ob hb=>by
       rw [hget_hset] at hb
       split at hb
       ·rename_i hh
        cases hb
        rw [hh.1]
        exact ⟨_,hc,.inl (Nat.lt_succ_self _),fun t' h'=>by cases h'⟩
       ·exact ⟨ob,hb,laterO.refl _,fun t' h'=>by cases h'⟩)
     have hre:repL (lenN ([]:List e.den)) y=[]:=by rw [repL_def,lenN_def]; rfl
     refine ⟨_,_,_,μ,L,_,nx,h,hop,?_,fun _=>vt _,by show _≤(hset ps.heap a _).length; rw [hset_length]; exact Nat.le_refl _,fun _ _=>⟨rfl,fun _=>rfl⟩,Nat.le_refl _,rfl,EW.refl _,LB.set (fun _=>live_iff.2 ⟨_,hc⟩)⟩
     refine Rel.next R (tm:=none) (Ch:=fun c=>c=a) gr (fun u=>.inr ⟨rfl,fun t' h'=>by cases h'⟩) ?_ ?_ (Nat.le_refl _) R.fresh (fun i hi=>rfl)
     ·intro b' ob hb hne
      rw [hget_hset] at hb
      split at hb
      ·rename_i hh; exact (hne hh.1).elim
      ·exact ⟨hb,rfl,fun i hi=>rfl⟩
     ·rintro b' ob hb rfl
      rw [hget_hset,if_pos ⟨rfl,hget_lt hc⟩] at hb
      cases hb
      refine ⟨⟨s0,s1,.inl ⟨t1,hre,t3⟩⟩,R.nd b' (live_iff.2 ⟨_,hc⟩),(show ∀ i∈L b',ageI d nx tmp i from R.age b' _ hc),fun _=>R.p1 b' _ hc rfl,R.tl b' (live_iff.2 ⟨_,hc⟩),fun t ht=>R.st b' _ t hc ht,?_⟩
      intro c2 hne hl2 i2 hi hi2
      have t3:L b'=[]:=t3
      rw [t3] at hi
      cases hi
    ·have t1:μ a = .ref o g n off0 len0:=t1
     have t2:H o=some b:=t2
     have hv:ev E x = .ref o g n off0 len0:=hv.trans t1
     have hxl:xs.length=len0:=by have:=t8.len; simp at this; omega
     refine ok_setWin R hc hf t1 t2 (off:=0) (zs:=List.replicate len0 y) (vs:=List.replicate len0 z) (rv:=.tup []) (fun H'=>repl_rel (hzr H') _) (by simp) ?_ h vt ?_
     ·rw [repL_def,lenN_def,hxl]; simp
      omega
     ·have hst:=(hzr H).stor
      simp only [operV,hv,t2]
      rw [if_pos ⟨t3,t4,t5,t7 rfl,by rw [hst.2.1,t6]; exact s0.symm,hst.1⟩]
      simp
   ·cases h
  ·cases h
 ·rename_i a off len hx
  rw [hx] at h1
  obtain ⟨_,hv⟩:=h1
  split at h
  ·rename_i ver tmp sz e dp xs hc
   split at h
   ·rename_i y ns hf hz
    have hzr:=zero_rel (μ:=μ) (L:=L) (H:=H) (nx:=nx) (d:=d) hf hz
    obtain ⟨s0,s1,s2⟩:=R.ob a _ hc
    rcases hv with ⟨q0,hv,rfl,rfl⟩ | ⟨o',g',n',off0',len0',q0,q2,hv⟩
    ·rcases s2 with ⟨t1,t2,t3⟩ | ⟨o,g,n,off0,len0,b,L',t1,_⟩
     ·have q0:μ a = .nils:=q0
      have hop:operV T Rn (8 * d) dst E H nx (.clear z x)=some (.tup [],H,nx):=by simp only [operV,hv]
      subst t2
      have hre:cat (sub ([]:List e.den) 0 0) (cat (repL 0 y) (dropL (addN 0 0) []))=[]:=by rw [cat_def,cat_def,sub_def,repL_def,dropL_def]; simp
      have gr:=R.chg (tm:=none) (env':=ps.env) (hp':=hset ps.heap a (some (.sl false (ver + 1) tmp sz e dp (cat (sub ([]:List e.den) 0 0) (cat (repL 0 y) (dropL (addN 0 0) [])))))) (H':=H) (fun i=>False) hset_length (fun i hi=>hi.elim) (fun i hi=>rfl)
       (fun b' ob hb=>by
        rw [hget_hset] at hb
        split at hb
        ·rename_i hh
         cases hb
         rw [hh.1]
         exact ⟨_,hc,.inl (Nat.lt_succ_self _),fun t' h'=>by cases h'⟩
        ·exact ⟨ob,hb,laterO.refl _,fun t' h'=>by cases h'⟩)
      refine ⟨_,_,_,μ,L,_,nx,h,hop,?_,fun _=>vt _,by show _≤(hset ps.heap a _).length; rw [hset_length]; exact Nat.le_refl _,fun _ _=>⟨rfl,fun _=>rfl⟩,Nat.le_refl _,rfl,EW.refl _,LB.set (fun _=>live_iff.2 ⟨_,hc⟩)⟩
      refine Rel.next R (tm:=none) (Ch:=fun c=>c=a) gr (fun u=>.inr ⟨rfl,fun t' h'=>by cases h'⟩) ?_ ?_ (Nat.le_refl _) R.fresh (fun i hi=>rfl)
      ·intro b' ob hb hne
       rw [hget_hset] at hb
       split at hb
       ·rename_i hh; exact (hne hh.1).elim
       ·exact ⟨hb,rfl,fun i hi=>rfl⟩
      ·rintro b' ob hb rfl
       rw [hget_hset,if_pos ⟨rfl,hget_lt hc⟩] at hb
       cases hb
       refine ⟨⟨s0,s1,.inl ⟨t1,hre,t3⟩⟩,R.nd b' (live_iff.2 ⟨_,hc⟩),(show ∀ i∈L b',ageI d nx tmp i from R.age b' _ hc),fun _=>R.p1 b' _ hc rfl,R.tl b' (live_iff.2 ⟨_,hc⟩),fun t ht=>R.st b' _ t hc ht,?_⟩
       intro c2 hne hl2 i2 hi hi2
       have t3:L b'=[]:=t3
       rw [t3] at hi
       cases hi
     ·have q0:μ a = .nils:=q0
      have t1:μ a = .ref o g n off0 len0:=t1
      rw [q0] at t1; cases t1
    ·rcases s2 with ⟨t1,_⟩ | ⟨o,g,n,off0,len0,b,L',t1,t2,t3,t4,t5,t6,t7,t8,t9,t10,t11⟩
     ·have t1:μ a = .nils:=t1
      have q0:μ a = .ref o' g' n' off0' len0':=q0
      rw [q0] at t1; cases t1
     ·have t1:μ a = .ref o g n off0 len0:=t1
      have q0:μ a = .ref o' g' n' off0' len0':=q0
      have q0:=t1.symm.trans q0
      simp only [AV.ref.injEq] at q0
      obtain ⟨rfl,rfl,rfl,rfl,rfl⟩:=q0
      have t2:H o=some b:=t2
      refine ok_setWin R hc hf t1 t2 (off:=off) (zs:=List.replicate len y) (vs:=List.replicate len z) (rv:=.tup []) (fun H'=>repl_rel (hzr H') _) (by simpa using q2) ?_ h vt ?_
      ·simp only [cat_def,sub_def,repL_def,dropL_def,addN_def]
       simp
      ·have hst:=(hzr H).stor
       simp only [operV,hv,t2]
       rw [if_pos ⟨t3,t4,by omega,t7 rfl,by rw [hst.2.1,t6]; exact s0.symm,hst.1⟩]
       simp
   ·cases h
  ·cases h
 ·rename_i hx
  rw [hx] at h1
  have h1:ev E x = .nils:=h1
  exact PureOK.op R ⟨_,.tup [],h,by simp only [operV,h1],[],rfl,trivial⟩
 ·cases h
end
end Go.Am
/- The machine on typed data against the small machine: any operation but a call. -/
namespace Go.Am
def layT (o:AOper):List Nat:=match o.op with
 | .alloc _ | .box _ | .bslice _ _=>opt1 o.dst
 | _=>[]
section
variable {T:Tab} {Rn:Run} {d:Nat} {anV:List AV} {P0:Id→Prop} {H0:Heap} {ps:PS} {μ:Nat→AV} {L:Nat→List Id} {E:AEnv} {H:Heap} {nx:Nat} {dst:Option Nat} {hn:Hints} {pm:List Nat} {ρ:Type} {r:ρ} {k:PV→PS→Option ρ}
theorem op_ok (R:Rel d anV P0 H0 ps μ L E H nx) {o:AOp} (hp:∀ t∈layT ⟨dst,none,o⟩,¬ P0 (.st d t)) (hst:∀ n a x,o = .store n a x→dst=none) (h:opP hn pm dst ps o k=some r) :
  OpOK T Rn d anV P0 H0 dst E ps μ L H nx k r o:=by
 have hp':∀ z,(o = .alloc z∨(∃ x,o = .box x)∨∃ a b,o = .bslice a b)→∀ t,dst=some t→¬ P0 (.st d t):=by
  intro z hz t ht
  refine hp t ?_
  subst ht
  rcases hz with rfl | ⟨x,rfl⟩ | ⟨a,b,rfl⟩ <;> simp [layT,opt1]
 cases o with
 | mov x=>exact (ok_mov R h).op R
 | pick c a b=>exact (ok_pick R h).op R
 | nilc x=>exact (ok_nilc R h).op R
 | alloc z=>exact ok_alloc R (hp' z (.inl rfl)) h
 | box x=>exact ok_box R (hp' .nils (.inr (.inl ⟨x,rfl⟩))) h
 | build z ps=>exact (ok_build R h).op R
 | bslice sz l=>exact ok_bslice R (hp' .nils (.inr (.inr ⟨sz,l,rfl⟩))) h
 | bsliceD sz l=>exact ok_bsliceD R h
 | load ag n a=>exact (ok_load R h).op R
 | store n a x=>exact ok_store R (hst n a x rfl) h
 | bin op x y=>exact (ok_bin R h).op R
 | binB op x y=>exact (ok_binB R h).op R
 | binS neg ls x y=>exact (ok_binS R h).op R
 | un op x=>exact (ok_un R h).op R
 | conv k x=>exact (ok_conv R h).op R
 | same x=>exact (ok_same R h).op R
 | b2s x=>exact (ok_b2s R h).op R
 | s2b x=>exact ok_s2b R h
 | mkfn f l=>exact (ok_mkfn R h).op R
 | mksl sz z n=>exact ok_mksl R h
 | slice sz x lo hi mx=>exact (ok_slice R h).op R
 | faddr x off=>exact (ok_faddr R h).op R
 | field x off n ag=>exact (ok_field R h).op R
 | iaddr sz x i=>exact (ok_iaddr R h).op R
 | index x i=>exact (ok_index R h).op R
 | len str x=>exact (ok_len R h).op R
 | append sz x y=>exact ok_append R h
 | copy sz x y=>simp only [opP] at h; cases h
 | clear z x=>exact ok_clear R h
 | minmax mx l=>exact (ok_minmax R h).op R
 | extract x i=>exact (ok_extract R h).op R
 | caps x g m i=>exact (ok_caps R h).op R
 | tupl l=>exact (ok_tupl R h).op R
 | call f args=>simp only [opP] at h; cases h
 | callv f args=>simp only [opP] at h; cases h
end
end Go.Am
/- The machine on typed data against the small machine: a state made plain,first step. -/
namespace Go.Am
def NilsO (os:List (Option PObj)):Prop:=∀ o∈os,∃ sz e,o=some (.sl false 0 none sz e true [])∧sz=e.cn∧0 < sz
theorem NilsO.nil:NilsO []:=fun o h=>by cases h
theorem NilsO.app {a b:List (Option PObj)} (h:NilsO a) (k:NilsO b):NilsO (a++b):=fun o ho=>(List.mem_append.1 ho).elim (h o) (k o)
theorem goodSl_spec {sz:Nat} {e:Kd} (h:goodSl sz e=true):sz=e.cn∧0 < sz:=by
 simp only [goodSl,Bool.and_eq_true,Nat.blt_eq] at h
 exact ⟨Nat.eq_of_beq_eq_true h.1,h.2⟩
structure Thaw (X Y:Vw):Prop where
 g:Grow X Y none
 nil:∀ n,X.hp.length≤n→Y.μ n = .nils
theorem thawL_rel {X Y:Vw} (T:Thaw X Y) {b:Bool} {n:Nat} {t:Kd} {v v':PV} {os:List (Option PObj)} {a:AV} (hv:VR X v a) (h:thawL b n t v=(v',os)) :
  NilsO os∧(X.hp.length≤n→n + os.length≤Y.hp.length→VR Y v' a)∧(cellLeaf v=true→cellLeaf v'=true):=by
 have same:(v,([]:List (Option PObj)))=(v',os)→NilsO os∧(X.hp.length≤n→n + os.length≤Y.hp.length→VR Y v' a)∧(cellLeaf v=true→cellLeaf v'=true):=by
  intro e
  cases e
  exact ⟨NilsO.nil,fun _ _=>VR.mono T.g v a (fun _ h=>by cases h) hv,fun h=>h⟩
 cases t with
 | sl sz e=>
  cases v with
  | nils=>
   simp only [thawL] at h
   have hv:a = .nils:=hv
   subst hv
   split at h
   ·rename_i hg
    cases h
    refine ⟨fun o ho=>?_,fun h1 h2=>⟨?_,(T.nil n h1).symm,trivial⟩,fun _=>rfl⟩
    ·obtain rfl:=List.mem_singleton.1 ho
     exact ⟨sz,e,rfl,goodSl_spec hg⟩
    ·simp at h2; omega
   ·cases h
    exact ⟨NilsO.nil,fun _ _=>⟨[],.inl ⟨rfl,rfl,rfl⟩,fun _=>rfl,fun i hi=>by cases hi⟩,fun _=>rfl⟩
  | _=>exact same h
 | _=>exact same (by cases v <;> exact h)
theorem thawLs_rel {X Y:Vw} (T:Thaw X Y) {b:Bool}:∀ {n:Nat} {fs:List Kd} {vs vs':List PV} {os:List (Option PObj)} {as:List AV},VRs X vs as→thawLs b n fs vs=(vs',os) →
  NilsO os∧(X.hp.length≤n→n + os.length≤Y.hp.length→VRs Y vs' as)∧(vs.all cellLeaf=true→vs'.all cellLeaf=true)∧vs'.length=vs.length
 | n,[],vs,vs',os,as,hv,h=>by
  simp only [thawLs] at h
  cases h
  exact ⟨NilsO.nil,fun _ _=>VRs.mono T.g vs as (fun _ h=>by cases h) hv,fun h=>h,rfl⟩
 | n,t :: r,[],vs',os,as,hv,h=>by
  simp only [thawLs] at h
  cases h
  exact ⟨NilsO.nil,fun _ _=>VRs.mono T.g [] as (fun _ h=>by cases h) hv,fun h=>h,rfl⟩
 | n,t :: r,v :: q,vs',os,[],hv,h=>hv.elim
 | n,t :: r,v :: q,vs',os,a :: as,hv,h=>by
  simp only [thawLs] at h
  generalize h1:thawL b n t v=p1 at h
  obtain ⟨v1,o1⟩:=p1
  simp only at h
  generalize h2:thawLs b (n + o1.length) r q=p2 at h
  obtain ⟨v2,o2⟩:=p2
  cases h
  obtain ⟨a1,a2,a3⟩:=thawL_rel T hv.1 h1
  obtain ⟨b1,b2,b3,b4⟩:=thawLs_rel T hv.2 h2
  refine ⟨a1.app b1,fun e1 e2=>?_,fun e=>?_,by simp [b4]⟩
  ·have e2:n + (o1++o2).length≤Y.hp.length:=e2
   rw [List.length_append] at e2
   exact ⟨a2 e1 (by omega),b2 (by omega) (by omega)⟩
  ·simp only [List.all_cons,Bool.and_eq_true] at e ⊢
   exact ⟨a3 e.1,b3 e.2⟩
theorem thawV_rel {X Y:Vw} (T:Thaw X Y) {hn:Option (Kd×Bool)} {n:Nat} {v v':PV} {os:List (Option PObj)} {a:AV} (hv:VR X v a) (h:thawV hn n v=(v',os)) :
  NilsO os∧(X.hp.length≤n→n + os.length≤Y.hp.length→VR Y v' a)∧(cellOK v=true→cellOK v'=true):=by
 have same:(v,([]:List (Option PObj)))=(v',os)→NilsO os∧(X.hp.length≤n→n + os.length≤Y.hp.length→VR Y v' a)∧(cellOK v=true→cellOK v'=true):=by
  intro e
  cases e
  exact ⟨NilsO.nil,fun _ _=>VR.mono T.g v a (fun _ h=>by cases h) hv,fun h=>h⟩
 have leaf:∀ (t:Kd) (b:Bool),thawL b n t v=(v',os)→NilsO os∧(X.hp.length≤n→n + os.length≤Y.hp.length→VR Y v' a)∧(cellOK v=true→cellOK v'=true):=by
  intro t b h
  obtain ⟨a1,a2,a3⟩:=thawL_rel T hv h
  refine ⟨a1,a2,fun hc=>?_⟩
  cases t with
  | sl sz e=>
   cases v with
   | nils=>
    simp only [thawL] at h
    split at h <;> cases h <;> rfl
   | _=>cases h; exact hc
  | _=>cases v <;> (cases h; exact hc)
 cases hn with
 | none=>exact same h
 | some p=>
  obtain ⟨t,b⟩:=p
  cases t with
  | st fs=>
   cases v with
   | agg cs=>
    simp only [thawV] at h
    generalize h1:thawLs b n fs cs=p1 at h
    obtain ⟨vs,o1⟩:=p1
    cases h
    obtain ⟨a1,a2,a3,a4⟩:=thawLs_rel T hv.2 h1
    refine ⟨a1,fun e1 e2=>⟨hv.1,a2 e1 e2⟩,fun hc=>?_⟩
    simp only [cellOK,Bool.and_eq_true] at hc ⊢
    refine ⟨a3 hc.1,?_⟩
    have:cs≠[]:=by intro e; subst e; simp at hc
    cases vs with
    | nil=>exact (this (List.length_eq_zero_iff.1 a4.symm)).elim
    | cons=>rfl
   | _=>exact same h
  | int k=>exact leaf (.int k) b h
  | bool=>exact leaf .bool b h
  | str=>exact leaf .str b h
  | sl sz e=>exact leaf (.sl sz e) b h
theorem thawE_rel {X Y:Vw} (T:Thaw X Y) {hn:Hints} {E:AEnv}:∀ {n:Nat} {e e':List (Nat×PV)} {os:List (Option PObj)},(∀ t v,(t,v)∈e→VR X v (E t))→thawE hn n e=(e',os) →
  NilsO os∧(X.hp.length≤n→n + os.length≤Y.hp.length→∀ t v,(t,v)∈e'→VR Y v (E t))
 | n,[],e',os,_,h=>by cases h; exact ⟨NilsO.nil,fun _ _ t v h=>by cases h⟩
 | n,(t,v) :: r,e',os,hv,h=>by
  simp only [thawE] at h
  generalize h1:thawV (hintOf hn t) n v=p1 at h
  obtain ⟨v1,o1⟩:=p1
  simp only at h
  generalize h2:thawE hn (n + o1.length) r=p2 at h
  obtain ⟨v2,o2⟩:=p2
  cases h
  obtain ⟨a1,a2,a3⟩:=thawV_rel T (hv t v (by simp)) h1
  obtain ⟨b1,b2⟩:=thawE_rel T (fun u w hw=>hv u w (by simp [hw])) h2
  refine ⟨a1.app b1,fun e1 e2 u w hw=>?_⟩
  have e2:n + (o1++o2).length≤Y.hp.length:=e2
  rw [List.length_append] at e2
  rcases List.mem_cons.1 hw with hw | hw
  ·cases hw; exact a2 e1 (by omega)
  ·exact b2 (by omega) (by omega) u w hw
theorem thawO_spec {hn:Hints}:∀ {n:Nat} {hp hp1:List (Option PObj)} {os:List (Option PObj)},thawO hn n hp=(hp1,os)→hp1.length=hp.length ∧
  ∀ a,(∃ tmp v v' n' os',hget hp a=some (.cell false tmp v)∧hget hp1 a=some (.cell false tmp v')∧thawV (hintC hn tmp v) n' v=(v',os')∧n≤n'∧n' + os'.length≤n + os.length)∨hget hp1 a=hget hp a
 | n,[],hp1,os,h=>by cases h; exact ⟨rfl,fun a=>.inr rfl⟩
 | n,o :: r,hp1,os,h=>by
  have other:(match thawO hn n r with | (r',os')=>(o :: r',os'))=(hp1,os)→hp1.length=(o :: r).length ∧
    ∀ a,(∃ tmp v v' n' os',hget (o :: r) a=some (.cell false tmp v)∧hget hp1 a=some (.cell false tmp v')∧thawV (hintC hn tmp v) n' v=(v',os')∧n≤n'∧n' + os'.length≤n + os.length)∨hget hp1 a=hget (o :: r) a:=by
   intro h
   generalize h2:thawO hn n r=p2 at h
   obtain ⟨r2,o2⟩:=p2
   cases h
   obtain ⟨k1,k2⟩:=thawO_spec h2
   refine ⟨by simp [k1],fun a=>?_⟩
   cases a with
   | zero=>exact .inr rfl
   | succ a=>exact k2 a
  cases o with
  | none=>exact other h
  | some ob=>
   cases ob with
   | sl=>exact other h
   | cell ro tmp v=>
    cases ro with
    | true=>exact other h
    | false=>
      simp only [thawO] at h
      generalize h1:thawV (hintC hn tmp v) n v=p1 at h
      obtain ⟨v1,o1⟩:=p1
      simp only at h
      generalize h2:thawO hn (n + o1.length) r=p2 at h
      obtain ⟨r2,o2⟩:=p2
      cases h
      obtain ⟨k1,k2⟩:=thawO_spec h2
      refine ⟨by simp [k1],fun a=>?_⟩
      have e2:(o1++o2).length=o1.length + o2.length:=List.length_append
      cases a with
      | zero=>exact .inl ⟨tmp,v,v1,n,o1,rfl,rfl,h1,Nat.le_refl _,by rw [e2]; omega⟩
      | succ a=>
       rcases k2 a with ⟨t',v',v'',n',os',e1,e2',e3,e4,e5⟩ | e
       ·exact .inl ⟨t',v',v'',n',os',e1,e2',e3,by omega,by rw [e2]; omega⟩
       ·exact .inr e
theorem look_mem:∀ {e:List (Nat×PV)} {t:Nat},look e t = .undef∨(t,look e t)∈e
 | [],t=>.inl rfl
 | (u,v) :: r,t=>by
  rw [look_cons]
  by_cases h:u=t
  ·subst h; rw [if_pos rfl]; exact .inr (by simp)
  ·rw [if_neg h]; exact (look_mem (e:=r) (t:=t)).imp id fun h=>by simp [h]
theorem mem_liveE {ps:PS}:∀ {lv:List Nat} {t:Nat} {v:PV},(t,v)∈liveE ps lv→v=look ps.env t
 | [],t,v,h=>by cases h
 | u :: r,t,v,h=>by
  rcases List.mem_cons.1 h with h | h
  ·cases h; rfl
  ·exact mem_liveE h
section
variable {d:Nat} {anV:List AV} {P0:Id→Prop} {H0:Heap} {ps:PS} {μ:Nat→AV} {L:Nat→List Id} {E:AEnv} {H:Heap} {nx:Nat}
theorem thawO_nils {X Y:Vw} (T:Thaw X Y) {hn:Hints}:∀ {n:Nat} {hp hp1:List (Option PObj)} {os:List (Option PObj)},(∀ ro t v,some (.cell ro t v)∈hp→∃ a,VR X v a)→thawO hn n hp=(hp1,os)→NilsO os
 | n,[],hp1,os,_,h=>by cases h; exact NilsO.nil
 | n,o :: r,hp1,os,hv,h=>by
  have other:(match thawO hn n r with | (r',os')=>(o :: r',os'))=(hp1,os)→NilsO os:=by
   intro h
   generalize h2:thawO hn n r=p2 at h
   obtain ⟨r2,o2⟩:=p2
   cases h
   exact thawO_nils T (fun ro t v h=>hv ro t v (by simp [h])) h2
  cases o with
  | none=>exact other h
  | some ob=>
   cases ob with
   | sl=>exact other h
   | cell ro tmp v=>
    cases ro with
    | true=>exact other h
    | false=>
      simp only [thawO] at h
      generalize h1:thawV (hintC hn tmp v) n v=p1 at h
      obtain ⟨v1,o1⟩:=p1
      simp only at h
      generalize h2:thawO hn (n + o1.length) r=p2 at h
      obtain ⟨r2,o2⟩:=p2
      cases h
      obtain ⟨a,ha⟩:=hv false tmp v (by simp)
      exact (thawV_rel T ha h1).1.app (thawO_nils T (fun ro t v h=>hv ro t v (by simp [h])) h2)
theorem hget_mem {hp:List (Option PObj)}:∀ {o:PObj},some o∈hp→∃ a,hget hp a=some o:=by
 induction hp with
 | nil=>intro o h; cases h
 | cons x r ih=>
  intro o h
  rcases List.mem_cons.1 h with h | h
  ·exact ⟨0,h.symm⟩
  ·obtain ⟨a,ha⟩:=ih h
   exact ⟨a + 1,ha⟩
theorem mem_hget {hp:List (Option PObj)}:∀ {a:Nat} {o:PObj},hget hp a=some o→some o∈hp:=by
 induction hp with
 | nil=>intro a o h; cases h
 | cons x r ih=>
  intro a o h
  cases a with
  | zero=>simp only [hget] at h; rw [h]; simp
  | succ a=>have:=ih (a:=a) h; simp [this]
theorem thawE_keys {hn:Hints}:∀ {n:Nat} {e e':List (Nat×PV)} {os:List (Option PObj)},thawE hn n e=(e',os)→keysE e'=keysE e
 | n,[],e',os,h=>by cases h; rfl
 | n,(t,v) :: r,e',os,h=>by
  simp only [thawE] at h
  generalize h1:thawV (hintOf hn t) n v=p1 at h
  obtain ⟨v1,o1⟩:=p1
  simp only at h
  generalize h2:thawE hn (n + o1.length) r=p2 at h
  obtain ⟨v2,o2⟩:=p2
  cases h
  simp [keysE,thawE_keys h2]
theorem thawV_undef {hn:Option (Kd×Bool)} {n:Nat}:thawV hn n .undef=(.undef,[]):=by
 cases hn with
 | none=>rfl
 | some p=>obtain ⟨t,b⟩:=p; cases t <;> rfl
theorem thawE_undef {hn:Hints}:∀ {n:Nat} {e e':List (Nat×PV)} {os:List (Option PObj)} {t:Nat},thawE hn n e=(e',os)→look e t = .undef→look e' t = .undef
 | n,[],e',os,t,h,_=>by cases h; rfl
 | n,(u,v) :: r,e',os,t,h,hk=>by
  simp only [thawE] at h
  generalize h1:thawV (hintOf hn u) n v=p1 at h
  obtain ⟨v1,o1⟩:=p1
  simp only at h
  generalize h2:thawE hn (n + o1.length) r=p2 at h
  obtain ⟨v2,o2⟩:=p2
  cases h
  rw [look_cons] at hk ⊢
  by_cases hu:u=t
  ·rw [if_pos hu] at hk ⊢
   subst hk
   rw [thawV_undef] at h1
   cases h1; rfl
  ·rw [if_neg hu] at hk ⊢
   exact thawE_undef h2 hk
theorem liveE_keys {ps:PS}:∀ (lv:List Nat),keysE (liveE ps lv)=lv
 | []=>rfl
 | t :: r=>by simp [liveE,keysE,liveE_keys r]
theorem liveE_undef {ps:PS} {t:Nat} (h:look ps.env t = .undef):∀ (lv:List Nat),look (liveE ps lv) t = .undef
 | []=>rfl
 | u :: r=>by
  simp only [liveE,look_cons]
  split
  ·rename_i e; subst e; exact h
  ·exact liveE_undef h r
structure Made (d:Nat) (anV:List AV) (P0:Id→Prop) (H0:Heap) (ps:PS) (μ:Nat→AV) (L:Nat→List Id) (E:AEnv) (H:Heap) (nx:Nat) (lv:List Nat) (ps':PS) (μ':Nat→AV) (L':Nat→List Id):Prop where
 R:Rel d anV P0 H0 ps' μ' L' E H nx
 top:∀ i,Vw.top ⟨d,ps'.heap,μ',L',H,nx⟩ i→Vw.top ⟨d,ps.heap,μ,L,H,nx⟩ i
 mem:∀ t v,(t,v)∈ps'.env→VR ⟨d,ps'.heap,μ',L',H,nx⟩ v (E t)
 keys:keysE ps'.env=lv
 und:∀ t,look ps.env t = .undef→look ps'.env t = .undef
theorem thawS_ok (R:Rel d anV P0 H0 ps μ L E H nx) (hn:Hints) (lv:List Nat):∃ μ' L',Made d anV P0 H0 ps μ L E H nx lv (thawS hn lv ps) μ' L':=by
 unfold thawS
 generalize h1:thawE hn ps.heap.length (liveE ps lv)=p1
 obtain ⟨env,os⟩:=p1
 simp only
 generalize h2:thawO hn (ps.heap.length + os.length) ps.heap=p2
 obtain ⟨hp1,os'⟩:=p2
 simp only
 obtain ⟨hlen,hspec⟩:=thawO_spec h2
 let μ':Nat→AV:=fun a=>if a < ps.heap.length then μ a else .nils
 let L':Nat→List Id:=fun a=>if a < ps.heap.length then L a else []
 have hmu:∀ a,a < ps.heap.length→μ' a=μ a:=fun a ha=>if_pos ha
 have hLe:∀ a,a < ps.heap.length→L' a=L a:=fun a ha=>if_pos ha
 have hget1:∀ a,a < ps.heap.length→hget (hp1++(os++os')) a=hget hp1 a:=fun a ha=>by rw [hget_append,if_pos (by omega)]
 have later:∀ a,a < ps.heap.length→laterO (hget ps.heap a) (hget (hp1++(os++os')) a):=by
  intro a ha
  rw [hget1 a ha]
  rcases hspec a with ⟨t,v,v',n',os',e1,e2,_⟩ | e
  ·rw [e1,e2]; trivial
  ·rw [e]; exact laterO.refl _
 have livL:∀ a,a < ps.heap.length→(live (hp1++(os++os')) a↔live ps.heap a):=by
  intro a ha
  unfold live
  rw [hget1 a ha]
  rcases hspec a with ⟨t,v,v',n',os',e1,e2,_⟩ | e
  ·rw [e1,e2]; simp
  ·rw [e]
 have htops:∀ i,Vw.top ⟨d,hp1++(os++os'),μ',L',H,nx⟩ i→Vw.top ⟨d,ps.heap,μ,L,H,nx⟩ i:=by
  rintro i ⟨a,ha,htop⟩
  by_cases hlt:a < ps.heap.length
  ·have htop:(L' a).head? = some i:=htop
   rw [hLe a hlt] at htop
   exact ⟨a,(livL a hlt).1 ha,htop⟩
  ·have htop:(L' a).head? = some i:=htop
   rw [show L' a=[] from if_neg hlt] at htop
   cases htop
 have T:Thaw ⟨d,ps.heap,μ,L,H,nx⟩ ⟨d,hp1++(os++os'),μ',L',H,nx⟩:=by
  refine ⟨Grow.of rfl (by show ps.heap.length≤(hp1++_).length; rw [List.length_append]; omega) hmu later (Nat.le_refl _) (fun _ _ _=>rfl) (fun i hi=>.inl (htops i hi)),fun n hn=>if_neg (Nat.not_lt.2 hn)⟩
 have hcell:∀ ro t v,some (PObj.cell ro t v)∈ps.heap→∃ a,VR ⟨d,ps.heap,μ,L,H,nx⟩ v a:=by
  intro ro t v h
  obtain ⟨a,ha⟩:=hget_mem h
  obtain ⟨o,g,b,w,_,_,_,_,_,_,_,_,_,hv,_⟩:=R.ob a _ ha
  exact ⟨w,hv⟩
 have hE:=thawE_rel T (E:=E) (fun t v h=>by rw [mem_liveE h]; exact R.env t) h1
 have hN:=hE.1.app (thawO_nils T hcell h2)
 have hnew:∀ a ob,ps.heap.length≤a→hget (hp1++(os++os')) a=some ob→∃ sz e,ob = .sl false 0 none sz e true []∧sz=e.cn∧0 < sz:=by
  intro a ob ha h
  rw [hget_append,if_neg (by omega)] at h
  obtain ⟨sz,e,h3,h4⟩:=hN _ (mem_hget h)
  cases h3
  exact ⟨sz,e,rfl,h4⟩
 have hty:(hp1++(os++os')).length=ps.heap.length + os.length + os'.length:=by simp [hlen]; omega
 refine ⟨μ',L',⟨?_,VRs.mono T.g _ _ (fun _ h=>by cases h) R.anc,R.ank,?_,?_,?_,?_,?_,?_,R.fresh,R.p0,?_,R.p2⟩,htops,hE.2 (Nat.le_refl _) (by show _≤(hp1++(os++os')).length; omega),(thawE_keys h1).trans (liveE_keys lv),fun t ht=>thawE_undef h1 (liveE_undef ht lv)⟩
 ·intro t
  rcases look_mem (e:=env) (t:=t) with h | h
  ·show VR _ (look env t) (E t)
   rw [h]; trivial
  ·exact hE.2 (Nat.le_refl _) (by show _≤(hp1++(os++os')).length; omega) t _ h
 ·intro a ob ha
  have ha:hget (hp1++(os++os')) a=some ob:=ha
  by_cases hlt:a < ps.heap.length
  ·rw [hget1 a hlt] at ha
   rcases hspec a with ⟨t,v,v',n',os2,e1,e2,e3,e4,e5⟩ | e
   ·rw [e2] at ha
    cases ha
    obtain ⟨o,g,b,w,q1,q2,q3,q4,q5,q6,q7,q8,q9,q10,q11⟩:=R.ob a _ e1
    obtain ⟨z1,z2,z3⟩:=thawV_rel T q10 e3
    exact ⟨o,g,b,w,(hmu a hlt).trans q1,q2,q3,q4,q5,q6,q7,q8,(hLe a hlt).trans q9,z2 (by show ps.heap.length≤n'; omega) (by show _≤(hp1++(os++os')).length; omega),z3 q11⟩
   ·rw [e] at ha
    exact ObR.mono T.g hlt (hLe a hlt) (fun _ _=>rfl) (R.ob a ob ha)
  ·obtain ⟨sz,e,rfl,k1,k2⟩:=hnew a ob (by omega) ha
   exact ⟨k1,k2,.inl ⟨if_neg hlt,rfl,if_neg hlt⟩⟩
 ·intro a b hab hla hlb
  by_cases h1:a < ps.heap.length
  ·by_cases h2:b < ps.heap.length
   ·rw [hLe a h1,hLe b h2]
    exact R.dis a b hab ((livL a h1).1 hla) ((livL b h2).1 hlb)
   ·rw [show L' b=[] from if_neg h2]; intro i _ h; cases h
  ·rw [show L' a=[] from if_neg h1]; intro i h; cases h
 ·intro a hla
  by_cases h1:a < ps.heap.length
  ·rw [hLe a h1]; exact R.nd a ((livL a h1).1 hla)
  ·rw [show L' a=[] from if_neg h1]; exact List.nodup_nil
 ·intro a ob ha i hi
  by_cases h1:a < ps.heap.length
  ·rw [hLe a h1] at hi
   have ha:hget (hp1++(os++os')) a=some ob:=ha
   rw [hget1 a h1] at ha
   rcases hspec a with ⟨t,v,v',n',os2,e1,e2,_⟩ | e
   ·rw [e2] at ha; cases ha
    exact (show ∀ i∈L a,ageI d nx t i from R.age a _ e1) i hi
   ·rw [e] at ha; exact R.age a ob ha i hi
  ·rw [show L' a=[] from if_neg h1] at hi; cases hi
 ·intro a hla i hi
  by_cases h1:a < ps.heap.length
  ·rw [hLe a h1] at hi; exact R.tl a ((livL a h1).1 hla) i hi
  ·rw [show L' a=[] from if_neg h1] at hi; cases hi
 ·intro a ob t ha ht o ho
  by_cases h1:a < ps.heap.length
  ·rw [hLe a h1] at ho
   have ha:hget (hp1++(os++os')) a=some ob:=ha
   rw [hget1 a h1] at ha
   rcases hspec a with ⟨t',v,v',n',os2,e1,e2,_⟩ | e
   ·rw [e2] at ha; cases ha
    exact R.st a _ t e1 ht o ho
   ·rw [e] at ha; exact R.st a ob t ha ht o ho
  ·rw [show L' a=[] from if_neg h1] at ho; cases ho
 ·intro a ob ha hro i hi
  by_cases h1:a < ps.heap.length
  ·rw [hLe a h1] at hi
   have ha:hget (hp1++(os++os')) a=some ob:=ha
   rw [hget1 a h1] at ha
   rcases hspec a with ⟨t',v,v',n',os2,e1,e2,_⟩ | e
   ·rw [e2] at ha; cases ha
    exact R.p1 a _ e1 rfl i hi
   ·rw [e] at ha; exact R.p1 a ob ha hro i hi
  ·rw [show L' a=[] from if_neg h1] at hi; cases hi
end
end Go.Am
/- The machine on typed data against the small machine: a state told anew by place. -/
namespace Go.Am
theorem mem_uniqN:∀ {l:List Nat} {a:Nat},a∈uniqN l↔a∈l
 | [],a=>by simp [uniqN]
 | b :: r,a=>by
  simp only [uniqN]
  by_cases h:r.elem b=true
  ·rw [if_pos h,mem_uniqN]
   have hb:b∈r:=by simpa using h
   exact ⟨fun h=>by simp [h],fun h=>(List.mem_cons.1 h).elim (fun e=>e ▸ hb) id⟩
  ·rw [if_neg h,List.mem_cons,mem_uniqN,List.mem_cons]
theorem uniqN_nodup:∀ (l:List Nat),(uniqN l).Nodup
 | []=>by simp [uniqN]
 | b :: r=>by
  simp only [uniqN]
  by_cases h:r.elem b=true
  ·rw [if_pos h]; exact uniqN_nodup r
  ·rw [if_neg h]
   refine List.nodup_cons.2 ⟨fun hb=>h (by simpa using mem_uniqN.1 hb),uniqN_nodup r⟩
theorem posN_spec:∀ {l:List Nat} {a n b:Nat},posN l a n=some b→∃ j,b=n + j∧l[j]? = some a
 | [],a,n,b,h=>by cases h
 | c :: r,a,n,b,h=>by
  simp only [posN] at h
  by_cases hc:Nat.beq a c=true
  ·rw [if_pos hc] at h
   cases h
   exact ⟨0,rfl,by rw [Nat.eq_of_beq_eq_true hc]; rfl⟩
  ·rw [if_neg hc] at h
   obtain ⟨j,h1,h2⟩:=posN_spec h
   exact ⟨j + 1,by omega,by simpa using h2⟩
theorem nodup_inj:∀ {l:List Nat} {i j a:Nat},l.Nodup→l[i]? = some a→l[j]? = some a→i=j
 | [],i,j,a,_,h,_=>by simp at h
 | b :: r,0,0,a,_,_,_=>rfl
 | b :: r,0,j + 1,a,hn,h,k=>by
  simp at h k
  subst h
  exact ((List.nodup_cons.1 hn).1 (List.mem_of_getElem? k)).elim
 | b :: r,i + 1,0,a,hn,h,k=>by
  simp at h k
  subst k
  exact ((List.nodup_cons.1 hn).1 (List.mem_of_getElem? h)).elim
 | b :: r,i + 1,j + 1,a,hn,h,k=>by
  simp at h k
  rw [nodup_inj (List.nodup_cons.1 hn).2 h k]
def ren1 (hp:List (Option PObj)) (nm:List Nat) (a:Nat):Option PObj:=
 match hget hp a with
  | some (.sl ro _ tmp sz e dp xs)=>some (.sl ro 0 tmp sz e dp xs)
  | some (.cell ro tmp v)=>(match cellOK (renV hp nm v) with | true=>some (.cell ro tmp (renV hp nm v)) | false=>none)
  | none=>none
theorem renO_get {hp:List (Option PObj)} {nm:List Nat}:∀ {l:List Nat} {b:Nat},hget (renO hp nm l) b=match l[b]? with | some a=>ren1 hp nm a | none=>none
 | [],b=>by simp [renO,hget]
 | c :: r,0=>rfl
 | c :: r,b + 1=>by
  simp only [renO,hget,List.getElem?_cons_succ]
  exact renO_get
theorem renO_length {hp:List (Option PObj)} {nm:List Nat}:∀ {l:List Nat},(renO hp nm l).length=l.length
 | []=>rfl
 | c :: r=>by simp [renO,renO_length]
def nth (nm:List Nat) (b:Nat):Nat:=nm.getD b 0
theorem nth_of {nm:List Nat} {b a:Nat} (h:nm[b]? = some a):nth nm b=a:=by simp [nth,List.getD,h]
section
variable {d:Nat} {hp:List (Option PObj)} {μ:Nat→AV} {L:Nat→List Id} {H:Heap} {nx:Nat} {nm:List Nat}
abbrev Vw.ren (d:Nat) (hp:List (Option PObj)) (μ:Nat→AV) (L:Nat→List Id) (H:Heap) (nx:Nat) (nm:List Nat):Vw:=
 ⟨d,renO hp nm nm,fun b=>μ (nth nm b),fun b=>L (nth nm b),H,nx⟩
theorem ren_get {b:Nat} {ob:PObj} (h:hget (renO hp nm nm) b=some ob):∃ a,nm[b]? = some a∧ren1 hp nm a=some ob:=by
 rw [renO_get] at h
 cases hb:nm[b]? with
 | none=>rw [hb] at h; cases h
 | some a=>rw [hb] at h; exact ⟨a,rfl,h⟩
theorem ren1_live {a:Nat} {ob:PObj} (h:ren1 hp nm a=some ob):∃ ob0,hget hp a=some ob0∧tmpO ob=tmpO ob0∧roOf ob=roOf ob0:=by
 unfold ren1 at h
 cases h0:hget hp a with
 | none=>rw [h0] at h; cases h
 | some ob0=>
  rw [h0] at h
  cases ob0 with
  | sl=>cases h; exact ⟨_,rfl,rfl,rfl⟩
  | cell=>
   simp only at h
   split at h
   ·cases h; exact ⟨_,rfl,rfl,rfl⟩
   ·cases h
theorem ren_top {i:Id} (h:Vw.top (Vw.ren d hp μ L H nx nm) i):Vw.top ⟨d,hp,μ,L,H,nx⟩ i:=by
 obtain ⟨b,hb,ht⟩:=h
 obtain ⟨ob,hob⟩:=Option.isSome_iff_exists.1 hb
 obtain ⟨a,h1,h2⟩:=ren_get hob
 obtain ⟨ob0,h3,_⟩:=ren1_live h2
 have ht:(L (nth nm b)).head? = some i:=ht
 rw [nth_of h1] at ht
 exact ⟨a,by unfold live; rw [h3]; rfl,ht⟩
structure Less (X Y:Vw):Prop where
 d:Y.d=X.d
 H:Y.H=X.H
 nx:Y.nx=X.nx
 top:∀ i,Y.top i→X.top i
theorem Less.imm {X Y:Vw} (l:Less X Y) {i:Id} (h:X.Imm i):Y.Imm i:=⟨fun t=>h.1 (l.top i t),by rw [l.d,l.nx]; exact h.2⟩
theorem Less.ki {X Y:Vw} (l:Less X Y) {t:Nat} {o:Id} (h:X.KI t o):Y.KI t o:=⟨by rw [l.d]; exact h.1,fun t=>h.2 (l.top o t)⟩
theorem Less.refl (X:Vw):Less X X:=⟨rfl,rfl,rfl,fun _ h=>h⟩
theorem Less.trans {X Y Z:Vw} (l:Less X Y) (m:Less Y Z):Less X Z:=⟨m.d.trans l.d,m.H.trans l.H,m.nx.trans l.nx,fun i h=>l.top i (m.top i h)⟩
theorem Less.d_ok {X Y:Vw} (l:Less X Y) {p:Bool} {t:Kd} {x:t.den} {v:AV} (h:VR X (.d p t x) v):VR Y (.d p t x) v:=by
 obtain ⟨Li,h1,h2,h3⟩:=h
 exact ⟨Li,by rw [l.H]; exact h1,h2,fun i hi=>l.imm (h3 i hi)⟩
theorem Less.tp_ok {X Y:Vw} (l:Less X Y) {p:Bool} {e:Kd} {x:e.den} {off:Nat} {v:AV} (h:VR X (.tp p e x off) v):VR Y (.tp p e x off) v:=by
 rcases h with ⟨y,h1,h2⟩ | ⟨h0,o,g,n,j,b,w,Li,h1,h2,h3,h4,h5,h6,h7,h8,h9⟩
 ·exact .inl ⟨y,h1,by rw [l.H]; exact h2⟩
 ·exact .inr ⟨h0,o,g,n,j,b,w,Li,h1,by rw [l.H]; exact h2,h3,h4,h5,h6,by rw [l.H]; exact h7,l.imm h8,fun i hi=>l.imm (h9 i hi)⟩
theorem Less.leaf {X Y:Vw} (l:Less X Y):∀ {v:PV} {a:AV},pureLeaf v=true→VR X v a→VR Y v a
 | .d p t x,a,_,h=>l.d_ok h
 | .nils,a,_,h=>h
theorem Less.leafs {X Y:Vw} (l:Less X Y):∀ {vs:List PV} {as:List AV},vs.all pureLeaf=true→VRs X vs as→VRs Y vs as
 | [],[],_,_=>trivial
 | v :: r,a :: q,hp,h=>by
  simp only [List.all_cons,Bool.and_eq_true] at hp
  exact ⟨l.leaf hp.1 h.1,l.leafs hp.2 h.2⟩
 | [],_ :: _,_,h=>h.elim
 | _ :: _,[],_,h=>h.elim
def flatPV:PV→Bool
 | .agg cs=>cs.all pureLeaf
 | v=>pureLeaf v
theorem Less.flatP {X Y:Vw} (l:Less X Y) {u:PV} {w:AV} (hp:flatPV u=true) (h:VR X u w):VR Y u w:=by
 cases u with
 | agg cs=>exact ⟨h.1,l.leafs hp h.2⟩
 | d p t x=>exact l.d_ok h
 | nils=>exact h
 | _=>cases hp
theorem pureV_cell {u:PV} (h0:pureV u=true) (h1:cellOK u=true):flatPV u=true:=by
 cases u with
 | agg cs=>exact h0
 | d p t x=>exact h0
 | nils=>rfl
 | _=>first | (simp [cellOK,cellLeaf] at h1; done) | exact h0
theorem Less.kp_ok {X Y:Vw} (l:Less X Y) {t:Nat} {u:PV} {off:Nat} {v:AV} (h:VR X (.kp t u off) v):VR Y (.kp t u off) v:=by
 obtain ⟨h0,h0',o,g,b,w,h1,h2,h3,h4,h5,h6,h7⟩:=h
 exact ⟨h0,h0',o,g,b,w,l.ki h1,h2,by rw [l.H]; exact h3,h4,h5,h6,l.flatP (pureV_cell h0 h0') h7⟩
theorem Less.caps {X Y:Vw} (l:Less X Y):∀ {vs:List PV} {as:List AV},vs.all pureCap=true→VRs X vs as→VRs Y vs as
 | [],[],_,_=>trivial
 | v :: r,a :: q,hp,h=>by
  simp only [List.all_cons,Bool.and_eq_true] at hp
  refine ⟨?_,l.caps hp.2 h.2⟩
  cases v with
  | kp t u off=>exact l.kp_ok h.1
  | tp p e x off=>exact l.tp_ok h.1
  | d p t x=>exact l.d_ok h.1
  | nils=>exact h.1
  | _=>cases hp.1
 | [],_ :: _,_,h=>h.elim
 | _ :: _,[],_,h=>h.elim
theorem Less.pure {X Y:Vw} (l:Less X Y):∀ {v:PV} {a:AV},pureV v=true→VR X v a→VR Y v a
 | .agg cs,a,hp,h=>⟨h.1,l.leafs hp h.2⟩
 | .fn f cs,a,hp,⟨vs,h1,h2⟩=>⟨vs,h1,l.caps hp h2⟩
 | .tp p e x off,a,hp,h=>l.tp_ok h
 | .kp t u off,a,hp,h=>l.kp_ok h
 | .d p t x,a,_,h=>l.d_ok h
 | .nils,a,_,h=>h
theorem ren_less:Less ⟨d,hp,μ,L,H,nx⟩ (Vw.ren d hp μ L H nx nm):=⟨rfl,rfl,rfl,fun _ h=>ren_top h⟩
mutual
theorem renV_rel:∀ (v:PV) (a:AV),VR ⟨d,hp,μ,L,H,nx⟩ v a→VR (Vw.ren d hp μ L H nx nm) (renV hp nm v) a
 | .d p t x,a,h=>ren_less.d_ok h
 | .agg cs,a,⟨h1,h2⟩=>⟨h1,renVs_rel cs _ h2⟩
 | .nils,a,h=>h
 | .np,a,h=>h
 | .own b,a,⟨h1,h2,h3⟩=>by
  simp only [renV]
  split
  ·rename_i hb hp'
   obtain ⟨j,e1,e2⟩:=posN_spec hp'
   rw [Nat.zero_add] at e1; subst e1
   refine ⟨?_,?_,h3⟩
   ·show _ < (renO hp nm nm).length
    rw [renO_length]
    exact (List.getElem?_eq_some_iff.1 e2).1
   ·show a=μ (nth nm _)
    rw [nth_of e2]; exact h2
  ·trivial
 | .win b off len,a,h=>trivial
 | .cp b off,a,⟨h1,o,g,h2,h3⟩=>by
  simp only [renV]
  split
  ·rename_i hb hp'
   obtain ⟨j,e1,e2⟩:=posN_spec hp'
   rw [Nat.zero_add] at e1; subst e1
   refine ⟨?_,o,g,?_,h3⟩
   ·show _ < (renO hp nm nm).length
    rw [renO_length]
    exact (List.getElem?_eq_some_iff.1 e2).1
   ·show μ (nth nm _)=_
    rw [nth_of e2]; exact h2
  ·trivial
 | .ep b ver i off e x,a,⟨h1,o,g,n,off0,len0,h2,h3,h4,h5⟩=>by
  simp only [renV]
  split
  ·rename_i ro ver' tmp sz e' dp xs b' hb hp'
   split
   ·rename_i hv
    have hv:=Nat.eq_of_beq_eq_true hv
    obtain ⟨j,e1,e2⟩:=posN_spec hp'
    rw [Nat.zero_add] at e1; subst e1
    obtain ⟨k1,k2⟩:=h5 _ _ _ _ _ _ _ hb
    refine ⟨?_,o,g,n,off0,len0,?_,h3,h4,?_⟩
    ·show _ < (renO hp nm nm).length
     rw [renO_length]
     exact (List.getElem?_eq_some_iff.1 e2).1
    ·show μ (nth nm _)=_
     rw [nth_of e2]; exact h2
    ·intro ro2 ver2 tmp2 sz2 e2' dp2 xs2 hg
     have hg:hget (renO hp nm nm) _=_:=hg
     rw [renO_get,e2] at hg
     simp only [ren1,hb] at hg
     cases hg
     exact ⟨Nat.le_refl _,fun _=>k2 hv⟩
   ·trivial
  ·trivial
 | .tp p e x off,a,h=>ren_less.tp_ok h
 | .kp t u off,a,h=>ren_less.kp_ok h
 | .fn f cs,a,⟨vs,h1,h2⟩=>⟨vs,h1,renVs_rel cs vs h2⟩
 | .tup l,a,h=>trivial
 | .undef,_,_=>trivial
theorem renVs_rel:∀ (v:List PV) (a:List AV),VRs ⟨d,hp,μ,L,H,nx⟩ v a→VRs (Vw.ren d hp μ L H nx nm) (renVs hp nm v) a
 | [],[],_=>trivial
 | x :: r,v :: q,⟨h1,h2⟩=>⟨renV_rel x v h1,renVs_rel r q h2⟩
 | [],_ :: _,h=>h.elim
 | _ :: _,[],h=>h.elim
end
mutual
theorem renV_kp {t:Nat}:∀ (v:PV),hasKp t v=false→hasKp t (renV hp nm v)=false
 | .agg cs,h=>renVs_kp cs h
 | .own b,h=>by simp only [renV]; split <;> rfl
 | .cp b off,h=>by simp only [renV]; split <;> rfl
 | .ep b ver i off e x,h=>by
  simp only [renV]
  split
  ·split <;> rfl
  ·rfl
 | .fn f cs,h=>renVs_kp cs h
 | .d _ _ _,h=>rfl
 | .nils,h=>rfl
 | .np,h=>rfl
 | .win _ _ _,h=>rfl
 | .tp _ _ _ _,h=>rfl
 | .kp _ _ _,h=>h
 | .tup _,h=>rfl
 | .undef,h=>rfl
theorem renVs_kp {t:Nat}:∀ (v:List PV),hasKps t v=false→hasKps t (renVs hp nm v)=false
 | [],_=>rfl
 | x :: r,h=>by
  simp only [hasKps,Bool.or_eq_false_iff,renVs] at h ⊢
  exact ⟨renV_kp x h.1,renVs_kp r h.2⟩
end
theorem look_ren:∀ (e:List (Nat×PV)) (t:Nat),look (renE hp nm e) t=renV hp nm (look e t)
 | [],t=>rfl
 | (u,v) :: r,t=>by
  simp only [renE,look_cons]
  split
  ·rfl
  ·exact look_ren r t
end
section
variable {d:Nat} {anV:List AV} {P0:Id→Prop} {H0:Heap} {ps:PS} {μ:Nat→AV} {L:Nat→List Id} {E:AEnv} {H:Heap} {nx:Nat}
theorem renE_keys {hp:List (Option PObj)} {nm:List Nat}:∀ (e:List (Nat×PV)),keysE (renE hp nm e)=keysE e
 | []=>rfl
 | (t,v) :: r=>by simp [renE,keysE,renE_keys r]
theorem mem_renE {hp:List (Option PObj)} {nm:List Nat}:∀ {e:List (Nat×PV)} {t:Nat} {v:PV},(t,v)∈renE hp nm e→∃ w,(t,w)∈e∧v=renV hp nm w
 | (u,w) :: r,t,v,h=>by
  rcases List.mem_cons.1 h with h | h
  ·cases h; exact ⟨w,by simp,rfl⟩
  ·obtain ⟨w,h1,h2⟩:=mem_renE h
   exact ⟨w,by simp [h1],h2⟩
theorem ren_ok (R:Rel d anV P0 H0 ps μ L E H nx) {nm:List Nat} (hnd:nm.Nodup) (hm:∀ t v,(t,v)∈ps.env→VR ⟨d,ps.heap,μ,L,H,nx⟩ v (E t)):∃ μ' L',Made d anV P0 H0 ps μ L E H nx (keysE ps.env) ⟨renE ps.heap nm ps.env,renVs ps.heap nm ps.anc,renO ps.heap nm nm⟩ μ' L':=by
 have liveL:∀ b,live (renO ps.heap nm nm) b→∃ a,nm[b]? = some a∧live ps.heap a:=by
  intro b hb
  obtain ⟨ob,hob⟩:=Option.isSome_iff_exists.1 hb
  obtain ⟨a,h1,h2⟩:=ren_get hob
  obtain ⟨ob0,h3,_⟩:=ren1_live h2
  exact ⟨a,h1,by unfold live; rw [h3]; rfl⟩
 refine ⟨fun b=>μ (nth nm b),fun b=>L (nth nm b),⟨?_,renVs_rel _ _ R.anc,fun t=>renVs_kp _ (R.ank t),?_,?_,?_,?_,?_,?_,R.fresh,R.p0,?_,R.p2⟩,fun i h=>ren_top h,?_,renE_keys _,fun t ht=>?_⟩
 ·intro t
  show VR _ (look (renE ps.heap nm ps.env) t) (E t)
  rw [look_ren]
  exact renV_rel _ _ (R.env t)
 ·intro b ob hb
  obtain ⟨a,h1,h2⟩:=ren_get hb
  cases h0:hget ps.heap a with
  | none=>simp only [ren1,h0] at h2; cases h2
  | some ob0=>
   have hO:=R.ob a ob0 h0
   simp only [ren1,h0] at h2
   cases ob0 with
   | sl ro ver tmp sz e dp xs=>
    cases h2
    obtain ⟨k1,k2,k3⟩:=hO
    refine ⟨k1,k2,?_⟩
    simp only [nth_of h1]
    rcases k3 with ⟨e1,e2,e3⟩ | ⟨o,g,n,off,len,b',L',e1,e2,e3,e4,e5,e6,e7,e8,e9,e10,e11⟩
    ·exact .inl ⟨e1,e2,e3⟩
    ·exact .inr ⟨o,g,n,off,len,b',L',e1,e2,e3,e4,e5,e6,e7,e8,e9,e10,fun q i hi=>ren_less.imm (e11.1 q i hi),e11.2⟩
   | cell ro tmp v=>
    simp only at h2
    split at h2
    ·rename_i hc
     cases h2
     obtain ⟨o,g,b',w,e1,e2,e3,e4,e5,e6,e7,e8,e9,e10,e11⟩:=hO
     refine ⟨o,g,b',w,?_,e2,e3,e4,e5,e6,e7,e8,?_,renV_rel _ _ e10,hc⟩
     ·show μ (nth nm b)=_
      rw [nth_of h1]; exact e1
     ·show L (nth nm b)=_
      rw [nth_of h1]; exact e9
    ·cases h2
 ·intro a b hab ha hb i hi hj
  obtain ⟨a',h1,h2⟩:=liveL a ha
  obtain ⟨b',h3,h4⟩:=liveL b hb
  simp only [nth_of h1] at hi
  simp only [nth_of h3] at hj
  refine R.dis a' b' (fun e=>hab ?_) h2 h4 i hi hj
  subst e
  exact nodup_inj hnd h1 h3
 ·intro a ha
  obtain ⟨a',h1,h2⟩:=liveL a ha
  simp only [nth_of h1]
  exact R.nd a' h2
 ·intro a ob ha i hi
  obtain ⟨a',h1,h2⟩:=ren_get ha
  obtain ⟨ob0,h3,h4,h5⟩:=ren1_live h2
  simp only [nth_of h1] at hi
  rw [h4]
  exact R.age a' ob0 h3 i hi
 ·intro a ha i hi
  obtain ⟨a',h1,h2⟩:=liveL a ha
  simp only [nth_of h1] at hi
  exact R.tl a' h2 i hi
 ·intro a ob t ha ht o ho
  obtain ⟨a',h1,h2⟩:=ren_get ha
  obtain ⟨ob0,h3,h4,h5⟩:=ren1_live h2
  simp only [nth_of h1] at ho
  exact R.st a' ob0 t h3 (h4 ▸ ht) o ho
 ·intro a ob ha hro i hi
  obtain ⟨a',h1,h2⟩:=ren_get ha
  obtain ⟨ob0,h3,h4,h5⟩:=ren1_live h2
  simp only [nth_of h1] at hi
  exact R.p1 a' ob0 h3 (h5 ▸ hro) i hi
 ·intro t v h
  obtain ⟨w,h1,rfl⟩:=mem_renE h
  exact renV_rel _ _ (hm t w h1)
 ·show look (renE ps.heap nm ps.env) t = .undef
  rw [look_ren,ht]; rfl
theorem look_frzEn {hn:Hints} {hp:List (Option PObj)} {ns:List Nat}:∀ (e:List (Nat×PV)) (t:Nat),look (frzEn hn hp ns e) t = .undef∧look e t = .undef∨∃ w,look (frzEn hn hp ns e) t=frzV hp ns w (look e t)
 | [],t=>.inl ⟨rfl,rfl⟩
 | (u,v) :: r,t=>by
  simp only [frzEn,look_cons]
  by_cases h:u=t
  ·rw [if_pos h,if_pos h]; exact .inr ⟨_,rfl⟩
  ·rw [if_neg h,if_neg h]; exact look_frzEn r t
theorem wk_vr {X:Vw} {v:PV} {a:AV} (h:VR X v a):VR X (wkL v) a:=by
 cases v with
 | d p t x=>
  obtain ⟨Li,h1,h2,h3⟩:=h
  refine ⟨Li,h1,fun hc=>h2 ?_,h3⟩
  rcases hc with hc | hc
  ·simp only [Bool.and_eq_true] at hc; exact .inl hc.1
  ·exact .inr hc
 | _=>exact h
theorem wk_cell {v:PV} (h:cellLeaf v=true):cellLeaf (wkL v)=true:=by cases v <;> exact h
theorem frz_cell {hp:List (Option PObj)} {ns:List Nat} {v:PV} (h:cellLeaf v=true):cellLeaf (frzL hp ns v)=true:=by
 cases v with
 | own a=>
  simp only [frzL]
  split
  ·rfl
  ·rfl
 | _=>exact h
theorem frzV_cell {hp:List (Option PObj)} {ns:List Nat} {w:Bool} {v:PV} (h:cellOK v=true):cellOK (frzV hp ns w v)=true:=by
 cases v with
 | agg cs=>
  simp only [cellOK,Bool.and_eq_true,List.all_eq_true,Bool.not_eq_true',List.isEmpty_eq_false_iff] at h
  simp only [frzV,cellOK,Bool.and_eq_true,List.all_eq_true,Bool.not_eq_true',List.isEmpty_eq_false_iff,List.mem_map]
  refine ⟨?_,by simpa using h.2⟩
  rintro x ⟨y,hy,rfl⟩
  cases w with
  | true=>exact wk_cell (frz_cell (h.1 y hy))
  | false=>exact frz_cell (h.1 y hy)
 | d p t x=>cases w <;> cases t <;> first | rfl | exact h
 | nils=>cases w <;> rfl
 | cp b off=>cases w <;> rfl
 | np=>cases w <;> rfl
 | own a=>
  cases w with
  | true=>
   show cellOK (wkL (frzL hp ns (.own a)))=true
   simp only [frzL]
   split <;> rfl
  | false=>
   show cellOK (frzL hp ns (.own a))=true
   simp only [frzL]
   split <;> rfl
 | _=>first | (simp [cellOK,cellLeaf] at h; done)
theorem frzS_ok (R:Rel d anV P0 H0 ps μ L E H nx) (hn:Hints) (lv:List Nat):Rel d anV P0 H0 (frzS hn lv ps) μ L E H nx ∧
  (∀ i,Vw.top ⟨d,(frzS hn lv ps).heap,μ,L,H,nx⟩ i→Vw.top ⟨d,ps.heap,μ,L,H,nx⟩ i)∧∀ t,look ps.env t = .undef→look (frzS hn lv ps).env t = .undef:=by
 unfold frzS
 split
 ·exact ⟨R,fun i h=>h,fun t h=>h⟩
 ·generalize hns:(frzE hn ps lv++frzH hn ps.heap).filter (frzOK ps.heap)=ns
  have hok:∀ a∈ns,frzOK ps.heap a=true:=fun a ha=>by rw [← hns] at ha; exact (List.mem_filter.1 ha).2
  clear hns
  simp only
  have hlen:(delN (ps.heap.map (frzO hn ps.heap ns)) ns).length=ps.heap.length:=by rw [delN_length]; simp
  have hg:∀ a ob,hget (delN (ps.heap.map (frzO hn ps.heap ns)) ns) a=some ob→a ∉ ns∧∃ ob0,hget ps.heap a=some ob0∧frzO hn ps.heap ns (some ob0)=some ob∧tmpO ob=tmpO ob0∧roOf ob=roOf ob0:=by
   intro a ob h
   rw [hget_delN] at h
   split at h
   ·cases h
   ·rename_i hn'
    rw [hget_map (f:=frzO hn ps.heap ns) rfl] at h
    refine ⟨hn',?_⟩
    cases hx:hget ps.heap a with
    | none=>rw [hx] at h; cases h
    | some ob0=>
     rw [hx] at h
     cases ob0 with
     | sl=>cases h; exact ⟨_,rfl,rfl,rfl,rfl⟩
     | cell=>cases h; exact ⟨_,rfl,rfl,rfl,rfl⟩
  have liv:∀ a,live (delN (ps.heap.map (frzO hn ps.heap ns)) ns) a→a ∉ ns∧live ps.heap a:=fun a h=>by
   obtain ⟨ob,h1⟩:=live_iff.1 h
   obtain ⟨h2,ob0,h3,_⟩:=hg a ob h1
   exact ⟨h2,live_iff.2 ⟨_,h3⟩⟩
  have htop:∀ i,Vw.top ⟨d,delN (ps.heap.map (frzO hn ps.heap ns)) ns,μ,L,H,nx⟩ i→Vw.top ⟨d,ps.heap,μ,L,H,nx⟩ i:=by
   rintro i ⟨a,h1,h2⟩
   exact ⟨a,(liv a h1).2,h2⟩
  have g:Grow ⟨d,ps.heap,μ,L,H,nx⟩ ⟨d,delN (ps.heap.map (frzO hn ps.heap ns)) ns,μ,L,H,nx⟩ none:=by
   refine Grow.of rfl (by show ps.heap.length≤_; rw [hlen]; exact Nat.le_refl _) (fun _ _=>rfl) (fun a ha=>?_) (Nat.le_refl _) (fun _ _ _=>rfl) (fun i hi=>.inl (htop i hi))
   show laterO (hget ps.heap a) (hget (delN _ ns) a)
   cases hx:hget (delN (ps.heap.map (frzO hn ps.heap ns)) ns) a with
   | none=>cases hget ps.heap a <;> trivial
   | some ob=>
    obtain ⟨_,ob0,h3,h4,_⟩:=hg a ob hx
    rw [h3]
    cases ob0 with
    | sl=>cases h4; exact laterO.refl _
    | cell=>cases h4; trivial
  have leaf:∀ (v:PV) (a:AV),VR ⟨d,ps.heap,μ,L,H,nx⟩ v a→VR ⟨d,delN (ps.heap.map (frzO hn ps.heap ns)) ns,μ,L,H,nx⟩ (frzL ps.heap ns v) a:=by
   intro v a h
   have same:VR ⟨d,delN (ps.heap.map (frzO hn ps.heap ns)) ns,μ,L,H,nx⟩ v a:=VR.mono g v a (fun t e=>by cases e) h
   cases v with
   | own b=>
    simp only [frzL]
    split
    ·rename_i sz e dp xs he hb
     have hbn:b∈ns:=by simpa using he
     obtain ⟨Li,h1,h2⟩:=own_read R.obs h hb
     refine ⟨Li,h1,fun hc=>?_,fun i hi=>?_⟩
     ·rcases hc with hc | hc <;> cases hc
     ·rcases h2 i hi with h3 | h3
      ·have h3:i∈L b:=h3
       refine ⟨?_,ids_old R hb rfl i h3⟩
       rintro ⟨c,hc,hh⟩
       obtain ⟨hcn,hcl⟩:=liv c hc
       exact R.dis b c (fun e=>hcn (e ▸ hbn)) (live_iff.2 ⟨_,hb⟩) hcl i h3 (List.mem_of_head? hh)
      ·exact (g.imm i h3).2
    ·exact same
   | _=>exact same
  have leafW:∀ (w:Bool) (v:PV) (a:AV),VR ⟨d,ps.heap,μ,L,H,nx⟩ v a→VR ⟨d,delN (ps.heap.map (frzO hn ps.heap ns)) ns,μ,L,H,nx⟩ (frzW ps.heap ns w v) a:=by
   intro w v a h
   cases w with
   | true=>exact wk_vr (leaf v a h)
   | false=>exact leaf v a h
  have leafs:∀ (w:Bool) (vs:List PV) (as:List AV),VRs ⟨d,ps.heap,μ,L,H,nx⟩ vs as→VRs ⟨d,delN (ps.heap.map (frzO hn ps.heap ns)) ns,μ,L,H,nx⟩ (vs.map (frzW ps.heap ns w)) as:=by
   intro w vs
   induction vs with
   | nil=>intro as h; cases as with | nil=>trivial | cons=>exact h.elim
   | cons v r ih=>
    intro as h
    cases as with
    | nil=>exact h.elim
    | cons a as=>exact ⟨leafW w v a h.1,ih as h.2⟩
  have val:∀ (w:Bool) (v:PV) (a:AV),VR ⟨d,ps.heap,μ,L,H,nx⟩ v a→VR ⟨d,delN (ps.heap.map (frzO hn ps.heap ns)) ns,μ,L,H,nx⟩ (frzV ps.heap ns w v) a:=by
   intro w v a h
   cases v with
   | agg cs=>exact ⟨h.1,leafs w cs _ h.2⟩
   | _=>exact leafW w _ a h
  refine ⟨⟨fun t=>?_,VRs.mono g _ _ (fun t e=>by cases e) R.anc,R.ank,fun a ob ha=>?_,fun a b hab ha hb=>R.dis a b hab (liv a ha).2 (liv b hb).2,fun a ha=>R.nd a (liv a ha).2,fun a ob ha=>?_,fun a ha=>R.tl a (liv a ha).2,fun a ob t ha ht=>?_,R.fresh,R.p0,fun a ob ha hr=>?_,R.p2⟩,htop,fun t ht=>?_⟩
  ·show VR _ (look (frzEn hn ps.heap ns ps.env) t) (E t)
   rcases look_frzEn (hn:=hn) (hp:=ps.heap) (ns:=ns) ps.env t with ⟨h,_⟩ | ⟨w,h⟩
   ·rw [h]; trivial
   ·rw [h]; exact val w _ _ (R.env t)
  ·obtain ⟨_,ob0,h3,h4,_⟩:=hg a ob ha
   cases ob0 with
   | sl=>cases h4; exact ObR.mono g (hget_lt h3) rfl (fun _ _=>rfl) (R.ob a _ h3)
   | cell ro tmp v=>
    cases h4
    obtain ⟨o,gg,b,w,e1,e2,e3,e4,e5,e6,e7,e8,e9,e10,e11⟩:=R.ob a _ h3
    exact ⟨o,gg,b,w,e1,e2,e3,e4,e5,e6,e7,e8,e9,val _ v w e10,frzV_cell e11⟩
  ·obtain ⟨_,ob0,h3,_,h5,_⟩:=hg a ob ha
   rw [h5]; exact R.age a ob0 h3
  ·obtain ⟨_,ob0,h3,_,h5,_⟩:=hg a ob ha
   exact R.st a ob0 t h3 (h5 ▸ ht)
  ·obtain ⟨_,ob0,h3,_,_,h6⟩:=hg a ob ha
   exact R.p1 a ob0 h3 (h6 ▸ hr)
  ·show look (frzEn hn ps.heap ns ps.env) t = .undef
   rcases look_frzEn (hn:=hn) (hp:=ps.heap) (ns:=ns) ps.env t with ⟨h,_⟩ | ⟨w,h⟩
   ·exact h
   ·rw [h,ht]; cases w <;> rfl
theorem canon_ok (R:Rel d anV P0 H0 ps μ L E H nx) (hn:Hints) (lv:List Nat):∃ μ' L',Made d anV P0 H0 ps μ L E H nx lv (canon hn lv ps) μ' L':=by
 obtain ⟨R0,t0,u0⟩:=frzS_ok R hn lv
 obtain ⟨μ1,L1,M1⟩:=thawS_ok R0 hn lv
 obtain ⟨μ2,L2,M2⟩:=ren_ok M1.R (uniqN_nodup _) M1.mem
 exact ⟨μ2,L2,M2.R,fun i h=>t0 i (M1.top i (M2.top i h)),M2.mem,M2.keys.trans M1.keys,fun t h=>M2.und t (M1.und t (u0 t h))⟩
end
end Go.Am
/- The machine on typed data against the small machine: a state from its data. -/
namespace Go.Am
structure Fil (X:Vw) (s:SK) (v:PV) (ds:List Dat) (a:AV) (v':PV):Prop where
 eq:∀ rest,filV s (ds++rest)=some (v',rest)
 vr:VR X v' a
 kp:∀ t,hasKp t v=false→hasKp t v'=false
 cell:cellOKK s=true→cellOK v'=true
 pure:pureK s=true→flatPV v'=true
 lf:cellLeafK s=true→cellLeaf v'=true
 pl:pureLeafK s=true→pureLeaf v'=true
structure Fils (X:Vw) (s:List SK) (v:List PV) (ds:List Dat) (a:List AV) (v':List PV):Prop where
 eq:∀ rest,filVs s (ds++rest)=some (v',rest)
 vr:VRs X v' a
 kp:∀ t,hasKps t v=false→hasKps t v'=false
 lf:s.all cellLeafK=true→v'.all cellLeaf=true
 pl:s.all pureLeafK=true→v'.all pureLeaf=true
 len:v'.length=s.length
theorem ite_some {α:Type} {c:Bool} {x:Option α} {y:α} (h:(if c=true then x else none)=some y):c=true∧x=some y:=by
 cases c with
 | true=>exact ⟨rfl,h⟩
 | false=>cases h
mutual
theorem matV_fil {X:Vw}:∀ (s:SK) (v:PV) (ds:List Dat) (a:AV),matV s v=some ds→VR X v a→∃ v',Fil X s v ds a v'
 | .d p t,.d q t' x,ds,a,h,hv=>by
  simp only [matV] at h
  split at h
  ·cases h
  ·rename_i hpq
   cases hc:castK t' t x with
   | none=>rw [hc] at h; cases h
   | some y=>
    rw [hc] at h
    cases h
    obtain ⟨rfl,rfl⟩:=castK_eq hc
    obtain ⟨Li,h1,h2,h3⟩:=hv
    refine ⟨.d p t' x,fun rest=>?_,⟨Li,h1,fun hp=>h2 ?_,h3⟩,fun t h=>rfl,fun hc=>by cases t' <;> exact hc,fun hp=>hp,fun hc=>hc,fun hp=>hp⟩
    ·simp only [List.cons_append,List.nil_append,filV,castK_self]
    ·cases hq:q <;> cases hf:t'.flat <;> cases hp':p <;> simp_all
 | .agg cs,.agg vs,ds,a,h,⟨h1,h2⟩=>by
  have h:matVs cs vs=some ds:=h
  obtain ⟨vs',F⟩:=matVs_fil cs vs ds _ h h2
  refine ⟨.agg vs',fun rest=>?_,⟨h1,F.vr⟩,F.kp,fun hc=>?_,fun hp=>F.pl hp,fun h=>(by cases h),fun h=>(by cases h)⟩
  ·simp only [filV,F.eq]
  ·simp only [cellOKK,cellOK,Bool.and_eq_true] at hc ⊢
   refine ⟨F.lf hc.1,?_⟩
   have:=F.len
   cases vs' with
   | nil=>cases cs with
    | nil=>exact hc.2
    | cons=>simp at this
   | cons=>rfl
 | .nils,.nils,ds,a,h,hv=>by
  cases h
  exact ⟨.nils,fun _=>rfl,hv,fun _ h=>h,fun _=>rfl,fun _=>rfl,fun _=>rfl,fun _=>rfl⟩
 | .own a,.own b,ds,av,h,hv=>by
  obtain ⟨h1,h2⟩:=ite_some h
  have:=Nat.eq_of_beq_eq_true h1
  subst this
  cases h2
  exact ⟨.own a,fun _=>rfl,hv,fun _ h=>h,fun _=>rfl,fun h=>(by cases h),fun _=>rfl,fun h=>(by cases h)⟩
 | .cp a off,.cp b off',ds,av,h,hv=>by
  obtain ⟨h1,h2⟩:=ite_some h
  simp only [Bool.and_eq_true] at h1
  have:=Nat.eq_of_beq_eq_true h1.1
  subst this
  have:=Nat.eq_of_beq_eq_true h1.2
  subst this
  cases h2
  exact ⟨.cp a off,fun _=>rfl,hv,fun _ h=>h,fun _=>rfl,fun h=>(by cases h),fun _=>rfl,fun h=>(by cases h)⟩
 | .ep a v off e,.ep b v' i off' e' x,ds,av,h,hv=>by
  obtain ⟨h1,h2⟩:=ite_some h
  simp only [Bool.and_eq_true] at h1
  obtain ⟨k1,k2,k3⟩:a=b∧v=v'∧off=off':=by
   have:=h1
   first
    | exact ⟨Nat.eq_of_beq_eq_true this.1.1,Nat.eq_of_beq_eq_true this.1.2,Nat.eq_of_beq_eq_true this.2⟩
    | exact ⟨Nat.eq_of_beq_eq_true this.1,Nat.eq_of_beq_eq_true this.2.1,Nat.eq_of_beq_eq_true this.2.2⟩
  subst k1 k2 k3
  cases hc:castK e' e x with
  | none=>rw [hc] at h2; cases h2
  | some y=>
   rw [hc] at h2
   cases h2
   obtain ⟨rfl,rfl⟩:=castK_eq hc
   refine ⟨.ep a v i off e' x,fun rest=>?_,hv,fun _ h=>h,fun h=>(by cases h),fun h=>(by cases h),fun h=>(by cases h),fun h=>(by cases h)⟩
   have hi:castK (.int .i64) (.int .i64) (ofN i:(Kd.int .i64).den)=some (ofN i):=castK_self _
   have hx:castK e' e' x=some x:=castK_self x
   show (match castK (.int .i64) (.int .i64) (ofN i:(Kd.int .i64).den),castK e' e' x with | some i,some y=>some (PV.ep a v (toN i) off e' y,rest) | _,_=>none)=_
   rw [hi,hx]
   simp [toN_def,ofN_def]
 | .tp p e off,.tp q e' x off',ds,av,h,hv=>by
  simp only [matV] at h
  split at h
  ·cases h
  ·rename_i hpq
   simp only [Bool.not_eq_true,Bool.or_eq_false_iff] at hpq
   obtain ⟨g1,g2⟩:=hpq
   have g2:Nat.beq off off'=true:=by cases hb:Nat.beq off off' <;> simp_all
   have:=Nat.eq_of_beq_eq_true g2
   subst this
   cases hc:castK e' e x with
   | none=>rw [hc] at h; cases h
   | some y=>
    rw [hc] at h
    cases h
    obtain ⟨rfl,rfl⟩:=castK_eq hc
    refine ⟨.tp p e' x off,fun rest=>?_,?_,fun _ h=>h,fun h=>(by cases h),fun h=>(by cases h),fun h=>(by cases h),fun h=>(by cases h)⟩
    ·simp only [List.cons_append,List.nil_append,filV,castK_self]
    ·rcases hv with h | ⟨h0,h⟩
     ·exact .inl h
     ·subst h0
      exact .inr ⟨by simpa using g1,h⟩
 | .kp t v off,.kp u w off',ds,av,h,⟨h0,h0',o,g,b,w',h1,h2,h3,h4,h5,h6,h7⟩=>by
  obtain ⟨g1,g2⟩:=ite_some h
  simp only [Bool.and_eq_true] at g1
  obtain ⟨k1,k2,k3,k4⟩:=g1
  have:=Nat.eq_of_beq_eq_true k1
  subst this
  have:=Nat.eq_of_beq_eq_true k2
  subst this
  obtain ⟨w2,F⟩:=matV_fil v w ds w' g2 h7
  have hc2:=F.cell k4
  have hp2:=F.pure k3
  refine ⟨.kp t w2 off,fun rest=>?_,⟨?_,hc2,o,g,b,w',h1,h2,h3,h4,h5,h6,F.vr⟩,fun _ h=>h,fun h=>(by cases h),fun h=>(by cases h),fun h=>(by cases h),fun h=>(by cases h)⟩
  ·simp only [filV,F.eq]
  ·cases w2 with
   | agg cs=>exact hp2
   | d=>exact hp2
   | nils=>rfl
   | _=>first | (simp [cellOK,cellLeaf] at hc2; done) | exact hp2
 | .fn f cs,.fn g vs,ds,a,h,⟨as,h1,h2⟩=>by
  obtain ⟨g1,g2⟩:=ite_some h
  have:=Nat.eq_of_beq_eq_true g1
  subst this
  obtain ⟨vs',F⟩:=matVs_fil cs vs ds _ g2 h2
  exact ⟨.fn f vs',fun rest=>by simp only [filV,F.eq],⟨as,h1,F.vr⟩,F.kp,fun h=>(by cases h),fun h=>(by cases h),fun h=>(by cases h),fun h=>(by cases h)⟩
 | .undef,v,ds,a,h,hv=>by
  have h:some []=some ds:=by cases v <;> exact h
  cases h
  exact ⟨.undef,fun _=>rfl,trivial,fun _ _=>rfl,fun h=>(by cases h),fun h=>(by cases h),fun h=>(by cases h),fun h=>(by cases h)⟩
theorem matVs_fil {X:Vw}:∀ (s:List SK) (v:List PV) (ds:List Dat) (a:List AV),matVs s v=some ds→VRs X v a→∃ v',Fils X s v ds a v'
 | [],[],ds,[],h,hv=>by
  cases h
  exact ⟨[],fun _=>rfl,trivial,fun _ h=>h,fun _=>rfl,fun _=>rfl,rfl⟩
 | s :: r,v :: q,ds,a :: as,h,hv=>by
  simp only [matVs] at h
  cases h1:matV s v with
  | none=>rw [h1] at h; cases h
  | some d1=>
   rw [h1] at h
   cases h2:matVs r q with
   | none=>rw [h2] at h; cases h
   | some d2=>
    rw [h2] at h
    cases h
    obtain ⟨v',F⟩:=matV_fil s v d1 a h1 hv.1
    obtain ⟨vs',G⟩:=matVs_fil r q d2 as h2 hv.2
    refine ⟨v' :: vs',fun rest=>?_,⟨F.vr,G.vr⟩,fun t h=>?_,fun h=>?_,fun h=>?_,by simp [G.len]⟩
    ·simp only [filVs,List.append_assoc,F.eq,G.eq]
    ·simp only [hasKps,Bool.or_eq_false_iff] at h ⊢
     exact ⟨F.kp t h.1,G.kp t h.2⟩
    ·simp only [List.all_cons,Bool.and_eq_true] at h ⊢
     exact ⟨F.lf h.1,G.lf h.2⟩
    ·simp only [List.all_cons,Bool.and_eq_true] at h ⊢
     exact ⟨F.pl h.1,G.pl h.2⟩
 | [],[],_,_ :: _,_,hv=>hv.elim
 | _ :: _,_ :: _,_,[],_,hv=>hv.elim
end
end Go.Am
/- The machine on typed data against the small machine: a state from its data,whole; joins. -/
namespace Go.Am
def lookK:List (Nat×SK)→Nat→SK
 | [],_=>.undef
 | (a,v) :: r,t=>if a=t then v else lookK r t
theorem matE_fil {X:Vw} {E:AEnv}:∀ (s:List (Nat×SK)) (e:List (Nat×PV)) (ds:List Dat),matE s e=some ds→(∀ t v,(t,v)∈e→VR X v (E t)) →
  ∃ e',(∀ rest,filE s (ds++rest)=some (e',rest))∧(∀ t v,(t,v)∈e'→VR X v (E t))∧keysE e'=keysE e∧envT s=keysE e
 | [],[],ds,h,hv=>by
  cases h
  exact ⟨[],fun _=>rfl,fun t v h=>(by cases h),rfl,rfl⟩
 | (t,s) :: r,(u,v) :: q,ds,h,hv=>by
  obtain ⟨h0,hh⟩:=ite_some h
  have:=Nat.eq_of_beq_eq_true h0
  subst this
  cases h1:matV s v with
  | none=>rw [h1] at hh; cases hh
  | some d1=>
   rw [h1] at hh
   cases h2:matE r q with
   | none=>rw [h2] at hh; cases hh
   | some d2=>
    rw [h2] at hh
    cases hh
    obtain ⟨v',F⟩:=matV_fil s v d1 (E t) h1 (hv t v (by simp))
    obtain ⟨e',G1,G2,G3,G4⟩:=matE_fil r q d2 h2 (fun u w hw=>hv u w (by simp [hw]))
    refine ⟨(t,v') :: e',fun rest=>?_,fun u w hw=>?_,by simp [keysE,G3],by simp [envT,keysE,G4]⟩
    ·simp only [filE,List.append_assoc,F.eq,G1]
    ·rcases List.mem_cons.1 hw with hw | hw
     ·cases hw; exact F.vr
     ·exact G2 u w hw
theorem filE_undef:∀ {s:List (Nat×SK)} {l r:List Dat} {e:List (Nat×PV)} {t:Nat},filE s l=some (e,r)→lookK s t = .undef→look e t = .undef
 | [],l,r,e,t,h,_=>by cases h; rfl
 | (u,s) :: q,l,r,e,t,h,hk=>by
  simp only [filE] at h
  cases h1:filV s l with
  | none=>rw [h1] at h; cases h
  | some p=>
   obtain ⟨v,r1⟩:=p
   rw [h1] at h
   simp only at h
   cases h2:filE q r1 with
   | none=>rw [h2] at h; cases h
   | some p2=>
    obtain ⟨vs,r2⟩:=p2
    rw [h2] at h
    cases h
    rw [look_cons]
    simp only [lookK] at hk
    by_cases hu:u=t
    ·rw [if_pos hu] at hk ⊢
     subst hk
     cases h1; rfl
    ·rw [if_neg hu] at hk ⊢
     exact filE_undef h2 hk
def SimO (X:Vw):PObj→PObj→Prop
 | .sl ro ver tmp sz e dp xs,ob=>ob = .sl ro ver tmp sz e dp xs
 | .cell ro tmp v,.cell ro' tmp' v'=>ro'=ro∧tmp'=tmp∧cellOK v'=true∧∀ w,VR X v w→VR X v' w
 | _,_=>False
theorem beqB_eq {a b:Bool} (h:beqB a b=true):a=b:=by cases a <;> cases b <;> first | rfl | cases h
theorem beqO_eq {a b:Option Nat} (h:beqO a b=true):a=b:=by
 cases a <;> cases b
 ·rfl
 ·cases h
 ·cases h
 ·rw [Nat.eq_of_beq_eq_true h]
theorem matO_fil {X:Vw}:∀ (s:List OSK) (hp:List (Option PObj)) (ds:List Dat),matO s hp=some ds→(∀ ro t v,some (PObj.cell ro t v)∈hp→∃ a,VR X v a) →
  ∃ hp',(∀ rest,filO s (ds++rest)=some (hp',rest))∧hp'.length=hp.length∧∀ a ob',hget hp' a=some ob'→∃ ob,hget hp a=some ob∧SimO X ob ob'
 | [],[],ds,h,hv=>by
  cases h
  exact ⟨[],fun _=>rfl,rfl,fun a ob h=>(by cases h)⟩
 | .sl ro ver tmp sz e dp :: r,some (.sl ro' ver' tmp' sz' e' dp' xs) :: q,ds,h,hv=>by
  obtain ⟨h0,hh⟩:=ite_some h
  simp only [Bool.and_eq_true] at h0
  obtain ⟨k1,k2,k3,k4⟩:=h0
  have:=beqB_eq k1; subst this
  have:=Nat.eq_of_beq_eq_true k2; subst this
  have:=beqO_eq k3; subst this
  have:=beqB_eq k4; subst this
  cases hc:castK (.sl sz' e') (.sl sz e) xs with
  | none=>rw [hc] at hh; cases hh
  | some y=>
   rw [hc] at hh
   cases h2:matO r q with
   | none=>rw [h2] at hh; cases hh
   | some d2=>
    rw [h2] at hh
    cases hh
    obtain ⟨he,hy⟩:=castK_eq hc
    cases he
    subst hy
    obtain ⟨hp',G1,G2,G3⟩:=matO_fil r q d2 h2 (fun ro t v hm=>hv ro t v (by simp [hm]))
    refine ⟨some (.sl ro ver tmp sz e dp xs) :: hp',fun rest=>?_,by simp [G2],fun a ob' ha=>?_⟩
    ·have hx:castK (.sl sz e) (.sl sz e) xs=some xs:=castK_self (t:=.sl sz e) xs
     simp only [List.cons_append,filO,hx,G1]
    ·cases a with
     | zero=>cases ha; exact ⟨_,rfl,rfl⟩
     | succ a=>exact G3 a ob' ha
 | .cell ro tmp s :: r,some (.cell ro' tmp' v) :: q,ds,h,hv=>by
  obtain ⟨h0,hh⟩:=ite_some h
  simp only [Bool.and_eq_true] at h0
  obtain ⟨k1,k2,k3⟩:=h0
  have:=beqB_eq k1; subst this
  have:=beqO_eq k2; subst this
  cases h1:matV s v with
  | none=>rw [h1] at hh; cases hh
  | some d1=>
   rw [h1] at hh
   cases h2:matO r q with
   | none=>rw [h2] at hh; cases hh
   | some d2=>
    rw [h2] at hh
    cases hh
    obtain ⟨w0,hw0⟩:=hv ro tmp v (by simp)
    obtain ⟨v',F⟩:=matV_fil s v d1 w0 h1 hw0
    obtain ⟨hp',G1,G2,G3⟩:=matO_fil r q d2 h2 (fun ro t v hm=>hv ro t v (by simp [hm]))
    refine ⟨some (.cell ro tmp v') :: hp',fun rest=>?_,by simp [G2],fun a ob' ha=>?_⟩
    ·simp only [filO,List.append_assoc,F.eq,G1]
    ·cases a with
     | zero=>
      cases ha
      refine ⟨_,rfl,rfl,rfl,F.cell k3,fun w hw=>?_⟩
      obtain ⟨v2,F2⟩:=matV_fil s v d1 w h1 hw
      have:=F.eq []
      rw [F2.eq []] at this
      cases this
      exact F2.vr
     | succ a=>exact G3 a ob' ha
 | [],_ :: _,_,h,_=>by cases h
 | .sl _ _ _ _ _ _ :: _,[],_,h,_=>by cases h
 | .cell _ _ _ :: _,[],_,h,_=>by cases h
 | .sl _ _ _ _ _ _ :: _,none :: _,_,h,_=>by cases h
 | .cell _ _ _ :: _,none :: _,_,h,_=>by cases h
 | .sl _ _ _ _ _ _ :: _,some (.cell _ _ _) :: _,_,h,_=>by cases h
 | .cell _ _ _ :: _,some (.sl _ _ _ _ _ _ _) :: _,_,h,_=>by cases h
theorem look_env:∀ {e:List (Nat×PV)} {X:Vw} {E:AEnv},(∀ t v,(t,v)∈e→VR X v (E t))→∀ t,VR X (look e t) (E t)
 | [],X,E,_,t=>trivial
 | (u,v) :: r,X,E,h,t=>by
  rw [look_cons]
  by_cases hu:u=t
  ·rw [if_pos hu]; subst hu; exact h u v (by simp)
  ·rw [if_neg hu]; exact look_env (fun t v hm=>h t v (by simp [hm])) t
theorem toDens_from:∀ {l:List Kd} {ds:List Dat} {σ:Kd.dens l},toDens l ds=some σ→fromDens l σ=ds
 | [],[],σ,h=>rfl
 | t :: r,⟨t',x⟩ :: q,σ,h=>by
  simp only [toDens] at h
  cases h1:castK t' t x with
  | none=>rw [h1] at h; cases h
  | some a=>
   rw [h1] at h
   cases h2:toDens r q with
   | none=>rw [h2] at h; cases h
   | some b=>
    rw [h2] at h
    cases h
    obtain ⟨rfl,rfl⟩:=castK_eq h1
    simp only [fromDens,toDens_from h2]
 | [],_ :: _,_,h=>by cases h
 | _ :: _,[],_,h=>by cases h
theorem from_tup:∀ (l:List Dat),fromDens (tysD l) (tupD l)=l
 | []=>rfl
 | x :: r=>by simp only [tysD,tupD,fromDens,from_tup r]
theorem pickD_get {ds:List Dat}:∀ {ix:List Nat} {l:List Dat},pickD ds ix=some l→(∀ p∈zipD ix l,nthD ds p.1=some p.2)∧∀ j∈ix,∃ x,(j,x)∈zipD ix l
 | [],l,h=>by simp only [pickD] at h; cases h; exact ⟨fun p hp=>(by cases hp),fun j hj=>(by cases hj)⟩
 | j :: r,l,h=>by
  simp only [pickD] at h
  split at h
  ·rename_i x q h1 h2
   cases h
   obtain ⟨a,b⟩:=pickD_get h2
   refine ⟨fun p hp=>?_,fun i hi=>?_⟩
   ·rcases List.mem_cons.1 hp with rfl | hp
    ·exact h1
    ·exact a p hp
   ·rcases List.mem_cons.1 hi with rfl | hi
    ·exact ⟨x,List.mem_cons_self ..⟩
    ·obtain ⟨y,hy⟩:=b i hi
     exact ⟨y,List.mem_cons_of_mem _ hy⟩
  ·cases h
theorem grpD_ung {ds:List Dat} (gs:List Gp):∀ (l:List Dat),grpD ds gs=some l→∃ ps,ungD gs l=some ps∧(∀ p∈ps,nthD ds p.1=some p.2)∧∀ g∈gs,∀ j∈g.ix,∃ x,(j,x)∈ps:=by
 induction gs with
 | nil=>
  intro l h
  simp only [grpD] at h
  cases h
  exact ⟨[],rfl,fun p hp=>(by cases hp),fun g hg=>(by cases hg)⟩
 | cons g r ih=>
  intro l h
  obtain ⟨st,ix⟩:=g
  cases st with
  | true=>
   simp only [grpD] at h
   split at h
   ·rename_i q q' h1 h2
    cases h
    obtain ⟨ps,a1,a2,a3⟩:=ih q' h2
    obtain ⟨b1,b2⟩:=pickD_get h1
    refine ⟨zipD ix q++ps,by simp only [ungD,a1,from_tup],fun p hp=>(List.mem_append.1 hp).elim (b1 p) (a2 p),fun g hg j hj=>?_⟩
    rcases List.mem_cons.1 hg with rfl | hg
    ·obtain ⟨x,hx⟩:=b2 j hj; exact ⟨x,List.mem_append.2 (.inl hx)⟩
    ·obtain ⟨x,hx⟩:=a3 g hg j hj; exact ⟨x,List.mem_append.2 (.inr hx)⟩
   ·cases h
  | false=>
   cases ix with
   | nil=>cases h
   | cons j q0=>
    cases q0 with
    | cons=>cases h
    | nil=>
     simp only [grpD] at h
     split at h
     ·rename_i x q' h1 h2
      cases h
      obtain ⟨ps,a1,a2,a3⟩:=ih q' h2
      refine ⟨(j,x) :: ps,by simp only [ungD,a1],fun p hp=>?_,fun g hg i hi=>?_⟩
      ·rcases List.mem_cons.1 hp with rfl | hp
       ·exact h1
       ·exact a2 p hp
      ·rcases List.mem_cons.1 hg with rfl | hg
       ·have hi:i∈[j]:=hi
        simp at hi; subst hi
        exact ⟨x,List.mem_cons_self ..⟩
       ·obtain ⟨y,hy⟩:=a3 g hg i hi; exact ⟨y,List.mem_cons_of_mem _ hy⟩
     ·cases h
theorem lkD_get:∀ {ps:List (Nat×Dat)} {j:Nat},(∃ x,(j,x)∈ps)→∃ x,lkD ps j=some x∧(j,x)∈ps
 | [],j,h=>by obtain ⟨x,hx⟩:=h; cases hx
 | (i,y) :: r,j,h=>by
  by_cases hij:i=j
  ·subst hij; exact ⟨y,by simp [lkD],List.mem_cons_self ..⟩
  ·have hb:Nat.beq i j=false:=by
    cases hb:Nat.beq i j with
    | true=>exact (hij (Nat.eq_of_beq_eq_true hb)).elim
    | false=>rfl
   obtain ⟨x,hx⟩:=h
   rcases List.mem_cons.1 hx with e | hx
   ·cases e; exact (hij rfl).elim
   ·obtain ⟨z,h1,h2⟩:=lkD_get (ps:=r) ⟨x,hx⟩
    exact ⟨z,by simp only [lkD,hb]; exact h1,List.mem_cons_of_mem _ h2⟩
theorem covB_get {gs:List Gp}:∀ {n:Nat},covB gs n=true→∀ j,j < n→∃ g∈gs,j∈g.ix
 | 0,_,j,hj=>by omega
 | n + 1,h,j,hj=>by
  simp only [covB,Bool.and_eq_true] at h
  by_cases e:j=n
  ·subst e
   obtain ⟨g,hg,h1⟩:=List.any_eq_true.1 h.1
   exact ⟨g,hg,by simpa using h1⟩
  ·exact covB_get h.2 j (by omega)
theorem collD_get {ps:List (Nat×Dat)}:∀ {n j:Nat} {ds:List Dat},lenD ds=n→(∀ i,i < n→∃ x,lkD ps (j + i)=some x∧nthD ds i=some x)→collD ps n j=some ds
 | 0,j,ds,hl,_=>by cases ds with | nil=>rfl | cons=>simp [lenD] at hl
 | n + 1,j,ds,hl,h=>by
  cases ds with
  | nil=>simp [lenD] at hl
  | cons y r=>
   obtain ⟨x,h1,h2⟩:=h 0 (by omega)
   have h2:some y=some x:=h2
   cases h2
   have ih:=collD_get (ps:=ps) (n:=n) (j:=j + 1) (ds:=r) (by simpa [lenD] using hl) fun i hi=>by
    obtain ⟨x,h1,h2⟩:=h (i + 1) (by omega)
    exact ⟨x,by rw [show j + 1 + i=j + (i + 1) by omega]; exact h1,h2⟩
   simp only [collD,show lkD ps j=some y from h1,ih]
theorem toG_ung {s:Skel} {ds:List Dat} {σ:Kd.dens s.gtys} (h:toG s ds=some σ):s.ung (fromDens s.gtys σ)=some ds:=by
 unfold toG at h
 split at h
 ·rename_i hc
  simp only [Bool.and_eq_true] at hc
  split at h
  ·rename_i l hl
   rw [toDens_from h]
   obtain ⟨ps,a1,a2,a3⟩:=grpD_ung _ l hl
   unfold Skel.ung
   simp only [a1]
   have hlen:=Nat.eq_of_beq_eq_true hc.1
   refine collD_get hlen fun i hi=>?_
   obtain ⟨g,hg,hj⟩:=covB_get hc.2 i hi
   obtain ⟨x,h1,h2⟩:=lkD_get (a3 g hg i hj)
   exact ⟨x,by rw [Nat.zero_add]; exact h1,a2 _ h2⟩
  ·cases h
 ·cases h
section
variable {d:Nat} {anV:List AV} {P0:Id→Prop} {H0:Heap} {ps:PS} {μ:Nat→AV} {L:Nat→List Id} {E:AEnv} {H:Heap} {nx:Nat}
theorem matS_ok (R:Rel d anV P0 H0 ps μ L E H nx) {s:Skel} {ds:List Dat} (hall:∀ t v,(t,v)∈ps.env→VR ⟨d,ps.heap,μ,L,H,nx⟩ v (E t)) (h:matS s ps=some ds):∃ ps',filS s ds=some ps'∧Rel d anV P0 H0 ps' μ L E H nx ∧
  keysE ps'.env=envT s.env∧(∀ t,lookK s.env t = .undef→look ps'.env t = .undef)∧∀ i,Vw.top ⟨d,ps'.heap,μ,L,H,nx⟩ i→Vw.top ⟨d,ps.heap,μ,L,H,nx⟩ i:=by
 unfold matS at h
 cases h1:matVs s.anc ps.anc with
 | none=>rw [h1] at h; cases h
 | some d1=>
  rw [h1] at h
  cases h2:matE s.env ps.env with
  | none=>rw [h2] at h; cases h
  | some d2=>
   rw [h2] at h
   cases h3:matO s.heap ps.heap with
   | none=>rw [h3] at h; cases h
   | some d3=>
    rw [h3] at h
    cases h
    obtain ⟨anc',A⟩:=matVs_fil (X:=⟨d,ps.heap,μ,L,H,nx⟩) s.anc ps.anc d1 anV h1 R.anc
    obtain ⟨e',B1,B2,B3,B4⟩:=matE_fil (X:=⟨d,ps.heap,μ,L,H,nx⟩) (E:=E) s.env ps.env d2 h2 hall
    have hcell:∀ ro t v,some (PObj.cell ro t v)∈ps.heap→∃ a,VR ⟨d,ps.heap,μ,L,H,nx⟩ v a:=by
     intro ro t v h
     obtain ⟨a,ha⟩:=hget_mem h
     obtain ⟨o,g,b,w,_,_,_,_,_,_,_,_,_,hv,_⟩:=R.ob a _ ha
     exact ⟨w,hv⟩
    obtain ⟨hp',C1,C2,C3⟩:=matO_fil (X:=⟨d,ps.heap,μ,L,H,nx⟩) s.heap ps.heap d3 h3 hcell
    have C1':=C1 []
    rw [List.append_nil] at C1'
    refine ⟨⟨e',anc',hp'⟩,?_,?_,by rw [B3,B4],fun t ht=>filE_undef (B1 d3) ht,?_⟩
    ·simp only [filS,A.eq,B1,C1']
    ·have tops:∀ i,Vw.top ⟨d,hp',μ,L,H,nx⟩ i→Vw.top ⟨d,ps.heap,μ,L,H,nx⟩ i:=by
      rintro i ⟨a,ha,ht⟩
      obtain ⟨ob',hob⟩:=Option.isSome_iff_exists.1 ha
      obtain ⟨ob,k1,_⟩:=C3 a ob' hob
      exact ⟨a,by unfold live; rw [k1]; rfl,ht⟩
     have lives:∀ a,live hp' a→live ps.heap a:=by
      intro a ha
      obtain ⟨ob',hob⟩:=Option.isSome_iff_exists.1 ha
      obtain ⟨ob,k1,_⟩:=C3 a ob' hob
      unfold live; rw [k1]; rfl
     have g:Grow ⟨d,ps.heap,μ,L,H,nx⟩ ⟨d,hp',μ,L,H,nx⟩ none:=by
      refine Grow.of rfl (Nat.le_of_eq C2.symm) (fun _ _=>rfl) (fun a ha=>?_) (Nat.le_refl _) (fun _ _ _=>rfl) (fun i hi=>.inl (tops i hi))
      show laterO (hget ps.heap a) (hget hp' a)
      cases hh:hget hp' a with
      | none=>cases hget ps.heap a with
       | none=>trivial
       | some ob=>cases ob <;> trivial
      | some ob'=>
       obtain ⟨ob,k1,k2⟩:=C3 a ob' hh
       rw [k1]
       cases ob with
       | sl=>have k2:ob'=_:=k2; subst k2; exact laterO.refl _
       | cell=>cases ob' with
        | sl=>exact k2.elim
        | cell=>trivial
     have sims:∀ a ob',hget hp' a=some ob'→∃ ob,hget ps.heap a=some ob∧SimO ⟨d,ps.heap,μ,L,H,nx⟩ ob ob'∧tmpO ob'=tmpO ob∧roOf ob'=roOf ob:=by
      intro a ob' hob
      obtain ⟨ob,k1,k2⟩:=C3 a ob' hob
      refine ⟨ob,k1,k2,?_⟩
      cases ob with
      | sl=>have k2:ob'=_:=k2; subst k2; exact ⟨rfl,rfl⟩
      | cell=>cases ob' with
       | sl=>exact k2.elim
       | cell=>exact ⟨k2.2.1,k2.1⟩
     have none_kp:∀ {v:PV} (t:Nat),(none:Option Nat)=some t→hasKp t v=false:=fun _ h=>by cases h
     refine ⟨fun t=>VR.mono g _ _ none_kp (look_env B2 t),VRs.mono g _ _ (fun _ h=>by cases h) A.vr,fun t=>A.kp t (R.ank t),?_,fun a b hab h1 h2=>R.dis a b hab (lives a h1) (lives b h2),fun a ha=>R.nd a (lives a ha),?_,fun a ha=>R.tl a (lives a ha),?_,R.fresh,R.p0,?_,R.p2⟩
     ·intro a ob' hob
      have hob:hget hp' a=some ob':=hob
      obtain ⟨ob,k1,k2⟩:=C3 a ob' hob
      have hlt:=hget_lt k1
      cases ob with
      | sl=>
       have k2:ob'=_:=k2
       subst k2
       exact ObR.mono (X:=⟨d,ps.heap,μ,L,H,nx⟩) g hlt rfl (fun _ _=>rfl) (R.ob a _ k1)
      | cell ro tmp v=>
       cases ob' with
       | sl=>exact k2.elim
       | cell ro' tmp' v'=>
        obtain ⟨q1,q2,q3,q4⟩:=k2
        subst q1 q2
        obtain ⟨o,gg,b,w,e1,e2,e3,e4,e5,e6,e7,e8,e9,e10,e11⟩:=R.ob a _ k1
        exact ⟨o,gg,b,w,e1,e2,e3,e4,e5,e6,e7,e8,e9,VR.mono g _ _ none_kp (q4 w e10),q3⟩
     ·intro a ob' hob i hi
      obtain ⟨ob,k1,k2,k3,k4⟩:=sims a ob' hob
      rw [k3]; exact R.age a ob k1 i hi
     ·intro a ob' t hob ht o ho
      obtain ⟨ob,k1,k2,k3,k4⟩:=sims a ob' hob
      exact R.st a ob t k1 (k3 ▸ ht) o ho
     ·intro a ob' hob hro i hi
      obtain ⟨ob,k1,k2,k3,k4⟩:=sims a ob' hob
      exact R.p1 a ob k1 (k4 ▸ hro) i hi
    ·rintro i ⟨a,ha,ht⟩
     obtain ⟨ob',hob⟩:=Option.isSome_iff_exists.1 ha
     obtain ⟨ob,k1,_⟩:=C3 a ob' hob
     exact ⟨a,by unfold live; rw [k1]; rfl,ht⟩
end
end Go.Am
/- The machine on typed data against the small machine: joins. -/
namespace Go.Am
theorem look_append {e f:List (Nat×PV)} {t:Nat}:look (e++f) t=if t∈keysE e then look e t else look f t:=by
 induction e with
 | nil=>simp [keysE]
 | cons p r ih=>
  obtain ⟨u,v⟩:=p
  simp only [List.cons_append,look_cons,keysE,List.mem_cons]
  by_cases h:u=t
  ·subst h; simp
  ·rw [if_neg h,if_neg h,ih]
   simp [Ne.symm h]
theorem look_not {e:List (Nat×PV)} {t:Nat} (h:t ∉ keysE e):look e t = .undef:=by
 induction e with
 | nil=>rfl
 | cons p r ih=>
  obtain ⟨u,v⟩:=p
  simp only [keysE,List.mem_cons,not_or] at h
  rw [look_cons,if_neg (Ne.symm h.1)]
  exact ih h.2
theorem lookK_sk:∀ (e:List (Nat×PV)) (t:Nat),lookK (skE e) t=skV (look e t)
 | [],t=>rfl
 | (u,v) :: r,t=>by
  simp only [skE,lookK,look_cons]
  split
  ·rfl
  ·exact lookK_sk r t
theorem envT_sk:∀ (e:List (Nat×PV)),envT (skE e)=keysE e
 | []=>rfl
 | (u,v) :: r=>by simp [skE,envT,keysE,envT_sk r]
theorem pure_known {v:PV} (h:pureV v=true):v ≠ .undef:=by rintro rfl; cases h
def FxAt (fx env:List (Nat×PV)):Prop:=∀ t∈keysE fx,pureV (look fx t)=true∧(look env t=look fx t∨look env t = .undef)
theorem fxOK_known {env:List (Nat×PV)}:∀ {fx:List (Nat×PV)},fxOK env fx=true→∀ t∈keysE fx,look env t ≠ .undef
 | [],_,t,h=>by cases h
 | (u,v) :: r,h,t,ht=>by
  simp only [fxOK,Bool.and_eq_true] at h
  rcases List.mem_cons.1 ht with e | ht
  ·subst e
   intro e
   rw [e] at h
   exact Bool.noConfusion h.1
  ·exact fxOK_known h.2 t ht
theorem fixedE_spec {ps:PS} {asg:List Nat}:∀ {l:List Nat},(∀ t∈keysE (fixedE ps asg l).1,t ∉ asg∧pureV (look ps.env t)=true∧look (fixedE ps asg l).1 t=look ps.env t) ∧
  ∀ t∈(fixedE ps asg l).2,t∈asg∨pureV (look ps.env t)=false
 | []=>⟨fun t h=>(by cases h),fun t h=>(by cases h)⟩
 | u :: r=>by
  obtain ⟨h1,h2⟩:=@fixedE_spec ps asg r
  simp only [fixedE]
  by_cases hc:(!asg.elem u && pureV (look ps.env u))=true
  ·rw [if_pos hc]
   simp only [Bool.and_eq_true,Bool.not_eq_true'] at hc
   refine ⟨fun t ht=>?_,h2⟩
   rw [look_cons]
   by_cases hu:u=t
   ·subst hu
    rw [if_pos rfl]
    exact ⟨fun hm=>by have:=hc.1; simp [hm] at this,hc.2,rfl⟩
   ·rw [if_neg hu]
    rcases List.mem_cons.1 ht with e | ht
    ·exact (hu e.symm).elim
    ·exact h1 t ht
  ·rw [if_neg hc]
   refine ⟨h1,fun t ht=>?_⟩
   rcases List.mem_cons.1 ht with e | ht
   ·subst e
    by_cases ha:t∈asg
    ·exact .inl ha
    ·refine .inr ?_
     cases hp:pureV (look ps.env t) with
     | false=>rfl
     | true=>exact (hc (by simp [ha,hp])).elim
   ·exact h2 t ht
section
variable {d:Nat} {anV:List AV} {P0:Id→Prop} {H0:Heap} {ps:PS} {μ:Nat→AV} {L:Nat→List Id} {E:AEnv} {H:Heap} {nx:Nat}
theorem toJoin_ok {ρ:Type} {hn:Hints} {sk:Skel} {fx:List (Nat×PV)} {k:Kd.dens sk.gtys→Option ρ} {r:ρ} (R:Rel d anV P0 H0 ps μ L E H nx) (hf:FxAt fx ps.env) (h:toJoin hn sk fx k ps=some r) :
  ∃ σ ps0 μ' L',k σ=some r∧filG sk σ=some ps0∧Rel d anV P0 H0 { ps0 with env:=ps0.env++fx } μ' L' E H nx∧keysE ps0.env=envT sk.env:=by
 unfold toJoin at h
 split at h
 ·rename_i hk
  split at h
  ·rename_i ds hm
   split at h
   ·rename_i σ hσ
    obtain ⟨μ1,L1,M⟩:=canon_ok R hn (envT sk.env)
    obtain ⟨ps0,h1,h2,h3,h4,h5⟩:=matS_ok M.R M.mem hm
    have hds:=toG_ung hσ
    refine ⟨σ,ps0,μ1,L1,h,by unfold filG; rw [hds]; exact h1,h2.setEnv (fun t=>?_),h3⟩
    rw [look_append]
    split
    ·exact h2.env t
    ·by_cases ht:t∈keysE fx
     ·obtain ⟨p1,p2⟩:=hf t ht
      have hl:look ps.env t=look fx t:=p2.resolve_right (fxOK_known hk t ht)
      have hv:=R.env t
      rw [hl] at hv
      have hless:Less ⟨d,ps.heap,μ,L,H,nx⟩ ⟨d,ps0.heap,μ1,L1,H,nx⟩:=⟨rfl,rfl,rfl,fun i hi=>M.top i (h5 i hi)⟩
      exact hless.pure p1 hv
     ·rw [look_not ht]; trivial
   ·cases h
  ·cases h
 ·cases h
theorem filG_fil {s:Skel} {σ:Kd.dens s.gtys} {ps0:PS} (h:filG s σ=some ps0):∃ ds,filS s ds=some ps0:=by
 unfold filG at h
 split at h
 ·exact ⟨_,h⟩
 ·cases h
theorem branch_env {hn:Hints} {asg lv:List Nat} (R:Rel d anV P0 H0 ps μ L E H nx) {ds:List Dat} {ps0:PS} (h:filS (skS (canon hn (fixedE ps asg lv).2 ps)) ds=some ps0)
  (hk:keysE ps0.env=envT (skS (canon hn (fixedE ps asg lv).2 ps)).env) {t:Nat} (ht:t ∉ asg) (hv:pureV (look ps.env t)=true∨look ps.env t = .undef) :
  look (ps0.env++(fixedE ps asg lv).1) t=look ps.env t∨look (ps0.env++(fixedE ps asg lv).1) t = .undef:=by
 obtain ⟨f1,f2⟩:=@fixedE_spec ps asg lv
 obtain ⟨μ1,L1,M⟩:=canon_ok R hn (fixedE ps asg lv).2
 rw [look_append]
 split
 ·rename_i hm
  have hm':t∈(fixedE ps asg lv).2:=by
   rw [hk] at hm
   have:envT (skS (canon hn (fixedE ps asg lv).2 ps)).env=_:=envT_sk _
   rw [this,M.keys] at hm
   exact hm
  rcases f2 t hm' with h1 | h1
  ·exact (ht h1).elim
  ·rcases hv with hv | hv
   ·rw [hv] at h1; cases h1
   ·right
    have h2:=M.und t hv
    unfold filS at h
    split at h
    ·split at h
     ·rename_i henv
      split at h
      ·cases h
       refine filE_undef henv ?_
       have:lookK (skS (canon hn (fixedE ps asg lv).2 ps)).env t=_:=lookK_sk _ t
       rw [this,h2]; rfl
      ·cases h
     ·cases h
    ·cases h
 ·by_cases hm:t∈keysE (fixedE ps asg lv).1
  ·exact .inl (f1 t hm).2.2
  ·exact .inr (look_not hm)
end
def FxI {ρ:Type} (A:List Nat) (env:List (Nat×PV)):List (Itp ρ)→Prop
 | []=>True
 | .code c :: K=>FxI (asgC c++A) env K
 | .blk _ :: K=>FxI A env K
 | .join _ fx _ :: K=>(∀ t∈keysE fx,t ∉ A)∧FxAt fx env∧FxI A env K
 | .ou _ _ l _ _ :: K=>FxI (asgL l++A) env K
def EWa (A:List Nat) (e e':List (Nat×PV)):Prop:=∀ t,t ∉ A→(pureV (look e t)=true∨look e t = .undef)→look e' t=look e t∨look e' t = .undef
theorem EWa.refl (A:List Nat) (e:List (Nat×PV)):EWa A e e:=fun _ _ _=>.inl rfl
theorem EWa.of {e e':List (Nat×PV)} (h:EW e e') (A:List Nat):EWa A e e':=by
 intro t _ hv
 rcases h t with h | h | ⟨c,off,h⟩
 ·exact .inl h
 ·exact .inr h
 ·rw [h] at hv
  rcases hv with hv | hv <;> cases hv
theorem FxAt.step {fx e e':List (Nat×PV)} {A:List Nat} (h:FxAt fx e) (hA:∀ t∈keysE fx,t ∉ A) (w:EWa A e e'):FxAt fx e':=by
 intro t ht
 obtain ⟨h1,h2⟩:=h t ht
 refine ⟨h1,?_⟩
 rcases h2 with h2 | h2
 ·rcases w t (hA t ht) (.inl (by rw [h2]; exact h1)) with w | w
  ·exact .inl (w.trans h2)
  ·exact .inr w
 ·rcases w t (hA t ht) (.inr h2) with w | w
  ·exact .inr (w.trans h2)
  ·exact .inr w
theorem FxI.step {ρ:Type} {e e':List (Nat×PV)} {B:List Nat} (w:EWa B e e'):∀ {K:List (Itp ρ)} {A A':List Nat},(∀ t∈A',t∈A)→(∀ t∈B,t∈A)→FxI A e K→FxI A' e' K
 | [],A,A',_,_,_=>trivial
 | .code c :: K,A,A',hs,hb,h=>FxI.step (K:=K) (A:=asgC c++A) (A':=asgC c++A') w (fun t ht=>(List.mem_append.1 ht).elim (fun h=>List.mem_append.2 (.inl h)) fun h=>List.mem_append.2 (.inr (hs t h))) (fun t ht=>List.mem_append.2 (.inr (hb t ht))) h
 | .blk _ :: K,A,A',hs,hb,h=>FxI.step (K:=K) w hs hb h
 | .join sk fx k :: K,A,A',hs,hb,h=>⟨fun t ht hm=>h.1 t ht (hs t hm),h.2.1.step (fun t ht hm=>h.1 t ht (hb t hm)) w,FxI.step (K:=K) w hs hb h.2.2⟩
 | .ou _ _ l _ _ :: K,A,A',hs,hb,h=>FxI.step (K:=K) (A:=asgL l++A) (A':=asgL l++A') w (fun t ht=>(List.mem_append.1 ht).elim (fun h=>List.mem_append.2 (.inl h)) fun h=>List.mem_append.2 (.inr (hs t h))) (fun t ht=>List.mem_append.2 (.inr (hb t ht))) h
theorem FxI.sub {ρ:Type} {e:List (Nat×PV)} {K:List (Itp ρ)} {A A':List Nat} (hs:∀ t∈A',t∈A) (h:FxI A e K):FxI A' e K:=
 FxI.step (B:=[]) (EWa.refl _ _) hs (fun t ht=>by cases ht) h
theorem FxI.unw {ρ:Type} {e:List (Nat×PV)} {i:Nat}:∀ {K K':List (Itp ρ)} {A:List Nat},unwP i K=some K'→FxI A e K→FxI A e K'
 | [],K',A,h,_=>by cases h
 | .code c :: K,K',A,h,f=>(FxI.unw (K:=K) h f).sub fun t ht=>List.mem_append.2 (.inr ht)
 | .blk j :: K,K',A,h,f=>by
  simp only [unwP] at h
  split at h
  ·cases h; exact f
  ·split at h
   ·cases h
   ·exact FxI.unw (K:=K) h f
 | .join sk fx k :: K,K',A,h,f=>FxI.unw (K:=K) h f.2.2
 | .ou _ _ l _ _ :: K,K',A,h,f=>(FxI.unw (K:=K) h f).sub fun t ht=>List.mem_append.2 (.inr ht)
end Go.Am
/- The machine on typed data against the small machine: what is to be shown of it; operations and joins. -/
namespace Go.Am
def layL:List AOper→List Nat
 | []=>[]
 | o :: r=>layT o++layL r
def layC:AC→List Nat
 | .ops l | .opsU _ l _=>layL l
 | .seq a b | .cond _ a b=>layC a++layC b
 | .block _ b | .loop b=>layC b
 | _=>[]
def LayOK (d:Nat) (P0:Id→Prop) (l:List Nat):Prop:=∀ t∈l,¬ P0 (.st d t)
section
variable (T:Tab) (d:Nat) (anV:List AV) (P0:Id→Prop) (H0:Heap)
def Out {ρ:Type} (fin:PS→Option ρ) (Ka:List It) (s:St) (r:ρ):Prop:=
 ∃ s',arun T (8 * d) Ka s=some s'∧s.nx≤s'.nx∧∃ ps' μ' L',fin ps'=some r∧Rel d anV P0 H0 ps' μ' L' s'.E s'.H s'.nx
def JoinOK {ρ:Type} (fin:PS→Option ρ) (sk:Skel) (fx:List (Nat×PV)) (k:Kd.dens sk.gtys→Option ρ) (Ka:List It):Prop:=
 ∀ σ r ps0 μ L E H nx,k σ=some r→filG sk σ=some ps0→keysE ps0.env=envT sk.env→Rel d anV P0 H0 { ps0 with env:=ps0.env++fx } μ L E H nx→Out T d anV P0 H0 fin Ka ⟨E,H,nx⟩ r
inductive KR {ρ:Type} (fin:PS→Option ρ):List (Itp ρ)→List It→Prop
 | nil:KR fin [] []
 | code {c:AC} {K:List (Itp ρ)} {Ka:List It}:LayOK d P0 (layC c)→KR fin K Ka→KR fin (.code c :: K) (.code c :: Ka)
 | blk {i:Nat} {K:List (Itp ρ)} {Ka:List It}:KR fin K Ka→KR fin (.blk i :: K) (.blk i :: Ka)
 | join {sk:Skel} {fx:List (Nat×PV)} {k:Kd.dens sk.gtys→Option ρ} {K:List (Itp ρ)} {Ka:List It}:JoinOK T d anV P0 H0 fin sk fx k Ka→KR fin K Ka→KR fin (.join sk fx k :: K) Ka
 | lp {sk:Skel} {fx:List (Nat×PV)} {k:Kd.dens sk.gtys→Option ρ} {K:List (Itp ρ)} {b:AC} {Ka:List It}:JoinOK T d anV P0 H0 fin sk fx k (.lp b :: Ka)→KR fin K Ka→KR fin (.join sk fx k :: K) (.lp b :: Ka)
end
theorem KR.unw {T:Tab} {d:Nat} {anV:List AV} {P0:Id→Prop} {H0:Heap} {ρ:Type} {fin:PS→Option ρ} {i:Nat} {K:List (Itp ρ)} {Ka:List It} (h:KR T d anV P0 H0 fin K Ka):∀ {K':List (Itp ρ)},unwP i K=some K' →
  ∃ Ka',unwind i Ka=some Ka'∧KR T d anV P0 H0 fin K' Ka':=by
 induction h with
 | nil=>intro K' h; cases h
 | code _ _ ih=>intro K' h; exact ih h
 | blk hk ih=>
  intro K' h
  simp only [unwP] at h
  split at h
  ·rename_i hi
   cases h
   exact ⟨_,by simp only [unwind]; rw [if_pos hi],hk⟩
  ·rename_i hi
   split at h
   ·cases h
   ·rename_i hb
    obtain ⟨Ka',h1,h2⟩:=ih h
    exact ⟨Ka',by simp only [unwind]; rw [if_neg hi,if_neg hb]; exact h1,h2⟩
 | join _ _ ih=>intro K' h; exact ih h
 | lp _ _ ih=>intro K' h; exact ih h
section
variable (tb:PTab) (T:Tab)
def Sound (n:Nat):Prop:=∀ {ρ:Type} (cx:Cx) (fin:PS→Option ρ) (K:List (Itp ρ)) (Ka:List It) (ps:PS) (r:ρ) (d:Nat) (anV:List AV) (P0:Id→Prop) (H0:Heap) (μ:Nat→AV) (L:Nat→List Id) (E:AEnv) (H:Heap) (nx:Nat),
 evC tb n cx fin K ps=some r→Rel d anV P0 H0 ps μ L E H nx→KR T d anV P0 H0 fin K Ka→FxI [] ps.env K→Out T d anV P0 H0 fin Ka ⟨E,H,nx⟩ r
def CaRes (d:Nat) (anV:List AV) (P0:Id→Prop) (H0:Heap) (E:AEnv) (ps:PS) (μ:Nat→AV) (L:Nat→List Id) (H:Heap) (nx:Nat) {ρ:Type} (k:PV→PS→Option ρ) (r:ρ) (f:Nat) (avs:List AV):Prop:=
 ∃ v ps' av μ' L' H' nx',k v ps'=some r∧callOp T (arun T) (8 * d) f avs H nx=some (av,H',nx')∧Rel d anV P0 H0 ps' μ' L' E H' nx'∧VR ⟨d,ps'.heap,μ',L',H',nx'⟩ v av ∧
  ps.heap.length≤ps'.heap.length∧(∀ a,a < ps.heap.length→μ' a=μ a∧L' a=L a)∧nx≤nx'∧ps'.anc=ps.anc∧EW ps.env ps'.env∧LB ps.heap ps'.heap
def CaOK (n:Nat):Prop:=∀ {ρ:Type} (cx:Cx) (f:Nat) (vs:List PV) (avs:List AV) (ps:PS) (k:PV→PS→Option ρ) (r:ρ) (d:Nat) (anV:List AV) (P0:Id→Prop) (H0:Heap) (μ:Nat→AV) (L:Nat→List Id) (E:AEnv) (H:Heap) (nx:Nat),
 Rel d anV P0 H0 ps μ L E H nx→VRs ⟨d,ps.heap,μ,L,H,nx⟩ vs avs→caS tb (@evC tb n) cx f vs ps k=some r→CaRes T d anV P0 H0 E ps μ L H nx k r f avs
end
section
variable {tb:PTab} {T:Tab} {n:Nat} {d:Nat} {anV:List AV} {P0:Id→Prop} {H0:Heap} {ps:PS} {μ:Nat→AV} {L:Nat→List Id} {E:AEnv} {H:Heap} {nx:Nat} {ρ:Type} {r:ρ}
theorem CaRes.op {k:PV→PS→Option ρ} {f:Nat} {avs:List AV} {dst:Option Nat} {op:AOp} (h:CaRes T d anV P0 H0 E ps μ L H nx k r f avs) (ho:operV T (arun T) (8 * d) dst E H nx op=callOp T (arun T) (8 * d) f avs H nx) :
  OpOK T (arun T) d anV P0 H0 dst E ps μ L H nx k r op:=by
 obtain ⟨v,ps',av,μ',L',H',nx',h1,h2,h3,h4,h5,h6,h7⟩:=h
 exact ⟨v,ps',av,μ',L',H',nx',h1,ho.trans h2,h3,fun _=>h4,h5,keepL h6,h7⟩
theorem opS_ok (hca:CaOK tb T n) (R:Rel d anV P0 H0 ps μ L E H nx) {cx:Cx} {o:AOper} {k:PV→PS→Option ρ} (hl:LayOK d P0 (layT o)) (hg:o.guard=none) (h:opS tb (@evC tb n) cx o ps k=some r) :
  OpOK T (arun T) d anV P0 H0 o.dst E ps μ L H nx k r o.op:=by
 obtain ⟨dst,g,op⟩:=o
 have hg:g=none:=hg
 subst hg
 have main:∀ (hop:∀ n a x,op = .store n a x→dst=none),opP cx.hn cx.pm dst ps op k=some r→OpOK T (arun T) d anV P0 H0 dst E ps μ L H nx k r op:=fun hop h=>op_ok R hl hop h
 have nos:∀ {op':AOp},op=op'→(∀ n a x,op' ≠ .store n a x)→∀ n a x,op = .store n a x→dst=none:=by
  intro op' h1 h2 n a x h3
  exact (h2 n a x (h1.symm.trans h3)).elim
 cases op with
 | call f args=>exact (hca cx f _ _ ps k r d anV P0 H0 μ L E H nx R (R.pevs args) h).op rfl
 | callv f args=>
  unfold opS at h
  simp only at h
  split at h
  ·rename_i g caps hf
   have hv:=R.pev f
   rw [hf] at hv
   obtain ⟨vs,h1,h2⟩:=hv
   exact (hca cx g _ _ ps k r d anV P0 H0 μ L E H nx R (VRs.app (R.pevs args) h2) h).op (by simp only [operV]; rw [h1])
  ·cases h
 | store n a x=>
  cases dst with
  | none=>exact main (fun _ _ _ _=>rfl) h
  | some t=>cases h
 | _=>exact main (nos rfl (fun _ _ _ e=>by cases e)) h
theorem Rel.setE {E':AEnv} {env:List (Nat×PV)} (R:Rel d anV P0 H0 ps μ L E H nx) (h:∀ t,VR ⟨d,ps.heap,μ,L,H,nx⟩ (look env t) (E' t)):Rel d anV P0 H0 { ps with env:=env } μ L E' H nx:=
 ⟨h,R.anc,R.ank,R.ob,R.dis,R.nd,R.age,R.tl,R.st,R.fresh,R.p0,R.p1,R.p2⟩
theorem operF_none {o:AOper} {s:St} (hg:o.guard=none) {v:AV} {H':Heap} {nx':Nat} (h:operV T (arun T) (8 * d) o.dst s.E s.H s.nx o.op=some (v,H',nx')) :
  operF T (arun T) (8 * d) o s=some ⟨updO s.E o.dst v,H',nx'⟩:=by
 unfold operF
 rw [hg]
 simp only [wantedA,h]
theorem look_put {dst:Option Nat} {v:PV} {t:Nat} (h:t ∉ opt1 dst):look (ps.put dst v).env t=look ps.env t:=by
 cases dst with
 | none=>rfl
 | some u=>
  simp only [PS.put,look_cons]
  rw [if_neg]
  intro e; subst e; simp [opt1] at h
theorem EW.put {ps ps':PS} {dst:Option Nat} {v:PV} (h:EW ps.env ps'.env):EWa (opt1 dst) ps.env (ps'.put dst v).env:=by
 intro t ht hv
 rw [look_put ht]
 exact EWa.of h [] t (by simp) hv
theorem branch_join (hs:Sound tb T n) (R:Rel d anV P0 H0 ps μ L E H nx) {cx:Cx} {fin:PS→Option ρ} {K:List (Itp ρ)} {Ka:List It} {asg lv:List Nat} (hk:KR T d anV P0 H0 fin K Ka) (hf:FxI asg ps.env K) :
  JoinOK T d anV P0 H0 fin (skS (canon cx.hn (fixedE ps asg lv).2 ps)) (fixedE ps asg lv).1
   (fun σ=>fromJoin (skS (canon cx.hn (fixedE ps asg lv).2 ps)) (fixedE ps asg lv).1 σ fun ps'=>evC tb n cx fin K ps') Ka:=by
 intro σ r ps0 μ' L' E' H' nx' h1 h2 h3 h4
 simp only [fromJoin,h2] at h1
 refine hs cx fin K Ka _ r d anV P0 H0 μ' L' E' H' nx' h1 h4 hk ?_
 obtain ⟨ds,h2'⟩:=filG_fil h2
 exact FxI.step (B:=asg) (fun t ht hv=>branch_env R h2' h3 ht hv) (fun t ht=>by cases ht) (fun t ht=>ht) hf
theorem branch_fx {asg lv A:List Nat} {sk:Skel} {k:Kd.dens sk.gtys→Option ρ} {K:List (Itp ρ)} (hA:∀ t∈A,t∈asg) (hf:FxI asg ps.env K):FxI A ps.env (.join sk (fixedE ps asg lv).1 k :: K):=by
 obtain ⟨f1,_⟩:=@fixedE_spec ps asg lv
 exact ⟨fun t ht hm=>(f1 t ht).1 (hA t hm),fun t ht=>⟨by rw [(f1 t ht).2.2]; exact (f1 t ht).2.1,.inl (f1 t ht).2.2.symm⟩,hf.sub hA⟩
theorem loop_join (hs:Sound tb T n) (R:Rel d anV P0 H0 ps μ L E H nx) {cx:Cx} {fin:PS→Option ρ} {K:List (Itp ρ)} {Ka:List It} {b:AC} {lv:List Nat} (hl:LayOK d P0 (layC b)) (hk:KR T d anV P0 H0 fin K Ka) (hf:FxI (asgC b) ps.env K) :
  ∀ m,JoinOK T d anV P0 H0 fin (skS (canon cx.hn (fixedE ps (asgC b) lv).2 ps)) (fixedE ps (asgC b) lv).1
   (loopF (fun rec σ=>fromJoin (skS (canon cx.hn (fixedE ps (asgC b) lv).2 ps)) (fixedE ps (asgC b) lv).1 σ fun ps'=>evC tb n cx fin (.code b :: .join (skS (canon cx.hn (fixedE ps (asgC b) lv).2 ps)) (fixedE ps (asgC b) lv).1 rec :: K) ps') m) (.lp b :: Ka)
 | 0=>fun σ r ps0 μ' L' E' H' nx' h1=>by rw [loopF_zero] at h1; cases h1
 | m + 1=>fun σ r ps0 μ' L' E' H' nx' h1 h2 h3 h4=>by
  have ih:=loop_join hs R hl hk hf (lv:=lv) (cx:=cx) m
  rw [loopF_succ] at h1
  simp only [fromJoin,h2] at h1
  obtain ⟨ds,h2'⟩:=filG_fil h2
  have hw:EWa (asgC b) ps.env (ps0.env++(fixedE ps (asgC b) lv).1):=fun t ht hv=>branch_env R h2' h3 ht hv
  have hfx:=branch_fx (lv:=lv) (sk:=skS (canon cx.hn (fixedE ps (asgC b) lv).2 ps)) (k:=fun _=>(none:Option ρ)) (A:=asgC b++[]) (K:=K) (ps:=ps) (fun t ht=>by simpa using ht) hf
  obtain ⟨s',a1,a2,a3⟩:=hs cx fin _ (.code b :: .lp b :: Ka) _ r d anV P0 H0 μ' L' E' H' nx' h1 h4 (.code hl (.lp ih hk)) (FxI.step (K:=.join (skS (canon cx.hn (fixedE ps (asgC b) lv).2 ps)) (fixedE ps (asgC b) lv).1 (loopF (fun rec σ=>fromJoin (skS (canon cx.hn (fixedE ps (asgC b) lv).2 ps)) (fixedE ps (asgC b) lv).1 σ fun ps'=>evC tb n cx fin (.code b :: .join (skS (canon cx.hn (fixedE ps (asgC b) lv).2 ps)) (fixedE ps (asgC b) lv).1 rec :: K) ps') m) :: K) (A:=asgC b) (A':=asgC b++[]) (B:=asgC b) hw (fun t ht=>by simpa using ht) (fun t ht=>ht) ⟨fun t ht hm=>hfx.1 t ht (by simpa using hm),hfx.2.1,hfx.2.2.sub (fun t ht=>by simpa using ht)⟩)
  exact ⟨s',by rw [arun_lp]; exact a1,a2,a3⟩
end
end Go.Am
