/- One operation of Go's code against one of the small machine: append,copy,clear; slices that are made. -/
import Derived.Test.YtlnehfgjfmamjaaGreatDoorG1
import Derived.Laws.MakeOwn
import Derived.Laws.BytesArg
import Derived.Laws.Tables
import Derived.Laws.Sem
set_option linter.unusedSimpArgs false
set_option linter.unusedVariables false
namespace Go.Am
variable {P:Program}
theorem fits_append {sz:Nat} {a b:List AV} (ha:fits sz a=true) (hb:fits sz b=true):fits sz (a++b)=true:=by
 unfold fits at *; rw [List.all_append,ha,hb]; rfl
theorem fits_take {sz:Nat} {a:List AV} (ha:fits sz a=true) (n:Nat):fits sz (a.take n)=true:=by
 unfold fits at *; rw [List.all_eq_true] at *; exact fun x hx=>ha x (List.mem_of_mem_take hx)
theorem fits_drop {sz:Nat} {a:List AV} (ha:fits sz a=true) (n:Nat):fits sz (a.drop n)=true:=by
 unfold fits at *; rw [List.all_eq_true] at *; exact fun x hx=>ha x (List.mem_of_mem_drop hx)
theorem obj_fits {X:Ctx} {w:World} {ob:Obj} {b:Addr} (h:ObjRel X w ob b):fits ob.sz ob.es=true:=by
 unfold fits
 rw [List.all_eq_true]
 intro x hx
 obtain ⟨i,hi⟩:=List.getElem?_of_mem hx
 obtain ⟨h0,v,h1,h2,_⟩:=h.el i x hi
 have:=(fit_cells h1 h0).1
 simp [h0]; omega
section
variable {o:Oper} {ops:Array Oper} {nt:Nat} {a:Act} {w:World} {φ:Id→Option Addr} {H:Heap} {nx:Nat} {E:AEnv} {T:Tab} {R:Run} {d:Nat}
theorem sim_elems {w':World} {id:Id} {ob:Obj} {b:Addr} {off:Nat} {new:List AV} {vs:List Value} (hs:Sim w φ H) (ho:H id=some ob) (hw:ob.w=true) (hb:φ id=some b)
  (hv:VTup (ctx w φ H) new vs) (hf:fits ob.sz new=true) (hle:off + new.length≤ob.es.length) (st:Stored w w' (b.add (off * ob.sz)) (laid vs)) :
  Ext w φ H w' φ (hupd H id { ob with es:=ob.es.take off++new++ob.es.drop (off + new.length) })∧Sim w' φ (hupd H id { ob with es:=ob.es.take off++new++ob.es.drop (off + new.length) }):=by
 obtain ⟨b',hb',hr⟩:=hs.obj id ob ho
 obtain rfl:b=b':=Option.some.inj (hb.symm.trans hb')
 have hll:=laid_length (fits_vals hv hf)
 have hvl:=hv.length
 refine sim_write hs ho hw hb st (by rw [add_block]) (by simp; omega) ?_
 intro k x hk
 rw [getElem?_put _ _ _ hle] at hk
 have hwc:∀ q,w'.cell? (b.add q)=if off * ob.sz≤q∧q < off * ob.sz + vs.length * ob.sz then (laid vs)[q - off * ob.sz]? else w.cell? (b.add q):=by
  intro q
  have:=st.cell (b.off + q)
  rw [add_eq hr.spot] at this
  rw [add_eq hr.spot]
  simp only at this
  rw [this,hll]
  by_cases hc:off * ob.sz≤q∧q < off * ob.sz + vs.length * ob.sz
  ·rw [if_pos hc,if_pos (by omega)]; congr 1; omega
  ·rw [if_neg hc,if_neg (by omega)]
 split at hk
 ·rename_i hc
  obtain ⟨g0,v,g1,g2,g3⟩:=elem_laid hv hf hk
  refine ⟨g0,v,g1,g2,fun j u hj=>⟨(g3 j u hj).1,?_⟩⟩
  have hjlt:j < ob.sz:=by
   rw [← g2]
   rcases Nat.lt_or_ge j v.cells.size with h | h
   ·exact h
   ·simp [Array.getElem?_eq_none h] at hj
  have e1:off * ob.sz + (k - off) * ob.sz=k * ob.sz:=by rw [← Nat.add_mul]; congr 1; omega
  have e2:(k - off + 1) * ob.sz≤vs.length * ob.sz:=Nat.mul_le_mul_right _ (by omega)
  rw [Nat.add_mul] at e2
  rw [hwc,if_pos (by omega)]
  rw [show k * ob.sz + j - off * ob.sz=(k - off) * ob.sz + j from by omega]
  exact (g3 j u hj).2
 ·rename_i hc
  obtain ⟨h0,v,h1,h2,h3⟩:=hr.el k x hk
  refine ⟨h0,v,h1,h2,fun j u hj=>⟨(h3 j u hj).1,?_⟩⟩
  have hjlt:j < ob.sz:=by
   rw [← h2]
   rcases Nat.lt_or_ge j v.cells.size with h | h
   ·exact h
   ·simp [Array.getElem?_eq_none h] at hj
  rw [hwc,if_neg ?_]
  ·exact (h3 j u hj).2
  ·intro hx
   by_cases hlt:k < off
   ·have:(k + 1) * ob.sz≤off * ob.sz:=Nat.mul_le_mul_right _ hlt
    rw [Nat.add_mul] at this; omega
   ·have:(off + vs.length) * ob.sz≤k * ob.sz:=Nat.mul_le_mul_right _ (by omega)
    rw [Nat.add_mul] at this; omega
theorem run_store_ref {id:Id} {ob:Obj} {b:Addr} {q:Nat} {new:List AV} {vs:List Value} (hs:Sim w φ H) (ho:H id=some ob) (hw:ob.w=true) (hb:φ id=some b)
  (hv:VTup (ctx w φ H) new vs) (hf:fits ob.sz new=true) (hroom:b.off + (q + new.length) * ob.sz≤bsize w b.block) :
  ∃ w',(storeCells (b.add (q * ob.sz)) (laid vs)).run P w = .ok () w'∧Stored w w' (b.add (q * ob.sz)) (laid vs):=by
 obtain ⟨b',hb',hr⟩:=hs.obj id ob ho
 obtain rfl:b=b':=Option.some.inj (hb.symm.trans hb')
 obtain ⟨fc,fe,flo,fhi,hf1,hf2⟩:=hr.fr hw
 have hsz:=fits_vals hv hf
 have hll:=laid_length hsz
 have hvl:=hv.length
 have hbs:bsize w b.block=fc.size:=by simp only [bsize,hf1]
 have hone:∀ v∈laid vs,oneCell v=true:=by
  intro v hv'
  obtain ⟨k,hk⟩:=List.getElem?_of_mem hv'
  obtain ⟨i,j,u,_,h2,h3⟩:=laid_get hsz hk
  have:∃ x,new[i]? = some x:=by
   have hlt:=(List.getElem?_eq_some_iff.1 h2).1
   exact ⟨_,List.getElem?_eq_getElem (by omega)⟩
  obtain ⟨x,hx⟩:=this
  obtain ⟨v',hv1,hrel⟩:=hv.at hx
  rw [h2] at hv1
  obtain rfl:=Option.some.inj hv1
  exact (fit_cells hrel (fits_mem hf (List.mem_of_getElem? hx)).1).2 j v h3
 obtain ⟨w',h1,h2⟩:=run_storeCells (P:=P) (a:=b.add (q * ob.sz)) (add_spot hr.spot _) (laid vs) 0 w hone
  ⟨fc,fe,(flo,fhi),by rw [add_block]; exact hf1,by rw [add_eq hr.spot]; simp only [Nat.add_zero]; rw [hll,← hbs,← hvl,Nat.add_assoc,← Nat.add_mul]; exact hroom,hf2⟩
 exact ⟨w',h1,by simpa [Addr.add] using h2⟩
theorem sim_move {w':World} {id:Id} {ob ob':Obj} {b a c:Addr} {vs:List Value} (hs:Sim w φ H) (ho:H id=some ob) (hw:ob.w=true) (hb:φ id=some b) (st:Stored w w' a vs) (hab:a.block=b.block)
  (hcb:c.block=b.block) (hcs:c.spot=none) (hnew:Newer ob' ob) (hsz:ob'.sz=ob.sz)
  (hel:∀ (i:Nat) (x:AV),ob'.es[i]? = some x→stor x=true∧∃ v,VRel (ctx w φ H) x v∧v.cells.size=ob'.sz∧∀ (j:Nat) (u:Value),v.cells[j]? = some u→oneCell u=true∧w'.cell? (c.add (i * ob'.sz + j))=some u) :
  Ext w φ H w' (φupd φ id c) (hupd H id ob')∧Sim w' (φupd φ id c) (hupd H id ob'):=by
 have hmut:Mut φ H b.block:=.inl ⟨id,ob,b,ho,hw,hb,rfl⟩
 have hnx:∀ k,Id.ex k≠id:=fun k e=>by subst e; exact hs.re _ _ ho
 have hother:∀ k,¬ Mut φ H k→w'.heap[k]? = w.heap[k]?:=fun k hk=>st.other k (fun e=>hk (by rw [e,hab]; exact hmut))
 have hext:Ext w φ H w' (φupd φ id c) (hupd H id ob'):=by
  refine ⟨st.os,st.tape,st.output,Nat.le_of_eq st.size.symm,fun k _ hk=>hother k hk,?_,fun k _=>Nat.le_of_eq (st.bsize k).symm,?_,fun k=>by simp only [φupd,if_neg (hnx k)],fun k e he=>st.other _ (by rw [hab]; exact Ne.symm (hs.sx id ob b k e ho hb he))⟩
  ·rintro k _ (⟨p,x,q,hp,hx,hq,rfl⟩ | ⟨k,e,he,rfl⟩)
   case inr=>simp only [φupd,if_neg (hnx k)] at he; exact .inr ⟨k,e,he,rfl⟩
   by_cases hpo:p=id
   ·subst hpo
    simp only [φupd,if_true] at hq
    obtain rfl:=Option.some.inj hq
    rw [hcb]; exact hmut
   ·rw [hupd_ne _ _ hpo] at hp
    simp only [φupd,if_neg hpo] at hq
    exact .inl ⟨p,x,q,hp,hx,hq,rfl⟩
  ·intro p x hp
   by_cases hpo:p=id
   ·subst hpo
    rw [ho] at hp
    obtain rfl:=Option.some.inj hp
    exact ⟨_,hupd_same _ _ _,.inl hnew⟩
   ·exact ⟨x,by rw [hupd_ne _ _ hpo]; exact hp,.inr ⟨rfl,rfl,rfl,by simp [φupd,hpo]⟩⟩
 refine ⟨hext,?_⟩
 have hctx:=hext.leCtx hs.pl
 obtain ⟨b',hb',hr⟩:=hs.obj id ob ho
 obtain rfl:b=b':=Option.some.inj (hb.symm.trans hb')
 refine ⟨?_,?_,?_,?_,?_⟩
 ·intro p q hq
  rw [st.size]
  by_cases hpo:p=id
  ·simp only [φupd,if_pos hpo] at hq
   obtain rfl:=Option.some.inj hq
   rw [hcb]; exact hr.lt
  ·simp only [φupd,if_neg hpo] at hq
   exact hs.pl p q hq
 ·intro p x hp
  by_cases hpo:p=id
  ·subst hpo
   rw [hupd_same] at hp
   obtain rfl:=Option.some.inj hp
   refine ⟨c,by simp [φupd],hcs,by rw [st.size,hcb]; exact hr.lt,by rw [hsz]; exact hr.pos,?_,fun _=>by rw [hcb]; exact st.free (hr.fr hw)⟩
   intro i y hy
   obtain ⟨h0,v,h1,h2,h3⟩:=hel i y hy
   exact ⟨h0,v,VRel.mono hctx _ _ h1,h2,h3⟩
  ·rw [hupd_ne _ _ hpo] at hp
   obtain ⟨q,hq,hrq⟩:=hs.obj p x hp
   have hne:q.block≠a.block:=by
    rw [hab]
    exact Ne.symm (hs.sep id ob p x b q ho hw hp (Ne.symm hpo) hb hq)
   refine ⟨q,by simp [φupd,hpo,hq],hrq.spot,by rw [st.size]; exact hrq.lt,hrq.pos,?_,fun hx=>st.free (hrq.fr hx)⟩
   intro i y hy
   obtain ⟨h0,v,h1,h2,h3⟩:=hrq.el i y hy
   refine ⟨h0,v,VRel.mono hctx _ _ h1,h2,fun j u hj=>⟨(h3 j u hj).1,?_⟩⟩
   rw [cell_same (st.other _ (by rw [add_block]; exact hne))]
   exact (h3 j u hj).2
 ·intro p x q y e f hp hx hq hpq he hf
  have hp':∃ x' e',H p=some x'∧x'.w=true∧φ p=some e'∧e'.block=e.block:=by
   by_cases hpo:p=id
   ·subst hpo
    simp only [φupd,if_true] at he
    obtain rfl:=Option.some.inj he
    exact ⟨ob,b,ho,hw,hb,hcb.symm⟩
   ·rw [hupd_ne _ _ hpo] at hp
    simp only [φupd,if_neg hpo] at he
    exact ⟨x,e,hp,hx,he,rfl⟩
  have hq':∃ y' f',H q=some y'∧φ q=some f'∧f'.block=f.block:=by
   by_cases hqo:q=id
   ·subst hqo
    simp only [φupd,if_true] at hf
    obtain rfl:=Option.some.inj hf
    exact ⟨ob,b,ho,hb,hcb.symm⟩
   ·rw [hupd_ne _ _ hqo] at hq
    simp only [φupd,if_neg hqo] at hf
    exact ⟨y,f,hq,hf,rfl⟩
  obtain ⟨x',e',h1,h2,h3,h4⟩:=hp'
  obtain ⟨y',f',h5,h6,h7⟩:=hq'
  rw [← h4,← h7]
  exact hs.sep p x' q y' e' f' h1 h2 h5 hpq h3 h6
 ·intro p x hp
  by_cases hpo:p=id
  ·subst hpo; exact hs.re p ob ho
  ·rw [hupd_ne _ _ hpo] at hp; exact hs.re p x hp
 ·intro p x e k f hp he hf
  simp only [φupd,if_neg (hnx k)] at hf
  by_cases hpo:p=id
  ·subst hpo
   simp only [φupd,if_true] at he
   obtain rfl:=Option.some.inj he
   rw [hcb]; exact hs.sx p ob b k f ho hb hf
  ·rw [hupd_ne _ _ hpo] at hp
   simp only [φupd,if_neg hpo] at he
   exact hs.sx p x e k f hp he hf
theorem does_append {c:Call} {x y:Operand} {x' y':Opd} {t u e:TypeId} {sz:Nat} {i:TypeInfo} {z:Value} {new:List AV} {v:AV} {H':Heap} {nx':Nat}
  (ho:o.op = .call c) (hc:c.callee = .builtin .append) (hargs:c.args = #[x,y]) (hty:c.argTypes = #[t,u]) (ht:AppT P t u e sz i z) (hx:opdOf x=some x') (hy:opdOf y=some y')
  (hs:SR nt w φ ⟨E,H,nx⟩ a) (hd:∀ d,o.dst=some d→d < nt) (hsrc:Src P (ctx w φ H) w sz new (a.eval y)) (hf:fits sz new=true)
  (hv:(ev E x' = .nils∧new=[]∧v = .nils∧H'=H) ∨
   (ev E x' = .nils∧new≠[]∧new.length * sz≤4294967296∧(∃ id:Id,id.real∧v = .ref id (genAt H id) new.length 0 new.length∧H'=hupd H id ⟨genAt H id,sz,true,new⟩)) ∨
   (∃ id g n off len ob,ev E x' = .ref id g n off len∧H id=some ob∧ob.gen=g∧ob.es.length=n∧off + len≤n∧ob.w=true∧ob.sz=sz ∧
    ((new=[]∧v = .ref id g n off len∧H'=H) ∨
    (new≠[]∧off + len + new.length≤n∧v = .ref id g n off (len + new.length)∧H'=hupd H id { ob with es:=ob.es.take (off + len)++new++ob.es.drop (off + len + new.length) }) ∨
    (new≠[]∧n < off + len + new.length∧(len + new.length) * sz≤4294967296∧v = .ref id (if off=0 then g else g + 1) (len + new.length) 0 (len + new.length) ∧
     H'=hupd H id { ob with gen:=(if off=0 then g else g + 1),es:=(ob.es.drop off).take len++new })))) :
  Does P o nt a w φ H o.dst E v H' nx':=by
 have h1:VRel (ctx w φ H) (ev E x') (a.eval x):=opd_rel hs.env hx
 have hexec:∀ (bs:Option Addr) (sLen sCap:Nat),a.eval x = .slice bs sLen sCap→execOp a.eval o=(do pure (.value (← Builtin.append_ #[t,u] o.type #[.slice bs sLen sCap,a.eval y]))):=by
  intro bs sLen sCap ex
  simp only [execOp,ho,resolve,hc,hargs,hty,invoke,builtin]
  simp only [List.map_toArray,List.map_cons,List.map_nil,ex]
  rfl
 have grow:∀ (bs:Option Addr) (sLen sCap:Nat) (olds:List AV) (id:Id) (ob':Obj),id.real→a.eval x = .slice bs sLen sCap→Src P (ctx w φ H) w sz olds (.slice bs sLen sCap)→olds.length=sLen→¬ (sLen + new.length≤sCap)→(sLen + new.length) * sz≤4294967296 →
   fits sz olds=true→ob'.es=olds++new→ob'.sz=sz→ob'.w=true→(∀ ob,H id=some ob→Newer ob' ob)→Does P o nt a w φ H o.dst E (.ref id ob'.gen (sLen + new.length) 0 (sLen + new.length)) (hupd H id ob') nx':=by
  intro bs sLen sCap olds id ob' hre ex hso hol hroom hbig hfo hes hsz hw hnew
  obtain ⟨vs,dr,cap,rest,q1,q2,q3,q4,q5⟩:=run_append_grow' (ty:=o.type) ht hsrc hso hol hroom hbig
  refine does_new (x:=.slice (some ⟨w.heap.size,0,none⟩) (sLen + new.length) cap) (cells:=(laid vs++rest).toArray) (e:=e) (lo:=0) (hi:=0) (dr:=dr) ?_ hs hd hnew hre (.inl (Nat.le_refl _)) (by rw [hsz]; exact ht.pos) ?_ ?_
  ·rw [hexec _ _ _ ex]
   simp only [Sem.run_bind,q5,Result.andThen_ok,Sem.run_pure]
  ·intro k xx hk
   rw [hes] at hk
   rw [hsz]
   obtain ⟨g0,v',g1,g2,g3⟩:=elem_laid q1 (fits_append hfo hf) hk
   refine ⟨g0,v',g1,g2,fun j uu hj=>⟨(g3 j uu hj).1,?_⟩⟩
   have:=(g3 j uu hj).2
   simp only [List.getElem?_toArray]
   rw [List.getElem?_append_left (List.getElem?_eq_some_iff.1 this).1]
   exact this
  ·refine ⟨_,_,rfl,q3,ob',hupd_same _ _ _,.inr ⟨rfl,by rw [hes]; simp [hol],by omega,.inr ⟨⟨w.heap.size,0,none⟩,by simp [ctx,φupd],by simp [Addr.add],by omega,?_⟩⟩⟩
   have hbs:bsize (World.row w (laid vs++rest).toArray e 0 0) w.heap.size=(laid vs++rest).length:=by
    simp only [bsize,row_new,List.size_toArray]
   show 0 + (0 + cap) * ob'.sz≤bsize (World.row w (laid vs++rest).toArray e 0 0) w.heap.size
   rw [hbs,q4,hsz,Nat.zero_add,Nat.zero_add]
   exact Nat.le_refl _
 have room:∀ (bs:Option Addr) (sLen sCap:Nat),a.eval x = .slice bs sLen sCap→sLen + new.length≤sCap→new=[]→VRel (ctx w φ H) v (.slice bs sLen sCap)→H'=H→Does P o nt a w φ H o.dst E v H' nx':=by
  intro bs sLen sCap ex hroom hnil hrel hH
  subst hnil
  subst hH
  obtain ⟨vs,q1,q2,q3⟩:=run_append_room' (ty:=o.type) (b:=bs) (sLen:=sLen) (sCap:=sCap) ht hsrc hroom
  have hvs:vs=[]:=by cases vs with | nil=>rfl | cons=>exact q1.elim
  subst hvs
  refine does_pure (x:=.slice bs sLen sCap) ?_ hs hrel hd
  rw [hexec _ _ _ ex]
  simp only [Sem.run_bind,q3]
  cases bs with
  | none=>simp [Result.andThen]
  | some b=>simp [Result.andThen,laid,storeCells]
 rcases hv with ⟨ex,hnil,rfl,rfl⟩ | ⟨ex,hne,hbig,id,hre,rfl,rfl⟩ | ⟨id,g,n,off,len,ob,ex,hob,g1,g2,g3,g4,g5,hv⟩
 ·rw [ex] at h1
  have h1':a.eval x = .slice none 0 0:=h1
  subst hnil
  exact room none 0 0 h1' (by simp) rfl rfl rfl
 ·rw [ex] at h1
  have h1':a.eval x = .slice none 0 0:=h1
  have hpos:0 < new.length:=List.length_pos_iff.2 hne
  have:=grow none 0 0 [] id ⟨genAt H id,sz,true,new⟩ hre h1' src_empty rfl (by omega) (by simpa using hbig) rfl (by simp) rfl rfl (genAt_newer rfl)
  simpa using this
 ·rw [ex] at h1
  obtain ⟨bs,cap,ev1,hlc,ob',hob',hq⟩:=h1
  obtain rfl:ob=ob':=Option.some.inj (hob.symm.trans hob')
  obtain ⟨b,hb,hrel⟩:=hs.sim.obj id ob hob
  rcases hq with hq | ⟨q1,q2,q3,q4⟩
  ·unfold Stale at hq; omega
  ·rcases hv with ⟨hnil,rfl,rfl⟩ | ⟨hne,hle,rfl,rfl⟩ | ⟨hne,hlt,hbig,rfl,rfl⟩
   ·exact room bs len cap ev1 (by rw [hnil]; simpa using hlc) hnil ⟨bs,cap,rfl,hlc,ob,hob,.inr ⟨q1,q2,q3,q4⟩⟩ rfl
   ·have hpos:0 < new.length:=List.length_pos_iff.2 hne
    rcases q4 with ⟨c0,_⟩ | ⟨b',hb',rfl,hn,hroom⟩
    ·omega
    ·obtain rfl:b=b':=Option.some.inj (hb.symm.trans hb')
     subst g5
     obtain ⟨vs,r1,r2,r3⟩:=run_append_room' (ty:=o.type) (b:=some (b.add (off * ob.sz))) (sLen:=len) (sCap:=cap) ht hsrc (by omega)
     have hrm:b.off + (off + len + new.length) * ob.sz≤bsize w b.block:=by
      refine Nat.le_trans (Nat.add_le_add_left (Nat.mul_le_mul_right _ ?_) _) hroom
      omega
     obtain ⟨w',s1,s2⟩:=run_store_ref (P:=P) hs.sim hob g4 hb r1 hf hrm
     obtain ⟨hext,hsim⟩:=sim_elems (off:=off + len) hs.sim hob g4 hb r1 hf (by omega) s2
     intro K Q hK
     unfold Oper.wp
     rw [hexec _ _ _ ev1]
     simp only [Sem.run_bind,r3]
     rw [add_add hrel.spot,← Nat.add_mul,s1]
     simp only [Result.andThen_ok,Sem.run_pure,Oper.upon_value]
     refine hK _ _ φ ⟨hsim,?_,by rw [put_size]; exact hs.size⟩ hext (put_defers' _ _ _)
     have hctx:=hext.leCtx hs.sim.pl
     refine EnvRel.put (hs.env.mono hctx) (fun _=>?_) (fun d h=>by rw [hs.size]; exact hd d h)
     refine ⟨_,cap,rfl,by omega,_,hupd_same _ _ _,.inr ⟨g1,by simp; omega,by omega,.inr ⟨b,hb,rfl,by omega,?_⟩⟩⟩
     exact Nat.le_trans hroom (hctx.bs id b hb)
   ·have hpos:0 < new.length:=List.length_pos_iff.2 hne
    by_cases hroom:len + new.length≤cap
    ·-- there is room behind the object's end
     rcases q4 with ⟨c0,_⟩ | ⟨b',hb',rfl,hn,hrm⟩
     ·omega
     ·obtain rfl:b=b':=Option.some.inj (hb.symm.trans hb')
      subst g5
      obtain ⟨vs,r1,r2,r3⟩:=run_append_room' (ty:=o.type) (b:=some (b.add (off * ob.sz))) (sLen:=len) (sCap:=cap) ht hsrc hroom
      have hrm2:b.off + (off + len + new.length) * ob.sz≤bsize w b.block:=by
       refine Nat.le_trans (Nat.add_le_add_left (Nat.mul_le_mul_right _ ?_) _) hrm
       omega
      obtain ⟨w',s1,s2⟩:=run_store_ref (P:=P) hs.sim hob g4 hb r1 hf hrm2
      have hnewer:Newer { ob with gen:=(if off=0 then g else g + 1),es:=(ob.es.drop off).take len++new } ob:=by
       unfold Newer
       by_cases h0:off=0
       ·right; simp [h0,g1]; omega
       ·left; simp [h0]; omega
      have hfo:fits ob.sz ((ob.es.drop off).take len)=true:=fits_take (fits_drop (obj_fits hrel) _) _
      have hlold:((ob.es.drop off).take len).length=len:=by simp; omega
      have hll:=laid_length (fits_vals r1 hf)
      obtain ⟨hext,hsim⟩:=sim_move (c:=b.add (off * ob.sz)) (ob':={ ob with gen:=(if off=0 then g else g + 1),es:=(ob.es.drop off).take len++new }) hs.sim hob g4 hb s2 (by rw [add_block]) (by rw [add_block]) (add_spot hrel.spot _) hnewer rfl (by
       intro k xx hk
       simp only at hk ⊢
       by_cases hkl:k < len
       ·rw [List.getElem?_append_left (by omega),List.getElem?_take,if_pos hkl,List.getElem?_drop] at hk
        obtain ⟨h0,v,h1,h2,h3⟩:=hrel.el (off + k) xx hk
        refine ⟨h0,v,h1,h2,fun j u hj=>⟨(h3 j u hj).1,?_⟩⟩
        have hjlt:j < ob.sz:=by
         rw [← h2]
         rcases Nat.lt_or_ge j v.cells.size with h | h
         ·exact h
         ·simp [Array.getElem?_eq_none h] at hj
        have hcell:=(h3 j u hj).2
        rw [add_add hrel.spot,← Nat.add_assoc,← Nat.add_mul]
        have:=s2.cell (b.off + ((off + k) * ob.sz + j))
        rw [add_eq hrel.spot] at this
        rw [add_eq hrel.spot] at hcell ⊢
        simp only at this
        rw [this,if_neg ?_]
        ·exact hcell
        ·have:(off + k + 1) * ob.sz≤(off + len) * ob.sz:=Nat.mul_le_mul_right _ (by omega)
         rw [Nat.add_mul (off + k)] at this
         omega
       ·rw [List.getElem?_append_right (by omega),hlold] at hk
        obtain ⟨h0,v,h1,h2,h3⟩:=elem_laid r1 hf hk
        refine ⟨h0,v,h1,h2,fun j u hj=>⟨(h3 j u hj).1,?_⟩⟩
        have hlaid:=(h3 j u hj).2
        have hlt:=(List.getElem?_eq_some_iff.1 hlaid).1
        rw [add_add hrel.spot]
        have:=s2.cell (b.off + (off * ob.sz + (k * ob.sz + j)))
        rw [add_eq hrel.spot] at this
        rw [add_eq hrel.spot]
        simp only at this
        have e1:off * ob.sz + k * ob.sz=(off + len) * ob.sz + (k - len) * ob.sz:=by rw [← Nat.add_mul,← Nat.add_mul]; congr 1; omega
        rw [this,if_pos (by omega)]
        rw [show b.off + (off * ob.sz + (k * ob.sz + j)) - (b.off + (off + len) * ob.sz)=(k - len) * ob.sz + j from by omega]
        exact hlaid)
      intro K Q hK
      unfold Oper.wp
      rw [hexec _ _ _ ev1]
      simp only [Sem.run_bind,r3]
      rw [add_add hrel.spot,← Nat.add_mul,s1]
      simp only [Result.andThen_ok,Sem.run_pure,Oper.upon_value]
      refine hK _ _ _ ⟨hsim,?_,by rw [put_size]; exact hs.size⟩ hext (put_defers' _ _ _)
      have hctx:=hext.leCtx hs.sim.pl
      refine EnvRel.put (hs.env.mono hctx) (fun _=>?_) (fun d h=>by rw [hs.size]; exact hd d h)
      refine ⟨_,cap,rfl,by omega,_,hupd_same _ _ _,.inr ⟨rfl,by simp; omega,by omega,.inr ⟨b.add (off * ob.sz),by simp [ctx,φupd],by simp [Addr.add],by omega,?_⟩⟩⟩
      have hbs:=hctx.bs id b hb
      rw [add_eq hrel.spot]
      show b.off + off * ob.sz + (0 + cap) * ob.sz≤bsize w' b.block
      have:bsize w b.block≤bsize w' b.block:=hbs
      have hrm':b.off + (off + cap) * ob.sz≤bsize w b.block:=hrm
      rw [Nat.add_mul] at hrm'
      rw [Nat.zero_add]
      omega
    ·have hso:Src P (ctx w φ H) w sz ((ob.es.drop off).take len) (.slice bs len cap):=by
      refine elems_src (y:=.ref id g n off len) hs.sim ⟨bs,cap,rfl,hlc,ob,hob,.inr ⟨q1,q2,q3,q4⟩⟩ ?_ ?_
      ·simp only [elems,elemsOf,hob]
       rw [if_pos ⟨g1,g2,g3⟩]
      ·have:=obj_fits hrel
       rw [g5] at this
       exact fits_take (fits_drop this _) _
     have hfo:fits sz ((ob.es.drop off).take len)=true:=by
      have:=obj_fits hrel
      rw [g5] at this
      exact fits_take (fits_drop this _) _
     have:=grow bs len cap ((ob.es.drop off).take len) id { ob with gen:=(if off=0 then g else g + 1),es:=(ob.es.drop off).take len++new } (hs.sim.re _ _ hob) ev1 hso (by simp; omega) hroom hbig hfo rfl g5 g4 (by
      intro ob2 hob2
      rw [hob] at hob2
      obtain rfl:=Option.some.inj hob2
      unfold Newer
      by_cases h0:off=0
      ·right; simp [h0,g1]; omega
      ·left; simp [h0]; omega)
     exact this
end
end Go.Am
/- One operation of Go's code against one of the small machine: copy,clear; slices and structs that are made; strings and bytes. -/
namespace Go.Am
variable {P:Program}
theorem hupd_id {H:Heap} {id:Id} {ob:Obj} (h:H id=some ob):hupd H id ob=H:=by
 funext p
 unfold hupd
 split
 ·rename_i e; subst e; exact h.symm
 ·rfl
section
variable {o:Oper} {ops:Array Oper} {nt:Nat} {a:Act} {w:World} {φ:Id→Option Addr} {H:Heap} {nx:Nat} {E:AEnv} {T:Tab} {R:Run} {d:Nat}
theorem does_elems {id:Id} {g n off len:Nat} {ob:Obj} {new:List AV} {vs:List Value} {bs:Option Addr} {cap:Nat} {v:AV} {rv:Value} {x':AV}
  (hs:SR nt w φ ⟨E,H,nx⟩ a) (hd:∀ d,o.dst=some d→d < nt) (hx:x' = .ref id g n off len) (hrel:VRel (ctx w φ H) x' (.slice bs len cap)) (hob:H id=some ob) (g1:ob.gen=g) (g2:ob.es.length=n) (g3:off + len≤n) (g4:ob.w=true)
  (hv:VTup (ctx w φ H) new vs) (hf:fits ob.sz new=true) (hle:new.length≤len)
  (hrun:∀ w',(match bs with | some b=>(storeCells b (laid vs)).run P w = .ok () w' | none=>w'=w)→(execOp a.eval o).run P w = .ok (.value rv) w')
  (hrv:∀ X,VRel X v rv) {nx':Nat} :
  Does P o nt a w φ H o.dst E v (hupd H id { ob with es:=ob.es.take off++new++ob.es.drop (off + new.length) }) nx':=by
 subst hx
 obtain ⟨bs',cap',e1,hlc,ob',hob',hq⟩:=hrel
 cases e1
 obtain rfl:ob=ob':=Option.some.inj (hob.symm.trans hob')
 obtain ⟨b,hb,hr⟩:=hs.sim.obj id ob hob
 rcases hq with hq | ⟨q1,q2,q3,q4⟩
 ·unfold Stale at hq; omega
 ·by_cases hz:new.length=0
  ·have hnil:new=[]:=List.length_eq_zero_iff.1 hz
   subst hnil
   have hvs:vs=[]:=by cases vs with | nil=>rfl | cons=>exact hv.elim
   subst hvs
   have he:hupd H id { ob with es:=ob.es.take off++[]++ob.es.drop (off + ([]:List AV).length) }=H:=by
    simp only [List.append_nil,List.length_nil,Nat.add_zero,List.take_append_drop]
    exact hupd_id hob
   rw [he]
   have hw:(execOp a.eval o).run P w = .ok (.value rv) w:=by
    refine hrun w ?_
    cases bs with
    | none=>rfl
    | some b=>rfl
   exact does_pure hw hs (hrv _) hd
  ·rcases q4 with ⟨c0,_⟩ | ⟨b',hb',rfl,hn,hroom⟩
   ·omega
   ·obtain rfl:b=b':=Option.some.inj (hb.symm.trans hb')
    have hrm:b.off + (off + new.length) * ob.sz≤bsize w b.block:=by
     refine Nat.le_trans (Nat.add_le_add_left (Nat.mul_le_mul_right _ ?_) _) hroom
     omega
    obtain ⟨w',s1,s2⟩:=run_store_ref (P:=P) hs.sim hob g4 hb hv hf hrm
    obtain ⟨hext,hsim⟩:=sim_elems (off:=off) hs.sim hob g4 hb hv hf (by omega) s2
    intro K Q hK
    unfold Oper.wp
    rw [hrun w' s1,Oper.upon_value]
    refine hK _ _ φ ⟨hsim,?_,by rw [put_size]; exact hs.size⟩ hext (put_defers' _ _ _)
    exact EnvRel.put (hs.env.mono (hext.leCtx hs.sim.pl)) (fun _=>hrv _) (fun d h=>by rw [hs.size]; exact hd d h)
theorem does_copy {c:Call} {x y:Operand} {x':Opd} {t u e:TypeId} {new:List AV} {id:Id} {g n off len:Nat} {ob:Obj} {m:Nat}
  (ho:o.op = .call c) (hc:c.callee = .builtin .copy) (hargs:c.args = #[x,y]) (hty:c.argTypes = #[t,u]) (he:elemT P t=some e) (hsz:sizeT P e=some ob.sz) (hx:opdOf x=some x')
  (hs:SR nt w φ ⟨E,H,nx⟩ a) (hd:∀ d,o.dst=some d→d < nt) (hsrc:Src P (ctx w φ H) w ob.sz new (a.eval y)) (hf:fits ob.sz new=true)
  (ex:ev E x' = .ref id g n off len) (hob:H id=some ob) (g1:ob.gen=g) (g2:ob.es.length=n) (g3:off + len≤n) (g4:ob.w=true) (hm:m=min len new.length) {nx':Nat} :
  Does P o nt a w φ H o.dst E (gInt m) (hupd H id { ob with es:=ob.es.take off++new.take m++ob.es.drop (off + m) }) nx':=by
 have h1:VRel (ctx w φ H) (ev E x') (a.eval x):=opd_rel hs.env hx
 have h1':=h1
 rw [ex] at h1'
 obtain ⟨bs,cap,ev1,hlc,_⟩:=h1'
 obtain ⟨vs,k1,k2,k3⟩:=hsrc.vals
 have hf0:(Builtin.firstCells ob.sz m (a.eval y)).run P w = .ok (laid (vs.take m)).toArray w:=k3 m w.drawn (by omega)
 have hlt:(new.take m).length=m:=by simp; omega
 have hund:=elemT_und he
 rw [ev1] at h1
 have:=does_elems (o:=o) (P:=P) (new:=new.take m) (vs:=vs.take m) (v:=gInt m) (rv:=.int .i64 m) (nx':=nx') hs hd ex h1 hob g1 g2 g3 g4 (k1.take m) (fits_take hf m) (by rw [hlt]; omega) ?_ (fun _=>⟨rfl,rfl⟩)
 ·rw [hlt] at this; exact this
 ·intro w' hw'
  simp only [execOp,ho,resolve,hc,hargs,hty,invoke,builtin,List.map_toArray,List.map_cons,List.map_nil,ev1]
  have hmin:Nat.min new.length len=m:=by rw [hm]; show min new.length len=_; omega
  cases bs with
  | none=>
   simp only at hw'
   subst hw'
   simp [Builtin.copy_,run_underlying hund,hsrc.len,hmin,run_sizeOf hsz,hf0,goInt]
  | some b=>
   simp only at hw'
   simp [Builtin.copy_,run_underlying hund,hsrc.len,hmin,run_sizeOf hsz,hf0,goInt,hw']
theorem does_clear {c:Call} {x:Operand} {x':Opd} {t e:TypeId} {z:AV} {v0:AV}
  (ho:o.op = .call c) (hc:c.callee = .builtin .clear) (hargs:c.args = #[x]) (hty:c.argTypes = #[t]) (he:elemT P t=some e) (hz:zeroT P e=some z) (hx:opdOf x=some x')
  (hs:SR nt w φ ⟨E,H,nx⟩ a) (hd:∀ d,o.dst=some d→d < nt) {H':Heap} (hv:v0 = .tup [])
  (hcase:(ev E x' = .nils∧H'=H)∨(∃ id g n off len ob,ev E x' = .ref id g n off len∧H id=some ob∧ob.gen=g∧ob.es.length=n∧off + len≤n∧ob.w=true∧z.cells.length=ob.sz∧stor z=true ∧
   H'=hupd H id { ob with es:=ob.es.take off++List.replicate len z++ob.es.drop (off + len) })) {nx':Nat} :
  Does P o nt a w φ H o.dst E v0 H' nx':=by
 subst hv
 have h1:VRel (ctx w φ H) (ev E x') (a.eval x):=opd_rel hs.env hx
 have hund:=elemT_und he
 obtain ⟨i,v,hi,hzv,hvo,hlen⟩:=zeroT_info hz
 rcases hcase with ⟨ex,rfl⟩ | ⟨id,g,n,off,len,ob,ex,hob,g1,g2,g3,g4,g5,g6,rfl⟩
 ·rw [ex] at h1
  have h1':a.eval x = .slice none 0 0:=h1
  refine does_pure (v:=.tup []) (x:=.tuple #[]) ?_ hs ⟨[],rfl,trivial⟩ hd
  simp only [execOp,ho,resolve,hc,hargs,hty,invoke,builtin,List.map_toArray,List.map_cons,List.map_nil,h1']
  simp [Builtin.clear_,run_underlying hund]
 ·have h1':=h1
  rw [ex] at h1'
  obtain ⟨bs,cap,ev1,hlc,_⟩:=h1'
  rw [ev1] at h1
  have hzr:=valOf_rel (ctx w φ H) hvo
  obtain ⟨f1,f2⟩:=fit_cells hzr g6
  have hfit:fits ob.sz (List.replicate len z)=true:=by
   unfold fits; rw [List.all_eq_true]
   intro q hq
   obtain rfl:=List.eq_of_mem_replicate hq
   simp [g6,g5]
  have hvt:∀ k:Nat,VTup (ctx w φ H) (List.replicate k z) (List.replicate k v):=by
   intro k
   induction k with
   | zero=>trivial
   | succ k ih=>exact ⟨hzr,ih⟩
  replace hvt:=hvt len
  have hlaid:laid (List.replicate len v)=(Builtin.zeroCells v.cells len).toList:=by
   have hsz:=fits_vals hvt hfit
   have hpos:0 < v.cells.size:=by
    obtain ⟨b,_,hr⟩:=hs.sim.obj id ob hob
    have:=hr.pos; omega
   apply List.ext_getElem?
   intro k
   by_cases hk:k < len * v.cells.size
   ·have h3:k / v.cells.size < len:=by rw [Nat.div_lt_iff_lt_mul hpos]; exact hk
    have h4:k % v.cells.size < v.cells.size:=Nat.mod_lt _ hpos
    have:=laid_at (sz:=ob.sz) hsz (i:=k / v.cells.size) (v:=v) (by simp [h3]) (k % v.cells.size) v.cells[k % v.cells.size] (by simp [h4])
    rw [show k / v.cells.size * ob.sz + k % v.cells.size=k from by
     have:=Nat.div_add_mod k v.cells.size
     rw [show ob.sz=v.cells.size from by omega,Nat.mul_comm]; exact this] at this
    rw [this]
    simp [Builtin.zeroCells,hk,h4]
   ·rw [List.getElem?_eq_none (by rw [laid_length hsz]; simp; rw [show ob.sz=v.cells.size from by omega]; omega)]
    rw [List.getElem?_eq_none (by simp [zeroCells_size]; omega)]
  have:=does_elems (o:=o) (P:=P) (new:=List.replicate len z) (vs:=List.replicate len v) (v:=.tup []) (rv:=.tuple #[]) (nx':=nx') hs hd ex h1 hob g1 g2 g3 g4 hvt hfit (by simp) ?_ (fun _=>⟨[],rfl,trivial⟩)
  ·simpa using this
  ·intro w' hw'
   simp only [execOp,ho,resolve,hc,hargs,hty,invoke,builtin,List.map_toArray,List.map_cons,List.map_nil,ev1]
   cases bs with
   | none=>
    simp only at hw'
    subst hw'
    simp [Builtin.clear_,run_underlying hund]
   | some b=>
    simp only at hw'
    cases len with
    | zero=>
     have:w'=w:=by
      simp [laid,storeCells] at hw'
      exact hw'.symm
     subst this
     simp [Builtin.clear_,run_underlying hund]
    | succ k=>
     rw [hlaid] at hw'
     simp [Builtin.clear_,run_underlying hund,zeroValue,typeInfo,hi,hzv,hw']
theorem does_mksl {t e:TypeId} {l c:Operand} {z:AV} {sz:Nat} {m:Int} (ho:o.op = .makeSlice t l c) (he:elemT P t=some e) (hz:zeroT P e=some z) (hsz:sizeT P e=some sz)
  (hl:isInt (some (a.eval l)) (some m)) (hcc:isInt (some (a.eval c)) (some m))
  (hs:SR nt w φ ⟨E,H,nx⟩ a) (hd:∀ d,o.dst=some d→d < nt) (h0:0≤m) (hbig:m * sz≤4294967296) (hst:stor z=true) {id:Id} {nx':Nat} (hre:id.real:=by trivial) :
  Does P o nt a w φ H o.dst E (.ref id (genAt H id) m.toNat 0 m.toNat) (hupd H id ⟨genAt H id,sz,true,List.replicate m.toNat z⟩) nx':=by
 obtain ⟨i,v,hi,hzv,hvo,hlen⟩:=zeroT_info hz
 obtain ⟨i',hi',hsi,hpos,hby⟩:=sizeT_info hsz
 obtain rfl:i=i':=Option.some.inj (hi.symm.trans hi')
 have hzr:=valOf_rel (ctx w φ H) hvo
 obtain ⟨f1,f2⟩:=fit_cells hzr hst
 rcases hl with ⟨e1,_⟩ | ⟨kl,il,e1,e2⟩
 ·cases e1
 rcases hcc with ⟨e3,_⟩ | ⟨kc,ic,e3,e4⟩
 ·cases e3
 cases e2; cases e4
 have e1':=Option.some.inj e1
 have e3':=Option.some.inj e3
 have hmsz:m≤m * sz:=by
  have:m * 1≤m * sz:=Int.mul_le_mul_of_nonneg_left (by omega) h0
  simpa using this
 have hmN:(m.toNat:Int)=m:=Int.toNat_of_nonneg h0
 have hbytes:(i.bytes:Int) * m≤281474976710656:=by
  have h1:(i.bytes:Int) * m≤(32 * sz:Nat) * m:=Int.mul_le_mul_of_nonneg_right (by omega) h0
  have h2:((32 * sz:Nat):Int) * m=32 * (m * sz):=by push_cast; rw [Int.mul_assoc,Int.mul_comm (sz:Int)]
  omega
 have hrun:=run_make (P:=P) w t e i v (elemT_und he) hi hzv kl kc m m h0 (Int.le_refl _) hbytes (by omega)
 refine does_new (x:=.slice (some ⟨w.heap.size,0,none⟩) m.toNat m.toNat) (cells:=madeCells v.cells (m.toNat * i.size)) (e:=e) (lo:=0) (hi:=0) (dr:=w.drawn) ?_ hs hd (genAt_newer rfl) hre (.inl (Nat.le_refl _)) hpos ?_ ?_
 ·simp only [execOp,ho,e1',e3',Sem.run_bind,hrun,Result.andThen_ok,Sem.run_pure]
  rfl
 ·intro k xx hk
  rw [List.getElem?_replicate] at hk
  split at hk
  ·rename_i hkl
   obtain rfl:=Option.some.inj hk
   refine ⟨hst,v,hzr,by simp only; omega,fun j u hj=>⟨f2 j u hj,?_⟩⟩
   have hjlt:j < v.cells.size:=by
    rcases Nat.lt_or_ge j v.cells.size with h | h
    ·exact h
    ·simp [Array.getElem?_eq_none h] at hj
   have hvs:v.cells.size=sz:=by omega
   have hlt:k * sz + j < m.toNat * i.size:=by
    have:(k + 1) * sz≤m.toNat * sz:=Nat.mul_le_mul_right _ hkl
    rw [Nat.add_mul] at this
    rw [hsi]; omega
   simp only [madeCells]
   simp only [Array.getElem?_map]
   rw [Array.getElem?_eq_getElem (by simpa using hlt)]
   simp only [Array.getElem_range,Option.map_some]
   rw [hvs,Nat.mul_comm k sz,Nat.mul_add_mod,Nat.mod_eq_of_lt (by omega)]
   rw [← hj]
   simp [hjlt]
  ·cases hk
 ·refine ⟨_,_,rfl,Nat.le_refl _,_,hupd_same _ _ _,.inr ⟨rfl,by simp,by omega,.inr ⟨⟨w.heap.size,0,none⟩,by simp [ctx,φupd],by simp [Addr.add],by omega,?_⟩⟩⟩
  have hbs:bsize (World.row w (madeCells v.cells (m.toNat * i.size)) e 0 0) w.heap.size=m.toNat * i.size:=by
   simp only [bsize,row_new,size_madeCells]
  show 0 + (0 + m.toNat) * sz≤bsize (World.row w (madeCells v.cells (m.toNat * i.size)) e 0 0) w.heap.size
  rw [hbs,hsi,Nat.zero_add,Nat.zero_add]
  exact Nat.le_refl _
end
end Go.Am
/- One operation of Go's code against one of the small machine: strings and bytes; literals. -/
namespace Go.Am
variable {P:Program}
section
variable {o:Oper} {ops:Array Oper} {nt:Nat} {a:Act} {w:World} {φ:Id→Option Addr} {H:Heap} {nx:Nat} {E:AEnv} {T:Tab} {R:Run} {d:Nat}
theorem row_freeze (w:World) (cells:Array Value) (e:TypeId):World.freeze (World.row w cells e 0 0) ⟨w.heap.size,cells.size,none⟩ 1=World.row w cells e cells.size (cells.size + 1):=by
 simp only [World.freeze,World.row]
 rw [if_neg (by omega)]
 congr 1
 apply Array.ext_getElem?
 intro i
 rw [Array.getElem?_modify]
 by_cases hi:w.heap.size=i
 ·subst hi
  simp
 ·rw [if_neg hi,Array.getElem?_push,Array.getElem?_push,if_neg (Ne.symm hi),if_neg (Ne.symm hi)]
theorem run_markStringish (w:World) (cells:Array Value) (e:TypeId):(markStringish ⟨w.heap.size,0,none⟩).run P (World.row w cells e 0 0) = .ok () (World.row w cells e cells.size (cells.size + 1)):=by
 have hsh:(World.row w cells e 0 0).shape? w.heap.size=some (e,cells.size):=by
  simp only [World.shape?,row_new]
 simp only [markStringish,Sem.run_bind,run_shape,Result.andThen_ok,hsh,run_freeze]
 rw [← row_freeze]
theorem run_newRow (w:World) (cells:Array Value) (e:TypeId):(newRow e cells).run P w = .ok ⟨w.heap.size,0,none⟩ (World.row w cells e 0 0):=rfl
theorem does_s2b {s t e:TypeId} {x:Operand} {x':Opd} {b:ByteArray} (ho:o.op = .convert s t x) (hs1:P.underlying s=some .string) (ht:P.underlying t=some (.slice e)) (he:P.underlying e=some (.int .u8)) (hx:opdOf x=some x')
  (hs:SR nt w φ ⟨E,H,nx⟩ a) (hd:∀ d,o.dst=some d→d < nt) (hu:ev E x' = .c (.s (.string b))) {id:Id} {nx':Nat} (hre:id.real:=by trivial) :
  Does P o nt a w φ H o.dst E (.ref id (genAt H id) b.size 0 b.size) (hupd H id ⟨genAt H id,1,true,bytesVs b⟩) nx':=by
 have h1:=opd_rel hs.env hx
 rw [hu] at h1
 obtain ⟨e1,_⟩:=scalar_rel h1
 have hge:b.size≤grownCap w b.size 0 e:=grownCap_ge w b.size 0 e
 have hds:b.data.size=b.size:=rfl
 let cells:Array Value:=b.data.map (fun c:UInt8=>Value.int .u8 c.toNat)++Array.replicate (grownCap w b.size 0 e - b.size) (Value.int .u8 0)
 refine does_new (x:=.slice (some ⟨w.heap.size,0,none⟩) b.size (grownCap w b.size 0 e)) (cells:=cells) (e:=e)
  (lo:=cells.size) (hi:=cells.size + 1) (dr:=w.drawn + 1) ?_ hs hd (genAt_newer rfl) hre (.inr (Nat.le_refl _)) (by simp) ?_ ?_
 ·simp only [execOp,ho,e1]
  simp only [convert,Sem.run_bind,run_underlying hs1,run_underlying ht,run_underlying he,Result.andThen_ok,Conv.stringToBytes]
  have hch:(choose (.appendCap b.size 0 e)).run P w = .ok (grownCap w b.size 0 e) w.drew:=rfl
  simp only [hch,Result.andThen_ok,run_newRow]
  have:=run_markStringish (P:=P) w.drew cells e
  rw [show w.drew.heap.size=w.heap.size from rfl] at this ⊢
  simp only [cells] at this ⊢
  rw [this]
  rfl
 ·intro k xx hk
  have hv:=bytes_vtup (ctx w φ H) b
  have hf:fits 1 (bytesVs b)=true:=by
   unfold fits; rw [List.all_eq_true]
   intro q hq
   obtain ⟨c,_,rfl⟩:=List.mem_map.1 hq
   rfl
  obtain ⟨g0,v,g1,g2,g3⟩:=elem_laid hv hf hk
  refine ⟨g0,v,g1,g2,fun j u hj=>⟨(g3 j u hj).1,?_⟩⟩
  have hl:=(g3 j u hj).2
  rw [laid_flat _ (by intro v hv; obtain ⟨c,_,rfl⟩:=List.mem_map.1 hv; rfl)] at hl
  have hlt:=(List.getElem?_eq_some_iff.1 hl).1
  rw [Array.getElem?_append,if_pos (by simpa using hlt)]
  simpa using hl
 ·refine ⟨_,_,rfl,hge,_,hupd_same _ _ _,.inr ⟨rfl,by simp [bytesVs],by omega,.inr ⟨⟨w.heap.size,0,none⟩,by simp [ctx,φupd],by simp [Addr.add],by omega,?_⟩⟩⟩
  have hcs:cells.size=grownCap w b.size 0 e:=by simp only [cells,Array.size_append,Array.size_map,Array.size_replicate]; omega
  simp only [ctx,bsize,row_new]
  omega
theorem bytes_go {X:Ctx}:∀ (es:List AV) (l:List UInt8) (vs:List Value),bytesOf.go es=some l→VTup X es vs→∃ ns:List Int,vs=ns.map (Value.int .u8)∧l=ns.map fun n=>UInt8.ofNat n.toNat:=by
 intro es
 induction es with
 | nil=>intro l vs h hv; simp [bytesOf.go] at h; subst h; cases vs with | nil=>exact ⟨[],rfl,rfl⟩ | cons=>exact hv.elim
 | cons x r ih=>
  intro l vs h hv
  cases vs with
  | nil=>exact hv.elim
  | cons v vs=>
   unfold bytesOf.go at h
   split at h
   ·rename_i e; cases e
   ·rename_i n r' e
    cases e
    split at h
    ·rename_i b hb
     obtain rfl:=Option.some.inj h
     obtain ⟨ns,h1,h2⟩:=ih _ _ hb hv.2
     obtain ⟨e1,_⟩:=hv.1
     exact ⟨n :: ns,by rw [e1,h1]; rfl,by rw [h2]; rfl⟩
    ·cases h
   ·cases h
theorem does_b2s {s t e:TypeId} {x:Operand} {x':Opd} {es:List AV} {b:ByteArray} (ho:o.op = .convert s t x) (hs1:P.underlying s=some (.slice e)) (ht:P.underlying t=some .string) (he:P.underlying e=some (.int .u8)) (hx:opdOf x=some x')
  (hs:SR nt w φ ⟨E,H,nx⟩ a) (hd:∀ d,o.dst=some d→d < nt) (hes:elems H (ev E x')=some es) (hb:bytesOf es=some b):Does P o nt a w φ H o.dst E (gStr b) H nx:=by
 have h1:VRel (ctx w φ H) (ev E x') (a.eval x):=opd_rel hs.env hx
 unfold bytesOf at hb
 obtain ⟨l,hl,rfl⟩:=Option.map_eq_some_iff.1 hb
 have hf:fits 1 es=true:=by
  clear hes h1
  unfold fits
  rw [List.all_eq_true]
  induction es generalizing l with
  | nil=>simp
  | cons y r ih=>
   unfold bytesOf.go at hl
   split at hl
   ·rename_i e; cases e
   ·rename_i n r' e'
    cases e'
    split at hl
    ·rename_i b' hb'
     intro q hq
     rcases List.mem_cons.1 hq with rfl | hq
     ·rfl
     ·exact ih _ hb' (by simp [hb']) q hq
    ·cases hl
   ·cases hl
 have hsrc:=elems_src (P:=P) hs.sim h1 hes hf
 obtain ⟨vs,k1,k2,k3⟩:=hsrc.vals
 obtain ⟨ns,e1,e2⟩:=bytes_go es l vs hl k1
 have hfc:(Builtin.firstCells 1 es.length (a.eval x)).run P w = .ok (laid (vs.take es.length)).toArray w:=k3 es.length w.drawn (Nat.le_refl _)
 rw [List.take_of_length_le (by rw [k1.length]; exact Nat.le_refl _)] at hfc
 have hone:∀ v∈vs,oneCell v=true:=by
  intro v hv; rw [e1] at hv; obtain ⟨n,_,rfl⟩:=List.mem_map.1 hv; rfl
 rw [laid_flat vs hone,e1] at hfc
 have hlen:=hsrc.len
 refine does_pure (v:=gStr ⟨l.toArray⟩) (x:=.string ⟨l.toArray⟩) ?_ hs ⟨rfl,rfl⟩ hd
 have hval:∃ bs len cap,a.eval x = .slice bs len cap∧len=es.length:=by
  generalize a.eval x=u at *
  cases hx':ev E x' with
  | nils=>rw [hx'] at h1 hes; simp [elems] at hes; subst hes; exact ⟨none,0,0,h1,rfl⟩
  | c t=>
   cases t with
   | sl sz xs=>rw [hx'] at h1 hes; simp [elems] at hes; subst hes; obtain ⟨a',len,cap,r1,r2,_⟩:=h1; exact ⟨a',len,cap,r1,by simpa using r2⟩
   | _=>rw [hx'] at hes; simp [elems] at hes
  | ref id g n off len=>
   rw [hx'] at h1 hes
   obtain ⟨a',cap,r1,_⟩:=h1
   simp only [elems,elemsOf] at hes
   split at hes
   ·split at hes
    ·rename_i hc
     obtain rfl:=Option.some.inj hes
     exact ⟨a',len,cap,r1,by simp; omega⟩
    ·cases hes
   ·cases hes
  | _=>rw [hx'] at hes; simp [elems] at hes
 obtain ⟨bs,len,cap,ev1,rfl⟩:=hval
 rw [ev1] at hfc
 simp only [execOp,ho,ev1]
 simp only [convert,Sem.run_bind,run_underlying hs1,run_underlying ht,run_underlying he,Result.andThen_ok]
 cases bs with
 | none=>
  have hns:ns=[]:=by
   have h2:=hfc
   simp only [Builtin.firstCells,Sem.run_pure] at h2
   have:(#[]:Array Value)=(ns.map (Value.int .u8)).toArray:=by injection h2
   have:=congrArg Array.size this
   simp at this
   exact List.length_eq_zero_iff.1 this.symm
  subst hns
  subst e2
  rfl
 | some ad=>
  simp only [Builtin.firstCells,Nat.mul_one] at hfc
  rw [run_bytesToString w ad es.length cap ns hfc,foldl_push_bytes]
  subst e2
  simp only [Result.andThen_ok,Sem.run_pure]
  congr 3
  simp [ByteArray.empty,ByteArray.emptyWithCapacity]
  rfl
theorem fold_put (l:List Value) (off:Nat):∀ (k:Nat) (z0:List Value),off + k + l.length≤z0.length →
  (l.zipIdx k).foldl (fun (cs:Array Value) (x:Value×Nat)=>cs.setIfInBounds (off + x.2) x.1) z0.toArray=(z0.take (off + k)++l++z0.drop (off + k + l.length)).toArray:=by
 induction l with
 | nil=>intro k z0 _; simp
 | cons y l ih2=>
  intro k z0 hlen
  simp only [List.length_cons] at hlen
  simp only [List.zipIdx_cons,List.foldl_cons]
  rw [show (z0.toArray.setIfInBounds (off + k) y)=(z0.set (off + k) y).toArray from by simp]
  rw [ih2 (k + 1) (z0.set (off + k) y) (by simp; omega)]
  congr 1
  apply List.ext_getElem?
  intro j
  rw [show off + (k + 1)=off + k + 1 from by omega]
  rw [getElem?_put _ _ _ (by simp; omega)]
  rw [getElem?_put z0 (y :: l) (off + k) (by simp; omega) j]
  simp only [List.length_cons]
  rw [show off + k + 1 + l.length=off + k + (l.length + 1) from by omega]
  by_cases hj:j=off + k
  ·subst hj
   rw [if_neg (by omega),if_pos (by omega),Nat.sub_self,List.getElem?_set_self (by omega)]
   rfl
  ·by_cases hj2:off + k + 1≤j∧j < off + k + (l.length + 1)
   ·rw [if_pos hj2,if_pos (by omega)]
    rw [show j - (off + k)=(j - (off + k + 1)) + 1 from by omega]
    simp
   ·rw [if_neg hj2,if_neg (by omega)]
    rw [List.getElem?_set_ne (Ne.symm hj)]
theorem fill_one {place:Nat→Option (Nat×Nat)} {i off n:Nat} {u:Value} {zs:List Value} {rest:List (Nat×Value)} (h1:place i=some (off,n)) (hn:u.cells.size=n) (hle:off + n≤zs.length) :
  Instr.fill place zs.toArray ((i,u) :: rest)=Instr.fill place (zs.take off++u.cells.toList++zs.drop (off + u.cells.toList.length)).toArray rest:=by
 simp only [Instr.fill,h1]
 have hcond:(decide (u.cells.size≠n) || decide (off + u.cells.size > zs.toArray.size))=false:=by
  simp; omega
 rw [if_neg (by rw [hcond]; simp)]
 have:=fold_put u.cells.toList off 0 zs (by simp; omega)
 rw [← Array.foldl_toList,Array.toList_zipIdx]
 simp only [Nat.add_zero] at this
 rw [this]
theorem fill_put {place:Nat→Option (Nat×Nat)} {X:Ctx}:∀ (parts:List (Nat×Value)) (ps:List (Nat×Nat×AV)) (zc:List AV) (zs:List Value) (cs:List AV),
  VRels X zc zs→parts.length=ps.length→(∀ (k:Nat) (q:Nat×Value) (p:Nat×Nat×AV),parts[k]? = some q→ps[k]? = some p→place q.1=some (p.1,p.2.1)∧VRel X p.2.2 q.2)→fillCells zc ps=some cs →
  ∃ rs:List Value,Instr.fill place zs.toArray parts=some rs.toArray∧VRels X cs rs:=by
 intro parts
 induction parts with
 | nil=>
  intro ps zc zs cs hz hl _ hf
  cases ps with
  | nil=>simp [fillCells] at hf; subst hf; exact ⟨zs,rfl,hz⟩
  | cons=>simp at hl
 | cons q parts ih=>
  intro ps zc zs cs hz hl hp hf
  cases ps with
  | nil=>simp at hl
  | cons p ps=>
   obtain ⟨off,n,v⟩:=p
   obtain ⟨i,u⟩:=q
   obtain ⟨h1,h2⟩:=hp 0 (i,u) (off,n,v) rfl rfl
   simp only [fillCells] at hf
   split at hf
   ·rename_i hns
    obtain ⟨hn,h3⟩:=hns
    split at hf
    ·rename_i cs' hput
     unfold putCells at hput
     split at hput
     ·rename_i hle
      obtain rfl:=Option.some.inj hput
      obtain ⟨f1,_⟩:=fit_cells h2 h3
      obtain ⟨n1,n2⟩:=stor_ne h3
      have hcl:=VRel.cells h2 n1 n2
      have hzl:=hz.length
      have f1':u.cells.size=v.cells.length:=f1
      have hul:u.cells.toList.length=v.cells.length:=by simp; omega
      have hz2:VRels X (zc.take off++v.cells++zc.drop (off + v.cells.length)) (zs.take off++u.cells.toList++zs.drop (off + u.cells.toList.length)):=by
       rw [hul]
       exact ((hz.take off).append hcl).append (hz.drop _)
      obtain ⟨rs,r1,r2⟩:=ih ps _ _ cs hz2 (by simpa using hl) (fun k q p hq hp'=>hp (k + 1) q p (by simpa using hq) (by simpa using hp')) hf
      refine ⟨rs,?_,r2⟩
      rw [fill_one h1 (by rw [f1']; exact hn) (by rw [← hn,← hzl]; exact hle)]
      exact r1
     ·cases hput
    ·cases hf
   ·cases hf
def partsFrom:Nat→List Value→List (Nat×Value)
 | _,[]=>[]
 | k,v :: r=>(k,v) :: partsFrom (k + 1) r
theorem fill_row {sz:Nat}:∀ (vals:List Value) (k:Nat) (zs:List Value),(∀ v∈vals,v.cells.size=sz)→zs.length=(k + vals.length) * sz →
  Instr.fill (fun i=>some (i * sz,sz)) zs.toArray (partsFrom k vals)=some (zs.take (k * sz)++laid vals).toArray:=by
 intro vals
 induction vals with
 | nil=>
  intro k zs _ hl
  simp only [partsFrom,Instr.fill,laid,List.flatMap_nil,List.append_nil]
  rw [List.take_of_length_le (by simp at hl; omega)]
 | cons v r ih=>
  intro k zs hv hl
  have hsz:=hv v (by simp)
  have e1:(k + (v :: r).length) * sz=k * sz + sz + r.length * sz:=by simp [Nat.add_mul]; omega
  simp only [partsFrom]
  rw [fill_one rfl hsz (by omega)]
  rw [ih (k + 1) _ (fun u hu=>hv u (by simp [hu])) (by
   simp only [List.length_append,List.length_take,List.length_drop,Array.length_toList,hsz]
   rw [show (k + 1 + r.length) * sz=k * sz + sz + r.length * sz from by simp [Nat.add_mul]; ]
   omega)]
  congr 2
  have hlen:(zs.take (k * sz)++v.cells.toList).length=(k + 1) * sz:=by
   simp only [List.length_append,List.length_take,Array.length_toList,hsz,Nat.add_mul]; omega
  rw [← hlen,List.take_left]
  simp [laid]
theorem valOf_stor {v:Value} {z:AV} (h:valOf v=some z):stor z=true:=by
 have hc:∀ {v:Value} {z:AV},cellOf v=some z→stor z=true:=by
  intro v z h
  unfold cellOf at h
  split at h
  ·obtain rfl:=Option.some.inj h; rfl
  ·split at h
   ·obtain rfl:=Option.some.inj h; rfl
   ·cases h
 unfold valOf at h
 split at h
 ·split at h
  ·obtain rfl:=Option.some.inj h; rfl
  ·cases h
 ·exact hc h
theorem parts_rel {X:Ctx} {E:AEnv} {a:Act} (e:EnvRel X E a.tmps):∀ (xs:List (Nat×Operand)) (ys:List (Nat×Opd)),mapMO (fun p:Nat×Operand=>match opdOf p.2 with | some y=>some (p.1,y) | none=>none) xs=some ys →
  ys.length=xs.length∧∀ (k:Nat) (x:Nat×Operand) (y:Nat×Opd),xs[k]? = some x→ys[k]? = some y→x.1=y.1∧VRel X (ev E y.2) (a.eval x.2):=by
 intro xs
 induction xs with
 | nil=>intro l h; simp [mapMO] at h; subst h; exact ⟨rfl,fun k x y hx=>by simp at hx⟩
 | cons v r ih=>
  intro l h
  simp only [mapMO] at h
  split at h
  ·rename_i y hy
   split at hy
   ·rename_i z hz
    obtain rfl:=Option.some.inj hy
    split at h
    ·rename_i ys hys
     obtain rfl:=Option.some.inj h
     obtain ⟨h1,h2⟩:=ih _ hys
     refine ⟨by simp [h1],?_⟩
     intro k x y hx hy
     cases k with
     | zero=>simp at hx hy; subst hx; subst hy; exact ⟨rfl,opd_rel e hz⟩
     | succ k=>exact h2 k x y (by simpa using hx) (by simpa using hy)
    ·cases h
   ·cases hy
  ·cases h
theorem mapMO_get {α β:Type} {f:α→Option β}:∀ {xs:List α} {ys:List β},mapMO f xs=some ys→ys.length=xs.length∧∀ (k:Nat) (x:α),xs[k]? = some x→∃ y,f x=some y∧ys[k]? = some y:=by
 intro xs
 induction xs with
 | nil=>intro ys h; simp [mapMO] at h; subst h; exact ⟨rfl,fun k x hx=>by simp at hx⟩
 | cons v r ih=>
  intro ys h
  simp only [mapMO] at h
  split at h
  ·rename_i y hy
   split at h
   ·rename_i q hq
    obtain rfl:=Option.some.inj h
    obtain ⟨h1,h2⟩:=ih hq
    refine ⟨by simp [h1],?_⟩
    intro k x hx
    cases k with
    | zero=>simp at hx; subst hx; exact ⟨y,hy,rfl⟩
    | succ k=>obtain ⟨z,g1,g2⟩:=h2 k x (by simpa using hx); exact ⟨z,g1,by simpa using g2⟩
   ·cases h
  ·cases h
theorem does_build {t:TypeId} {parts:Array (Nat×Operand)} {z:AV} {fs:Array Field} {ps:List (Nat×Opd)} {l:List (Nat×Nat×Opd)} {cs:List AV} (ho:o.op = .build t parts) (hz:zeroT P t=some z) (ht:P.underlying t=some (.struct fs))
  (hps:mapMO (fun p:Nat×Operand=>match opdOf p.2 with | some y=>some (p.1,y) | none=>none) parts.toList=some ps) (hall:(fs.toList.all fun f=>(sizeT P f.type).isSome)=true)
  (hl:mapMO (fun p:Nat×Opd=>match fs[p.1]? with
    | some f=>match sizeT P f.type with | some s=>some (f.offset,s,p.2) | none=>none
    | none=>none) ps=some l)
  (hs:SR nt w φ ⟨E,H,nx⟩ a) (hd:∀ d,o.dst=some d→d < nt) (hf:fillCells z.cells (l.map fun p=>(p.1,p.2.1,ev E p.2.2))=some cs):Does P o nt a w φ H o.dst E (.agg cs) H nx:=by
 obtain ⟨i,v,hi,hzv,hvo,hlen⟩:=zeroT_info hz
 have hst:=valOf_stor hvo
 obtain ⟨n1,n2⟩:=stor_ne hst
 have hzc:=VRel.cells (valOf_rel (ctx w φ H) hvo) n1 n2
 obtain ⟨hpl,hprel⟩:=parts_rel hs.env _ _ hps
 obtain ⟨hll,hlget⟩:=mapMO_get hl
 have hplaces:∃ places:List (Nat×Nat),fs.toList.mapM (fun f=>(P.info? f.type).map fun i=>(f.offset,i.size))=some places∧∀ (k:Nat) (f:Field),fs.toList[k]? = some f→∀ s,sizeT P f.type=some s→places[k]? = some (f.offset,s):=by
  rw [List.all_eq_true] at hall
  generalize fs.toList=fl at hall
  induction fl with
  | nil=>exact ⟨[],rfl,fun k f h=>by simp at h⟩
  | cons f r ih=>
   obtain ⟨places,p1,p2⟩:=ih (fun g hg=>hall g (by simp [hg]))
   have:=hall f (by simp)
   obtain ⟨s,hs⟩:=Option.isSome_iff_exists.1 this
   obtain ⟨j,hj,hjs,_⟩:=sizeT_info hs
   refine ⟨(f.offset,s) :: places,by simp [List.mapM_cons,hj,hjs,p1],?_⟩
   intro k g hg q hq
   cases k with
   | zero=>simp at hg; subst hg; rw [hs] at hq; obtain rfl:=Option.some.inj hq; rfl
   | succ k=>exact p2 k g (by simpa using hg) q hq
 obtain ⟨places,hp1,hp2⟩:=hplaces
 obtain ⟨rs,hr1,hr2⟩:=fill_put (place:=(places.toArray[·]?)) (X:=ctx w φ H) ((parts.map fun (i,x)=>(i,a.eval x)).toList) (l.map fun p=>(p.1,p.2.1,ev E p.2.2)) z.cells v.cells.toList cs hzc (by simp [hll,hpl]) (by
  intro k q p hq hp
  simp only [Array.toList_map,List.getElem?_map] at hq hp
  obtain ⟨x,hx,rfl⟩:=Option.map_eq_some_iff.1 hq
  obtain ⟨y,hy,rfl⟩:=Option.map_eq_some_iff.1 hp
  have hklt:k < ps.length:=by rw [← hll]; exact (List.getElem?_eq_some_iff.1 hy).1
  have hpk:ps[k]? = some ps[k]:=List.getElem?_eq_getElem hklt
  obtain ⟨y',g1,g2⟩:=hlget k _ hpk
  rw [hy] at g2
  obtain rfl:=Option.some.inj g2
  obtain ⟨e1,e2⟩:=hprel k x ps[k] hx hpk
  split at g1
  ·rename_i f hf'
   split at g1
   ·rename_i s hss
    obtain rfl:=Option.some.inj g1
    refine ⟨?_,e2⟩
    simp only [List.getElem?_toArray]
    rw [e1]
    exact hp2 _ f (by simpa using hf') s hss
   ·cases g1
  ·cases g1) hf
 refine does_pure (v:=.agg cs) (x:=.agg rs.toArray) ?_ hs ⟨rs,rfl,hr2⟩ hd
 have hbuilt:P.built t (parts.map fun (i,x)=>(i,a.eval x)).toList=some rs.toArray:=by
  simp only [Program.built,hi,ht,hzv,hp1]
  simpa using hr1
 simp only [execOp,ho,Sem.run_bind]
 rw [run_build w t _ rs.toArray hbuilt]
 simp
theorem does_bslice {t e:TypeId} {len sz:Nat} {parts:Array (Nat×Operand)} {ps:List (Nat×Opd)} {l:List Opd} (ho:o.op = .buildSlice t len parts) (he:elemT P t=some e) (hsz:sizeT P e=some sz) (hzz:∃ z,zeroT P e=some z)
  (hps:mapMO (fun p:Nat×Operand=>match opdOf p.2 with | some y=>some (p.1,y) | none=>none) parts.toList=some ps) (hidx:idxParts 0 ps=some l) (hlen:l.length=len) (hl1:len≤1000) (hs1:sz≤1000)
  (hs:SR nt w φ ⟨E,H,nx⟩ a) (hd:∀ d,o.dst=some d→d < nt) (hf:fits sz (l.map (ev E))=true) {id:Id} {nx':Nat} (hre:id.real:=by trivial) :
  Does P o nt a w φ H o.dst E (.ref id (genAt H id) l.length 0 l.length) (hupd H id ⟨genAt H id,sz,true,l.map (ev E)⟩) nx':=by
 obtain ⟨z,hz⟩:=hzz
 obtain ⟨i,v,hi,hzv,hvo,hzl⟩:=zeroT_info hz
 obtain ⟨i',hi',hsi,hpos,_⟩:=sizeT_info hsz
 obtain rfl:i=i':=Option.some.inj (hi.symm.trans hi')
 have hst:=valOf_stor hvo
 obtain ⟨f1,_⟩:=fit_cells (valOf_rel (ctx w φ H) hvo) hst
 obtain ⟨hpl,hprel⟩:=parts_rel hs.env _ _ hps
 have hvals:∀ (ps:List (Nat×Opd)) (xs:List (Nat×Operand)) (k:Nat) (l:List Opd),ps.length=xs.length→(∀ (j:Nat) (x:Nat×Operand) (y:Nat×Opd),xs[j]? = some x→ps[j]? = some y→x.1=y.1∧VRel (ctx w φ H) (ev E y.2) (a.eval x.2))→idxParts k ps=some l →
   ∃ vals,VTup (ctx w φ H) (l.map (ev E)) vals∧xs.map (fun p=>(p.1,a.eval p.2))=partsFrom k vals:=by
  intro ps
  induction ps with
  | nil=>intro xs k l hl _ h; cases xs with
   | nil=>simp [idxParts] at h; subst h; exact ⟨[],trivial,rfl⟩
   | cons=>simp at hl
  | cons p ps ih=>intro xs k l hl hr h; cases xs with
   | nil=>simp at hl
   | cons x xs=>
    obtain ⟨j,y⟩:=p
    simp only [idxParts] at h
    split at h
    ·rename_i hjk
     split at h
     ·rename_i l' hl'
      obtain rfl:=Option.some.inj h
      obtain ⟨vals,g1,g2⟩:=ih xs (k + 1) l' (by simpa using hl) (fun q x y hx hy=>hr (q + 1) x y (by simpa using hx) (by simpa using hy)) hl'
      obtain ⟨e1,e2⟩:=hr 0 x (j,y) rfl rfl
      refine ⟨a.eval x.2 :: vals,⟨e2,g1⟩,?_⟩
      simp only [List.map_cons,partsFrom,g2,e1,hjk]
     ·cases h
    ·cases h
 obtain ⟨vals,hv1,hv2⟩:=hvals ps parts.toList 0 l hpl hprel hidx
 have hvl:vals.length=len:=by rw [← hv1.length]; simpa using hlen
 have hsizes:=fits_vals hv1 hf
 let zs:List Value:=((Array.range (len * sz)).map ((if len * sz=0 then #[] else v.cells)[· % (if len * sz=0 then #[] else v.cells).size]!)).toList
 have hzsl:zs.length=(0 + vals.length) * sz:=by simp [zs,hvl]
 have hfill:=fill_row (sz:=sz) vals 0 zs hsizes hzsl
 simp only [Nat.zero_mul,List.take_zero,List.nil_append] at hfill
 refine does_new (x:=.slice (some ⟨w.heap.size,0,none⟩) len len) (cells:=(laid vals).toArray) (e:=e) (lo:=0) (hi:=0) (dr:=w.drawn) ?_ hs hd (genAt_newer rfl) hre (.inl (Nat.le_refl _)) hpos ?_ ?_
 ·have hparts:(parts.map fun (i,x)=>(i,a.eval x)).toList=partsFrom 0 vals:=by rw [← hv2]; simp
  have hbig:¬ (len * sz > 2 ^ 24):=by
   have:len * sz≤1000 * 1000:=Nat.mul_le_mul hl1 hs1
   omega
  have hzrun:∀ (K:Array Value→Sem Value),((if len * sz=0 then pure #[] else do pure (← zeroValue e).cells:Sem (Array Value)) >>= K).run P w=(K (if len * sz=0 then #[] else v.cells)).run P w:=by
   intro K
   by_cases h0:len * sz=0
   ·simp [h0]
   ·simp [h0,zeroValue,typeInfo,hi,hzv]
  simp only [execOp,ho,Instr.buildSlice,Sem.run_bind,run_underlying (elemT_und he),Result.andThen_ok,run_sizeOf hsz,hbig,if_false]
  by_cases h0:len * sz=0
  ·have hz0:zs=[]:=by simp [zs,h0]
   rw [hz0] at hfill
   have harr:∀ f:Nat→Value,Array.map f (Array.range 0)=([]:List Value).toArray:=by intro f; apply Array.ext'; simp
   simp only [h0,if_true,Sem.run_bind,Sem.run_pure,Result.andThen_ok,harr,hparts]
   rw [hfill]
   simp [newRow]
   rfl
  ·have hz1:zs.toArray=(Array.range (len * sz)).map (v.cells[· % v.cells.size]!):=by simp only [zs,h0,if_false,Array.toArray_toList]
   rw [hz1] at hfill
   simp only [h0,if_false,Sem.run_bind,zeroValue,typeInfo,run_program,Result.andThen_ok,hi,hzv,Sem.run_pure,hparts]
   rw [hfill]
   simp [newRow]
   rfl
 ·intro k xx hk
  obtain ⟨g0,u,g1,g2,g3⟩:=elem_laid hv1 hf hk
  exact ⟨g0,u,g1,g2,fun j q hj=>⟨(g3 j q hj).1,by simpa using (g3 j q hj).2⟩⟩
 ·rw [hlen]
  refine ⟨_,_,rfl,Nat.le_refl _,_,hupd_same _ _ _,.inr ⟨rfl,by simp [hlen],by omega,.inr ⟨⟨w.heap.size,0,none⟩,by simp [ctx,φupd],by simp [Addr.add],by omega,?_⟩⟩⟩
  have hbs:bsize (World.row w (laid vals).toArray e 0 0) w.heap.size=len * sz:=by
   simp only [bsize,row_new,List.size_toArray,laid_length hsizes,hvl]
  show 0 + (0 + len) * sz≤bsize (World.row w (laid vals).toArray e 0 0) w.heap.size
  rw [hbs,Nat.zero_add,Nat.zero_add]
  exact Nat.le_refl _
end
end Go.Am
/- One operation of Go's code against one of the small machine: all of them; calls. -/
namespace Go.Am
variable {P:Program}
def Callable (P : Program) (f : Nat) : Prop := ∃ fn, P.funcs[f]? = some fn ∧ fn.name ≠ "runtime.NumGoroutine" ∧ fn.body.isSome = true
def CallOK (P:Program) (T:Tab) (R:Run):Prop:=∀ d f vs H nx v H' nx',callOp T R d f vs H nx=some (v,H',nx')→Callable P f ∧
 ∀ w φ vals,Sim w φ H→VTup (ctx w φ H) vs vals→Calls P f vals.toArray w (fun e w'=>∃ x φ',e = .returned x∧VRel (ctx w' φ' H') v x∧Sim w' φ' H'∧Ext w φ H w' φ' H')
theorem callFunc_run {f:Nat} (h:Callable P f) (args:Array Value) (w:World):(callFunc f args).run P w = .ok (.enter f args) w:=by
 obtain ⟨fn,h1,h2,h3⟩:=h
 have hb:fn.body.isNone=false:=by cases hx:fn.body <;> simp [hx] at h3 ⊢
 simp only [callFunc,Sem.run_bind,run_program,Result.andThen_ok,h1]
 simp [h2,hb]
section
variable {o:Oper} {ops:Array Oper} {nt:Nat} {a:Act} {w:World} {φ:Id→Option Addr} {H:Heap} {nx:Nat} {E:AEnv} {T:Tab} {R:Run} {d:Nat}
theorem does_calls {f:Nat} {vs:List AV} {vals:List Value} {v:AV} {H':Heap} {nx':Nat} (hok:CallOK P T R) (hc:callOp T R d f vs H nx=some (v,H',nx')) (hs:SR nt w φ ⟨E,H,nx⟩ a) (hd:∀ d,o.dst=some d→d < nt)
  (hv:VTup (ctx w φ H) vs vals) (hr:∀ w,(execOp a.eval o).run P w=(callFunc f vals.toArray).run P w):Does P o nt a w φ H o.dst E v H' nx':=by
 obtain ⟨h1,h2⟩:=hok _ _ _ _ _ _ _ _ hc
 intro K Q hK
 unfold Oper.wp
 rw [hr,callFunc_run h1,Oper.upon_enter]
 refine (h2 w φ vals hs.sim hv).mono ?_
 rintro e w' ⟨x,φ',rfl,h3,h4,h5⟩
 refine hK _ _ φ' ⟨h4,?_,by rw [put_size]; exact hs.size⟩ h5 (put_defers' _ _ _)
 exact EnvRel.put (hs.env.mono (h5.leCtx hs.sim.pl)) (fun _=>h3) (fun d h=>by rw [hs.size]; exact hd d h)
theorem mapMO_arr {xs:Array Operand} {ys:List Opd} (h:mapMO opdOf xs.toList=some ys) {X:Ctx} (e:EnvRel X E a.tmps):VTup X (ys.map (ev E)) (xs.map a.eval).toList:=by
 rw [Array.toList_map]; exact opds_rel e _ _ h
theorem isInt_of {X:Ctx} {x:Operand} {y:Opd} {n:Int} (e:EnvRel X E a.tmps) (h:opdOf x=some y) (hn:intOfV (ev E y)=some n):isInt (some (a.eval x)) (some n):=by
 obtain ⟨k,ek⟩:=intOf_rel (opd_rel e h) hn
 exact .inr ⟨k,n,by rw [ek],rfl⟩
theorem stor_cells_pos {t:TypeId} {z:AV} {n:Nat} (hz:zeroT P t=some z) (hn:sizeT P t=some n):0 < z.cells.length:=by
 obtain ⟨i,v,h1,_,_,h2⟩:=zeroT_info hz
 obtain ⟨i',h3,h4,h5,_⟩:=sizeT_info hn
 obtain rfl:i=i':=Option.some.inj (h1.symm.trans h3)
 omega
theorem appT_of {t u e:TypeId} {uu:TypeDesc} {sz:Nat} {z:AV} (he:elemT P t=some e) (hu:P.underlying u=some uu) (hni:∀ k,uu ≠ .int k) (hs:sizeT P e=some sz) (hz:zeroT P e=some z) :
  ∃ i zv,AppT P t u e sz i zv:=by
 obtain ⟨i,v,h1,h2,h3,h4⟩:=zeroT_info hz
 obtain ⟨i',h5,h6,h7,h8⟩:=sizeT_info hs
 obtain rfl:i=i':=Option.some.inj (h1.symm.trans h5)
 obtain ⟨f1,_⟩:=fit_cells (valOf_rel ⟨fun _=>none,fun _=>none,fun _=>none,fun _=>0⟩ h3) (valOf_stor h3)
 exact ⟨i,v,elemT_und he,⟨uu,hu,hni⟩,h1,h2,h6,by omega,by omega,h7⟩
end
end Go.Am
/- One operation of Go's code against one of the small machine: whichever it is. -/
namespace Go.Am
variable {P:Program}
section
variable {o:Oper} {ops:Array Oper} {nt:Nat} {a:Act} {w:World} {φ:Id→Option Addr} {H:Heap} {nx:Nat} {E:AEnv} {T:Tab} {R:Run} {d:Nat}
theorem some3 {α β γ:Type} {a a':α} {b b':β} {c c':γ} (h:some (a,b,c)=some (a',b',c')):a=a'∧b=b'∧c=c':=by
 cases h; exact ⟨rfl,rfl,rfl⟩
theorem args_one {xs:Array Operand} {y:Opd} (h:mapMO opdOf xs.toList=some [y]):∃ q,xs = #[q]∧opdOf q=some y:=by
 obtain ⟨hl,hg⟩:=mapMO_get h
 cases hca:xs.toList with
 | nil=>rw [hca] at hl; simp at hl
 | cons q r=>
  have hr:r=[]:=by rw [hca] at hl; simpa using hl
  subst hr
  obtain ⟨z,g1,g2⟩:=hg 0 q (by rw [hca]; rfl)
  simp at g2; subst g2
  exact ⟨q,by apply Array.ext'; rw [hca],g1⟩
theorem args_two {xs:Array Operand} {y y':Opd} (h:mapMO opdOf xs.toList=some [y,y']):∃ q q',xs = #[q,q']∧opdOf q=some y∧opdOf q'=some y':=by
 obtain ⟨hl,hg⟩:=mapMO_get h
 cases hca:xs.toList with
 | nil=>rw [hca] at hl; simp at hl
 | cons q r=>
  cases r with
  | nil=>rw [hca] at hl; simp at hl
  | cons q' r=>
   have hr:r=[]:=by rw [hca] at hl; simpa using hl
   subst hr
   obtain ⟨z,g1,g2⟩:=hg 0 q (by rw [hca]; rfl)
   obtain ⟨z',g3,g4⟩:=hg 1 q' (by rw [hca]; rfl)
   simp at g2 g4; subst g2; subst g4
   exact ⟨q,q',by apply Array.ext'; rw [hca],g1,g3⟩
theorem map_arr (xs:Array Operand):xs.map a.eval=(xs.map a.eval).toList.toArray:=by rw [Array.toArray_toList]
theorem isStr_string {X:Ctx} {x:AV} {v:Value} (h:VRel X x v) (hs:x.isStr=true):∃ s,v = .string s∧x = .c (.s (.string s)):=by
 unfold AV.isStr at hs
 split at hs
 ·rename_i s; exact ⟨s,h.1,rfl⟩
 ·cases hs
theorem bytes_fits (s:ByteArray):fits 1 (bytesVs s)=true:=by
 unfold fits; rw [List.all_eq_true]
 intro q hq
 obtain ⟨c,_,rfl⟩:=List.mem_map.1 hq
 rfl
theorem src_any {y:AV} {u:Value} {new:List AV} {sz:Nat} (hs:Sim w φ H) (hn:srcE H y=some new) (hr:VRel (ctx w φ H) y u) (hf:fits sz new=true) (hp:0 < sz):Src P (ctx w φ H) w sz new u:=by
 unfold srcE at hn
 split at hn
 ·rename_i s
  obtain rfl:=Option.some.inj hn
  obtain ⟨e1,_⟩:=hr
  subst e1
  by_cases h0:s.size=0
  ·have hb:bytesVs s=[]:=by
    have:(bytesVs s).length=0:=by simp [bytesVs,h0]
    exact List.length_eq_zero_iff.1 this
   rw [hb]
   refine ⟨by simp [Builtin.lenOf,h0],[],trivial,by simp,?_⟩
   intro m dr hm
   have:m=0:=by simpa using hm
   subst this
   simp [Builtin.firstCells,laid]
  ·have hsz:sz=1:=by
    cases hb:bytesVs s with
    | nil=>
     have:(bytesVs s).length=s.size:=by simp [bytesVs]
     rw [hb] at this; simp at this; omega
    | cons z r=>
     have h1:=bytes_fits s
     rw [hb] at hf h1
     have a1:=(fits_mem hf (x:=z) (by simp)).2
     have a2:=(fits_mem h1 (x:=z) (by simp)).2
     omega
   subst hsz
   exact src_string s
 ·exact elems_src hs hr hn hf
theorem sound_call {c:Call} {k:AOp} {v:AV} {H':Heap} {nx':Nat} (hop:o.op = .call c) (h:callOf P c o.type=some k) (hs:SR nt w φ ⟨E,H,nx⟩ a) (hd:∀ d,o.dst=some d→d < nt)
  (he:operV T R d o.dst E H nx k=some (v,H',nx')) (hok:CallOK P T R):Does P o nt a w φ H o.dst E v H' nx':=by
 unfold callOf at h
 split at h
 ·cases h
 ·rename_i args hargs
  split at h
  ·-- a function by its number
   rename_i f hcal
   obtain rfl:=Option.some.inj h
   simp only [operV] at he
   refine does_calls hok he hs hd (mapMO_arr hargs hs.env) ?_
   intro w
   simp only [execOp,hop,resolve,hcal,Act.eval,Deferred.ofValue,Sem.run_bind,Sem.run_pure,Result.andThen_ok,invoke]
   rw [Array.toArray_toList,Array.empty_append,Array.append_empty]
  ·-- a function value
   rename_i tm hcal
   obtain rfl:=Option.some.inj h
   simp only [operV] at he
   split at he
   ·rename_i g caps hg
    have h1:VRel (ctx w φ H) (ev E (.t tm)) (a.eval (.tmp tm)):=opd_rel hs.env (x:=.tmp tm) rfl
    rw [hg] at h1
    obtain ⟨vs,e1,hcv⟩:=h1
    refine does_calls hok he hs hd ((mapMO_arr hargs hs.env).append hcv) ?_
    intro w
    simp only [execOp,hop,resolve,hcal,e1,Deferred.ofValue,Sem.run_bind,Sem.run_pure,Result.andThen_ok,invoke]
    rw [show ((c.args.map a.eval).toList++vs).toArray=c.args.map a.eval++vs.toArray from by apply Array.ext'; simp]
    simp
   ·cases he
  ·-- a built-in
   rename_i b hcal
   split at h
   ·-- len
    rename_i x t ht
    obtain ⟨q,hq1,hq2⟩:=args_one hargs
    have hty:c.argTypes = #[t]:=by apply Array.ext'; rw [ht]
    have hrel:VRel (ctx w φ H) (ev E x) (a.eval q):=opd_rel hs.env hq2
    split at h
    ·rename_i hu
     obtain rfl:=Option.some.inj h
     simp only [operV] at he
     split at he
     ·rename_i n hn
      split at he
      ·rename_i hst
       obtain ⟨rfl,rfl,rfl⟩:=some3 he
       obtain ⟨s,e1,_⟩:=isStr_string hrel hst
       exact does_len hop hcal hq1 hty (.inl ⟨hu,s,e1⟩) hq2 hs hd hn
      ·cases he
     ·cases he
    ·rename_i el hu
     obtain rfl:=Option.some.inj h
     simp only [operV] at he
     split at he
     ·rename_i n hn
      split at he
      ·rename_i hst
       obtain ⟨rfl,rfl,rfl⟩:=some3 he
       rcases len_rel hrel hn with ⟨s,e1,_⟩ | ⟨bb,cc,e1⟩
       ·exfalso
        unfold lenV at hn
        split at hn
        ·rename_i e2; rw [e2] at hrel; rw [e1] at hrel; cases hrel
        ·rename_i e2; rw [e2] at hrel; rw [e1] at hrel; obtain ⟨_,_,_,e3,_⟩:=hrel; cases e3
        ·rename_i e2; rw [e2] at hrel; rw [e1] at hrel; obtain ⟨_,_,e3,_⟩:=hrel; cases e3
        ·rename_i e2; rw [e2] at hst; simp [AV.isStr] at hst
        ·cases hn
       ·exact does_len hop hcal hq1 hty (.inr ⟨el,hu,bb,_,cc,e1⟩) hq2 hs hd hn
      ·cases he
     ·cases he
    ·cases h
   ·-- append
    rename_i x y t u htu
    obtain ⟨q,q',hq1,hq2,hq3⟩:=args_two hargs
    have hty:c.argTypes = #[t,u]:=by apply Array.ext'; rw [htu]
    split at h
    ·rename_i e uu hel hu
     split at h
     ·cases h
     ·rename_i hni
      split at h
      ·rename_i s z hsz hz
       obtain rfl:=Option.some.inj h
       obtain ⟨i,zv,hA⟩:=appT_of hel hu (fun k hk=>hni k hk) hsz hz
       have hrel:VRel (ctx w φ H) (ev E y) (a.eval q'):=opd_rel hs.env hq3
       simp only [operV] at he
       split at he
       ·rename_i new hnew
        split at he
        ·rename_i hf
         have hsrc:=src_any (P:=P) (sz:=s) hs.sim hnew hrel hf hA.pos
         refine does_append hop hcal hq1 hty hA hq2 hq3 hs hd hsrc hf ?_
         split at he
         ·rename_i hx
          split at he
          ·rename_i hn0
           obtain ⟨rfl,rfl,rfl⟩:=some3 he
           exact .inl ⟨hx,hn0,rfl,rfl⟩
          ·rename_i hn0
           split at he
           ·rename_i hbig
            obtain ⟨rfl,rfl,rfl⟩:=some3 he
            exact .inr (.inl ⟨hx,hn0,hbig,.dy nx,trivial,rfl,rfl⟩)
           ·cases he
         ·rename_i id g n off len hx
          split at he
          ·rename_i ob hob
           split at he
           ·rename_i hc
            obtain ⟨g1,g2,g3,g4,g5⟩:=hc
            refine .inr (.inr ⟨id,g,n,off,len,ob,hx,hob,g1,g2,g3,g4,g5,?_⟩)
            split at he
            ·rename_i hn0
             obtain ⟨rfl,rfl,rfl⟩:=some3 he
             exact .inl ⟨hn0,rfl,rfl⟩
            ·rename_i hn0
             split at he
             ·rename_i hle
              obtain ⟨rfl,rfl,rfl⟩:=some3 he
              exact .inr (.inl ⟨hn0,hle,rfl,rfl⟩)
             ·rename_i hle
              split at he
              ·rename_i hbig
               obtain ⟨rfl,rfl,rfl⟩:=some3 he
               exact .inr (.inr ⟨hn0,by omega,hbig,rfl,rfl⟩)
              ·cases he
           ·cases he
          ·cases he
         ·cases he
        ·cases he
       ·cases he
      ·cases h
    ·cases h
   ·-- copy
    rename_i x y t u htu
    obtain ⟨q,q',hq1,hq2,hq3⟩:=args_two hargs
    have hty:c.argTypes = #[t,u]:=by apply Array.ext'; rw [htu]
    split at h
    ·rename_i e hel
     split at h
     ·rename_i s hsz
      obtain rfl:=Option.some.inj h
      have hrel:VRel (ctx w φ H) (ev E y) (a.eval q'):=opd_rel hs.env hq3
      obtain ⟨_,_,_,hpos,_⟩:=sizeT_info hsz
      simp only [operV] at he
      split at he
      ·rename_i new id g n off len hnew hx
       split at he
       ·rename_i ob hob
        split at he
        ·rename_i hc
         obtain ⟨g1,g2,g3,g4,g5,g6⟩:=hc
         obtain ⟨rfl,rfl,rfl⟩:=some3 he
         subst g6
         have hsrc:=src_any (P:=P) (sz:=ob.sz) hs.sim hnew hrel g5 hpos
         exact does_copy hop hcal hq1 hty hel hsz hq2 hs hd hsrc g5 hx hob g1 g2 g3 g4 rfl
        ·cases he
       ·cases he
      ·cases he
     ·cases h
    ·cases h
   ·-- clear
    rename_i x t ht
    obtain ⟨q,hq1,hq2⟩:=args_one hargs
    have hty:c.argTypes = #[t]:=by apply Array.ext'; rw [ht]
    split at h
    ·rename_i e hel
     split at h
     ·rename_i z hz
      obtain rfl:=Option.some.inj h
      simp only [operV] at he
      split at he
      ·rename_i id g n off len hx
       split at he
       ·rename_i ob hob
        split at he
        ·rename_i hc
         obtain ⟨g1,g2,g3,g4,g5,g6⟩:=hc
         obtain ⟨rfl,rfl,rfl⟩:=some3 he
         exact does_clear hop hcal hq1 hty hel hz hq2 hs hd rfl (.inr ⟨id,g,n,off,len,ob,hx,hob,g1,g2,g3,g4,g5,g6,rfl⟩)
        ·cases he
       ·cases he
      ·rename_i hx
       obtain ⟨rfl,rfl,rfl⟩:=some3 he
       exact does_clear hop hcal hq1 hty hel hz hq2 hs hd rfl (.inl ⟨hx,rfl⟩)
      ·cases he
     ·cases h
    ·cases h
   ·obtain rfl:=Option.some.inj h
    simp only [operV] at he
    split at he
    ·rename_i n hn
     obtain ⟨rfl,rfl,rfl⟩:=some3 he
     exact does_minmax (b:=false) hop hcal hargs hs hd hn
    ·cases he
   ·obtain rfl:=Option.some.inj h
    simp only [operV] at he
    split at he
    ·rename_i n hn
     obtain ⟨rfl,rfl,rfl⟩:=some3 he
     exact does_minmax (b:=true) hop hcal hargs hs hd hn
    ·cases he
   ·cases h
  ·cases h
end
end Go.Am
/- One operation of Go's code against one of the small machine: all of them. -/
namespace Go.Am
variable {P:Program}
section
variable {o:Oper} {ops:Array Oper} {nt:Nat} {a:Act} {w:World} {φ:Id→Option Addr} {H:Heap} {nx:Nat} {E:AEnv} {T:Tab} {R:Run} {d:Nat}
set_option maxHeartbeats 1000000 in
theorem sound_op {k:AOp} {v:AV} {H':Heap} {nx':Nat} (h:opOf P o=some k) (hs:SR nt w φ ⟨E,H,nx⟩ a) (hd:∀ d,o.dst=some d→d < nt)
  (he:operV T R d o.dst E H nx k=some (v,H',nx')) (hok:CallOK P T R):Does P o nt a w φ H o.dst E v H' nx':=by
 unfold opOf at h
 split at h
 ·-- move
  rename_i x hop
  split at h
  ·rename_i y hy
   obtain rfl:=Option.some.inj h
   simp only [operV] at he
   obtain ⟨rfl,rfl,rfl⟩:=some3 he
   exact does_mov (.inl hop) hy hs hd
  ·cases h
 ·-- assign
  rename_i x hop
  split at h
  ·rename_i y hy
   obtain rfl:=Option.some.inj h
   simp only [operV] at he
   obtain ⟨rfl,rfl,rfl⟩:=some3 he
   exact does_mov (.inr hop) hy hs hd
  ·cases h
 ·-- pick
  rename_i c x y hop
  split at h
  ·rename_i c' x' y' hc hx hy
   obtain rfl:=Option.some.inj h
   simp only [operV] at he
   split at he
   ·rename_i t ht
    obtain ⟨rfl,rfl,rfl⟩:=some3 he
    exact does_pick hop hc hx hy hs hd ht
   ·cases he
  ·cases h
 ·-- nilCheck
  rename_i x hop
  split at h
  ·rename_i y hy
   obtain rfl:=Option.some.inj h
   simp only [operV] at he
   split at he
   ·rename_i e
    obtain ⟨rfl,rfl,rfl⟩:=some3 he
    rw [← e]; exact does_nilc hop hy hs hd (.inl ⟨_,_,e⟩)
   ·rename_i e
    obtain ⟨rfl,rfl,rfl⟩:=some3 he
    rw [← e]; exact does_nilc hop hy hs hd (.inr (.inl ⟨_,_,_,_,_,e⟩))
   ·rename_i e
    obtain ⟨rfl,rfl,rfl⟩:=some3 he
    rw [← e]; exact does_nilc hop hy hs hd (.inr (.inr ⟨_,_,e⟩))
   ·cases he
  ·cases h
 ·-- alloc
  rename_i t hop
  split at h
  ·rename_i z n hz hn
   obtain rfl:=Option.some.inj h
   simp only [operV] at he
   split at he
   ·rename_i tm hdst
    split at he
    ·rename_i hst
     obtain ⟨rfl,rfl,rfl⟩:=some3 he
     have h1:=does_alloc (id:=sid d tm) hop hz hs hd hst (stor_cells_pos hz hn)
     exact h1
    ·cases he
   ·cases he
  ·cases h
 ·-- box
  rename_i t x hop
  split at h
  ·rename_i y hy
   obtain rfl:=Option.some.inj h
   simp only [operV] at he
   split at he
   ·rename_i tm hdst
    split at he
    ·rename_i hst
     obtain ⟨rfl,rfl,rfl⟩:=some3 he
     exact does_box (id:=sid d tm) hop hy hs hd hst.1 hst.2
    ·cases he
   ·cases he
  ·cases h
 ·-- build
  rename_i t parts hop
  split at h
  ·rename_i z fs ps hz ht hps
   split at h
   ·cases h
   ·rename_i hall
    split at h
    ·rename_i l hl
     obtain rfl:=Option.some.inj h
     simp only [operV] at he
     split at he
     ·rename_i cs hcs
      obtain ⟨rfl,rfl,rfl⟩:=some3 he
      exact does_build hop hz ht hps (by cases hq:(fs.toList.all fun f=>(sizeT P f.type).isSome) <;> simp_all) hl hs hd hcs
     ·cases he
    ·cases h
  ·cases h
 ·-- buildSlice
  rename_i t len parts hop
  split at h
  ·rename_i e ps hel hps
   split at h
   ·rename_i s l z hsz hidx hz
    split at h
    ·rename_i hc
     obtain rfl:=Option.some.inj h
     by_cases hu8:(isU8 P e && !l.isEmpty)=true
     ·rw [if_pos hu8] at he
      simp only [operV] at he
      split at he
      ·rename_i tm hdst
       split at he
       ·rename_i hf
        obtain ⟨rfl,rfl,rfl⟩:=some3 he
        exact does_bslice (id:=sid d tm) hop hel hsz ⟨_,hz⟩ hps hidx hc.1 hc.2.1 hc.2.2 hs hd hf
       ·cases he
      ·cases he
     ·rw [if_neg hu8] at he
      simp only [operV] at he
      split at he
      ·rename_i hf
       obtain ⟨rfl,rfl,rfl⟩:=some3 he
       exact does_bslice (id:=.dy nx) hop hel hsz ⟨_,hz⟩ hps hidx hc.1 hc.2.1 hc.2.2 hs hd hf
      ·cases he
    ·cases h
   ·cases h
  ·cases h
 ·-- load
  rename_i t x hop
  split at h
  ·rename_i ag s y hag hsz hy
   obtain rfl:=Option.some.inj h
   simp only [operV] at he
   split at he
   ·rename_i u hu
    obtain ⟨rfl,rfl,rfl⟩:=some3 he
    exact does_load hop hag hsz hy hs hd hu
   ·cases he
  ·cases h
 ·-- store
  rename_i t p x hop
  split at h
  ·rename_i s y z hsz hy hz
   obtain rfl:=Option.some.inj h
   simp only [operV] at he
   split at he
   ·rename_i H1 hH
    obtain ⟨rfl,rfl,rfl⟩:=some3 he
    exact does_store hop hsz hy hz hs hd hH
   ·cases he
  ·cases h
 ·-- binOp
  rename_i op t x y t' hop
  split at h
  ·rename_i x' y' hx hy
   split at h
   ·rename_i kk ht
    obtain rfl:=Option.some.inj h
    simp only [operV] at he
    split at he
    ·rename_i u1 u2 e1 e2
     split at he
     ·rename_i r hr
      obtain ⟨rfl,rfl,rfl⟩:=some3 he
      exact does_bin hop hx hy hs hd e1 e2 hr
     ·cases he
    ·cases he
   ·rename_i ht
    obtain rfl:=Option.some.inj h
    simp only [operV] at he
    split at he
    ·rename_i u1 u2 e1 e2
     split at he
     ·rename_i r hr
      obtain ⟨rfl,rfl,rfl⟩:=some3 he
      exact does_bin hop hx hy hs hd e1 e2 hr
     ·cases he
    ·cases he
   ·rename_i ht
    obtain rfl:=Option.some.inj h
    simp only [operV] at he
    split at he
    ·rename_i u1 u2 e1 e2
     split at he
     ·obtain ⟨rfl,rfl,rfl⟩:=some3 he
      exact does_binB hop ht hx hy hs hd e1 e2 (.inl ⟨rfl,rfl⟩)
     ·obtain ⟨rfl,rfl,rfl⟩:=some3 he
      exact does_binB hop ht hx hy hs hd e1 e2 (.inr ⟨rfl,rfl⟩)
     ·cases he
    ·cases he
   ·rename_i fs ht
    split at h
    ·cases h
    ·rename_i hg
     split at h
     ·rename_i l hl
      obtain rfl:=Option.some.inj h
      simp only [operV] at he
      split at he
      ·rename_i r hr
       split at he
       ·rename_i hag
        obtain ⟨rfl,rfl,rfl⟩:=some3 he
        exact does_binS hop ht (by simpa using hg) hl hx hy hs hd hag.1 hag.2 hr (.inl ⟨rfl,rfl⟩)
       ·cases he
      ·cases he
     ·rename_i l hl
      obtain rfl:=Option.some.inj h
      simp only [operV] at he
      split at he
      ·rename_i r hr
       split at he
       ·rename_i hag
        obtain ⟨rfl,rfl,rfl⟩:=some3 he
        exact does_binS hop ht (by simpa using hg) hl hx hy hs hd hag.1 hag.2 hr (.inr ⟨rfl,rfl⟩)
       ·cases he
      ·cases he
     ·cases h
   ·cases h
  ·cases h
 ·-- unOp
  rename_i op t x hop
  split at h
  ·rename_i y hy
   obtain rfl:=Option.some.inj h
   simp only [operV] at he
   split at he
   ·rename_i u hu
    split at he
    ·rename_i r hr
     obtain ⟨rfl,rfl,rfl⟩:=some3 he
     exact does_un hop hy hs hd hu hr
    ·cases he
   ·cases he
  ·cases h
 ·-- convert
  rename_i s t x hop
  split at h
  ·rename_i k1 k2 y h1 h2 hy
   obtain rfl:=Option.some.inj h
   simp only [operV] at he
   split at he
   ·rename_i k3 n hn
    obtain ⟨rfl,rfl,rfl⟩:=some3 he
    exact does_conv hop h1 h2 hy hs hd hn
   ·cases he
  ·rename_i y h1 h2 hy
   obtain rfl:=Option.some.inj h
   simp only [operV] at he
   split at he
   ·rename_i hst
    obtain ⟨rfl,rfl,rfl⟩:=some3 he
    have:∃ s,ev E y = .c (.s (.string s)):=by
     unfold AV.isStr at hst
     split at hst
     ·rename_i s e; exact ⟨s,e⟩
     ·cases hst
    obtain ⟨b,hb⟩:=this
    exact does_same hop h1 h2 hy hs hd hb
   ·cases he
  ·rename_i e y h1 h2 hy
   split at h
   ·rename_i hu8
    obtain rfl:=Option.some.inj h
    simp only [operV] at he
    split at he
    ·rename_i es hes
     split at he
     ·rename_i b hb
      obtain ⟨rfl,rfl,rfl⟩:=some3 he
      exact does_b2s hop h1 h2 hu8 hy hs hd hes hb
     ·cases he
    ·cases he
   ·cases h
  ·rename_i e y h1 h2 hy
   split at h
   ·rename_i hu8
    obtain rfl:=Option.some.inj h
    simp only [operV] at he
    split at he
    ·rename_i b hb
     split at he
     ·obtain ⟨rfl,rfl,rfl⟩:=some3 he
      exact does_s2b hop h1 h2 hu8 hy hs hd hb
     ·cases he
    ·cases he
   ·cases h
  ·cases h
 ·-- makeFunc
  rename_i f first caps hop
  split at h
  ·rename_i hfirst
   split at h
   ·rename_i l hl
    obtain rfl:=Option.some.inj h
    simp only [operV] at he
    obtain ⟨rfl,rfl,rfl⟩:=some3 he
    have:first = #[]:=by simpa using hfirst
    subst this
    exact does_mkfn hop hl hs hd
   ·cases h
  ·cases h
 ·-- makeSlice
  rename_i t l c hop
  split at h
  ·rename_i e n m hel hl hc
   split at h
   ·rename_i z s qa qb hz hsz
    split at h
    ·rename_i hab
     subst hab
     obtain rfl:=Option.some.inj h
     simp only [operV] at he
     split at he
     ·rename_i mm hm
      split at he
      ·rename_i hcnd
       obtain ⟨rfl,rfl,rfl⟩:=some3 he
       exact does_mksl hop hel hz hsz (isInt_of hs.env hl hm) (isInt_of hs.env hc hm) hs hd hcnd.1 hcnd.2.1 hcnd.2.2.1
      ·cases he
     ·cases he
    ·cases h
   ·rename_i z s q1 q2 hz hsz
    split at h
    ·rename_i i1 i2 g1 g2
     split at h
     ·rename_i hij
      subst hij
      obtain rfl:=Option.some.inj h
      simp only [operV] at he
      split at he
      ·rename_i mm hm
       have hmi:mm=i1:=by
        have:intOfV (ev E (.k q1))=some i1:=g1
        rw [this] at hm; exact (Option.some.inj hm).symm
       subst hmi
       split at he
       ·rename_i hcnd
        obtain ⟨rfl,rfl,rfl⟩:=some3 he
        exact does_mksl hop hel hz hsz (isInt_of hs.env hl hm) (isInt_of hs.env hc g2) hs hd hcnd.1 hcnd.2.1 hcnd.2.2.1
       ·cases he
      ·cases he
     ·cases h
    ·cases h
   ·cases h
  ·cases h
 ·-- slice
  rename_i t x lo hi mx hop
  split at h
  ·rename_i y l hh m ht hy hl hhi hm
   obtain rfl:=Option.some.inj h
   simp only [operV] at he
   split at he
   ·rename_i l' h' m' el eh em
    split at he
    ·rename_i u hu
     split at he
     ·rename_i hcnd
      obtain ⟨rfl,rfl,rfl⟩:=some3 he
      have hstr:(ev E y).isStr=true:=by simpa using hcnd.2
      have:∃ s,ev E y = .c (.s (.string s)):=by
       unfold AV.isStr at hstr
       split at hstr
       ·rename_i s e; exact ⟨s,e⟩
       ·cases hstr
      exact does_slice hop (.inl ⟨ht,this⟩) hy hl hhi hm hs hd el eh em hu
     ·cases he
    ·cases he
   ·cases he
  ·rename_i e y l hh m ht hy hl hhi hm
   split at h
   ·rename_i sz hsz
    obtain rfl:=Option.some.inj h
    obtain ⟨_,_,_,hpos,_⟩:=sizeT_info hsz
    simp only [operV] at he
    split at he
    ·rename_i l' h' m' el eh em
     split at he
     ·rename_i u hu
      split at he
      ·rename_i hcnd
       obtain ⟨rfl,rfl,rfl⟩:=some3 he
       have hstr:(ev E y).isStr=false:=by
        rw [hcnd.2]
        simp; omega
       refine does_slice hop (.inr ⟨e,sz,?_,hsz,?_,?_,?_⟩) hy hl hhi hm hs hd el eh em hu
       ·unfold elemT; rw [ht]
       ·intro s e1; rw [e1] at hstr; simp [AV.isStr] at hstr
       ·intro sz2 xs2 e2
        rw [e2] at hu
        simp only [sliceV] at hu
        split at hu
        ·rename_i hb
         obtain rfl:=Option.some.inj hu
         have h4:=hcnd.1
         simp only [szOk,Bool.or_eq_true,beq_iff_eq,List.isEmpty_iff] at h4
         rcases h4 with h4 | h4
         ·exact .inl h4
         ·right
          have h5:=congrArg List.length h4
          simp only [List.length_take,List.length_drop,List.length_nil] at h5
          omega
        ·cases hu
       ·intro p g q f k e2
        rw [e2] at hu
        simp only [sliceV] at hu
        split at hu
        ·rename_i ob hob
         split at hu
         ·obtain rfl:=Option.some.inj hu
          have h4:=hcnd.1
          simp only [szOk,szOf,hob,beq_iff_eq] at h4
          exact ⟨ob,hob,h4⟩
         ·cases hu
        ·cases hu
      ·cases he
     ·cases he
    ·cases he
   ·cases h
  ·cases h
 ·-- fieldAddr
  rename_i s x f hop
  split at h
  ·rename_i fs y ht hy
   split at h
   ·rename_i fd hf
    split at h
    ·rename_i n hn
     obtain rfl:=Option.some.inj h
     simp only [operV] at he
     split at he
     ·rename_i e
      obtain ⟨rfl,rfl,rfl⟩:=some3 he
      exact does_faddr hop ht hf hn hy hs hd (.inl ⟨_,_,e,rfl⟩)
     ·rename_i e
      obtain ⟨rfl,rfl,rfl⟩:=some3 he
      exact does_faddr hop ht hf hn hy hs hd (.inr ⟨_,_,_,_,_,e,rfl⟩)
     ·cases he
    ·cases h
   ·cases h
  ·cases h
 ·-- field
  rename_i t x f hop
  split at h
  ·rename_i fs y ht hy
   split at h
   ·rename_i fd hf
    split at h
    ·rename_i s ag hsz hag
     obtain rfl:=Option.some.inj h
     simp only [operV] at he
     split at he
     ·rename_i hi
      split at he
      ·rename_i hle
       split at he
       ·rename_i hagt
        obtain ⟨rfl,rfl,rfl⟩:=some3 he
        exact does_field hop ht hf hsz hag hy hs hd hi hle (.inl ⟨hagt,rfl⟩)
       ·rename_i hagf
        split at he
        ·rename_i u hu
         obtain ⟨rfl,rfl,rfl⟩:=some3 he
         exact does_field hop ht hf hsz hag hy hs hd hi hle (.inr ⟨by simpa using hagf,hu⟩)
        ·cases he
      ·cases he
     ·cases he
    ·cases h
   ·cases h
  ·cases h
 ·-- indexAddr
  rename_i t x i hop
  split at h
  ·rename_i e y j hel hy hj
   split at h
   ·rename_i s hsz
    obtain rfl:=Option.some.inj h
    simp only [operV] at he
    split at he
    ·rename_i jj hjj
     split at he
     ·rename_i h0
      split at he
      ·rename_i sz' xs hx
       split at he
       ·rename_i u hu
        split at he
        ·rename_i hss
         obtain ⟨rfl,rfl,rfl⟩:=some3 he
         refine does_iaddr hop hel hsz hy hj hs hd hjj h0 (.inl ⟨_,_,_,hx,hu,rfl⟩) ?_
         intro sz2 xs2 e2
         rw [hx] at e2
         cases e2
         exact hss
        ·cases he
       ·cases he
      ·rename_i p g n off len hx
       split at he
       ·rename_i ob hob
        split at he
        ·rename_i hcnd
         obtain ⟨g1,g2,g3,g4,g5⟩:=hcnd
         obtain ⟨rfl,rfl,rfl⟩:=some3 he
         refine does_iaddr hop hel hsz hy hj hs hd hjj h0 (.inr ⟨_,_,_,_,_,hx,g4,⟨ob,hob,g1,g2,g5⟩,rfl⟩) ?_
         intro sz2 xs2 e2
         rw [hx] at e2
         cases e2
        ·cases he
       ·cases he
      ·cases he
     ·cases he
    ·cases he
   ·cases h
  ·cases h
 ·-- index
  rename_i t x i hop
  split at h
  ·rename_i y j ht hy hj
   obtain rfl:=Option.some.inj h
   simp only [operV] at he
   split at he
   ·rename_i s jj es ej
    split at he
    ·rename_i h0
     split at he
     ·rename_i b hb
      obtain ⟨rfl,rfl,rfl⟩:=some3 he
      exact does_index hop ht hy hj hs hd es ej h0 hb
     ·cases he
    ·cases he
   ·cases he
  ·cases h
 ·-- extract
  rename_i x i hop
  split at h
  ·rename_i y hy
   obtain rfl:=Option.some.inj h
   simp only [operV] at he
   split at he
   ·rename_i l hl
    split at he
    ·rename_i u hu
     obtain ⟨rfl,rfl,rfl⟩:=some3 he
     exact does_extract hop hy hs hd hl hu
    ·cases he
   ·cases he
  ·cases h
 ·-- call
  rename_i c hop
  exact sound_call hop h hs hd he hok
 ·cases h
end
end Go.Am
/- What an operation of the small machine reads and writes. -/
namespace Go.Am
theorem so3 {α β γ:Type} {a a':α} {b b':β} {c c':γ} (h:some (a,b,c)=some (a',b',c')):a=a'∧b=b'∧c=c':=by
 cases h; exact ⟨rfl,rfl,rfl⟩
def AgR (H H1:Heap) (id:Id):Prop:=(H id=none∧H1 id=none)∨∃ b b1,H id=some b∧H1 id=some b1∧b1.gen=b.gen∧b1.es=b.es∧b1.sz=b.sz
theorem AgR.of_eq {H H1:Heap} {id:Id} (h:H1 id=H id):AgR H H1 id:=by
 cases hh:H id with
 | none=>exact .inl ⟨hh,by rw [h,hh]⟩
 | some b=>exact .inr ⟨b,b,hh,by rw [h,hh],rfl,rfl,rfl⟩
theorem AgR.symm {H H1:Heap} {id:Id} (h:AgR H H1 id):AgR H1 H id:=by
 rcases h with ⟨a,b⟩ | ⟨b,b1,h1,h2,h3,h4,h5⟩
 ·exact .inl ⟨b,a⟩
 ·exact .inr ⟨b1,b,h2,h1,h3.symm,h4.symm,h5.symm⟩
theorem AgR.trans {H H1 H2:Heap} {id:Id} (h:AgR H H1 id) (k:AgR H1 H2 id):AgR H H2 id:=by
 rcases h with ⟨a,b⟩ | ⟨b,b1,h1,h2,h3,h4,h5⟩
 ·rcases k with ⟨_,c⟩ | ⟨c,c1,k1,_⟩
  ·exact .inl ⟨a,c⟩
  ·rw [b] at k1; cases k1
 ·rcases k with ⟨c,_⟩ | ⟨c,c1,k1,k2,k3,k4,k5⟩
  ·rw [h2] at c; cases c
  ·rw [h2] at k1; cases k1
   exact .inr ⟨b,c1,h1,k2,k3.trans h3,k4.trans h4,k5.trans h5⟩
section
variable {H H1:Heap}
theorem elemsOf_ag {o:Id} {g n off len:Nat} (h:AgR H H1 o):elemsOf H1 o g n off len=elemsOf H o g n off len:=by
 unfold elemsOf
 rcases h with ⟨a,b⟩ | ⟨b,b1,h1,h2,h3,h4,h5⟩
 ·rw [a,b]
 ·rw [h1,h2]; simp only [h3,h4]
theorem szOf_ag {o:Id} (h:AgR H H1 o):szOf H1 o=szOf H o:=by
 unfold szOf
 rcases h with ⟨a,b⟩ | ⟨b,b1,h1,h2,h3,h4,h5⟩
 ·rw [a,b]
 ·rw [h1,h2]; simp only [h5]
mutual
theorem frz_ag:∀ (n:Nat) (v:AV),(∀ id,id∈idsOf H n v→AgR H H1 id)→frz H1 n v=frz H n v∧idsOf H1 n v=idsOf H n v
 | _,.c t,_=>by simp [frz,idsOf]
 | 0,.agg _,_=>by simp [frz,idsOf]
 | 0,.tup _,_=>by simp [frz,idsOf]
 | 0,.nils,_=>by simp [frz,idsOf]
 | 0,.tptr _ _,_=>by simp [frz,idsOf]
 | 0,.ref _ _ _ _ _,_=>by simp [frz,idsOf]
 | 0,.ptr _ _ _ _ _,_=>by simp [frz,idsOf]
 | 0,.fn _ _,_=>by simp [frz,idsOf]
 | 0,.undef,_=>by simp [frz,idsOf]
 | n + 1,.agg cs,h=>by
  obtain ⟨a,b⟩:=frzs_ag n cs (by simpa only [idsOf] using h)
  simp only [frz,idsOf,a,b,and_self]
 | _ + 1,.nils,_=>by simp [frz,idsOf]
 | n + 1,.ref o g m off len,h=>by
  simp only [idsOf,List.mem_cons] at h
  have h1:=h o (.inl rfl)
  simp only [frz,idsOf,elemsOf_ag h1,szOf_ag h1]
  cases he:elemsOf H o g m off len with
  | none=>exact ⟨rfl,rfl⟩
  | some es=>
   obtain ⟨a,b⟩:=frzs_ag n es (fun id hi=>h id (.inr (by simpa only [he] using hi)))
   simp only [a,b,and_self]
 | _ + 1,.tup _,_=>by simp [frz,idsOf]
 | _ + 1,.tptr _ _,_=>by simp [frz,idsOf]
 | _ + 1,.ptr _ _ _ _ _,_=>by simp [frz,idsOf]
 | _ + 1,.fn _ _,_=>by simp [frz,idsOf]
 | _ + 1,.undef,_=>by simp [frz,idsOf]
theorem frzs_ag:∀ (n:Nat) (l:List AV),(∀ id,id∈idsOfs H n l→AgR H H1 id)→frzs H1 n l=frzs H n l∧idsOfs H1 n l=idsOfs H n l
 | _,[],_=>by simp [frzs,idsOfs]
 | n,x :: r,h=>by
  simp only [idsOfs,List.mem_append] at h
  obtain ⟨a,b⟩:=frz_ag n x (fun id hi=>h id (.inl hi))
  obtain ⟨c,d⟩:=frzs_ag n r (fun id hi=>h id (.inr hi))
  simp only [frzs,idsOfs,a,b,c,d,and_self]
end
theorem lockL_at (H:Heap):∀ (l:List Id) (id:Id),lockL H l id=if id∈l then (match H id with | some b=>some { b with w:=false } | none=>none) else H id
 | [],id=>by simp [lockL]
 | o :: r,id=>by
  have ih:=lockL_at H r
  simp only [lockL]
  by_cases ho:id=o
  ·subst ho
   rw [if_pos List.mem_cons_self]
   cases hr:lockL H r id with
   | none=>
    simp only [hr]
    rw [ih] at hr
    split at hr
    ·cases hh:H id with
     | none=>rfl
     | some b=>rw [hh] at hr; cases hr
    ·rw [hr]
   | some b=>
    simp only [hupd,if_true]
    rw [ih] at hr
    split at hr
    ·cases hh:H id with
     | none=>rw [hh] at hr; cases hr
     | some b'=>rw [hh] at hr; simp only at hr; cases hr; rfl
    ·rw [hr]
  ·have h2:=ih id
   cases hro:lockL H r o with
   | none=>simp only [h2,List.mem_cons,ho,false_or]
   | some b=>simp only [hupd,ho,if_false,h2,List.mem_cons,false_or]
theorem lockL_ag (l:List Id) (id:Id):AgR H (lockL H l) id:=by
 rw [show AgR H (lockL H l) id↔AgR H (lockL H l) id from Iff.rfl]
 have h:=lockL_at H l id
 cases hh:H id with
 | none=>left; refine ⟨hh,?_⟩; rw [h,hh]; simp
 | some b=>
  right
  rw [hh] at h
  split at h
  ·exact ⟨b,_,hh,h,rfl,rfl,rfl⟩
  ·exact ⟨b,b,hh,h,rfl,rfl,rfl⟩
theorem genAt_eq {o:Id} (h:H1 o=H o):genAt H1 o=genAt H o:=by unfold genAt; rw [h]
theorem loadV_ag {ag:Bool} {n:Nat} {a:AV} (h:∀ id,id∈vIds a→AgR H H1 id):loadV H1 ag n a=loadV H ag n a:=by
 cases a with
 | ptr o g m i off=>
  have h1:=h o (by simp [vIds])
  simp only [loadV]
  rcases h1 with ⟨a,b⟩ | ⟨b,b1,h1,h2,h3,h4,h5⟩
  ·rw [a,b]
  ·rw [h1,h2]; simp only [h3,h4,h5]
 | _=>rfl
theorem sliceV_ag {x:AV} {l h m:Option Int} (hh:∀ id,id∈vIds x→AgR H H1 id):sliceV H1 x l h m=sliceV H x l h m:=by
 cases x with
 | ref o g n off len=>
  have h1:=hh o (by simp [vIds])
  simp only [sliceV]
  rcases h1 with ⟨a,b⟩ | ⟨b,b1,h1,h2,h3,h4,h5⟩
  ·rw [a,b]
  ·rw [h1,h2]; simp only [h3,h4]
 | c t=>
  cases t with
  | s x=>cases x <;> rfl
  | _=>rfl
 | _=>rfl
theorem sliceV_szOk {x v:AV} {l h m:Option Int} {sz:Nat} (hv:sliceV H x l h m=some v) (hh:∀ id,id∈vIds x→AgR H H1 id):szOk H1 sz v=szOk H sz v:=by
 unfold sliceV at hv
 simp only at hv
 split at hv
 ·split at hv
  ·obtain rfl:=Option.some.inj hv; rfl
  ·cases hv
 ·split at hv
  ·obtain rfl:=Option.some.inj hv; rfl
  ·cases hv
 ·split at hv
  ·obtain rfl:=Option.some.inj hv; rfl
  ·cases hv
 ·rename_i o _ _ _ _
  split at hv
  ·split at hv
   ·obtain rfl:=Option.some.inj hv
    simp only [szOk,szOf_ag (hh o (by simp [vIds]))]
   ·cases hv
  ·cases hv
 ·cases hv
theorem elems_ag {x:AV} (hh:∀ id,id∈vIds x→AgR H H1 id):elems H1 x=elems H x:=by
 cases x with
 | ref o g n off len=>
  simp only [elems,elemsOf_ag (hh o (by simp [vIds]))]
 | c t=>cases t <;> rfl
 | _=>rfl
theorem srcE_ag {x:AV} (hh:∀ id,id∈vIds x→AgR H H1 id):srcE H1 x=srcE H x:=by
 unfold srcE
 split
 ·rfl
 ·exact elems_ag hh
end
structure AgF (F:Foot) (H H1:Heap) (nx nx1:Nat):Prop where
 rd:∀ id,id∈F.rd→AgR H H1 id
 wr:∀ id,id∈F.wr→H1 id=H id
 lk:∀ id,id∈F.lk→H1 id=H id
 fr:∀ id,oldId F.fr id=false→H1 id=H id
 all:F.all=true→H1=H
 nxE:F.nx=true→nx1=nx
structure Fr (F:Foot) (H H' H1 H1':Heap) (nx nx' nx1 nx1':Nat):Prop where
 same:∀ id,id∈F.wr∨id∈F.lk∨oldId F.fr id=false→H1' id=H' id
 out:∀ id,id ∉ F.wr→id ∉ F.lk→oldId F.fr id=true→H' id=H id
 out1:∀ id,id ∉ F.wr→id ∉ F.lk→oldId F.fr id=true→H1' id=H1 id
 lock:∀ id,id ∉ F.wr→oldId F.fr id=true→AgR H H' id
 nxE:F.nx=true→nx1'=nx'
 nx0:F.nx=false→nx'=nx∧nx1'=nx1
theorem Fr.refl {F:Foot} {H H1:Heap} {nx nx1:Nat} (h:AgF F H H1 nx nx1):Fr F H H H1 H1 nx nx nx1 nx1:=
 ⟨fun id hi=>hi.elim (h.wr id) (fun q=>q.elim (h.lk id) (h.fr id)),fun _ _ _ _=>rfl,fun _ _ _ _=>rfl,fun _ _ _=>.of_eq rfl,h.nxE,fun _=>⟨rfl,rfl⟩⟩
theorem Fr.upd {F:Foot} {H H1:Heap} {nx nx1 nx' nx1':Nat} {id:Id} {b b1:Obj} (h:AgF F H H1 nx nx1) (hid:id∈F.wr) (hb:b1=b) (hn:F.nx=true→nx1'=nx') (hn0:F.nx=false→nx'=nx∧nx1'=nx1) :
  Fr F H (hupd H id b) H1 (hupd H1 id b1) nx nx' nx1 nx1':=by
 subst hb
 refine ⟨fun p hp=>?_,fun p h1 _ _=>?_,fun p h1 _ _=>?_,fun p h1 _=>?_,hn,hn0⟩
 ·unfold hupd
  split
  ·rfl
  ·exact hp.elim (h.wr p) (fun q=>q.elim (h.lk p) (h.fr p))
 ·unfold hupd; rw [if_neg]; rintro rfl; exact h1 hid
 ·unfold hupd; rw [if_neg]; rintro rfl; exact h1 hid
 ·refine .of_eq ?_
  unfold hupd; rw [if_neg]; rintro rfl; exact h1 hid
theorem frzOr_ag {H H1:Heap} {v:AV} (h:∀ id,id∈idsOf H 12 v→AgR H H1 id):frzOr H1 v=frzOr H v:=by
 unfold frzOr; rw [(frz_ag 12 v h).1]
theorem sepArgs_ag {H H1:Heap}:∀ (keep:List Bool) (vs:List AV),(∀ id,id∈sepRd H keep vs→AgR H H1 id)→sepArgs H1 keep vs=sepArgs H keep vs∧sepRd H1 keep vs=sepRd H keep vs
 | keep,[],_=>by simp [sepArgs,sepRd]
 | [],v :: r,h=>by
  simp only [sepRd,List.mem_append] at h
  obtain ⟨a,b⟩:=sepArgs_ag [] r (fun id hi=>h id (.inr hi))
  simp only [sepArgs,sepRd,a,b,frzOr_ag (fun id hi=>h id (.inl hi)),(frz_ag 12 v (fun id hi=>h id (.inl hi))).2,and_self]
 | b :: q,v :: r,h=>by
  simp only [sepRd,List.mem_append] at h
  obtain ⟨a,c⟩:=sepArgs_ag q r (fun id hi=>h id (.inr hi))
  cases b with
  | true=>simp only [sepArgs,sepRd,a,c,if_true,and_self]
  | false=>
   have h1:∀ id,id∈idsOf H 12 v→AgR H H1 id:=fun id hi=>h id (.inl (by simpa using hi))
   simp only [sepArgs,sepRd,a,c,Bool.false_eq_true,if_false,frzOr_ag h1,(frz_ag 12 v h1).2,and_self]
mutual
theorem reach_ag {H H1:Heap}:∀ (n:Nat) (v:AV),(∀ id,id∈reach H n v→H1 id=H id)→reach H1 n v=reach H n v
 | 0,v,_=>by cases v <;> simp [reach]
 | n + 1,.agg cs,h=>by simp only [reach] at h ⊢; exact reachs_ag n cs h
 | n + 1,.fn _ cs,h=>by simp only [reach] at h ⊢; exact reachs_ag n cs h
 | n + 1,.ref o _ _ _ _,h=>by
  simp only [reach,List.mem_cons] at h ⊢
  rw [h o (.inl rfl)]
  cases ho:H o with
  | none=>rfl
  | some b=>simp only []; rw [reachs_ag n b.es (fun id hi=>h id (.inr (by simpa only [ho] using hi)))]
 | n + 1,.ptr o _ _ _ _,h=>by
  simp only [reach,List.mem_cons] at h ⊢
  rw [h o (.inl rfl)]
  cases ho:H o with
  | none=>rfl
  | some b=>simp only []; rw [reachs_ag n b.es (fun id hi=>h id (.inr (by simpa only [ho] using hi)))]
 | n + 1,.c _,_=>by simp [reach]
 | n + 1,.nils,_=>by simp [reach]
 | n + 1,.tup _,_=>by simp [reach]
 | n + 1,.tptr _ _,_=>by simp [reach]
 | n + 1,.undef,_=>by simp [reach]
theorem reachs_ag {H H1:Heap}:∀ (n:Nat) (l:List AV),(∀ id,id∈reachs H n l→H1 id=H id)→reachs H1 n l=reachs H n l
 | _,[],_=>by simp [reachs]
 | n,x :: r,h=>by
  simp only [reachs,List.mem_append] at h ⊢
  rw [reach_ag n x (fun id hi=>h id (.inl hi)),reachs_ag n r (fun id hi=>h id (.inr hi))]
end
theorem restr_ag {H H1:Heap} {S:List Id} (h:∀ id,id∈S→H1 id=H id):restr H1 S=restr H S:=by
 funext o; unfold restr; split
 ·exact h o ‹_›
 ·rfl
section
variable {T:Tab} {R:Run} {d:Nat} {dst:Option Nat} {E:AEnv} {H H' H1:Heap} {nx nx' nx1:Nat} {k:AOp} {v:AV}
theorem pure_op (hk:kindA k=0) (he:operV T R d dst E H nx k=some (v,H',nx')):(H'=H∧nx'=nx)∧∀ (H1:Heap) (nx1:Nat),operV T R d dst E H1 nx1 k=some (v,H1,nx1):=by
 cases k
 all_goals first | (exfalso; simp [kindA] at hk; done) | skip
 all_goals simp only [operV] at he ⊢
 all_goals repeat' split at he
 all_goals first | (cases he; done) | skip
 all_goals (simp only [Option.some.injEq,Prod.mk.injEq] at he; obtain ⟨rfl,rfl,rfl⟩:=he; refine ⟨⟨rfl,rfl⟩,fun _ _=>?_⟩)
 all_goals simp_all
theorem call_frame {f:Nat} {vs:List AV} (he:callOp T R d f vs H nx=some (v,H',nx')) (hm:(footCall T f vs H nx).wall=false) (ha:AgF (footCall T f vs H nx) H H1 nx nx1) :
  footCall T f vs H1 nx1=footCall T f vs H nx∧∃ H1' nx1',callOp T R d f vs H1 nx1=some (v,H1',nx1')∧Fr (footCall T f vs H nx) H H' H1 H1' nx nx' nx1 nx1':=by
 unfold footCall callOp at *
 split at he
 ·rename_i hmo; rw [hmo] at hm; cases hm
 ·rename_i keep hmo
  simp only [hmo] at hm ha ⊢
  have hnx:nx1=nx:=ha.nxE rfl
  subst hnx
  obtain ⟨e1,e2⟩:=sepArgs_ag (H:=H) (H1:=H1) keep vs (fun id hi=>ha.rd id (by simp [hi]))
  generalize hvs:sepArgs H keep vs=vs' at *
  have e3:reachs H1 12 vs'=reachs H 12 vs':=reachs_ag 12 vs' (fun id hi=>ha.wr id hi)
  generalize hS:reachs H 12 vs'=S at *
  have e4:restr H1 S=restr H S:=restr_ag ha.wr
  have hfr:∀ id,isFresh nx1 id=true→H1 id=H id:=fun id hi=>ha.fr id (by simp [oldId,hi])
  have e5:∀ o,region H1 S nx1 o↔region H S nx1 o:=by
   intro o
   unfold region
   refine or_congr Iff.rfl (and_congr_right fun hf=>?_)
   rw [hfr o hf]
  have e5':region H1 S nx1=region H S nx1:=funext fun o=>propext (e5 o)
  have e6:∀ Hc,inK H1 Hc S nx1=inK H Hc S nx1:=fun Hc=>by funext o; unfold inK; rw [e5']
  have e7:sepPre H1 keep vs↔sepPre H keep vs:=by
   unfold sepPre
   rw [e1,hvs,e3,hS,e2]
   refine and_congr Iff.rfl (forall_congr' fun o=>?_)
   refine ⟨fun q ho=>?_,fun q ho=>?_⟩
   ·rw [← ha.wr o ho]; exact q ho
   ·rw [ha.wr o ho]; exact q ho
  have e8:∀ Hc rs,sepPost H1 Hc S nx1 rs↔sepPost H Hc S nx1 rs:=fun Hc rs=>by unfold sepPost; rw [e6,e5']
  rw [e1,e2,e3]
  refine ⟨rfl,?_⟩
  split at he
  ·rename_i hp
   split at he
   ·rename_i rs Hc nx2 hb
    split at he
    ·rename_i hq
     obtain ⟨rfl,rfl,rfl⟩:=so3 he
     refine ⟨over H1 Hc S nx1,nx2,?_,?_⟩
     ·rw [if_pos (e7.2 hp),e4,hb]
      simp only []
      rw [if_pos ((e8 _ _).2 hq)]
     ·refine ⟨?_,?_,?_,?_,by simp,by simp⟩
      ·intro id hi
       have hi:id∈S∨isFresh nx1 id=true:=by simpa [oldId] using hi
       unfold over
       rw [e5',e6]
       have:H1 id=H id:=hi.elim (ha.wr id) (hfr id)
       rw [this]
      ·intro id h1 _ h2
       have h2:isFresh nx1 id=false:=by simpa [oldId] using h2
       unfold over
       rw [if_neg]
       rintro (h | h)
       ·exact h1 h
       ·rw [h2] at h; cases h.1
      ·intro id h1 _ h2
       have h2:isFresh nx1 id=false:=by simpa [oldId] using h2
       unfold over
       rw [if_neg]
       rintro (h | h)
       ·exact h1 h
       ·rw [h2] at h; cases h.1
      ·intro id h1 h2
       have h2:isFresh nx1 id=false:=by simpa [oldId] using h2
       refine .of_eq ?_
       unfold over
       rw [if_neg]
       rintro (h | h)
       ·exact h1 h
       ·rw [h2] at h; cases h.1
    ·cases he
   ·cases he
  ·cases he
 ·rename_i hmo
  simp only [hmo] at hm ha ⊢
  cases hf:frzs H 12 vs with
  | some ts=>
   simp only [hf] at he ha ⊢
   obtain ⟨h1,h2⟩:=frzs_ag 12 vs ha.rd
   rw [h1,h2,hf]
   refine ⟨rfl,?_⟩
   split at he
   ·rename_i us hus
    split at he
    ·rename_i hs
     obtain ⟨rfl,rfl,rfl⟩:=so3 he
     exact ⟨H1,nx1,by simp only [hus]; rw [if_pos hs],Fr.refl ha⟩
    ·cases he
   ·cases he
  | none=>
   simp only [hf] at he ha ⊢
   have h1:=ha.all rfl
   have h2:=ha.nxE rfl
   subst h1; subst h2
   rw [hf]
   refine ⟨rfl,H',nx',he,?_⟩
   split at he
   ·split at he
    ·split at he
     ·obtain ⟨rfl,rfl,rfl⟩:=so3 he
      exact Fr.refl ha
     ·cases he
    ·cases he
   ·cases he
theorem oper_frame (he:operV T R d dst E H nx k=some (v,H',nx')) (hm:(foot T d dst E H nx k).wall=false) (ha:AgF (foot T d dst E H nx k) H H1 nx nx1) :
  foot T d dst E H1 nx1 k=foot T d dst E H nx k∧∃ H1' nx1',operV T R d dst E H1 nx1 k=some (v,H1',nx1')∧Fr (foot T d dst E H nx k) H H' H1 H1' nx nx' nx1 nx1':=by
 by_cases hk:kindA k=0
 ·obtain ⟨⟨rfl,rfl⟩,h2⟩:=pure_op hk he
  have hf:∀ (H:Heap) (nx:Nat),foot T d dst E H nx k=F0:=by
   intro H nx
   cases k <;> first | rfl | (exfalso; simp [kindA] at hk)
  exact ⟨by rw [hf,hf],H1,nx1,h2 _ _,Fr.refl ha⟩
 cases k
 all_goals first | (exfalso; simp [kindA] at hk; done) | skip
 case load ag n a=>
  simp only [operV,foot] at *
  rw [loadV_ag ha.rd]
  split at he
  ·obtain ⟨rfl,rfl,rfl⟩:=so3 he
   rename_i u hu
   exact ⟨trivial,_,_,rfl,Fr.refl ha⟩
  ·cases he
 case b2s x=>
  simp only [operV,foot] at *
  rw [elems_ag ha.rd]
  split at he
  ·split at he
   ·rename_i es hes b hb
    obtain ⟨rfl,rfl,rfl⟩:=so3 he
    exact ⟨trivial,H1,nx1,by simp_all only,Fr.refl ha⟩
   ·cases he
  ·cases he
 case slice sz x a b c=>
  simp only [operV,foot] at *
  split at he
  ·rename_i l h m el eh em
   split at he
   ·rename_i u hu
    split at he
    ·rename_i hc
     obtain ⟨rfl,rfl,rfl⟩:=so3 he
     refine ⟨trivial,H1,nx1,?_,Fr.refl ha⟩
     rw [sliceV_ag ha.rd]
     simp only [hu]
     rw [sliceV_szOk hu ha.rd]
     rw [if_pos hc]
    ·cases he
   ·cases he
  ·cases he
 case iaddr sz x i=>
  simp only [operV,foot] at *
  split at he
  ·rename_i j hj
   split at he
   ·rename_i h0
    split at he
    ·rename_i hx
     split at he
     ·split at he
      ·rename_i u hu hs
       obtain ⟨rfl,rfl,rfl⟩:=so3 he
       exact ⟨trivial,H1,nx1,by simp only [h0,if_true,hu,hs],Fr.refl ha⟩
      ·cases he
     ·cases he
    ·rename_i p g n off len hx
     have hag:=ha.rd p (by rw [hx]; simp [vIds])
     split at he
     ·rename_i ob hob
      split at he
      ·rename_i hc
       obtain ⟨rfl,rfl,rfl⟩:=so3 he
       refine ⟨trivial,H1,nx1,?_,Fr.refl ha⟩
       rcases hag with ⟨a,b⟩ | ⟨b,b1,h1,h2,h3,h4,h5⟩
       ·rw [a] at hob; cases hob
       ·rw [h1] at hob; cases hob
        simp only [h0,if_true,h2,h3,h4,h5]
        rw [if_pos hc]
      ·cases he
     ·cases he
    ·cases he
   ·cases he
  ·cases he
 case alloc z=>
  simp only [operV,foot] at *
  split at he
  ·rename_i t
   split at he
   ·rename_i hs
    obtain ⟨rfl,rfl,rfl⟩:=so3 he
    have h1:=ha.wr (sid d t) (by simp)
    refine ⟨trivial,_,nx1,by rw [if_pos hs,genAt_eq h1],Fr.upd ha (by simp) rfl (by simp) (by simp)⟩
   ·cases he
  ·cases he
 case box x=>
  simp only [operV,foot] at *
  split at he
  ·rename_i t
   split at he
   ·rename_i hs
    obtain ⟨rfl,rfl,rfl⟩:=so3 he
    have h1:=ha.wr (sid d t) (by simp)
    refine ⟨trivial,_,nx1,by rw [if_pos hs,genAt_eq h1],Fr.upd ha (by simp) rfl (by simp) (by simp)⟩
   ·cases he
  ·cases he
 case bslice sz l=>
  simp only [operV,foot] at *
  split at he
  ·rename_i t
   split at he
   ·rename_i hs
    obtain ⟨rfl,rfl,rfl⟩:=so3 he
    have h1:=ha.wr (sid d t) (by simp)
    refine ⟨trivial,_,nx1,by rw [if_pos hs,genAt_eq h1],Fr.upd ha (by simp) rfl (by simp) (by simp)⟩
   ·cases he
  ·cases he
 case bsliceD sz l=>
  simp only [operV,foot] at *
  split at he
  ·rename_i hs
   obtain ⟨rfl,rfl,rfl⟩:=so3 he
   have h2:=ha.nxE rfl
   subst h2
   have h1:=ha.wr (.dy nx1) (by simp)
   refine ⟨rfl,_,nx1 + 1,by rw [if_pos hs,genAt_eq h1],Fr.upd ha (by simp) rfl (by simp) (by simp)⟩
  ·cases he
 case s2b x=>
  simp only [operV,foot] at *
  split at he
  ·split at he
   ·rename_i hs
    obtain ⟨rfl,rfl,rfl⟩:=so3 he
    have h2:=ha.nxE rfl
    subst h2
    have h1:=ha.wr (.dy nx1) (by simp)
    refine ⟨rfl,_,nx1 + 1,by rw [if_pos hs,genAt_eq h1],Fr.upd ha (by simp) rfl (by simp) (by simp)⟩
   ·cases he
  ·cases he
 case mksl sz z n=>
  simp only [operV,foot] at *
  split at he
  ·split at he
   ·rename_i hs
    obtain ⟨rfl,rfl,rfl⟩:=so3 he
    have h2:=ha.nxE rfl
    subst h2
    have h1:=ha.wr (.dy nx1) (by simp)
    refine ⟨rfl,_,nx1 + 1,by rw [if_pos hs,genAt_eq h1],Fr.upd ha (by simp) rfl (by simp) (by simp)⟩
   ·cases he
  ·cases he
 case store n a x=>
  simp only [operV,foot] at *
  split at he
  ·rename_i H2 hst
   obtain ⟨rfl,rfl,rfl⟩:=so3 he
   unfold storeV at hst
   split at hst
   ·rename_i o g m i off hx
    have h1:=ha.wr o (by rw [hx]; simp [vIds])
    split at hst
    ·rename_i b hb
     split at hst
     ·rename_i hc
      split at hst
      ·rename_i old hold
       split at hst
       ·rename_i new hnew
        obtain rfl:=Option.some.inj hst
        refine ⟨trivial,hupd H1 o { b with es:=b.es.set i new },nx1,?_,Fr.upd ha (by rw [hx]; simp [vIds]) rfl (by simp) (by simp)⟩
        rw [hx]
        simp only [storeV,h1,hb]
        rw [if_pos hc]
        simp only [hold,hnew]
       ·cases hst
      ·cases hst
     ·cases hst
    ·cases hst
   ·cases hst
  ·cases he
 case clear z x=>
  simp only [operV,foot] at *
  split at he
  ·rename_i o g n off len hx
   have h1:=ha.wr o (by rw [hx]; simp [vIds])
   split at he
   ·rename_i b hb
    split at he
    ·rename_i hc
     obtain ⟨rfl,rfl,rfl⟩:=so3 he
     refine ⟨trivial,_,nx1,by simp only [h1,hb]; rw [if_pos hc],Fr.upd ha (by rw [hx]; simp [vIds]) rfl (by simp) (by simp)⟩
    ·cases he
   ·cases he
  ·obtain ⟨rfl,rfl,rfl⟩:=so3 he
   exact ⟨trivial,_,_,rfl,Fr.refl ha⟩
  ·cases he
 case copy sz x y=>
  simp only [operV,foot] at *
  rw [srcE_ag ha.rd]
  split at he
  ·rename_i new o g n off len hnew hx
   have h1:=ha.wr o (by rw [hx]; simp [vIds])
   split at he
   ·rename_i b hb
    split at he
    ·rename_i hc
     obtain ⟨rfl,rfl,rfl⟩:=so3 he
     refine ⟨trivial,_,nx1,by simp only [hnew,hx,h1,hb]; rw [if_pos hc],Fr.upd ha (by rw [hx]; simp [vIds]) rfl (by simp) (by simp)⟩
    ·cases he
   ·cases he
  ·cases he
 case append sz x y=>
  have h2:nx1=nx:=ha.nxE rfl
  subst h2
  simp only [operV,foot] at *
  rw [srcE_ag ha.rd]
  split at he
  ·rename_i new hnew
   split at he
   ·rename_i hf
    split at he
    ·rename_i hx
     have h1:=ha.wr (.dy nx1) (by simp [hx])
     split at he
     ·rename_i hn
      obtain ⟨rfl,rfl,rfl⟩:=so3 he
      exact ⟨trivial,H1,nx1,by simp only [hnew,hx,hf,if_true]; rw [if_pos hn],Fr.refl ha⟩
     ·rename_i hn
      split at he
      ·rename_i hb
       obtain ⟨rfl,rfl,rfl⟩:=so3 he
       exact ⟨trivial,_,nx1 + 1,by simp only [hnew,hx,hf,if_true]; rw [if_neg hn,if_pos hb,genAt_eq h1],Fr.upd ha (by simp [hx]) rfl (by simp) (by simp)⟩
      ·cases he
    ·rename_i o g n off len hx
     have h1:=ha.wr o (by rw [hx]; simp [vIds])
     split at he
     ·rename_i b hb
      split at he
      ·rename_i hc
       split at he
       ·rename_i hn
        obtain ⟨rfl,rfl,rfl⟩:=so3 he
        exact ⟨trivial,H1,nx1,by simp only [hnew,hx,hf,if_true,h1,hb]; rw [if_pos hc,if_pos hn],Fr.refl ha⟩
       ·rename_i hn
        split at he
        ·rename_i hr
         obtain ⟨rfl,rfl,rfl⟩:=so3 he
         exact ⟨trivial,_,nx1,by simp only [hnew,hx,hf,if_true,h1,hb]; rw [if_pos hc,if_neg hn,if_pos hr],Fr.upd ha (by rw [hx]; simp [vIds]) rfl (by simp) (by simp)⟩
        ·rename_i hr
         split at he
         ·rename_i hg
          obtain ⟨rfl,rfl,rfl⟩:=so3 he
          exact ⟨trivial,_,nx1,by simp only [hnew,hx,hf,if_true,h1,hb]; rw [if_pos hc,if_neg hn,if_neg hr,if_pos hg],Fr.upd ha (by rw [hx]; simp [vIds]) rfl (by simp) (by simp)⟩
         ·cases he
      ·cases he
     ·cases he
    ·cases he
   ·cases he
  ·cases he
 case call f args=>
  simp only [operV,foot] at *
  exact call_frame he hm ha
 case callv f args=>
  simp only [operV,foot] at *
  split at he
  ·rename_i g caps hg
   simp only [hg] at hm ha ⊢
   exact call_frame he hm ha
  ·cases he
end
end Go.Am
/- Two operations of the small machine that change places. -/
namespace Go.Am
section
variable {T:Tab} {R:Run} {d:Nat} {dst:Option Nat} {E E':AEnv} {H H' H1:Heap} {nx nx' nx1:Nat} {k:AOp} {v:AV}
theorem ev_congr {x:Opd} (h:∀ t,t∈x.tmps→E' t=E t):ev E' x=ev E x:=by
 cases x with
 | t n=>exact h n (by simp [Opd.tmps])
 | k v=>rfl
theorem evs_congr {l:List Opd} (h:∀ t,t∈l.flatMap Opd.tmps→E' t=E t):l.map (ev E')=l.map (ev E):=by
 refine List.map_congr_left fun x hx=>ev_congr fun t ht=>h t ?_
 exact List.mem_flatMap.2 ⟨x,hx,ht⟩
theorem optI_congr {x:Option Opd} (h:∀ t,t∈oTmps x→E' t=E t):optI E' x=optI E x:=by
 cases x with
 | none=>rfl
 | some y=>simp only [optI,ev_congr (x:=y) h]
theorem operV_congr (h:∀ t,t∈looks k→E' t=E t):operV T R d dst E' H nx k=operV T R d dst E H nx k:=by
 cases k
 case build z ps=>
  have:(ps.map fun p=>(p.1,p.2.1,ev E' p.2.2))=(ps.map fun p=>(p.1,p.2.1,ev E p.2.2)):=by
   refine List.map_congr_left fun p hp=>?_
   rw [ev_congr (x:=p.2.2) fun t ht=>h t (List.mem_flatMap.2 ⟨p,hp,ht⟩)]
  simp only [operV,this]
 case slice sz x a b c=>
  simp only [looks,List.mem_append] at h
  have h1:=ev_congr (E:=E) (E':=E') (x:=x) fun t ht=>h t (.inl ht)
  have h2:=optI_congr (E:=E) (E':=E') (x:=a) fun t ht=>h t (.inr (.inl ht))
  have h3:=optI_congr (E:=E) (E':=E') (x:=b) fun t ht=>h t (.inr (.inr (.inl ht)))
  have h4:=optI_congr (E:=E) (E':=E') (x:=c) fun t ht=>h t (.inr (.inr (.inr ht)))
  simp only [operV,h1,h2,h3,h4]
 case pick x a b=>
  simp only [looks,List.mem_append] at h
  have h1:=ev_congr (E:=E) (E':=E') (x:=x) fun t ht=>h t (.inl ht)
  have h2:=ev_congr (E:=E) (E':=E') (x:=a) fun t ht=>h t (.inr (.inl ht))
  have h3:=ev_congr (E:=E) (E':=E') (x:=b) fun t ht=>h t (.inr (.inr ht))
  simp only [operV,h1,h2,h3]
 case callv f l=>
  simp only [looks,List.mem_append] at h
  have h1:=ev_congr (E:=E) (E':=E') (x:=f) fun t ht=>h t (.inl ht)
  have h2:=evs_congr (E:=E) (E':=E') (l:=l) fun t ht=>h t (.inr ht)
  simp only [operV,h1,h2]
 case alloc z=>rfl
 case bslice sz l=>simp only [operV,evs_congr (E:=E) (E':=E') (l:=l) h]
 case bsliceD sz l=>simp only [operV,evs_congr (E:=E) (E':=E') (l:=l) h]
 case mkfn f l=>simp only [operV,evs_congr (E:=E) (E':=E') (l:=l) h]
 case minmax m l=>simp only [operV,evs_congr (E:=E) (E':=E') (l:=l) h]
 case tupl l=>simp only [operV,evs_congr (E:=E) (E':=E') (l:=l) h]
 case call f l=>simp only [operV,evs_congr (E:=E) (E':=E') (l:=l) h]
 case store | bin | binB | binS | iaddr | index | append | copy=>
  rename_i x y
  simp only [looks,List.mem_append] at h
  have h1:=ev_congr (E:=E) (E':=E') (x:=x) fun t ht=>h t (.inl ht)
  have h2:=ev_congr (E:=E) (E':=E') (x:=y) fun t ht=>h t (.inr ht)
  simp only [operV,h1,h2]
 all_goals simp only [operV,ev_congr (E:=E) (E':=E') h]
theorem foot_congr (h:∀ t,t∈looks k→E' t=E t):foot T d dst E' H nx k=foot T d dst E H nx k:=by
 cases k
 case slice sz x a b c=>
  simp only [looks,List.mem_append] at h
  have h1:=ev_congr (E:=E) (E':=E') (x:=x) fun t ht=>h t (.inl ht)
  simp only [foot,h1]
 case callv f l=>
  simp only [looks,List.mem_append] at h
  have h1:=ev_congr (E:=E) (E':=E') (x:=f) fun t ht=>h t (.inl ht)
  have h2:=evs_congr (E:=E) (E':=E') (l:=l) fun t ht=>h t (.inr ht)
  simp only [foot,h1,h2]
 case call f l=>simp only [foot,evs_congr (E:=E) (E':=E') (l:=l) h]
 case store | iaddr | append | copy=>
  rename_i x y
  simp only [looks,List.mem_append] at h
  have h1:=ev_congr (E:=E) (E':=E') (x:=x) fun t ht=>h t (.inl ht)
  have h2:=ev_congr (E:=E) (E':=E') (x:=y) fun t ht=>h t (.inr ht)
  simp only [foot,h1,h2]
 case load n a x=>simp only [foot,ev_congr (E:=E) (E':=E') (x:=x) h]
 case b2s x=>simp only [foot,ev_congr (E:=E) (E':=E') (x:=x) h]
 case clear z x=>simp only [foot,ev_congr (E:=E) (E':=E') (x:=x) h]
 all_goals rfl
end
theorem upd_other {E:AEnv} {dst:Option Nat} {v:AV} {t:Nat} (h:∀ d,dst=some d→d≠t):updO E dst v t=E t:=by
 cases dst with
 | none=>rfl
 | some d=>simp only [updO,upd]; rw [if_neg (fun e=>h d rfl e.symm)]
theorem updO_comm {E:AEnv} {x y:Option Nat} {u v:AV} (h:∀ a b,x=some a→y=some b→a≠b):updO (updO E x u) y v=updO (updO E y v) x u:=by
 cases x with
 | none=>rfl
 | some a=>
  cases y with
  | none=>rfl
  | some b=>
   have:=h a b rfl rfl
   funext t
   simp only [updO,upd]
   split
   ·rename_i e; subst e; rw [if_neg (fun e=>this e.symm)]
   ·rfl
theorem apart_spec {x y:AOper} (h:apartA x y=true):(∀ d,x.dst=some d→d ∉ looksO y)∧(∀ d,y.dst=some d→d ∉ looksO x)∧(∀ a b,x.dst=some a→y.dst=some b→a≠b):=by
 unfold apartA at h
 simp only [Bool.and_eq_true] at h
 obtain ⟨h1,h2,h3⟩:=h
 refine ⟨fun d hd=>?_,fun d hd=>?_,fun a b ha hb=>?_⟩
 ·rw [hd] at h1; simpa using h1
 ·rw [hd] at h2; simpa using h2
 ·rw [ha,hb] at h3; simpa using h3
section
variable {T:Tab} {R:Run} {d:Nat}
theorem wantedA_congr {E E':AEnv} {o:AOper} (h:∀ t,t∈looksO o→E' t=E t):wantedA E' o.guard=wantedA E o.guard:=by
 unfold wantedA
 cases hg:o.guard with
 | none=>rfl
 | some p=>
  obtain ⟨t,want⟩:=p
  have:=h t (by unfold looksO; rw [hg]; simp)
  simp only [this]
theorem disj_spec {a b:List Id} (h:disj a b=true) {x:Id} (hx:x∈a) (hy:x∈b):False:=by
 unfold disj at h
 rw [List.all_eq_true] at h
 have h1:=h x hx
 rw [List.all_eq_true] at h1
 simpa using h1 x hy
structure Indep (F G:Foot):Prop where
 fw:F.wall=false
 gw:G.wall=false
 fa:F.all=true→G.wr=[]∧G.lk=[]
 ga:G.all=true→F.wr=[]∧F.lk=[]
 d1:∀ x,x∈F.wr→x∈G.rd→False
 d2:∀ x,x∈F.wr→x∈G.wr→False
 d3:∀ x,x∈F.wr→x∈G.lk→False
 d4:∀ x,x∈G.wr→x∈F.rd→False
 d5:∀ x,x∈G.wr→x∈F.lk→False
 d6:∀ x,x∈F.lk→x∈G.lk→False
 nn:F.nx=true→G.nx=true→False
 fo:∀ x,x∈G.rd∨x∈G.wr∨x∈G.lk→oldId F.fr x=true
 go:∀ x,x∈F.rd∨x∈F.wr∨x∈F.lk→oldId G.fr x=true
 one:F.fr=none∨G.fr=none
 af:F.all=true→G.fr=none
 ag:G.all=true→F.fr=none
theorem indep_spec {F G:Foot} (h:indep F G=true):Indep F G:=by
 unfold indep at h
 simp only [Bool.and_eq_true,Bool.not_eq_true',Bool.or_eq_true,List.isEmpty_iff,List.all_eq_true,List.mem_append,Option.isNone_iff_eq_none] at h
 obtain ⟨⟨⟨⟨⟨k1,k2⟩,k3⟩,k4⟩,k5⟩,⟨⟨⟨⟨⟨⟨⟨h1,h2⟩,h3⟩,h4⟩,h5⟩,h6⟩,h7⟩,h8⟩⟩:=h
 refine ⟨h1,h2,fun e=>by rw [e] at h3; simpa using h3,fun e=>by rw [e] at h4; simpa using h4,
  fun x a b=>disj_spec h5 a (by simp [b]),fun x a b=>disj_spec h5 a (by simp [b]),fun x a b=>disj_spec h5 a (by simp [b]),
  fun x a b=>disj_spec h6 a (by simp [b]),fun x a b=>disj_spec h6 a (by simp [b]),fun x a b=>disj_spec h7 a b,fun a b=>(by rw [a,b] at h8; cases h8),k1,k2,k3,fun e=>(by rw [e] at k4; simpa using k4),fun e=>(by rw [e] at k5; simpa using k5)⟩
theorem Indep.none_left {G:Foot} (h:G.wall=false) (hg:G.fr=none):Indep F0 G:=
 ⟨rfl,h,fun e=>(by cases e),fun _=>⟨rfl,rfl⟩,fun _ h=>(by cases h),fun _ h=>(by cases h),fun _ h=>(by cases h),fun _ _ h=>(by cases h),fun _ _ h=>(by cases h),fun _ h=>(by cases h),fun e=>(by cases e),fun _ _=>rfl,fun x h=>(by rcases h with h | h | h <;> cases h),.inl rfl,fun e=>(by cases e),fun _=>rfl⟩
theorem swap_vals {d1 d2:Option Nat} {E1 E2:AEnv} {k1 k2:AOp} {H H1 H2:Heap} {n n1 n2:Nat} {v1 v2:AV}
  (h1:operV T R d d1 E1 H n k1=some (v1,H1,n1)) (h2:operV T R d d2 E2 H1 n1 k2=some (v2,H2,n2)) (hi:Indep (foot T d d1 E1 H n k1) (foot T d d2 E2 H1 n1 k2)) :
  ∃ H3 n3,operV T R d d2 E2 H n k2=some (v2,H3,n3)∧operV T R d d1 E1 H3 n3 k1=some (v1,H2,n2)∧foot T d d2 E2 H n k2=foot T d d2 E2 H1 n1 k2∧foot T d d1 E1 H3 n3 k1=foot T d d1 E1 H n k1:=by
 obtain ⟨_,Ha,na,e1,f1⟩:=oper_frame (H1:=H) (nx1:=n) h1 hi.fw ⟨fun _ _=>.of_eq rfl,fun _ _=>rfl,fun _ _=>rfl,fun _ _=>rfl,fun _=>rfl,fun _=>rfl⟩
 generalize hF:foot T d d1 E1 H n k1=F at *
 generalize hG:foot T d d2 E2 H1 n1 k2=G at *
 have oldF:F.fr=none→∀ id,oldId F.fr id=true:=fun e id=>by rw [e]; rfl
 have oldG:G.fr=none→∀ id,oldId G.fr id=true:=fun e id=>by rw [e]; rfl
 have agG:AgF G H1 H n1 n:=by
  refine ⟨fun id hid=>?_,fun id hid=>?_,fun id hid=>?_,fun id hid=>?_,fun e=>?_,fun e=>?_⟩
  ·exact (f1.lock id (fun c=>hi.d1 id c hid) (hi.fo id (.inl hid))).symm
  ·exact (f1.out id (fun c=>hi.d2 id c hid) (fun c=>hi.d5 id hid c) (hi.fo id (.inr (.inl hid)))).symm
  ·exact (f1.out id (fun c=>hi.d3 id c hid) (fun c=>hi.d6 id c hid) (hi.fo id (.inr (.inr hid)))).symm
  ·have hf:F.fr=none:=by
    rcases hi.one with h | h
    ·exact h
    ·rw [oldG h] at hid; cases hid
   refine (f1.out id (fun c=>?_) (fun c=>?_) (oldF hf id)).symm
   ·rw [hi.go id (.inr (.inl c))] at hid; cases hid
   ·rw [hi.go id (.inr (.inr c))] at hid; cases hid
  ·obtain ⟨a,b⟩:=hi.ga e
   funext id
   exact (f1.out id (by rw [a]; simp) (by rw [b]; simp) (oldF (hi.ag e) id)).symm
  ·have:F.nx=false:=by
    cases hx:F.nx
    ·rfl
    ·exact (hi.nn hx e).elim
   exact (f1.nx0 this).1.symm
 rw [← hG] at agG
 obtain ⟨e2,H3,n3,e3,f2⟩:=oper_frame h2 (by rw [hG]; exact hi.gw) agG
 rw [hG] at e2 f2 agG
 have agF:AgF F H H3 n n3:=by
  refine ⟨fun id hid=>?_,fun id hid=>?_,fun id hid=>?_,fun id hid=>?_,fun e=>?_,fun e=>?_⟩
  ·by_cases hl:id∈G.lk
   ·-- locked by the second
    have h5:AgR H1 H2 id:=f2.lock id (fun c=>hi.d4 id c hid) (hi.go id (.inl hid))
    have h6:H3 id=H2 id:=f2.same id (.inr (.inl hl))
    have h7:AgR H H1 id:=by
     by_cases hw:id∈F.wr
     ·exact (hi.d3 id hw hl).elim
     ·exact f1.lock id hw (hi.fo id (.inr (.inr hl)))
    exact (h7.trans h5).trans (.of_eq h6)
   ·exact .of_eq (f2.out1 id (fun c=>hi.d4 id c hid) hl (hi.go id (.inl hid)))
  ·exact f2.out1 id (fun c=>hi.d2 id hid c) (fun c=>hi.d3 id hid c) (hi.go id (.inr (.inl hid)))
  ·exact f2.out1 id (fun c=>hi.d5 id c hid) (fun c=>hi.d6 id hid c) (hi.go id (.inr (.inr hid)))
  ·have hg:G.fr=none:=by
    rcases hi.one with h | h
    ·rw [oldF h] at hid; cases hid
    ·exact h
   refine f2.out1 id (fun c=>?_) (fun c=>?_) (oldG hg id)
   ·rw [hi.fo id (.inr (.inl c))] at hid; cases hid
   ·rw [hi.fo id (.inr (.inr c))] at hid; cases hid
  ·obtain ⟨a,b⟩:=hi.fa e
   funext id
   exact f2.out1 id (by rw [a]; simp) (by rw [b]; simp) (oldG (hi.af e) id)
  ·have:G.nx=false:=by
    cases hx:G.nx
    ·rfl
    ·exact (hi.nn e hx).elim
   exact (f2.nx0 this).2
 rw [← hF] at agF
 obtain ⟨e4,H4,n4,e5,f3⟩:=oper_frame h1 (by rw [hF]; exact hi.fw) agF
 rw [hF] at e4 f3
 refine ⟨H3,n3,e3,?_,e2,e4⟩
 have hH:H4=H2:=by
  funext id
  by_cases hf:id∈F.wr∨id∈F.lk∨oldId F.fr id=false
  ·rw [f3.same id hf]
   refine (f2.out id (fun c=>?_) (fun c=>?_) ?_).symm
   ·rcases hf with q | q | q
    ·exact hi.d2 id q c
    ·exact hi.d5 id c q
    ·rw [hi.fo id (.inr (.inl c))] at q; cases q
   ·rcases hf with q | q | q
    ·exact hi.d3 id q c
    ·exact hi.d6 id q c
    ·rw [hi.fo id (.inr (.inr c))] at q; cases q
   ·rcases hf with q | q | q
    ·exact hi.go id (.inr (.inl q))
    ·exact hi.go id (.inr (.inr q))
    ·rcases hi.one with h | h
     ·rw [oldF h] at q; cases q
     ·exact oldG h id
  ·have a1:id ∉ F.wr:=fun c=>hf (.inl c)
   have a2:id ∉ F.lk:=fun c=>hf (.inr (.inl c))
   have a3:oldId F.fr id=true:=by
    cases hx:oldId F.fr id
    ·exact (hf (.inr (.inr hx))).elim
    ·rfl
   rw [f3.out1 id a1 a2 a3]
   by_cases hg:id∈G.wr∨id∈G.lk∨oldId G.fr id=false
   ·exact f2.same id hg
   ·have b1:id ∉ G.wr:=fun c=>hg (.inl c)
    have b2:id ∉ G.lk:=fun c=>hg (.inr (.inl c))
    have b3:oldId G.fr id=true:=by
     cases hx:oldId G.fr id
     ·exact (hg (.inr (.inr hx))).elim
     ·rfl
    rw [f2.out1 id b1 b2 b3,f2.out id b1 b2 b3,f1.out id a1 a2 a3]
 have hN:n4=n2:=by
  cases hf:F.nx with
  | true=>
   have hg:G.nx=false:=by
    cases hx:G.nx
    ·rfl
    ·exact (hi.nn hf hx).elim
   rw [f3.nxE hf,(f2.nx0 hg).1]
  | false=>
   rw [(f3.nx0 hf).2]
   cases hg:G.nx with
   | true=>exact f2.nxE hg
   | false=>rw [(f2.nx0 hg).2,(f2.nx0 hg).1,(f3.nx0 hf).1]
 rw [← hH,← hN]
 exact e5
theorem still_vals {d1:Option Nat} {E1:AEnv} {k1:AOp} {H H1:Heap} {n n1:Nat} {v1:AV} (h:operV T R d d1 E1 H n k1=some (v1,H1,n1)) (hf:foot T d d1 E1 H n k1=F0) :
  H1=H∧n1=n∧∀ H2 n2,operV T R d d1 E1 H2 n2 k1=some (v1,H2,n2)∧foot T d d1 E1 H2 n2 k1=F0:=by
 have key:∀ H2 n2,∃ Ha na,operV T R d d1 E1 H2 n2 k1=some (v1,Ha,na)∧Fr F0 H H1 H2 Ha n n1 n2 na∧foot T d d1 E1 H2 n2 k1=F0:=by
  intro H2 n2
  obtain ⟨a,Ha,na,b,c⟩:=oper_frame (H1:=H2) (nx1:=n2) h (by rw [hf]) (by rw [hf]; exact ⟨fun _ hx=>(by cases hx),fun _ hx=>(by cases hx),fun _ hx=>(by cases hx),fun _ hx=>(by cases hx),fun e=>(by cases e),fun e=>(by cases e)⟩)
  rw [hf] at a c
  exact ⟨Ha,na,b,c,a⟩
 obtain ⟨Ha,na,_,b,_⟩:=key H n
 refine ⟨funext fun id=>b.out id (by simp) (by simp) rfl,(b.nx0 rfl).1,fun H2 n2=>?_⟩
 obtain ⟨Hb,nb,e,f,g⟩:=key H2 n2
 have h1:Hb=H2:=funext fun id=>f.out1 id (by simp) (by simp) rfl
 have h2:nb=n2:=(f.nx0 rfl).2
 subst h1; subst h2
 exact ⟨e,g⟩
def Indep2 (F G:Foot):Prop:=F=F0∨G=F0∨Indep F G
theorem swap_vals2 {d1 d2:Option Nat} {E1 E2:AEnv} {k1 k2:AOp} {H H1 H2:Heap} {n n1 n2:Nat} {v1 v2:AV}
  (h1:operV T R d d1 E1 H n k1=some (v1,H1,n1)) (h2:operV T R d d2 E2 H1 n1 k2=some (v2,H2,n2)) (hi:Indep2 (foot T d d1 E1 H n k1) (foot T d d2 E2 H1 n1 k2)) :
  ∃ H3 n3,operV T R d d2 E2 H n k2=some (v2,H3,n3)∧operV T R d d1 E1 H3 n3 k1=some (v1,H2,n2)∧foot T d d2 E2 H n k2=foot T d d2 E2 H1 n1 k2∧foot T d d1 E1 H3 n3 k1=foot T d d1 E1 H n k1:=by
 rcases hi with hi | hi | hi
 ·obtain ⟨rfl,rfl,h3⟩:=still_vals h1 hi
  obtain ⟨h4,h5⟩:=h3 H2 n2
  exact ⟨H2,n2,h2,h4,rfl,by rw [h5,hi]⟩
 ·obtain ⟨rfl,rfl,h3⟩:=still_vals h2 hi
  obtain ⟨h4,h5⟩:=h3 H n
  exact ⟨H,n,h4,h1,by rw [h5,hi],rfl⟩
 ·exact swap_vals h1 h2 hi
theorem indepO {o:AOper} {s:St} (h:wantedA s.E o.guard≠some true):footO T d o s=F0:=by
 unfold footO
 split
 ·rename_i e; exact (h e).elim
 ·rfl
theorem swap {x y:AOper} {s s1 s2:St} (hap:apartA x y=true) (h1:operF T R d x s=some s1) (h2:operF T R d y s1=some s2) (hi:Indep2 (footO T d x s) (footO T d y s1)) :
  ∃ s3,operF T R d y s=some s3∧operF T R d x s3=some s2∧footO T d y s=footO T d y s1∧footO T d x s3=footO T d x s:=by
 obtain ⟨p1,p2,p3⟩:=apart_spec hap
 have key:∀ {v:AV} {s':St},s'.E=updO s.E x.dst v→(∀ t,t∈looksO y→s'.E t=s.E t):=fun e t ht=>by
  rw [e]; exact upd_other fun d hd hne=>p1 d hd (hne ▸ ht)
 have key2:∀ {v:AV} {E:AEnv},(∀ t,t∈looksO x→updO E y.dst v t=E t):=fun t ht=>
  upd_other fun d hd hne=>p2 d hd (hne ▸ ht)
 have lk:∀ {o:AOper} {t:Nat},t∈looks o.op→t∈looksO o:=fun h=>by unfold looksO; exact List.mem_append_right _ h
 unfold operF at h1
 split at h1
 ·-- the first is carried out
  rename_i hwx
  split at h1
  ·rename_i v1 H1 n1 e1
   obtain rfl:=Option.some.inj h1
   have hl:∀ t,t∈looksO y→updO s.E x.dst v1 t=s.E t:=fun t ht=>upd_other fun d hd hne=>p1 d hd (hne ▸ ht)
   have hwy:wantedA (updO s.E x.dst v1) y.guard=wantedA s.E y.guard:=wantedA_congr hl
   unfold operF at h2
   simp only [hwy] at h2
   split at h2
   ·rename_i hy
    simp only [operV_congr (fun t ht=>hl t (lk ht))] at h2
    split at h2
    ·rename_i v2 H2 n2 e2
     obtain rfl:=Option.some.inj h2
     have fx:footO T d x s=foot T d x.dst s.E s.H s.nx x.op:=by unfold footO; rw [hwx]
     have fy:footO T d y ⟨updO s.E x.dst v1,H1,n1⟩=foot T d y.dst s.E H1 n1 y.op:=by
      unfold footO; simp only [hwy,hy]
      exact foot_congr fun t ht=>hl t (lk ht)
     rw [fx,fy] at hi
     obtain ⟨H3,n3,g1,g2,g3,g4⟩:=swap_vals2 e1 e2 hi
     refine ⟨⟨updO s.E y.dst v2,H3,n3⟩,?_,?_,?_,?_⟩
     ·unfold operF; rw [hy]; simp only [g1]
     ·unfold operF
      simp only [wantedA_congr (o:=x) (key2 (v:=v2) (E:=s.E)),hwx]
      simp only [operV_congr (fun t ht=>key2 (v:=v2) (E:=s.E) t (lk ht)),g2]
      rw [updO_comm (fun a b ha hb=>p3 a b ha hb)]
     ·rw [fy]; unfold footO; rw [hy]; exact g3
     ·rw [fx]; unfold footO
      simp only [wantedA_congr (o:=x) (key2 (v:=v2) (E:=s.E)),hwx]
      rw [foot_congr (fun t ht=>key2 (v:=v2) (E:=s.E) t (lk ht))]
      exact g4
    ·cases h2
   ·rename_i hy
    obtain rfl:=Option.some.inj h2
    refine ⟨⟨updO s.E y.dst (.tup []),s.H,s.nx⟩,?_,?_,?_,?_⟩
    ·unfold operF; rw [hy]
    ·unfold operF
     simp only [wantedA_congr (o:=x) (key2 (v:=.tup []) (E:=s.E)),hwx]
     simp only [operV_congr (fun t ht=>key2 (v:=.tup []) (E:=s.E) t (lk ht)),e1]
     rw [updO_comm (fun a b ha hb=>p3 a b ha hb)]
    ·unfold footO; simp only [hwy,hy]
    ·unfold footO
     simp only [wantedA_congr (o:=x) (key2 (v:=.tup []) (E:=s.E)),hwx]
     rw [foot_congr (fun t ht=>key2 (v:=.tup []) (E:=s.E) t (lk ht))]
   ·cases h2
  ·cases h1
 ·rename_i hwx
  obtain rfl:=Option.some.inj h1
  have hl:∀ t,t∈looksO y→updO s.E x.dst (.tup []) t=s.E t:=fun t ht=>upd_other fun d hd hne=>p1 d hd (hne ▸ ht)
  have hwy:wantedA (updO s.E x.dst (.tup [])) y.guard=wantedA s.E y.guard:=wantedA_congr hl
  unfold operF at h2
  simp only [hwy] at h2
  split at h2
  ·rename_i hy
   simp only [operV_congr (fun t ht=>hl t (lk ht))] at h2
   split at h2
   ·rename_i v2 H2 n2 e2
    obtain rfl:=Option.some.inj h2
    refine ⟨⟨updO s.E y.dst v2,H2,n2⟩,?_,?_,?_,?_⟩
    ·unfold operF; rw [hy]; simp only [e2]
    ·unfold operF
     simp only [wantedA_congr (o:=x) (key2 (v:=v2) (E:=s.E)),hwx]
     rw [updO_comm (fun a b ha hb=>p3 a b ha hb)]
    ·unfold footO; simp only [hwy,hy]
     rw [foot_congr (fun t ht=>hl t (lk ht))]
    ·unfold footO
     simp only [wantedA_congr (o:=x) (key2 (v:=v2) (E:=s.E)),hwx]
   ·cases h2
  ·rename_i hy
   obtain rfl:=Option.some.inj h2
   refine ⟨⟨updO s.E y.dst (.tup []),s.H,s.nx⟩,?_,?_,?_,?_⟩
   ·unfold operF; rw [hy]
   ·unfold operF
    simp only [wantedA_congr (o:=x) (key2 (v:=.tup []) (E:=s.E)),hwx]
    rw [updO_comm (fun a b ha hb=>p3 a b ha hb)]
   ·unfold footO; simp only [hwy,hy]
   ·unfold footO
    simp only [wantedA_congr (o:=x) (key2 (v:=.tup []) (E:=s.E)),hwx]
  ·cases h2
 ·cases h1
end
end Go.Am
/- Operations whose order is left open: whichever comes first,the small machine ends alike. -/
namespace Go.Am
theorem or_bit {a b i:Nat}:(a ||| b).testBit i=(a.testBit i || b.testBit i):=Nat.testBit_or a b i
theorem ancMask_spec {acc:List Nat} {o:Oper} {i:Nat} (h:(ancMask acc o).testBit i=true):∃ e,e∈o.after∧Region.binds .any e=true∧(i=e.on∨(acc.getD e.on 0).testBit i=true):=by
 unfold ancMask at h
 have key:∀ (l:List Edge) (s:Nat),(l.foldl (fun s e=>if Region.binds .any e=true then s ||| (2 ^ e.on ||| acc.getD e.on 0) else s) s).testBit i=true →
   s.testBit i=true∨∃ e,e∈l∧Region.binds .any e=true∧(i=e.on∨(acc.getD e.on 0).testBit i=true):=by
  intro l
  induction l with
  | nil=>intro s h; exact .inl h
  | cons e r ih=>
   intro s h
   rw [List.foldl_cons] at h
   rcases ih _ h with h1 | ⟨e',h1,h2⟩
   ·split at h1
    ·rename_i hb
     rw [or_bit,or_bit] at h1
     simp only [Bool.or_eq_true] at h1
     rcases h1 with h1 | h1 | h1
     ·exact .inl h1
     ·refine .inr ⟨e,by simp,hb,.inl ?_⟩
      rw [Nat.testBit_two_pow] at h1
      exact (of_decide_eq_true h1).symm
     ·exact .inr ⟨e,by simp,hb,.inr h1⟩
    ·exact .inl h1
   ·exact .inr ⟨e',by simp [h1],h2⟩
 rcases key _ _ h with h | ⟨e,h1,h2⟩
 ·simp at h
 ·exact ⟨e,by simpa using h1,h2⟩
theorem ancs_spec:∀ (ops:List Oper) (acc:List Nat),(ancs acc ops).length=acc.length + ops.length∧(∀ j,j < acc.length→(ancs acc ops)[j]? = acc[j]?) ∧
  ∀ j o,ops[j]? = some o→∃ acc',(∀ q,q < acc.length + j→acc'[q]? = (ancs acc ops)[q]?)∧acc'.length=acc.length + j∧(ancs acc ops)[acc.length + j]? = some (ancMask acc' o):=by
 intro ops
 induction ops with
 | nil=>intro acc; exact ⟨by simp [ancs],fun j _=>rfl,fun j o h=>(by simp at h)⟩
 | cons o r ih=>
  intro acc
  obtain ⟨h1,h2,h3⟩:=ih (acc++[ancMask acc o])
  simp only [ancs]
  refine ⟨by rw [h1]; simp; omega,fun j hj=>?_,fun j o' h=>?_⟩
  ·rw [h2 j (by simp; omega),List.getElem?_append_left hj]
  ·cases j with
   | zero=>
    have:o=o':=by simpa using h
    subst this
    refine ⟨acc,fun q hq=>?_,rfl,?_⟩
    ·rw [h2 q (by simp; omega),List.getElem?_append_left (by omega)]
    ·rw [Nat.add_zero,h2 _ (by simp)]; simp
   | succ j=>
    obtain ⟨acc',k1,k2,k3⟩:=h3 j o' (by simpa using h)
    simp only [List.length_append,List.length_cons,List.length_nil] at k1 k2 k3
    refine ⟨acc',fun q hq=>k1 q (by omega),by omega,?_⟩
    rw [← k3]; congr 1; omega
theorem anc_step {ops:List Oper} {j i:Nat} {o:Oper} (ho:ops[j]? = some o) (h:((ancs [] ops).getD j 0).testBit i=true) :
  ∃ e,e∈o.after∧Region.binds .any e=true∧(i=e.on∨(e.on < j∧((ancs [] ops).getD e.on 0).testBit i=true)):=by
 obtain ⟨acc',k1,k2,k3⟩:=(ancs_spec ops []).2.2 j o ho
 simp only [List.length_nil,Nat.zero_add] at k1 k2 k3
 rw [List.getD_eq_getElem?_getD,k3] at h
 obtain ⟨e,h1,h2,h3⟩:=ancMask_spec h
 refine ⟨e,h1,h2,h3.imp id fun h3=>?_⟩
 by_cases hlt:e.on < j
 ·refine ⟨hlt,?_⟩
  rw [List.getD_eq_getElem?_getD,← k1 _ hlt,← List.getD_eq_getElem?_getD]; exact h3
 ·rw [List.getD_eq_getElem?_getD,List.getElem?_eq_none (by omega)] at h3
  simp at h3
def Closed (ops:Array Oper) (listed:Array Bool):Prop:=∀ j o,ops[j]? = some o→listed.getD j false=true→∀ e∈o.after,Region.binds .any e=true→listed.getD e.on false=true
theorem anc_listed {ops:Array Oper} {listed:Array Bool} (hc:Closed ops listed):∀ (n j:Nat),j < n→∀ o i,ops[j]? = some o→(∀ e∈o.after,Region.binds .any e=true→listed.getD e.on false=true) →
  ((ancs [] ops.toList).getD j 0).testBit i=true→listed.getD i false=true:=by
 intro n
 induction n with
 | zero=>intro j h; omega
 | succ n ih=>
  intro j hj o i ho hd hb
  obtain ⟨e,h1,h2,h3⟩:=anc_step (by rw [Array.getElem?_toList]; exact ho) hb
  have h4:=hd e h1 h2
  rcases h3 with rfl | ⟨h3,h5⟩
  ·exact h4
  ·have hlt:e.on < ops.size:=by
    have:j < ops.size:=(Array.getElem?_eq_some_iff.1 ho).1
    omega
   exact ih e.on (by omega) ops[e.on] i (by simp [hlt]) (hc e.on _ (by simp [hlt]) h4) h5
theorem Closed.set {ops:Array Oper} {listed:Array Bool} {i:Nat} (hc:Closed ops listed) (hr:i∈Region.ready .any ops listed):Closed ops (listed.setIfInBounds i true):=by
 obtain ⟨_,oi,hoi,hall⟩:=mem_ready.1 hr
 intro j o hj hl e he hb
 by_cases hij:i=j
 ·subst hij
  have:o=oi:=Option.some.inj (hj.symm.trans hoi)
  subst this
  exact getD_set_true (hall e he hb)
 ·rw [getD_set_ne false hij] at hl
  exact getD_set_true (hc j o hj hl e he hb)
section
variable (T:Tab) (R:Run) (d:Nat) (ops:Array Oper) (l:List AOper) (F:Nat→Foot)
def AnyRun:Nat→Array Bool→St→St→Prop
 | 0,listed,s,sf=>Region.ready .any ops listed=[]∧s=sf
 | n + 1,listed,s,sf=>(Region.ready .any ops listed=[]→s=sf)∧∀ i∈Region.ready .any ops listed,∃ o s',l[i]? = some o∧footO T d o s=F i∧operF T R d o s=some s'∧AnyRun n (listed.setIfInBounds i true) s' sf
def LexRun:List AOper→St→List Foot→St→Prop
 | [],s,fs,sf=>fs=[]∧s=sf
 | o :: r,s,fs,sf=>∃ s' fs',operF T R d o s=some s'∧fs=footO T d o s :: fs'∧LexRun r s' fs' sf
end
section
variable {T:Tab} {R:Run} {d:Nat} {ops:Array Oper} {l:List AOper} {F:Nat→Foot}
theorem any_first {i:Nat} {x:AOper} (hx:l[i]? = some x):∀ (n:Nat) (listed:Array Bool) (s s1 sf:St),Closed ops listed →
  (∀ j y,l[j]? = some y→j≠i→listed.getD j true=false→((ancs [] ops.toList).getD j 0).testBit i=false→apartA x y=true∧Indep2 (F i) (F j)) →
  i∈Region.ready .any ops listed→footO T d x s=F i→operF T R d x s=some s1→AnyRun T R d ops l F n (listed.setIfInBounds i true) s1 sf→AnyRun T R d ops l F (n + 1) listed s sf:=by
 intro n
 induction n with
 | zero=>
  intro listed s s1 sf hc hfree hr hf hy H
  refine ⟨fun h=>(by rw [h] at hr; cases hr),fun j hj=>?_⟩
  by_cases hji:j=i
  ·subst hji; exact ⟨x,s1,hx,hf,hy,H⟩
  ·have:=ready_mono hj hji
   rw [H.1] at this
   cases this
 | succ n ih=>
  intro listed s s1 sf hc hfree hr hf hy H
  refine ⟨fun h=>(by rw [h] at hr; cases hr),fun j hj=>?_⟩
  by_cases hji:j=i
  ·subst hji; exact ⟨x,s1,hx,hf,hy,H⟩
  ·obtain ⟨y,s2,hy1,hy2,hy3,hy4⟩:=H.2 j (ready_mono hj hji)
   obtain ⟨hjun,oj,hoj,hall⟩:=mem_ready.1 hj
   have hiun:=(mem_ready.1 hr).1
   have hnb:((ancs [] ops.toList).getD j 0).testBit i=false:=by
    cases hb:((ancs [] ops.toList).getD j 0).testBit i with
    | false=>rfl
    | true=>
     have h1:=anc_listed hc (j + 1) j (by omega) oj i hoj hall hb
     rcases Nat.lt_or_ge i listed.size with h' | h'
     ·simp [h'] at hiun h1; rw [hiun] at h1; cases h1
     ·simp [Array.getElem?_eq_none h'] at h1
   obtain ⟨hap,hin⟩:=hfree j y hy1 hji hjun hnb
   obtain ⟨s3,g1,g2,g3,g4⟩:=swap hap hy hy3 (by rw [hf,hy2]; exact hin)
   refine ⟨y,s3,hy1,by rw [g3,hy2],g1,?_⟩
   refine ih (listed.setIfInBounds j true) s3 s2 sf (hc.set hj) ?_ (ready_mono hr (Ne.symm hji)) (by rw [g4,hf]) g2 ?_
   ·intro k z hz hki hun hb
    refine hfree k z hz hki ?_ hb
    by_cases hjk:j=k
    ·subst hjk; exact hjun
    ·rw [getD_set_ne true hjk] at hun; exact hun
   ·rw [Array.setIfInBounds_comm _ _ hji]
    exact hy4
theorem backB_spec:∀ (ops:List Oper) (k:Nat),backB k ops=true→∀ j o,ops[j]? = some o→∀ e∈o.after,Region.binds .any e=true→e.on < k + j:=by
 intro ops
 induction ops with
 | nil=>intro k _ j o h; simp at h
 | cons o r ih=>
  intro k h j o' hj e he hb
  simp only [backB,Bool.and_eq_true,List.all_eq_true,Bool.or_eq_true,Bool.not_eq_true',decide_eq_true_eq] at h
  cases j with
  | zero=>
   have:o=o':=by simpa using hj
   subst this
   rcases h.1 e (by simpa using he) with h1 | h1
   ·rw [h1] at hb; cases hb
   ·exact h1
  | succ j=>
   have:=ih (k + 1) h.2 j o' (by simpa using hj) e he hb
   omega
def Upto (ops:Array Oper) (k:Nat) (listed:Array Bool):Prop:=listed.size=ops.size∧∀ j,j < ops.size→listed[j]? = some (decide (j < k))
theorem Upto.closed {k:Nat} {listed:Array Bool} (h:Upto ops k listed) (hb:backB 0 ops.toList=true):Closed ops listed:=by
 intro j o ho hl e he hbi
 have hj:j < ops.size:=(Array.getElem?_eq_some_iff.1 ho).1
 have h1:=backB_spec _ 0 hb j o (by rw [Array.getElem?_toList]; exact ho) e he hbi
 have h2:e.on < ops.size:=by omega
 rw [Array.getD_eq_getD_getElem?,h.2 j hj] at hl
 rw [Array.getD_eq_getD_getElem?,h.2 _ h2]
 simp only [Option.getD_some,decide_eq_true_eq] at hl ⊢
 omega
theorem any_lex (hb:backB 0 ops.toList=true) (hlen:l.length=ops.size)
  (hp:∀ i j x y,i < j→l[i]? = some x→l[j]? = some y→((ancs [] ops.toList).getD j 0).testBit i=false→apartA x y=true∧Indep2 (F i) (F j)) :
  ∀ (r:List AOper) (k:Nat) (listed:Array Bool) (s sf:St) (fs:List Foot),(∀ j,r[j]? = l[k + j]?)→Upto ops k listed→LexRun T R d r s fs sf→(∀ j f,fs[j]? = some f→F (k + j)=f) →
   k + r.length=ops.size→AnyRun T R d ops l F r.length listed s sf:=by
 intro r
 induction r with
 | nil=>
  intro k listed s sf fs hr hu hL hF hk
  refine ⟨?_,hL.2⟩
  cases hrd:Region.ready .any ops listed with
  | nil=>rfl
  | cons i q=>
   exfalso
   have hi:i∈Region.ready .any ops listed:=by rw [hrd]; simp
   obtain ⟨h1,o,ho,_⟩:=mem_ready.1 hi
   have hlt:i < ops.size:=(Array.getElem?_eq_some_iff.1 ho).1
   rw [Array.getD_eq_getD_getElem?,hu.2 i hlt] at h1
   simp at h1 hk
   omega
 | cons o r ih=>
  intro k listed s sf fs hr hu hL hF hk
  obtain ⟨s',fs',h1,rfl,h3⟩:=hL
  have hkl:k < ops.size:=by simp at hk; omega
  have hlk:l[k]? = some o:=by simpa using (hr 0).symm
  have hrd:k∈Region.ready .any ops listed:=by
   refine mem_ready.2 ⟨?_,ops[k],by simp [hkl],fun e he hbi=>?_⟩
   ·rw [Array.getD_eq_getD_getElem?,hu.2 k hkl]; simp
   ·have h4:=backB_spec _ 0 hb k ops[k] (by rw [Array.getElem?_toList]; simp [hkl]) e he hbi
    rw [Array.getD_eq_getD_getElem?,hu.2 _ (by omega)]
    simp only [Option.getD_some,decide_eq_true_eq]; omega
  refine any_first hlk r.length listed s s' sf (hu.closed hb) ?_ hrd (hF 0 _ rfl).symm h1 ?_
  ·intro j y hy hjk hun hnb
   have hjl:j < ops.size:=by
    have:=(List.getElem?_eq_some_iff.1 hy).1
    omega
   rw [Array.getD_eq_getD_getElem?,hu.2 j hjl] at hun
   simp only [Option.getD_some,decide_eq_false_iff_not] at hun
   exact hp k j o y (by omega) hlk hy hnb
  ·refine ih (k + 1) _ s' sf fs' (fun j=>?_) ⟨by simp [hu.1],fun j hj=>?_⟩ h3 (fun j f hf=>?_) (by simp at hk; omega)
   ·have:=hr (j + 1)
    rw [List.getElem?_cons_succ] at this
    rw [this]; congr 1; omega
   ·by_cases hjk:k=j
    ·subst hjk
     rw [Array.getElem?_setIfInBounds_self_of_lt (by rw [hu.1]; exact hj)]
     simp
    ·rw [Array.getElem?_setIfInBounds_ne hjk,hu.2 j hj]
     congr 1
     exact decide_eq_decide.2 (by omega)
   ·have:=hF (j + 1) f (by simpa using hf)
    rw [← this]; congr 1; omega
theorem kind0_foot {o:AOper} {s:St} (h:kindA o.op=0):footO T d o s=F0:=by
 unfold footO
 split
 ·cases ho:o.op <;> rw [ho] at h <;> first | rfl | (exfalso; simp [kindA] at h)
 ·rfl
theorem kind1_foot {o:AOper} {s:St} (h:kindA o.op=1):∃ r,footO T d o s=⟨r,[],[],false,false,false,none⟩:=by
 unfold footO
 split
 ·cases ho:o.op <;> rw [ho] at h <;> first | exact ⟨_,rfl⟩ | (exfalso; simp [kindA] at h)
 ·exact ⟨[],rfl⟩
theorem kind_le (k:AOp):kindA k=0∨kindA k=1∨kindA k=2:=by
 cases k <;> simp [kindA]
theorem not_meet {x y:AOper} {s s':St} (h:mayMeet x y=false):Indep2 (footO T d x s) (footO T d y s'):=by
 rcases kind_le x.op with hx | hx | hx
 ·exact .inl (kind0_foot hx)
 ·rcases kind_le y.op with hy | hy | hy
  ·exact .inr (.inl (kind0_foot hy))
  ·obtain ⟨r,h1⟩:=kind1_foot (T:=T) (d:=d) (s:=s) hx
   obtain ⟨q,h2⟩:=kind1_foot (T:=T) (d:=d) (s:=s') hy
   rw [h1,h2]
   exact .inr (.inr ⟨rfl,rfl,fun e=>(by cases e),fun e=>(by cases e),fun _ h=>(by cases h),fun _ h=>(by cases h),fun _ h=>(by cases h),fun _ h=>(by cases h),fun _ h=>(by cases h),fun _ h=>(by cases h),fun e=>(by cases e),fun _ _=>rfl,fun _ _=>rfl,.inl rfl,fun e=>(by cases e),fun e=>(by cases e)⟩)
  ·unfold mayMeet at h; rw [hx,hy] at h; simp at h
 ·rcases kind_le y.op with hy | hy | hy
  ·exact .inr (.inl (kind0_foot hy))
  ·unfold mayMeet at h; rw [hx,hy] at h; simp at h
  ·unfold mayMeet at h; rw [hx,hy] at h; simp at h
theorem LexRun.feet:∀ {r:List AOper} {s sf:St} {fs:List Foot},LexRun T R d r s fs sf→fs.length=r.length∧∀ (j:Nat) (o:AOper),r[j]? = some o→∃ s',fs[j]? = some (footO T d o s'):=by
 intro r
 induction r with
 | nil=>intro s sf fs h; exact ⟨by rw [h.1]; rfl,fun j o hj=>(by simp at hj)⟩
 | cons o r ih=>
  intro s sf fs h
  obtain ⟨s',fs',h1,rfl,h3⟩:=h
  obtain ⟨k1,k2⟩:=ih h3
  refine ⟨by simp [k1],fun j o' hj=>?_⟩
  cases j with
  | zero=>simp at hj; subst hj; exact ⟨s,rfl⟩
  | succ j=>exact k2 j o' (by simpa using hj)
theorem mem_prs {m:List Nat} {i j:Nat} {x y:AOper} (hij:i < j) (hx:l[i]? = some x) (hy:l[j]? = some y) (hb:(m.getD j 0).testBit i=false) (hm:mayMeet x y=true):(i,j)∈prsOf m l:=by
 unfold prsOf
 rw [List.mem_flatMap]
 refine ⟨j,List.mem_range.2 (List.getElem?_eq_some_iff.1 hy).1,?_⟩
 rw [List.mem_filterMap]
 refine ⟨i,List.mem_range.2 hij,?_⟩
 rw [hb,hx,hy]
 simp [hm]
theorem any_region {s sf:St} {fs:List Foot} (hb:backB 0 ops.toList=true) (hlen:l.length=ops.size) (hap:apartB (ancs [] ops.toList) l=true) (hL:LexRun T R d l s fs sf) (hp:okPrs fs (prsOf (ancs [] ops.toList) l)=true) :
  ∃ F,AnyRun T R d ops l F ops.size (Array.replicate ops.size false) s sf:=by
 obtain ⟨h1,h2⟩:=hL.feet
 refine ⟨fun j=>fs.getD j F0,?_⟩
 rw [← hlen]
 refine any_lex hb hlen ?_ l 0 (Array.replicate l.length false) s sf fs (fun j=>by rw [Nat.zero_add]) ⟨by simp [hlen],fun j hj=>by rw [hlen]; simp [hj]⟩ hL (fun j f hf=>by rw [Nat.zero_add,List.getD_eq_getElem?_getD,hf]; rfl) (by rw [Nat.zero_add,hlen])
 intro i j x y hij hx hy hnb
 constructor
 ·unfold apartB at hap
  rw [List.all_eq_true] at hap
  have h3:=hap j (List.mem_range.2 (List.getElem?_eq_some_iff.1 hy).1)
  rw [List.all_eq_true] at h3
  have h4:=h3 i (List.mem_range.2 hij)
  rw [hnb,hx,hy] at h4
  simpa using h4
 ·obtain ⟨sx,ex⟩:=h2 i x hx
  obtain ⟨sy,ey⟩:=h2 j y hy
  simp only [List.getD_eq_getElem?_getD,ex,ey,Option.getD_some]
  cases hm:mayMeet x y with
  | false=>exact not_meet hm
  | true=>
   have h3:=mem_prs hij hx hy hnb hm
   unfold okPrs at hp
   rw [List.all_eq_true] at hp
   have h4:=hp _ h3
   simp only [ex,ey] at h4
   exact .inr (.inr (indep_spec h4))
end
end Go.Am
/- A region of Go's code against one of the small machine. -/
namespace Go.Am
variable {P:Program}
section
variable {ops:Array Oper} {nt:Nat} {T:Tab} {R:Run} {d:Nat}
theorem wanted_rel {o:Oper} {g:Option (Nat×Bool)} {b:Bool} {X:Ctx} {E:AEnv} {tmps:Array Value} (hg:guardOf ops o.guard=some g) (he:EnvRel X E tmps) (hw:wantedA E g=some b) :
  Region.wanted o (yielded ops tmps)=b:=by
 unfold guardOf at hg
 unfold Region.wanted
 split at hg
 ·rename_i e
  obtain rfl:=Option.some.inj hg
  rw [e]
  simp only [wantedA] at hw
  exact Option.some.inj hw
 ·rename_i j want e
  rw [e]
  simp only
  split at hg
  ·rename_i oj hoj
   split at hg
   ·rename_i t ht
    obtain rfl:=Option.some.inj hg
    simp only [wantedA] at hw
    have h1:=he t
    have hy:yielded ops tmps j=(match tmps[t]? with | some (.bool b)=>some b | _=>none):=by
     unfold yielded; rw [hoj]; simp only [Option.bind_some,ht]; rfl
    rw [hy]
    split at hw
    ·rename_i x hx
     obtain rfl:=Option.some.inj hw
     rw [hx] at h1
     have h2:tmps.getD t undef = .bool x:=h1.1
     rw [Array.getD_eq_getD_getElem?] at h2
     cases ht2:tmps[t]? with
     | none=>rw [ht2] at h2; cases h2
     | some v=>
      rw [ht2] at h2
      simp only [Option.getD_some] at h2
      subst h2
      cases x <;> cases want <;> rfl
    ·rename_i hx
     obtain rfl:=Option.some.inj hw
     rw [hx] at h1
     obtain ⟨vs,h2,h3⟩:=h1
     have h4:vs=[]:=by cases vs with | nil=>rfl | cons=>exact h3.elim
     subst h4
     rw [Array.getD_eq_getD_getElem?] at h2
     cases ht2:tmps[t]? with
     | none=>rfl
     | some v=>
      rw [ht2] at h2
      simp only [Option.getD_some] at h2
      subst h2
      rfl
    ·cases hw
   ·cases hg
  ·cases hg
theorem operOf_spec {o:Oper} {ao:AOper} (h:operOf P ops o=some ao):guardOf ops o.guard=some ao.guard∧opOf P o=some ao.op∧ao.dst=o.dst:=by
 unfold operOf at h
 split at h
 ·rename_i g k hg hk
  obtain rfl:=Option.some.inj h
  exact ⟨hg,hk,rfl⟩
 ·cases h
theorem put_undef {o:Option Nat} {w:World} {φ:Id→Option Addr} {s:St} {a:Act} (hs:SR nt w φ s a) (hd:∀ d,o=some d→d < nt):SR nt w φ ⟨updO s.E o (.tup []),s.H,s.nx⟩ (a.put o undef):=
 ⟨hs.sim,hs.env.put (fun _=>⟨[],rfl,trivial⟩) (fun d h=>by rw [hs.size]; exact hd d h),by rw [put_size]; exact hs.size⟩
theorem sound_wpOp {i:Nat} {o:Oper} {ao:AOper} {s s':St} {w:World} {φ:Id→Option Addr} {a:Act} (hi:ops[i]? = some o) (hop:operOf P ops o=some ao) (hs:SR nt w φ s a) (hd:∀ d,ao.dst=some d→d < nt)
  (he:operF T R d ao s=some s') (hok:CallOK P T R) {K:Act→World→Prop} {Q:Exit→Act→World→Prop}
  (hK:∀ a' w' φ',SR nt w' φ' s' a'→Ext w φ s.H w' φ' s'.H→a'.defers=a.defers→K a' w'):wpOp P ops Q i K a w:=by
 obtain ⟨h1,h2,h3⟩:=operOf_spec hop
 rw [h3] at hd
 unfold wpOp
 simp only [hi]
 unfold operF at he
 split at he
 ·rename_i hw
  rw [wanted_rel h1 hs.env hw,if_pos rfl]
  split at he
  ·rename_i v H' nx' hv
   obtain rfl:=Option.some.inj he
   rw [h3] at hv hK
   exact .inl (sound_op h2 hs hd hv hok K Q hK)
  ·cases he
 ·rename_i hw
  rw [wanted_rel h1 hs.env hw,if_neg (by simp)]
  obtain rfl:=Option.some.inj he
  rw [h3] at hK
  exact hK _ _ φ (put_undef hs hd) (Ext.refl _ _ _) (put_defers' _ _ _)
 ·cases he
theorem seq_sound {l:List AOper} (hl:mapMO (operOf P ops) ops.toList=some l) (hd:∀ o∈l,∀ d,o.dst=some d→d < nt) (hok:CallOK P T R) {Q:Exit→Act→World→Prop}:∀ (r:List AOper) (k:Nat) (s sf:St) (fs:List Foot) (w:World) (φ:Id→Option Addr) (a:Act),
  (∀ j:Nat,r[j]? = l[k + j]?)→LexRun T R d r s fs sf→SR nt w φ s a→(∀ a' w' φ',SR nt w' φ' sf a'→Ext w φ s.H w' φ' sf.H→a'.defers=a.defers→Q .normal a' w') →
  wpOps P ops Q (List.range' k r.length) a w:=by
 obtain ⟨hlen,hget⟩:=mapMO_get hl
 intro r
 induction r with
 | nil=>
  intro k s sf fs w φ a _ hL hs hQ
  obtain rfl:=hL.2
  exact hQ a w φ hs (Ext.refl _ _ _) rfl
 | cons ao r ih=>
  intro k s sf fs w φ a hr hL hs hQ
  obtain ⟨s',fs',h1,_,h3⟩:=hL
  have hlk:l[k]? = some ao:=by simpa using (hr 0).symm
  have hk:k < ops.size:=by
   have:=(List.getElem?_eq_some_iff.1 hlk).1
   rw [hlen] at this; simpa using this
  have hok':ops[k]? = some ops[k]:=by simp [hk]
  obtain ⟨ao',g1,g2⟩:=hget k ops[k] (by rw [Array.getElem?_toList]; exact hok')
  rw [hlk] at g2
  obtain rfl:=Option.some.inj g2
  rw [List.length_cons,List.range'_succ,wpOps_cons]
  refine sound_wpOp hok' g1 hs (hd ao (List.mem_of_getElem? hlk)) h1 hok ?_
  intro a' w' φ' hs' hext hdef
  refine ih (k + 1) s' sf fs' w' φ' a' (fun j=>?_) h3 hs' ?_
  ·have:=hr (j + 1)
   rw [List.getElem?_cons_succ] at this
   rw [this]; congr 1; omega
  ·intro a'' w'' φ'' hs'' hext' hdef'
   exact hQ a'' w'' φ'' hs'' (hext.trans hext') (hdef'.trans hdef)
theorem any_sound {l:List AOper} (hl:mapMO (operOf P ops) ops.toList=some l) (hd:∀ o∈l,∀ d,o.dst=some d→d < nt) (hok:CallOK P T R) {F:Nat→Foot} {Q:Exit→Act→World→Prop}:∀ (n:Nat) (listed:Array Bool) (s sf:St) (w:World) (φ:Id→Option Addr) (a:Act),
  AnyRun T R d ops l F n listed s sf→SR nt w φ s a→(∀ a' w' φ',SR nt w' φ' sf a'→Ext w φ s.H w' φ' sf.H→a'.defers=a.defers→Q .normal a' w') →
  wpAny P .any ops Q n listed a w:=by
 obtain ⟨hlen,hget⟩:=mapMO_get hl
 intro n
 induction n with
 | zero=>
  intro listed s sf w φ a hA hs hQ
  obtain ⟨h1,rfl⟩:=hA
  exact ⟨h1,hQ a w φ hs (Ext.refl _ _ _) rfl⟩
 | succ n ih=>
  intro listed s sf w φ a hA hs hQ
  refine ⟨fun h0=>?_,fun i hi=>?_⟩
  ·obtain rfl:=hA.1 h0
   exact hQ a w φ hs (Ext.refl _ _ _) rfl
  ·obtain ⟨ao,s',h1,_,h3,h4⟩:=hA.2 i hi
   obtain ⟨_,o,ho,_⟩:=mem_ready.1 hi
   obtain ⟨ao',g1,g2⟩:=hget i o (by rw [Array.getElem?_toList]; exact ho)
   rw [h1] at g2
   obtain rfl:=Option.some.inj g2
   refine sound_wpOp ho g1 hs (hd ao (List.mem_of_getElem? h1)) h3 hok ?_
   intro a' w' φ' hs' hext hdef
   refine ih _ s' sf w' φ' a' h4 hs' ?_
   intro a'' w'' φ'' hs'' hext' hdef'
   exact hQ a'' w'' φ'' hs'' (hext.trans hext') (hdef'.trans hdef)
theorem sr_drawn {s:St} {w:World} {φ:Id→Option Addr} {a:Act} {n:Nat} (hs:SR nt w φ s a):SR nt { w with drawn:=n } φ s a:=
 ⟨⟨hs.sim.pl,fun p c hp=>(let ⟨b,h1,h2⟩:=hs.sim.obj p c hp; ⟨b,h1,h2.spot,h2.lt,h2.pos,h2.el,h2.fr⟩),hs.sim.sep,hs.sim.re,hs.sim.sx⟩,hs.env,hs.size⟩
theorem ext_drawn {w w':World} {φ φ':Id→Option Addr} {H H':Heap} {n:Nat} (h:Ext { w with drawn:=n } φ H w' φ' H'):Ext w φ H w' φ' H':=
 ⟨h.os,h.tape,h.output,h.size,h.fr,h.mu,h.bs,h.ob,h.ex,h.exh⟩
def RegOf (P:Program) (ops:Array Oper) (draw:Bool) (c:AC):Prop:=∃ l,mapMO (operOf P ops) ops.toList=some l ∧
 ((draw=false∧c = .ops l)∨(draw=true∧drawOf ops.toList l=some c))
def RegRun (T:Tab) (R:Run) (d:Nat) (c:AC) (s sf:St):Prop:=
 (∃ l fs,c = .ops l∧LexRun T R d l s fs sf)∨(∃ l fs prs,c = .opsU [] l prs∧LexRun T R d l s fs sf∧okPrs fs prs=true)
theorem region_sound {id:Nat} {draw:Bool} {c:AC} {s sf:St} {w:World} {φ:Id→Option Addr} {a:Act} (hm:P.follows .mixedOrders=true) (hc:RegOf P ops draw c) (hd:okD nt c=true) (hr:RegRun T R d c s sf) (hok:CallOK P T R) (hs:SR nt w φ s a)
  {Q:Exit→Act→World→Prop} (hQ:∀ a' w' φ',SR nt w' φ' sf a'→Ext w φ s.H w' φ' sf.H→a'.defers=a.defers→Q .normal a' w'):(Code.region id ops draw).wp P Q a w:=by
 obtain ⟨l,hl,hc⟩:=hc
 obtain ⟨hlen,_⟩:=mapMO_get hl
 have hlen':l.length=ops.size:=by simpa using hlen
 have hdst:∀ l':List AOper,okD nt (.ops l')=true→∀ o∈l',∀ d,o.dst=some d→d < nt:=by
  intro l' h o ho d hd
  simp only [okD] at h
  rw [List.all_eq_true] at h
  have:=h o ho
  rw [hd] at this
  simpa using this
 rcases hc with ⟨rfl,rfl⟩ | ⟨rfl,hc⟩
 ·rcases hr with ⟨l',fs,e,hL⟩ | ⟨l',fs,prs,e,_⟩
  ·cases e
   refine wp_region ?_
   rw [List.range_eq_range',← hlen']
   exact seq_sound hl (hdst l hd) hok l 0 s sf fs w φ a (fun j=>by rw [Nat.zero_add]) hL hs hQ
  ·cases e
 ·unfold drawOf at hc
  split at hc
  ·rename_i hb
   have hc:=Option.some.inj hc
   have key:∃ fs,LexRun T R d l s fs sf∧okPrs fs (prsOf (ancs [] ops.toList) l)=true∧okD nt (.ops l)=true:=by
    cases hp:prsOf (ancs [] ops.toList) l with
    | nil=>
     rw [hp] at hc
     simp only at hc
     subst hc
     rcases hr with ⟨l',fs,e,hL⟩ | ⟨l',fs,prs,e,_⟩
     ·cases e; exact ⟨fs,hL,rfl,hd⟩
     ·cases e
    | cons p q=>
     rw [hp] at hc
     simp only at hc
     subst hc
     rcases hr with ⟨l',fs,e,hL⟩ | ⟨l',fs,prs,e,hL,h⟩
     ·cases e
     ·cases e; exact ⟨fs,hL,h,by simp only [okD] at hd ⊢; exact hd⟩
   obtain ⟨fs,hL,hp,hdd⟩:=key
   obtain ⟨F,hA⟩:=any_region hb.1 hlen' hb.2 hL hp
   refine wp_region_any hm ?_
   refine any_sound hl (hdst l hdd) hok ops.size _ s sf _ φ a hA (sr_drawn hs) ?_
   intro a' w' φ' h1 h2 h3
   exact hQ a' w' φ' h1 (ext_drawn h2) h3
  ·cases hc
end
end Go.Am
/- The small machine against Go's: whole bodies. -/
namespace Go.Am
variable {P:Program}
theorem load_addr {X:Ctx} {H:Heap} {ag:Bool} {n:Nat} {x v:AV} {p:Value} (hp:VRel X x p) (hv:loadV H ag n x=some v):∃ ad,p = .pointer (some ad):=by
 cases x with
 | tptr y off=>obtain ⟨u,b,rfl,_⟩:=hp; exact ⟨_,rfl⟩
 | ptr q g m i off=>obtain ⟨ad,rfl,_⟩:=hp; exact ⟨_,rfl⟩
 | _=>simp [loadV] at hv
section
variable {nt:Nat} {w:World} {φ:Id→Option Addr} {s:St} {a:Act}
def resF (tmps:Array Value):ResultVar→Sem Value
 | .tmp t=>pure (tmps.getD t undef)
 | .cell ad t=>do loadVar t (← asAddr (tmps.getD ad undef))
theorem asAddr_some (ad:Addr):asAddr (.pointer (some ad))=pure ad:=rfl
theorem results_eq (fn:Func) (tmps:Array Value):results fn tmps=(do let vs ← fn.results.toList.mapM (resF tmps); pure (if h:vs.toArray.size=1 then vs.toArray[0] else .tuple vs.toArray)):=by
 have key:∀ f:ResultVar→Sem Value,(∀ r,f r=resF tmps r)→((do let vs ← fn.results.mapM f; pure (if h:vs.size=1 then vs[0] else .tuple vs)):Sem Value) =
   (do let vs ← fn.results.toList.mapM (resF tmps); pure (if h:vs.toArray.size=1 then vs.toArray[0] else .tuple vs.toArray)):=by
  intro f hf
  rw [Array.mapM_eq_mapM_toList,show f=resF tmps from funext hf,bind_map_left]
 refine key _ fun r=>?_
 cases r <;> rfl
theorem results_list {w:World} {φ:Id→Option Addr} {s:St} {a:Act} (hs:SR nt w φ s a):∀ (l:List ResultVar) (r:List ARes) (rs:List AV),resOf P l=some r→resV s.E s.H r=some rs →
  ∃ vs:List Value,(l.mapM (resF a.tmps)).run P w = .ok vs w∧VTup (ctx w φ s.H) rs vs:=by
 intro l
 induction l with
 | nil=>
  intro r rs h1 h2
  simp only [resOf] at h1
  obtain rfl:=Option.some.inj h1
  simp only [resV] at h2
  obtain rfl:=Option.some.inj h2
  exact ⟨[],by simp,trivial⟩
 | cons x l ih=>
  intro r rs h1 h2
  cases x with
  | tmp t=>
   simp only [resOf] at h1
   split at h1
   ·rename_i r' hr'
    obtain rfl:=Option.some.inj h1
    simp only [resV] at h2
    split at h2
    ·rename_i rs' hrs'
     obtain rfl:=Option.some.inj h2
     obtain ⟨vs,e1,e2⟩:=ih r' rs' hr' hrs'
     refine ⟨a.tmps.getD t undef :: vs,?_,hs.env t,e2⟩
     simp only [List.mapM_cons,resF,Sem.run_bind,Sem.run_pure,Result.andThen_ok,e1]
    ·cases h2
   ·cases h1
  | cell t ty=>
   simp only [resOf] at h1
   split at h1
   ·rename_i ag n r' hag hn hr'
    obtain rfl:=Option.some.inj h1
    simp only [resV] at h2
    split at h2
    ·rename_i v rs' hv hrs'
     obtain rfl:=Option.some.inj h2
     obtain ⟨vs,e1,e2⟩:=ih r' rs' hr' hrs'
     have ht:=hs.env t
     obtain ⟨ad,ead⟩:=load_addr ht hv
     obtain ⟨u,hu,hrel⟩:=load_rel hag hn hs.sim ht hv
     rw [ead] at hu
     simp only [Instr.loadAt,Instr.sureAddr,Sem.run_bind,Sem.run_pure,Result.andThen_ok] at hu
     refine ⟨u :: vs,?_,hrel,e2⟩
     simp only [List.mapM_cons,resF,Sem.run_bind,Sem.run_pure,Result.andThen_ok,ead,asAddr_some,hu,e1]
    ·cases h2
   ·cases h1
theorem results_rel {fn:Func} {r:List ARes} {rs:List AV} (hs:SR nt w φ s a) (h:resOf P fn.results.toList=some r) (hr:resV s.E s.H r=some rs) :
  ∃ v,(results fn a.tmps).run P w = .ok v w∧VRel (ctx w φ s.H) (tupOf rs) v:=by
 obtain ⟨vs,e1,e2⟩:=results_list (P:=P) hs _ _ _ h hr
 have hrun:(results fn a.tmps).run P w = .ok (if h:vs.toArray.size=1 then vs.toArray[0] else .tuple vs.toArray) w:=by
  rw [results_eq]
  simp only [Sem.run_bind,Sem.run_pure,Result.andThen_ok,e1]
 refine ⟨_,hrun,?_⟩
 have hl:=e2.length
 unfold tupOf
 split
 ·rename_i x
  cases vs with
  | nil=>simp at hl
  | cons v q=>
   cases q with
   | nil=>simpa using e2.1
   | cons=>simp at hl
 ·rename_i hne
  rw [dif_neg]
  ·exact ⟨vs,rfl,e2⟩
  ·intro h1
   simp at h1
   rw [h1] at hl
   cases rs with
   | nil=>simp at hl
   | cons x q=>cases q with
    | nil=>exact hne x rfl
    | cons=>simp at hl
end
end Go.Am
/- What is live,read as data; objects that are locked; a world that has grown. -/
namespace Go.Am
variable {P:Program}
structure Lk (H H2:Heap):Prop where
 no:∀ id,H id=none→H2 id=none
 so:∀ id b,H id=some b→∃ b2,H2 id=some b2∧b2.gen=b.gen∧b2.sz=b.sz∧b2.es=b.es∧(b2.w=true→b.w=true)
theorem Lk.refl (H:Heap):Lk H H:=⟨fun _ h=>h,fun _ b h=>⟨b,h,rfl,rfl,rfl,fun h=>h⟩⟩
theorem Lk.back {H H2:Heap} (h:Lk H H2) {id:Id} {b2:Obj} (e:H2 id=some b2):∃ b,H id=some b∧b2.gen=b.gen∧b2.sz=b.sz∧b2.es=b.es∧(b2.w=true→b.w=true):=by
 cases hh:H id with
 | none=>rw [h.no id hh] at e; cases e
 | some b=>
  obtain ⟨b',h1,h2⟩:=h.so id b hh
  rw [e] at h1
  obtain rfl:=Option.some.inj h1
  exact ⟨b,rfl,h2⟩
theorem lk_lockL (H:Heap) (l:List Id):Lk H (lockL H l):=by
 constructor
 ·intro id h
  rw [lockL_at,h]; simp
 ·intro id b h
  rw [lockL_at,h]
  split
  ·exact ⟨_,rfl,rfl,rfl,rfl,fun h=>(by cases h)⟩
  ·exact ⟨b,rfl,rfl,rfl,rfl,fun h=>h⟩
theorem lk_lockAll (H:Heap):Lk H (lockAll H):=by
 constructor
 ·intro id h; simp only [lockAll,h]
 ·intro id b h; exact ⟨{ b with w:=false },by simp only [lockAll,h],rfl,rfl,rfl,fun h=>(by cases h)⟩
section
variable {w w':World} {φ:Id→Option Addr} {H H2:Heap}
theorem Lk.mut (h:Lk H H2) {b:Nat} (hm:Mut φ H2 b):Mut φ H b:=by
 rcases hm with ⟨o,ob,a,h1,h2,h3,h4⟩ | hr
 ·obtain ⟨b,g1,_,_,_,g2⟩:=h.back h1
  exact .inl ⟨o,b,a,g1,g2 h2,h3,h4⟩
 ·exact .inr hr
theorem Lk.ext (h:Lk H H2):Ext w φ H w φ H2:=
 ⟨rfl,rfl,rfl,Nat.le_refl _,fun _ _ _=>rfl,fun _ _ hm=>h.mut hm,fun _ _=>Nat.le_refl _,
  fun o x hx=>(let ⟨b2,g1,g2,g3,g4,_⟩:=h.so o x hx; ⟨b2,g1,.inr ⟨g2,by rw [g4],g3,rfl⟩⟩),fun _=>rfl,fun _ _ _=>rfl⟩
theorem Lk.sim (h:Lk H H2) (hs:Sim w φ H):Sim w φ H2:=by
 have hctx:LeCtx (ctx w φ H) (ctx w φ H2):=h.ext.leCtx hs.pl
 refine ⟨hs.pl,?_,?_,?_,?_⟩
 ·intro o ob ho
  obtain ⟨b,g1,g2,g3,g4,g5⟩:=h.back ho
  obtain ⟨ad,e1,e2⟩:=hs.obj o b g1
  refine ⟨ad,e1,e2.spot,e2.lt,by rw [g3]; exact e2.pos,?_,fun hw=>e2.fr (g5 hw)⟩
  intro i x hx
  rw [g4] at hx
  rw [g3]
  obtain ⟨k0,v,k1,k2,k3⟩:=e2.el i x hx
  exact ⟨k0,v,VRel.mono hctx _ _ k1,k2,k3⟩
 ·intro o ob p oc b c ho hw hp hne hb hc
  obtain ⟨ob',g1,_,_,_,g5⟩:=h.back ho
  obtain ⟨oc',k1,_⟩:=h.back hp
  exact hs.sep o ob' p oc' b c g1 (g5 hw) k1 hne hb hc
 ·intro o ob ho
  obtain ⟨ob',g1,_⟩:=h.back ho
  exact hs.re o ob' g1
 ·intro o ob b k c ho hb hc
  obtain ⟨ob',g1,_⟩:=h.back ho
  exact hs.sx o ob' b k c g1 hb hc
structure Grown (w w':World):Prop where
 os:w'.os=w.os
 tape:w'.tape=w.tape
 output:w'.output=w.output
 size:w.heap.size≤w'.heap.size
 fr:∀ b,b < w.heap.size→w'.heap[b]? = w.heap[b]?
theorem Grown.ext (h:Grown w w') (hs:Sim w φ H):Ext w φ H w' φ H:=
 ⟨h.os,h.tape,h.output,h.size,fun b hb _=>h.fr b hb,fun _ _ hm=>hm,fun b hb=>Nat.le_of_eq (by unfold bsize; rw [h.fr b hb]),fun _ x hx=>⟨x,hx,.inr ⟨rfl,rfl,rfl,rfl⟩⟩,fun _=>rfl,fun k a ha=>h.fr _ (hs.pl _ a ha)⟩
theorem Grown.sim (h:Grown w w') (hs:Sim w φ H):Sim w' φ H:=by
 have hctx:=(h.ext hs).leCtx hs.pl
 refine ⟨fun o a ha=>Nat.lt_of_lt_of_le (hs.pl o a ha) h.size,?_,hs.sep,hs.re,hs.sx⟩
 intro o ob ho
 obtain ⟨ad,e1,e2⟩:=hs.obj o ob ho
 refine ⟨ad,e1,e2.spot,Nat.lt_of_lt_of_le e2.lt h.size,e2.pos,?_,?_⟩
 ·intro i x hx
  obtain ⟨k0,v,k1,k2,k3⟩:=e2.el i x hx
  refine ⟨k0,v,VRel.mono hctx _ _ k1,k2,fun j u hj=>⟨(k3 j u hj).1,?_⟩⟩
  rw [cell_same (h.fr _ (by rw [add_block]; exact e2.lt))]
  exact (k3 j u hj).2
 ·intro hw
  obtain ⟨c,e,lo,hi,g1,g2⟩:=e2.fr hw
  exact ⟨c,e,lo,hi,by rw [h.fr _ e2.lt]; exact g1,g2⟩
theorem locked_imm (hs:Sim w φ H) {o:Id} {ob:Obj} {b:Addr} (ho:H o=some ob) (hw:ob.w=false) (hb:φ o=some b):¬ Mut φ H b.block:=by
 rintro (⟨p,x,a,h1,h2,h3,h4⟩ | ⟨k,a,h1,h2⟩)
 ·by_cases hpo:p=o
  ·subst hpo
   rw [ho] at h1
   obtain rfl:=Option.some.inj h1
   rw [hw] at h2; cases h2
  ·exact hs.sep p x o ob a b h1 h2 ho hpo h3 hb h4
 ·exact hs.sx o ob b k a ho hb h1 h2.symm
def NoW (H:Heap) (l:List Id):Prop:=∀ id,id∈l→∀ ob,H id=some ob→ob.w=false
mutual
theorem frz_rel (hs:Sim w φ H):∀ (n:Nat) (v:AV) (t:TV) (x:Value),NoW H (idsOf H n v)→VRel (ctx w φ H) v x→frz H n v=some t→TRel (imm w φ H) t x
 | _,.c t',t,x,_,hr,hf=>by
  simp only [frz] at hf
  obtain rfl:=Option.some.inj hf
  exact hr
 | 0,.agg _,t,x,_,_,hf=>by simp [frz] at hf
 | 0,.tup _,t,x,_,_,hf=>by simp [frz] at hf
 | 0,.nils,t,x,_,_,hf=>by simp [frz] at hf
 | 0,.tptr _ _,t,x,_,_,hf=>by simp [frz] at hf
 | 0,.ref _ _ _ _ _,t,x,_,_,hf=>by simp [frz] at hf
 | 0,.ptr _ _ _ _ _,t,x,_,_,hf=>by simp [frz] at hf
 | 0,.fn _ _,t,x,_,_,hf=>by simp [frz] at hf
 | 0,.undef,t,x,_,_,hf=>by simp [frz] at hf
 | n + 1,.agg cs,t,x,hn,hr,hf=>by
  simp only [frz] at hf
  simp only [idsOf] at hn
  split at hf
  ·rename_i l hl
   obtain rfl:=Option.some.inj hf
   obtain ⟨vs,e,hvs⟩:=hr
   exact ⟨vs,e,frzs_rel hs n cs l vs hn hvs hl⟩
  ·cases hf
 | _ + 1,.nils,t,x,_,hr,hf=>by
  simp only [frz] at hf
  obtain rfl:=Option.some.inj hf
  have hx:x = .slice none 0 0:=hr
  exact ⟨none,0,0,hx,rfl,Nat.le_refl _,.inl rfl⟩
 | n + 1,.ref o g m off len,t,x,hn,hr,hf=>by
  simp only [frz] at hf
  simp only [idsOf] at hn
  split at hf
  ·rename_i es hes
   split at hf
   ·rename_i l hl
    obtain rfl:=Option.some.inj hf
    rw [hes] at hn
    have hes':=hes
    unfold elemsOf at hes'
    split at hes'
    ·rename_i ob hob
     split at hes'
     ·rename_i hc
      obtain rfl:=Option.some.inj hes'
      obtain ⟨a,cap,e,hlc,ob',hob',hq⟩:=hr
      have hob'':H o=some ob':=hob'
      rw [hob] at hob''
      obtain rfl:=Option.some.inj hob''
      obtain ⟨b,hb,hrel⟩:=hs.obj o ob hob
      have hw:=hn o (by simp) ob hob
      have hsz:szOf H o=ob.sz:=by simp only [szOf,hob]
      have hlen:l.length=len:=by
       have h1:∀ (n:Nat) (q:List AV) (r:List TV),frzs H n q=some r→r.length=q.length:=by
        intro n q
        induction q with
        | nil=>intro r h; simp only [frzs] at h; obtain rfl:=Option.some.inj h; rfl
        | cons y q ih=>
         intro r h
         simp only [frzs] at h
         split at h
         ·split at h
          ·rename_i ys hys
           obtain rfl:=Option.some.inj h
           simp [ih _ hys]
          ·cases h
         ·cases h
       rw [h1 _ _ _ hl]; simp; omega
      refine ⟨a,len,cap,e,hlen.symm,hlc,?_⟩
      rcases hq with hq | ⟨q1,q2,q3,q4⟩
      ·unfold Stale at hq; omega
      ·rcases q4 with ⟨_,q4⟩ | ⟨b',hb',ea,hn',hroom⟩
       ·left; omega
       ·right
        obtain rfl:b=b':=Option.some.inj (hb.symm.trans hb')
        refine ⟨_,ea,add_spot hrel.spot _,?_⟩
        rw [hsz]
        refine frz_elems hs n hob hb hw hrel ((ob.es.drop off).take len) l 0 off (fun k y hk=>?_) (fun id hi=>hn id (by simp only [List.mem_cons]; exact .inr hi)) hl
        rw [List.getElem?_take] at hk
        split at hk
        ·rw [List.getElem?_drop] at hk
         rw [Nat.zero_add]; exact hk
        ·cases hk
     ·cases hes'
    ·cases hes'
   ·cases hf
  ·cases hf
 | _ + 1,.tup _,t,x,_,_,hf=>by simp [frz] at hf
 | _ + 1,.tptr _ _,t,x,_,_,hf=>by simp [frz] at hf
 | _ + 1,.ptr _ _ _ _ _,t,x,_,_,hf=>by simp [frz] at hf
 | _ + 1,.fn _ _,t,x,_,_,hf=>by simp [frz] at hf
 | _ + 1,.undef,t,x,_,_,hf=>by simp [frz] at hf
theorem frzs_rel (hs:Sim w φ H):∀ (n:Nat) (l:List AV) (ts:List TV) (vs:List Value),NoW H (idsOfs H n l)→VRels (ctx w φ H) l vs→frzs H n l=some ts→TRels (imm w φ H) ts vs
 | _,[],ts,vs,_,hr,hf=>by
  simp only [frzs] at hf
  obtain rfl:=Option.some.inj hf
  cases vs with
  | nil=>trivial
  | cons=>exact hr.elim
 | n,x :: r,ts,vs,hn,hr,hf=>by
  simp only [frzs] at hf
  simp only [idsOfs] at hn
  split at hf
  ·rename_i y hy
   split at hf
   ·rename_i ys hys
    obtain rfl:=Option.some.inj hf
    cases vs with
    | nil=>exact hr.elim
    | cons v q=>
     exact ⟨frz_rel hs n x y v (fun id hi=>hn id (by simp [hi])) hr.1 hy,hr.2.1,frzs_rel hs n r ys q (fun id hi=>hn id (by simp [hi])) hr.2.2 hys⟩
   ·cases hf
  ·cases hf
theorem frz_elems (hs:Sim w φ H):∀ (n:Nat) {o:Id} {ob:Obj} {b:Addr} (_:H o=some ob) (_:φ o=some b) (_:ob.w=false) (_:ObjRel (ctx w φ H) w ob b) (es:List AV) (l:List TV) (i off:Nat),
  (∀ (k:Nat) (y:AV),es[k]? = some y→ob.es[off + (i + k)]? = some y)→NoW H (idsOfs H n es)→frzs H n es=some l→TElems (imm w φ H) ob.sz (b.add (off * ob.sz)) i l
 | _,_,_,_,_,_,_,_,[],l,i,off,_,_,hf=>by
  simp only [frzs] at hf
  obtain rfl:=Option.some.inj hf
  trivial
 | n,o,ob,b,ho,hb,hw,hrel,x :: r,l,i,off,hk,hn,hf=>by
  simp only [frzs] at hf
  simp only [idsOfs] at hn
  split at hf
  ·rename_i y hy
   split at hf
   ·rename_i ys hys
    obtain rfl:=Option.some.inj hf
    have h0:=hk 0 x rfl
    rw [Nat.add_zero] at h0
    obtain ⟨_,v,h1,h2,h3⟩:=hrel.el _ x h0
    refine ⟨⟨v,frz_rel hs n x y v (fun id hi=>hn id (by simp [hi])) h1 hy,h2,fun j u hj=>?_⟩,?_⟩
    ·rw [imm_some]
     rw [add_add hrel.spot]
     refine ⟨by rw [add_block]; exact locked_imm hs ho hw hb,?_⟩
     have:=(h3 j u hj).2
     rw [show off * ob.sz + (i * ob.sz + j)=(off + i) * ob.sz + j from by rw [Nat.add_mul]; omega]
     exact this
    ·refine frz_elems hs n ho hb hw hrel r ys (i + 1) off (fun k z hz=>?_) (fun id hi=>hn id (by simp [hi])) hys
     have:=hk (k + 1) z (by simpa using hz)
     rw [show off + (i + 1 + k)=off + (i + (k + 1)) from by omega]
     exact this
   ·cases hf
  ·cases hf
end
end
end Go.Am
/- The small machine against Go's: whole runs. -/
namespace Go.Am
variable {P:Program}
def KRel (P:Program) (nt:Nat):List It→List Item→Prop
 | [],[]=>True
 | .code c :: K,.code c' :: k=>codeOf P c'=some c∧okD nt c=true∧KRel P nt K k
 | .blk i :: K,.inBlock j :: k=>i=j∧KRel P nt K k
 | .lp c :: K,.inLoop c' :: k=>codeOf P c'=some c∧okD nt c=true∧KRel P nt K k
 | _,_=>False
theorem unwind_rel {nt:Nat} {i:Nat}:∀ {K:List It} {k:List Item} {K':List It},KRel P nt K k→unwind i K=some K'→∃ k',exitTo i k=some k'∧KRel P nt K' k'
 | [],_,_,_,h=>by simp [unwind] at h
 | .code c :: K,[],_,h,_=>h.elim
 | .code c :: K,.code c' :: k,_,h,hu=>by
  simp only [unwind] at hu
  obtain ⟨k',h1,h2⟩:=unwind_rel h.2.2 hu
  exact ⟨k',by simp only [exitTo]; exact h1,h2⟩
 | .blk j :: K,.inBlock j' :: k,K',h,hu=>by
  obtain ⟨rfl,h2⟩:=h
  simp only [unwind] at hu
  split at hu
  ·rename_i e
   obtain rfl:=Option.some.inj hu
   exact ⟨k,by simp [exitTo,e],h2⟩
  ·rename_i e
   split at hu
   ·cases hu
   obtain ⟨k',h3,h4⟩:=unwind_rel h2 hu
   exact ⟨k',by simp only [exitTo]; rw [if_neg (by simpa using e)]; exact h3,h4⟩
 | .lp c :: K,.inLoop c' :: k,_,h,hu=>by
  simp only [unwind] at hu
  obtain ⟨k',h1,h2⟩:=unwind_rel h.2.2 hu
  exact ⟨k',by simp only [exitTo]; exact h1,h2⟩
theorem LexRun.mono {T:Tab} {R R':Run} (h:LeR R R') {d:Nat}:∀ {l:List AOper} {s sf:St} {fs:List Foot},LexRun T R d l s fs sf→LexRun T R' d l s fs sf
 | [],_,_,_,e=>e
 | _ :: _,_,_,_,⟨s',fs',h1,h2,h3⟩=>⟨s',fs',operF_mono h h1,h2,LexRun.mono h h3⟩
section
variable {T:Tab} {d:Nat} {K:List It} {r:St}
theorem ops_split:∀ (l:List AOper) (n:Nat) (s:St),runF T n d (.code (.ops l) :: K) s=some r→∃ m s' fs,m < n∧LexRun T (runF T (n - 1)) d l s fs s'∧runF T m d K s'=some r:=by
 intro l
 induction l with
 | nil=>
  intro n s h
  cases n with
  | zero=>simp [runF] at h
  | succ n=>
   simp only [runF] at h
   exact ⟨n,s,[],by omega,⟨rfl,rfl⟩,h⟩
 | cons o l ih=>
  intro n s h
  cases n with
  | zero=>simp [runF] at h
  | succ n=>
   simp only [runF] at h
   split at h
   ·rename_i s1 h1
    obtain ⟨m,s',fs,g1,g2,g3⟩:=ih n s1 h
    exact ⟨m,s',_ :: fs,by omega,⟨s1,fs,h1,rfl,g2.mono (runF_le T (by omega))⟩,g3⟩
   ·cases h
theorem opsU_split:∀ (l:List AOper) (n:Nat) (s:St) (f0:List Foot) (prs:List (Nat×Nat)),runF T n d (.code (.opsU f0 l prs) :: K) s=some r →
  ∃ m s' fs,m < n∧LexRun T (runF T (n - 1)) d l s fs s'∧okPrs (f0++fs) prs=true∧runF T m d K s'=some r:=by
 intro l
 induction l with
 | nil=>
  intro n s f0 prs h
  cases n with
  | zero=>simp [runF] at h
  | succ n=>
   simp only [runF] at h
   split at h
   ·rename_i hp
    exact ⟨n,s,[],by omega,⟨rfl,rfl⟩,by rw [List.append_nil]; exact hp,h⟩
   ·cases h
 | cons o l ih=>
  intro n s f0 prs h
  cases n with
  | zero=>simp [runF] at h
  | succ n=>
   simp only [runF] at h
   split at h
   ·rename_i s1 h1
    obtain ⟨m,s',fs,g1,g2,g3,g4⟩:=ih n s1 _ prs h
    exact ⟨m,s',_ :: fs,by omega,⟨s1,fs,h1,rfl,g2.mono (runF_le T (by omega))⟩,by rw [List.append_assoc] at g3; exact g3,g4⟩
   ·cases h
theorem stuck_none {T:Tab} {d:Nat} {r:St} (n:Nat) (K:List It) (s:St):¬ runF T n d (.code stuckC :: K) s=some r:=by
 intro h
 cases n with
 | zero=>simp [runF] at h
 | succ n=>
  simp only [stuckC,runF] at h
  have:operF T (runF T n) d ⟨none,none,.store 1 (.k (.c (.s (.bool false)))) (.k (.c (.s (.bool false))))⟩ s=none:=rfl
  rw [this] at h
  cases h
theorem reg_split {c:AC} {n:Nat} {s:St} (hc:(∃ l,c = .ops l)∨∃ l prs,c = .opsU [] l prs) (h:runF T n d (.code c :: K) s=some r):∃ m s',m < n∧RegRun T (runF T (n - 1)) d c s s'∧runF T m d K s'=some r:=by
 rcases hc with ⟨l,rfl⟩ | ⟨l,prs,rfl⟩
 ·obtain ⟨m,s',fs,h1,h2,h3⟩:=ops_split l n s h
  exact ⟨m,s',h1,.inl ⟨l,fs,rfl,h2⟩,h3⟩
 ·obtain ⟨m,s',fs,h1,h2,h3,h4⟩:=opsU_split l n s [] prs h
  exact ⟨m,s',h1,.inr ⟨l,fs,prs,rfl,h2,h3⟩,h4⟩
end
theorem drawOf_shape {ops:List Oper} {l:List AOper} {c:AC} (h:drawOf ops l=some c):(∃ l,c = .ops l)∨∃ l prs,c = .opsU [] l prs:=by
 unfold drawOf at h
 split at h
 ·obtain rfl:=Option.some.inj h
  split
  ·exact .inl ⟨_,rfl⟩
  ·exact .inr ⟨_,_,rfl⟩
 ·cases h
def Main (P:Program) (T:Tab) (n:Nat):Prop:=∀ d K s r,runF T n d K s=some r→∀ (nt:Nat) (b:Frame) (k:List Item) (cs:List Frame) (a:Act) (w:World) (φ:Id→Option Addr),KRel P nt K k→SR nt w φ s a →
 ∃ a' w' φ' todo,Steps P (lone (b.at a k) cs w) (lone { b.at a' todo with mode:=.returning } cs w')∧SR nt w' φ' r a'∧Ext w φ s.H w' φ' r.H∧a'.defers=a.defers
theorem main_step {T:Tab} (hm:P.follows .mixedOrders=true) {n:Nat} (ih:∀ m,m < n→Main P T m) (hcall:∀ m,m < n→CallOK P T (runF T m)):Main P T n:=by
 intro d K s r h nt b k cs a w φ hK hs
 cases n with
 | zero=>simp [runF] at h
 | succ n=>
  have same:∀ (K':List It) (k':List Item),runF T n d K' s=some r→KRel P nt K' k'→step P (lone (b.at a k) cs w) = .next (lone (b.at a k') cs w) →
    ∃ a' w' φ' todo,Steps P (lone (b.at a k) cs w) (lone { b.at a' todo with mode:=.returning } cs w')∧SR nt w' φ' r a'∧Ext w φ s.H w' φ' r.H∧a'.defers=a.defers:=by
   intro K' k' h1 h2 h3
   obtain ⟨a',w',φ',todo,g1,g2,g3,g4⟩:=ih n (by omega) d K' s r h1 nt b k' cs a w φ h2 hs
   exact ⟨a',w',φ',todo,.head h3 g1,g2,g3,g4⟩
  cases K with
  | nil=>
   cases k with
   | cons=>exact hK.elim
   | nil=>
    simp only [runF] at h
    obtain rfl:=Option.some.inj h
    exact ⟨a,w,φ,[],.one step_end,hs,Ext.refl _ _ _,rfl⟩
  | cons it K=>
   cases it with
   | blk i=>
    cases k with
    | nil=>exact hK.elim
    | cons x k=>
     cases x <;> first | (exact hK.elim) | skip
     obtain ⟨rfl,hK⟩:=hK
     simp only [runF] at h
     exact same K k h hK step_inBlock
   | lp c=>
    cases k with
    | nil=>exact hK.elim
    | cons x k=>
     cases x <;> first | (exact hK.elim) | skip
     obtain ⟨h1,h2,hK⟩:=hK
     simp only [runF] at h
     refine same _ _ h ?_ step_inLoop
     exact ⟨h1,h2,h1,h2,hK⟩
   | code c=>
    cases k with
    | nil=>exact hK.elim
    | cons x k=>
     cases x <;> first | (exact hK.elim) | skip
     rename_i c'
     obtain ⟨h1,h2,hK⟩:=hK
     cases c' with
     | skip=>
      simp only [codeOf] at h1
      obtain rfl:=Option.some.inj h1
      simp only [runF] at h
      exact same _ _ h hK step_skip
     | region id ops draw=>
      have h1:regOf P ops draw=some c∨c=stuckC:=by
       simp only [codeOf] at h1
       split at h1
       ·rename_i c2 hc2
        obtain rfl:=Option.some.inj h1
        exact .inl hc2
       ·exact .inr (Option.some.inj h1).symm
      have h1:regOf P ops draw=some c:=by
       rcases h1 with h1 | rfl
       ·exact h1
       ·exact absurd h (stuck_none _ _ _)
      have hreg:RegOf P ops draw c∧((∃ l,c = .ops l)∨∃ l prs,c = .opsU [] l prs):=by
       simp only [regOf] at h1
       split at h1
       ·rename_i l hl
        split at h1
        ·rename_i hd
         exact ⟨⟨l,hl,.inr ⟨hd,h1⟩⟩,drawOf_shape h1⟩
        ·rename_i hd
         obtain rfl:=Option.some.inj h1
         exact ⟨⟨l,hl,.inl ⟨by simpa using hd,rfl⟩⟩,.inl ⟨l,rfl⟩⟩
       ·cases h1
      obtain ⟨m,s',g1,g2,g3⟩:=reg_split hreg.2 h
      rw [Nat.add_sub_cancel] at g2
      have hwp:=region_sound (P:=P) (id:=id) (Q:=fun e a' w'=>e = .normal∧∃ φ',SR nt w' φ' s' a'∧Ext w φ s.H w' φ' s'.H∧a'.defers=a.defers) hm hreg.1 h2 g2 (hcall n (by omega)) hs
       (fun a' w' φ' e1 e2 e3=>⟨rfl,φ',e1,e2,e3⟩)
      obtain ⟨e,a1,w1,⟨rfl,φ1,e1,e2,e3⟩,harr⟩:=hwp b k cs
      obtain ⟨a',w',φ',todo,k1,k2,k3,k4⟩:=ih m (by omega) d K s' r g3 nt b k cs a1 w1 φ1 hK e1
      exact ⟨a',w',φ',todo,.trans harr k1,k2,e2.trans k3,k4.trans e3⟩
     | seq x y=>
      simp only [codeOf] at h1
      split at h1
      ·rename_i x' y' hx hy
       obtain rfl:=Option.some.inj h1
       simp only [okD,Bool.and_eq_true] at h2
       simp only [runF] at h
       refine same _ _ h ?_ step_seq
       exact ⟨hx,h2.1,hy,h2.2,hK⟩
      ·cases h1
     | cond q x y=>
      simp only [codeOf] at h1
      split at h1
      ·rename_i q' x' y' hq hx hy
       obtain rfl:=Option.some.inj h1
       simp only [okD,Bool.and_eq_true] at h2
       simp only [runF] at h
       split at h
       ·rename_i t ht
        have hrel:=opd_rel hs.env hq
        rw [ht] at hrel
        have hq:a.eval q = .bool t:=hrel.1
        refine same _ _ h ?_ (step_cond hq)
        cases t
        ·exact ⟨hy,h2.2,hK⟩
        ·exact ⟨hx,h2.1,hK⟩
       ·cases h
      ·cases h1
     | block i x=>
      simp only [codeOf] at h1
      split at h1
      ·rename_i x' hx
       obtain rfl:=Option.some.inj h1
       simp only [okD] at h2
       simp only [runF] at h
       refine same _ _ h ?_ step_block
       exact ⟨hx,h2,rfl,hK⟩
      ·cases h1
     | loop x=>
      simp only [codeOf] at h1
      split at h1
      ·rename_i x' hx
       obtain rfl:=Option.some.inj h1
       simp only [okD] at h2
       simp only [runF] at h
       refine same _ _ h ?_ step_loop
       exact ⟨hx,h2,hx,h2,hK⟩
      ·cases h1
     | exit i=>
      simp only [codeOf] at h1
      obtain rfl:=Option.some.inj h1
      simp only [runF] at h
      split at h
      ·rename_i K' hu
       obtain ⟨k',e1,e2⟩:=unwind_rel hK hu
       exact same _ _ h e2 (step_exit e1)
      ·cases h
     | ret=>
      simp only [codeOf] at h1
      obtain rfl:=Option.some.inj h1
      simp only [runF] at h
      obtain rfl:=Option.some.inj h
      exact ⟨a,w,φ,_,.one step_ret,hs,Ext.refl _ _ _,rfl⟩
     | _=>simp [codeOf] at h1
end Go.Am
