/- The law of Tick: what both tell stays what it was,whatever is written afterwards. -/
import Derived.Test.YtofonninnabieaaTkc9
namespace Go.Proofs.Ytofonninnabieaa.Tk
open Go Go.Am
set_option linter.unusedVariables false
set_option linter.unusedSimpArgs false

noncomputable section
def kE (k:Int) (m:TMessage):Int:=k + 1 + 1 + 1 + 1 + 1 + 1 + 1 + 1 + ((3:Nat):Int) * (m.2.2.2.2.2.2.2.2.1.length:Int)
def kC (k:Int) (m:TMessage):Int:=kE k m + ((1:Nat):Int) * (m.2.2.2.2.2.2.2.2.2.1.length:Int)
def mkM (k:Int) (m:TMessage):TMessage:=(k,k + 1,k + 1 + 1,k + 1 + 1 + 1,k + 1 + 1 + 1 + 1,k + 1 + 1 + 1 + 1 + 1,k + 1 + 1 + 1 + 1 + 1 + 1,iEq (iRem (k + 1 + 1 + 1 + 1 + 1 + 1 + 1) 3) 0,mkAll mkE 3 (k + 1 + 1 + 1 + 1 + 1 + 1 + 1 + 1) m.2.2.2.2.2.2.2.2.1,mkAll mkI 1 (kE k m) m.2.2.2.2.2.2.2.2.2.1,mt (kC k m),iEq (iRem (kC k m + 1) 3) 0,())
def endK:Int→List TMessage→Int
  | k,[]=>k
  | k,m :: r=>endK (kC k m + 1 + 1) r
def mkMs:Int→List TMessage→List TMessage
  | _,[]=>[]
  | k,m :: r=>mkM k m :: mkMs (kC k m + 1 + 1) r
theorem endK_app:∀ (l:List TMessage) (k:Int) (m:TMessage),endK k (l++[m])=kC (endK k l) m + 1 + 1
  | [],k,m=>rfl
  | x :: l,k,m=>endK_app l _ m
theorem mkMs_app:∀ (l:List TMessage) (k:Int) (m:TMessage),mkMs k (l++[m])=mkMs k l++[mkM (endK k l) m]
  | [],k,m=>rfl
  | x :: l,k,m=>by
    show mkM k x :: mkMs _ (l++[m])=_
    rw [mkMs_app l _ m]; rfl
theorem mkMs_len:∀ (l:List TMessage) (k:Int),(mkMs k l).length=l.length
  | [],k=>rfl
  | x :: l,k=>by show (mkMs _ l).length + 1=_; rw [mkMs_len l]; rfl
theorem mkMs_get:∀ (l:List TMessage) (k:Int) (n:Nat) (h:n < l.length),(mkMs k l)[n]? = some (mkM (endK k (l.take n)) l[n])
  | x :: l,k,0,h=>rfl
  | x :: l,k,n + 1,h=>mkMs_get l _ n (by simpa using h)
theorem endK_le:∀ (l:List TMessage) (k:Int),0≤k→(∀ m∈l,m.2.2.2.2.2.2.2.2.1.length≤1048576)→(∀ m∈l,m.2.2.2.2.2.2.2.2.2.1.length≤1048576)→0≤endK k l∧endK k l≤k + 4200000 * (l.length:Int)
  | [],k,h,_,_=>by simp [endK]; omega
  | m :: l,k,h,h1,h2=>by
    have e1:=h1 m (List.mem_cons_self)
    have e2:=h2 m (List.mem_cons_self)
    have e3:kC k m≤k + 4200000 - 2∧0≤kC k m:=by unfold kC kE; omega
    have:=endK_le l (kC k m + 1 + 1) (by omega) (fun m hm=>h1 m (List.mem_cons_of_mem _ hm)) (fun m hm=>h2 m (List.mem_cons_of_mem _ hm))
    show 0≤endK (kC k m + 1 + 1) l∧endK (kC k m + 1 + 1) l≤_
    rw [List.length_cons]
    omega
theorem at_le {ms:List TMessage} (h:MsOK ms) {k:Int} (hk:0≤k∧k≤20000000) (n:Nat):0≤endK k (ms.take n)∧endK k (ms.take n)≤900000000:=by
  have h1:=endK_le (ms.take n) k hk.1 (fun m hm=>h.e m (List.mem_of_mem_take hm)) (fun m hm=>h.c m (List.mem_of_mem_take hm))
  have h2:=h.n
  rw [List.length_take] at h1
  omega
theorem eq94 (y:List TEntry) (hl:y.length≤1048576):F94 (y,y,())=some (true,()):=eqS_refl (xs:=y) (fun y _=>eq76 y) (by omega)
theorem eqM (m:TMessage) (h1:m.2.2.2.2.2.2.2.2.1.length≤1048576) (h2:m.2.2.2.2.2.2.2.2.2.1.length≤1048576):F49 (m,m,())=some (true,()):=by
  unfold F49
  simp only [iNe_def,bNe_def,bne_self_eq_false,cond_false,eq94 _ h1,eq52 _ h2,bindK_pure,bNot_def,Bool.not_true,strEq_def,beq_self_eq_true,decide_true]
theorem eqMs (ms:List TMessage) (h:MsOK ms):F10 (ms,ms,())=some (true,()):=by
  have hn:=h.n
  unfold F10
  simp only [iNe_def,bne_self_eq_false,cond_false]
  refine loop_list (xs:=ms) (a:=Unit) (fun i _=>(i,())) (fun _ _=>True) (fun _ _=>some (true,())) (fun rec s _=>?_) (fun rec n hk s _ hr=>?_) NN () trivial (NN_len (by omega))
  · simp only [lenI_def,iLt_nat,Nat.lt_irrefl,decide_false,cond_false]
  · simp only [iLt_len,hk,decide_true,cond_true]
    rw [idxK_lt hk,idxK_lt hk]
    refine bk (eqM _ (h.e _ (List.getElem_mem hk)) (h.c _ (List.getElem_mem hk))) ?_
    simp only [bNot_def,Bool.not_true,cond_false]
    rw [iAdd_nat (by omega)]
    exact hr () trivial
theorem g3:gNz 3=true:=gNz_pos (by decide)
theorem heldMs (ms:List TMessage) (h:MsOK ms) (k:Int) (hk:0≤k∧k≤20000000):F14 (mkMs k ms,k,())=some (endK k ms,()):=by
  have hn:=h.n
  have hl:=mkMs_len ms k
  unfold F14
  refine loop_list (xs:=mkMs k ms) (a:=Int) (fun i k=>(i,k,())) (fun n s=>s=endK k (ms.take n)) (fun _ _=>some (endK k ms,())) (fun rec s hs=>?_) (fun rec n hn s hs hr=>?_) NN k rfl (NN_len (by omega))
  · subst hs
    simp only [lenI_def,iLt_nat,Nat.lt_irrefl,decide_false,cond_false,hl,List.take_length]
  · have hm:n < ms.length:=by omega
    have b:=at_le h hk n
    have he:=h.e _ (List.getElem_mem hm)
    have hc:=h.c _ (List.getElem_mem hm)
    have g:(mkMs k ms)[n]=mkM (endK k (ms.take n)) ms[n]:=by
      have:=mkMs_get ms k n hm
      rw [List.getElem?_eq_getElem hn] at this
      exact Option.some.inj this
    have hr0:=hr (kC s ms[n] + 1 + 1) (by rw [hs,List.take_succ_eq_append_getElem hm,endK_app])
    subst hs
    have ex:∀ {ρ:Type} (K:TMessage→Option ρ),idxK (mkMs k ms) (n:Int) K=K (mkM (endK k (ms.take n)) ms[n]):=fun K=>by rw [idxK_lt hn,g]
    simp only [iLt_len,hn,decide_true,cond_true,ex]
    generalize ms[n]=m at he hc hr0
    generalize endK k (ms.take n)=k at b hr0
    have q1:F58 (mkAll mkE 3 (k + 1 + 1 + 1 + 1 + 1 + 1 + 1 + 1) m.2.2.2.2.2.2.2.2.1,k + 1 + 1 + 1 + 1 + 1 + 1 + 1 + 1,())=some (kE k m,()):=held27 _ (by omega) (by omega) he
    have q2:F55 (mkAll mkI 1 (kE k m) m.2.2.2.2.2.2.2.2.2.1,kE k m,())=some (kC k m,()):=held126 _ (by unfold kE; omega) (by unfold kE; omega) hc
    have b1:0≤kE k m∧kE k m≤950000000:=by unfold kE; omega
    have b2:0≤kC k m∧kC k m≤990000000:=by unfold kC; omega
    have q3:F54 (kC k m,())=some (mt (kC k m),()):=mt78 (by omega) (by omega)
    have n1:iLt (kE k m) 0=false:=nn b1.1
    have n2:iLt (kC k m) 0=false:=nn b2.1
    unfold mkM
    simp (disch:=omega) only [iAdd64,iNe_def,bNe_def,bne_self_eq_false,cond_false,g3,guardK_true,q1,q2,q3,n1,n2,bindK_pure,bNot_def,strEq_def,beq_self_eq_true,decide_true,Bool.not_true]
    exact hr0

theorem ks2 (x:TNode) (h:OK x):0≤k4 x∧k4 x≤20000000:=by
  have:=h.c; have:=h.e; have:=h.v; have:=h.p
  simp only [k4,k3,k2,k1]
  omega
abbrev mkN (n:TNode):TNode:=(n.1,n.2.1,n.2.2.1,n.2.2.2.1,n.2.2.2.2.1,mkAll mkI 1 1 n.2.2.2.2.2.1,n.2.2.2.2.2.2.1,n.2.2.2.2.2.2.2.1,mkAll mkE 3 (k1 n) n.2.2.2.2.2.2.2.2.1,n.2.2.2.2.2.2.2.2.2.1,n.2.2.2.2.2.2.2.2.2.2.1,n.2.2.2.2.2.2.2.2.2.2.2.1,mkAll mkI 1 (k2 n) n.2.2.2.2.2.2.2.2.2.2.2.2.1,mkAll mkP 4 (k3 n) n.2.2.2.2.2.2.2.2.2.2.2.2.2.1,())
theorem law_tick (x:TNode) (w:Int) (h:OK x):F4 (x,w,())=some (true,()):=by
  obtain ⟨r,hr⟩:=sz46 x (1048576,()) (by have:=h.e; omega)
  have key:∃ y:TNode×List TMessage×Bool×Unit,(OK y.1∧MsOK y.2.1)∧F15 (x,w,())=some y∧F16 (x,w,())=some y:=by
    have z1:OK zN:=⟨Nat.zero_le _,Nat.zero_le _,(fun y hy=>by cases hy),Nat.zero_le _,Nat.zero_le _⟩
    rcases node45 x h.c h.e h.t h.v h.p with ⟨hl,h1,h2⟩ | ⟨hl,T,hT,h1,h2⟩
    · refine ⟨(zN,[],false,()),⟨z1,MsOK.nil⟩,?_,?_⟩
      · unfold F15
        refine bk h2 (bk (a:=true) (by rw [bNot_def]; rfl) rfl)
      · unfold F16
        refine bk h1 (bk (a:=true) (by rw [bNot_def]; rfl) rfl)
    · cases hb:nodeB x T with
      | false=>
        rw [hb] at h1 h2
        refine ⟨(zN,[],false,()),⟨z1,MsOK.nil⟩,?_,?_⟩
        · unfold F15
          refine bk h2 (bk (a:=true) (by rw [bNot_def]; rfl) rfl)
        · unfold F16
          refine bk h1 (bk (a:=true) (by rw [bNot_def]; rfl) rfl)
      | true=>
        rw [hb] at h1 h2
        cases hw:inB w 1 20 with
        | false=>
          refine ⟨(zN,[],false,()),⟨z1,MsOK.nil⟩,?_,?_⟩
          · unfold F15
            refine bk h2 (bk (a:=true) (by rw [bNot_def]; exact bk (in83 w 1 20) (by rw [bNot_def,hw]; rfl)) rfl)
          · unfold F16
            refine bk h1 (bk (a:=true) (by rw [bNot_def]; exact bk (in87 w 1 20) (by rw [bNot_def,hw]; rfl)) rfl)
        | true=>
          have hx:=node_ok x h hl T hb
          exact ⟨tickN x w,tick_fit x hx w,tick15 x h hl hx h2 w hw,tick16 x h hl hx h1 w hw⟩
  obtain ⟨⟨n,ms,b,_⟩,⟨hn,hm⟩,e1,e2⟩:=key
  have hmn:ms.length≤200:=hm.n
  have kk:=ks2 n hn
  have km:=eqMs ms hm
  have hd:=held55 n hn
  have hM:=heldMs ms hm (k4 n) kk
  have t0:=at_le hm kk ms.length
  rw [List.take_length] at t0
  unfold F4
  simp only [hr,bindK_pure]
  cases iLt r.1 0 with
  | true=>rfl
  | false=>
    simp only [cond_false,to48 x h,bindK_pure,e1,e2,eq49 n hn,eq49 x h,km,m1 x h,m2 x h,m3 x h,m4 x h,m1 n hn,m2 n hn,m3 n hn,m4 n hn,nn (ks x h).2.2.2.1,bNe_def,bne_self_eq_false,bNot_def,Bool.not_true]
    refine loop_list (xs:=ms) (a:=Int×List TMessage) (fun i s=>(i,s.1,n,mkN n,s.2,ms,())) (fun i s=>s.1=endK (k4 n) (ms.take i)∧s.2=mkMs (k4 n) (ms.take i)++ms.drop i) (fun _ _=>some (true,())) (fun rec s hs=>?_) (fun rec i hi s hs hr=>?_) NN (k4 n,ms) ⟨rfl,rfl⟩ (NN_len (by omega))
    · obtain ⟨k,ys⟩:=s
      obtain ⟨rfl,rfl⟩:=hs
      simp only [List.take_length,List.drop_length,List.append_nil,lenI_def,mkMs_len,iLt_nat,Nat.lt_irrefl,decide_false,cond_false,hd,hM,bindK_pure,nn kk.1,nn t0.1,iNe_def,bne_self_eq_false,to48 x h,e2,eq49 n hn,km,Bool.not_true,bNot_def]
    · obtain ⟨k,ys⟩:=s
      obtain ⟨h1,h2⟩:=hs
      have h1':k=endK (k4 n) (ms.take i):=h1
      have h2':ys=mkMs (k4 n) (ms.take i)++ms.drop i:=h2
      have b:=at_le hm kk i
      rw [← h1'] at b
      have hl:ys.length=ms.length:=by rw [h2',List.length_append,mkMs_len,List.length_take,List.length_drop]; omega
      have hA:(mkMs (k4 n) (ms.take i)).length=i:=by rw [mkMs_len,List.length_take]; omega
      have hY:i < ys.length:=by omega
      have g:ys[i]=ms[i]:=by
        have:ys[i]? = ms[i]?:=by rw [h2',List.getElem?_append_right (by omega),hA,List.getElem?_drop]; simp
        rw [List.getElem?_eq_getElem hY,List.getElem?_eq_getElem hi] at this
        exact Option.some.inj this
      have he:=hm.e _ (List.getElem_mem hi)
      have hc:=hm.c _ (List.getElem_mem hi)
      have hr0:=hr (kC k ms[i] + 1 + 1,setL ys i (mkM k ms[i])) ⟨by
          show kC k ms[i] + 1 + 1=_
          rw [h1',List.take_succ_eq_append_getElem hi,endK_app],by
          show setL ys i (mkM k ms[i])=_
          rw [setL_def,h2',List.drop_eq_getElem_cons hi,List.set_append_right _ _ (by omega),hA,Nat.sub_self,List.set_cons_zero,List.take_succ_eq_append_getElem hi,mkMs_app,← h1',List.append_assoc]
          rfl⟩
      have ex:∀ {ρ:Type} (K:TMessage→Option ρ),idxK ys (i:Int) K=K ms[i]:=fun K=>by rw [idxK_lt hY,g]
      have ix:∀ {ρ:Type} (v:TMessage) (K:TMessage→Option ρ),idxK (setL ys i v) (i:Int) K=K v:=fun v K=>idxK_setL hY v K
      simp only [lenI_def,hl,iLt_nat,hi,decide_true,cond_true,ex,toN_nat]
      generalize ms[i]=m at he hc hr0
      have q1:F53 (m.2.2.2.2.2.2.2.2.1,k + 1 + 1 + 1 + 1 + 1 + 1 + 1 + 1,())=some (kE k m,mkAll mkE 3 (k + 1 + 1 + 1 + 1 + 1 + 1 + 1 + 1) m.2.2.2.2.2.2.2.2.1,()):=mark26 _ (by omega) (by omega) he
      have q2:F50 (m.2.2.2.2.2.2.2.2.2.1,kE k m,())=some (kC k m,mkAll mkI 1 (kE k m) m.2.2.2.2.2.2.2.2.2.1,()):=mark53 _ (by unfold kE; omega) (by unfold kE; omega) hc
      have b1:0≤kE k m∧kE k m≤950000000:=by unfold kE; omega
      have b2:0≤kC k m∧kC k m≤990000000:=by unfold kC; omega
      have q3:F54 (kC k m,())=some (mt (kC k m),()):=mt78 (by omega) (by omega)
      simp (disch:=omega) only [iAdd64,setL_setL,ix,g3,guardK_true,q1,q2,q3,bindK_pure]
      exact hr0
theorem law4 (x:Kd.dens (insK (datL lawTys4))) (_:Kd.inRs (insK (datL lawTys4)) x) (hb:Kd.bulks (insK (datL lawTys4)) x≤1048576):∃ z,F4 x=some (true,z):=
  ⟨(),law_tick x.1 x.2.1 (ok_bulk _ (by
    have e:Kd.bulks (insK (datL lawTys4)) x=Kd.bulk KNode x.1 + (1 + 0):=rfl
    omega))⟩

end
end Go.Proofs.Ytofonninnabieaa.Tk

