/- The law of Propose. -/
import Derived.Test.YtofonninnabieaaTqc13
namespace Go.Proofs.Ytofonninnabieaa.Tq
open Go Go.Am
set_option linter.unusedVariables false
set_option linter.unusedSimpArgs false

noncomputable section
theorem node_rest (x:TNode) (T:Int) (hb:nodeB x T=true):restB x=true:=by
  unfold nodeB at hb
  simp only [Bool.and_eq_true] at hb
  exact hb.2.2
theorem law_prop (x:TNode) (k:Int) (t:List UInt8) (h:OK x):F3 (x,k,t,())=some (true,()):=by
  obtain ⟨r,hr⟩:=sz46 x (1048576,()) (by have:=h.e; omega)
  unfold F3
  cases hlt:iGt (lenI t) 1048576 with
  | true=>rfl
  | false=>
  have ht:t.length≤1048576:=by
    rw [iGt_def,lenI_def] at hlt
    simp at hlt
    omega
  have key:∃ y:TNode×List TMessage×Int×Bool×Unit,(OK y.1∧MsOK y.2.1)∧F6 (x,k,t,())=some y∧F8 (x,k,t,())=some y:=by
    have z1:OK zN:=⟨Nat.zero_le _,Nat.zero_le _,(fun y hy=>by cases hy),Nat.zero_le _,Nat.zero_le _⟩
    have no:F36 (x,())=some (false,())→F20 (x,())=some (false,())→∃ y:TNode×List TMessage×Int×Bool×Unit,(OK y.1∧MsOK y.2.1)∧F6 (x,k,t,())=some y∧F8 (x,k,t,())=some y:=fun h1 h2=>by
      have iz:∀ o:Option Bool,(bif bNot false then some true else o)=some true:=fun o=>by rw [bNot_def]; rfl
      refine ⟨zR,⟨z1,MsOK.nil⟩,?_,?_⟩
      · unfold F6
        exact bk h2 (bk (a:=true) (iz _) (bk (a:=true) rfl (bk (a:=true) rfl rfl)))
      · unfold F8
        exact bk h1 (bk (a:=true) (iz _) (bk (a:=true) rfl (bk (a:=true) rfl rfl)))
    rcases node45 x h.c h.e h.t h.v h.p with ⟨hl,h1,h2⟩ | ⟨hl,T,hT,h1,h2⟩
    · exact no h1 h2
    · cases hb:nodeB x T with
      | false=>rw [hb] at h1 h2; exact no h1 h2
      | true=>
        rw [hb] at h1 h2
        have hx:=node_ok x h hl T hb
        have hR:=node_rest x T hb
        exact ⟨propN x k t,prop_fit x hx k t ht,prop6 x h hx hR h2 k t ht,prop8 x h hx hR h1 k t ht⟩
  obtain ⟨⟨n,ms,ix,b,_⟩,⟨hn,hm⟩,e1,e2⟩:=key
  have hmn:ms.length≤200:=hm.n
  have kk:=ks2 n hn
  have km:=eqMs ms hm
  have hd:=held55 n hn
  have hM:=heldMs ms hm (k4 n) kk
  have t0:=at_le hm kk ms.length
  rw [List.take_length] at t0
  simp only [cond_false,hr,bindK_pure]
  cases iLt r.1 0 with
  | true=>rfl
  | false=>
    simp only [cond_false,to48 x h,bindK_pure,e1,e2,eq49 n hn,eq49 x h,km,m1 x h,m2 x h,m3 x h,m4 x h,m1 n hn,m2 n hn,m3 n hn,m4 n hn,nn (ks x h).2.2.2.1,bNe_def,iNe_def,bne_self_eq_false,bNot_def,Bool.not_true]
    refine loop_list (xs:=ms) (a:=Int×List TMessage) (fun i s=>(i,s.1,n,mkN n,s.2,ms,())) (fun i s=>s.1=endK (k4 n) (ms.take i)∧s.2=mkMs (k4 n) (ms.take i)++ms.drop i) (fun _ _=>some (true,())) (fun rec s hs=>?_) (fun rec i hi s hs hr=>?_) NN (k4 n,ms) ⟨rfl,rfl⟩ (NN_len (by omega))
    · obtain ⟨k,ys⟩:=s
      obtain ⟨rfl,rfl⟩:=hs
      simp only [List.take_length,List.drop_length,List.append_nil,lenI_def,mkMs_len,iLt_nat,Nat.lt_irrefl,decide_false,cond_false,hd,hM,bindK_pure,nn kk.1,nn t0.1,iNe_def,bne_self_eq_false,to48 x h,e2,eq49 n hn,km,Bool.not_true,bNot_def]
    · obtain ⟨k,ys⟩:=s
      obtain ⟨h1,h2⟩:=hs
      have h1':k=endK (k4 n) (ms.take i):=h1
      have h2':ys=mkMs (k4 n) (ms.take i)++ms.drop i:=h2
      have b:=at_le hm kk i
      rw [← h1'] at b
      have hl:ys.length=ms.length:=by rw [h2',List.length_append,mkMs_len,List.length_take,List.length_drop]; omega
      have hA:(mkMs (k4 n) (ms.take i)).length=i:=by rw [mkMs_len,List.length_take]; omega
      have hY:i < ys.length:=by omega
      have g:ys[i]=ms[i]:=by
        have:ys[i]? = ms[i]?:=by rw [h2',List.getElem?_append_right (by omega),hA,List.getElem?_drop]; simp
        rw [List.getElem?_eq_getElem hY,List.getElem?_eq_getElem hi] at this
        exact Option.some.inj this
      have he:=hm.e _ (List.getElem_mem hi)
      have hc:=hm.c _ (List.getElem_mem hi)
      have hr0:=hr (kC k ms[i] + 1 + 1,setL ys i (mkM k ms[i])) ⟨by
          show kC k ms[i] + 1 + 1=_
          rw [h1',List.take_succ_eq_append_getElem hi,endK_app],by
          show setL ys i (mkM k ms[i])=_
          rw [setL_def,h2',List.drop_eq_getElem_cons hi,List.set_append_right _ _ (by omega),hA,Nat.sub_self,List.set_cons_zero,List.take_succ_eq_append_getElem hi,mkMs_app,← h1',List.append_assoc]
          rfl⟩
      have ex:∀ {ρ:Type} (K:TMessage→Option ρ),idxK ys (i:Int) K=K ms[i]:=fun K=>by rw [idxK_lt hY,g]
      have ix:∀ {ρ:Type} (v:TMessage) (K:TMessage→Option ρ),idxK (setL ys i v) (i:Int) K=K v:=fun v K=>idxK_setL hY v K
      simp only [lenI_def,hl,iLt_nat,hi,decide_true,cond_true,ex,toN_nat]
      generalize ms[i]=m at he hc hr0
      have q1:F53 (m.2.2.2.2.2.2.2.2.1,k + 1 + 1 + 1 + 1 + 1 + 1 + 1 + 1,())=some (kE k m,mkAll mkE 3 (k + 1 + 1 + 1 + 1 + 1 + 1 + 1 + 1) m.2.2.2.2.2.2.2.2.1,()):=mark26 _ (by omega) (by omega) he
      have q2:F50 (m.2.2.2.2.2.2.2.2.2.1,kE k m,())=some (kC k m,mkAll mkI 1 (kE k m) m.2.2.2.2.2.2.2.2.2.1,()):=mark53 _ (by unfold kE; omega) (by unfold kE; omega) hc
      have b1:0≤kE k m∧kE k m≤950000000:=by unfold kE; omega
      have b2:0≤kC k m∧kC k m≤990000000:=by unfold kC; omega
      have q3:F54 (kC k m,())=some (mt (kC k m),()):=mt78 (by omega) (by omega)
      simp (disch:=omega) only [iAdd64,setL_setL,ix,g3,guardK_true,q1,q2,q3,bindK_pure]
      exact hr0
theorem law3 (x:Kd.dens (insK (datL lawTys3))) (_:Kd.inRs (insK (datL lawTys3)) x) (hb:Kd.bulks (insK (datL lawTys3)) x≤1048576):∃ z,F3 x=some (true,z):=
  ⟨(),law_prop x.1 x.2.1 x.2.2.1 (ok_bulk _ (Nat.le_trans (Nat.le_add_right _ _) hb))⟩

end
end Go.Proofs.Ytofonninnabieaa.Tq

