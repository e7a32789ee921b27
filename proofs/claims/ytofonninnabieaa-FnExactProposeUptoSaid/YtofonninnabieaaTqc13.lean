/- A proposal,as the program answers it; the law of Propose. -/
import Derived.Test.YtofonninnabieaaTqc12
namespace Go.Proofs.Ytofonninnabieaa.Tq
open Go Go.Am
set_option linter.unusedVariables false
set_option linter.unusedSimpArgs false

noncomputable section
theorem cf_other (x:TNode) (k:Int) (t:List UInt8) (h:iEq k 2=false):cfN (prN x (newE x k t) x.2.2.2.2.2.2.2.2.2.2.2.2.2.1) big=cfN x big:=by
  show cfa big x.2.2.2.2.2.1 (x.2.2.2.2.2.2.1 + 1) (x.2.2.2.2.2.2.2.2.1++[newE x k t])=cfa big x.2.2.2.2.2.1 (x.2.2.2.2.2.2.1 + 1) x.2.2.2.2.2.2.2.2.1
  rw [cfa_append]
  have:hit big (x.2.2.2.2.2.2.1 + 1 + (x.2.2.2.2.2.2.2.2.1.length:Int)) (newE x k t)=false:=by
    unfold hit
    rw [show iEq (newE x k t).2.1 2=false from h,Bool.and_false,Bool.false_and]
  rw [this,cond_false]
theorem prP_other (x:TNode) (hx:NG x) (hr:iEq x.2.2.2.1 2=true) (hR:restB x=true) (k:Int) (t:List UInt8) (h:iEq k 2=false):prP x (newE x k t)=x.2.2.2.2.2.2.2.2.2.2.2.2.2.1:=by
  have e:othN (prN x (newE x k t) x.2.2.2.2.2.2.2.2.2.2.2.2.2.1)=othN x:=by
    show (cfN (prN x (newE x k t) x.2.2.2.2.2.2.2.2.2.2.2.2.2.1) big).filter _=(cfN x big).filter _
    rw [cf_other x k t h]
  have hnd:(x.2.2.2.2.2.2.2.2.2.2.2.2.2.1.map (·.1)).Nodup:=by rw [peers_ids x hr hR]; exact othN_nodup x hx.b
  unfold prP
  rw [e,← peers_ids x hr hR]
  exact pick_all (freshP x) hnd
theorem find_pick (ps:List TPeer) (d:TPeer) (v:Int) (hl:ps.length≤1048576) {ρ:Type} (K:TPeer→Option ρ) :
    (match ps.findIdx? (fun p=>iEq p.1 v) with | some i=>(bif iGe (i:Int) 0 then idxK ps (i:Int) K else K d) | none=>(bif iGe (-1) 0 then idxK ps (-1) K else K d))=K (pickP ps d v):=by
  unfold pickP
  cases h:ps.findIdx? (fun p=>iEq p.1 v) with
  | none=>
    have h2:ps.find? (fun p=>iEq p.1 v)=none:=by
      rw [List.findIdx?_eq_none_iff] at h
      rw [List.find?_eq_none]
      intro p hp
      rw [h p hp]; decide
    rw [h2]
    show (bif iGe (-1) 0 then _ else _)=_
    rw [show iGe (-1) 0=false by rw [iGe_def]; rfl]
    rfl
  | some i=>
    obtain ⟨h1,h2,h3⟩:=List.findIdx?_eq_some_iff_getElem.1 h
    have h4:ps.find? (fun p=>iEq p.1 v)=some ps[i]:=by
      rw [List.find?_eq_some_iff_getElem]
      exact ⟨h2,i,h1,rfl,fun j hj=>by have:=h3 j hj; simpa using this⟩
    rw [h4]
    show (bif iGe (i:Int) 0 then _ else _)=_
    rw [show iGe (i:Int) 0=true by rw [iGe_def,decide_eq_true]; omega,cond_true,idxK_lt h1]
theorem prop8 (x:TNode) (h:OK x) (hx:NG x) (hR:restB x=true) (hb:F36 (x,())=some (true,())) (k:Int) (t:List UInt8) (ht:t.length≤1048576):F8 (x,k,t,())=some (propN x k t):=by
  have hcf:=cfN_len x hx.i.pre big
  have hs:=hx.i.s
  have he:=hx.i.e
  have hL:lastN x=x.2.2.2.2.2.2.1 + x.2.2.2.2.2.2.2.2.1.length:=rfl
  have iz:∀ q:Bool,(bif bNot true then some true else some q)=some q:=fun q=>by rw [bNot_def]; rfl
  unfold F8
  refine bk hb ?_
  refine bk (a:=iNe x.2.2.2.1 2) (iz _) ?_
  unfold propN okP
  rw [← Bool.not_not (iEq x.2.2.2.1 2),← iNe_eq]
  cases e1:iNe x.2.2.2.1 2 with
  | true=>exact bk (a:=true) rfl (bk (a:=true) rfl rfl)
  | false=>
    have hr:iEq x.2.2.2.1 2=true:=by rw [iNe_eq] at e1; simpa using e1
    refine bk (a:=!(iLt (lenI x.2.2.2.2.2.2.2.2.1) 60)) (by rw [lt_ge,Bool.not_not]; rfl) ?_
    refine bk (a:=!roomN x) (by
      unfold roomN
      cases iLt (lenI x.2.2.2.2.2.2.2.2.1) 60 with
      | false=>rfl
      | true=>
        refine bk (a:=(lastN x,())) (by unfold F37; exact congrArg (fun z=>some (z,())) (out_last x hx.nl)) ?_
        rw [Bool.true_and,lt_ge,Bool.not_not]) ?_
    cases e3:roomN x with
    | false=>rw [Bool.and_false,Bool.false_and]; rfl
    | true=>
      refine bk (entry103 (newE x k t) ht) ?_
      cases e2:entryB (newE x k t) with
      | false=>exact bk (a:=true) (by rw [bNot_def]; rfl) rfl
      | true=>
        refine bk (a:=!(bif iEq k 2 then acc2 x t else true)) ?_ ?_
        · rw [bNot_def]
          refine bk (a:=!(bif iEq k 2 then acc2 x t else true)) ?_ rfl
          cases e4:iEq k 2 with
          | false=>rfl
          | true=>
            have hrd:(readC t).2.1=true:=by
              have:=e2
              unfold entryB at this
              rw [Bool.and_eq_true] at this
              have h2:=this.2
              have e5:iEq (newE x k t).2.1 1=false:=by
                show iEq k 1=false
                rw [iEq_def] at e4 ⊢; simp at e4 ⊢; omega
              rw [e5,show iEq (newE x k t).2.1 2=true from e4] at h2
              exact h2
            exact bk (may39 x hx t ht hrd) (by rw [bNot_def]; rfl)
        · cases e6:(bif iEq k 2 then acc2 x t else true) with
          | false=>rfl
          | true=>
            have hN:=pr_ok x hx hr k t ht e3
            obtain ⟨hP,hPl⟩:=pre_pr x hx k t ht e3 hN
            have ho:=othN_len (prN x (newE x k t) x.2.2.2.2.2.2.2.2.2.2.2.2.2.1) hx.b
            have hp4:=hx.i.p
            refine bk (copy94 x h) ?_
            refine bk (a:=(lastN x,())) (by unfold F37; exact congrArg (fun z=>some (z,())) (out_last x hx.nl)) ?_
            rw [guardK_pos (gApp_pos (by show (x.2.2.2.2.2.2.2.2.1.length + 1) * 3≤_; omega)),cat_def]
            refine jb (r:=some (yesP x (newE x k t))) (co (prN x (newE x k t) (prP x (newE x k t))) [],zN,()) ?_ ?_
            · refine bk (com44 (prN x (newE x k t) (prP x (newE x k t))) hN []) ?_
              refine bk (all45 (comN (prN x (newE x k t) (prP x (newE x k t)))) (comN_ok hN) [] (by simp)) ?_
              rw [iAdd64 (by omega)]
              rfl
            · intro hbody
              show (bif iEq k 2 then _ else _)=_
              cases e4:iEq k 2 with
              | false=>
                have hpp:=prP_other x hx hr hR k t e4
                rw [hpp] at hbody
                exact hbody
              | true=>
                rw [cond_true]
                refine bk (others100 (prN x (newE x k t) x.2.2.2.2.2.2.2.2.2.2.2.2.2.1) hP hPl) ?_
                refine loop_list (xs:=(othN (prN x (newE x k t) x.2.2.2.2.2.2.2.2.2.2.2.2.2.1))) (a:=List TPeer) (fun i l=>(i,co (prN x (newE x k t) x.2.2.2.2.2.2.2.2.2.2.2.2.2.1) [],zN,(othN (prN x (newE x k t) x.2.2.2.2.2.2.2.2.2.2.2.2.2.1)),l,())) (fun i l=>l=((othN (prN x (newE x k t) x.2.2.2.2.2.2.2.2.2.2.2.2.2.1)).take i).map fun v=>pickP x.2.2.2.2.2.2.2.2.2.2.2.2.2.1 (freshP x v) v) (fun _ _=>some (yesP x (newE x k t))) (fun rec l hl=>?_) (fun rec i hi l hl hr2=>?_) NN [] (by simp) (NN_len (by omega))
                · subst hl
                  simp only [lenI_def,iLt_nat,Nat.lt_irrefl,decide_false,cond_false,List.take_length]
                  exact hbody
                · subst hl
                  have hll:(((othN (prN x (newE x k t) x.2.2.2.2.2.2.2.2.2.2.2.2.2.1)).take i).map fun v=>pickP x.2.2.2.2.2.2.2.2.2.2.2.2.2.1 (freshP x v) v).length≤4:=by rw [List.length_map,List.length_take]; omega
                  simp only [iLt_len,hi,decide_true,cond_true]
                  rw [idxK_lt hi]
                  have hfind:loopF (fun rec19 (s20:Int×Int×Unit)=>bif iLt s20.2.1 (lenI x.2.2.2.2.2.2.2.2.2.2.2.2.2.1) then idxK x.2.2.2.2.2.2.2.2.2.2.2.2.2.1 s20.2.1 fun y21=>
                      bindK (some (iEq y21.1 s20.1,())) fun y22=>bif y22.1 then some s20.2 else rec19 (s20.1,iAdd .i64 s20.2.1 1,()) else some ((-1),())) NN ((othN (prN x (newE x k t) x.2.2.2.2.2.2.2.2.2.2.2.2.2.1))[i],0,())=match x.2.2.2.2.2.2.2.2.2.2.2.2.2.1.findIdx? (fun p=>iEq p.1 (othN (prN x (newE x k t) x.2.2.2.2.2.2.2.2.2.2.2.2.2.1))[i]) with | some i=>some ((i:Int),()) | none=>some ((-1),()):=by
                    refine loop_find (xs:=x.2.2.2.2.2.2.2.2.2.2.2.2.2.1) (fun j=>((othN (prN x (newE x k t) x.2.2.2.2.2.2.2.2.2.2.2.2.2.1))[i],j,())) (fun p=>iEq p.1 (othN (prN x (newE x k t) x.2.2.2.2.2.2.2.2.2.2.2.2.2.1))[i]) (fun i=>some ((i:Int),())) (some ((-1),())) (fun rec=>?_) (fun rec n hn=>?_) (by omega)
                    · simp only [lenI_def,iLt_nat,Nat.lt_irrefl,decide_false,cond_false]
                    · simp only [iLt_len,hn,decide_true,cond_true,bindK_pure]
                      rw [idxK_lt hn,iAdd_nat (by omega)]
                  have hK:∀ p:TPeer,(guardK (gApp (((othN (prN x (newE x k t) x.2.2.2.2.2.2.2.2.2.2.2.2.2.1)).take i).map fun v=>pickP x.2.2.2.2.2.2.2.2.2.2.2.2.2.1 (freshP x v) v) [p] 4) (rec (iAdd .i64 (i:Int) 1,co (prN x (newE x k t) x.2.2.2.2.2.2.2.2.2.2.2.2.2.1) [],zN,(othN (prN x (newE x k t) x.2.2.2.2.2.2.2.2.2.2.2.2.2.1)),cat (((othN (prN x (newE x k t) x.2.2.2.2.2.2.2.2.2.2.2.2.2.1)).take i).map fun v=>pickP x.2.2.2.2.2.2.2.2.2.2.2.2.2.1 (freshP x v) v) [p],())))=rec (((i + 1:Nat):Int),co (prN x (newE x k t) x.2.2.2.2.2.2.2.2.2.2.2.2.2.1) [],zN,(othN (prN x (newE x k t) x.2.2.2.2.2.2.2.2.2.2.2.2.2.1)),(((othN (prN x (newE x k t) x.2.2.2.2.2.2.2.2.2.2.2.2.2.1)).take i).map fun v=>pickP x.2.2.2.2.2.2.2.2.2.2.2.2.2.1 (freshP x v) v)++[p],()):=fun p=>by
                    rw [guardK_pos (gApp_pos (by simp only [List.length_cons,List.length_nil]; omega)),cat_def,iAdd_nat (by omega)]
                  have hfp:=find_pick x.2.2.2.2.2.2.2.2.2.2.2.2.2.1 (freshP x (othN (prN x (newE x k t) x.2.2.2.2.2.2.2.2.2.2.2.2.2.1))[i]) (othN (prN x (newE x k t) x.2.2.2.2.2.2.2.2.2.2.2.2.2.1))[i] (by omega) (fun p=>rec (((i + 1:Nat):Int),co (prN x (newE x k t) x.2.2.2.2.2.2.2.2.2.2.2.2.2.1) [],zN,(othN (prN x (newE x k t) x.2.2.2.2.2.2.2.2.2.2.2.2.2.1)),(((othN (prN x (newE x k t) x.2.2.2.2.2.2.2.2.2.2.2.2.2.1)).take i).map fun v=>pickP x.2.2.2.2.2.2.2.2.2.2.2.2.2.1 (freshP x v) v)++[p],()))
                  have hlast:=hr2 ((((othN (prN x (newE x k t) x.2.2.2.2.2.2.2.2.2.2.2.2.2.1)).take i).map fun v=>pickP x.2.2.2.2.2.2.2.2.2.2.2.2.2.1 (freshP x v) v)++[pickP x.2.2.2.2.2.2.2.2.2.2.2.2.2.1 (freshP x (othN (prN x (newE x k t) x.2.2.2.2.2.2.2.2.2.2.2.2.2.1))[i]) (othN (prN x (newE x k t) x.2.2.2.2.2.2.2.2.2.2.2.2.2.1))[i]]) (by rw [List.take_succ_eq_append_getElem hi,List.map_append]; rfl)
                  rw [iAdd64 (a:=lastN x) (by omega)]
                  cases hq:x.2.2.2.2.2.2.2.2.2.2.2.2.2.1.findIdx? (fun p=>iEq p.1 (othN (prN x (newE x k t) x.2.2.2.2.2.2.2.2.2.2.2.2.2.1))[i]) with
                  | none=>
                    rw [hq] at hfind hfp
                    refine bk hfind ?_
                    simp only [joinK_def,hK]
                    exact hfp.trans hlast
                  | some j=>
                    rw [hq] at hfind hfp
                    refine bk hfind ?_
                    simp only [joinK_def,hK]
                    exact hfp.trans hlast

end
end Go.Proofs.Ytofonninnabieaa.Tq

