/- What a node that leads tells its peers,asked in two ways. -/
import Derived.Test.YtofonninnabieaaTqc5
namespace Go.Proofs.Ytofonninnabieaa.Tq
open Go Go.Am
set_option linter.unusedVariables false
set_option linter.unusedSimpArgs false

noncomputable section
def inL (l:List Int) (y:Int):Bool:=l.any fun z=>iEq z y
theorem in60 (l:List Int) (y:Int) (hl:l.length≤4294967296):F60 (l,y,())=some (inL l y,()):=by
  unfold F60
  rw [loop_any (xs:=l) (fun z=>iEq z y) (some (true,())) (some (false,())) (fun rec=>?_) (fun rec n h=>?_) hl]
  · unfold inL; cases (l.any fun z=>iEq z y) <;> rfl
  · simp only [lenI_def,iLt_nat,Nat.lt_irrefl,decide_false,cond_false]
  · simp only [iLt_len,h,decide_true,cond_true]
    rw [idxK_lt h,iAdd_nat (by omega)]
theorem in67 (l:List Int) (y:Int) (hl:l.length≤4294967296):F67 (l,y,())=some (inL l y,()):=by
  have e:F97 (l,y,())=match l.findIdx? (fun z=>iEq y z) with | some i=>some ((i:Int),()) | none=>some (-1,()):=by
    unfold F97
    refine loop_find (xs:=l) (fun i=>(i,())) (fun z=>iEq y z) (fun i=>some ((i:Int),())) (some (-1,())) (fun rec=>?_) (fun rec n h=>?_) hl
    · simp only [lenI_def,iLt_nat,Nat.lt_irrefl,decide_false,cond_false]
    · simp only [iLt_len,h,decide_true,cond_true]
      rw [idxK_lt h,iAdd_nat (by omega)]
  unfold F67
  rw [e]
  cases hx:l.findIdx? (fun z=>iEq y z) with
  | none=>
    have:inL l y=false:=by
      rw [List.findIdx?_eq_none_iff] at hx
      unfold inL
      rw [List.any_eq_false]
      intro z hz
      have:=hx z hz
      rw [iEq_def] at this ⊢
      simp at this ⊢
      exact fun e=>this e.symm
    simp only [bindK_pure,this,iGe_def]; rfl
  | some i=>
    have:inL l y=true:=by
      obtain ⟨h1,h2,_⟩:=List.findIdx?_eq_some_iff_getElem.1 hx
      unfold inL
      rw [List.any_eq_true]
      refine ⟨_,List.getElem_mem h1,?_⟩
      rw [iEq_def] at h2 ⊢
      simp at h2 ⊢
      exact h2.symm
    simp only [bindK_pure,this,iGe_def]
    rw [decide_eq_true (by omega)]
theorem most77 (c l:List Int) (hc:c.length≤1048576) (hl:l.length≤1048576):∃ b,F77 (c,l,())=some (b,()):=by
  have:∃ r:Bool×Unit,F77 (c,l,())=some r∧True:=by
    unfold F77
    refine loop_listP (xs:=c) (a:=Int) (fun i n=>(i,n,())) (fun k n=>0≤n∧n≤k) (fun _=>True) (fun rec s hs=>?_) (fun rec n h s hs hr=>?_) NN 0 (by omega) (NN_len (by omega))
    · simp only [lenI_def,iLt_nat,Nat.lt_irrefl,decide_false,cond_false,conf89 c (by omega),conf85 c (by omega),bindK_pure,cond_some]
      exact ⟨_,rfl,trivial⟩
    · simp only [iLt_len,h,decide_true,cond_true,joinK_def]
      rw [idxK_lt h,in60 l _ (by omega),bindK_pure,iAdd_nat (by omega)]
      cases inL l c[n] with
      | true=>
        simp only [cond_true]
        rw [iAdd64 (by omega)]
        exact hr _ (by omega)
      | false=>
        simp only [cond_false]
        exact hr _ (by omega)
  obtain ⟨⟨b,u⟩,h,_⟩:=this
  exact ⟨b,h⟩
def mostB (c l:List Int):Bool:=match F77 (c,l,()) with | some r=>r.1 | none=>false
theorem most1 (c l:List Int) (hc:c.length≤1048576) (hl:l.length≤1048576):F77 (c,l,())=some (mostB c l,()):=by
  obtain ⟨b,h⟩:=most77 c l hc hl
  unfold mostB
  rw [h]
theorem most2 (c l:List Int) (hc:c.length≤1048576) (hl:l.length≤1048576):F68 (c,l,())=some (mostB c l,()):=by
  rw [← most1 c l hc hl]
  unfold F68 F77
  have h1:∀ y,F60 (l,y,())=some (inL l y,()):=fun y=>in60 l y (by omega)
  have h2:∀ y,F67 (l,y,())=some (inL l y,()):=fun y=>in67 l y (by omega)
  simp only [h1,h2,conf89 c (by omega),conf85 c (by omega)]

abbrev co (x:TNode) (out:List TMessage):TCore:=(x.1,x.2.1,x.2.2.1,x.2.2.2.1,x.2.2.2.2.1,x.2.2.2.2.2.1,x.2.2.2.2.2.2.1,x.2.2.2.2.2.2.2.1,x.2.2.2.2.2.2.2.2.1,x.2.2.2.2.2.2.2.2.2.1,x.2.2.2.2.2.2.2.2.2.2.1,x.2.2.2.2.2.2.2.2.2.2.2.1,x.2.2.2.2.2.2.2.2.2.2.2.2.1,x.2.2.2.2.2.2.2.2.2.2.2.2.2.1,out,())
def stamp (x:TNode) (m:TMessage):TMessage:=(m.1,x.1,m.2.2.1,x.2.1,m.2.2.2.2)
theorem tell64 (x:TNode) (out:List TMessage) (m:TMessage) (h:out.length≤1000):F64 (co x out,m,())=some (co x (out++[stamp x m]),()):=by
  unfold F64
  rw [guardK_pos (gApp_pos (by simp; omega)),cat_def]
  rfl
theorem tell71 (x:TNode) (out:List TMessage) (m:TMessage) (h:out.length≤1000):F71 (co x out,m,())=some (co x (out++[stamp x m]),()):=tell64 x out m h
structure NI (x:TNode):Prop where
  c:x.2.2.2.2.2.1.length≤1048576
  s:0≤x.2.2.2.2.2.2.1∧x.2.2.2.2.2.2.1≤1000000
  e:x.2.2.2.2.2.2.2.2.1.length≤60
  t:∀ y∈x.2.2.2.2.2.2.2.2.1,y.2.2.1.length≤1048576
  p:x.2.2.2.2.2.2.2.2.2.2.2.2.2.1.length≤4
  n:∀ p∈x.2.2.2.2.2.2.2.2.2.2.2.2.2.1,1≤p.2.1∧p.2.1≤x.2.2.2.2.2.2.1 + x.2.2.2.2.2.2.2.2.1.length + 1
theorem NI.pre {x:TNode} (h:NI x):PRE x:=⟨h.c,h.s,by have:=h.e; omega,h.t⟩
def termN (x:TNode) (a:Int):Int:=match F24 (nLog x,a,()) with | some r=>r.1 | none=>0
theorem term1 (x:TNode) (h:NI x) (a:Int) (ha:x.2.2.2.2.2.2.1≤a∧a≤x.2.2.2.2.2.2.1 + x.2.2.2.2.2.2.2.2.1.length):F24 (nLog x,a,())=some (termN x a,())∧F86 (nLog x,a,())=some (termN x a,()):=by
  obtain ⟨t,h1,h2⟩:=term_ok x h.pre h.e a ha
  have:termN x a=t:=by unfold termN; rw [h2]
  rw [this]; exact ⟨h2,h1⟩
def sendM (x:TNode) (p:TPeer):TMessage:=
  bif iLe p.2.1 x.2.2.2.2.2.2.1 then (5,x.1,p.1,x.2.1,x.2.2.2.2.2.2.1,x.2.2.2.2.2.2.2.1,p.2.2.2.1,false,[],x.2.2.2.2.2.1,litS [],false,())
  else (3,x.1,p.1,x.2.1,p.2.1 - 1,termN x (p.2.1 - 1),x.2.2.2.2.2.2.2.2.2.1,false,(x.2.2.2.2.2.2.2.2.1.drop (p.2.1 - x.2.2.2.2.2.2.1 - 1).toNat).take 4,[],litS [],false,())
theorem send79 (x:TNode) (h:NI x) (out:List TMessage) (ho:out.length≤1000) (p:TPeer) (hp:1≤p.2.1∧p.2.1≤x.2.2.2.2.2.2.1 + x.2.2.2.2.2.2.2.2.1.length + 1):F79 (co x out,p,())=some (co x (out++[sendM x p]),()):=by
  have hs:=h.s
  have he:=h.e
  unfold F79 sendM
  cases hc:iLe p.2.1 x.2.2.2.2.2.2.1 with
  | true=>
    simp only [hc,cond_true]
    rw [guardK_pos (gApp_pos (by have:=h.c; simp; omega)),tell64 x out _ ho,cat_def,bindK_pure]
    rfl
  | false=>
    rw [iLe_def] at hc
    have hc':x.2.2.2.2.2.2.1 < p.2.1:=by simpa using hc
    have hcc:iLe p.2.1 x.2.2.2.2.2.2.1=false:=by rw [iLe_def]; simpa using hc
    have e1:iSub .i64 p.2.1 1=p.2.1 - 1:=iSub64 (by omega)
    have e2:iSub .i64 (iSub .i64 p.2.1 x.2.2.2.2.2.2.1) 1=((p.2.1 - x.2.2.2.2.2.2.1 - 1).toNat:Int):=by rw [iSub64 (by omega:_∧p.2.1 - x.2.2.2.2.2.2.1≤_),iSub64 (by omega)]; omega
    have et:=(term1 x h (p.2.1 - 1) (by omega)).1
    simp only [hcc,cond_false,e1,e2]
    rw [show F24 ((x.2.2.2.2.2.2.1,x.2.2.2.2.2.2.2.1,x.2.2.2.2.2.2.2.2.1,()),p.2.1 - 1,())=_ from et,bindK_pure]
    generalize hi0:(p.2.1 - x.2.2.2.2.2.2.1 - 1).toNat=i0
    have hi:i0≤x.2.2.2.2.2.2.2.2.1.length:=by omega
    let mk:List TEntry→TMessage:=fun l=>(3,0,p.1,0,p.2.1 - 1,termN x (p.2.1 - 1),x.2.2.2.2.2.2.2.2.2.1,false,l,[],litS [],false,())
    refine loop_eq (fun s:Int×TCore×TLog×TMessage×Unit=>∃ j:Nat,i0≤j∧j≤i0 + 4∧j≤x.2.2.2.2.2.2.2.2.1.length∧s=((j:Int),co x out,nLog x,mk ((x.2.2.2.2.2.2.2.2.1.drop i0).take (j - i0)),())) (fun s=>100 - s.1.toNat)
      (fun _=>some (co x (out++[stamp x (mk ((x.2.2.2.2.2.2.2.2.1.drop i0).take 4))]),())) (fun rec s hP hr=>?_) NN _ ⟨i0,Nat.le_refl _,by omega,hi,by simp [mk,nLog]⟩ (NN_len (by show 100 - _≤_; omega))
    obtain ⟨j,j1,j2,j3,rfl⟩:=hP
    simp only [iLt_len,iLt_nat,lenI_def,mk,List.length_take,List.length_drop]
    by_cases hj:j < x.2.2.2.2.2.2.2.2.1.length
    · by_cases h4:j < i0 + 4
      · have:iLt ((min (j - i0) (x.2.2.2.2.2.2.2.2.1.length - i0):Nat):Int) 4=true:=by rw [iLt_def,decide_eq_true]; omega
        simp only [hj,decide_true,cond_true,this,bindK_pure]
        rw [idxK_lt hj,guardK_pos (gApp_pos (by simp only [List.length_take,List.length_drop,List.length_cons,List.length_nil]; omega)),iAdd_nat (by omega),cat_def]
        have:(x.2.2.2.2.2.2.2.2.1.drop i0).take (j - i0)++[x.2.2.2.2.2.2.2.2.1[j]]=(x.2.2.2.2.2.2.2.2.1.drop i0).take (j + 1 - i0):=by
          rw [show j + 1 - i0=(j - i0) + 1 by omega,List.take_add_one,List.getElem?_drop,show i0 + (j - i0)=j by omega,List.getElem?_eq_getElem hj]
          rfl
        rw [this]
        exact hr (((j + 1:Nat):Int),co x out,nLog x,mk ((x.2.2.2.2.2.2.2.2.1.drop i0).take (j + 1 - i0)),()) ⟨j + 1,by omega,by omega,by omega,rfl⟩ (by show 100 - ((j + 1:Nat):Int).toNat < 100 - (j:Int).toNat; omega)
      · have:iLt ((min (j - i0) (x.2.2.2.2.2.2.2.2.1.length - i0):Nat):Int) 4=false:=by rw [iLt_def,decide_eq_false]; omega
        simp only [hj,decide_true,cond_true,this,bindK_pure,cond_false]
        rw [tell64 x out _ ho,bindK_pure,show j - i0=4 by omega]
    · simp only [hj,decide_false,cond_false,bindK_pure]
      rw [tell64 x out _ ho,bindK_pure]
      have:(x.2.2.2.2.2.2.2.2.1.drop i0).take (j - i0)=(x.2.2.2.2.2.2.2.2.1.drop i0).take 4:=by
        rw [List.take_of_length_le (by simp; omega),List.take_of_length_le (by simp; omega)]
      rw [this]
theorem send93 (x:TNode) (h:NI x) (out:List TMessage) (ho:out.length≤1000) (k:Nat) (hk:k < x.2.2.2.2.2.2.2.2.2.2.2.2.2.1.length):F93 (co x out,(k:Int),())=some (co x (out++[sendM x x.2.2.2.2.2.2.2.2.2.2.2.2.2.1[k]]),()):=by
  have hs:=h.s
  have he:=h.e
  have hp:=h.n _ (List.getElem_mem hk)
  unfold F93
  rw [idxK_lt hk]
  generalize x.2.2.2.2.2.2.2.2.2.2.2.2.2.1[k]=p at hp
  unfold sendM
  have hgl:iGt p.2.1 x.2.2.2.2.2.2.1 = !iLe p.2.1 x.2.2.2.2.2.2.1:=gt_le _ _
  cases hc:iLe p.2.1 x.2.2.2.2.2.2.1 with
  | true=>
    simp only [hgl,hc,Bool.not_true,cond_true,cond_false]
    rw [guardK_pos (gApp_pos (by have:=h.c; simp; omega)),tell71 x out _ ho,cat_def,bindK_pure]
    rfl
  | false=>
    have hc':x.2.2.2.2.2.2.1 < p.2.1:=by rw [iLe_def] at hc; simpa using hc
    have e1:iSub .i64 p.2.1 1=p.2.1 - 1:=iSub64 (by omega)
    generalize hi0:(p.2.1 - x.2.2.2.2.2.2.1 - 1).toNat=i0
    have hi:i0≤x.2.2.2.2.2.2.2.2.1.length:=by omega
    have e2:iSub .i64 (iSub .i64 p.2.1 x.2.2.2.2.2.2.1) 1=(i0:Int):=by rw [iSub64 (by omega:_∧p.2.1 - x.2.2.2.2.2.2.1≤_),iSub64 (by omega)]; omega
    have e3:iMin (lenI x.2.2.2.2.2.2.2.2.1) (iAdd .i64 (i0:Int) 4)=((min x.2.2.2.2.2.2.2.2.1.length (i0 + 4):Nat):Int):=by
      rw [iMin_def,lenI_def,iAdd64 (by omega)]
      split <;> omega
    have et:=(term1 x h (p.2.1 - 1) (by omega)).2
    simp only [hgl,hc,Bool.not_false,cond_true,cond_false,e1,e2,e3]
    rw [bndK_def,lenN_def,if_pos (by omega)]
    have e4:sub x.2.2.2.2.2.2.2.2.1 ((i0:Int)).toNat (((min x.2.2.2.2.2.2.2.2.1.length (i0 + 4):Nat):Int) - (i0:Int)).toNat=(x.2.2.2.2.2.2.2.2.1.drop i0).take 4:=by
      rw [sub_def,Int.toNat_natCast]
      by_cases hq:i0 + 4≤x.2.2.2.2.2.2.2.2.1.length
      · congr 1; omega
      · rw [List.take_of_length_le (by simp; omega),List.take_of_length_le (by simp; omega)]
    rw [e4,guardK_pos (gApp_pos (by simp; omega))]
    rw [show F86 ((x.2.2.2.2.2.2.1,x.2.2.2.2.2.2.2.1,x.2.2.2.2.2.2.2.2.1,()),p.2.1 - 1,())=_ from et,bindK_pure,tell71 x out _ ho,cat_def,bindK_pure]
    rfl
def sendL (x:TNode):List TMessage:=x.2.2.2.2.2.2.2.2.2.2.2.2.2.1.map (sendM x)
theorem all32 (x:TNode) (h:NI x) (out:List TMessage) (ho:out.length≤900):F32 (co x out,())=some (co x (out++sendL x),()):=by
  have hp:=h.p
  unfold F32
  refine loop_list (xs:=x.2.2.2.2.2.2.2.2.2.2.2.2.2.1) (a:=List TMessage) (fun i l=>(i,co x l,())) (fun n l=>l.length≤900 + n) (fun l q=>some (co x (l++q.map (sendM x)),())) (fun rec l hl=>?_) (fun rec n hn l hl hr=>?_) NN out (by omega) (NN_len (by omega))
  · simp only [lenI_def,iLt_nat,Nat.lt_irrefl,decide_false,cond_false,List.map_nil,List.append_nil]
  · simp only [iLt_len,hn,decide_true,cond_true]
    rw [idxK_lt hn,send79 x h l (by omega) _ (h.n _ (List.getElem_mem hn)),bindK_pure,iAdd_nat (by omega)]
    rw [hr (l++[sendM x _]) (by simp; omega),List.map_cons,List.append_assoc]
    rfl
theorem all45 (x:TNode) (h:NI x) (out:List TMessage) (ho:out.length≤900):F45 (co x out,())=some (co x (out++sendL x),()):=by
  have hp:=h.p
  unfold F45
  refine loop_list (xs:=x.2.2.2.2.2.2.2.2.2.2.2.2.2.1) (a:=List TMessage) (fun i l=>(i,co x l,())) (fun n l=>l.length≤900 + n) (fun l q=>some (co x (l++q.map (sendM x)),())) (fun rec l hl=>?_) (fun rec n hn l hl hr=>?_) NN out (by omega) (NN_len (by omega))
  · simp only [lenI_def,iLt_nat,Nat.lt_irrefl,decide_false,cond_false,List.map_nil,List.append_nil]
  · simp only [iLt_len,hn,decide_true,cond_true]
    rw [send93 x h l (by omega) n hn,bindK_pure,iAdd_nat (by omega)]
    rw [hr (l++[sendM x _]) (by simp; omega),List.map_cons,List.append_assoc]
    rfl
end
end Go.Proofs.Ytofonninnabieaa.Tq

