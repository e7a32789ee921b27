/- A tick. -/
import Derived.Test.YtofonninnabieaaTkc8
namespace Go.Proofs.Ytofonninnabieaa.Tk
open Go Go.Am
set_option linter.unusedVariables false
set_option linter.unusedSimpArgs false

noncomputable section
structure MsOK (ms:List TMessage):Prop where
  n:ms.length≤200
  e:∀ m∈ms,m.2.2.2.2.2.2.2.2.1.length≤1048576
  c:∀ m∈ms,m.2.2.2.2.2.2.2.2.2.1.length≤1048576
theorem MsOK.nil:MsOK []:=⟨Nat.zero_le _,(fun m h=>by cases h),(fun m h=>by cases h)⟩
abbrev zN:TNode:=(0,0,0,0,0,[],0,0,[],0,0,0,[],[],())
theorem NI.ok {x:TNode} (h:NI x) (hv:x.2.2.2.2.2.2.2.2.2.2.2.2.1.length≤1048576):OK x:=⟨h.c,Nat.le_trans h.e (by omega),h.t,hv,Nat.le_trans h.p (by omega)⟩
theorem sendL_ok {x:TNode} (h:NI x):MsOK (sendL x):=by
  have hp:=h.p
  refine ⟨by unfold sendL; rw [List.length_map]; omega,fun m hm=>?_,fun m hm=>?_⟩
  · obtain ⟨p,_,rfl⟩:=List.mem_map.1 hm
    unfold sendM
    cases iLe p.2.1 x.2.2.2.2.2.2.1 with
    | true=>exact Nat.zero_le _
    | false=>
      show ((x.2.2.2.2.2.2.2.2.1.drop _).take 4).length≤_
      rw [List.length_take]
      omega
  · obtain ⟨p,_,rfl⟩:=List.mem_map.1 hm
    unfold sendM
    cases iLe p.2.1 x.2.2.2.2.2.2.1 with
    | true=>exact h.c
    | false=>exact Nat.zero_le _
theorem endN_votes {n:TNode} (h:n.2.2.2.2.2.2.2.2.2.2.2.2.1=[]):(endN n).2.2.2.2.2.2.2.2.2.2.2.2.1=[]:=by
  unfold endN
  cases folB n with
  | false=>exact h
  | true=>rfl
theorem lead_ok (n:TNode) (h:NL n):NI (leadN n)∧(leadN n).2.2.2.2.2.2.2.2.2.2.2.2.1=[]:=by
  unfold leadN
  refine ⟨comN_ok (atN_ok n h),?_⟩
  unfold comN
  exact endN_votes rfl

abbrev candN (x:TNode) (w:Int):TNode:=(x.1,iAdd .i64 x.2.1 1,x.1,1,0,x.2.2.2.2.2.1,x.2.2.2.2.2.2.1,x.2.2.2.2.2.2.2.1,x.2.2.2.2.2.2.2.2.1,x.2.2.2.2.2.2.2.2.2.1,0,w,[x.1],x.2.2.2.2.2.2.2.2.2.2.2.2.2.1,())
abbrev waitN (x:TNode) (e w:Int):TNode:=(x.1,x.2.1,x.2.2.1,x.2.2.2.1,x.2.2.2.2.1,x.2.2.2.2.2.1,x.2.2.2.2.2.2.1,x.2.2.2.2.2.2.2.1,x.2.2.2.2.2.2.2.2.1,x.2.2.2.2.2.2.2.2.2.1,e,w,x.2.2.2.2.2.2.2.2.2.2.2.2.1,x.2.2.2.2.2.2.2.2.2.2.2.2.2.1,())
def askM (x:TNode) (r v:Int):TMessage:=stamp x (1,0,v,0,x.2.2.2.2.2.2.1 + x.2.2.2.2.2.2.2.2.1.length,r,0,false,[],[],litS [],false,())
theorem restB_peers (x:TNode) (h:restB x=true) (hb:confB x.2.2.2.2.2.1=true):x.2.2.2.2.2.2.2.2.2.2.2.2.2.1.length≤4∧∀ p∈x.2.2.2.2.2.2.2.2.2.2.2.2.2.1,1≤p.2.1∧p.2.1≤iAdd .i64 (x.2.2.2.2.2.2.1 + x.2.2.2.2.2.2.2.2.1.length) 1:=by
  unfold restB at h
  cases hr:iEq x.2.2.2.1 2 with
  | true=>
    rw [hr,cond_true,peersB,Bool.and_eq_true] at h
    have h2:x.2.2.2.2.2.2.2.2.2.2.2.2.2.1.map (·.1)=othN x:=by simpa using h.2
    refine ⟨?_,fun p hp=>?_⟩
    · rw [← List.length_map (f:=fun p:TPeer=>p.1),h2]; exact othN_len x hb
    · have:=List.all_eq_true.1 h.1 p hp
      rw [peerB,Bool.and_eq_true,Bool.and_eq_true] at this
      exact inB_iff.1 this.1.1
  | false=>
    rw [hr,cond_false,iEq_def,lenI_def] at h
    have:x.2.2.2.2.2.2.2.2.2.2.2.2.2.1=[]:=by
      cases hq:x.2.2.2.2.2.2.2.2.2.2.2.2.2.1 with
      | nil=>rfl
      | cons a b=>rw [hq] at h; simp at h; omega
    rw [this]
    exact ⟨Nat.zero_le _,fun p hp=>by cases hp⟩

theorem ask15 (x:TNode) (hp:PRE x) (he:x.2.2.2.2.2.2.2.2.1.length≤60) (hb:confB x.2.2.2.2.2.1=true) (w r:Int) :
    loopF (fun rec12 (s13:Int×TCore×TNode×List Int×Unit)=>
      bif iLt s13.1 (lenI s13.2.2.2.1) then idxK s13.2.2.2.1 s13.1 fun y14=>
      bindK (F64 (s13.2.1,(1,0,y14,0,x.2.2.2.2.2.2.1 + x.2.2.2.2.2.2.2.2.1.length,r,0,false,[],[],litS [],false,()),())) fun y15=>
      rec12 (iAdd .i64 s13.1 1,y15.1,s13.2.2) else some ((s13.2.1.1,s13.2.1.2.1,s13.2.1.2.2.1,s13.2.1.2.2.2.1,s13.2.1.2.2.2.2.1,s13.2.1.2.2.2.2.2.1,s13.2.1.2.2.2.2.2.2.1,s13.2.1.2.2.2.2.2.2.2.1,s13.2.1.2.2.2.2.2.2.2.2.1,s13.2.1.2.2.2.2.2.2.2.2.2.1,s13.2.1.2.2.2.2.2.2.2.2.2.2.1,s13.2.1.2.2.2.2.2.2.2.2.2.2.2.1,s13.2.1.2.2.2.2.2.2.2.2.2.2.2.2.1,s13.2.1.2.2.2.2.2.2.2.2.2.2.2.2.2.1,()),s13.2.1.2.2.2.2.2.2.2.2.2.2.2.2.2.2.1,true,())) NN (0,co (candN x w) [],zN,othN x,())=some (candN x w,(othN x).map (askM (candN x w) r),true,()):=by
  have h4:=othN_len x hb
  refine loop_list (xs:=othN x) (a:=List TMessage) (fun j l=>(j,co (candN x w) l,zN,othN x,())) (fun k l=>l=((othN x).take k).map (askM (candN x w) r)) (fun _ _=>some (candN x w,(othN x).map (askM (candN x w) r),true,())) (fun rec l hl=>?_) (fun rec k hk l hl hr=>?_) NN [] (by simp) (NN_len (by omega))
  · subst hl
    simp only [lenI_def,iLt_nat,Nat.lt_irrefl,decide_false,cond_false,List.take_length]
  · subst hl
    simp only [iLt_len,hk,decide_true,cond_true]
    rw [idxK_lt hk,iAdd_nat (by omega)]
    refine bk (tell64 (candN x w) _ _ (by simp; omega)) ?_
    exact hr _ (by rw [List.take_succ_eq_append_getElem hk,List.map_append]; rfl)

theorem ask16 (x:TNode) (hp:PRE x) (he:x.2.2.2.2.2.2.2.2.1.length≤60) (hb:confB x.2.2.2.2.2.1=true) (w r:Int) :
    loopF (fun rec12 (s13:Int×TCore×TNode×List Int×Unit)=>
      bif iLt s13.1 (lenI (othN x)) then idxK s13.2.2.2.1 s13.1 fun y14=>
      bindK (F71 (s13.2.1,(1,0,y14,0,x.2.2.2.2.2.2.1 + x.2.2.2.2.2.2.2.2.1.length,r,0,false,[],[],litS [],false,()),())) fun y15=>
      rec12 (iAdd .i64 s13.1 1,y15.1,s13.2.2) else some ((s13.2.1.1,s13.2.1.2.1,s13.2.1.2.2.1,s13.2.1.2.2.2.1,s13.2.1.2.2.2.2.1,s13.2.1.2.2.2.2.2.1,s13.2.1.2.2.2.2.2.2.1,s13.2.1.2.2.2.2.2.2.2.1,s13.2.1.2.2.2.2.2.2.2.2.1,s13.2.1.2.2.2.2.2.2.2.2.2.1,s13.2.1.2.2.2.2.2.2.2.2.2.2.1,s13.2.1.2.2.2.2.2.2.2.2.2.2.2.1,s13.2.1.2.2.2.2.2.2.2.2.2.2.2.2.1,s13.2.1.2.2.2.2.2.2.2.2.2.2.2.2.2.1,()),s13.2.1.2.2.2.2.2.2.2.2.2.2.2.2.2.2.1,true,())) NN (0,co (candN x w) [],zN,othN x,())=some (candN x w,(othN x).map (askM (candN x w) r),true,()):=by
  have h4:=othN_len x hb
  refine loop_list (xs:=othN x) (a:=List TMessage) (fun j l=>(j,co (candN x w) l,zN,othN x,())) (fun k l=>l=((othN x).take k).map (askM (candN x w) r)) (fun _ _=>some (candN x w,(othN x).map (askM (candN x w) r),true,())) (fun rec l hl=>?_) (fun rec k hk l hl hr=>?_) NN [] (by simp) (NN_len (by omega))
  · subst hl
    simp only [lenI_def,iLt_nat,Nat.lt_irrefl,decide_false,cond_false,List.take_length]
  · subst hl
    simp only [iLt_len,hk,decide_true,cond_true]
    rw [idxK_lt hk,iAdd_nat (by omega)]
    refine bk (tell71 (candN x w) _ _ (by simp; omega)) ?_
    exact hr _ (by rw [List.take_succ_eq_append_getElem hk,List.map_append]; rfl)

structure NG (x:TNode):Prop where
  i:NI x
  b:confB x.2.2.2.2.2.1=true
  c:x.2.2.2.2.2.2.1≤x.2.2.2.2.2.2.2.2.2.1∧x.2.2.2.2.2.2.2.2.2.1≤x.2.2.2.2.2.2.1 + x.2.2.2.2.2.2.2.2.1.length
  t:x.2.1≤100000
  v:x.2.2.2.2.2.2.2.2.2.2.2.2.1.length≤1048576
  z:iEq x.2.2.2.1 2=true→x.2.2.2.2.2.2.2.2.2.2.2.2.1=[]
theorem node_ok (x:TNode) (h:OK x) (hl:logB (nLog x)=true) (T:Int) (hb:nodeB x T=true):NG x:=by
  obtain ⟨hp,he⟩:=pre_of x h hl
  unfold nodeB at hb
  simp only [Bool.and_eq_true] at hb
  obtain ⟨⟨⟨⟨h1,h2⟩,⟨⟨h3,h4⟩,h5,h6⟩⟩,⟨⟨h7,h8⟩,h9⟩⟩,⟨h10,h11⟩,h12⟩:=hb
  obtain ⟨p1,p2⟩:=restB_peers x h12 h2
  have hs:=hp.2.1
  refine ⟨⟨h.c,hs,he,h.t,p1,fun p hp=>?_⟩,h2,inB_iff.1 h7,(inB_iff.1 h3).2,h.v,fun hr=>?_⟩
  · have:=p2 p hp
    rw [iAdd64 (by omega)] at this
    exact this
  · have e:iNe x.2.2.2.1 1=true:=by
      rw [iEq_def] at hr; rw [iNe_def]; simp at hr ⊢; omega
    rw [e,Bool.true_and,len0,Bool.not_not,iEq_def,lenI_def] at h11
    cases hq:x.2.2.2.2.2.2.2.2.2.2.2.2.1 with
    | nil=>rfl
    | cons a b=>rw [hq] at h11; simp at h11; omega
theorem cand_ok {x:TNode} (h:NG x) (w:Int):NL (candN x w):=⟨h.i.pre,h.i.e,h.b,h.c⟩
theorem wait_ok {x:TNode} (h:NG x) (e w:Int):OK (waitN x e w):=⟨h.i.c,Nat.le_trans h.i.e (by omega),h.i.t,h.v,Nat.le_trans h.i.p (by omega)⟩
theorem candOK {x:TNode} (h:NG x) (w:Int):OK (candN x w):=⟨h.i.c,Nat.le_trans h.i.e (by omega),h.i.t,by show 1≤_; omega,Nat.le_trans h.i.p (by omega)⟩
theorem ask_ok {x:TNode} (h:NG x) (w r:Int):MsOK ((othN x).map (askM (candN x w) r)):=by
  have h4:=othN_len x h.b
  refine ⟨by rw [List.length_map]; omega,fun m hm=>?_,fun m hm=>?_⟩
  · obtain ⟨p,_,rfl⟩:=List.mem_map.1 hm
    exact Nat.zero_le _
  · obtain ⟨p,_,rfl⟩:=List.mem_map.1 hm
    exact Nat.zero_le _
def tickN (x:TNode) (w:Int):TNode×List TMessage×Bool×Unit:=
  bif iEq x.2.2.2.1 2 then (x,sendL x,true,())
  else bif iLt (iAdd .i64 x.2.2.2.2.2.2.2.2.2.2.1 1) x.2.2.2.2.2.2.2.2.2.2.2.1 then (waitN x (iAdd .i64 x.2.2.2.2.2.2.2.2.2.2.1 1) x.2.2.2.2.2.2.2.2.2.2.2.1,[],true,())
  else bif !inL (cfN x big) x.1 || iEq x.2.1 100000 then (waitN x 0 w,[],true,())
  else bif mostB (cfN x big) [x.1] then (leadN (candN x w),sendL (leadN (candN x w)),true,())
  else (candN x w,(othN x).map (askM (candN x w) (match F63 (nLog x,()) with | some r=>r.2.1 | none=>0)),true,())
theorem tick_fit (x:TNode) (h:NG x) (w:Int):OK (tickN x w).1∧MsOK (tickN x w).2.1:=by
  unfold tickN
  cases iEq x.2.2.2.1 2 with
  | true=>exact ⟨h.i.ok h.v,sendL_ok h.i⟩
  | false=>
    cases iLt (iAdd .i64 x.2.2.2.2.2.2.2.2.2.2.1 1) x.2.2.2.2.2.2.2.2.2.2.2.1 with
    | true=>exact ⟨wait_ok h _ _,MsOK.nil⟩
    | false=>
      cases (!inL (cfN x big) x.1 || iEq x.2.1 100000) with
      | true=>exact ⟨wait_ok h _ _,MsOK.nil⟩
      | false=>
        cases mostB (cfN x big) [x.1] with
        | true=>
          obtain ⟨l1,l2⟩:=lead_ok (candN x w) (cand_ok h w)
          exact ⟨l1.ok (by rw [l2]; exact Nat.zero_le _),sendL_ok l1⟩
        | false=>exact ⟨candOK h w,ask_ok h w _⟩
theorem term_eq (x:TNode) (h:NG x):iGe x.2.1 100000=iEq x.2.1 100000:=by
  have:=h.t
  rw [iGe_def,iEq_def,Bool.eq_iff_iff]; simp; omega
theorem not_or (a b:Bool):(bif bNot a then some true else some b)=some (!a || b):=by rw [bNot_def]; cases a <;> rfl

theorem tick15 (x:TNode) (h:OK x) (hl:logB (nLog x)=true) (hx:NG x) (hb:F20 (x,())=some (true,())) (w:Int) (hw:inB w 1 20=true):F15 (x,w,())=some (tickN x w):=by
  have hcf:=cfN_len x hx.i.pre big
  obtain ⟨r,r1,r2,_⟩:=last_ok (nLog x) hl
  unfold F15
  refine bk hb ?_
  refine bk (a:=false) (by rw [bNot_def]; exact bk (in83 w 1 20) (by rw [bNot_def,hw]; rfl)) ?_
  refine bk (copy142 x h) ?_
  unfold tickN
  cases e1:iEq x.2.2.2.1 2 with
  | true=>
    exact bk (all32 x hx.i [] (by simp)) rfl
  | false=>
    cases e2:iLt (iAdd .i64 x.2.2.2.2.2.2.2.2.2.2.1 1) x.2.2.2.2.2.2.2.2.2.2.2.1 with
    | true=>rfl
    | false=>
      refine bk (conf119 (waitN x 0 w) hx.i.pre hx.i.e) ?_
      refine bk (in60 (cfN x big) x.1 (by omega)) ?_
      refine bk (a:=!inL (cfN x big) x.1 || iEq x.2.1 100000) (not_or _ _) ?_
      cases e3:(!inL (cfN x big) x.1 || iEq x.2.1 100000) with
      | true=>rfl
      | false=>
        refine bk (a:=(mostB (cfN x big) [x.1],co (candN x w) [],())) ?_ ?_
        · unfold F61
          refine bk (conf119 (candN x w) hx.i.pre hx.i.e) ?_
          exact bk (most1 (cfN x big) [x.1] hcf (by simp)) rfl
        cases e4:mostB (cfN x big) [x.1] with
        | true=>exact bk (lead62 (candN x w) (cand_ok hx w) [] (by simp)) rfl
        | false=>
          refine bk r2 ?_
          refine bk (others118 (cfN x big) x.1 hcf) ?_
          refine (ask15 x hx.i.pre hx.i.e hx.b w r).trans ?_
          rw [r2]
          rfl

theorem tick16 (x:TNode) (h:OK x) (hl:logB (nLog x)=true) (hx:NG x) (hb:F36 (x,())=some (true,())) (w:Int) (hw:inB w 1 20=true):F16 (x,w,())=some (tickN x w):=by
  have hcf:=cfN_len x hx.i.pre big
  obtain ⟨r,r1,r2,_⟩:=last_ok (nLog x) hl
  unfold F16
  refine bk hb ?_
  refine bk (a:=false) (by rw [bNot_def]; exact bk (in87 w 1 20) (by rw [bNot_def,hw]; rfl)) ?_
  refine bk (copy94 x h) ?_
  unfold tickN
  cases e1:iEq x.2.2.2.1 2 with
  | true=>
    exact bk (all45 x hx.i [] (by simp)) rfl
  | false=>
    cases e2:iLt (iAdd .i64 x.2.2.2.2.2.2.2.2.2.2.1 1) x.2.2.2.2.2.2.2.2.2.2.2.1 with
    | true=>rfl
    | false=>
      refine bk (conf43 x hx.i.pre hx.i.e) ?_
      refine bk (in67 (cfN x big) x.1 (by omega)) ?_
      refine bk (a:=!inL (cfN x big) x.1 || iEq x.2.1 100000) (by rw [← term_eq x hx]; exact not_or _ _) ?_
      cases e3:(!inL (cfN x big) x.1 || iEq x.2.1 100000) with
      | true=>rfl
      | false=>
        refine bk (most2 (cfN x big) [x.1] hcf (by simp)) ?_
        cases e4:mostB (cfN x big) [x.1] with
        | true=>exact bk (lead69 (candN x w) (cand_ok hx w) [] (by simp)) rfl
        | false=>
          refine bk r1 ?_
          refine bk (others100 (candN x w) hx.i.pre hx.i.e) ?_
          refine (ask16 x hx.i.pre hx.i.e hx.b w r).trans ?_
          rw [r2]
          rfl

end
end Go.Proofs.Ytofonninnabieaa.Tk

