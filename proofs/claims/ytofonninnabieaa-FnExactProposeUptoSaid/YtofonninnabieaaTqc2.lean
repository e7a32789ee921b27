/- A node,asked in two ways. -/
import Derived.Test.YtofonninnabieaaTqc1
namespace Go.Proofs.Ytofonninnabieaa.Tq
open Go Go.Am
set_option linter.unusedVariables false
set_option linter.unusedSimpArgs false

noncomputable section
def PRE (x:TNode):Prop:=x.2.2.2.2.2.1.length≤1048576∧(0≤x.2.2.2.2.2.2.1∧x.2.2.2.2.2.2.1≤1000000)∧x.2.2.2.2.2.2.2.2.1.length≤1048576∧∀ y∈x.2.2.2.2.2.2.2.2.1,y.2.2.1.length≤1048576
theorem conf43 (x:TNode) (h:PRE x) (hl:x.2.2.2.2.2.2.2.2.1.length≤60):F66 (x,())=some (cfN x 9223372036854775807,()):=by
  unfold F66
  rw [conf44 x _ h.1 h.2.1 h.2.2.1 h.2.2.2,bindK_pure]
theorem cfa_top {a b:Int}:∀ {l:List TEntry} {c:List Int} {i:Int},i + l.length≤a + 1→i + l.length≤b + 1→cfa a c i l=cfa b c i l
  | [],c,i,_,_=>rfl
  | y :: r,c,i,h1,h2=>by
    simp only [List.length_cons] at h1 h2
    have:hit a i y=hit b i y:=by
      rw [hit,hit,iLe_def,iLe_def,decide_eq_true (by omega),decide_eq_true (by omega)]
    simp only [cfa,this]
    exact cfa_top (by omega) (by omega)
theorem conf119 (x:TNode) (h:PRE x) (hl:x.2.2.2.2.2.2.2.2.1.length≤60):F27 (x,())=some (cfN x 9223372036854775807,()):=by
  unfold F27
  rw [conf143 x _ h.1 h.2.1 h.2.2.1 h.2.2.2,bindK_pure]
  have h2:=h.2.1
  rw [cfN,cfN,cfa_top (b:=9223372036854775807) (by omega) (by omega)]
def othN (x:TNode):List Int:=(cfN x 9223372036854775807).filter fun v=>iNe v x.1
theorem cfN_len (x:TNode) (h:PRE x) (a:Int):(cfN x a).length≤1048576:=cfa_len h.1 h.2.2.2
theorem others118 (c:List Int) (d:Int) (hl:c.length≤1048576):F30 (c,d,())=some (c.filter fun v=>iNe v d,()):=by
  unfold F30
  have e0:(c.filter fun v=>iNe v d,())=(([]:List Int)++c.filter fun v=>iNe v d,()):=by rw [List.nil_append]
  rw [e0]
  refine loop_list (xs:=c) (a:=List Int) (σ:=Int×List Int×Unit) (fun i s=>(i,s,())) (fun n s=>s.length≤n) (fun s r=>some (s++r.filter fun v=>iNe v d,())) (fun rec s hs=>?_) (fun rec n h s hs hr=>?_) NN [] (by simp) (NN_len (by omega))
  · simp only [iLt_len,Nat.lt_irrefl,decide_false,cond_false,List.filter_nil,List.append_nil]
  · simp only [iLt_len,h,decide_true,cond_true,idxK_lt h,joinK_def,iAdd_nat (show n≤4294967296 by omega)]
    rw [guardK_pos (gApp_pos (by simp only [List.length_cons,List.length_nil]; omega)),cat_def]
    cases he:iNe c[n] d with
    | true=>
      rw [cond_true,hr _ (by simp; omega),List.filter_cons,he,if_pos rfl,List.append_assoc,List.cons_append,List.nil_append]
    | false=>
      rw [cond_false,hr _ (by omega),List.filter_cons,he,if_neg Bool.false_ne_true]
theorem filter_first {p:Int→Bool}:∀ {c:List Int} {i:Nat} (h:i < c.length),(∀ j,j < i→∀ hj:j < c.length,p c[j]=true)→(c.take i).filter p=c.take i
  | c,i,h,hp=>by
    rw [List.filter_eq_self]
    intro a ha
    obtain ⟨j,hj,e⟩:=List.getElem_of_mem ha
    rw [List.length_take] at hj
    rw [List.getElem_take] at e
    rw [← e]
    exact hp j (by omega) (by omega)
theorem others100 (x:TNode) (h:PRE x) (hl:x.2.2.2.2.2.2.2.2.1.length≤60):F41 (x,())=some (othN x,()):=by
  unfold F41
  rw [conf43 x h hl,bindK_pure]
  have hcl:=cfN_len x h 9223372036854775807
  rw [othN]
  revert hcl
  generalize cfN x 9223372036854775807=c
  intro hcl
  have e1:=loop_find (xs:=c) (τ:=TNode×Int×Unit) (ρ:=Int×Unit) (F:=fun rec1 (s2:TNode×Int×Unit)=>bif iLt s2.2.1 (lenI c) then idxK c s2.2.1 fun y3=>bindK (some (iEq y3 s2.1.1,())) fun y4=>bif y4.1 then some s2.2 else rec1 (s2.1,iAdd .i64 s2.2.1 1,()) else some ((-1),()))
    (fun i=>(x,i,())) (fun v=>iEq v x.1) (fun i=>some ((i:Int),())) (some ((-1),())) (fun rec=>by simp only [iLt_len,Nat.lt_irrefl,decide_false,cond_false]) (fun rec n h=>by simp only [iLt_len,h,decide_true,cond_true,idxK_lt h,bindK_pure,iAdd_nat (show n≤4294967296 by omega)]) (by omega)
  rw [e1]
  cases hf:c.findIdx? (fun v=>iEq v x.1) with
  | none=>
    rw [List.findIdx?_eq_none_iff] at hf
    have:c.filter (fun v=>iNe v x.1)=c:=by
      rw [List.filter_eq_self]
      intro a ha
      rw [iNe_eq,hf a ha]; rfl
    rw [bindK_pure,this]
    have:iEq (-1) (-1)=true:=by rw [iEq_def]; rfl
    rw [this,cond_true]
  | some i=>
    rw [List.findIdx?_eq_some_iff_getElem] at hf
    obtain ⟨hi,hi1,hi2⟩:=hf
    simp only [bindK_pure]
    have hne:iEq (i:Int) (-1)=false:=by rw [iEq_def]; simp <;> omega
    rw [hne,cond_false,iAdd_nat (by omega)]
    have hfirst:(c.take (i + 1)).filter (fun v=>iNe v x.1)=c.take i:=by
      rw [List.take_succ_eq_append_getElem hi,List.filter_append,filter_first hi (fun j hj hj2=>by
        have:=hi2 j hj
        rw [iNe_eq]; simpa using this)]
      simp [List.filter_cons,iNe_eq,hi1]
    refine loop_eq (σ:=Int×Int×List Int×Unit) (fun s=>∃ n j:Nat,s.1=n∧s.2.1=j∧j < n∧n≤c.length∧s.2.2.1.length=c.length∧s.2.2.1.take j=(c.take n).filter (fun v=>iNe v x.1)∧s.2.2.1.drop n=c.drop n) (fun s=>c.length - s.1.toNat) (fun _=>some (c.filter fun v=>iNe v x.1,())) (fun rec s hs hr=>?_) NN _ ⟨i + 1,i,rfl,rfl,by omega,by omega,rfl,hfirst.symm,rfl⟩ (NN_len (by omega))
    obtain ⟨n,j,h1,h2,h3,h4,h5,h6,h7⟩:=hs
    obtain ⟨i',j',l,u⟩:=s
    simp only at h1 h2 h5 h6 h7
    subst h1 h2
    by_cases hn:n < l.length
    · have hln:l[n]=c[n]'(by omega):=by
        have e:=congrArg (fun q:List Int=>q[0]?) h7
        simp only [List.getElem?_drop,Nat.add_zero] at e
        rw [List.getElem?_eq_getElem hn,List.getElem?_eq_getElem (by omega:n < c.length)] at e
        exact Option.some.inj e
      have hj:j < l.length:=by omega
      simp only [iLt_len,hn,decide_true,cond_true,idxK_lt hn,bindK_pure,joinK_def,iAdd_nat (show n≤4294967296 by omega),idxK_lt hj,iAdd_nat (show j≤4294967296 by omega),toN_nat,setL_def]
      have hnc:n < c.length:=by omega
      rw [hln,bNot_def]
      have hd:∀ q:List Int,q.drop n=c.drop n→q.drop (n + 1)=c.drop (n + 1):=fun q hq=>by
        have a1:q.drop (n + 1)=(q.drop n).drop 1:=by rw [List.drop_drop]
        rw [a1,hq,List.drop_drop]
      cases he:iEq c[n] x.1 with
      | true=>
        simp only [Bool.not_true,cond_false]
        refine hr _ ⟨n + 1,j,rfl,rfl,by omega,by omega,h5,?_,hd _ h7⟩ (by simp only [Int.toNat_natCast]; omega)
        rw [List.take_succ_eq_append_getElem hnc,List.filter_append,h6]
        simp [List.filter_cons,iNe_eq,he]
      | false=>
        simp only [Bool.not_false,cond_true]
        refine hr _ ⟨n + 1,j + 1,rfl,rfl,by omega,by omega,by simp [h5],?_,?_⟩ (by simp only [Int.toNat_natCast]; omega)
        · show (l.set j c[n]).take (j + 1)=_
          rw [List.take_succ_eq_append_getElem hnc,List.filter_append,← h6,List.take_succ_eq_append_getElem (by simp; omega)]
          rw [List.take_set_of_le (Nat.le_refl _)]
          simp [List.filter_cons,iNe_eq,he]
        · show (l.set j c[n]).drop (n + 1)=_
          rw [List.drop_set_of_lt (by omega)]
          exact hd _ h7
    · have hnl:n=l.length:=by omega
      simp only [iLt_len,hn,decide_false,cond_false]
      rw [bndK_def,lenN_def,ofN_def,if_pos (by omega),bndK_def,lenN_def,if_pos (by
        refine ⟨by omega,by omega,?_⟩
        simp only [cat_def,sub_def,repL_def,dropL_def,addN_def,List.length_append,List.length_take,List.length_drop,List.length_replicate]
        omega)]
      have e3:(l.take j)=c.filter (fun v=>iNe v x.1):=by
        rw [h6,hnl,h5,List.take_length]
      simp only [cat_def,sub_def,repL_def,dropL_def,addN_def]
      rw [← e3]
      have:((j:Int) - 0).toNat=j:=by omega
      simp only [this,Int.toNat_natCast,Int.toNat_zero,List.drop_zero]
      rw [List.take_append_of_le_length (by rw [List.length_take]; omega),List.take_take,Nat.min_self]

def peerB (L:Int) (p:TPeer):Bool:=(inB p.2.1 1 (iAdd .i64 L 1) && inB p.2.2.1 0 (iSub .i64 p.2.1 1)) && inB p.2.2.2.1 0 20000
def peersB (L:Int) (ps:List TPeer) (o:List Int):Bool:=ps.all (peerB L) && (ps.map (·.1) == o)
theorem peers112 (x:TNode) (h:PRE x) (hl:x.2.2.2.2.2.2.2.2.1.length≤60) (hp:x.2.2.2.2.2.2.2.2.2.2.2.2.2.1.length≤1048576):F84 (x,())=some (peersB (x.2.2.2.2.2.2.1 + x.2.2.2.2.2.2.2.2.1.length) x.2.2.2.2.2.2.2.2.2.2.2.2.2.1 (othN x),()):=by
  unfold F84
  have h102:F37 ((x.2.2.2.2.2.2.1,x.2.2.2.2.2.2.2.1,x.2.2.2.2.2.2.2.2.1,()),())=some (x.2.2.2.2.2.2.1 + x.2.2.2.2.2.2.2.2.1.length,()):=by
    unfold F37
    have h2:=h.2.1
    show some (iAdd .i64 x.2.2.2.2.2.2.1 (lenI x.2.2.2.2.2.2.2.2.1),())=_
    rw [lenI_def,iAdd64 (by omega)]
  refine loop_list (xs:=x.2.2.2.2.2.2.2.2.2.2.2.2.2.1) (a:=List Int) (σ:=Int×List Int×Unit) (fun i s=>(i,s,())) (fun n s=>s.length=n) (fun s r=>some (r.all (peerB (x.2.2.2.2.2.2.1 + x.2.2.2.2.2.2.2.2.1.length)) && (s++r.map (·.1) == othN x),())) (fun rec s hs=>?_) (fun rec n h' s hs hr=>?_) NN [] rfl (NN_len (by omega))
  · simp only [iLt_len,Nat.lt_irrefl,decide_false,cond_false]
    rw [others100 x h hl,bindK_pure]
    have e:=eqI_ok s (othN x) (by omega)
    rw [show F100 (s,othN x,())=some (s == othN x,()) from e,bindK_pure]
    simp
  · simp only [iLt_len,h',decide_true,cond_true]
    rw [idxK_lt h',guardK_pos (gApp_pos (by simp only [List.length_cons,List.length_nil]; omega)),h102,bindK_pure]
    simp only [in87,bindK_pure,bNot_def,cond_or,cat_def,iAdd_nat (show n≤4294967296 by omega)]
    rw [hr _ (by simp [hs])]
    simp only [List.all_cons,peerB,List.map_cons,List.append_assoc,List.cons_append,List.nil_append]
    cases inB _ 1 _ <;> cases inB _ 0 (iSub _ _ _) <;> cases inB _ 0 20000 <;> rfl
theorem peers47 (L:Int) (ps:List TPeer) (o:List Int) (hp:ps.length≤1048576) (F:(Int×List Int×Unit→Option (Bool×Unit))→Int×List Int×Unit→Option (Bool×Unit))
    (hF:∀ rec i,F rec (i,o,())=bif iLt i (lenI o) then idxK ps i fun y27=>idxK o i fun y28=>(bif (((iNe y27.1 y28 || !inB y27.2.1 1 (iAdd .i64 L 1)) || !inB y27.2.2.1 0 (iSub .i64 y27.2.1 1)) || !inB y27.2.2.2.1 0 20000) then some (false,()) else rec (iAdd .i64 i 1,o,())) else some (true,())) :
    (bif iNe (lenI ps) (lenI o) then some (false,()) else loopF F NN (0,o,()))=some (peersB L ps o,()):=by
  by_cases hlen:ps.length=o.length
  · have:iNe (lenI ps) (lenI o)=false:=by rw [iNe_def,lenI_def,lenI_def,hlen]; simp
    rw [this,cond_false]
    refine loop_list (xs:=ps) (a:=Unit) (σ:=Int×List Int×Unit) (fun i s=>(i,o,())) (fun n s=>True) (fun s r=>some (r.all (peerB L) && (r.map (·.1) == o.drop (ps.length - r.length)),())) (fun rec s hs=>?_) (fun rec n h' s hs hr=>?_) NN () trivial (NN_len (by omega)) |>.trans ?_
    · rw [hF,hlen]
      simp only [iLt_len,Nat.lt_irrefl,decide_false,cond_false,List.length_nil,Nat.sub_zero,List.drop_length,List.all_nil,List.map_nil]
      rfl
    · have ho:n < o.length:=by omega
      rw [hF]
      simp only [iLt_len,ho,decide_true,cond_true]
      rw [idxK_lt h',idxK_lt ho,iAdd_nat (by omega),hr () trivial]
      have e2:ps.length - (ps[n] :: ps.drop (n + 1)).length=n:=by simp; omega
      have e3:ps.length - (ps.drop (n + 1)).length=n + 1:=by simp; omega
      rw [e2,e3,List.drop_eq_getElem_cons ho]
      simp only [List.all_cons,peerB,List.map_cons,iNe_def]
      have:∀ (a b:Int) (u v:List Int),(a :: u == b :: v)=(a == b && u == v):=fun a b u v=>rfl
      rw [this]
      have:(ps[n].1 != o[n]) = !(ps[n].1 == o[n]):=rfl
      rw [this]
      cases ps[n].1 == o[n] <;> cases inB ps[n].2.1 1 _ <;> cases inB ps[n].2.2.1 0 _ <;> cases inB ps[n].2.2.2.1 0 20000 <;> simp
    · simp [peersB]
  · have:iNe (lenI ps) (lenI o)=true:=by rw [iNe_def,lenI_def,lenI_def]; simp; omega
    rw [this,cond_true,peersB]
    have:(ps.map (·.1) == o)=false:=by
      rw [beq_eq_false_iff_ne]
      intro e
      apply hlen
      rw [← e,List.length_map]
    rw [this,Bool.and_false]
theorem peersB_nil (L:Int) (ps:List TPeer):peersB L ps []=iEq (lenI ps) 0:=by
  rw [iEq_def,lenI_def]
  cases ps with
  | nil=>rfl
  | cons p r=>
    have:(((p :: r).length:Int) == 0)=false:=by simp; omega
    rw [this,peersB,List.map_cons]
    exact Bool.and_false _

def nLog (x:TNode):TLog:=(x.2.2.2.2.2.2.1,x.2.2.2.2.2.2.2.1,x.2.2.2.2.2.2.2.2.1,())
def restB (x:TNode):Bool:=bif iEq x.2.2.2.1 2 then peersB (x.2.2.2.2.2.2.1 + x.2.2.2.2.2.2.2.2.1.length) x.2.2.2.2.2.2.2.2.2.2.2.2.2.1 (othN x) else iEq (lenI x.2.2.2.2.2.2.2.2.2.2.2.2.2.1) 0
def nodeB (x:TNode) (T:Int):Bool:=(((inB x.1 1 4 && confB x.2.2.2.2.2.1) && ((inB x.2.1 T 100000 && inB x.2.2.1 0 4) && (inB x.2.2.2.2.1 0 4 && inB x.2.2.2.1 0 2))) &&
  ((inB x.2.2.2.2.2.2.2.2.2.1 x.2.2.2.2.2.2.1 (x.2.2.2.2.2.2.1 + x.2.2.2.2.2.2.2.2.1.length) && inB x.2.2.2.2.2.2.2.2.2.2.2.1 1 20) && inB x.2.2.2.2.2.2.2.2.2.2.1 0 20)) && ((riseP (fun n=>inB n 1 4) none x.2.2.2.2.2.2.2.2.2.2.2.2.1 && !(iNe x.2.2.2.1 1 && iGt (lenI x.2.2.2.2.2.2.2.2.2.2.2.2.1) 0)) && restB x)

theorem node45 (x:TNode) (h1:x.2.2.2.2.2.1.length≤1048576) (h2:x.2.2.2.2.2.2.2.2.1.length≤1048576) (h3:∀ y∈x.2.2.2.2.2.2.2.2.1,y.2.2.1.length≤1048576) (h4:x.2.2.2.2.2.2.2.2.2.2.2.2.1.length≤1048576) (h5:x.2.2.2.2.2.2.2.2.2.2.2.2.2.1.length≤1048576) :
    (logB (nLog x)=false∧F36 (x,())=some (false,())∧F20 (x,())=some (false,()))∨(logB (nLog x)=true∧∃ T,0≤T∧F36 (x,())=some (nodeB x T,())∧F20 (x,())=some (nodeB x T,())):=by
  have l1:=log111 (nLog x) h2 h3
  have l2:=log115 (nLog x) h2 h3
  have c1:=conf89 x.2.2.2.2.2.1 (Nat.le_trans h1 (by omega))
  have c2:=conf85 x.2.2.2.2.2.1 (Nat.le_trans h1 (by omega))
  cases hb:logB (nLog x) with
  | false=>
    refine .inl ⟨rfl,?_,?_⟩
    · unfold F36
      unfold nLog at l1 hb
      simp only [in87,c1,l1,hb,bindK_pure,cond_or,bNot_def,Bool.not_false,Bool.or_true,cond_true]
    · unfold F20
      unfold nLog at l2 hb
      simp only [in83,c2,l2,hb,bindK_pure,cond_or,bNot_def,Bool.not_false,Bool.or_true,Bool.true_or,cond_true]
  | true=>
    refine .inr ⟨rfl,?_⟩
    obtain ⟨T,t1,t2,t3⟩:=last_ok (nLog x) hb
    refine ⟨T,t3,?_⟩
    have hb':=hb
    simp only [logB,Bool.and_eq_true] at hb'
    have s1:=inB_iff.1 hb'.1.1
    have s2:x.2.2.2.2.2.2.2.2.1.length≤60:=by
      have:=hb'.2.1.1
      rw [iGt_def,lenI_def] at this
      have:((nLog x).2.2.1.length:Int)≤60:=by simpa using this
      exact_mod_cast this
    have hP:PRE x:=⟨h1,s1,h2,h3⟩
    have p1:=peers112 x hP s2 h5
    have p2:=conf119 x hP s2
    have p3:=others118 (cfN x 9223372036854775807) x.1 (cfN_len x hP _)
    constructor
    · unfold F36
      unfold nLog at l1 hb t1
      simp only [in87,c1,l1,hb,t1,p1,bindK_pure,cond_or,cond_and,bNot_def,Bool.not_true,Bool.or_false,Bool.and_true]
      have e:∀ L:Option (Bool×Unit),L=(bif riseP (fun n=>inB n 1 4) none x.2.2.2.2.2.2.2.2.2.2.2.2.1 then some (!(iNe x.2.2.2.1 1 && iGt (lenI x.2.2.2.2.2.2.2.2.2.2.2.2.1) 0) && restB x,()) else some (false,())) →
          (bif (!inB x.1 1 4 || !confB x.2.2.2.2.2.1) then some (false,()) else bif ((((((!inB x.2.1 T 100000 || !inB x.2.2.1 0 4) || !inB x.2.2.2.2.1 0 4) || !inB x.2.2.2.1 0 2) || !inB x.2.2.2.2.2.2.2.2.2.1 x.2.2.2.2.2.2.1 (x.2.2.2.2.2.2.1 + x.2.2.2.2.2.2.2.2.1.length)) || !inB x.2.2.2.2.2.2.2.2.2.2.2.1 1 20) || !inB x.2.2.2.2.2.2.2.2.2.2.1 0 20) then some (false,()) else L)=some (nodeB x T,()):=by
        intro L hL
        rw [hL,nodeB]
        simp only [cond_some,cond_pair]
        congr 2
        generalize inB x.1 1 4=a1; generalize confB _=a2; generalize inB x.2.1 T 100000=a3; generalize inB x.2.2.1 0 4=a4; generalize inB x.2.2.2.2.1 0 4=a5; generalize inB x.2.2.2.1 0 2=a6; generalize inB x.2.2.2.2.2.2.2.2.2.1 _ _=a7; generalize inB _ 1 20=a8; generalize inB _ 0 20=a9
        generalize riseP _ _ _=b1; generalize iNe _ _=b2; generalize iGt _ _=b3; generalize restB x=b4
        revert a1 a2 a3 a4 a5 a6 a7 a8 a9 b1 b2 b3 b4
        decide +kernel
      refine e _ ?_
      refine loop_rise _ _ _ (fun rec=>?_) (fun rec n h=>?_) (by omega)
      · simp only [iLt_len,Nat.lt_irrefl,decide_false,cond_false,restB]
        cases iNe x.2.2.2.1 1 <;> cases iGt _ 0 <;> cases iEq x.2.2.2.1 2 <;> rfl
      · simp only [iLt_len,h,decide_true,cond_true]
        rw [idxK_lt h,prev_get1 h _ (by omega),cond_or,bindK_pure,iAdd_nat (by omega)]
    · unfold F20
      have r1:=rise117 x.2.2.2.2.2.2.2.2.2.2.2.2.1 (by omega)
      unfold nLog at l2 hb t2
      simp only [in83,c2,l2,hb,t2,p2,p3,r1,bindK_pure,cond_or,cond_and,bNot_def,Bool.not_true,Bool.or_false,Bool.and_true,joinK_def]
      have e:∀ L M:Option (Bool×Unit),L=some (peersB (x.2.2.2.2.2.2.1 + x.2.2.2.2.2.2.2.2.1.length) x.2.2.2.2.2.2.2.2.2.2.2.2.2.1 (othN x),())→M=some (peersB (x.2.2.2.2.2.2.1 + x.2.2.2.2.2.2.2.2.1.length) x.2.2.2.2.2.2.2.2.2.2.2.2.2.1 [],()) →
          (bif (((((!inB x.1 1 4 || !confB x.2.2.2.2.2.1) || !inB x.2.1 0 100000) || !inB x.2.2.1 0 4) || !inB x.2.2.2.2.1 0 4) || !inB x.2.2.2.1 0 2) then some (false,()) else bif (((((iLt x.2.1 T || !inB x.2.2.2.2.2.2.2.2.2.1 x.2.2.2.2.2.2.1 (x.2.2.2.2.2.2.1 + x.2.2.2.2.2.2.2.2.1.length)) || !inB x.2.2.2.2.2.2.2.2.2.2.1 0 20) || !inB x.2.2.2.2.2.2.2.2.2.2.2.1 1 20) || !riseP (fun n=>inB n 1 4) none x.2.2.2.2.2.2.2.2.2.2.2.2.1) || (iGt (lenI x.2.2.2.2.2.2.2.2.2.2.2.2.1) 0 && iNe x.2.2.2.1 1)) then some (false,()) else bif iEq x.2.2.2.1 2 then L else M)=some (nodeB x T,()):=by
        intro L M hL hM
        have ht:inB x.2.1 T 100000=(inB x.2.1 0 100000 && !iLt x.2.1 T):=by
          rw [Bool.eq_iff_iff,Bool.and_eq_true,inB_iff,inB_iff,iLt_def]
          simp
          omega
        rw [hL,hM,peersB_nil,nodeB,ht,restB]
        simp only [cond_some,cond_pair]
        congr 2
        generalize inB x.1 1 4=a1; generalize confB _=a2; generalize inB x.2.1 0 100000=a3; generalize inB x.2.2.1 0 4=a4; generalize inB x.2.2.2.2.1 0 4=a5; generalize inB x.2.2.2.1 0 2=a6; generalize inB x.2.2.2.2.2.2.2.2.2.1 _ _=a7; generalize inB _ 1 20=a8; generalize inB _ 0 20=a9
        generalize riseP _ _ _=b1; generalize iNe _ _=b2; generalize iGt _ _=b3; generalize iLt _ _=b5; generalize (bif iEq x.2.2.2.1 2 then _ else _)=b4
        cases a1 <;> cases a2 <;> simp only [Bool.not_true,Bool.not_false,Bool.true_or,Bool.false_or,cond_true,Bool.false_and,Bool.true_and,Bool.and_false]
        revert a3 a4 a5 a6 a7 a8 a9 b1 b2 b3 b4 b5
        decide +kernel
      refine e _ _ ?_ ?_
      · exact peers47 _ _ _ h5 _ (fun rec i=>rfl)
      · exact peers47 _ _ _ h5 _ (fun rec i=>rfl)
end
end Go.Proofs.Ytofonninnabieaa.Tq

