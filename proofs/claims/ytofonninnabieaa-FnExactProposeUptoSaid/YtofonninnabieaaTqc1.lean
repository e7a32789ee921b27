/- Entries,logs and members of a node,asked in two ways. -/
import Derived.Test.YtofonninnabieaaTqb
import Derived.Test.YtofonninnabieaaG10
namespace Go.Proofs.Ytofonninnabieaa.Tq
open Go Go.Am
set_option linter.unusedVariables false
set_option linter.unusedSimpArgs false

noncomputable section
theorem in83 (x lo hi:Int):F59 (x,lo,hi,())=some (inB x lo hi,()):=in_ok x lo hi
theorem in87 (x lo hi:Int):F65 (x,lo,hi,())=some (inB x lo hi,()):=in_ok x lo hi
def confB (xs:List Int):Bool:=inB (lenI xs) 1 4 && riseP (fun n=>inB n 1 4) none xs
theorem rise117 (xs:List Int) (hl:xs.length≤4294967296):F75 (xs,1,4,())=some (riseP (fun n=>inB n 1 4) none xs,()):=by
  have e:some (riseP (fun n=>inB n 1 4) none xs,())=bif riseP (fun n=>inB n 1 4) none xs then some (true,()) else some (false,()):=by cases riseP _ _ _ <;> rfl
  rw [e]
  unfold F75
  refine loop_rise _ _ _ (fun rec=>?_) (fun rec n h=>?_) hl
  · simp only [iLt_len,Nat.lt_irrefl,decide_false,cond_false]
  · simp only [iLt_len,h,decide_true,cond_true]
    rw [idxK_lt h]
    simp only [in83,bindK_pure]
    have hb:∀ (b:Bool),(bif bNot b then some true else bindK (bif iGt (n:Int) 0 then idxK xs (iSub .i64 (n:Int) 1) fun y4=>idxK xs (n:Int) fun y5=>some (iGe y4 y5) else some false) fun y6=>some y6)=some (!b || geO (prevO xs n) xs[n]):=by
      intro b
      rw [prev_get h _ hl,bNot_def,cond_or]
    rw [hb,bindK_pure,iAdd_nat (by omega)]
theorem conf85 (xs:List Int) (hl:xs.length≤4294967296):F73 (xs,())=some (confB xs,()):=by
  unfold F73
  simp only [in83,rise117 xs hl,bindK_pure,cond_and,confB]
theorem conf89 (xs:List Int) (hl:xs.length≤4294967296):F82 (xs,())=some (confB xs,()):=by
  have e:some (confB xs,())=bif riseP (fun n=>inB n 1 4) none xs then some (inB (lenI xs) 1 4,()) else some (false,()):=by
    unfold confB; cases riseP _ _ _ <;> simp
  rw [e]
  unfold F82
  refine loop_rise _ _ _ (fun rec=>?_) (fun rec n h=>?_) hl
  · simp only [iLt_len,Nat.lt_irrefl,decide_false,cond_false,in87,bindK_pure]
  · simp only [iLt_len,h,decide_true,cond_true]
    rw [idxK_lt h]
    simp only [in87,bindK_pure]
    have hb:∀ (b:Bool),(bif bNot b then some true else bindK (bif iGt (n:Int) 0 then idxK xs (iSub .i64 (n:Int) 1) fun y4=>some (iGe y4 xs[n]) else some false) fun y6=>some y6)=some (!b || geO (prevO xs n) xs[n]):=by
      intro b
      rw [prev_get1 h _ hl,bNot_def,cond_or]
    rw [hb,bindK_pure,iAdd_nat (by omega)]
def toC (t:List UInt8):List Int:=t.map fun b=>iConv .i64 (byteI b)
def readC (t:List UInt8):List Int×Bool×Unit:=bif confB (toC t) then (toC t,true,()) else ([],false,())
theorem conf110 (t:List UInt8) (hl:t.length≤1048576):F85 (t,())=some (readC t):=by
  unfold F85
  refine loop_list (xs:=t) (a:=List Int) (fun i s=>(i,s,())) (fun n s=>s=toC (t.take n)) (fun s r=>some (bif confB (s++toC r) then (s++toC r,true,()) else ([],false,()))) (fun rec s hs=>?_) (fun rec n h s hs hr=>?_) NN [] (by simp [toC]) (NN_len (by omega))
  · simp only [iLt_len,Nat.lt_irrefl,decide_false,cond_false]
    subst hs
    rw [conf89 _ (by simp [toC]; omega),bindK_pure]
    simp only [toC,List.map_nil,List.append_nil,bNot_def]
    cases confB _ <;> rfl
  · subst hs
    simp only [iLt_len,h,decide_true,cond_true]
    rw [idxK_lt h,guardK_pos (gApp_pos (by simp [toC]; omega)),iAdd_nat (by omega),cat_def]
    rw [hr _ (by rw [List.take_succ_eq_append_getElem h]; simp only [toC,List.map_append,List.map_cons,List.map_nil])]
    simp only [toC,List.map_cons,List.append_assoc,List.cons_append,List.nil_append]
theorem conf133 (t:List UInt8) (hl:t.length≤1048576):F23 (t,())=some (readC t):=by
  unfold F23
  refine loop_eq (σ:=Int×List Int×Unit) (fun s=>∃ n:Nat,s.1=n∧n≤t.length∧n≤5∧s.2.1=toC (t.take n)) (fun s=>t.length - s.1.toNat) (fun _=>some (readC t)) (fun rec s hs hr=>?_) NN (0,[],()) ⟨0,rfl,by omega,by omega,by simp [toC]⟩ (NN_len (by omega))
  obtain ⟨n,h1,h2,h3,h4⟩:=hs
  obtain ⟨i,s,u⟩:=s
  simp only at h1 h4
  subst h1 h4
  simp only [cond_and,bindK_pure,iLt_len]
  by_cases hc:n < t.length∧n≤4
  · have hb:(decide (n < t.length) && iLe (n:Int) 4)=true:=by simp [iLe_def,hc.1]; omega
    rw [hb,cond_true,idxK_lt hc.1,guardK_pos (gApp_pos (by simp [toC]; omega)),iAdd_nat (by omega),cat_def]
    refine hr _ ⟨n + 1,rfl,by omega,by omega,?_⟩ ?_
    · rw [List.take_succ_eq_append_getElem hc.1]; simp only [toC,List.map_append,List.map_cons,List.map_nil]
    · simp only [Int.toNat_natCast]; omega
  · have hb:(decide (n < t.length) && iLe (n:Int) 4)=false:=by
      simp only [iLe_def,Bool.and_eq_false_iff,decide_eq_false_iff_not]
      by_cases h:n < t.length
      · right; omega
      · exact .inl h
    rw [hb,cond_false]
    have hlen:(toC (t.take n)).length=n:=by simp [toC]; omega
    rw [conf85 _ (by rw [hlen]; omega),bindK_pure,iNe_def,lenI_def,lenI_def,hlen,cond_or,bindK_pure,bNot_def]
    by_cases hn:n=t.length
    · have:t.take n=t:=by rw [hn,List.take_length]
      rw [this,readC]
      simp only [hn,bne_self_eq_false,Bool.false_or]
      cases confB (toC t) <;> rfl
    · have h5:(((n:Int)) != (t.length:Int))=true:=by simp; omega
      rw [h5,Bool.true_or,cond_true,readC]
      have:confB (toC t)=false:=by
        have:inB (lenI (toC t)) 1 4=false:=by
          rw [inB,lenI_def,iLe_def]
          simp only [toC,List.length_map,Bool.and_eq_false_iff,decide_eq_false_iff_not]
          right; omega
        rw [confB,this,Bool.false_and]
      rw [this]; rfl

def entryB (y:TEntry):Bool:=inB y.1 0 100000 && (bif iEq y.2.1 1 then strEq y.2.2.1 (litS []) else bif iEq y.2.1 2 then (readC y.2.2.1).2.1 else bif iEq y.2.1 3 then iLe (lenI y.2.2.1) 120 else false)
theorem entry146 (y:TEntry) (hl:y.2.2.1.length≤1048576):F21 (y,())=some (entryB y,()):=by
  unfold F21
  have h:=conf133 y.2.2.1 hl
  simp only [in83,bindK_pure,bNot_def,entryB]
  rw [show F23 y.2.2=some (readC y.2.2.1) from h,bindK_pure]
  cases inB y.1 0 100000 <;> cases iEq y.2.1 1 <;> cases iEq y.2.1 2 <;> cases iEq y.2.1 3 <;> rfl
theorem entry103 (y:TEntry) (hl:y.2.2.1.length≤1048576):F38 (y,())=some (entryB y,()):=by
  unfold F38
  have h:=conf110 y.2.2.1 hl
  simp only [in87,bindK_pure,bNot_def,entryB]
  rw [show F85 y.2.2=some (readC y.2.2.1) from h,bindK_pure]
  cases inB y.1 0 100000 <;> cases iEq y.2.1 1 <;> cases iEq y.2.1 2 <;> cases iEq y.2.1 3 <;> rfl


def entsB:Int→List TEntry→Bool
  | _,[]=>true
  | p,y :: r=>(entryB y && !iLt y.1 p) && entsB y.1 r
theorem entsB_mem:∀ {p:Int} {l:List TEntry},entsB p l=true→∀ y∈l,entryB y=true
  | _,[],_,y,h=>by simp at h
  | p,z :: r,e,y,h=>by
    simp only [entsB,Bool.and_eq_true] at e
    rcases List.mem_cons.1 h with rfl | h
    · exact e.1.1
    · exact entsB_mem e.2 y h
def logB (x:TLog):Bool:=(inB x.1 0 1000000 && inB x.2.1 0 100000) && ((!(iGt (lenI x.2.2.1) 60) && !(iGt (iAdd .i64 x.1 (lenI x.2.2.1)) 1000000)) && entsB x.2.1 x.2.2.1)
theorem log_if (a b c d e:Bool):(bif (((!a || !b) || c) || d) then some (false,()) else some (e,()))=some ((a && b) && ((!c && !d) && e),()):=by
  cases a <;> cases b <;> cases c <;> cases d <;> rfl
theorem log111 (x:TLog) (hl:x.2.2.1.length≤1048576) (he:∀ y∈x.2.2.1,y.2.2.1.length≤1048576):F83 (x,())=some (logB x,()):=by
  unfold F83
  simp only [in87,bindK_pure,cond_or,bNot_def]
  rw [logB,← log_if]
  congr 1
  refine loop_list (xs:=x.2.2.1) (a:=Int) (σ:=Int×Int×Unit) (fun i s=>(s,i,())) (fun n s=>True) (fun s r=>some (entsB s r,())) (fun rec s hs=>?_) (fun rec n h s hs hr=>?_) NN x.2.1 trivial (NN_len (by omega))
  · simp only [iLt_len,Nat.lt_irrefl,decide_false,cond_false,entsB]
  · simp only [iLt_len,h,decide_true,cond_true]
    rw [idxK_lt h,entry103 _ (he _ (List.getElem_mem h)),bindK_pure,iAdd_nat (by omega),hr _ trivial]
    simp only [entsB]
    cases entryB _ <;> cases iLt x.2.2.1[n].1 s <;> rfl
theorem log115 (x:TLog) (hl:x.2.2.1.length≤1048576) (he:∀ y∈x.2.2.1,y.2.2.1.length≤1048576):F74 (x,())=some (logB x,()):=by
  unfold F74
  simp only [in83,bindK_pure,cond_or,bNot_def]
  rw [logB,← log_if]
  congr 1
  refine loop_list (xs:=x.2.2.1) (a:=Int) (σ:=Int×Int×Unit) (fun i s=>(s,i,())) (fun n s=>True) (fun s r=>some (entsB s r,())) (fun rec s hs=>?_) (fun rec n h s hs hr=>?_) NN x.2.1 trivial (NN_len (by omega))
  · simp only [iLt_len,Nat.lt_irrefl,decide_false,cond_false,entsB]
  · simp only [iLt_len,h,decide_true,cond_true,idxK_lt h,entry146 _ (he _ (List.getElem_mem h)),bindK_pure,cond_or]
    rw [iAdd_nat (by omega),hr _ trivial]
    simp only [entsB]
    cases entryB _ <;> cases iLt x.2.2.1[n].1 s <;> rfl
theorem last_ok (x:TLog) (hb:logB x=true):∃ r:Int,F70 (x,())=some (x.1 + x.2.2.1.length,r,())∧F63 (x,())=some (x.1 + x.2.2.1.length,r,())∧0≤r:=by
  have e:F63 (x,())=F70 (x,()):=rfl
  rw [e]
  simp only [logB,Bool.and_eq_true] at hb
  have h1:=inB_iff.1 hb.1.1
  have h2:=inB_iff.1 hb.1.2
  have h3:=hb.2.1.1
  rw [iGt_def,lenI_def] at h3
  have h3:(x.2.2.1.length:Int)≤60:=by simpa using h3
  unfold F70
  cases hx:x.2.2.1 with
  | nil=>
    refine ⟨x.2.1,?_,?_,h2.1⟩ <;> simp [iEq_def,lenI_def]
  | cons y r=>
    have hl:(y :: r).length=r.length + 1:=rfl
    have e0:iEq (lenI (y :: r)) 0=false:=by rw [iEq_def,lenI_def,hl]; simp; omega
    rw [hx,hl] at h3
    have hi:iSub .i64 (lenI (y :: r)) 1=((r.length:Nat):Int):=by
      rw [lenI_def,hl,iSub64 (by omega)]; omega
    simp only [hx,e0,cond_false,hi,idxK_lt (show r.length < (y :: r).length by omega)]
    rw [iAdd64 (by rw [lenI_def,hl]; omega),lenI_def]
    refine ⟨(y :: r)[r.length].1,rfl,rfl,?_⟩
    have hm:=entsB_mem hb.2.2 (y :: r)[r.length] (by rw [hx]; exact List.getElem_mem _)
    simp only [entryB,Bool.and_eq_true] at hm
    exact (inB_iff.1 hm.1).1

def hit (a i:Int) (y:TEntry):Bool:=((readC y.2.2.1).2.1 && iEq y.2.1 2) && iLe i a
def cfa (a:Int):List Int→Int→List TEntry→List Int
  | c,_,[]=>c
  | c,i,y :: r=>cfa a (bif hit a i y then (readC y.2.2.1).1 else c) (i + 1) r
theorem cfa_append {a:Int} {y:TEntry}:∀ {l:List TEntry} {c:List Int} {i:Int},cfa a c i (l++[y])=bif hit a (i + l.length) y then (readC y.2.2.1).1 else cfa a c i l
  | [],c,i=>by simp [cfa]
  | z :: r,c,i=>by
    simp only [List.cons_append,cfa]
    rw [cfa_append]
    have:i + 1 + (r.length:Int)=i + ((z :: r).length:Int):=by rw [List.length_cons]; omega
    rw [this]
theorem cfa_late {a:Int}:∀ {l:List TEntry} {c:List Int} {i:Int},a < i→cfa a c i l=c
  | [],c,i,h=>rfl
  | z :: r,c,i,h=>by
    simp only [cfa]
    have:hit a i z=false:=by
      rw [hit,iLe_def,decide_eq_false (by omega),Bool.and_false]
    rw [this,cond_false]
    exact cfa_late (by omega)
theorem cfa_len {a:Int} {N:Nat}:∀ {l:List TEntry} {c:List Int} {i:Int},c.length≤N→(∀ y∈l,y.2.2.1.length≤N)→(cfa a c i l).length≤N
  | [],c,i,h,_=>h
  | z :: r,c,i,h,hr=>by
    simp only [cfa]
    refine cfa_len ?_ (fun y hy=>hr y (List.mem_cons_of_mem _ hy))
    cases hit a i z with
    | false=>exact h
    | true=>
      rw [cond_true,readC]
      cases confB (toC z.2.2.1) with
      | false=>simp
      | true=>rw [cond_true]; simp only [toC,List.length_map]; exact hr z (List.mem_cons_self)
def cfN (x:TNode) (a:Int):List Int:=cfa a x.2.2.2.2.2.1 (x.2.2.2.2.2.2.1 + 1) x.2.2.2.2.2.2.2.2.1
theorem conf44 (x:TNode) (a:Int) (hc:x.2.2.2.2.2.1.length≤1048576) (hs:0≤x.2.2.2.2.2.2.1∧x.2.2.2.2.2.2.1≤1000000) (hl:x.2.2.2.2.2.2.2.2.1.length≤1048576) (he:∀ y∈x.2.2.2.2.2.2.2.2.1,y.2.2.1.length≤1048576):F96 (x,a,())=some (cfN x a,()):=by
  unfold F96
  have h0:iSub .i64 (lenI x.2.2.2.2.2.2.2.2.1) 1=(x.2.2.2.2.2.2.2.2.1.length:Int) - 1:=by rw [lenI_def,iSub64 (by omega)]
  rw [h0]
  have key:=loop_eq (σ:=Int×Unit) (ρ:=List Int×Unit) (F:=fun rec0 (s1:Int×Unit)=>bif iGe s1.1 0 then idxK x.2.2.2.2.2.2.2.2.1 s1.1 fun y2=>bindK (F85 y2.2.2) fun y3=>bindK (bif y3.2.1 then some (iEq y2.2.1 2) else some false) fun y4=>bindK (bif y4 then some (iLe (iAdd .i64 (iAdd .i64 x.2.2.2.2.2.2.1 s1.1) 1) a) else some false) fun y5=>bif y5 then some (y3.1,()) else rec0 (iSub .i64 s1.1 1,()) else guardK (gApp [] x.2.2.2.2.2.1 1) <| some (cat [] x.2.2.2.2.2.1,()))
    (fun s=>∃ k:Nat,s.1=(k:Int) - 1∧k≤x.2.2.2.2.2.2.2.2.1.length) (fun s=>(s.1 + 1).toNat) (fun s=>some (cfa a x.2.2.2.2.2.1 (x.2.2.2.2.2.2.1 + 1) (x.2.2.2.2.2.2.2.2.1.take (s.1 + 1).toNat),())) (fun rec s hs' hr=>?_) NN ((x.2.2.2.2.2.2.2.2.1.length:Int) - 1,()) ⟨_,rfl,Nat.le_refl _⟩ (NN_len (by show ((x.2.2.2.2.2.2.2.2.1.length:Int) - 1 + 1).toNat≤_; omega))
  · rw [key]
    have:((x.2.2.2.2.2.2.2.2.1.length:Int) - 1 + 1).toNat=x.2.2.2.2.2.2.2.2.1.length:=by omega
    simp only [this,List.take_length,cfN]
  · obtain ⟨k,h1,h2⟩:=hs'
    obtain ⟨i,u⟩:=s
    simp only at h1
    subst h1
    cases k with
    | zero=>
      have:iGe ((0:Nat) - 1:Int) 0=false:=by rw [iGe_def]; simp
      simp only [this,cond_false]
      rw [guardK_pos (gApp_pos (by simp; omega)),cat_def]
      simp [cfa]
    | succ k=>
      have ek:(((k + 1:Nat):Int) - 1)=(k:Int):=by omega
      have et:(((k + 1:Nat):Int) - 1 + 1).toNat=k + 1:=by omega
      have hk:k < x.2.2.2.2.2.2.2.2.1.length:=by omega
      have:iGe (k:Int) 0=true:=by rw [iGe_def]; simp
      dsimp only
      rw [et]
      simp only [ek,this,cond_true]
      rw [idxK_lt hk,show F85 x.2.2.2.2.2.2.2.2.1[k].2.2=some (readC x.2.2.2.2.2.2.2.2.1[k].2.2.1) from conf110 _ (he _ (List.getElem_mem hk)),bindK_pure,cond_and,bindK_pure,cond_and,bindK_pure]
      have e1:iAdd .i64 (iAdd .i64 x.2.2.2.2.2.2.1 (k:Int)) 1=x.2.2.2.2.2.2.1 + 1 + (x.2.2.2.2.2.2.2.2.1.take k).length:=by
        rw [iAdd64 (a:=x.2.2.2.2.2.2.1) (b:=(k:Int)) (by omega),iAdd64 (by omega),List.length_take]; omega
      rw [e1,List.take_succ_eq_append_getElem hk,cfa_append,iSub64 (by omega)]
      have:(((readC x.2.2.2.2.2.2.2.2.1[k].2.2.1).2.1 && iEq x.2.2.2.2.2.2.2.2.1[k].2.1 2) && iLe (x.2.2.2.2.2.2.1 + 1 + (x.2.2.2.2.2.2.2.2.1.take k).length) a)=hit a (x.2.2.2.2.2.2.1 + 1 + (x.2.2.2.2.2.2.2.2.1.take k).length) x.2.2.2.2.2.2.2.2.1[k]:=rfl
      rw [this]
      cases hit _ _ _ with
      | true=>rfl
      | false=>
        rw [cond_false,cond_false,hr _ ⟨k,rfl,by omega⟩ (by simp only; omega)]
        have:((k:Int) - 1 + 1).toNat=k:=by omega
        simp only [this]
theorem conf143 (x:TNode) (a:Int) (hc:x.2.2.2.2.2.1.length≤1048576) (hs:0≤x.2.2.2.2.2.2.1∧x.2.2.2.2.2.2.1≤1000000) (hl:x.2.2.2.2.2.2.2.2.1.length≤1048576) (he:∀ y∈x.2.2.2.2.2.2.2.2.1,y.2.2.1.length≤1048576):F76 (x,a,())=some (cfN x a,()):=by
  unfold F76
  rw [guardK_pos (gApp_pos (by simp; omega)),cat_def,List.nil_append]
  refine loop_list (xs:=x.2.2.2.2.2.2.2.2.1) (a:=List Int) (σ:=Int×List Int×Unit) (fun i s=>(i,s,())) (fun n s=>True) (fun s r=>some (cfa a s (x.2.2.2.2.2.2.1 + 1 + (x.2.2.2.2.2.2.2.2.1.length - r.length:Nat)) r,())) (fun rec s hs'=>?_) (fun rec n h s hs' hr=>?_) NN x.2.2.2.2.2.1 trivial (NN_len (by omega)) |>.trans ?_
  · simp only [iLt_len,Nat.lt_irrefl,decide_false,cond_false,bindK_pure,cfa]
  · simp only [iLt_len,h,decide_true,cond_true,bindK_pure]
    have e1:iAdd .i64 (iAdd .i64 x.2.2.2.2.2.2.1 1) (n:Int)=x.2.2.2.2.2.2.1 + 1 + n:=by
      rw [iAdd64 (a:=x.2.2.2.2.2.2.1) (b:=1) (by omega),iAdd64 (by omega)]
    have e2:(x.2.2.2.2.2.2.2.2.1.length - (x.2.2.2.2.2.2.2.2.1[n] :: x.2.2.2.2.2.2.2.2.1.drop (n + 1)).length:Nat)=n:=by simp; omega
    have e3:(x.2.2.2.2.2.2.2.2.1.length - (x.2.2.2.2.2.2.2.2.1.drop (n + 1)).length:Nat)=n + 1:=by simp; omega
    rw [e1,e2]
    by_cases hle:x.2.2.2.2.2.2.1 + 1 + n≤a
    · have:iLe (x.2.2.2.2.2.2.1 + 1 + n) a=true:=by rw [iLe_def,decide_eq_true hle]
      rw [this,cond_true]
      simp only [idxK_lt h,joinK_def,show F23 x.2.2.2.2.2.2.2.2.1[n].2.2=some (readC x.2.2.2.2.2.2.2.2.1[n].2.2.1) from conf133 _ (he _ (List.getElem_mem h)),bindK_pure,iAdd_nat (show n≤4294967296 by omega)]
      simp only [hr _ trivial,e3,cfa,hit,this,Bool.and_true]
      have e4:x.2.2.2.2.2.2.1 + 1 + ((n + 1:Nat):Int)=x.2.2.2.2.2.2.1 + 1 + n + 1:=by omega
      rw [e4]
      cases iEq x.2.2.2.2.2.2.2.2.1[n].2.1 2 <;> cases (readC x.2.2.2.2.2.2.2.2.1[n].2.2.1).2.1 <;> rfl
    · have:iLe (x.2.2.2.2.2.2.1 + 1 + n) a=false:=by rw [iLe_def,decide_eq_false hle]
      rw [this,cond_false,cfa_late (by omega)]
  · simp only [Nat.sub_self,cfN]
    rw [show x.2.2.2.2.2.2.1 + 1 + ((0:Nat):Int)=x.2.2.2.2.2.2.1 + 1 by omega]
end
end Go.Proofs.Ytofonninnabieaa.Tq

