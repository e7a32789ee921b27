/- What of a node's log holds,asked in two ways. -/
import Derived.Test.YtofonninnabieaaTqc6
namespace Go.Proofs.Ytofonninnabieaa.Tq
open Go Go.Am
set_option linter.unusedVariables false
set_option linter.unusedSimpArgs false

noncomputable section
theorem bk {α β:Type} {o:Option α} {a:α} {k:α→Option β} {r:Option β} (h:o=some a) (h2:k a=r):bindK o k=r:=by rw [h,bindK_pure]; exact h2
def lc (d:Int):Int→List TEntry→Int
  | _,[]=>d
  | i,y :: ys=>lc (bif iEq y.2.1 2 then i else d) (i + 1) ys
theorem lc_append {y:TEntry}:∀ {l:List TEntry} {d i:Int},lc d i (l++[y])=bif iEq y.2.1 2 then i + l.length else lc d i l
  | [],d,i=>by simp [lc]
  | x :: l,d,i=>by
    rw [List.cons_append,lc,lc_append,lc,List.length_cons]
    rw [show i + 1 + (l.length:Int)=i + ((l.length + 1:Nat):Int) by omega]
theorem lc_le {c:Int}:∀ {l:List TEntry} {d d' i:Int},d≤c→d'≤c→iLe (lc d i l) c=iLe (lc d' i l) c
  | [],d,d',i,h,h'=>by simp [lc,iLe_def,h,h']
  | x :: l,d,d',i,h,h'=>by
    rw [lc,lc]
    cases iEq x.2.1 2 with
    | true=>rfl
    | false=>exact lc_le h h'
abbrev big:Int:=9223372036854775807

theorem ci25 (n:TNode) (hs:0≤n.2.2.2.2.2.2.1∧n.2.2.2.2.2.2.1≤1000000) (hl:n.2.2.2.2.2.2.2.2.1.length≤60):F25 (n,())=some (lc n.2.2.2.2.2.2.1 (n.2.2.2.2.2.2.1 + 1) n.2.2.2.2.2.2.2.2.1,()):=by
  unfold F25
  refine loop_list (xs:=n.2.2.2.2.2.2.2.2.1) (a:=Int) (fun i s=>(i,s,())) (fun _ _=>True) (fun s q=>some (lc s (n.2.2.2.2.2.2.1 + 1 + ((n.2.2.2.2.2.2.2.2.1.length - q.length:Nat):Int)) q,())) (fun rec s _=>?_) (fun rec k h s _ hr=>?_) NN _ trivial (NN_len (by omega)) |>.trans ?_
  · simp only [lenI_def,iLt_nat,Nat.lt_irrefl,decide_false,cond_false,lc]
  · simp only [iLt_len,h,decide_true,cond_true,joinK_def]
    rw [idxK_lt h,iAdd_nat (by omega),hr _ trivial,hr _ trivial,iAdd64 (a:=n.2.2.2.2.2.2.1) (b:=1) (by omega),iAdd64 (by omega)]
    simp only [List.length_cons,List.length_drop,lc]
    rw [show n.2.2.2.2.2.2.2.2.1.length - (n.2.2.2.2.2.2.2.2.1.length - (k + 1))=k + 1 by omega,show n.2.2.2.2.2.2.2.2.1.length - (n.2.2.2.2.2.2.2.2.1.length - (k + 1) + 1)=k by omega,show n.2.2.2.2.2.2.1 + 1 + (k:Int) + 1=n.2.2.2.2.2.2.1 + 1 + ((k + 1:Nat):Int) by omega]
    cases iEq n.2.2.2.2.2.2.2.2.1[k].2.1 2 <;> rfl
  · simp only [Nat.sub_self]
    rw [show n.2.2.2.2.2.2.1 + 1 + ((0:Nat):Int)=n.2.2.2.2.2.2.1 + 1 by omega]
theorem ci87 (n:TNode) (hs:0≤n.2.2.2.2.2.2.1∧n.2.2.2.2.2.2.1≤1000000) (hl:n.2.2.2.2.2.2.2.2.1.length≤60):F87 (nLog n,())=some (lc 0 (n.2.2.2.2.2.2.1 + 1) n.2.2.2.2.2.2.2.2.1,()):=by
  unfold F87
  simp only [nLog,lenI_def]
  rw [iSub64 (by omega)]
  refine (loop_eq (σ:=Int×Unit) (fun s=>∃ k:Nat,k≤n.2.2.2.2.2.2.2.2.1.length∧s=((k:Int) - 1,())∧lc 0 (n.2.2.2.2.2.2.1 + 1) (n.2.2.2.2.2.2.2.2.1.take k)=lc 0 (n.2.2.2.2.2.2.1 + 1) n.2.2.2.2.2.2.2.2.1) (fun s=>(s.1 + 1).toNat) (fun _=>some (lc 0 (n.2.2.2.2.2.2.1 + 1) n.2.2.2.2.2.2.2.2.1,())) (fun rec s hP hr=>?_) NN _ ⟨n.2.2.2.2.2.2.2.2.1.length,Nat.le_refl _,rfl,by rw [List.take_length]⟩ (NN_len (by show ((n.2.2.2.2.2.2.2.2.1.length:Int) - 1 + 1).toNat≤_; omega)))
  obtain ⟨k,hk,rfl,he⟩:=hP
  cases k with
  | zero=>
    have:iGe (((0:Nat):Int) - 1) 0=false:=by rw [iGe_def,decide_eq_false]; omega
    simp only [this,cond_false]
    rw [← he]; rfl
  | succ k=>
    have:iGe (((k + 1:Nat):Int) - 1) 0=true:=by rw [iGe_def,decide_eq_true]; omega
    have e1:((k + 1:Nat):Int) - 1=(k:Int):=by omega
    rw [e1] at this
    simp only [e1,this,cond_true]
    rw [idxK_lt hk,iAdd64 (a:=n.2.2.2.2.2.2.1) (b:=(k:Int)) (by omega),iAdd64 (by omega),iSub64 (by omega)]
    rw [List.take_succ_eq_append_getElem hk,lc_append,List.length_take,Nat.min_eq_left (by omega)] at he
    cases hh:iEq n.2.2.2.2.2.2.2.2.1[k].2.1 2 with
    | true=>
      rw [hh,cond_true] at he
      simp only [cond_true]
      rw [← he,show n.2.2.2.2.2.2.1 + (k:Int) + 1=n.2.2.2.2.2.2.1 + 1 + k by omega]
    | false=>
      rw [hh,cond_false] at he
      simp only [cond_false]
      exact hr ((k:Int) - 1,()) ⟨k,by omega,rfl,he⟩ (by show ((k:Int) - 1 + 1).toNat < (((k + 1:Nat):Int) - 1 + 1).toNat; omega)

abbrev setC (n:TNode) (c:Int):TNode:=(n.1,n.2.1,n.2.2.1,n.2.2.2.1,n.2.2.2.2.1,n.2.2.2.2.2.1,n.2.2.2.2.2.2.1,n.2.2.2.2.2.2.2.1,n.2.2.2.2.2.2.2.2.1,c,n.2.2.2.2.2.2.2.2.2.2.1,n.2.2.2.2.2.2.2.2.2.2.2.1,n.2.2.2.2.2.2.2.2.2.2.2.2.1,n.2.2.2.2.2.2.2.2.2.2.2.2.2.1,())
abbrev fol (n:TNode):TNode:=(n.1,n.2.1,n.2.2.1,0,0,n.2.2.2.2.2.1,n.2.2.2.2.2.2.1,n.2.2.2.2.2.2.2.1,n.2.2.2.2.2.2.2.2.1,n.2.2.2.2.2.2.2.2.2.1,n.2.2.2.2.2.2.2.2.2.2.1,n.2.2.2.2.2.2.2.2.2.2.2.1,[],[],())
def folB (n:TNode):Bool:=(iEq n.2.2.2.1 2 && !inL (cfN n big) n.1) && iLe (lc n.2.2.2.2.2.2.1 (n.2.2.2.2.2.2.1 + 1) n.2.2.2.2.2.2.2.2.1) n.2.2.2.2.2.2.2.2.2.1
def endN (n:TNode):TNode:=bif folB n then fol n else n
structure NC (n:TNode):Prop where
  i:NI n
  c:n.2.2.2.2.2.2.1≤n.2.2.2.2.2.2.2.2.2.1∧n.2.2.2.2.2.2.2.2.2.1≤n.2.2.2.2.2.2.1 + n.2.2.2.2.2.2.2.2.1.length
  v:iEq n.2.2.2.1 2=true→n.2.2.2.2.2.2.2.2.2.2.2.2.1=[]
theorem exit31 (n:TNode) (h:NC n) (out:List TMessage) :
    (bindK (bif iEq n.2.2.2.1 2 then bindK (F60 (cfN n big,n.1,())) (fun y15=>some (bNot y15.1)) else some false) fun y16=>
    bindK (bif y16 then bindK (F25 ((n.1,n.2.1,n.2.2.1,n.2.2.2.1,n.2.2.2.2.1,n.2.2.2.2.2.1,n.2.2.2.2.2.2.1,n.2.2.2.2.2.2.2.1,n.2.2.2.2.2.2.2.2.1,n.2.2.2.2.2.2.2.2.2.1,n.2.2.2.2.2.2.2.2.2.2.1,n.2.2.2.2.2.2.2.2.2.2.2.1,n.2.2.2.2.2.2.2.2.2.2.2.2.1,n.2.2.2.2.2.2.2.2.2.2.2.2.2.1,()),())) (fun y17=>some (iLe y17.1 n.2.2.2.2.2.2.2.2.2.1)) else some false) fun y18=>
    bif y18 then bindK (F78 (co n out,0,())) (fun y19=>some y19) else some (co n out,()))=some (co (endN n) out,()):=by
  have hc:=cfN_len n h.i.pre big
  have h1:F60 (cfN n big,n.1,())=some (inL (cfN n big) n.1,()):=in60 _ _ (by omega)
  have h2:F25 ((n.1,n.2.1,n.2.2.1,n.2.2.2.1,n.2.2.2.2.1,n.2.2.2.2.2.1,n.2.2.2.2.2.2.1,n.2.2.2.2.2.2.2.1,n.2.2.2.2.2.2.2.2.1,n.2.2.2.2.2.2.2.2.2.1,n.2.2.2.2.2.2.2.2.2.2.1,n.2.2.2.2.2.2.2.2.2.2.2.1,n.2.2.2.2.2.2.2.2.2.2.2.2.1,n.2.2.2.2.2.2.2.2.2.2.2.2.2.1,()),())=_:=ci25 n h.i.s h.i.e
  unfold endN folB
  cases hr:iEq n.2.2.2.1 2 with
  | false=>simp only [cond_false,bindK_pure,Bool.false_and]
  | true=>
    simp only [cond_true,h1,bindK_pure,Bool.true_and,bNot_def]
    cases inL (cfN n big) n.1 with
    | true=>simp only [Bool.not_true,cond_false,bindK_pure,Bool.false_and]
    | false=>
      simp only [Bool.not_false,cond_true,h2,bindK_pure,Bool.true_and]
      cases iLe (lc n.2.2.2.2.2.2.1 (n.2.2.2.2.2.2.1 + 1) n.2.2.2.2.2.2.2.2.1) n.2.2.2.2.2.2.2.2.2.1 with
      | false=>rfl
      | true=>exact bk (a:=(co (fol n) out,())) rfl rfl
theorem exit44 (n:TNode) (h:NC n) (out:List TMessage) :
    (bif iEq n.2.2.2.1 2 then bindK (F66 ((n.1,n.2.1,n.2.2.1,n.2.2.2.1,n.2.2.2.2.1,n.2.2.2.2.2.1,n.2.2.2.2.2.2.1,n.2.2.2.2.2.2.2.1,n.2.2.2.2.2.2.2.2.1,n.2.2.2.2.2.2.2.2.2.1,n.2.2.2.2.2.2.2.2.2.2.1,n.2.2.2.2.2.2.2.2.2.2.2.1,n.2.2.2.2.2.2.2.2.2.2.2.2.1,n.2.2.2.2.2.2.2.2.2.2.2.2.2.1,()),())) fun y2=>bindK (F67 (y2.1,n.1,())) fun y3=>
    bif bNot y3.1 then bindK (F87 ((n.2.2.2.2.2.2.1,n.2.2.2.2.2.2.2.1,n.2.2.2.2.2.2.2.2.1,()),())) fun y4=>
    bif iLe y4.1 n.2.2.2.2.2.2.2.2.2.1 then some ((n.1,n.2.1,n.2.2.1,0,0,n.2.2.2.2.2.1,n.2.2.2.2.2.2.1,n.2.2.2.2.2.2.2.1,n.2.2.2.2.2.2.2.2.1,n.2.2.2.2.2.2.2.2.2.1,n.2.2.2.2.2.2.2.2.2.2.1,n.2.2.2.2.2.2.2.2.2.2.2.1,n.2.2.2.2.2.2.2.2.2.2.2.2.1,[],out,()),()) else some (co n out,()) else some (co n out,()) else some (co n out,()))=some (co (endN n) out,()):=by
  have hc:=cfN_len n h.i.pre big
  have h0:F66 ((n.1,n.2.1,n.2.2.1,n.2.2.2.1,n.2.2.2.2.1,n.2.2.2.2.2.1,n.2.2.2.2.2.2.1,n.2.2.2.2.2.2.2.1,n.2.2.2.2.2.2.2.2.1,n.2.2.2.2.2.2.2.2.2.1,n.2.2.2.2.2.2.2.2.2.2.1,n.2.2.2.2.2.2.2.2.2.2.2.1,n.2.2.2.2.2.2.2.2.2.2.2.2.1,n.2.2.2.2.2.2.2.2.2.2.2.2.2.1,()),())=_:=conf43 n h.i.pre h.i.e
  have h1:F67 (cfN n big,n.1,())=some (inL (cfN n big) n.1,()):=in67 _ _ (by omega)
  have h2:F87 ((n.2.2.2.2.2.2.1,n.2.2.2.2.2.2.2.1,n.2.2.2.2.2.2.2.2.1,()),())=_:=ci87 n h.i.s h.i.e
  have h3:=h.c
  have h4:=h.i.s
  have h5:=lc_le (l:=n.2.2.2.2.2.2.2.2.1) (c:=n.2.2.2.2.2.2.2.2.2.1) (d:=n.2.2.2.2.2.2.1) (d':=0) (i:=n.2.2.2.2.2.2.1 + 1) (by omega) (by omega)
  have hv:=h.v
  unfold endN folB
  rw [h5]
  cases hr:iEq n.2.2.2.1 2 with
  | false=>simp only [cond_false,Bool.false_and]
  | true=>
    simp only [cond_true,h0,h1,h2,bindK_pure,Bool.true_and,bNot_def]
    cases inL (cfN n big) n.1 with
    | true=>simp only [Bool.not_true,cond_false,Bool.false_and]
    | false=>
      simp only [Bool.not_false,cond_true,h2,bindK_pure,Bool.true_and]
      cases iLe (lc 0 (n.2.2.2.2.2.2.1 + 1) n.2.2.2.2.2.2.2.2.1) n.2.2.2.2.2.2.2.2.2.1 with
      | false=>rfl
      | true=>
        simp only [cond_true]
        rw [hv hr]
def agr (n:TNode) (i:Int):List Int:=n.1 :: (n.2.2.2.2.2.2.2.2.2.2.2.2.2.1.filter fun p=>iGe p.2.2.1 i).map (·.1)
def goodB (n:TNode) (i:Int):Bool:=iEq (termN n i) n.2.1 && mostB (cfN n big) (agr n i)
def pickN (n:TNode) (c:Int):Nat→Int
  | 0=>c
  | d + 1=>bif goodB n (c + d + 1) then c + d + 1 else pickN n c d
theorem pickN_le (n:TNode) {c:Int}:∀ d:Nat,c≤pickN n c d∧pickN n c d≤c + d
  | 0=>by simp [pickN]
  | d + 1=>by
    have:=pickN_le n (c:=c) d
    unfold pickN
    cases goodB n (c + d + 1) with
    | true=>simp only [cond_true]; omega
    | false=>simp only [cond_false]; omega
theorem NC.setC {n:TNode} (h:NC n) {c:Int} (hc:n.2.2.2.2.2.2.1≤c∧c≤n.2.2.2.2.2.2.1 + n.2.2.2.2.2.2.2.2.1.length):NC (setC n c):=⟨⟨h.i.c,h.i.s,h.i.e,h.i.t,h.i.p,h.i.n⟩,hc,h.v⟩
def comN (n:TNode):TNode:=endN (setC n (pickN n n.2.2.2.2.2.2.2.2.2.1 (n.2.2.2.2.2.2.1 + n.2.2.2.2.2.2.2.2.1.length - n.2.2.2.2.2.2.2.2.2.1).toNat))
theorem com31 (n:TNode) (h:NC n) (out:List TMessage):F31 (co n out,())=some (co (comN n) out,()):=by
  have hc0:=h.c
  have hs:=h.i.s
  have he:=h.i.e
  have hp:=h.i.p
  have hcf:=cfN_len n h.i.pre big
  unfold F31
  refine bk (conf119 n h.i.pre h.i.e) ?_
  refine bk (a:=(n.2.2.2.2.2.2.1 + n.2.2.2.2.2.2.2.2.1.length,())) (by unfold F29; simp only [lenI_def]; rw [iAdd64 (by omega)]) ?_

  refine (loop_eq (σ:=Int×TCore×List Int×Unit) (fun s=>∃ (c:Int) (d:Nat),(n.2.2.2.2.2.2.1≤c∧c≤n.2.2.2.2.2.2.1 + n.2.2.2.2.2.2.2.2.1.length)∧c - 1 + d≤n.2.2.2.2.2.2.1 + n.2.2.2.2.2.2.2.2.1.length∧s=(c - 1 + d,co (setC n c) out,cfN n big,())) (fun s=>(s.1 + 1).toNat)
    (fun s=>some (co (endN (setC n (pickN n s.2.1.2.2.2.2.2.2.2.2.2.1 (s.1 - s.2.1.2.2.2.2.2.2.2.2.2.1).toNat))) out,())) (fun rec s hP hr=>?_) NN (n.2.2.2.2.2.2.1 + n.2.2.2.2.2.2.2.2.1.length,co n out,cfN n big,()) ⟨n.2.2.2.2.2.2.2.2.2.1,(n.2.2.2.2.2.2.1 + n.2.2.2.2.2.2.2.2.1.length + 1 - n.2.2.2.2.2.2.2.2.2.1).toNat,hc0,by omega,by rw [show n.2.2.2.2.2.2.2.2.2.1 - 1 + ((n.2.2.2.2.2.2.1 + n.2.2.2.2.2.2.2.2.1.length + 1 - n.2.2.2.2.2.2.2.2.2.1).toNat:Int)=n.2.2.2.2.2.2.1 + n.2.2.2.2.2.2.2.2.1.length by omega]⟩ (NN_len (by show (n.2.2.2.2.2.2.1 + (n.2.2.2.2.2.2.2.2.1.length:Int) + 1).toNat≤_; omega)))
  obtain ⟨c,d,h1,h2,rfl⟩:=hP
  have hN:=h.setC h1
  by_cases hd:d≤1
  · have:iGt (c - 1 + (d:Int)) c=false:=by rw [iGt_def,decide_eq_false]; omega
    simp only [this,cond_false]
    rw [show (c - 1 + (d:Int) - c).toNat=0 by omega]
    exact exit31 (setC n c) hN out
  · obtain ⟨e,rfl⟩:∃ e,d=e + 2:=⟨d - 2,by omega⟩
    have hi:c - 1 + ((e + 2:Nat):Int)=c + e + 1:=by omega
    simp only [hi] at h2 ⊢
    have hg:iGt (c + (e:Int) + 1) c=true:=by rw [iGt_def,decide_eq_true]; omega
    simp only [hg,cond_true]
    rw [show (c + (e:Int) + 1 - c).toNat=e + 1 by omega]
    have ht:=term1 n h.i (c + e + 1) (by omega)
    refine (loop_list (xs:=n.2.2.2.2.2.2.2.2.2.2.2.2.2.1) (a:=List Int) (fun j l=>(j,co (setC n c) out,l,cfN n big,())) (fun k l=>l.length≤k + 1)
      (fun l q=>some (co (endN (setC n (bif iEq (termN n (c + e + 1)) n.2.1 && mostB (cfN n big) (l++(q.filter fun p=>iGe p.2.2.1 (c + e + 1)).map (·.1)) then c + e + 1 else pickN n c e))) out,())) (fun rec2 l hl=>?_) (fun rec2 k hk l hl hr2=>?_) NN [n.1] (by simp) (NN_len (by omega)))
    · simp only [lenI_def,iLt_nat,Nat.lt_irrefl,decide_false,cond_false,joinK_def,List.filter_nil,List.map_nil,List.append_nil]
      refine bk ht.1 ?_
      have hm:=most1 (cfN n big) l hcf (by omega)
      have e3:iSub .i64 (c + (e:Int) + 1) 1=c + e:=by rw [iSub64 (by omega)]; omega
      have hr0:=hr (c + (e:Int),co (setC n c) out,cfN n big,()) ⟨c,e + 1,h1,by omega,by rw [show c - 1 + ((e + 1:Nat):Int)=c + e by omega]⟩ (by show (c + (e:Int) + 1).toNat < (c - 1 + ((e + 2:Nat):Int) + 1).toNat; omega)
      rw [show (c + (e:Int) - c).toNat=e by omega] at hr0
      simp only [e3]
      cases hq:iEq (termN n (c + e + 1)) n.2.1 with
      | false=>
        simp only [cond_false,bindK_pure,Bool.false_and]
        exact hr0
      | true=>
        simp only [cond_true,Bool.true_and]
        refine bk (a:=mostB (cfN n big) l) (bk hm rfl) ?_
        cases mostB (cfN n big) l with
        | false=>exact hr0
        | true=>
          simp only [cond_true]
          refine (hr (c + (e:Int),co (setC n (c + e + 1)) out,cfN n big,()) ⟨c + e + 1,0,by omega,by omega,by rw [show c + (e:Int) + 1 - 1 + ((0:Nat):Int)=c + e by omega]⟩ (by show (c + (e:Int) + 1).toNat < (c - 1 + ((e + 2:Nat):Int) + 1).toNat; omega)).trans ?_
          rw [show (c + (e:Int) - (c + (e:Int) + 1)).toNat=0 by omega]
          rfl
    · simp only [iLt_len,hk,decide_true,cond_true,joinK_def]
      rw [idxK_lt hk]
      cases hq:iGe n.2.2.2.2.2.2.2.2.2.2.2.2.2.1[k].2.2.1 (c + (e:Int) + 1) with
      | true=>
        simp only [hq,cond_true]
        rw [idxK_lt hk,guardK_pos (gApp_pos (by simp; omega)),iAdd_nat (by omega),cat_def,hr2 (l++[n.2.2.2.2.2.2.2.2.2.2.2.2.2.1[k].1]) (by simp; omega)]
        simp only [List.filter_cons,hq,if_true,List.map_cons,List.append_assoc,List.cons_append,List.nil_append]
      | false=>
        simp only [hq,cond_false]
        rw [iAdd_nat (by omega),hr2 l (by omega)]
        simp only [List.filter_cons,hq,if_false,Bool.false_eq_true]
theorem com44 (n:TNode) (h:NC n) (out:List TMessage):F44 (co n out,())=some (co (comN n) out,()):=by
  have hc0:=h.c
  have hs:=h.i.s
  have he:=h.i.e
  have hp:=h.i.p
  have hcf:=cfN_len n h.i.pre big
  unfold F44

  refine bk (a:=(n.2.2.2.2.2.2.1 + n.2.2.2.2.2.2.2.2.1.length,())) (by unfold F37; simp only [lenI_def]; rw [iAdd64 (by omega)]) ?_
  simp only [joinK_def]
  refine (loop_eq (σ:=Int×TCore×Unit) (fun s=>∃ (c:Int) (d:Nat),(n.2.2.2.2.2.2.1≤c∧c≤n.2.2.2.2.2.2.1 + n.2.2.2.2.2.2.2.2.1.length)∧c - 1 + d≤n.2.2.2.2.2.2.1 + n.2.2.2.2.2.2.2.2.1.length∧s=(c - 1 + d,co (setC n c) out,())) (fun s=>(s.1 + 1).toNat)
    (fun s=>some (co (endN (setC n (pickN n s.2.1.2.2.2.2.2.2.2.2.2.1 (s.1 - s.2.1.2.2.2.2.2.2.2.2.2.1).toNat))) out,())) (fun rec s hP hr=>?_) NN (n.2.2.2.2.2.2.1 + n.2.2.2.2.2.2.2.2.1.length,co n out,()) ⟨n.2.2.2.2.2.2.2.2.2.1,(n.2.2.2.2.2.2.1 + n.2.2.2.2.2.2.2.2.1.length + 1 - n.2.2.2.2.2.2.2.2.2.1).toNat,hc0,by omega,by rw [show n.2.2.2.2.2.2.2.2.2.1 - 1 + ((n.2.2.2.2.2.2.1 + n.2.2.2.2.2.2.2.2.1.length + 1 - n.2.2.2.2.2.2.2.2.2.1).toNat:Int)=n.2.2.2.2.2.2.1 + n.2.2.2.2.2.2.2.2.1.length by omega]⟩ (NN_len (by show (n.2.2.2.2.2.2.1 + (n.2.2.2.2.2.2.2.2.1.length:Int) + 1).toNat≤_; omega)))
  obtain ⟨c,d,h1,h2,rfl⟩:=hP
  have hN:=h.setC h1
  by_cases hd:d≤1
  · have:iGt (c - 1 + (d:Int)) c=false:=by rw [iGt_def,decide_eq_false]; omega
    simp only [this,cond_false]
    rw [show (c - 1 + (d:Int) - c).toNat=0 by omega]
    exact exit44 (setC n c) hN out
  · obtain ⟨e,rfl⟩:∃ e,d=e + 2:=⟨d - 2,by omega⟩
    have hi:c - 1 + ((e + 2:Nat):Int)=c + e + 1:=by omega
    simp only [hi] at h2 ⊢
    have hg:iGt (c + (e:Int) + 1) c=true:=by rw [iGt_def,decide_eq_true]; omega
    simp only [hg,cond_true]
    rw [show (c + (e:Int) + 1 - c).toNat=e + 1 by omega]
    have ht:=term1 n h.i (c + e + 1) (by omega)
    refine (loop_list (xs:=n.2.2.2.2.2.2.2.2.2.2.2.2.2.1) (a:=List Int) (fun j l=>(j,co (setC n c) out,l,())) (fun k l=>l.length≤k + 1)
      (fun l q=>some (co (endN (setC n (bif iEq (termN n (c + e + 1)) n.2.1 && mostB (cfN n big) (l++(q.filter fun p=>iGe p.2.2.1 (c + e + 1)).map (·.1)) then c + e + 1 else pickN n c e))) out,())) (fun rec2 l hl=>?_) (fun rec2 k hk l hl hr2=>?_) NN [n.1] (by simp) (NN_len (by omega)))
    · simp only [lenI_def,iLt_nat,Nat.lt_irrefl,decide_false,cond_false,joinK_def,List.filter_nil,List.map_nil,List.append_nil]
      refine bk ht.2 ?_
      have hm:=most2 (cfN n big) l hcf (by omega)
      have e3:iSub .i64 (c + (e:Int) + 1) 1=c + e:=by rw [iSub64 (by omega)]; omega
      have hr0:=hr (c + (e:Int),co (setC n c) out,()) ⟨c,e + 1,h1,by omega,by rw [show c - 1 + ((e + 1:Nat):Int)=c + e by omega]⟩ (by show (c + (e:Int) + 1).toNat < (c - 1 + ((e + 2:Nat):Int) + 1).toNat; omega)
      rw [show (c + (e:Int) - c).toNat=e by omega] at hr0
      simp only [e3]
      cases hq:iEq (termN n (c + e + 1)) n.2.1 with
      | false=>
        simp only [cond_false,bindK_pure,Bool.false_and]
        exact hr0
      | true=>
        simp only [cond_true,Bool.true_and]
        refine bk (a:=mostB (cfN n big) l) (bk (conf43 (setC n c) hN.i.pre hN.i.e) (bk hm rfl)) ?_
        cases mostB (cfN n big) l with
        | false=>exact hr0
        | true=>
          simp only [cond_true]
          exact exit44 (setC n (c + e + 1)) (h.setC (by omega)) out
    · simp only [iLt_len,hk,decide_true,cond_true,joinK_def]
      rw [idxK_lt hk,iAdd_nat (by omega)]
      cases hq:iGe n.2.2.2.2.2.2.2.2.2.2.2.2.2.1[k].2.2.1 (c + (e:Int) + 1) with
      | true=>
        simp only [hq,cond_true]
        rw [guardK_pos (gApp_pos (by simp; omega)),cat_def,hr2 (l++[n.2.2.2.2.2.2.2.2.2.2.2.2.2.1[k].1]) (by simp; omega)]
        simp only [List.filter_cons,hq,if_true,List.map_cons,List.append_assoc,List.cons_append,List.nil_append]
      | false=>
        simp only [hq,cond_false]
        rw [hr2 l (by omega)]
        simp only [List.filter_cons,hq,if_false,Bool.false_eq_true]

end
end Go.Proofs.Ytofonninnabieaa.Tq

