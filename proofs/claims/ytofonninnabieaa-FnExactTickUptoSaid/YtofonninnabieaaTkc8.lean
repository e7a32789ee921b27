/- Leading,and a tick. -/
import Derived.Test.YtofonninnabieaaTkc7
namespace Go.Proofs.Ytofonninnabieaa.Tk
open Go Go.Am
set_option linter.unusedVariables false
set_option linter.unusedSimpArgs false

noncomputable section
theorem jg {σ ρ:Type} {f:σ→Option ρ} {c gd:Bool} {s1 s2:σ} {r:Option ρ} (s:σ) (h1:c=true→gd=true∧s1=s) (h3:c=false→s2=s) (h2:f s=r):joinK f (fun k=>bif c then guardK gd (k s1) else k s2)=r:=by
  rw [joinK_def]
  cases c with
  | true=>rw [cond_true,guardK_pos (h1 rfl).1,(h1 rfl).2]; exact h2
  | false=>rw [cond_false,h3 rfl]; exact h2
theorem confB_len {xs:List Int} (h:confB xs=true):xs.length≤4:=by
  rw [confB,Bool.and_eq_true] at h
  have:=(inB_iff.1 h.1).2
  rw [lenI_def] at this
  omega
theorem cfa_conf {a:Int}:∀ {l:List TEntry} {c:List Int} {i:Int},confB c=true→confB (cfa a c i l)=true
  | [],c,i,h=>h
  | z :: r,c,i,h=>by
    simp only [cfa]
    refine cfa_conf ?_
    cases hh:hit a i z with
    | false=>exact h
    | true=>
      rw [hit,Bool.and_eq_true,Bool.and_eq_true] at hh
      have h1:=hh.1.1
      rw [cond_true]
      unfold readC at h1 ⊢
      cases hc:confB (toC z.2.2.1) with
      | false=>rw [hc] at h1; cases h1
      | true=>exact hc

theorem confN_len (n:TNode) (h:confB n.2.2.2.2.2.1=true):(cfN n big).length≤4:=confB_len (cfa_conf h)
theorem othN_len (n:TNode) (h:confB n.2.2.2.2.2.1=true):(othN n).length≤4:=Nat.le_trans (List.length_filter_le _ _) (confN_len n h)
structure NL (n:TNode):Prop where
  p:PRE n
  e:n.2.2.2.2.2.2.2.2.1.length≤60
  b:confB n.2.2.2.2.2.1=true
  c:n.2.2.2.2.2.2.1≤n.2.2.2.2.2.2.2.2.2.1∧n.2.2.2.2.2.2.2.2.2.1≤n.2.2.2.2.2.2.1 + n.2.2.2.2.2.2.2.2.1.length
abbrev lastN (n:TNode):Int:=n.2.2.2.2.2.2.1 + n.2.2.2.2.2.2.2.2.1.length
def roomN (n:TNode):Bool:=iLt (lenI n.2.2.2.2.2.2.2.2.1) 60 && iLt (lastN n) 1000000
def logN (n:TNode):List TEntry:=bif roomN n then n.2.2.2.2.2.2.2.2.1++[(n.2.1,1,litS [],())] else n.2.2.2.2.2.2.2.2.1
abbrev ldN (n:TNode) (l:List TPeer):TNode:=(n.1,n.2.1,n.2.2.1,2,n.1,n.2.2.2.2.2.1,n.2.2.2.2.2.2.1,n.2.2.2.2.2.2.2.1,logN n,n.2.2.2.2.2.2.2.2.2.1,n.2.2.2.2.2.2.2.2.2.2.1,n.2.2.2.2.2.2.2.2.2.2.2.1,[],l,())
theorem cf_ld (n:TNode) (l:List TPeer):cfN (ldN n l) big=cfa big n.2.2.2.2.2.1 (n.2.2.2.2.2.2.1 + 1) (logN n):=rfl
def newP (n:TNode) (v:Int):TPeer:=(v,lastN n + 1,0,0,())
abbrev atN (n:TNode):TNode:=ldN n ((othN (ldN n [])).map (newP n))
def leadN (n:TNode):TNode:=comN (atN n)
theorem logN_len (n:TNode) (h:n.2.2.2.2.2.2.2.2.1.length≤60):n.2.2.2.2.2.2.2.2.1.length≤(logN n).length∧(logN n).length≤60:=by
  unfold logN roomN
  cases h1:iLt (lenI n.2.2.2.2.2.2.2.2.1) 60 with
  | false=>simp only [Bool.false_and,cond_false]; omega
  | true=>
    have h1':n.2.2.2.2.2.2.2.2.1.length < 60:=by rw [iLt_def,lenI_def] at h1; simp at h1; omega
    cases iLt (lastN n) 1000000 with
    | false=>simp only [Bool.and_false,cond_false]; omega
    | true=>simp only [Bool.and_self,cond_true,List.length_append,List.length_cons,List.length_nil]; omega
theorem litS_nil:litS []=[]:=by rw [litS_def]; rfl
theorem logN_mem (n:TNode) (h:∀ y∈n.2.2.2.2.2.2.2.2.1,y.2.2.1.length≤1048576):∀ y∈logN n,y.2.2.1.length≤1048576:=by
  intro y hy
  unfold logN at hy
  cases hr:roomN n with
  | false=>rw [hr] at hy; exact h y hy
  | true=>
    rw [hr,cond_true,List.mem_append] at hy
    cases hy with
    | inl hy=>exact h y hy
    | inr hy=>
      rw [List.mem_singleton] at hy
      rw [hy]
      show (litS []).length≤_
      rw [litS_nil]; simp
theorem pre_ld (n:TNode) (h:NL n) (l:List TPeer):PRE (ldN n l):=⟨h.p.1,h.p.2.1,by have:=logN_len n h.e; show (logN n).length≤_; omega,logN_mem n h.p.2.2.2⟩
theorem atN_ok (n:TNode) (h:NL n):NC (atN n):=by
  have h1:=logN_len n h.e
  have h2:=h.c
  have h3:((othN (ldN n [])).map (newP n)).length≤4:=by rw [List.length_map]; exact othN_len (ldN n []) h.b
  refine ⟨⟨h.p.1,h.p.2.1,h1.2,logN_mem n h.p.2.2.2,h3,?_⟩,?_,fun _=>rfl⟩
  · intro p hp
    obtain ⟨v,_,rfl⟩:=List.mem_map.1 hp
    have:=h.p.2.1
    show 1≤lastN n + 1∧lastN n + 1≤n.2.2.2.2.2.2.1 + (logN n).length + 1
    show 1≤n.2.2.2.2.2.2.1 + n.2.2.2.2.2.2.2.2.1.length + 1∧n.2.2.2.2.2.2.1 + n.2.2.2.2.2.2.2.2.1.length + 1≤n.2.2.2.2.2.2.1 + (logN n).length + 1
    omega
  · show n.2.2.2.2.2.2.1≤n.2.2.2.2.2.2.2.2.2.1∧n.2.2.2.2.2.2.2.2.2.1≤n.2.2.2.2.2.2.1 + (logN n).length
    omega
theorem endN_ok {n:TNode} (h:NI n):NI (endN n):=by
  unfold endN
  cases folB n with
  | false=>exact h
  | true=>exact ⟨h.c,h.s,h.e,h.t,Nat.zero_le _,fun p hp=>by cases hp⟩
theorem comN_ok {n:TNode} (h:NC n):NI (comN n):=by
  have h1:=h.c
  have h2:=pickN_le n (c:=n.2.2.2.2.2.2.2.2.2.1) (n.2.2.2.2.2.2.1 + n.2.2.2.2.2.2.2.2.1.length - n.2.2.2.2.2.2.2.2.2.1).toNat
  exact endN_ok (h.setC (c:=pickN n n.2.2.2.2.2.2.2.2.2.1 (n.2.2.2.2.2.2.1 + n.2.2.2.2.2.2.2.2.1.length - n.2.2.2.2.2.2.2.2.2.1).toNat) (by omega)).i
theorem out_last (n:TNode) (h:NL n):iAdd .i64 n.2.2.2.2.2.2.1 (lenI n.2.2.2.2.2.2.2.2.1)=lastN n:=by
  have:=h.p.2.1; have:=h.e
  rw [lenI_def,iAdd64 (by omega)]

theorem lead62 (n:TNode) (h:NL n) (out:List TMessage) (ho:out.length≤100):F62 (co n out,())=some (co (leadN n) (out++sendL (leadN n)),()):=by
  have hN:=atN_ok n h
  have hs:=h.p.2.1
  have he:=h.e
  have hl:=logN_len n h.e
  have ho4:=othN_len (ldN n n.2.2.2.2.2.2.2.2.2.2.2.2.2.1) h.b
  unfold F62 leadN
  refine bk (a:=(lastN n,())) (by unfold F29; exact congrArg (fun z=>some (z,())) (out_last n h)) ?_
  refine bk (a:=(roomN n,())) ?_ ?_
  · unfold F22 roomN
    cases iLt (lenI n.2.2.2.2.2.2.2.2.1) 60 with
    | false=>exact bk (a:=false) rfl rfl
    | true=>
      refine bk (a:=iLt (lastN n) 1000000) (bk (a:=(lastN n,())) (by unfold F29; exact congrArg (fun z=>some (z,())) (out_last n h)) rfl) ?_
      rfl
  refine jg ((n.1,n.2.1,n.2.2.1,2,n.1,n.2.2.2.2.2.1,n.2.2.2.2.2.2.1,n.2.2.2.2.2.2.2.1,logN n,n.2.2.2.2.2.2.2.2.2.1,n.2.2.2.2.2.2.2.2.2.2.1,n.2.2.2.2.2.2.2.2.2.2.2.1,[],n.2.2.2.2.2.2.2.2.2.2.2.2.2.1,out,()),()) (fun hr=>⟨?_,?_⟩) (fun hr=>?_) ?_
  · exact gApp_pos (by show (n.2.2.2.2.2.2.2.2.1.length + 1) * 3≤_; omega)
  · have e:logN n=n.2.2.2.2.2.2.2.2.1++[(n.2.1,1,litS [],())]:=by unfold logN; rw [show roomN n=true from hr,cond_true]
    rw [cat_def,e]
  · have e:logN n=n.2.2.2.2.2.2.2.2.1:=by unfold logN; rw [show roomN n=false from hr,cond_false]
    rw [e]
  · have q1:F27 (ldN n n.2.2.2.2.2.2.2.2.2.2.2.2.2.1,())=some (cfN (ldN n n.2.2.2.2.2.2.2.2.2.2.2.2.2.1) big,()):=conf119 (ldN n n.2.2.2.2.2.2.2.2.2.2.2.2.2.1) (pre_ld n h _) hl.2
    have q2:F30 (cfN (ldN n []) big,n.1,())=some (othN (ldN n []),()):=others118 (cfN (ldN n []) big) n.1 (Nat.le_trans (confN_len (ldN n []) h.b) (by omega))
    rw [cf_ld n n.2.2.2.2.2.2.2.2.2.2.2.2.2.1,← cf_ld n []] at q1
    refine bk q1 ?_
    refine bk q2 ?_
    have h4:(othN (ldN n [])).length≤4:=othN_len (ldN n []) h.b
    refine loop_list (xs:=othN (ldN n [])) (a:=List TPeer) (fun j l=>(j,co (ldN n l) out,othN (ldN n []),())) (fun k l=>l=((othN (ldN n [])).take k).map (newP n)) (fun _ _=>some (co (comN (atN n)) (out++sendL (comN (atN n))),())) (fun rec l hl=>?_) (fun rec k hk l hl hr=>?_) NN [] (by simp) (NN_len (by omega))
    · subst hl
      simp only [lenI_def,iLt_nat,Nat.lt_irrefl,decide_false,cond_false,List.take_length]
      refine bk (com31 (atN n) hN out) ?_
      refine bk (all32 (comN (atN n)) (comN_ok hN) out (by omega)) ?_
      rfl
    · subst hl
      simp only [iLt_len,hk,decide_true,cond_true]
      rw [idxK_lt hk,guardK_pos (gApp_pos (by simp; omega)),iAdd_nat (by omega),cat_def,iAdd64 (by have:lastN n=n.2.2.2.2.2.2.1 + n.2.2.2.2.2.2.2.2.1.length:=rfl; omega)]
      exact hr _ (by rw [List.take_succ_eq_append_getElem hk,List.map_append]; rfl)

theorem lead69 (n:TNode) (h:NL n) (out:List TMessage) (ho:out.length≤100):F69 (co n out,())=some (co (leadN n) (out++sendL (leadN n)),()):=by
  have hN:=atN_ok n h
  have hs:=h.p.2.1
  have he:=h.e
  have hl:=logN_len n h.e
  have ho4:=othN_len (ldN n n.2.2.2.2.2.2.2.2.2.2.2.2.2.1) h.b
  unfold F69 leadN
  refine bk (a:=(lastN n,())) (by unfold F37; exact congrArg (fun z=>some (z,())) (out_last n h)) ?_
  refine bk (a:=roomN n) ?_ ?_
  · unfold roomN
    show (bif iLt (lenI n.2.2.2.2.2.2.2.2.1) 60 then some (iLe (iAdd .i64 (lastN n) 1) 1000000) else some false)=_
    have:iLe (iAdd .i64 (lastN n) 1) 1000000=iLt (lastN n) 1000000:=by
      have hL:lastN n=n.2.2.2.2.2.2.1 + n.2.2.2.2.2.2.2.2.1.length:=rfl
      rw [iAdd64 (by omega),iLe_def,iLt_def,Bool.eq_iff_iff]; simp only [decide_eq_true_eq]; omega
    rw [this]
    cases iLt (lenI n.2.2.2.2.2.2.2.2.1) 60 <;> rfl
  refine jg ((n.1,n.2.1,n.2.2.1,2,n.1,n.2.2.2.2.2.1,n.2.2.2.2.2.2.1,n.2.2.2.2.2.2.2.1,logN n,n.2.2.2.2.2.2.2.2.2.1,n.2.2.2.2.2.2.2.2.2.2.1,n.2.2.2.2.2.2.2.2.2.2.2.1,[],n.2.2.2.2.2.2.2.2.2.2.2.2.2.1,out,()),()) (fun hr=>⟨?_,?_⟩) (fun hr=>?_) ?_
  · exact gApp_pos (by show (n.2.2.2.2.2.2.2.2.1.length + 1) * 3≤_; omega)
  · have e:logN n=n.2.2.2.2.2.2.2.2.1++[(n.2.1,1,litS [],())]:=by unfold logN; rw [show roomN n=true from hr,cond_true]
    rw [cat_def,e]
  · have e:logN n=n.2.2.2.2.2.2.2.2.1:=by unfold logN; rw [show roomN n=false from hr,cond_false]
    rw [e]
  · refine bk (others100 (ldN n []) (pre_ld n h _) hl.2) ?_
    have h4:(othN (ldN n [])).length≤4:=othN_len (ldN n []) h.b
    refine loop_list (xs:=othN (ldN n [])) (a:=List TPeer) (fun j l=>(j,co (ldN n l) out,othN (ldN n []),())) (fun k l=>l=((othN (ldN n [])).take k).map (newP n)) (fun _ _=>some (co (comN (atN n)) (out++sendL (comN (atN n))),())) (fun rec l hl=>?_) (fun rec k hk l hl hr=>?_) NN [] (by simp) (NN_len (by omega))
    · subst hl
      simp only [lenI_def,iLt_nat,Nat.lt_irrefl,decide_false,cond_false,List.take_length]
      refine bk (com44 (atN n) hN out) ?_
      refine bk (all45 (comN (atN n)) (comN_ok hN) out (by omega)) ?_
      rfl
    · subst hl
      simp only [iLt_len,hk,decide_true,cond_true]
      rw [idxK_lt hk,guardK_pos (gApp_pos (by simp; omega)),iAdd_nat (by omega),cat_def,iAdd64 (by have:lastN n=n.2.2.2.2.2.2.1 + n.2.2.2.2.2.2.2.2.1.length:=rfl; omega)]
      exact hr _ (by rw [List.take_succ_eq_append_getElem hk,List.map_append]; rfl)

end
end Go.Proofs.Ytofonninnabieaa.Tk

