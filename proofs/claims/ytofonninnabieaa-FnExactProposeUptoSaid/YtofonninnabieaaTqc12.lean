/- A proposal,asked in two ways. -/
import Derived.Test.YtofonninnabieaaTqc11
namespace Go.Proofs.Ytofonninnabieaa.Tq
open Go Go.Am
set_option linter.unusedVariables false
set_option linter.unusedSimpArgs false

noncomputable section
theorem jb {σ ρ:Type} {f:σ→Option ρ} {g:(σ→Option ρ)→Option ρ} {r r':Option ρ} (s:σ) (hb:f s=r) (h:f s=r→g f=r'):joinK f g=r':=by rw [joinK_def]; exact h hb
theorem room22 (x:TNode) (h:NL x):F22 (x,())=some (roomN x,()):=by
  unfold F22
  refine bk (a:=roomN x) ?_ rfl
  unfold roomN
  cases iLt (lenI x.2.2.2.2.2.2.2.2.1) 60 with
  | false=>rfl
  | true=>
    refine bk (a:=(lastN x,())) (by unfold F29; exact congrArg (fun z=>some (z,())) (out_last x h)) rfl
def acc2 (x:TNode) (t:List UInt8):Bool:=(!(iNe (termN x x.2.2.2.2.2.2.2.2.2.1) x.2.1) && iLe (lc x.2.2.2.2.2.2.1 (x.2.2.2.2.2.2.1 + 1) x.2.2.2.2.2.2.2.2.1) x.2.2.2.2.2.2.2.2.2.1) && may2 (readC t).1 (cfN x big)
theorem idx_any (sh lo:List Int) (hs:sh.length≤1048576) (hl:lo.length≤1048576) :
    loopF (fun rec7 (s8:Int×List Int×Unit)=>bif iLt s8.1 (lenI sh) then idxK sh s8.1 fun y9=>
      bindK (bindK (F67 (s8.2.1,y9,())) fun y10=>some (bNot y10.1,())) fun y11=>
      bif y11.1 then some (s8.1,()) else rec7 (iAdd .i64 s8.1 1,s8.2) else some ((-1),())) NN (0,lo,())=match sh.findIdx? (fun y=>!inL lo y) with | some i=>some ((i:Int),()) | none=>some ((-1),()):=by
  refine loop_find (xs:=sh) (fun i=>(i,lo,())) (fun y=>!inL lo y) (fun i=>some ((i:Int),())) (some ((-1),())) (fun rec=>?_) (fun rec n h=>?_) (by omega)
  · simp only [lenI_def,iLt_nat,Nat.lt_irrefl,decide_false,cond_false]
  · simp only [iLt_len,h,decide_true,cond_true,in67 lo _ (show lo.length≤4294967296 by omega),bindK_pure,bNot_def]
    rw [idxK_lt h,iAdd_nat (by omega)]
theorem may_tail (sh lo:List Int) (hs:sh.length≤1048576) (hl:lo.length≤1048576) :
    (bindK (bindK (loopF (fun rec7 (s8:Int×List Int×Unit)=>bif iLt s8.1 (lenI sh) then idxK sh s8.1 fun y9=>
      bindK (bindK (F67 (s8.2.1,y9,())) fun y10=>some (bNot y10.1,())) fun y11=>
      bif y11.1 then some (s8.1,()) else rec7 (iAdd .i64 s8.1 1,s8.2) else some ((-1),())) NN (0,lo,())) fun y12=>some (iGe y12.1 0,())) fun y13=>
      bindK (bif iEq (lenI lo) (iAdd .i64 (lenI sh) 1) then some (bNot y13.1) else some false) fun y14=>some (y14,()))=some (mayB sh lo,()):=by
  rw [idx_any sh lo hs hl]
  have e:sh.any (fun y=>!(lo.any fun z=>decide (z=y)))=(sh.findIdx? (fun y=>!inL lo y)).isSome:=by
    rw [List.findIdx?_isSome]
    congr 1; funext y; rw [inL_plain]
  have e2:iEq (lenI lo) (iAdd .i64 (lenI sh) 1)=decide ((lo.length:Int)=(sh.length:Int) + 1):=by
    rw [lenI_def,lenI_def,iAdd64 (by omega),iEq_def]; rfl
  unfold mayB
  rw [e,e2]
  cases sh.findIdx? (fun y=>!inL lo y) with
  | none=>
    refine bk (a:=(false,())) (bk rfl (by rw [iGe_def]; rfl)) ?_
    cases decide ((lo.length:Int)=(sh.length:Int) + 1) with
    | false=>exact bk (a:=false) rfl rfl
    | true=>exact bk (a:=true) (by rw [bNot_def]; rfl) rfl
  | some i=>
    refine bk (a:=(true,())) (bk rfl (by rw [iGe_def,decide_eq_true (by omega:(0:Int)≤(i:Int))])) ?_
    cases decide ((lo.length:Int)=(sh.length:Int) + 1) with
    | false=>exact bk (a:=false) rfl rfl
    | true=>exact bk (a:=false) (by rw [bNot_def]; rfl) rfl
theorem may39 (x:TNode) (h:NG x) (t:List UInt8) (ht:t.length≤1048576) (hr:(readC t).2.1=true):F39 (x,t,())=some (acc2 x t,()):=by
  have hc:=cfN_len x h.i.pre big
  have hrl:(readC t).1.length≤1048576:=by
    unfold readC
    cases confB (toC t) with
    | false=>exact Nat.zero_le _
    | true=>rw [cond_true]; show (toC t).length≤_; unfold toC; rw [List.length_map]; exact ht
  have h3:=lc_le (l:=x.2.2.2.2.2.2.2.2.1) (c:=x.2.2.2.2.2.2.2.2.2.1) (d:=x.2.2.2.2.2.2.1) (d':=0) (i:=x.2.2.2.2.2.2.1 + 1) h.c.1 (by have:=h.i.s; have:=h.c; omega)
  unfold F39 acc2
  refine bk (conf110 t ht) ?_
  refine bk (a:=iNe (termN x x.2.2.2.2.2.2.2.2.2.1) x.2.1) (by rw [hr,bNot_def]; exact bk (term1 x h.i x.2.2.2.2.2.2.2.2.2.1 h.c).2 rfl) ?_
  refine bk (a:=iNe (termN x x.2.2.2.2.2.2.2.2.2.1) x.2.1 || !iLe (lc x.2.2.2.2.2.2.1 (x.2.2.2.2.2.2.1 + 1) x.2.2.2.2.2.2.2.2.1) x.2.2.2.2.2.2.2.2.2.1) (by
    rw [h3]
    cases iNe (termN x x.2.2.2.2.2.2.2.2.2.1) x.2.1 with
    | true=>rfl
    | false=>exact bk (ci87 x h.i.s h.i.e) (by rw [gt_le]; rfl)) ?_
  have e0:∀ a b c:Bool,((!a && b) && c)=(!(a || !b) && c):=by decide
  rw [e0]
  cases iNe (termN x x.2.2.2.2.2.2.2.2.2.1) x.2.1 || !iLe (lc x.2.2.2.2.2.2.1 (x.2.2.2.2.2.2.1 + 1) x.2.2.2.2.2.2.2.2.1) x.2.2.2.2.2.2.2.2.2.1 with
  | true=>rfl
  | false=>
    refine bk (conf43 x h.i.pre h.i.e) ?_
    rw [joinK_def]
    show (bif iGt (lenI (readC t).1) (lenI (cfN x big)) then _ else _)=_
    have e:iGt (lenI (readC t).1) (lenI (cfN x big))=decide ((cfN x big).length < (readC t).1.length):=by
      rw [iGt_def,lenI_def,lenI_def,Bool.eq_iff_iff]; simp only [decide_eq_true_eq]; omega
    rw [e]
    show _=some (bif decide ((cfN x big).length < (readC t).1.length) then mayB (cfN x big) (readC t).1 else mayB (readC t).1 (cfN x big),())
    cases decide ((cfN x big).length < (readC t).1.length) with
    | true=>exact may_tail (cfN x big) (readC t).1 hc hrl
    | false=>exact may_tail (readC t).1 (cfN x big) hrl hc

abbrev prN (x:TNode) (e:TEntry) (ps:List TPeer):TNode:=(x.1,x.2.1,x.2.2.1,x.2.2.2.1,x.2.2.2.2.1,x.2.2.2.2.2.1,x.2.2.2.2.2.2.1,x.2.2.2.2.2.2.2.1,x.2.2.2.2.2.2.2.2.1++[e],x.2.2.2.2.2.2.2.2.2.1,x.2.2.2.2.2.2.2.2.2.2.1,x.2.2.2.2.2.2.2.2.2.2.2.1,x.2.2.2.2.2.2.2.2.2.2.2.2.1,ps,())
abbrev freshP (x:TNode) (v:Int):TPeer:=(v,lastN x + 1,0,0,())
def prP (x:TNode) (e:TEntry):List TPeer:=(othN (prN x e x.2.2.2.2.2.2.2.2.2.2.2.2.2.1)).map fun v=>pickP x.2.2.2.2.2.2.2.2.2.2.2.2.2.1 (freshP x v) v
abbrev newE (x:TNode) (k:Int) (t:List UInt8):TEntry:=(x.2.1,k,t,())
def okP (x:TNode) (k:Int) (t:List UInt8):Bool:=((iEq x.2.2.2.1 2 && entryB (newE x k t)) && roomN x) && bif iEq k 2 then acc2 x t else true
abbrev zR:TNode×List TMessage×Int×Bool×Unit:=(zN,[],0,false,())
def yesP (x:TNode) (e:TEntry):TNode×List TMessage×Int×Bool×Unit:=(comN (prN x e (prP x e)),sendL (comN (prN x e (prP x e))),lastN x + 1,true,())
def propN (x:TNode) (k:Int) (t:List UInt8):TNode×List TMessage×Int×Bool×Unit:=bif okP x k t then yesP x (newE x k t) else zR
theorem pick_in (ps:List TPeer) (d:TPeer) (v:Int):pickP ps d v=d∨pickP ps d v∈ps:=by
  unfold pickP
  cases h:ps.find? (fun p=>iEq p.1 v) with
  | none=>exact .inl rfl
  | some p=>exact .inr (List.mem_of_find?_eq_some h)
theorem pr_ok (x:TNode) (h:NG x) (hr:iEq x.2.2.2.1 2=true) (k:Int) (t:List UInt8) (ht:t.length≤1048576) (hm:roomN x=true):NC (prN x (newE x k t) (prP x (newE x k t))):=by
  have hs:=h.i.s
  have he:=h.i.e
  have hlt:x.2.2.2.2.2.2.2.2.1.length < 60:=by
    unfold roomN at hm
    rw [Bool.and_eq_true,iLt_def,lenI_def] at hm
    have:=hm.1
    simp at this
    omega
  have hl:(x.2.2.2.2.2.2.2.2.1++[newE x k t]).length=x.2.2.2.2.2.2.2.2.1.length + 1:=by simp
  refine ⟨⟨h.i.c,hs,?_,?_,?_,?_⟩,?_,fun _=>h.z hr⟩
  · show (x.2.2.2.2.2.2.2.2.1++[newE x k t]).length≤60
    omega
  · intro y hy
    rcases List.mem_append.1 hy with hy | hy
    · exact h.i.t y hy
    · rw [List.mem_singleton] at hy; rw [hy]; exact ht
  · show (prP x (newE x k t)).length≤4
    unfold prP
    rw [List.length_map]
    exact othN_len (prN x (newE x k t) x.2.2.2.2.2.2.2.2.2.2.2.2.2.1) h.b
  · intro p hp
    show 1≤p.2.1∧p.2.1≤x.2.2.2.2.2.2.1 + (x.2.2.2.2.2.2.2.2.1++[newE x k t]).length + 1
    rw [hl]
    obtain ⟨v,_,rfl⟩:=List.mem_map.1 (show p∈List.map _ _ from hp)
    rcases pick_in x.2.2.2.2.2.2.2.2.2.2.2.2.2.1 (freshP x v) v with e | e
    · rw [e]
      show 1≤lastN x + 1∧lastN x + 1≤_
      have:lastN x=x.2.2.2.2.2.2.1 + x.2.2.2.2.2.2.2.2.1.length:=rfl
      omega
    · have:=h.i.n _ e
      omega
  · show x.2.2.2.2.2.2.1≤x.2.2.2.2.2.2.2.2.2.1∧x.2.2.2.2.2.2.2.2.2.1≤x.2.2.2.2.2.2.1 + (x.2.2.2.2.2.2.2.2.1++[newE x k t]).length
    have:=h.c
    omega
theorem comN_votes (n:TNode) (h:n.2.2.2.2.2.2.2.2.2.2.2.2.1=[]):(comN n).2.2.2.2.2.2.2.2.2.2.2.2.1=[]:=endN_votes h
theorem prop_fit (x:TNode) (h:NG x) (k:Int) (t:List UInt8) (ht:t.length≤1048576):OK (propN x k t).1∧MsOK (propN x k t).2.1:=by
  have z1:OK zN:=⟨Nat.zero_le _,Nat.zero_le _,(fun y hy=>by cases hy),Nat.zero_le _,Nat.zero_le _⟩
  unfold propN
  cases hp:okP x k t with
  | false=>exact ⟨z1,MsOK.nil⟩
  | true=>
    unfold okP at hp
    rw [Bool.and_eq_true,Bool.and_eq_true,Bool.and_eq_true] at hp
    have hN:=pr_ok x h hp.1.1.1 k t ht hp.1.2
    have hI:=comN_ok hN
    rw [cond_true]
    unfold yesP
    exact ⟨hI.ok (by rw [comN_votes (prN x (newE x k t) (prP x (newE x k t))) (h.z hp.1.1.1)]; exact Nat.zero_le _),sendL_ok hI⟩
theorem pre_pr (x:TNode) (h:NG x) (k:Int) (t:List UInt8) (ht:t.length≤1048576) (hm:roomN x=true) (hN:NC (prN x (newE x k t) (prP x (newE x k t)))):PRE (prN x (newE x k t) x.2.2.2.2.2.2.2.2.2.2.2.2.2.1)∧(x.2.2.2.2.2.2.2.2.1++[newE x k t]).length≤60:=by
  have e:=hN.i.e
  have e2:(x.2.2.2.2.2.2.2.2.1++[newE x k t]).length≤60:=e
  refine ⟨⟨h.i.c,h.i.s,by show (x.2.2.2.2.2.2.2.2.1++[newE x k t]).length≤_; omega,fun y hy=>?_⟩,e2⟩
  rcases List.mem_append.1 hy with hy | hy
  · exact h.i.t y hy
  · rw [List.mem_singleton] at hy; rw [hy]; exact ht
theorem peers_ids (x:TNode) (hr:iEq x.2.2.2.1 2=true) (hb:restB x=true):x.2.2.2.2.2.2.2.2.2.2.2.2.2.1.map (·.1)=othN x:=by
  unfold restB at hb
  rw [hr,cond_true,peersB,Bool.and_eq_true] at hb
  simpa using hb.2
theorem prop6 (x:TNode) (h:OK x) (hx:NG x) (hR:restB x=true) (hb:F20 (x,())=some (true,())) (k:Int) (t:List UInt8) (ht:t.length≤1048576):F6 (x,k,t,())=some (propN x k t):=by
  have hcf:=cfN_len x hx.i.pre big
  have hs:=hx.i.s
  have he:=hx.i.e
  have hL:lastN x=x.2.2.2.2.2.2.1 + x.2.2.2.2.2.2.2.2.1.length:=rfl
  have iz:∀ q:Bool,(bif bNot true then some true else some q)=some q:=fun q=>by rw [bNot_def]; rfl
  unfold F6
  refine bk hb ?_
  refine bk (a:=iNe x.2.2.2.1 2) (iz _) ?_
  unfold propN okP
  rw [← Bool.not_not (iEq x.2.2.2.1 2),← iNe_eq]
  cases e1:iNe x.2.2.2.1 2 with
  | true=>exact bk (a:=true) rfl (bk (a:=true) rfl rfl)
  | false=>
    have hr:iEq x.2.2.2.1 2=true:=by rw [iNe_eq] at e1; simpa using e1
    refine bk (a:=!entryB (newE x k t)) (bk (entry146 (newE x k t) ht) (by rw [bNot_def])) ?_
    cases e2:entryB (newE x k t) with
    | false=>exact bk (a:=true) rfl rfl
    | true=>
      refine bk (a:=!roomN x) (bk (room22 x hx.nl) (by rw [bNot_def])) ?_
      cases e3:roomN x with
      | false=>rfl
      | true=>
        have hN:=pr_ok x hx hr k t ht e3
        obtain ⟨hP,hPl⟩:=pre_pr x hx k t ht e3 hN
        have ho:=othN_len (prN x (newE x k t) x.2.2.2.2.2.2.2.2.2.2.2.2.2.1) hx.b
        have hnd:(x.2.2.2.2.2.2.2.2.2.2.2.2.2.1.map (·.1)).Nodup:=by rw [peers_ids x hr hR]; exact othN_nodup x hx.b
        have hp4:=hx.i.p
        refine jb (r:=some (yesP x (newE x k t))) (zN,()) ?_ ?_
        · refine bk (copy142 x h) ?_
          refine bk (a:=(lastN x,())) (by unfold F29; exact congrArg (fun z=>some (z,())) (out_last x hx.nl)) ?_
          rw [guardK_pos (gApp_pos (by show (x.2.2.2.2.2.2.2.2.1.length + 1) * 3≤_; omega)),cat_def]
          refine bk (conf119 (prN x (newE x k t) x.2.2.2.2.2.2.2.2.2.2.2.2.2.1) hP hPl) ?_
          refine bk (others118 (cfN (prN x (newE x k t) x.2.2.2.2.2.2.2.2.2.2.2.2.2.1) big) x.1 (Nat.le_trans (confN_len (prN x (newE x k t) x.2.2.2.2.2.2.2.2.2.2.2.2.2.1) hx.b) (by omega))) ?_
          refine loop_list (xs:=othN (prN x (newE x k t) x.2.2.2.2.2.2.2.2.2.2.2.2.2.1)) (a:=List TPeer) (fun i l=>(i,co (prN x (newE x k t) x.2.2.2.2.2.2.2.2.2.2.2.2.2.1) [],zN,othN (prN x (newE x k t) x.2.2.2.2.2.2.2.2.2.2.2.2.2.1),l,())) (fun i l=>l=((othN (prN x (newE x k t) x.2.2.2.2.2.2.2.2.2.2.2.2.2.1)).take i).map fun v=>pickP x.2.2.2.2.2.2.2.2.2.2.2.2.2.1 (freshP x v) v) (fun _ _=>some (yesP x (newE x k t))) (fun rec l hl=>?_) (fun rec i hi l hl hr2=>?_) NN [] (by simp) (NN_len (by omega))
          · subst hl
            simp only [lenI_def,iLt_nat,Nat.lt_irrefl,decide_false,cond_false,List.take_length]
            refine bk (com31 (prN x (newE x k t) (prP x (newE x k t))) hN []) ?_
            refine bk (all32 (comN (prN x (newE x k t) (prP x (newE x k t)))) (comN_ok hN) [] (by simp)) ?_
            rw [iAdd64 (by omega)]
            rfl
          · subst hl
            have hll:(((othN (prN x (newE x k t) x.2.2.2.2.2.2.2.2.2.2.2.2.2.1)).take i).map fun v=>pickP x.2.2.2.2.2.2.2.2.2.2.2.2.2.1 (freshP x v) v).length≤4:=by rw [List.length_map,List.length_take]; omega
            simp only [iLt_len,hi,decide_true,cond_true]
            rw [idxK_lt hi]
            refine (loop_list (xs:=x.2.2.2.2.2.2.2.2.2.2.2.2.2.1) (a:=TPeer) (fun j p=>(j,p,co (prN x (newE x k t) x.2.2.2.2.2.2.2.2.2.2.2.2.2.1) [],zN,((othN (prN x (newE x k t) x.2.2.2.2.2.2.2.2.2.2.2.2.2.1)).take i).map (fun v=>pickP x.2.2.2.2.2.2.2.2.2.2.2.2.2.1 (freshP x v) v),othN (prN x (newE x k t) x.2.2.2.2.2.2.2.2.2.2.2.2.2.1),())) (fun _ _=>True)
              (fun p q=>rec (((i + 1:Nat):Int),co (prN x (newE x k t) x.2.2.2.2.2.2.2.2.2.2.2.2.2.1) [],zN,othN (prN x (newE x k t) x.2.2.2.2.2.2.2.2.2.2.2.2.2.1),((othN (prN x (newE x k t) x.2.2.2.2.2.2.2.2.2.2.2.2.2.1)).take i).map (fun v=>pickP x.2.2.2.2.2.2.2.2.2.2.2.2.2.1 (freshP x v) v)++[foldP (othN (prN x (newE x k t) x.2.2.2.2.2.2.2.2.2.2.2.2.2.1))[i] p q],())) (fun rec2 p _=>?_) (fun rec2 j hj p _ hr3=>?_) NN ((othN (prN x (newE x k t) x.2.2.2.2.2.2.2.2.2.2.2.2.2.1))[i],iAdd .i64 (lastN x) 1,0,0,()) trivial (NN_len (by omega))).trans ?_
            · simp only [lenI_def,iLt_nat,Nat.lt_irrefl,decide_false,cond_false]
              rw [guardK_pos (gApp_pos (by simp only [List.length_cons,List.length_nil]; omega)),cat_def,iAdd_nat (by omega)]
              rfl
            · simp only [iLt_len,hj,decide_true,cond_true,joinK_def]
              rw [idxK_lt hj,idxK_lt hi,iAdd_nat (by omega)]
              cases hq:iEq x.2.2.2.2.2.2.2.2.2.2.2.2.2.1[j].1 (othN (prN x (newE x k t) x.2.2.2.2.2.2.2.2.2.2.2.2.2.1))[i] with
              | true=>
                simp only [cond_true]
                rw [idxK_lt hj]
                refine (hr3 x.2.2.2.2.2.2.2.2.2.2.2.2.2.1[j] trivial).trans ?_
                show rec _=rec _
                unfold foldP
                rw [List.foldl_cons,hq,cond_true]
              | false=>
                simp only [cond_false]
                refine (hr3 p trivial).trans ?_
                show rec _=rec _
                unfold foldP
                rw [List.foldl_cons,hq,cond_false]
            · rw [foldP_pick hnd,iAdd64 (by omega)]
              exact hr2 _ (by rw [List.take_succ_eq_append_getElem hi,List.map_append]; rfl)
        · intro hbody
          show (bif iEq k 2 then _ else _)=_
          cases e4:iEq k 2 with
          | false=>exact hbody
          | true=>
            have hrd:(readC t).2.1=true:=by
              have:=e2
              unfold entryB at this
              rw [Bool.and_eq_true] at this
              have h2:=this.2
              have e5:iEq (newE x k t).2.1 1=false:=by
                show iEq k 1=false
                rw [iEq_def] at e4 ⊢; simp at e4 ⊢; omega
              rw [e5,show iEq (newE x k t).2.1 2=true from e4] at h2
              exact h2
            have hcb:confB (readC t).1=true:=by
              unfold readC at hrd ⊢
              cases hc:confB (toC t) with
              | false=>rw [hc] at hrd; cases hrd
              | true=>exact hc
            refine bk (conf133 t ht) ?_
            refine bk (term1 x hx.i x.2.2.2.2.2.2.2.2.2.1 hx.c).1 ?_
            refine bk (a:=iNe (termN x x.2.2.2.2.2.2.2.2.2.1) x.2.1 || !iLe (lc x.2.2.2.2.2.2.1 (x.2.2.2.2.2.2.1 + 1) x.2.2.2.2.2.2.2.2.1) x.2.2.2.2.2.2.2.2.2.1) (by
              cases iNe (termN x x.2.2.2.2.2.2.2.2.2.1) x.2.1 with
              | true=>rfl
              | false=>exact bk (ci25 x hx.i.s hx.i.e) (by rw [gt_le]; rfl)) ?_
            have e0:∀ a b c:Bool,((!a && b) && c)=(!(a || !b) && c):=by decide
            unfold acc2
            rw [e0 (iNe (termN x x.2.2.2.2.2.2.2.2.2.1) x.2.1) (iLe (lc x.2.2.2.2.2.2.1 (x.2.2.2.2.2.2.1 + 1) x.2.2.2.2.2.2.2.2.1) x.2.2.2.2.2.2.2.2.2.1) (may2 (readC t).1 (cfN x big))]
            cases iNe (termN x x.2.2.2.2.2.2.2.2.2.1) x.2.1 || !iLe (lc x.2.2.2.2.2.2.1 (x.2.2.2.2.2.2.1 + 1) x.2.2.2.2.2.2.2.2.1) x.2.2.2.2.2.2.2.2.2.1 with
            | true=>exact bk (a:=true) rfl rfl
            | false=>
              refine bk (a:=!may2 (readC t).1 (cfN x big)) (bk (conf119 x hx.i.pre hx.i.e) (bk (near_may _ _ hcb (cfa_conf hx.b)) (by rw [bNot_def]))) ?_
              cases may2 (readC t).1 (cfN x big) with
              | false=>rfl
              | true=>exact hbody

end
end Go.Proofs.Ytofonninnabieaa.Tq

