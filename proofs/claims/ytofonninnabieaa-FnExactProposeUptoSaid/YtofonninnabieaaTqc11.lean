/- Near sets of members,and the peers of a node whose log grew. -/
import Derived.Test.YtofonninnabieaaTqc10
namespace Go.Proofs.Ytofonninnabieaa.Tq
open Go Go.Am
set_option linter.unusedVariables false
set_option linter.unusedSimpArgs false

noncomputable section
theorem inL_plain (l:List Int) (y:Int):inL l y=l.any (fun z=>decide (z=y)):=by
  unfold inL; congr 1; funext z; rw [iEq_def]; rfl
def cntTo (a b:List Int):Nat→Int
  | 0=>0
  | n + 1=>cntTo a b n + bif bne (a.any fun z=>decide (z=((n + 1:Nat):Int))) (b.any fun z=>decide (z=((n + 1:Nat):Int))) then 1 else 0
theorem cntTo_le (a b:List Int):∀ n:Nat,0≤cntTo a b n∧cntTo a b n≤n
  | 0=>by simp [cntTo]
  | n + 1=>by
    have:=cntTo_le a b n
    unfold cntTo
    have key:∀ q:Bool,0≤cntTo a b n + (bif q then (1:Int) else 0)∧cntTo a b n + (bif q then (1:Int) else 0)≤((n + 1:Nat):Int):=fun q=>by cases q <;> simp <;> omega
    exact key _
theorem near26 (a b:List Int) (ha:a.length≤1048576) (hb:b.length≤1048576):F26 (a,b,())=some (iEq (cntTo a b 4) 1,()):=by
  unfold F26
  refine loop_list (xs:=[(),(),(),()]) (a:=Int) (fun i s=>(i + 1,s,())) (fun n s=>s=cntTo a b n) (fun _ _=>some (iEq (cntTo a b 4) 1,())) (fun rec s hs=>?_) (fun rec n hn s hs hr=>?_) NN 0 rfl (NN_len (by simp))
  · subst hs
    show (bif iLe (((4:Nat):Int) + 1) 4 then _ else some (iEq (cntTo a b 4) 1,()))=_
    have:iLe (((4:Nat):Int) + 1) 4=false:=by rw [iLe_def]; rfl
    rw [this]; rfl
  · subst hs
    have h4:n < 4:=hn
    have hc:=cntTo_le a b n
    have h1:iLe ((n:Int) + 1) 4=true:=by rw [iLe_def,decide_eq_true]; omega
    simp only [h1,cond_true,joinK_def,in60 a _ (Nat.le_trans ha (by omega)),in60 b _ (Nat.le_trans hb (by omega)),bindK_pure,bNe_def]
    have h2:iAdd .i64 ((n:Int) + 1) 1=((n + 1:Nat):Int) + 1:=by rw [iAdd64 (by omega)]; omega
    rw [h2,iAdd64 (by omega)]
    have h3:cntTo a b (n + 1)=cntTo a b n + bif bne (inL a ((n:Int) + 1)) (inL b ((n:Int) + 1)) then 1 else 0:=by
      rw [inL_plain,inL_plain]; rfl
    cases hq:bne (inL a ((n:Int) + 1)) (inL b ((n:Int) + 1)) with
    | true=>rw [hq,cond_true] at h3; exact hr _ h3.symm
    | false=>rw [hq,cond_false,Int.add_zero] at h3; exact hr _ h3.symm
def mayB (a b:List Int):Bool:=(decide ((b.length:Int)=(a.length:Int) + 1)) && !(a.any fun y=>!(b.any fun z=>decide (z=y)))
def may2 (a b:List Int):Bool:=bif decide (b.length < a.length) then mayB b a else mayB a b
def allC:List (List Int):=[[1],[2],[3],[4],[1,2],[1,3],[1,4],[2,3],[2,4],[3,4],[1,2,3],[1,2,4],[1,3,4],[2,3,4],[1,2,3,4]]
theorem rise_cons {p:Option Int} {y:Int} {r:List Int} (h:riseP (fun n=>inB n 1 4) p (y :: r)=true):(1≤y∧y≤4)∧(∀ q,p=some q→q < y)∧riseP (fun n=>inB n 1 4) (some y) r=true:=by
  rw [riseP,Bool.and_eq_true,Bool.and_eq_true] at h
  refine ⟨inB_iff.1 h.1.1,fun q hq=>?_,h.2⟩
  have:=h.1.2
  rw [hq] at this
  simp only [geO,iGe_def] at this
  simp at this
  omega
theorem conf_all (a:List Int) (h:confB a=true):a∈allC:=by
  have hl:=confB_len h
  rw [confB,Bool.and_eq_true] at h
  have h0:=(inB_iff.1 h.1).1
  rw [lenI_def] at h0
  replace h:=h.2
  match a,h,hl,h0 with
  | [x],h,_,_=>
    have h1:=(rise_cons h).1
    have:x=1∨x=2∨x=3∨x=4:=by omega
    rcases this with rfl | rfl | rfl | rfl <;> decide
  | [x,y],h,_,_=>
    obtain ⟨h1,_,h⟩:=rise_cons h
    obtain ⟨h2,g2,h⟩:=rise_cons h
    replace g2:=g2 _ rfl
    have:(x=1∧y=2)∨(x=1∧y=3)∨(x=1∧y=4)∨(x=2∧y=3)∨(x=2∧y=4)∨(x=3∧y=4):=by omega
    rcases this with ⟨rfl,rfl⟩ | ⟨rfl,rfl⟩ | ⟨rfl,rfl⟩ | ⟨rfl,rfl⟩ | ⟨rfl,rfl⟩ | ⟨rfl,rfl⟩ <;> decide
  | [x,y,z],h,_,_=>
    obtain ⟨h1,_,h⟩:=rise_cons h
    obtain ⟨h2,g2,h⟩:=rise_cons h
    obtain ⟨h3,g3,h⟩:=rise_cons h
    replace g2:=g2 _ rfl
    replace g3:=g3 _ rfl
    have:(x=1∧y=2∧z=3)∨(x=1∧y=2∧z=4)∨(x=1∧y=3∧z=4)∨(x=2∧y=3∧z=4):=by omega
    rcases this with ⟨rfl,rfl,rfl⟩ | ⟨rfl,rfl,rfl⟩ | ⟨rfl,rfl,rfl⟩ | ⟨rfl,rfl,rfl⟩ <;> decide
  | [x,y,z,w],h,_,_=>
    obtain ⟨h1,_,h⟩:=rise_cons h
    obtain ⟨h2,g2,h⟩:=rise_cons h
    obtain ⟨h3,g3,h⟩:=rise_cons h
    obtain ⟨h4,g4,h⟩:=rise_cons h
    replace g2:=g2 _ rfl
    replace g3:=g3 _ rfl
    replace g4:=g4 _ rfl
    obtain ⟨rfl,rfl,rfl,rfl⟩:x=1∧y=2∧z=3∧w=4:=by omega
    decide
theorem near_all:∀ a∈allC,∀ b∈allC,decide (cntTo b a 4=1)=may2 a b:=by decide +kernel
theorem near_may (a b:List Int) (ha:confB a=true) (hb:confB b=true):F26 (b,a,())=some (may2 a b,()):=by
  have h1:=confB_len ha
  have h2:=confB_len hb
  rw [near26 b a (by omega) (by omega),← near_all a (conf_all a ha) b (conf_all b hb),iEq_def]
  rfl
theorem rise_pw:∀ {xs:List Int} {p:Option Int},riseP (fun n=>inB n 1 4) p xs=true→xs.Pairwise (· < ·)∧∀ q,p=some q→∀ y∈xs,q < y
  | [],p,h=>⟨List.Pairwise.nil,(fun q _ y hy=>by cases hy)⟩
  | y :: r,p,h=>by
    obtain ⟨_,h2,h3⟩:=rise_cons h
    obtain ⟨i1,i2⟩:=rise_pw h3
    refine ⟨List.pairwise_cons.2 ⟨fun z hz=>i2 y rfl z hz,i1⟩,fun q hq z hz=>?_⟩
    have:=h2 q hq
    cases hz with
    | head=>exact this
    | tail _ hz=>have:=i2 y rfl z hz; omega
theorem conf_nodup {xs:List Int} (h:confB xs=true):xs.Nodup:=by
  rw [confB,Bool.and_eq_true] at h
  exact (rise_pw h.2).1.imp (fun {a b} h e=>by omega)
theorem othN_nodup (x:TNode) (h:confB x.2.2.2.2.2.1=true):(othN x).Nodup:=(conf_nodup (cfa_conf h)).sublist List.filter_sublist
def pickP (ps:List TPeer) (d:TPeer) (v:Int):TPeer:=match ps.find? (fun p=>iEq p.1 v) with | some p=>p | none=>d
def foldP (v:Int) (d:TPeer) (ps:List TPeer):TPeer:=ps.foldl (fun a p=>bif iEq p.1 v then p else a) d
theorem foldP_none {v:Int}:∀ {ps:List TPeer} {d:TPeer},(∀ p∈ps,iEq p.1 v=false)→foldP v d ps=d
  | [],d,_=>rfl
  | p :: ps,d,h=>by
    show foldP v (bif iEq p.1 v then p else d) ps=d
    rw [h p List.mem_cons_self,cond_false]
    exact foldP_none fun q hq=>h q (List.mem_cons_of_mem _ hq)
theorem foldP_pick {v:Int}:∀ {ps:List TPeer} {d:TPeer},(ps.map (·.1)).Nodup→foldP v d ps=pickP ps d v
  | [],d,_=>rfl
  | p :: ps,d,h=>by
    rw [List.map_cons,List.nodup_cons] at h
    show foldP v (bif iEq p.1 v then p else d) ps=_
    unfold pickP
    rw [List.find?_cons]
    cases hq:iEq p.1 v with
    | true=>
      show foldP v p ps=p
      refine foldP_none fun q hq2=>?_
      rw [iEq_def] at hq ⊢
      have e:p.1=v:=by simpa using hq
      refine decide_eq_false fun e2=>?_
      exact h.1 (List.mem_map.2 ⟨q,hq2,by rw [e2,e]⟩)
    | false=>exact foldP_pick h.2
theorem pick_self:∀ {ps:List TPeer} {d:TPeer},(ps.map (·.1)).Nodup→∀ p∈ps,pickP ps d p.1=p
  | q :: ps,d,h,p,hp=>by
    rw [List.map_cons,List.nodup_cons] at h
    unfold pickP
    rw [List.find?_cons]
    cases hq:iEq q.1 p.1 with
    | true=>
      cases hp with
      | head=>rfl
      | tail _ hp=>
        rw [iEq_def] at hq
        have e:q.1=p.1:=by simpa using hq
        exact absurd (List.mem_map.2 ⟨p,hp,e.symm⟩) h.1
    | false=>
      cases hp with
      | head=>rw [iEq_def] at hq; simp at hq
      | tail _ hp=>exact pick_self h.2 p hp
theorem pick_all {ps:List TPeer} (f:Int→TPeer) (h:(ps.map (·.1)).Nodup):(ps.map (·.1)).map (fun v=>pickP ps (f v) v)=ps:=by
  rw [List.map_map]
  refine (List.map_congr_left (g:=id) fun p hp=>?_).trans (List.map_id _)
  exact pick_self h p hp

end
end Go.Proofs.Ytofonninnabieaa.Tq

