/- A tick. -/
import Derived.Test.YtofonninnabieaaTqc8
namespace Go.Proofs.Ytofonninnabieaa.Tq
open Go Go.Am
set_option linter.unusedVariables false
set_option linter.unusedSimpArgs false

noncomputable section
structure MsOK (ms:List TMessage):Prop where
  n:ms.length≤200
  e:∀ m∈ms,m.2.2.2.2.2.2.2.2.1.length≤1048576
  c:∀ m∈ms,m.2.2.2.2.2.2.2.2.2.1.length≤1048576
theorem MsOK.nil:MsOK []:=⟨Nat.zero_le _,(fun m h=>by cases h),(fun m h=>by cases h)⟩
abbrev zN:TNode:=(0,0,0,0,0,[],0,0,[],0,0,0,[],[],())
theorem NI.ok {x:TNode} (h:NI x) (hv:x.2.2.2.2.2.2.2.2.2.2.2.2.1.length≤1048576):OK x:=⟨h.c,Nat.le_trans h.e (by omega),h.t,hv,Nat.le_trans h.p (by omega)⟩
theorem sendL_ok {x:TNode} (h:NI x):MsOK (sendL x):=by
  have hp:=h.p
  refine ⟨by unfold sendL; rw [List.length_map]; omega,fun m hm=>?_,fun m hm=>?_⟩
  · obtain ⟨p,_,rfl⟩:=List.mem_map.1 hm
    unfold sendM
    cases iLe p.2.1 x.2.2.2.2.2.2.1 with
    | true=>exact Nat.zero_le _
    | false=>
      show ((x.2.2.2.2.2.2.2.2.1.drop _).take 4).length≤_
      rw [List.length_take]
      omega
  · obtain ⟨p,_,rfl⟩:=List.mem_map.1 hm
    unfold sendM
    cases iLe p.2.1 x.2.2.2.2.2.2.1 with
    | true=>exact h.c
    | false=>exact Nat.zero_le _
theorem endN_votes {n:TNode} (h:n.2.2.2.2.2.2.2.2.2.2.2.2.1=[]):(endN n).2.2.2.2.2.2.2.2.2.2.2.2.1=[]:=by
  unfold endN
  cases folB n with
  | false=>exact h
  | true=>rfl
theorem restB_peers (x:TNode) (h:restB x=true) (hb:confB x.2.2.2.2.2.1=true):x.2.2.2.2.2.2.2.2.2.2.2.2.2.1.length≤4∧∀ p∈x.2.2.2.2.2.2.2.2.2.2.2.2.2.1,1≤p.2.1∧p.2.1≤iAdd .i64 (x.2.2.2.2.2.2.1 + x.2.2.2.2.2.2.2.2.1.length) 1:=by
  unfold restB at h
  cases hr:iEq x.2.2.2.1 2 with
  | true=>
    rw [hr,cond_true,peersB,Bool.and_eq_true] at h
    have h2:x.2.2.2.2.2.2.2.2.2.2.2.2.2.1.map (·.1)=othN x:=by simpa using h.2
    refine ⟨?_,fun p hp=>?_⟩
    · rw [← List.length_map (f:=fun p:TPeer=>p.1),h2]; exact othN_len x hb
    · have:=List.all_eq_true.1 h.1 p hp
      rw [peerB,Bool.and_eq_true,Bool.and_eq_true] at this
      exact inB_iff.1 this.1.1
  | false=>
    rw [hr,cond_false,iEq_def,lenI_def] at h
    have:x.2.2.2.2.2.2.2.2.2.2.2.2.2.1=[]:=by
      cases hq:x.2.2.2.2.2.2.2.2.2.2.2.2.2.1 with
      | nil=>rfl
      | cons a b=>rw [hq] at h; simp at h; omega
    rw [this]
    exact ⟨Nat.zero_le _,fun p hp=>by cases hp⟩

structure NG (x:TNode):Prop where
  i:NI x
  b:confB x.2.2.2.2.2.1=true
  c:x.2.2.2.2.2.2.1≤x.2.2.2.2.2.2.2.2.2.1∧x.2.2.2.2.2.2.2.2.2.1≤x.2.2.2.2.2.2.1 + x.2.2.2.2.2.2.2.2.1.length
  t:x.2.1≤100000
  v:x.2.2.2.2.2.2.2.2.2.2.2.2.1.length≤1048576
  z:iEq x.2.2.2.1 2=true→x.2.2.2.2.2.2.2.2.2.2.2.2.1=[]
theorem node_ok (x:TNode) (h:OK x) (hl:logB (nLog x)=true) (T:Int) (hb:nodeB x T=true):NG x:=by
  obtain ⟨hp,he⟩:=pre_of x h hl
  unfold nodeB at hb
  simp only [Bool.and_eq_true] at hb
  obtain ⟨⟨⟨⟨h1,h2⟩,⟨⟨h3,h4⟩,h5,h6⟩⟩,⟨⟨h7,h8⟩,h9⟩⟩,⟨h10,h11⟩,h12⟩:=hb
  obtain ⟨p1,p2⟩:=restB_peers x h12 h2
  have hs:=hp.2.1
  refine ⟨⟨h.c,hs,he,h.t,p1,fun p hp=>?_⟩,h2,inB_iff.1 h7,(inB_iff.1 h3).2,h.v,fun hr=>?_⟩
  · have:=p2 p hp
    rw [iAdd64 (by omega)] at this
    exact this
  · have e:iNe x.2.2.2.1 1=true:=by
      rw [iEq_def] at hr; rw [iNe_def]; simp at hr ⊢; omega
    rw [e,Bool.true_and,len0,Bool.not_not,iEq_def,lenI_def] at h11
    cases hq:x.2.2.2.2.2.2.2.2.2.2.2.2.1 with
    | nil=>rfl
    | cons a b=>rw [hq] at h11; simp at h11; omega
theorem NG.nl {x:TNode} (h:NG x):NL x:=⟨h.i.pre,h.i.e,h.b,h.c⟩
end
end Go.Proofs.Ytofonninnabieaa.Tq

