/- A node's size,copy and comparison; the law of NodeOk. -/
import Derived.Test.YtofonninnabieaaTqc2
namespace Go.Proofs.Ytofonninnabieaa.Tq
open Go Go.Am
set_option linter.unusedVariables false
set_option linter.unusedSimpArgs false

noncomputable section
theorem sz82 (x:List Int×Int×Unit):∃ r,F17 x=some r:=by unfold F17; rw [cond_some]; exact ⟨_,rfl⟩
theorem sz157 (y:TEntry) (v:Int×Unit):∃ r,F98 (y,v)=some r:=by unfold F98; rw [cond_some]; exact ⟨_,rfl⟩
theorem sz178 (xs:List TEntry) (v:Int×Unit) (hl:xs.length≤4294967296):∃ r,F72 (xs,v)=some r:=szS_ok (fun y _ v=>sz157 y v) hl _
theorem sz113 (x:TLog) (v:Int×Unit) (hl:x.2.2.1.length≤4294967296):∃ r,F18 (x,v)=some r:=by
  unfold F18
  obtain ⟨r,h⟩:=sz178 x.2.2.1 v hl
  simp only [h,bindK_pure,cond_some]; exact ⟨_,rfl⟩
theorem sz114 (x:List TPeer) (v:Int×Unit):∃ r,F19 (x,v)=some r:=by unfold F19; rw [cond_some]; exact ⟨_,rfl⟩
theorem sz46 (x:TNode) (v:Int×Unit) (hl:x.2.2.2.2.2.2.2.2.1.length≤4294967296):∃ r,F5 (x,v)=some r:=by
  unfold F5
  obtain ⟨r1,h1⟩:=sz82 (x.2.2.2.2.2.1,v)
  obtain ⟨r2,h2⟩:=sz113 (x.2.2.2.2.2.2.1,x.2.2.2.2.2.2.2.1,x.2.2.2.2.2.2.2.2.1,()) r1 hl
  obtain ⟨r3,h3⟩:=sz82 (x.2.2.2.2.2.2.2.2.2.2.2.2.1,r2)
  obtain ⟨r4,h4⟩:=sz114 x.2.2.2.2.2.2.2.2.2.2.2.2.2.1 r3
  simp only [h1,h2,h3,h4,bindK_pure,cond_some]; exact ⟨_,rfl⟩
structure OK (x:TNode):Prop where
  c:x.2.2.2.2.2.1.length≤1048576
  e:x.2.2.2.2.2.2.2.2.1.length≤1048576
  t:∀ y∈x.2.2.2.2.2.2.2.2.1,y.2.2.1.length≤1048576
  v:x.2.2.2.2.2.2.2.2.2.2.2.2.1.length≤1048576
  p:x.2.2.2.2.2.2.2.2.2.2.2.2.2.1.length≤1048576
theorem to51 (xs:List Int) (hl:xs.length≤1048576):F33 (xs,())=some (xs,()):=toP_ok (xs:=xs) (by omega) (by omega)
theorem to48 (x:TNode) (h:OK x):F7 (x,())=some (x,()):=by
  have h1:F80 (x.2.2.2.2.2.2.2.2.1,())=some (x.2.2.2.2.2.2.2.2.1,()):=toS_ok (xs:=x.2.2.2.2.2.2.2.2.1) (by omega) (fun y _=>rfl) (by have:=h.e; omega)
  have h2:F34 ((x.2.2.2.2.2.2.1,x.2.2.2.2.2.2.2.1,x.2.2.2.2.2.2.2.2.1,()),())=some ((x.2.2.2.2.2.2.1,x.2.2.2.2.2.2.2.1,x.2.2.2.2.2.2.2.2.1,()),()):=by
    unfold F34
    simp only [h1,bindK_pure]
  have h3:F35 (x.2.2.2.2.2.2.2.2.2.2.2.2.2.1,())=some (x.2.2.2.2.2.2.2.2.2.2.2.2.2.1,()):=toS_ok (xs:=x.2.2.2.2.2.2.2.2.2.2.2.2.2.1) (by omega) (fun y _=>rfl) (by have:=h.p; omega)
  unfold F7
  simp only [to51 _ h.c,to51 _ h.v,h2,h3,bindK_pure]
theorem eq52 (xs:List Int) (hl:xs.length≤1048576):F46 (xs,xs,())=some (true,()):=eqP_refl (xs:=xs) (ne:=iNe) (fun y=>by simp [iNe_def]) (by omega)
theorem eq76 (y:TEntry):F103 (y,y,())=some (true,()):=by
  unfold F103
  simp [iNe_def,strEq_def,bNot_def]
theorem eq181 (y:TPeer):F95 (y,y,())=some (true,()):=by
  unfold F95
  simp [iNe_def]
theorem eq49 (x:TNode) (h:OK x):F9 (x,x,())=some (true,()):=by
  have h1:F94 (x.2.2.2.2.2.2.2.2.1,x.2.2.2.2.2.2.2.2.1,())=some (true,()):=eqS_refl (xs:=x.2.2.2.2.2.2.2.2.1) (fun y _=>eq76 y) (by have:=h.e; omega)
  have h2:F47 ((x.2.2.2.2.2.2.1,x.2.2.2.2.2.2.2.1,x.2.2.2.2.2.2.2.2.1,()),(x.2.2.2.2.2.2.1,x.2.2.2.2.2.2.2.1,x.2.2.2.2.2.2.2.2.1,()),())=some (true,()):=by
    unfold F47
    simp only [h1,bindK_pure,iNe_def,bNot_def,bne_self_eq_false,Bool.not_true,cond_false]
  have h3:F48 (x.2.2.2.2.2.2.2.2.2.2.2.2.2.1,x.2.2.2.2.2.2.2.2.2.2.2.2.2.1,())=some (true,()):=eqS_refl (xs:=x.2.2.2.2.2.2.2.2.2.2.2.2.2.1) (fun y _=>eq181 y) (by have:=h.p; omega)
  unfold F9
  simp only [eq52 _ h.c,eq52 _ h.v,h2,h3,bindK_pure,iNe_def,bNot_def,bne_self_eq_false,Bool.not_true,cond_false]

theorem bulkI:∀ (xs:List (Kd.den I)),(List.map (Kd.bulk I) xs).sum=xs.length
  | []=>rfl
  | x :: r=>by
    have:=bulkI r
    have e:(List.map (Kd.bulk I) (x :: r)).sum=1 + (List.map (Kd.bulk I) r).sum:=by rw [List.map_cons,List.sum_cons]; rfl
    rw [e,this,List.length_cons]; omega
theorem ok_bulk (x:TNode) (hb:Kd.bulk KNode x≤1048576):OK x:=by
  have e:Kd.bulk KNode x=(1 + (1 + (1 + (1 + (1 + (Kd.bulk (.sl 1 I) x.2.2.2.2.2.1 + (1 + (1 + (Kd.bulk (.sl 3 KEntry) x.2.2.2.2.2.2.2.2.1 + (1 + (1 + (1 + (Kd.bulk (.sl 1 I) x.2.2.2.2.2.2.2.2.2.2.2.2.1 + (Kd.bulk (.sl 4 KPeer) x.2.2.2.2.2.2.2.2.2.2.2.2.2.1 + 0)))))))))))))) + 1:=rfl
  have eL:∀ xs:List Int,Kd.bulk (.sl 1 I) xs=xs.length + 1:=fun xs=>by
    show (List.map (Kd.bulk I) xs).sum + 1=_
    have:(List.map (Kd.bulk I) xs).sum=List.length (α:=Kd.den I) xs:=bulkI xs
    exact congrArg (· + 1) this
  have e1:Kd.bulk (.sl 3 KEntry) x.2.2.2.2.2.2.2.2.1=(List.map (Kd.bulk KEntry) x.2.2.2.2.2.2.2.2.1).sum + 1:=rfl
  have e2:Kd.bulk (.sl 4 KPeer) x.2.2.2.2.2.2.2.2.2.2.2.2.2.1=(List.map (Kd.bulk KPeer) x.2.2.2.2.2.2.2.2.2.2.2.2.2.1).sum + 1:=rfl
  simp only [eL] at e
  have he:∀ y:TEntry,Kd.bulk KEntry y=(1 + (1 + (y.2.2.1.length + 1 + 0))) + 1:=fun y=>rfl
  have hp:∀ y:TPeer,Kd.bulk KPeer y=(1 + (1 + (1 + (1 + 0)))) + 1:=fun y=>rfl
  have l1:=bulk_len (e:=KEntry) x.2.2.2.2.2.2.2.2.1 fun y _=>by have:=he y; omega
  have l2:=bulk_len (e:=KPeer) x.2.2.2.2.2.2.2.2.2.2.2.2.2.1 fun y _=>by have:=hp y; omega
  have l1:x.2.2.2.2.2.2.2.2.1.length≤(List.map (Kd.bulk KEntry) x.2.2.2.2.2.2.2.2.1).sum:=l1
  have l2:x.2.2.2.2.2.2.2.2.2.2.2.2.2.1.length≤(List.map (Kd.bulk KPeer) x.2.2.2.2.2.2.2.2.2.2.2.2.2.1).sum:=l2
  refine ⟨by omega,by omega,fun y hy=>?_,by omega,by omega⟩
  have:=bulk_mem (e:=KEntry) x.2.2.2.2.2.2.2.2.1 y hy
  have:=he y
  omega
end
end Go.Proofs.Ytofonninnabieaa.Tq

