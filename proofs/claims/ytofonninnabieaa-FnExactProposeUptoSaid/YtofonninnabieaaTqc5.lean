/- The law of Settle. -/
import Derived.Test.YtofonninnabieaaTqc4
namespace Go.Proofs.Ytofonninnabieaa.Tq
open Go Go.Am
set_option linter.unusedVariables false
set_option linter.unusedSimpArgs false

noncomputable section
theorem pre_of (x:TNode) (h:OK x) (hb:logB (nLog x)=true):PRE x∧x.2.2.2.2.2.2.2.2.1.length≤60:=by
  simp only [logB,Bool.and_eq_true] at hb
  have s1:=inB_iff.1 hb.1.1
  have s2:x.2.2.2.2.2.2.2.2.1.length≤60:=by
    have:=hb.2.1.1
    rw [iGt_def,lenI_def] at this
    have:((nLog x).2.2.1.length:Int)≤60:=by simpa using this
    exact_mod_cast this
  exact ⟨⟨h.c,s1,h.e,h.t⟩,s2⟩
theorem copy94 (x:TNode) (h:OK x):F40 (x,())=some (x,()):=by
  have h1:=h.c; have h2:=h.e; have h3:=h.v; have h4:=h.p
  unfold F40 F90
  simp only [gApp_pos (xs:=([]:List Int)) (ys:=x.2.2.2.2.2.1) (sz:=1) (by simp; omega),gApp_pos (xs:=([]:List TEntry)) (ys:=x.2.2.2.2.2.2.2.2.1) (sz:=3) (by simp; omega),gApp_pos (xs:=([]:List Int)) (ys:=x.2.2.2.2.2.2.2.2.2.2.2.2.1) (sz:=1) (by simp; omega),gApp_pos (xs:=([]:List TPeer)) (ys:=x.2.2.2.2.2.2.2.2.2.2.2.2.2.1) (sz:=4) (by simp; omega),guardK_true,cat_def,List.nil_append,bindK_pure]
theorem copy142 (x:TNode) (h:OK x):F28 (x,())=some (x,()):=by
  have h1:=h.c; have h2:=h.e; have h3:=h.v; have h4:=h.p
  unfold F28
  simp only [gApp_pos (xs:=([]:List Int)) (ys:=x.2.2.2.2.2.1) (sz:=1) (by simp; omega),gApp_pos (xs:=([]:List TEntry)) (ys:=x.2.2.2.2.2.2.2.2.1) (sz:=3) (by simp; omega),gApp_pos (xs:=([]:List Int)) (ys:=x.2.2.2.2.2.2.2.2.2.2.2.2.1) (sz:=1) (by simp; omega),gApp_pos (xs:=([]:List TPeer)) (ys:=x.2.2.2.2.2.2.2.2.2.2.2.2.2.1) (sz:=4) (by simp; omega),guardK_true,cat_def,List.nil_append,bindK_pure]
theorem term_ok (x:TNode) (h:PRE x) (hl:x.2.2.2.2.2.2.2.2.1.length≤60) (a:Int) (ha:x.2.2.2.2.2.2.1≤a∧a≤x.2.2.2.2.2.2.1 + x.2.2.2.2.2.2.2.2.1.length):∃ t:Int,F86 (nLog x,a,())=some (t,())∧F24 (nLog x,a,())=some (t,()):=by
  have h2:=h.2.1
  unfold nLog
  by_cases e:a=x.2.2.2.2.2.2.1
  · refine ⟨x.2.2.2.2.2.2.2.1,?_,?_⟩
    · unfold F86
      simp only [iEq_def,e,beq_self_eq_true,cond_true]
    · unfold F24
      simp only [iEq_def,e,beq_self_eq_true,cond_true]
  · obtain ⟨n,hn,hn2⟩:∃ n:Nat,a=x.2.2.2.2.2.2.1 + n + 1∧n < x.2.2.2.2.2.2.2.2.1.length:=⟨(a - x.2.2.2.2.2.2.1 - 1).toNat,by omega,by omega⟩
    refine ⟨x.2.2.2.2.2.2.2.2.1[n].1,?_,?_⟩
    · have e0:iEq a x.2.2.2.2.2.2.1=false:=by rw [iEq_def]; simpa using e
      have e1:iSub .i64 a x.2.2.2.2.2.2.1=(n:Int) + 1:=by rw [iSub64 (by omega)]; omega
      have e2:iSub .i64 ((n:Int) + 1) 1=(n:Int):=by rw [iSub64 (by omega)]; omega
      have e3:inB ((n:Int) + 1) 1 (lenI x.2.2.2.2.2.2.2.2.1)=true:=inB_iff.2 (by rw [lenI_def]; omega)
      have e4:iGt a x.2.2.2.2.2.2.1=true:=by rw [iGt_def,decide_eq_true (by omega)]
      unfold F86 F101
      simp only [e0,e4,cond_false,cond_true,in87,e1,e2,e3,bindK_pure,idxK_lt hn2]
    · have e0:iEq a x.2.2.2.2.2.2.1=false:=by rw [iEq_def]; simpa using e
      have e1:iSub .i64 a x.2.2.2.2.2.2.1=(n:Int) + 1:=by rw [iSub64 (by omega)]; omega
      have e2:iSub .i64 ((n:Int) + 1) 1=(n:Int):=by rw [iSub64 (by omega)]; omega
      have e3:iLt a x.2.2.2.2.2.2.1=false:=by rw [iLt_def,decide_eq_false (by omega)]
      have e4:iGt a (iAdd .i64 x.2.2.2.2.2.2.1 (lenI x.2.2.2.2.2.2.2.2.1))=false:=by rw [iGt_def,lenI_def,iAdd64 (by omega),decide_eq_false (by omega)]
      unfold F24 F29
      simp only [e0,e3,e4,cond_false,cond_true,e1,e2,bindK_pure,idxK_lt hn2]
end
end Go.Proofs.Ytofonninnabieaa.Tq

