/- Marks on a node; the laws of NodeNew and Settle. -/
import Derived.Test.YtofonninnabieaaTqc3
namespace Go.Proofs.Ytofonninnabieaa.Tq
open Go Go.Am
set_option linter.unusedVariables false
set_option linter.unusedSimpArgs false

noncomputable section
theorem text78 {k:Int} (h0:0≤k) (h1:k≤9223372036854775807):∃ r,F54 (k,())=some (r,()):=by
  unfold F54
  cases iLe k 0 with
  | true=>exact ⟨_,rfl⟩
  | false=>
    refine text_ok (fun rec n s hn hb hs=>?_) h0 h1
    refine ⟨UInt8.ofNat (iConv .u8 (iAdd .i64 48 (iRem n 10))).toNat,?_⟩
    have e1:strP [iConv .u8 (iAdd .i64 48 (iRem n 10))]=[UInt8.ofNat (iConv .u8 (iAdd .i64 48 (iRem n 10))).toNat]:=by rw [strP_def]; rfl
    simp only [e1,gNz_pos (show (10:Int)≠0 by omega),guardK_true,cat_def,iGt_def]
    by_cases hp:n > 0
    · rw [decide_eq_true hp,cond_true,cond_true,guardK_pos (gCat_pos (by simp; omega)),iQuo64 hn hb (by omega)]; rfl
    · rw [decide_eq_false hp,cond_false,cond_false,guardK_pos (gCat_pos (by rw [litS_def]; simp; omega))]
def mt (k:Int):List UInt8:=((F54 (k,())).getD ([],())).1
theorem mt78 {k:Int} (h0:0≤k) (h1:k≤9223372036854775807):F54 (k,())=some (mt k,()):=by
  obtain ⟨r,h⟩:=text78 h0 h1
  rw [mt,h]; rfl
def mkI (k:Int) (_:Int):Int:=k
theorem mark53 (xs:List Int) {c:Int} (hc:0≤c) (hc2:c≤1000000000) (hl:xs.length≤1048576):F50 (xs,c,())=some (c + ((1:Nat):Int) * (xs.length:Int),mkAll mkI 1 c xs,()):=by
  unfold F50
  refine mark_ok (xs:=xs) (k0:=c) mkI 1 hc (fun rec k ys hy=>?_) (fun rec n k ys hy h h0 h1=>?_) (by omega)
  · simp only [lenI_def,hy,iLt_nat,Nat.lt_irrefl,decide_false,cond_false]
  · have hk:k≤2000000000:=by omega
    simp only [iLt_len,h,decide_true,cond_true,toN_nat]
    rw [idxK_lt h]
    simp (disch:=omega) only [iAdd64,setL_setL,idxK_setL,mt78,bindK_pure,iAdd_nat]
    simp only [setL_def,mkI]
    congr 2
theorem held126 (xs:List Int) {c:Int} (hc:0≤c) (hc2:c≤1000000000) (hl:xs.length≤1048576):F55 (mkAll mkI 1 c xs,c,())=some (c + ((1:Nat):Int) * (xs.length:Int),()):=by
  unfold F55
  refine held_ok (xs:=xs) (k0:=c) mkI 1 hc (fun rec k=>?_) (fun rec n k h y hy h0 h1=>?_) (by omega)
  · simp only [lenI_def,iLt_nat,Nat.lt_irrefl,decide_false,cond_false]
  · have hk:k≤2000000000:=by omega
    have hl2:(mkAll mkI 1 c xs).length=xs.length:=mkAll_length
    simp only [iLt_len,h,decide_true,cond_true]
    simp only [idxK_lt h,hy,mkI]
    simp (disch:=omega) only [iAdd64,mt78,bindK_pure,iAdd_nat]
    simp only [iNe_def,bne_self_eq_false,cond_false,strEq_def,beq_self_eq_true,bNot_def,Bool.not_true]
    congr 2
def mkE (k:Int) (_:TEntry):TEntry:=(k,k + 1,mt (k + 1 + 1),())
theorem mark26 (xs:List TEntry) {c:Int} (hc:0≤c) (hc2:c≤1000000000) (hl:xs.length≤1048576):F53 (xs,c,())=some (c + ((3:Nat):Int) * (xs.length:Int),mkAll mkE 3 c xs,()):=by
  unfold F53
  refine mark_ok (xs:=xs) (k0:=c) mkE 3 hc (fun rec k ys hy=>?_) (fun rec n k ys hy h h0 h1=>?_) (by omega)
  · simp only [lenI_def,hy,iLt_nat,Nat.lt_irrefl,decide_false,cond_false]
  · have hk:k≤2000000000:=by omega
    simp only [iLt_len,h,decide_true,cond_true,toN_nat]
    rw [idxK_lt h]
    simp (disch:=omega) only [iAdd64,setL_setL,idxK_setL,mt78,bindK_pure,iAdd_nat]
    simp only [setL_def,mkE]
    congr 2
    simp; omega
theorem held27 (xs:List TEntry) {c:Int} (hc:0≤c) (hc2:c≤1000000000) (hl:xs.length≤1048576):F58 (mkAll mkE 3 c xs,c,())=some (c + ((3:Nat):Int) * (xs.length:Int),()):=by
  unfold F58
  refine held_ok (xs:=xs) (k0:=c) mkE 3 hc (fun rec k=>?_) (fun rec n k h y hy h0 h1=>?_) (by omega)
  · simp only [lenI_def,iLt_nat,Nat.lt_irrefl,decide_false,cond_false]
  · have hk:k≤2000000000:=by omega
    have hl2:(mkAll mkE 3 c xs).length=xs.length:=mkAll_length
    simp only [iLt_len,h,decide_true,cond_true]
    simp only [idxK_lt h,hy,mkE]
    simp (disch:=omega) only [iAdd64,mt78,bindK_pure,iAdd_nat]
    simp only [iNe_def,bne_self_eq_false,cond_false,strEq_def,beq_self_eq_true,bNot_def,Bool.not_true]
    congr 2
    simp; omega
def mkP (k:Int) (_:TPeer):TPeer:=(k,k + 1,k + 1 + 1,k + 1 + 1 + 1,())
theorem mark125 (xs:List TPeer) {c:Int} (hc:0≤c) (hc2:c≤1000000000) (hl:xs.length≤1048576):F52 (xs,c,())=some (c + ((4:Nat):Int) * (xs.length:Int),mkAll mkP 4 c xs,()):=by
  unfold F52
  refine mark_ok (xs:=xs) (k0:=c) mkP 4 hc (fun rec k ys hy=>?_) (fun rec n k ys hy h h0 h1=>?_) (by omega)
  · simp only [lenI_def,hy,iLt_nat,Nat.lt_irrefl,decide_false,cond_false]
  · have hk:k≤2000000000:=by omega
    simp only [iLt_len,h,decide_true,cond_true,toN_nat]
    rw [idxK_lt h]
    simp (disch:=omega) only [iAdd64,setL_setL,idxK_setL,mt78,bindK_pure,iAdd_nat]
    simp only [setL_def,mkP]
    congr 2
    simp; omega
theorem held128 (xs:List TPeer) {c:Int} (hc:0≤c) (hc2:c≤1000000000) (hl:xs.length≤1048576):F57 (mkAll mkP 4 c xs,c,())=some (c + ((4:Nat):Int) * (xs.length:Int),()):=by
  unfold F57
  refine held_ok (xs:=xs) (k0:=c) mkP 4 hc (fun rec k=>?_) (fun rec n k h y hy h0 h1=>?_) (by omega)
  · simp only [lenI_def,iLt_nat,Nat.lt_irrefl,decide_false,cond_false]
  · have hk:k≤2000000000:=by omega
    have hl2:(mkAll mkP 4 c xs).length=xs.length:=mkAll_length
    simp only [iLt_len,h,decide_true,cond_true]
    simp only [idxK_lt h,hy,mkP]
    simp (disch:=omega) only [iAdd64,mt78,bindK_pure,iAdd_nat]
    simp only [iNe_def,bne_self_eq_false,cond_false,strEq_def,beq_self_eq_true,bNot_def,Bool.not_true]
    congr 2
    simp; omega

def k1 (x:TNode):Int:=1 + ((1:Nat):Int) * (x.2.2.2.2.2.1.length:Int)
def k2 (x:TNode):Int:=k1 x + ((3:Nat):Int) * (x.2.2.2.2.2.2.2.2.1.length:Int)
def k3 (x:TNode):Int:=k2 x + ((1:Nat):Int) * (x.2.2.2.2.2.2.2.2.2.2.2.2.1.length:Int)
def k4 (x:TNode):Int:=k3 x + ((4:Nat):Int) * (x.2.2.2.2.2.2.2.2.2.2.2.2.2.1.length:Int)
theorem ks (x:TNode) (h:OK x):(0≤k1 x∧k1 x≤1000000000)∧(0≤k2 x∧k2 x≤1000000000)∧(0≤k3 x∧k3 x≤1000000000)∧(0≤k4 x∧k4 x≤1000000000):=by
  have:=h.c; have:=h.e; have:=h.v; have:=h.p
  simp only [k4,k3,k2,k1]
  omega
theorem m1 (x:TNode) (h:OK x):F50 (x.2.2.2.2.2.1,1,())=some (k1 x,mkAll mkI 1 1 x.2.2.2.2.2.1,()):=mark53 _ (by omega) (by omega) h.c
theorem m2 (x:TNode) (h:OK x):F53 (x.2.2.2.2.2.2.2.2.1,k1 x,())=some (k2 x,mkAll mkE 3 (k1 x) x.2.2.2.2.2.2.2.2.1,()):=mark26 _ (ks x h).1.1 (ks x h).1.2 h.e
theorem m3 (x:TNode) (h:OK x):F50 (x.2.2.2.2.2.2.2.2.2.2.2.2.1,k2 x,())=some (k3 x,mkAll mkI 1 (k2 x) x.2.2.2.2.2.2.2.2.2.2.2.2.1,()):=mark53 _ (ks x h).2.1.1 (ks x h).2.1.2 h.v
theorem m4 (x:TNode) (h:OK x):F52 (x.2.2.2.2.2.2.2.2.2.2.2.2.2.1,k3 x,())=some (k4 x,mkAll mkP 4 (k3 x) x.2.2.2.2.2.2.2.2.2.2.2.2.2.1,()):=mark125 _ (ks x h).2.2.1.1 (ks x h).2.2.1.2 h.p
theorem nn {k:Int} (h:0≤k):iLt k 0=false:=by rw [iLt_def,decide_eq_false (by omega)]
theorem held55 (x:TNode) (h:OK x):F13 ((x.1,x.2.1,x.2.2.1,x.2.2.2.1,x.2.2.2.2.1,mkAll mkI 1 1 x.2.2.2.2.2.1,x.2.2.2.2.2.2.1,x.2.2.2.2.2.2.2.1,mkAll mkE 3 (k1 x) x.2.2.2.2.2.2.2.2.1,x.2.2.2.2.2.2.2.2.2.1,x.2.2.2.2.2.2.2.2.2.2.1,x.2.2.2.2.2.2.2.2.2.2.2.1,mkAll mkI 1 (k2 x) x.2.2.2.2.2.2.2.2.2.2.2.2.1,mkAll mkP 4 (k3 x) x.2.2.2.2.2.2.2.2.2.2.2.2.2.1,()),1,())=some (k4 x,()):=by
  obtain ⟨b1,b2,b3,b4⟩:=ks x h
  have e1:F55 (mkAll mkI 1 1 x.2.2.2.2.2.1,1,())=some (k1 x,()):=held126 _ (by omega) (by omega) h.c
  have e2:F58 (mkAll mkE 3 (k1 x) x.2.2.2.2.2.2.2.2.1,k1 x,())=some (k2 x,()):=held27 _ b1.1 b1.2 h.e
  have e3:F55 (mkAll mkI 1 (k2 x) x.2.2.2.2.2.2.2.2.2.2.2.2.1,k2 x,())=some (k3 x,()):=held126 _ b2.1 b2.2 h.v
  have e4:F57 (mkAll mkP 4 (k3 x) x.2.2.2.2.2.2.2.2.2.2.2.2.2.1,k3 x,())=some (k4 x,()):=held128 _ b3.1 b3.2 h.p
  unfold F13 F56
  simp only [e1,e2,e3,e4,bindK_pure,nn b1.1,nn b2.1,nn b3.1,nn b4.1,cond_false]

end
end Go.Proofs.Ytofonninnabieaa.Tq

