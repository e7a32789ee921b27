/- The law of Tick: what both tell stays what it was,whatever is written afterwards. -/
import Derived.Test.YtofonninnabieaaTqc9
namespace Go.Proofs.Ytofonninnabieaa.Tq
open Go Go.Am
set_option linter.unusedVariables false
set_option linter.unusedSimpArgs false

noncomputable section
def kE (k:Int) (m:TMessage):Int:=k + 1 + 1 + 1 + 1 + 1 + 1 + 1 + 1 + ((3:Nat):Int) * (m.2.2.2.2.2.2.2.2.1.length:Int)
def kC (k:Int) (m:TMessage):Int:=kE k m + ((1:Nat):Int) * (m.2.2.2.2.2.2.2.2.2.1.length:Int)
def mkM (k:Int) (m:TMessage):TMessage:=(k,k + 1,k + 1 + 1,k + 1 + 1 + 1,k + 1 + 1 + 1 + 1,k + 1 + 1 + 1 + 1 + 1,k + 1 + 1 + 1 + 1 + 1 + 1,iEq (iRem (k + 1 + 1 + 1 + 1 + 1 + 1 + 1) 3) 0,mkAll mkE 3 (k + 1 + 1 + 1 + 1 + 1 + 1 + 1 + 1) m.2.2.2.2.2.2.2.2.1,mkAll mkI 1 (kE k m) m.2.2.2.2.2.2.2.2.2.1,mt (kC k m),iEq (iRem (kC k m + 1) 3) 0,())
def endK:Int→List TMessage→Int
  | k,[]=>k
  | k,m :: r=>endK (kC k m + 1 + 1) r
def mkMs:Int→List TMessage→List TMessage
  | _,[]=>[]
  | k,m :: r=>mkM k m :: mkMs (kC k m + 1 + 1) r
theorem endK_app:∀ (l:List TMessage) (k:Int) (m:TMessage),endK k (l++[m])=kC (endK k l) m + 1 + 1
  | [],k,m=>rfl
  | x :: l,k,m=>endK_app l _ m
theorem mkMs_app:∀ (l:List TMessage) (k:Int) (m:TMessage),mkMs k (l++[m])=mkMs k l++[mkM (endK k l) m]
  | [],k,m=>rfl
  | x :: l,k,m=>by
    show mkM k x :: mkMs _ (l++[m])=_
    rw [mkMs_app l _ m]; rfl
theorem mkMs_len:∀ (l:List TMessage) (k:Int),(mkMs k l).length=l.length
  | [],k=>rfl
  | x :: l,k=>by show (mkMs _ l).length + 1=_; rw [mkMs_len l]; rfl
theorem mkMs_get:∀ (l:List TMessage) (k:Int) (n:Nat) (h:n < l.length),(mkMs k l)[n]? = some (mkM (endK k (l.take n)) l[n])
  | x :: l,k,0,h=>rfl
  | x :: l,k,n + 1,h=>mkMs_get l _ n (by simpa using h)
theorem endK_le:∀ (l:List TMessage) (k:Int),0≤k→(∀ m∈l,m.2.2.2.2.2.2.2.2.1.length≤1048576)→(∀ m∈l,m.2.2.2.2.2.2.2.2.2.1.length≤1048576)→0≤endK k l∧endK k l≤k + 4200000 * (l.length:Int)
  | [],k,h,_,_=>by simp [endK]; omega
  | m :: l,k,h,h1,h2=>by
    have e1:=h1 m (List.mem_cons_self)
    have e2:=h2 m (List.mem_cons_self)
    have e3:kC k m≤k + 4200000 - 2∧0≤kC k m:=by unfold kC kE; omega
    have:=endK_le l (kC k m + 1 + 1) (by omega) (fun m hm=>h1 m (List.mem_cons_of_mem _ hm)) (fun m hm=>h2 m (List.mem_cons_of_mem _ hm))
    show 0≤endK (kC k m + 1 + 1) l∧endK (kC k m + 1 + 1) l≤_
    rw [List.length_cons]
    omega
theorem at_le {ms:List TMessage} (h:MsOK ms) {k:Int} (hk:0≤k∧k≤20000000) (n:Nat):0≤endK k (ms.take n)∧endK k (ms.take n)≤900000000:=by
  have h1:=endK_le (ms.take n) k hk.1 (fun m hm=>h.e m (List.mem_of_mem_take hm)) (fun m hm=>h.c m (List.mem_of_mem_take hm))
  have h2:=h.n
  rw [List.length_take] at h1
  omega
theorem eq94 (y:List TEntry) (hl:y.length≤1048576):F94 (y,y,())=some (true,()):=eqS_refl (xs:=y) (fun y _=>eq76 y) (by omega)
theorem eqM (m:TMessage) (h1:m.2.2.2.2.2.2.2.2.1.length≤1048576) (h2:m.2.2.2.2.2.2.2.2.2.1.length≤1048576):F49 (m,m,())=some (true,()):=by
  unfold F49
  simp only [iNe_def,bNe_def,bne_self_eq_false,cond_false,eq94 _ h1,eq52 _ h2,bindK_pure,bNot_def,Bool.not_true,strEq_def,beq_self_eq_true,decide_true]
theorem eqMs (ms:List TMessage) (h:MsOK ms):F10 (ms,ms,())=some (true,()):=by
  have hn:=h.n
  unfold F10
  simp only [iNe_def,bne_self_eq_false,cond_false]
  refine loop_list (xs:=ms) (a:=Unit) (fun i _=>(i,())) (fun _ _=>True) (fun _ _=>some (true,())) (fun rec s _=>?_) (fun rec n hk s _ hr=>?_) NN () trivial (NN_len (by omega))
  · simp only [lenI_def,iLt_nat,Nat.lt_irrefl,decide_false,cond_false]
  · simp only [iLt_len,hk,decide_true,cond_true]
    rw [idxK_lt hk,idxK_lt hk]
    refine bk (eqM _ (h.e _ (List.getElem_mem hk)) (h.c _ (List.getElem_mem hk))) ?_
    simp only [bNot_def,Bool.not_true,cond_false]
    rw [iAdd_nat (by omega)]
    exact hr () trivial
theorem g3:gNz 3=true:=gNz_pos (by decide)
theorem heldMs (ms:List TMessage) (h:MsOK ms) (k:Int) (hk:0≤k∧k≤20000000):F14 (mkMs k ms,k,())=some (endK k ms,()):=by
  have hn:=h.n
  have hl:=mkMs_len ms k
  unfold F14
  refine loop_list (xs:=mkMs k ms) (a:=Int) (fun i k=>(i,k,())) (fun n s=>s=endK k (ms.take n)) (fun _ _=>some (endK k ms,())) (fun rec s hs=>?_) (fun rec n hn s hs hr=>?_) NN k rfl (NN_len (by omega))
  · subst hs
    simp only [lenI_def,iLt_nat,Nat.lt_irrefl,decide_false,cond_false,hl,List.take_length]
  · have hm:n < ms.length:=by omega
    have b:=at_le h hk n
    have he:=h.e _ (List.getElem_mem hm)
    have hc:=h.c _ (List.getElem_mem hm)
    have g:(mkMs k ms)[n]=mkM (endK k (ms.take n)) ms[n]:=by
      have:=mkMs_get ms k n hm
      rw [List.getElem?_eq_getElem hn] at this
      exact Option.some.inj this
    have hr0:=hr (kC s ms[n] + 1 + 1) (by rw [hs,List.take_succ_eq_append_getElem hm,endK_app])
    subst hs
    have ex:∀ {ρ:Type} (K:TMessage→Option ρ),idxK (mkMs k ms) (n:Int) K=K (mkM (endK k (ms.take n)) ms[n]):=fun K=>by rw [idxK_lt hn,g]
    simp only [iLt_len,hn,decide_true,cond_true,ex]
    generalize ms[n]=m at he hc hr0
    generalize endK k (ms.take n)=k at b hr0
    have q1:F58 (mkAll mkE 3 (k + 1 + 1 + 1 + 1 + 1 + 1 + 1 + 1) m.2.2.2.2.2.2.2.2.1,k + 1 + 1 + 1 + 1 + 1 + 1 + 1 + 1,())=some (kE k m,()):=held27 _ (by omega) (by omega) he
    have q2:F55 (mkAll mkI 1 (kE k m) m.2.2.2.2.2.2.2.2.2.1,kE k m,())=some (kC k m,()):=held126 _ (by unfold kE; omega) (by unfold kE; omega) hc
    have b1:0≤kE k m∧kE k m≤950000000:=by unfold kE; omega
    have b2:0≤kC k m∧kC k m≤990000000:=by unfold kC; omega
    have q3:F54 (kC k m,())=some (mt (kC k m),()):=mt78 (by omega) (by omega)
    have n1:iLt (kE k m) 0=false:=nn b1.1
    have n2:iLt (kC k m) 0=false:=nn b2.1
    unfold mkM
    simp (disch:=omega) only [iAdd64,iNe_def,bNe_def,bne_self_eq_false,cond_false,g3,guardK_true,q1,q2,q3,n1,n2,bindK_pure,bNot_def,strEq_def,beq_self_eq_true,decide_true,Bool.not_true]
    exact hr0

theorem ks2 (x:TNode) (h:OK x):0≤k4 x∧k4 x≤20000000:=by
  have:=h.c; have:=h.e; have:=h.v; have:=h.p
  simp only [k4,k3,k2,k1]
  omega
abbrev mkN (n:TNode):TNode:=(n.1,n.2.1,n.2.2.1,n.2.2.2.1,n.2.2.2.2.1,mkAll mkI 1 1 n.2.2.2.2.2.1,n.2.2.2.2.2.2.1,n.2.2.2.2.2.2.2.1,mkAll mkE 3 (k1 n) n.2.2.2.2.2.2.2.2.1,n.2.2.2.2.2.2.2.2.2.1,n.2.2.2.2.2.2.2.2.2.2.1,n.2.2.2.2.2.2.2.2.2.2.2.1,mkAll mkI 1 (k2 n) n.2.2.2.2.2.2.2.2.2.2.2.2.1,mkAll mkP 4 (k3 n) n.2.2.2.2.2.2.2.2.2.2.2.2.2.1,())
end
end Go.Proofs.Ytofonninnabieaa.Tq

