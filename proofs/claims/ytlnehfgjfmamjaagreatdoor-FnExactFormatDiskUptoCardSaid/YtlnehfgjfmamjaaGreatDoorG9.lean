/- From a function's law on data to its row: arguments that read,a result that is true,memory that stays. -/
import Derived.Test.YtlnehfgjfmamjaaGreatDoorG8
import Derived.WalkKit
import Derived.ProofKit
import Derived.OpenShut
import Derived.ShutString
import Derived.ChangeOld
import Derived.Below
import Derived.Carry
import Derived.JoinedCond
set_option linter.unusedSimpArgs false
set_option linter.unusedVariables false
namespace Go.Am
open Go.Proofs.YtlnehfgjfmamjaaGreatDoor Go.ChangeShapes Go.WideShapes Go.ChangeAt Go.RowKit
abbrev φ0:Id→Option Addr:=fun _=>none
theorem no_mut {b:Nat}:¬ Mut φ0 H0 b:=by
 rintro (⟨o,ob,a,h1,_⟩ | ⟨k,a,h1,_⟩) <;> cases h1
theorem sim0 (w:World):Sim w φ0 H0:=⟨fun _ _ h=>(by cases h),fun _ _ h=>(by cases h),fun _ _ _ _ _ _ h=>(by cases h),fun _ _ h=>(by cases h),fun _ _ _ _ _ h=>(by cases h)⟩
theorem imm0 {w:World} (a:Addr) (v:Value) (h:w.cell? a=some v):imm w φ0 H0 a=some v:=imm_some.2 ⟨no_mut,h⟩
theorem below0 {w w':World} {φ':Id→Option Addr} {Hc:Heap} (h:Ext w φ0 H0 w' φ' Hc):Below w.heap.size w w':=
 ⟨h.os,h.tape,h.output,h.size,fun k hk=>h.fr k hk no_mut⟩
section
variable {H:Type} {enc:TypeId×Value→H} {P:Program}
theorem okw_cells {n:Nat} {t:TypeId} {ty:Ty} {v:Value} {w:World} {b0:Nat} (h:tyOf P n t=some ty) (hv:Value.okWide P w .any b0 t v):(ty.isSt=true→∃ cs,v = .agg cs)∧(ty.isSt=false→v.cells = #[v]):=by
 cases n with
 | zero=>simp [tyOf] at h
 | succ n=>
  simp only [tyOf] at h
  split at h
  ·rename_i k hu
   obtain rfl:=Option.some.inj h
   obtain ⟨i,rfl⟩:=okWide_int hu hv
   exact ⟨fun e=>(by cases e),fun _=>rfl⟩
  ·rename_i hu
   obtain rfl:=Option.some.inj h
   obtain ⟨i,rfl⟩:=okWide_bool hu hv
   exact ⟨fun e=>(by cases e),fun _=>rfl⟩
  ·rename_i hu
   obtain rfl:=Option.some.inj h
   obtain ⟨i,rfl⟩:=okWide_string hu hv
   exact ⟨fun e=>(by cases e),fun _=>rfl⟩
  ·rename_i fs hu
   split at h
   ·split at h
    ·obtain rfl:=Option.some.inj h
     obtain ⟨cs,rfl,_⟩:=okWide_struct hu hv
     exact ⟨fun _=>⟨cs,rfl⟩,fun e=>(by cases e)⟩
    ·cases h
   ·cases h
  ·rename_i e hu
   split at h
   ·split at h
    ·obtain rfl:=Option.some.inj h
     obtain ⟨a,len,cap,rfl⟩:=okWide_slice hu hv
     exact ⟨fun e=>(by cases e),fun _=>rfl⟩
    ·cases h
   ·cases h
  ·cases h
def WTl:List Ty→List TV→Prop
 | [],[]=>True
 | t :: ts,x :: xs=>WT t x∧WTl ts xs
 | _,_=>False
theorem open_args {W:World} {sp:Nat→Bool} {b0 n:Nat}:∀ {ts:List TypeId} {vs:List Value} {ds:List (DataW H)} {ps:List MemPlace} {tys:List Ty},DataW.TrodAll enc P W 0 sp true ts vs ds ps→mapMO (tyOf P n) ts=some tys →
  (∀ (j:Nat) (t:TypeId) (v:Value),ts[j]? = some t→vs[j]? = some v→Value.okWide P W .any b0 t v)→∃ xs:List TV,VTup (ctx W φ0 H0) (xs.map .c) vs∧WTl tys xs∧cellsB xs≤Rows.uptoBulkAll ds
 | [],[],[],_,tys,_,ht,_=>by
  simp only [mapMO] at ht
  obtain rfl:=Option.some.inj ht
  exact ⟨[],trivial,trivial,by simp [cellsB]⟩
 | t :: ts,v :: vs,d :: ds,ps,tys,h,ht,hv=>by
  obtain ⟨p,q,⟨fuel,h1⟩,h2,rfl⟩:=h
  simp only [mapMO] at ht
  split at ht
  ·rename_i ty hty
   split at ht
   ·rename_i tys' htys
    obtain rfl:=Option.some.inj ht
    obtain ⟨xs,k1,k2,k3⟩:=open_args h2 htys (fun j t' v' h3 h4=>hv (j + 1) t' v' (by simpa using h3) (by simpa using h4))
    obtain ⟨x,v',g1,g2,g3,g4,g5,g6⟩:=reads_value (open_cells (m:=imm W φ0 H0) imm0 n fuel t ty _ _ hty h1)
    have hok:=okw_cells hty (hv 0 t v rfl rfl)
    have hvv:v'=v:=by
     cases hs:ty.isSt with
     | true=>
      obtain ⟨cs,rfl⟩:=hok.1 hs
      rw [g5 hs]
      simp [Value.cells]
     | false=>
      have h6:=g6 hs
      rw [hok.2 hs] at h6
      simpa using h6.symm
    subst hvv
    refine ⟨x :: xs,⟨g1,k1⟩,⟨g3,k2⟩,?_⟩
    have g4':tvB x≤Rows.uptoBulk d:=g4
    simp only [cellsB,Rows.uptoBulkAll]
    omega
   ·cases ht
  ·cases ht
 | [],_ :: _,_,_,_,h,_,_=>h.elim
 | [],[],_ :: _,_,_,h,_,_=>h.elim
 | _ :: _,[],_,_,_,h,_,_=>h.elim
 | _ :: _,_ :: _,[],_,_,h,_,_=>h.elim
theorem args_stay {W W':World} (hl:laidOutB P=true) (hb:Below W.heap.size W W'):∀ {ts:List TypeId} {vs:List Value} {ds:List (DataW H)} {ps:List MemPlace},(∀ t,t∈ts→P.readableRec t=true∧t < P.types.size) →
  DataW.TrodAll enc P W 0 (fun _=>true) true ts vs ds ps→DataW.TrodAll enc P W' 0 (fun b=>decide (b < W.heap.size)) true ts vs ds ps
 | [],[],[],_,_,h=>h
 | t :: ts,v :: vs,d :: ds,ps,hr,h=>by
  obtain ⟨p,q,h1,h2,rfl⟩:=h
  have lt0:∀ x∈p,x.block < W.heap.size:=by obtain ⟨m,hm⟩:=h1; exact DataW.trod_lt m _ _ _ hm
  exact ⟨p,q,Below.trod hl (hr t (by simp)).1 (hr t (by simp)).2 h1 hb lt0,args_stay hl hb (fun t' ht=>hr t' (by simp [ht])) h2,rfl⟩
 | [],_ :: _,_,_,_,h=>h.elim
 | [],[],_ :: _,_,_,h=>h.elim
 | _ :: _,[],_,_,_,h=>h.elim
 | _ :: _,_ :: _,[],_,_,h=>h.elim
theorem TrodAll.length {W:World} {sp:Nat→Bool}:∀ {ts:List TypeId} {vs:List Value} {ds:List (DataW H)} {ps:List MemPlace},DataW.TrodAll enc P W 0 sp true ts vs ds ps→ds.length=ts.length
 | [],[],[],_,_=>rfl
 | t :: ts,v :: vs,d :: ds,ps,h=>by
  obtain ⟨p,q,h1,h2,rfl⟩:=h
  simp [TrodAll.length h2]
 | [],_ :: _,_,_,h=>h.elim
 | [],[],_ :: _,_,h=>h.elim
 | _ :: _,[],_,_,h=>h.elim
 | _ :: _,_ :: _,[],_,h=>h.elim
theorem row_contract {T:Tab} (hT:TabOK P T) {f:FuncId} {fn:Func} {s:ChangeSpec} {tb:TypeId} {n:Nat} {tys:List Ty} (hl:laidOutB P=true) (hres:fn.resultTypes = #[tb]) (htb:P.underlying tb=some .bool) (hvars:s.vars=[])
  (htys:mapMO (tyOf P n) fn.params.toList=some tys) (hread:(fn.params.toList.all fun t=>P.readableRec t && decide (t < P.types.size))=true)
  (hspec:∀ ds:List (DataW H),ds.length=fn.params.toList.length→s.fn H ds={ results:=[.lit (.bool true)],args:=ds })
  (hlaw:∀ xs:List TV,WTl tys xs→cellsB xs≤1048576→callC T (arun T) f xs=some [.s (.bool true)])
  (W:World) (base:Nat) (args:Array Value) (ds gs:List (DataW H)) (before:List MemPlace)
  (hval:∀ (j:Nat) t v,fn.params[j]? = some t→args[j]? = some v→Value.okWide P W .any base t v)
  (hW:DataW.Whole enc P fn.params.toList s.vars false W args.toList ds gs before) (hk:Rows.uptoSmall H (ds++gs)=true) :
  Calls P f args W fun e W'=>∃ v,e = .returned v∧s.post enc P fn false true false false W args v W':=by
 have hW':=hW
 obtain ⟨p,q,hA,hV,rfl,hfz,hnd⟩:=hW
 rw [hvars] at hV
 obtain ⟨rfl,rfl⟩:=trodVars_none hV
 rw [List.append_nil] at hk
 have hb:Rows.uptoBulkAll ds≤1048576:=of_decide_eq_true hk
 obtain ⟨xs,h1,h2,h3⟩:=open_args (n:=n) (b0:=base) hA htys (fun j t v h4 h5=>hval j t v (by simpa using h4) (by simpa using h5))
 have hcall:=sound hT (hlaw xs h2 (by omega)) (sim0 W) h1
 rw [Array.toArray_toList] at hcall
 refine hcall.mono ?_
 rintro e W' ⟨v,φ',Hc,rfl,h4,h5⟩
 have h4:v = .bool true:=h4.1
 subst h4
 have bel:=below0 h5
 have hsp:=hspec ds (TrodAll.length hA)
 refine ⟨_,rfl,ds,[],_,[],p,[],hW',?_,?_,?_,bel.frame _,fun h=>by cases h⟩
 ·rw [List.append_nil,hsp,hres]
  exact trodAll_mk1 (shut_bool htb _)
 ·rw [List.append_nil,hsp]
  refine args_stay hl bel (fun t ht=>?_) hA
  rw [List.all_eq_true] at hread
  simpa using hread t ht
 ·rw [List.append_nil,hsp,hvars]
  rfl
end
end Go.Am
