/- Leading,and a tick. -/
import Derived.Test.YtofonninnabieaaTqc7
namespace Go.Proofs.Ytofonninnabieaa.Tq
open Go Go.Am
set_option linter.unusedVariables false
set_option linter.unusedSimpArgs false

noncomputable section
theorem confB_len {xs:List Int} (h:confB xs=true):xs.length≤4:=by
  rw [confB,Bool.and_eq_true] at h
  have:=(inB_iff.1 h.1).2
  rw [lenI_def] at this
  omega
theorem cfa_conf {a:Int}:∀ {l:List TEntry} {c:List Int} {i:Int},confB c=true→confB (cfa a c i l)=true
  | [],c,i,h=>h
  | z :: r,c,i,h=>by
    simp only [cfa]
    refine cfa_conf ?_
    cases hh:hit a i z with
    | false=>exact h
    | true=>
      rw [hit,Bool.and_eq_true,Bool.and_eq_true] at hh
      have h1:=hh.1.1
      rw [cond_true]
      unfold readC at h1 ⊢
      cases hc:confB (toC z.2.2.1) with
      | false=>rw [hc] at h1; cases h1
      | true=>exact hc

theorem confN_len (n:TNode) (h:confB n.2.2.2.2.2.1=true):(cfN n big).length≤4:=confB_len (cfa_conf h)
theorem othN_len (n:TNode) (h:confB n.2.2.2.2.2.1=true):(othN n).length≤4:=Nat.le_trans (List.length_filter_le _ _) (confN_len n h)
structure NL (n:TNode):Prop where
  p:PRE n
  e:n.2.2.2.2.2.2.2.2.1.length≤60
  b:confB n.2.2.2.2.2.1=true
  c:n.2.2.2.2.2.2.1≤n.2.2.2.2.2.2.2.2.2.1∧n.2.2.2.2.2.2.2.2.2.1≤n.2.2.2.2.2.2.1 + n.2.2.2.2.2.2.2.2.1.length
abbrev lastN (n:TNode):Int:=n.2.2.2.2.2.2.1 + n.2.2.2.2.2.2.2.2.1.length
def roomN (n:TNode):Bool:=iLt (lenI n.2.2.2.2.2.2.2.2.1) 60 && iLt (lastN n) 1000000
theorem endN_ok {n:TNode} (h:NI n):NI (endN n):=by
  unfold endN
  cases folB n with
  | false=>exact h
  | true=>exact ⟨h.c,h.s,h.e,h.t,Nat.zero_le _,fun p hp=>by cases hp⟩
theorem comN_ok {n:TNode} (h:NC n):NI (comN n):=by
  have h1:=h.c
  have h2:=pickN_le n (c:=n.2.2.2.2.2.2.2.2.2.1) (n.2.2.2.2.2.2.1 + n.2.2.2.2.2.2.2.2.1.length - n.2.2.2.2.2.2.2.2.2.1).toNat
  exact endN_ok (h.setC (c:=pickN n n.2.2.2.2.2.2.2.2.2.1 (n.2.2.2.2.2.2.1 + n.2.2.2.2.2.2.2.2.1.length - n.2.2.2.2.2.2.2.2.2.1).toNat) (by omega)).i
theorem out_last (n:TNode) (h:NL n):iAdd .i64 n.2.2.2.2.2.2.1 (lenI n.2.2.2.2.2.2.2.2.1)=lastN n:=by
  have:=h.p.2.1; have:=h.e
  rw [lenI_def,iAdd64 (by omega)]

end
end Go.Proofs.Ytofonninnabieaa.Tq

