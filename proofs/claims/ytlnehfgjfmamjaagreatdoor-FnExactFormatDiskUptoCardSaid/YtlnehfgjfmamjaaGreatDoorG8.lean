/- What a row reads of its arguments,as the small machine's data. -/
import Derived.Test.YtlnehfgjfmamjaaGreatDoorG7
import Derived.Test.YtlnehfgjfmamjaaGreatDoorRows
import Derived.ChangeArms
import Derived.Deep.Slices
set_option linter.unusedSimpArgs false
set_option linter.unusedVariables false
namespace Go.Am
open Go.Proofs.YtlnehfgjfmamjaaGreatDoor
inductive Ty where
 | int (k:IntKind)
 | bool
 | str
 | st (fs:List Ty)
 | sl (sz:Nat) (e:Ty)
mutual
def Ty.size:Ty→Nat
 | .st fs=>Ty.sizes fs
 | _=>1
def Ty.sizes:List Ty→Nat
 | []=>0
 | f :: r=>f.size + Ty.sizes r
end
def Ty.isSt:Ty→Bool
 | .st _=>true
 | _=>false
def TV.isA:TV→Bool
 | .agg _=>true
 | _=>false
def tysOf (P:Program) (g:TypeId→Option Ty):List Field→Nat→Option (List Ty)
 | [],_=>some []
 | f :: r,off=>match g f.type with
  | some ty=>if f.offset=off∧P.cellsOf f.type=ty.size then match tysOf P g r (off + ty.size) with | some l=>some (ty :: l) | none=>none else none
  | none=>none
def tyOf (P:Program):Nat→TypeId→Option Ty
 | 0,_=>none
 | n + 1,t=>match P.underlying t with
  | some (.int k)=>some (.int k)
  | some .bool=>some .bool
  | some .string=>some .str
  | some (.struct fs)=>match tysOf P (tyOf P n) fs.toList 0 with
   | some l=>if P.cellsOf t=Ty.sizes l then some (.st l) else none
   | none=>none
  | some (.slice e)=>match tyOf P n e with
   | some ty=>if P.cellsOf e=ty.size∧0 < ty.size then some (.sl ty.size ty) else none
   | none=>none
  | _=>none
mutual
def WTc:Ty→List TV→Prop
 | .int k,cs=>∃ n,cs=[.s (.int k n)]∧k.min≤n∧n≤k.max
 | .bool,cs=>∃ b,cs=[.s (.bool b)]
 | .str,cs=>∃ s:ByteArray,cs=[.s (.string s)]
 | .st fs,cs=>WTs fs cs
 | .sl sz e,cs=>∃ xs,cs=[.sl sz xs]∧∀ x∈xs,WTc e x.cells∧x.isA=e.isSt
def WTs:List Ty→List TV→Prop
 | [],cs=>cs=[]
 | f :: r,cs=>∃ a b,cs=a++b∧WTc f a∧WTs r b
end
def WT (ty:Ty) (x:TV):Prop:=WTc ty x.cells∧x.isA=ty.isSt
mutual
def tvB:TV→Nat
 | .s (.string s)=>s.size + 1
 | .s _=>1
 | .agg cs=>cellsB cs + 1
 | .sl _ xs=>cellsB xs + 1
def cellsB:List TV→Nat
 | []=>0
 | x :: r=>tvB x + cellsB r
end
theorem cellsB_append (a b:List TV):cellsB (a++b)=cellsB a + cellsB b:=by
 induction a with
 | nil=>simp [cellsB]
 | cons x r ih=>simp only [List.cons_append,cellsB,ih]; omega
theorem TRels.append {m:Mem}:∀ {a b:List TV} {vs us:List Value},TRels m a vs→TRels m b us→TRels m (a++b) (vs++us)
 | [],_,[],_,_,h=>h
 | [],_,_ :: _,_,e,_=>e.elim
 | _ :: _,_,[],_,e,_=>e.elim
 | _ :: _,_,_ :: _,_,⟨h1,h2,h3⟩,h=>⟨h1,h2,TRels.append h3 h⟩
section
variable {H:Type} {enc:TypeId×Value→H} {P:Program} {W:World} {base:Nat} {spare:Nat→Bool} {held:Bool} {m:Mem}
def Reads (P:Program) (m:Mem) (ty:Ty) (cs:List Value) (d:DataW H):Prop:=
 ∃ tvs,TRels m tvs cs∧WTc ty tvs∧cs.length=ty.size∧cellsB tvs + (if ty.isSt=true then 1 else 0)≤Rows.uptoBulk d
theorem bulk_one (d:DataW H):1≤Rows.uptoBulk d:=by
 cases d with
 | lit l=>cases l <;> simp [Rows.uptoBulk]
 | _=>simp [Rows.uptoBulk]
theorem open_fields {g:TypeId→Option Ty} {n:Nat} (ih:∀ (t:TypeId) (ty:Ty) (cs:List Value) (x:DataW H×List MemPlace),g t=some ty→DataW.trod enc P W base spare held n t cs=some x→Reads (H:=H) P m ty cs x.1) (cs:List Value) :
  ∀ (fs:List Field) (off:Nat) (l:List Ty) (xs:List (DataW H×List MemPlace)),tysOf P g fs off=some l→xs.length=fs.length→(∀ (i:Nat) (f:Field),fs[i]? = some f→DataW.trod enc P W base spare held n f.type ((cs.drop f.offset).take (P.cellsOf f.type))=xs[i]?) →
   cs.length=off + Ty.sizes l→∃ tvs,TRels m tvs (cs.drop off)∧WTs l tvs∧cellsB tvs≤Rows.uptoBulkAll (xs.map (·.1)):=by
 intro fs
 induction fs with
 | nil=>
  intro off l xs h hl _ hlen
  simp only [tysOf] at h
  obtain rfl:=Option.some.inj h
  simp only [Ty.sizes,Nat.add_zero] at hlen
  refine ⟨[],?_,rfl,by simp [cellsB]⟩
  rw [List.drop_eq_nil_of_le (by omega)]
  trivial
 | cons f fs ihf=>
  intro off l xs h hl hx hlen
  simp only [tysOf] at h
  split at h
  ·rename_i ty hty
   split at h
   ·rename_i hc
    split at h
    ·rename_i l' hl'
     obtain rfl:=Option.some.inj h
     cases xs with
     | nil=>simp at hl
     | cons x xs=>
      have h0:=hx 0 f rfl
      simp only [List.getElem?_cons_zero] at h0
      obtain ⟨tvs,r1,r2,r3,r4⟩:=ih _ _ _ _ hty h0
      simp only [Ty.sizes] at hlen
      obtain ⟨tvs',q1,q2,q3⟩:=ihf (off + ty.size) l' xs hl' (by simpa using hl) (fun i f' hf=>by have:=hx (i + 1) f' (by simpa using hf); simpa using this) (by omega)
      refine ⟨tvs++tvs',?_,⟨tvs,tvs',rfl,r2,q2⟩,?_⟩
      ·rw [hc.1,hc.2] at r1
       have:cs.drop off=(cs.drop off).take ty.size++cs.drop (off + ty.size):=by
        rw [← List.drop_drop,List.take_append_drop]
       rw [this]
       exact r1.append q1
      ·rw [cellsB_append]
       simp only [List.map_cons,Rows.uptoBulkAll]
       omega
    ·cases h
   ·cases h
  ·cases h
theorem telems_of {sz:Nat} {a:Addr}:∀ (l:List TV) (i:Nat),(∀ (k:Nat) (x:TV),l[k]? = some x→∃ v,TRel m x v∧v.cells.size=sz∧∀ (j:Nat) (u:Value),v.cells[j]? = some u→m (a.add ((i + k) * sz + j))=some u)→TElems m sz a i l
 | [],_,_=>trivial
 | x :: r,i,h=>by
  refine ⟨by simpa using h 0 x rfl,telems_of r (i + 1) fun k y hk=>?_⟩
  have:=h (k + 1) y (by simpa using hk)
  rw [show i + 1 + k=i + (k + 1) from by omega]
  exact this
theorem bulk_all:∀ (xs:List TV) (ds:List (DataW H)),xs.length=ds.length→(∀ (i:Nat) (x:TV) (d:DataW H),xs[i]? = some x→ds[i]? = some d→tvB x≤Rows.uptoBulk d)→cellsB xs≤Rows.uptoBulkAll ds
 | [],_,_,_=>by simp [cellsB]
 | x :: xs,[],h,_=>by simp at h
 | x :: xs,d :: ds,hl,h=>by
  have h0:=h 0 x d rfl rfl
  have:=bulk_all xs ds (by simpa using hl) (fun i y e hy he=>h (i + 1) y e (by simpa using hy) (by simpa using he))
  simp only [cellsB,Rows.uptoBulkAll]
  omega
theorem wt_one {ty:Ty} {tvs:List TV} (h:WTc ty tvs) (hs:ty.isSt=false):∃ x,tvs=[x]∧x.isA=false∧x.cells=[x]:=by
 cases ty with
 | int k=>obtain ⟨n,rfl,_⟩:=h; exact ⟨_,rfl,rfl,rfl⟩
 | bool=>obtain ⟨n,rfl⟩:=h; exact ⟨_,rfl,rfl,rfl⟩
 | str=>obtain ⟨n,rfl⟩:=h; exact ⟨_,rfl,rfl,rfl⟩
 | st fs=>simp [Ty.isSt] at hs
 | sl sz e=>obtain ⟨n,rfl,_⟩:=h; exact ⟨_,rfl,rfl,rfl⟩
theorem reads_value {ty:Ty} {cs:List Value} {d:DataW H} (h:Reads (H:=H) P m ty cs d):∃ (x:TV) (v:Value),TRel m x v∧v.cells=cs.toArray∧WT ty x∧tvB x≤Rows.uptoBulk d∧(ty.isSt=true→v = .agg cs.toArray)∧(ty.isSt=false→cs=[v]):=by
 obtain ⟨tvs,h1,h2,h3,h4⟩:=h
 cases hs:ty.isSt with
 | true=>
  rw [hs] at h4
  refine ⟨.agg tvs,.agg cs.toArray,⟨cs,rfl,h1⟩,rfl,⟨h2,by rw [hs]; rfl⟩,by simpa [tvB] using h4,fun _=>rfl,fun e=>(by cases e)⟩
 | false=>
  rw [hs] at h4
  obtain ⟨x,rfl,hx1,hx2⟩:=wt_one h2 hs
  cases cs with
  | nil=>exact h1.elim
  | cons v q=>
   cases q with
   | cons=>exact h1.2.2.elim
   | nil=>
    refine ⟨x,v,h1.1,cells_one h1.2.1,⟨by rw [hx2]; exact h2,by rw [hs]; exact hx1⟩,by simpa [cellsB] using h4,fun e=>(by cases e),fun _=>rfl⟩
theorem open_cells (hm:∀ a v,W.cell? a=some v→m a=some v):∀ (n fuel:Nat) (t:TypeId) (ty:Ty) (cs:List Value) (x:DataW H×List MemPlace),tyOf P n t=some ty→DataW.trod enc P W base spare held fuel t cs=some x→Reads (H:=H) P m ty cs x.1:=by
 intro n
 induction n with
 | zero=>intro fuel t ty cs x h; simp [tyOf] at h
 | succ n ih=>
  intro fuel t ty cs x h hd
  simp only [tyOf] at h
  split at h
  ·rename_i k hu
   obtain rfl:=Option.some.inj h
   obtain ⟨i,rfl,rfl,hw⟩:=DataW.trod_int hu hd
   simp only [Lit.wf,Bool.and_eq_true,decide_eq_true_eq] at hw
   exact ⟨[.s (.int k i)],⟨⟨rfl,rfl⟩,rfl,trivial⟩,⟨i,rfl,hw.1,hw.2⟩,rfl,by simp [cellsB,tvB,Ty.isSt,Rows.uptoBulk]⟩
  ·rename_i hu
   obtain rfl:=Option.some.inj h
   obtain ⟨b,rfl,rfl⟩:=DataW.trod_bool hu hd
   exact ⟨[.s (.bool b)],⟨⟨rfl,rfl⟩,rfl,trivial⟩,⟨b,rfl⟩,rfl,by simp [cellsB,tvB,Ty.isSt,Rows.uptoBulk]⟩
  ·rename_i hu
   obtain rfl:=Option.some.inj h
   obtain ⟨s,rfl,rfl,_⟩:=DataW.trod_string hu hd
   exact ⟨[.s (.string s)],⟨⟨rfl,rfl⟩,rfl,trivial⟩,⟨s,rfl⟩,rfl,by simp [cellsB,tvB,Ty.isSt,Rows.uptoBulk]⟩
  ·rename_i fs hu
   split at h
   ·rename_i l hl
    split at h
    ·rename_i hsz
     obtain rfl:=Option.some.inj h
     obtain ⟨xs,n',rfl,rfl,h1,h2,h3⟩:=DataW.trod_struct hu hd
     obtain ⟨tvs,r1,r2,r3⟩:=open_fields (m:=m) (n:=n') (g:=tyOf P n) (fun t ty cs x=>ih n' t ty cs x) cs fs.toList 0 l xs hl (by simpa using h2) (fun i f hf=>h3 i f (by simpa using hf)) (by omega)
     refine ⟨tvs,by simpa using r1,r2,by rw [h1,hsz]; rfl,?_⟩
     simp only [Ty.isSt,if_true,Rows.uptoBulk]
     omega
    ·cases h
   ·cases h
  ·rename_i e hu
   split at h
   ·rename_i te hte
    split at h
    ·rename_i hc
     obtain rfl:=Option.some.inj h
     rcases DataW.trod_slice hu hd with ⟨rfl,rfl⟩ | ⟨a,len,cap,elems,rest,n',rfl,rfl,rfl,hb,hl,hcap,hlen,hel,_,_⟩
     ·exact ⟨[.sl te.size []],⟨⟨none,0,0,rfl,rfl,Nat.le_refl _,.inl rfl⟩,rfl,trivial⟩,⟨[],rfl,fun x hx=>(by cases hx)⟩,rfl,by simp [cellsB,tvB,Ty.isSt,Rows.uptoBulk]⟩
     ·-- each element
      have each:∀ i,i < len→∃ x:TV,(∃ cs' y,W.cells? base (a.add (i * te.size)) te.size=some cs'∧elems[i]? = some y∧∃ v,TRel m x v∧v.cells=cs'.toArray∧WT te x∧tvB x≤Rows.uptoBulk y.1):=by
       intro i hi
       have h1:=hel i hi
       rw [hc.1] at h1
       have:∃ y,elems[i]? = some y:=⟨_,List.getElem?_eq_getElem (by omega)⟩
       obtain ⟨y,hy⟩:=this
       rw [hy] at h1
       obtain ⟨cs',g1,g2⟩:=Option.bind_eq_some_iff.1 h1
       obtain ⟨x,v,k1,k2,k3,k4,_,_⟩:=reads_value (ih n' e te cs' y hte g2)
       exact ⟨x,cs',y,g1,hy,v,k1,k2,k3,k4⟩
      obtain ⟨V,hV⟩:=Go.Deep.choose_lt each
      have hspot:len≠0→a.spot=none:=by
       intro h0
       obtain ⟨cs',y,g1,_⟩:=hV 0 (by omega)
       obtain ⟨_,g2,g3⟩:=World.cells?_some g1
       have g4:=g3 0 hc.2
       rw [List.getElem?_eq_getElem (by omega)] at g4
       have:=World.cell?_spot g4
       simpa [Addr.add] using this
      refine ⟨[.sl te.size ((List.range len).map V)],⟨⟨some a,len,cap,rfl,by simp,hl,?_⟩,rfl,trivial⟩,⟨_,rfl,?_⟩,rfl,?_⟩
      ·by_cases h0:len=0
       ·exact .inl h0
       ·right
        refine ⟨a,rfl,hspot h0,telems_of _ 0 fun k x hk=>?_⟩
        have hkl:k < len:=by
         have:=(List.getElem?_eq_some_iff.1 hk).1
         simpa using this
        obtain rfl:V k=x:=by simpa [hkl] using hk
        obtain ⟨cs',y,g1,g2,v,k1,k2,k3,k4⟩:=hV k hkl
        obtain ⟨_,g3,g4⟩:=World.cells?_some g1
        refine ⟨v,k1,by rw [k2]; simpa using g3,fun j u hj=>?_⟩
        rw [k2] at hj
        simp only [List.getElem?_toArray] at hj
        have hjl:j < te.size:=by
         have:=(List.getElem?_eq_some_iff.1 hj).1
         omega
        have g5:=g4 j hjl
        rw [hj,add_add (hspot h0)] at g5
        rw [Nat.zero_add]
        exact hm _ _ g5
      ·intro x hx
       obtain ⟨k,hk,rfl⟩:=List.mem_map.1 hx
       obtain ⟨cs',y,g1,g2,v,k1,k2,k3,k4⟩:=hV k (List.mem_range.1 hk)
       exact k3
      ·simp only [cellsB,tvB,Ty.isSt,Bool.false_eq_true,if_false,Rows.uptoBulk]
       have:cellsB ((List.range len).map V)≤Rows.uptoBulkAll (elems.map (·.1)):=by
        refine bulk_all _ _ (by simp [hlen]) fun i x d hx hd'=>?_
        have hkl:i < len:=by
         have:=(List.getElem?_eq_some_iff.1 hx).1
         simpa using this
        obtain rfl:V i=x:=by simpa [hkl] using hx
        obtain ⟨cs',y,g1,g2,v,k1,k2,k3,k4⟩:=hV i hkl
        rw [List.getElem?_map,g2] at hd'
        obtain rfl:=Option.some.inj hd'
        exact k4
       omega
    ·cases h
   ·cases h
  ·cases h
end
end Go.Am
