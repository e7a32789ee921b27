/- The machine on typed data: calls,joins,loops; what it tells. Definitions. -/
import Derived.Test.YtlnehfgjfmamjaaGreatDoorG3
set_option linter.unusedSimpArgs false
set_option linter.unusedVariables false
namespace Go.Am
noncomputable section
def insN (a:Nat) (l:List Nat):List Nat:=if l.elem a then l else a :: l
def uni:List Nat→List Nat→List Nat
 | [],l=>l
 | a :: r,l=>insN a (uni r l)
def minus (l m:List Nat):List Nat:=l.filter fun a=>!m.elem a
def inter (l m:List Nat):List Nat:=l.filter fun a=>m.elem a
def udOps:List AOper→List Nat×List Nat
 | []=>([],[])
 | o :: r=>match udOps r with
  | (u,df)=>match o.guard,o.dst with
   | none,some t=>(uni (looksO o) (u.filter fun a=>!Nat.beq a t),insN t df)
   | _,_=>(uni (looksO o) u,df)
def escB:List Nat→AC→Bool
 | bs,.exit i=>!bs.elem i
 | bs,.seq a b=>escB bs a || escB bs b
 | bs,.cond _ a b=>escB bs a || escB bs b
 | bs,.block i b=>escB (i :: bs) b
 | bs,.loop b=>escB bs b
 | _,_=>false
def hasExit (c:AC):Bool:=escB [] c
def asgL:List AOper→List Nat
 | []=>[]
 | o :: r=>match o.dst with | some t=>t :: asgL r | none=>asgL r
def rangeN:Nat→Nat→List Nat
 | _,0=>[]
 | a,n + 1=>a :: rangeN (a + 1) n
def asgC:AC→List Nat
 | .enter off n _=>rangeN off n
 | .ops l | .opsU _ l _=>asgL l
 | .seq a b | .cond _ a b=>asgC a++asgC b
 | .block _ b | .loop b=>asgC b
 | _=>[]
def falls:AC→Bool
 | .exit _ | .ret | .loop _=>false
 | .seq a b=>falls a && falls b
 | .cond _ a b=>falls a || falls b
 | .block i b=>falls b || exitsTo i b
 | _=>true
where exitsTo (i:Nat):AC→Bool
 | .exit j=>Nat.beq i j
 | .seq a b | .cond _ a b=>exitsTo i a || exitsTo i b
 | .block _ b | .loop b=>exitsTo i b
 | _=>false
def udC (rt:List Nat):AC→List Nat×List Nat
 | .ops l | .opsU _ l _=>udOps l
 | .seq a b=>match udC rt a,udC rt b with
  | (u,df),(v,dg)=>if hasExit a then (uni u v,[]) else (uni u (minus v df),uni df dg)
 | .cond c a b=>match udC rt a,udC rt b with
  | (u,df),(v,dg)=>(uni c.tmps (uni u v),if falls a then (if falls b then inter df dg else df) else dg)
 | .block _ b=>match udC rt b with | (u,df)=>(u,if hasExit b then [] else df)
 | .loop b=>match udC rt b with | (u,_)=>(u,[])
 | .ret=>(rt,[])
 | .enter off n l=>(uni (l.flatMap Opd.tmps) [],rangeN off n)
 | _=>([],[])
def exitN (i:Nat):AC→Nat
 | .exit j=>if Nat.beq i j then 1 else 0
 | .seq a b | .cond _ a b=>exitN i a + exitN i b
 | .block _ b | .loop b=>exitN i b
 | _=>0
structure Dat where
 t:Kd
 x:t.den
inductive SK where
 | d (p:Bool) (t:Kd)
 | agg (cs:List SK)
 | nils
 | own (a:Nat)
 | cp (a off:Nat)
 | ep (a ver off:Nat) (e:Kd)
 | tp (p:Bool) (e:Kd) (off:Nat)
 | kp (tmp:Nat) (v:SK) (off:Nat)
 | fn (f:Nat) (caps:List SK)
 | undef
inductive OSK where
 | sl (ro:Bool) (ver:Nat) (tmp:Option Nat) (sz:Nat) (e:Kd) (deep:Bool)
 | cell (ro:Bool) (tmp:Option Nat) (v:SK)
structure Skel where
 env:List (Nat×SK)
 anc:List SK
 heap:List OSK
mutual
def skV:PV→SK
 | .d p t _=>.d p t
 | .agg cs=>.agg (skVs cs)
 | .nils=>.nils
 | .own a=>.own a
 | .cp a off=>.cp a off
 | .ep a v _ off e _=>.ep a v off e
 | .tp p e _ off=>.tp p e off
 | .kp t v off=>.kp t (skV v) off
 | .fn f caps=>.fn f (skVs caps)
 | _=>.undef
def skVs:List PV→List SK
 | []=>[]
 | v :: r=>skV v :: skVs r
end
mutual
def tysV:SK→List Kd
 | .d _ t=>[t]
 | .agg cs=>tysVs cs
 | .ep _ _ _ e=>[.int .i64,e]
 | .tp _ e _=>[e]
 | .kp _ v _=>tysV v
 | .fn _ caps=>tysVs caps
 | _=>[]
def tysVs:List SK→List Kd
 | []=>[]
 | v :: r=>tysV v++tysVs r
end
def tysE:List (Nat×SK)→List Kd
 | []=>[]
 | (_,v) :: r=>tysV v++tysE r
def tysO:List OSK→List Kd
 | []=>[]
 | .sl _ _ _ sz e _ :: r=>.sl sz e :: tysO r
 | .cell _ _ v :: r=>tysV v++tysO r
def Skel.tys (s:Skel):List Kd:=tysVs s.anc++(tysE s.env++tysO s.heap)
def pureLeafK:SK→Bool
 | .d p t=>p || t.flat
 | .nils=>true
 | _=>false
def pureK:SK→Bool
 | .agg cs=>cs.all pureLeafK
 | v=>pureLeafK v
def cellLeafK:SK→Bool
 | .d _ t=>!t.isS
 | .nils | .own _ | .cp _ _=>true
 | _=>false
def cellOKK:SK→Bool
 | .agg cs=>cs.all cellLeafK && !cs.isEmpty
 | .d _ (.st fs)=>!fs.isEmpty
 | v=>cellLeafK v
mutual
def matV:SK→PV→Option (List Dat)
 | .d p t,.d q t' x=>if (p && !q && !t.flat)=true then none else (match castK t' t x with | some y=>some [⟨t,y⟩] | none=>none)
 | .agg cs,.agg vs=>matVs cs vs
 | .nils,.nils=>some []
 | .own a,.own b=>if Nat.beq a b then some [] else none
 | .cp a off,.cp b off'=>if Nat.beq a b && Nat.beq off off' then some [] else none
 | .ep a v off e,.ep b v' i off' e' x=>if Nat.beq a b && Nat.beq v v' && Nat.beq off off' then (match castK e' e x with | some y=>some [⟨.int .i64,ofN i⟩,⟨e,y⟩] | none=>none) else none
 | .tp p e off,.tp q e' x off'=>if (p && !q) || !Nat.beq off off' then none else (match castK e' e x with | some y=>some [⟨e,y⟩] | none=>none)
 | .kp t v off,.kp u w off'=>if Nat.beq t u && (Nat.beq off off' && (pureK v && cellOKK v)) then matV v w else none
 | .fn f cs,.fn g vs=>if Nat.beq f g then matVs cs vs else none
 | .undef,_=>some []
 | _,_=>none
def matVs:List SK→List PV→Option (List Dat)
 | [],[]=>some []
 | s :: r,v :: q=>match matV s v,matVs r q with | some a,some b=>some (a++b) | _,_=>none
 | _,_=>none
end
mutual
def filV:SK→List Dat→Option (PV×List Dat)
 | .d p t,⟨t',x⟩ :: r=>match castK t' t x with | some y=>some (.d p t y,r) | none=>none
 | .agg cs,l=>match filVs cs l with | some (vs,r)=>some (.agg vs,r) | none=>none
 | .nils,l=>some (.nils,l)
 | .own a,l=>some (.own a,l)
 | .cp a off,l=>some (.cp a off,l)
 | .ep a v off e,⟨t,i⟩ :: ⟨t',x⟩ :: r=>match castK t (.int .i64) i,castK t' e x with | some i,some y=>some (.ep a v (toN i) off e y,r) | _,_=>none
 | .tp p e off,⟨t',x⟩ :: r=>match castK t' e x with | some y=>some (.tp p e y off,r) | none=>none
 | .kp t v off,l=>match filV v l with | some (w,r)=>some (.kp t w off,r) | none=>none
 | .fn f cs,l=>match filVs cs l with | some (vs,r)=>some (.fn f vs,r) | none=>none
 | .undef,l=>some (.undef,l)
 | _,_=>none
def filVs:List SK→List Dat→Option (List PV×List Dat)
 | [],l=>some ([],l)
 | s :: q,l=>match filV s l with
  | some (v,r)=>(match filVs q r with | some (vs,r')=>some (v :: vs,r') | none=>none)
  | none=>none
end
def matE:List (Nat×SK)→List (Nat×PV)→Option (List Dat)
 | [],[]=>some []
 | (t,s) :: r,(u,v) :: q=>if Nat.beq t u then (match matV s v,matE r q with | some a,some b=>some (a++b) | _,_=>none) else none
 | _,_=>none
def filE:List (Nat×SK)→List Dat→Option (List (Nat×PV)×List Dat)
 | [],l=>some ([],l)
 | (t,s) :: q,l=>match filV s l with
  | some (v,r)=>(match filE q r with | some (vs,r')=>some ((t,v) :: vs,r') | none=>none)
  | none=>none
def beqO:Option Nat→Option Nat→Bool
 | none,none=>true
 | some a,some b=>Nat.beq a b
 | _,_=>false
def beqB:Bool→Bool→Bool
 | true,true | false,false=>true
 | _,_=>false
def matO:List OSK→List (Option PObj)→Option (List Dat)
 | [],[]=>some []
 | .sl ro ver tmp sz e dp :: r,some (.sl ro' ver' tmp' sz' e' dp' xs) :: q=>
  if beqB ro ro' && (Nat.beq ver ver' && (beqO tmp tmp' && beqB dp dp')) then
   (match castK (.sl sz' e') (.sl sz e) xs,matO r q with | some y,some b=>some (⟨.sl sz e,y⟩ :: b) | _,_=>none) else none
 | .cell ro tmp s :: r,some (.cell ro' tmp' v) :: q=>
  if beqB ro ro' && (beqO tmp tmp' && cellOKK s) then (match matV s v,matO r q with | some a,some b=>some (a++b) | _,_=>none) else none
 | _,_=>none
def filO:List OSK→List Dat→Option (List (Option PObj)×List Dat)
 | [],l=>some ([],l)
 | .sl ro ver tmp sz e dp :: q,⟨t,x⟩ :: l=>match castK t (.sl sz e) x with
  | some y=>(match filO q l with | some (os,r)=>some (some (.sl ro ver tmp sz e dp y) :: os,r) | none=>none)
  | none=>none
 | .cell ro tmp s :: q,l=>match filV s l with
  | some (v,l')=>(match filO q l' with | some (os,r)=>some (some (.cell ro tmp v) :: os,r) | none=>none)
  | none=>none
 | _,_=>none
def matS (s:Skel) (ps:PS):Option (List Dat):=
 match matVs s.anc ps.anc,matE s.env ps.env,matO s.heap ps.heap with
 | some a,some b,some c=>some (a++(b++c))
 | _,_,_=>none
def filS (s:Skel) (l:List Dat):Option PS:=
 match filVs s.anc l with
 | some (anc,l1)=>(match filE s.env l1 with
  | some (env,l2)=>(match filO s.heap l2 with | some (hp,_)=>some ⟨env,anc,hp⟩ | none=>none)
  | none=>none)
 | none=>none
def skE:List (Nat×PV)→List (Nat×SK)
 | []=>[]
 | (t,v) :: r=>(t,skV v) :: skE r
def skO:List (Option PObj)→List OSK
 | []=>[]
 | some (.sl ro ver tmp sz e dp _) :: r=>.sl ro ver tmp sz e dp :: skO r
 | some (.cell ro tmp v) :: r=>.cell ro tmp (skV v) :: skO r
 | none :: r=>skO r
def skS (ps:PS):Skel:=⟨skE ps.env,skVs ps.anc,skO ps.heap⟩
def toDens:(l:List Kd)→List Dat→Option (Kd.dens l)
 | [],[]=>some ()
 | t :: r,⟨t',x⟩ :: q=>match castK t' t x,toDens r q with | some a,some b=>some (a,b) | _,_=>none
 | _,_=>none
def fromDens:(l:List Kd)→Kd.dens l→List Dat
 | [],_=>[]
 | t :: r,x=>⟨t,x.1⟩ :: fromDens r x.2
structure Gp where
 st:Bool
 ix:List Nat
def singles:Nat→Nat→List Gp
 | _,0=>[]
 | p,n + 1=>⟨false,[p]⟩ :: singles (p + 1) n
def lenK:List Kd→Nat
 | []=>0
 | _ :: r=>lenK r + 1
def slIx:List OSK→Nat→List (Option Nat)
 | [],_=>[]
 | .sl _ _ _ _ _ _ :: r,p=>some p :: slIx r (p + 1)
 | .cell _ _ v :: r,p=>none :: slIx r (p + lenK (tysV v))
def ixGet:List (Option Nat)→Nat→Option Nat
 | [],_=>none
 | x :: _,0=>x
 | _ :: r,n + 1=>ixGet r n
def leafIx (hs:List (Option Nat)):List SK→Nat→Option (List Nat)
 | [],_=>some []
 | .d _ _ :: r,p=>(match leafIx hs r (p + 1) with | some l=>some (p :: l) | none=>none)
 | .own a :: r,p=>(match ixGet hs a,leafIx hs r p with | some j,some l=>some (j :: l) | _,_=>none)
 | _,_=>none
def gpA (hs:List (Option Nat)) (cs:List SK) (p:Nat):List Gp:=match leafIx hs cs p with
 | some (j :: l)=>[⟨true,j :: l⟩]
 | _=>singles p (lenK (tysVs cs))
mutual
def gpV (hs:List (Option Nat)):SK→Nat→List Gp
 | .agg cs,p=>gpA hs cs p
 | .kp _ v _,p=>gpV hs v p
 | .fn _ cs,p=>gpVs hs cs p
 | s,p=>singles p (lenK (tysV s))
def gpVs (hs:List (Option Nat)):List SK→Nat→List Gp
 | [],_=>[]
 | s :: r,p=>gpV hs s p++gpVs hs r (p + lenK (tysV s))
end
def gpE (hs:List (Option Nat)):List (Nat×SK)→Nat→List Gp
 | [],_=>[]
 | (_,s) :: r,p=>gpV hs s p++gpE hs r (p + lenK (tysV s))
def gpO (hs:List (Option Nat)):List OSK→Nat→List Gp
 | [],_=>[]
 | .sl _ _ _ _ _ _ :: r,p=>gpO hs r (p + 1)
 | .cell _ _ s :: r,p=>gpV hs s p++gpO hs r (p + lenK (tysV s))
def inGp (gs:List Gp) (j:Nat):Bool:=gs.any fun g=>g.ix.elem j
def loose (gs:List Gp):List (Option Nat)→List Gp
 | []=>[]
 | some j :: r=>if inGp gs j then loose gs r else ⟨false,[j]⟩ :: loose gs r
 | none :: r=>loose gs r
def Skel.gps (s:Skel):List Gp:=
 let a:=lenK (tysVs s.anc)
 let b:=a + lenK (tysE s.env)
 let hs:=slIx s.heap b
 let gs:=gpVs hs s.anc 0++(gpE hs s.env a++gpO hs s.heap b)
 gs++loose gs hs
def nthK:List Kd→Nat→Kd
 | [],_=>.bool
 | t :: _,0=>t
 | _ :: r,n + 1=>nthK r n
def nthKs (l:List Kd):List Nat→List Kd
 | []=>[]
 | j :: r=>nthK l j :: nthKs l r
def gty (l:List Kd) (g:Gp):Kd:=match g.st,g.ix with
 | true,ix=>.st (nthKs l ix)
 | false,j :: _=>nthK l j
 | false,[]=>.bool
def gtysL (l:List Kd):List Gp→List Kd
 | []=>[]
 | g :: r=>gty l g :: gtysL l r
def Skel.gtys (s:Skel):List Kd:=gtysL s.tys s.gps
def covB (gs:List Gp):Nat→Bool
 | 0=>true
 | n + 1=>inGp gs n && covB gs n
def nthD:List Dat→Nat→Option Dat
 | [],_=>none
 | x :: _,0=>some x
 | _ :: r,n + 1=>nthD r n
def pickD (ds:List Dat):List Nat→Option (List Dat)
 | []=>some []
 | j :: r=>(match nthD ds j,pickD ds r with | some x,some l=>some (x :: l) | _,_=>none)
def tysD:List Dat→List Kd
 | []=>[]
 | x :: r=>x.t :: tysD r
def tupD:(l:List Dat)→Kd.dens (tysD l)
 | []=>()
 | x :: r=>(x.x,tupD r)
def grpD (ds:List Dat):List Gp→Option (List Dat)
 | []=>some []
 | ⟨true,ix⟩ :: r=>(match pickD ds ix,grpD ds r with | some l,some q=>some (⟨.st (tysD l),tupD l⟩ :: q) | _,_=>none)
 | ⟨false,[j]⟩ :: r=>(match nthD ds j,grpD ds r with | some x,some q=>some (x :: q) | _,_=>none)
 | _=>none
def zipD:List Nat→List Dat→List (Nat×Dat)
 | i :: r,x :: q=>(i,x) :: zipD r q
 | _,_=>[]
def ungD:List Gp→List Dat→Option (List (Nat×Dat))
 | [],[]=>some []
 | ⟨true,ix⟩ :: r,⟨.st fs,y⟩ :: q=>(match ungD r q with | some l=>some (zipD ix (fromDens fs y)++l) | none=>none)
 | ⟨false,[j]⟩ :: r,x :: q=>(match ungD r q with | some l=>some ((j,x) :: l) | none=>none)
 | _,_=>none
def lkD:List (Nat×Dat)→Nat→Option Dat
 | [],_=>none
 | (i,x) :: r,j=>(match Nat.beq i j with | true=>some x | false=>lkD r j)
def collD (ps:List (Nat×Dat)):Nat→Nat→Option (List Dat)
 | 0,_=>some []
 | n + 1,j=>(match lkD ps j,collD ps n (j + 1) with | some x,some r=>some (x :: r) | _,_=>none)
def lenD:List Dat→Nat
 | []=>0
 | _ :: r=>lenD r + 1
def Skel.ung (s:Skel) (l:List Dat):Option (List Dat):=match ungD s.gps l with
 | some ps=>collD ps (lenK s.tys) 0
 | none=>none
def filG (s:Skel) (σ:Kd.dens s.gtys):Option PS:=match s.ung (fromDens s.gtys σ) with
 | some l=>filS s l
 | none=>none
def toG (s:Skel) (ds:List Dat):Option (Kd.dens s.gtys):=match Nat.beq (lenD ds) (lenK s.tys) && covB s.gps (lenK s.tys) with
 | true=>(match grpD ds s.gps with | some l=>toDens s.gtys l | none=>none)
 | false=>none
def goodSl (sz:Nat) (e:Kd):Bool:=Nat.beq sz e.cn && Nat.blt 0 sz
def thawL (b:Bool) (n:Nat):Kd→PV→PV×List (Option PObj)
 | .sl sz e,.nils=>match goodSl sz e,b with
  | true,true=>(.own n,[some (.sl false 0 none sz e true [])])
  | _,_=>(.d false (.sl sz e) ([]:List e.den),[])
 | _,v=>(v,[])
def thawLs (b:Bool):Nat→List Kd→List PV→List PV×List (Option PObj)
 | n,t :: r,v :: q=>match thawL b n t v with
  | (v',o)=>match thawLs b (n + o.length) r q with | (vs,os)=>(v' :: vs,o++os)
 | _,_,l=>(l,[])
def thawV (hn:Option (Kd×Bool)) (n:Nat) (v:PV):PV×List (Option PObj):=
 match hn with
 | some (.st fs,b)=>(match v with
  | .agg cs=>(match thawLs b n fs cs with | (vs,os)=>(.agg vs,os))
  | v=>(v,[]))
 | some (t,b)=>thawL b n t v
 | none=>(v,[])
def thawE (hn:Hints):Nat→List (Nat×PV)→List (Nat×PV)×List (Option PObj)
 | _,[]=>([],[])
 | n,(t,v) :: r=>match thawV (hintOf hn t) n v with
  | (v',os)=>match thawE hn (n + os.length) r with | (r',os')=>((t,v') :: r',os++os')
def hintN:Hints→Nat→Option (Kd×Bool)
 | [],_=>none
 | (a,t,b) :: r,n=>(match t with
  | .st fs=>(match Nat.ble 1000000 a && Nat.beq (lenK fs) n with | true=>some (.st fs,b) | false=>hintN r n)
  | _=>hintN r n)
def hintC (hn:Hints):Option Nat→PV→Option (Kd×Bool)
 | some t,_=>hintOf hn t
 | none,v=>hintN hn (lenL v.cells)
def thawO (hn:Hints):Nat→List (Option PObj)→List (Option PObj)×List (Option PObj)
 | _,[]=>([],[])
 | n,some (.cell false tmp v) :: r=>(match thawV (hintC hn tmp v) n v with
  | (v',os)=>match thawO hn (n + os.length) r with | (r',os')=>(some (.cell false tmp v') :: r',os++os'))
 | n,o :: r=>match thawO hn n r with | (r',os')=>(o :: r',os')
def liveE (ps:PS):List Nat→List (Nat×PV)
 | []=>[]
 | t :: r=>(t,look ps.env t) :: liveE ps r
def thawS (hn:Hints) (lv:List Nat) (ps:PS):PS:=
 match thawE hn ps.heap.length (liveE ps lv) with
 | (env,os)=>match thawO hn (ps.heap.length + os.length) ps.heap with
  | (hp,os')=>⟨env,ps.anc,hp++(os++os')⟩
def ownNs:PV→List Nat
 | .own a=>[a]
 | .agg cs=>cs.flatMap fun v=>match v with | .own a=>[a] | _=>[]
 | _=>[]
def datT (hn:Hints) (t:Nat):Bool:=match hintOf hn t with | some (_,false)=>true | _=>false
def datTo (hn:Hints):Option Nat→Bool
 | some t=>datT hn t
 | none=>false
def frzE (hn:Hints) (ps:PS):List Nat→List Nat
 | []=>[]
 | t :: r=>match datT hn t with | true=>ownNs (look ps.env t)++frzE hn ps r | false=>frzE hn ps r
def frzH (hn:Hints):List (Option PObj)→List Nat
 | []=>[]
 | some (.cell _ tmp v) :: r=>(match datTo hn tmp with | true=>ownNs v++frzH hn r | false=>frzH hn r)
 | _ :: r=>frzH hn r
def frzOK (hp:List (Option PObj)) (a:Nat):Bool:=match hget hp a with | some (.sl _ _ none _ _ _ _)=>true | _=>false
def frzL (hp:List (Option PObj)) (ns:List Nat):PV→PV
 | .own a=>match ns.elem a,hget hp a with
  | true,some (.sl _ _ none sz e _ xs)=>.d false (.sl sz e) xs
  | _,_=>.own a
 | v=>v
def wkL:PV→PV
 | .d p t x=>.d (p && t.flat) t x
 | v=>v
def frzW (hp:List (Option PObj)) (ns:List Nat):Bool→PV→PV
 | true,v=>wkL (frzL hp ns v)
 | false,v=>frzL hp ns v
def frzV (hp:List (Option PObj)) (ns:List Nat) (w:Bool):PV→PV
 | .agg cs=>.agg (cs.map (frzW hp ns w))
 | v=>frzW hp ns w v
def frzEn (hn:Hints) (hp:List (Option PObj)) (ns:List Nat):List (Nat×PV)→List (Nat×PV)
 | []=>[]
 | (t,v) :: r=>(t,frzV hp ns (datT hn t) v) :: frzEn hn hp ns r
def frzO (hn:Hints) (hp:List (Option PObj)) (ns:List Nat):Option PObj→Option PObj
 | some (.cell ro tmp v)=>some (.cell ro tmp (frzV hp ns (datTo hn tmp) v))
 | o=>o
def anyDat:Hints→Bool
 | []=>false
 | (_,_,b) :: r=>match b with | false=>true | true=>anyDat r
def frzS (hn:Hints) (lv:List Nat) (ps:PS):PS:=match anyDat hn with
 | false=>ps
 | true=>
  let ns:=(frzE hn ps lv++frzH hn ps.heap).filter (frzOK ps.heap)
  ⟨frzEn hn ps.heap ns ps.env,ps.anc,delN (ps.heap.map (frzO hn ps.heap ns)) ns⟩
mutual
def colV:PV→List Nat→List Nat
 | .agg cs,l=>colVs cs l
 | .own a,l=>if l.elem a then l else l++[a]
 | .cp a _,l=>if l.elem a then l else l++[a]
 | .ep a _ _ _ _ _,l=>if l.elem a then l else l++[a]
 | .fn _ cs,l=>colVs cs l
 | _,l=>l
def colVs:List PV→List Nat→List Nat
 | [],l=>l
 | v :: r,l=>colVs r (colV v l)
end
def colE:List (Nat×PV)→List Nat→List Nat
 | [],l=>l
 | (_,v) :: r,l=>colE r (colV v l)
def colH (hp:List (Option PObj)):Nat→List Nat→List Nat
 | 0,l=>l
 | n + 1,l=>colH hp n (step l l)
where step:List Nat→List Nat→List Nat
 | [],l=>l
 | a :: r,l=>(match hget hp a with | some (.cell _ _ v)=>step r (colV v l) | _=>step r l)
def posN:List Nat→Nat→Nat→Option Nat
 | [],_,_=>none
 | b :: r,a,n=>if Nat.beq a b then some n else posN r a (n + 1)
mutual
def renV (hp:List (Option PObj)) (nm:List Nat):PV→PV
 | .agg cs=>.agg (renVs hp nm cs)
 | .own a=>match hget hp a,posN nm a 0 with | some (.sl _ _ _ _ _ _ _),some b=>.own b | _,_=>.undef
 | .cp a off=>match hget hp a,posN nm a 0 with | some (.cell _ _ _),some b=>.cp b off | _,_=>.undef
 | .ep a ver i off e x=>match hget hp a,posN nm a 0 with
  | some (.sl _ ver' _ _ _ _ _),some b=>(match Nat.beq ver ver' with | true=>.ep b 0 i off e x | false=>.undef)
  | _,_=>.undef
 | .fn f cs=>.fn f (renVs hp nm cs)
 | .d p t x=>.d p t x
 | .nils=>.nils
 | .np=>.np
 | .tp p e x off=>.tp p e x off
 | .kp t v off=>.kp t v off
 | _=>.undef
def renVs (hp:List (Option PObj)) (nm:List Nat):List PV→List PV
 | []=>[]
 | v :: r=>renV hp nm v :: renVs hp nm r
end
def renE (hp:List (Option PObj)) (nm:List Nat):List (Nat×PV)→List (Nat×PV)
 | []=>[]
 | (t,v) :: r=>(t,renV hp nm v) :: renE hp nm r
def renO (hp:List (Option PObj)) (nm:List Nat):List Nat→List (Option PObj)
 | []=>[]
 | a :: r=>(match hget hp a with
  | some (.sl ro _ tmp sz e dp xs)=>some (.sl ro 0 tmp sz e dp xs)
  | some (.cell ro tmp v)=>(match cellOK (renV hp nm v) with | true=>some (.cell ro tmp (renV hp nm v)) | false=>none)
  | none=>none) :: renO hp nm r
def uniqN:List Nat→List Nat
 | []=>[]
 | a :: r=>if r.elem a then uniqN r else a :: uniqN r
def canon (hn:Hints) (lv:List Nat) (ps:PS):PS:=
 let qs:=thawS hn lv (frzS hn lv ps)
 let nm:=uniqN (colH qs.heap 4 (colE qs.env (colVs qs.anc [])))
 ⟨renE qs.heap nm qs.env,renVs qs.heap nm qs.anc,renO qs.heap nm nm⟩
inductive PKd where
 | dat (t:Kd)
 | raw
 | cell (t:Kd)
 | kept (t:Kd)
 | own (t:Kd)
structure Sig where
 ps:List PKd
 rs:List Kd
def insK:List PKd→List Kd
 | []=>[]
 | .dat t :: r | .cell t :: r | .kept t :: r | .own t :: r=>t :: insK r
 | .raw :: r=>insK r
def outK:List PKd→List Kd
 | []=>[]
 | .cell t :: r | .kept t :: r=>t :: outK r
 | _ :: r=>outK r
def keepK:List PKd→List Bool
 | []=>[]
 | .kept _ :: r | .own _ :: r=>true :: keepK r
 | _ :: r=>false :: keepK r
abbrev Sig.F (s:Sig):Type:=Kd.dens (insK s.ps)→Option (Kd.dens (s.rs++outK s.ps))
inductive CE where
 | con (fz:Bool) (sg:Sig) (F:sg.F)
 | inl (sg:Sig) (fn:AFn) (hn:Hints) (pm:List Nat)
abbrev PTab:=Nat→Option CE
structure ArgsP (l:List PKd) where
 xs:Kd.dens (insK l)
 sn:List Nat      -- names that the call has for its own
 dn:List Nat      -- names that it reads
 fr:Bool          -- nothing live is read but these
def argsP (hp:List (Option PObj)):(l:List PKd)→List PV→Option (ArgsP l)
 | [],[]=>some ⟨(),[],[],true⟩
 | .dat t :: r,v :: q=>match asD hp t v,argsP hp r q with
  | some x,some a=>some ⟨(x,a.xs),a.sn,namesV v++a.dn,freeV v && a.fr⟩
  | _,_=>none
 | .cell t :: r,.cp c 0 :: q=>match hget hp c with
  | some (.cell false _ u)=>(match asOwn hp t u,argsP hp r q with
   | some (x,ns),some a=>some ⟨(x,a.xs),c :: (ns++a.sn),a.dn,a.fr⟩
   | _,_=>none)
  | _=>none
 | .kept t :: r,v :: q=>match asOwn hp t v,argsP hp r q with
  | some (x,ns),some a=>some ⟨(x,a.xs),ns++a.sn,a.dn,a.fr⟩
  | _,_=>none
 | .own t :: r,v :: q=>match asOwn hp t v,argsP hp r q with
  | some (x,ns),some a=>some ⟨(x,a.xs),ns++a.sn,a.dn,a.fr⟩
  | _,_=>none
 | _,_=>none
def leftP:(l:List PKd)→List PV→Kd.dens (outK l)→List (Option PObj)→Option (List (Option PObj))
 | [],[],_,hp=>some hp
 | .dat _ :: r,_ :: q,y,hp=>leftP r q y hp
 | .raw :: r,_ :: q,y,hp=>leftP r q y hp
 | .cell t :: r,.cp c 0 :: q,y,hp=>match hget hp c with
  | some (.cell false tmp u)=>(match asOwn hp t u with
   | some (_,ns)=>(match ownify hp.length t y.1 with
    | (v,os)=>leftP r q y.2 (hset (delN hp ns) c (some (.cell false tmp v))++os))
   | none=>none)
  | _=>none
 | .kept t :: r,v :: q,y,hp=>match keptP t v y.1 hp with
  | some hp'=>leftP r q y.2 hp'
  | none=>none
 | .own t :: r,v :: q,y,hp=>match asOwn hp t v with
  | some (_,ns)=>leftP r q y (delN hp ns)
  | none=>none
 | _,_,_,_=>none
where
 keptL (t:Kd) (v:PV) (y:t.den) (hp:List (Option PObj)):Option (List (Option PObj)):=
  match t,v,y with
  | .sl sz e,.own a,y=>(match hget hp a with
   | some (.sl false ver tmp _ _ dp _)=>some (hset hp a (some (.sl false (ver + 1) tmp sz e dp y)))
   | _=>none)
  | .sl _ _,.nils,_=>some hp
  | .sl _ _,_,_=>none
  | _,_,_=>some hp
 keptS:(fs:List Kd)→List PV→Kd.dens fs→List (Option PObj)→Option (List (Option PObj))
  | [],[],_,hp=>some hp
  | t :: r,v :: q,y,hp=>(match keptL t v y.1 hp with | some hp'=>keptS r q y.2 hp' | none=>none)
  | _,_,_,_=>none
 keptP (t:Kd) (v:PV) (y:t.den) (hp:List (Option PObj)):Option (List (Option PObj)):=
  match t,v,y with
  | .st fs,v,y=>(match v.isAgg with | true=>keptS fs v.cells y hp | false=>none)
  | t,v,y=>keptL t v y hp
def fstDens:(l m:List Kd)→Kd.dens (l++m)→Kd.dens l
 | [],_,_=>()
 | _ :: r,m,x=>(x.1,fstDens r m x.2)
def sndDens:(l m:List Kd)→Kd.dens (l++m)→Kd.dens m
 | [],_,x=>x
 | _ :: r,m,x=>sndDens r m x.2
def ownifyR:(n:Nat)→(l:List Kd)→Kd.dens l→List PV×List (Option PObj)
 | _,[],_=>([],[])
 | n,t :: r,x=>match ownify n t x.1 with
  | (v,o)=>match ownifyR (n + o.length) r x.2 with | (vs,os)=>(v :: vs,o++os)
def tupP:List PV→PV
 | [x]=>x
 | l=>.tup l
def roO:Option PObj→Option PObj
 | some (.sl _ ver tmp sz e dp xs)=>some (.sl true ver tmp sz e dp xs)
 | some (.cell _ tmp v)=>some (.cell true tmp v)
 | none=>none
def roN:Option PObj→Option PObj
 | some (.sl _ ver _ sz e _ xs)=>some (.sl true ver none sz e false xs)
 | some (.cell _ _ v)=>some (.cell true none v)
 | none=>none
mutual
def freeP:PV→Bool
 | .d p t _=>p || t.flat
 | .agg cs | .fn _ cs | .tup cs=>freePs cs
 | .tp p _ _ _=>p
 | _=>true
def freePs:List PV→Bool
 | []=>true
 | v :: r=>freeP v && freePs r
end
def clnE:List (Nat×PV)→List (Nat×PV)
 | []=>[]
 | (t,v) :: r=>(t,match freeP v with | true=>v | false=>.undef) :: clnE r
def clnO:Option PObj→Option PObj
 | some (.sl ro ver tmp sz e dp xs)=>(match dp || e.flat with | true=>some (.sl ro ver tmp sz e dp xs) | false=>none)
 | some (.cell ro tmp v)=>(match freeP v with | true=>some (.cell ro tmp v) | false=>none)
 | none=>none
def deepB (hp:List (Option PObj)):List Nat→Bool
 | []=>true
 | a :: r=>(match hget hp a with | some (.sl _ _ _ _ e dp _)=>dp || e.flat | _=>false) && deepB hp r
def downLs:List PV→Option ((fs:List Kd)×Kd.dens fs)
 | []=>some ⟨[],()⟩
 | .d _ t x :: r=>(match t.isS,downLs r with | false,some ⟨fs,y⟩=>some ⟨t :: fs,(x,y)⟩ | _,_=>none)
 | _=>none
def downU:PV→Option Dat
 | .d _ t x=>some ⟨t,x⟩
 | .agg cs=>(match downLs cs with | some ⟨fs,y⟩=>some ⟨.st fs,y⟩ | none=>none)
 | _=>none
def downP:PV→Option PV
 | .cp a o=>some (.cp a o)
 | .tp p e x o=>some (.tp p e x o)
 | .kp _ u o=>(match downU u with | some ⟨e,x⟩=>some (.tp false e x o) | none=>none)
 | _=>none
def downPs:List PV→Option (List PV)
 | []=>some []
 | v :: r=>(match downP v,downPs r with | some w,some l=>some (w :: l) | _,_=>none)
def downV:PV→Option PV
 | .fn f cs=>(match downPs cs with | some l=>some (.fn f l) | none=>none)
 | v=>downP v
def inlArgs (hp:List (Option PObj)):List PKd→List PV→Option (List PV)
 | [],[]=>some []
 | .dat t :: r,v :: q=>match asD hp t v,inlArgs hp r q with | some x,some l=>some (.d true t x :: l) | _,_=>none
 | .raw :: r,v :: q=>match downV v,inlArgs hp r q with
  | some w,some l=>some (w :: l)
  | _,_=>none
 | _,_=>none
def takeP:Nat→List PV→List PV
 | 0,_=>[]
 | _,[]=>[]
 | n + 1,v :: r=>v :: takeP n r
def dropRg (off n:Nat):List (Nat×PV)→List (Nat×PV)
 | []=>[]
 | (t,v) :: r=>match Nat.ble off t && Nat.blt t (off + n) with | true=>dropRg off n r | false=>(t,v) :: dropRg off n r
def noRaw:List PKd→Bool
 | []=>true
 | .raw :: _=>false
 | _ :: r=>noRaw r
def bindE:Nat→List PV→List (Nat×PV)
 | _,[]=>[]
 | n,v :: r=>(n,v) :: bindE (n + 1) r
def enterP (off n:Nat) (l:List PV) (e:List (Nat×PV)):List (Nat×PV):=bindE off (takeP n l)++dropRg off n e
def scalK (t:Kd):Bool:=t.flat
def resP (ps:PS):List ARes→Option (List PV)
 | []=>some []
 | .tmp t :: r=>match resP ps r with | some l=>some (look ps.env t :: l) | none=>none
 | .cell t ag n :: r=>match resP ps r,loadR ps ag n (look ps.env t) with | some l,some v=>some (v :: l) | _,_=>none
where loadR (ps:PS) (ag:Bool) (n:Nat):PV→Option PV
 | .cp c 0=>match hget ps.heap c with
  | some (.cell _ _ v)=>(match ag with
   | true=>if v.isAgg=true∧n=v.cells.length then some v else none
   | false=>v.cells[0]?)
  | _=>none
 | _=>none
def datsP (hp:List (Option PObj)):(l:List Kd)→List PV→Option (Kd.dens l)
 | [],[]=>some ()
 | t :: r,v :: q=>match asD hp t v,datsP hp r q with | some x,some y=>some (x,y) | _,_=>none
 | _,_=>none
def ownsP (hp:List (Option PObj)):(l:List Kd)→List PV→Option (Kd.dens l×List Nat)
 | [],[]=>some ((),[])
 | t :: r,v :: q=>match asOwn hp t v,ownsP hp r q with | some (x,a),some (y,b)=>some ((x,y),a++b) | _,_=>none
 | _,_=>none
def ancP (hp:List (Option PObj)):(l:List PKd)→List PV→Option (Kd.dens (outK l)×List Nat)
 | [],[]=>some ((),[])
 | .cell t :: r,.cp c 0 :: q=>match hget hp c with
  | some (.cell false none u)=>(match asOwn hp t u,ancP hp r q with | some (x,a),some (y,b)=>some ((x,y),c :: (a++b)) | _,_=>none)
  | _=>none
 | .kept t :: r,v :: q=>match asOwn hp t v,ancP hp r q with | some (x,a),some (y,b)=>some ((x,y),a++b) | _,_=>none
 | .own _ :: r,q=>ancP hp r q
 | .dat _ :: r,q=>ancP hp r q
 | .raw :: r,q=>ancP hp r q
 | _,_=>none
def appDens:(l m:List Kd)→Kd.dens l→Kd.dens m→Kd.dens (l++m)
 | [],_,_,y=>y
 | _ :: r,m,x,y=>(x.1,appDens r m x.2 y)
def finC (sg:Sig) (res:List ARes) (ps:PS):Option (Kd.dens (sg.rs++outK sg.ps)):=
 match resP ps res with
 | some vs=>(match ownsP ps.heap sg.rs vs,ancP ps.heap sg.ps ps.anc with
  | some (x,a),some (y,b)=>if nodupB (a++b)=true then some (appDens _ _ x y) else none
  | _,_=>none)
 | none=>none
def finI (sg:Sig) (res:List ARes) (ps:PS):Option (Kd.dens sg.rs):=
 match resP ps res with
 | some vs=>datsP ps.heap sg.rs vs
 | none=>none
def PV.known:PV→Bool
 | .undef=>false
 | _=>true
structure PF where
 rd:List Nat      -- names that are read
 rdI:Bool         -- it reads what is live and has no name
 wr:List Nat      -- names that are written
 wrT:List Nat     -- what it lays anew at its place
 tm:List Nat      -- the places of what it reads and writes
 w:Bool           -- it makes new objects
 nx:Bool
 all:Bool
 nn:Nat
 rs:List Nat      -- places of its own that are read
 lv:Nat→Bool    -- the names that are there
def tmpsOf (hp:List (Option PObj)):List Nat→List Nat
 | []=>[]
 | a :: r=>match hget hp a with
  | some (.sl _ _ (some u) _ _ _ _)=>u :: tmpsOf hp r
  | some (.cell _ (some u) _)=>u :: tmpsOf hp r
  | _=>tmpsOf hp r
def liveB (hp:List (Option PObj)) (a:Nat):Bool:=(hget hp a).isSome
def mkPF (ps:PS) (rd:List Nat) (rdI:Bool) (wr wrT:List Nat) (w nx all:Bool):PF:=⟨rd,rdI,wr,wrT,tmpsOf ps.heap (rd++wr),w,nx,all,ps.heap.length,[],liveB ps.heap⟩
def ptrN:PV→List Nat
 | .own a=>[a]
 | .win a _ _=>[a]
 | .cp a _=>[a]
 | .ep a _ _ _ _ _=>[a]
 | _=>[]
def ptrT:PV→List Nat
 | .kp t _ _=>[t]
 | _=>[]
def ptrI:PV→Bool
 | .d p t _=>!(p || t.flat)
 | .tp p _ _ _=>!p
 | _=>false
def pfCall (tb:PTab) (f:Nat) (vs:List PV) (ps:PS):Option PF:=
 match tb f with
 | some (.con true sg _)=>(match argsP ps.heap sg.ps vs with
  | some a=>some (mkPF ps a.dn (!(a.fr && deepB ps.heap a.dn)) [] [] false false false)
  | none=>none)
 | some (.con false sg _)=>(match argsP ps.heap sg.ps vs with
  | some a=>some (mkPF ps (a.dn++a.sn) (!(a.fr && deepB ps.heap a.dn)) a.sn [] true true false)
  | none=>none)
 | some (.inl _ _ _ _)=>some (mkPF ps [] false [] [] false true true)
 | none=>none
def rsOf (ps:PS):PV→Option Nat
 | .own a=>match hget ps.heap a with
  | some (.sl _ _ (some u) _ e _ _)=>(match e.flat with | true=>some u | false=>none)
  | _=>none
 | .kp t _ _=>some t
 | _=>none
def pfRd (ps:PS) (v:PV):Option PF:=
 match rsOf ps v with
 | some u=>some { mkPF ps [] false [] [] false false false with rs:=[u] }
 | none=>if v.known then some (let F:=mkPF ps (ptrN v) (ptrI v || !(ptrT v).isEmpty) [] [] false false false; { F with tm:=ptrT v++F.tm }) else none
def pfO0 (tb:PTab) (dst:Option Nat) (ps:PS):AOp→Option PF
 | .alloc _ | .box _ | .bslice _ _=>some (mkPF ps [] false [] (opt1 dst) false false false)
 | .load _ _ x | .b2s x | .slice _ x _ _ _ | .iaddr _ x _=>pfRd ps (pev ps x)
 | .store _ a _=>if (pev ps a).known && (!ptrI (pev ps a) && (ptrT (pev ps a)).isEmpty) then some (mkPF ps [] false (ptrN (pev ps a)) [] false false false) else none
 | .s2b _ | .mksl _ _ _ | .bsliceD _ _=>some (mkPF ps [] false [] [] true true false)
 | .append _ x y=>if (pev ps x).known && (!ptrI (pev ps x) && ((ptrT (pev ps x)).isEmpty && ((pev ps y).known && (ptrT (pev ps y)).isEmpty))) then some (mkPF ps (ptrN (pev ps y)) (ptrI (pev ps y)) (ptrN (pev ps x)) [] true true false) else none
 | .call f args=>pfCall tb f (args.map (pev ps)) ps
 | .callv f args=>match pev ps f with | .fn g caps=>pfCall tb g (args.map (pev ps)++caps) ps | _=>none
 | .copy _ _ _ | .clear _ _=>none
 | _=>some (mkPF ps [] false [] [] false false false)
def deepSt (ps:PS):AOp→Bool
 | .store _ a _=>match pev ps a with | .ep _ _ _ _ e _=>!e.flat | _=>false
 | _=>false
def pfO (tb:PTab) (dst:Option Nat) (ps:PS) (o:AOp):Option PF:=
 match deepSt ps o with
 | true=>none
 | false=>(match pfO0 tb dst ps o with
  | some F=>if F.rd.all (liveB ps.heap) && F.wr.all (liveB ps.heap) then some F else none
  | none=>none)
def disN (a b:List Nat):Bool:=a.all fun x=>!b.elem x
def PF.quiet (F:PF):Bool:=F.wr.isEmpty && (F.wrT.isEmpty && !F.w)
def PF.noisy (F:PF):Bool:=F.w || !F.wr.isEmpty
def pfInd0 (F G:PF):Bool:=
 !(F.nx && G.nx) && (F.quiet && G.quiet ||
  !F.all && (!G.all && ((G.rd++G.wr).all (fun a=>Nat.blt a F.nn) && (disN F.wr (G.rd++G.wr) && (disN G.wr F.rd && (disN F.wrT G.wrT && (disN F.wrT G.tm && (disN G.wrT F.tm && (!(G.rdI && F.noisy) && (!(F.rdI && G.noisy) && (disN F.wrT G.rs && (disN F.tm G.rs && (disN G.wrT F.rs && disN G.tm F.rs)))))))))))))
def pfNew (F G:PF):Bool:=
 F.quiet && (!F.all && (!F.rdI && (!G.all && (!(F.nx && G.nx) && (F.rd.all G.lv && (disN G.wr F.rd && (disN G.wrT F.tm && (disN G.tm F.rs && disN G.wrT F.rs))))))))
def pfInd (F G:PF):Bool:=pfInd0 F G || pfNew F G
def rdSt (tb:PTab):AOp→Bool
 | .load _ _ _ | .b2s _ | .slice _ _ _ _ _ | .iaddr _ _ _=>true
 | .call f _=>match tb f with | some (.con true _ _)=>true | _=>false
 | _=>false
def isCallO:AOp→Bool
 | .call _ _ | .callv _ _=>true
 | _=>false
def lookF:List (Nat×PF)→Nat→Option PF
 | [],_=>none
 | (a,v) :: r,t=>match Nat.beq a t with | true=>some v | false=>lookF r t
def prsStat (tb:PTab) (l:List AOper) (prs:List (Nat×Nat)):Bool:=
 prs.all fun p=>Nat.blt p.1 p.2 && match l[p.1]?,l[p.2]? with
  | some x,some y=>(x.guard.isNone && y.guard.isNone) || (rdSt tb x.op && (rdSt tb y.op && !(isCallO x.op && isCallO y.op)))
  | _,_=>false
def prsDyn (l:List AOper) (fs:List (Nat×PF)) (prs:List (Nat×Nat)):Bool:=
 prs.all fun p=>match l[p.1]?,l[p.2]? with
  | some x,some y=>!(x.guard.isNone && y.guard.isNone) || (match lookF fs p.1,lookF fs p.2 with | some F,some G=>pfInd F G | _,_=>false)
  | _,_=>false
def F0P (ps:PS):PF:=mkPF ps [] false [] [] false false false
def prsDyn2 (fs:List (Nat×PF)) (prs:List (Nat×Nat)):Bool:=
 prs.all fun p=>Nat.blt p.1 p.2 && (match lookF fs p.1,lookF fs p.2 with | some F,some G=>pfInd F G | _,_=>false)
def setG (ps:PS) (g:Nat) (b:Bool):PS:={ ps with env:=(g,.d true .bool b) :: ps.env }
def pickP (ps:PS):AOp→Option (Bool×PV×PV)
 | .pick c a b=>(match boolP (pev ps c) with | some t=>some (t,pev ps a,pev ps b) | none=>none)
 | _=>none
def calm (tb:PTab):AOp→Bool
 | .alloc _ | .box _ | .bslice _ _ | .store _ _ _ | .append _ _ _ | .s2b _ | .mksl _ _ _ | .bsliceD _ _ | .copy _ _ _ | .clear _ _=>false
 | _=>true
def takeGrp (tb:PTab) (g:Nat) (want:Bool) (ds:List Nat):List AOper→Option (List AOper×List Nat×Nat×Opd×Opd×List AOper)
 | []=>none
 | ⟨some q,none,.pick (.t g') a b⟩ :: r=>if Nat.beq g g' then some ([],[],q,a,b,r) else none
 | ⟨some t,some (u,w),o⟩ :: r=>
  if calm tb o && (!Nat.beq t g && (ds.elem u || (Nat.beq u g && beqB w want))) then
   (match takeGrp tb g want (t :: ds) r with
   | some (l,ts,z)=>some (⟨some t,if Nat.beq u g then none else some (u,w),o⟩ :: l,t :: ts,z)
   | none=>none) else none
 | _=>none
def dropE:List Nat→List (Nat×PV)→List (Nat×PV)
 | [],e=>e
 | t :: r,e=>(t,.undef) :: dropE r e
def stOK (tb:PTab) (l:List AOper) (prs:List (Nat×Nat)):Bool:=prsStat tb l prs && l.all fun o=>o.guard.isNone || calm tb o.op
def isTup:PV→Bool
 | .tup []=>true
 | _=>false
def pickS (ps:PS):AOp→Option (Bool×PV×PV)
 | .pick c a b=>(match boolP (pev ps c),isTup (pev ps a) || isTup (pev ps b) with | some t,true=>some (t,pev ps a,pev ps b) | _,_=>none)
 | _=>none
inductive Itp (ρ:Type) where
 | code (c:AC)
 | blk (id:Nat)
 | join (sk:Skel) (fx:List (Nat×PV)) (k:Kd.dens sk.gtys→Option ρ)
 | ou (l0:List AOper) (i:Nat) (l:List AOper) (prs:List (Nat×Nat)) (fs:List (Nat×PF))
def condK {ρ:Type}:List (Itp ρ)→Option (Opd×AC×AC×List (Itp ρ))
 | .code (.cond c a b) :: K=>some (c,a,b,K)
 | _=>none
def unwP {ρ:Type} (id:Nat):List (Itp ρ)→Option (List (Itp ρ))
 | []=>none
 | .blk i :: K=>if i=id then some K else if i=RB then none else unwP id K
 | _ :: K=>unwP id K
def bigK {ρ:Type}:List (Itp ρ)→Bool
 | []=>false
 | .blk _ :: K=>bigK K
 | .code .skip :: K=>bigK K
 | .code (.ops []) :: K=>bigK K
 | .code .ret :: _=>false
 | .join _ _ _ :: _=>false
 | _=>true
def envT:List (Nat×SK)→List Nat
 | []=>[]
 | (t,_) :: r=>t :: envT r
def keysE:List (Nat×PV)→List Nat
 | []=>[]
 | (t,_) :: r=>t :: keysE r
def liveK {ρ:Type} (rt:List Nat):List (Itp ρ)→List Nat
 | []=>rt
 | .code c :: K=>match udC rt c with | (u,df)=>if falls c || hasExit c then uni u (minus (liveK rt K) df) else u
 | .blk _ :: K=>liveK rt K
 | .join sk fx _ :: _=>envT sk.env++keysE fx
 | .ou _ _ l _ _ :: K=>match udOps l with | (u,df)=>uni u (minus (liveK rt K) df)
def fxK {ρ:Type}:List (Itp ρ)→List Nat
 | []=>[]
 | .join _ fx _ :: K=>keysE fx++fxK K
 | _ :: K=>fxK K
structure Cx where
 hn:Hints
 pm:List Nat
 rt:List Nat
 N:Nat
def resT:List ARes→List Nat
 | []=>[]
 | .tmp t :: r=>t :: resT r
 | .cell t _ _ :: r=>t :: resT r
def fxOK (env:List (Nat×PV)):List (Nat×PV)→Bool
 | []=>true
 | (t,_) :: r=>(look env t).known && fxOK env r
def toJoin {ρ:Type} (hn:Hints) (sk:Skel) (fx:List (Nat×PV)) (k:Kd.dens sk.gtys→Option ρ) (ps:PS):Option ρ:=
 match fxOK ps.env fx with
 | true=>(match matS sk (canon hn (envT sk.env) ps) with
  | some ds=>(match toG sk ds with | some σ=>k σ | none=>none)
  | none=>none)
 | false=>none
def fromJoin {ρ:Type} (sk:Skel) (fx:List (Nat×PV)) (σ:Kd.dens sk.gtys) (k:PS→Option ρ):Option ρ:=
 match filG sk σ with | some ps=>k { ps with env:=ps.env++fx } | none=>none
def fixedE (ps:PS) (asg:List Nat):List Nat→List (Nat×PV)×List Nat
 | []=>([],[])
 | t :: r=>match fixedE ps asg r with
  | (fx,lv)=>if !asg.elem t && pureV (look ps.env t) then ((t,look ps.env t) :: fx,lv) else (fx,t :: lv)
abbrev RunP:Type 1:=∀ {ρ:Type},Cx→(PS→Option ρ)→List (Itp ρ)→PS→Option ρ
mutual
def noEp:PV→Bool
 | .ep _ _ _ _ _ _=>false
 | .agg cs | .fn _ cs | .tup cs=>noEps cs
 | _=>true
def noEps:List PV→Bool
 | []=>true
 | v :: r=>noEp v && noEps r
end
def clnM:List (Nat×PV)→List (Nat×PV)
 | []=>[]
 | (t,v) :: r=>(t,match freeP v && noEp v with | true=>v | false=>.undef) :: clnM r
def rwFrom:Nat→List (Option PObj)→Bool
 | _,[]=>true
 | 0,o :: r=>(match o with | some ob=>!roOf ob | none=>true) && rwFrom 0 r
 | n + 1,_ :: r=>rwFrom n r
structure Mac where
 t:Nat
 u:Nat
 f:Nat
 d3:Option Nat
 w:Nat
 kd:IntKind
 n:Int
 rest:List AOper
 c:Nat
 ver:Nat
 sz:Nat
 e:Kd
 xs:List e.den
 i:Nat
 off:Nat
 x:e.den
 y:FX
def keptB:List PKd→Bool
 | [.kept _,.dat _]=>true
 | _=>false
def macM (tb:PTab) (ps:PS) (o:AOper) (r:List AOper):Option Mac:=
 match o.dst,o.op,r with
 | some t,.load false _ (.t ta),⟨some u,none,.mov (.t w)⟩ :: ⟨d3,none,.call f [.t t',.t u']⟩ :: rest=>
  (match tb f with
  | some (.con false sg _)=>(match keptB sg.ps,look ps.env ta,intP (look ps.env w) with
   | true,.ep c ver i off e1 x1,some (kd,n)=>(match hget ps.heap c with
    | some (.sl false ver' none sz e true xs)=>(match castK e1 e x1 with
     | some x=>(match getF e x off with
      | some y=>(match Nat.beq ver ver' && (Nat.beq t t' && (Nat.beq u u' && (!Nat.beq u t && (!Nat.beq w t && (goodSl y.sz y.e && (freePs ps.anc && noEps ps.anc)))))) with
       | true=>some ⟨t,u,f,d3,w,kd,n,rest,c,ver,sz,e,xs,i,off,x,y⟩
       | false=>none)
      | none=>none)
     | none=>none)
    | _=>none)
   | _,_,_=>none)
  | _=>none)
 | _,_,_=>none
def caS (tb:PTab) (R:RunP) {ρ:Type} (cx:Cx) (f:Nat) (vs:List PV) (ps:PS) (k:PV→PS→Option ρ):Option ρ:=
 match tb f with
 | some (.con fz sg F)=>(match argsP ps.heap sg.ps vs with
  | some a=>match a.sn with
   | []=>bindK (F a.xs) fun ys=>(match ownifyR ps.heap.length sg.rs (fstDens sg.rs (outK sg.ps) ys) with
      | (ws,os)=>k (tupP ws) { ps with heap:=ps.heap++os })
   | _ :: _=>if nodupB a.sn && (disN a.dn a.sn && (a.fr && (deepB ps.heap a.dn && freePs ps.anc))) then
    bindK (F a.xs) fun ys=>match leftP sg.ps vs (sndDens sg.rs (outK sg.ps) ys) (ps.heap.map clnO) with
     | some hp=>(match ownifyR hp.length sg.rs (fstDens sg.rs (outK sg.ps) ys) with
      | (ws,os)=>k (tupP ws) ⟨clnE ps.env,ps.anc,hp++os⟩)
     | none=>none
   else none
  | none=>none)
 | some (.inl sg fn hn pm)=>(match inlArgs ps.heap sg.ps vs with
  | some l=>bindK (R ⟨hn,pm,resT fn.res,cx.N⟩ (finI sg fn.res) [.code fn.body] ⟨bindE 0 l,[],ps.heap.map roN⟩) fun ys=>
    match ownifyR ps.heap.length sg.rs ys with
    | (ws,_)=>k (tupP ws) ps
  | none=>none)
 | none=>none
def macS (tb:PTab) (R:RunP) {ρ:Type} (cx:Cx) (m:Mac) (ps:PS) (k:PV→PS→Option ρ):Option ρ:=
 caS tb R cx m.f [.own ps.heap.length,.d true (.int m.kd) m.n] ⟨clnE ps.env,ps.anc,(hset ps.heap m.c none).map clnO++[some (.sl false 0 none m.y.sz m.y.e true m.y.ys)]⟩ fun v ps2=>
  match hget ps2.heap ps.heap.length with
  | some (.sl false _ none sz2 e2 true ys)=>(match putF m.e m.x m.off sz2 e2 ys,rwFrom (ps.heap.length + 1) ps2.heap && (freeP v && noEp v) with
   | some x',true=>k v ⟨(m.u,.d true (.int m.kd) m.n) :: (m.t,.undef) :: clnM ps2.env,ps2.anc,hset (hset (ps2.heap.map clnO) ps.heap.length none) m.c (some (.sl false (m.ver + 1) none m.sz m.e true (setL m.xs m.i x')))⟩
   | _,_=>none)
  | _=>none
def opS (tb:PTab) (R:RunP) {ρ:Type} (cx:Cx) (o:AOper) (ps:PS) (k:PV→PS→Option ρ):Option ρ:=
 match o.op with
 | .call f args=>caS tb R cx f (args.map (pev ps)) ps k
 | .callv f args=>(match pev ps f with
  | .fn g caps=>caS tb R cx g (args.map (pev ps)++caps) ps k
  | _=>none)
 | .store n a x=>(match o.dst with | none=>opP cx.hn cx.pm none ps (.store n a x) k | some _=>none)
 | op=>opP cx.hn cx.pm o.dst ps op k
def grK {α:Type} (want b:Bool) (x y:α):α:=match want with | true=>(bif b then x else y) | false=>(bif b then y else x)
def grS (tb:PTab) (R:RunP) {ρ:Type} (cx:Cx) (o:AOper) (g:Nat) (want:Bool) (r:List AOper) (ps:PS) (k:Nat→List AOper→PS→Option ρ):Option ρ:=
 match boolP (look ps.env g),takeGrp tb g want [] (o :: r) with
 | some b,some (grp,ts,q,x,y,rest)=>
  if disN (bif want then y else x).tmps ts then
   bindK (grK want b (R ⟨cx.hn,cx.pm,(bif want then x else y).tmps,cx.N⟩ (fun ps'=>boolP (pev ps' (bif want then x else y))) [.code (.ops grp)] ⟨ps.env,[],ps.heap.map roO⟩) (boolP (pev ps (bif want then y else x)))) fun z=>
    k (grp.length + 1) rest { ps with env:=(q,.d true .bool z) :: dropE ts ps.env }
  else none
 | _,_=>none
def evC (tb:PTab):Nat→{ρ:Type}→Cx→(PS→Option ρ)→List (Itp ρ)→PS→Option ρ
 | 0,_,_,_,_,_=>none
 | n + 1,ρ,cx,fin,K,ps=>match K with
  | []=>fin ps
  | .code .ret :: _=>fin ps
  | .code .skip :: K=>evC tb n cx fin K ps
  | .blk _ :: K=>evC tb n cx fin K ps
  | .join sk fx k :: _=>toJoin cx.hn sk fx k ps
  | .code (.seq a b) :: K=>evC tb n cx fin (.code a :: .code b :: K) ps
  | .code (.exit i) :: K=>match unwP i K with
   | some K'=>evC tb n cx fin K' ps
   | none=>none
  | .code (.block i b) :: K=>
   if !Nat.beq i RB && (Nat.ble 2 (exitN i b + (if falls b then 1 else 0)) && bigK K) then
    let fl:=fixedE ps (asgC b) (liveK cx.rt K)
    let sk:=skS (canon cx.hn fl.2 ps)
    joinK (fun σ=>fromJoin sk fl.1 σ fun ps'=>evC tb n cx fin K ps') fun k=>evC tb n cx fin (.code b :: .blk i :: .join sk fl.1 k :: K) ps
   else evC tb n cx fin (.code b :: .blk i :: K) ps
  | .code (.cond c a b) :: K=>match boolP (pev ps c) with
   | some t=>if falls a && (falls b && bigK K) then
     let fl:=fixedE ps (asgC a++asgC b) (liveK cx.rt K)
     let sk:=skS (canon cx.hn fl.2 ps)
     joinK (fun σ=>fromJoin sk fl.1 σ fun ps'=>evC tb n cx fin K ps') fun k=>
      bif t then evC tb n cx fin (.code a :: .join sk fl.1 k :: K) ps else evC tb n cx fin (.code b :: .join sk fl.1 k :: K) ps
    else bif t then evC tb n cx fin (.code a :: K) ps else evC tb n cx fin (.code b :: K) ps
   | none=>none
  | .code (.loop b) :: K=>
   let fl:=fixedE ps (asgC b) (liveK cx.rt (.code (.loop b) :: K))
   let sk:=skS (canon cx.hn fl.2 ps)
   toJoin cx.hn sk fl.1 (fun σ0=>loopF (fun rec σ=>fromJoin sk fl.1 σ fun ps'=>evC tb n cx fin (.code b :: .join sk fl.1 rec :: K) ps') cx.N σ0) ps
  | .code (.ops []) :: K=>evC tb n cx fin K ps
  | .code (.ops (o :: r)) :: K=>match o.guard with
   | none=>(match pickS ps o.op with
    | some (t,x,y)=>bif t then evC tb n cx fin (.code (.ops r) :: K) (ps.put o.dst x) else evC tb n cx fin (.code (.ops r) :: K) (ps.put o.dst y)
    | none=>(match macM tb ps o r with
     | some m=>macS tb (@evC tb n) cx m ps fun v ps'=>evC tb n cx fin (.code (.ops m.rest) :: K) (ps'.put m.d3 v)
     | none=>opS tb (@evC tb n) cx o ps fun v ps'=>evC tb n cx fin (.code (.ops r) :: K) (ps'.put o.dst v)))
   | some (g,want)=>(match takeGrp tb g want [] (o :: r) with
    | some _=>grS tb (@evC tb n) cx o g want r ps fun m rest ps'=>evC tb n cx fin (.code (.ops rest) :: K) ps'
    | none=>(match boolP (look ps.env g),(fxK K).elem g with
     | some b,false=>grK want b
       (opS tb (@evC tb n) cx ⟨o.dst,none,o.op⟩ (setG ps g want) fun v ps'=>evC tb n cx fin (.code (.ops r) :: K) (ps'.put o.dst v))
       (evC tb n cx fin (.code (.ops r) :: K) ((setG ps g (!want)).put o.dst (.tup [])))
     | _,_=>none))
  | .code (.enter off m args) :: K=>evC tb n cx fin K { ps with env:=enterP off m (args.map (pev ps)) ps.env }
  | .code (.opsU (_ :: _) _ _) :: _=>none
  | .code (.opsU [] l prs) :: K=>match stOK tb l prs,condK K with
   | false,some (c,a,b,K2)=>if falls a && (falls b && bigK K2) then
     let fl:=fixedE ps (asgL l++(asgC a++asgC b)) (liveK cx.rt K2)
     let sk:=skS (canon cx.hn fl.2 ps)
     joinK (fun σ=>fromJoin sk fl.1 σ fun ps'=>evC tb n cx fin K2 ps') fun k=>evC tb n cx fin (.ou l 0 l prs [] :: .code (.cond c a b) :: .join sk fl.1 k :: K2) ps
    else evC tb n cx fin (.ou l 0 l prs [] :: K) ps
   | _,_=>evC tb n cx fin (.ou l 0 l prs [] :: K) ps
  | .ou l0 i [] prs fs :: K=>match stOK tb l0 prs with
   | true=>if prsDyn l0 fs prs=true then evC tb n cx fin K ps else none
   | false=>if prsDyn2 fs prs=true then evC tb n cx fin K ps else none
  | .ou l0 i (o :: r) prs fs :: K=>match stOK tb l0 prs with
   | true=>(match o.guard with
    | none=>(match pfO tb o.dst ps o.op with
     | some F=>opS tb (@evC tb n) cx o ps fun v ps'=>evC tb n cx fin (.ou l0 (i + 1) r prs ((i,F) :: fs) :: K) (ps'.put o.dst v)
     | none=>none)
    | some (g,want)=>grS tb (@evC tb n) cx o g want r ps fun m rest ps'=>evC tb n cx fin (.ou l0 (i + m) rest prs fs :: K) ps')
   | false=>(match o.guard with
    | none=>(match pickP ps o.op with
     | some (t,x,y)=>bif t then evC tb n cx fin (.ou l0 (i + 1) r prs ((i,F0P ps) :: fs) :: K) (ps.put o.dst x) else evC tb n cx fin (.ou l0 (i + 1) r prs ((i,F0P ps) :: fs) :: K) (ps.put o.dst y)
     | none=>(match pfO tb o.dst ps o.op with
      | some F=>opS tb (@evC tb n) cx o ps fun v ps'=>evC tb n cx fin (.ou l0 (i + 1) r prs ((i,F) :: fs) :: K) (ps'.put o.dst v)
      | none=>none))
    | some (g,want)=>(match boolP (look ps.env g),(asgL l0).elem g with
     | some b,true=>grK want b
       (match pfO tb o.dst (setG ps g want) o.op with
       | some F=>opS tb (@evC tb n) cx ⟨o.dst,none,o.op⟩ (setG ps g want) fun v ps'=>evC tb n cx fin (.ou l0 (i + 1) r prs ((i,F) :: fs) :: K) (ps'.put o.dst v)
       | none=>none)
       (evC tb n cx fin (.ou l0 (i + 1) r prs ((i,F0P ps) :: fs) :: K) ((setG ps g (!want)).put o.dst (.tup [])))
     | _,_=>none))
end
end Go.Am
/- The machine on typed data against the small machine: what a state stands for. -/
namespace Go.Am
structure Vw where
 d:Nat
 hp:List (Option PObj)
 μ:Nat→AV
 L:Nat→List Id
 H:Heap
 nx:Nat
def live (hp:List (Option PObj)) (a:Nat):Prop:=(hget hp a).isSome=true
def Vw.top (X:Vw) (i:Id):Prop:=∃ a,live X.hp a∧(X.L a).head? = some i
def oldI (d nx:Nat):Id→Prop
 | .dy k=>k < nx
 | .st d' _=>d' < d
 | .ex _=>False
def Vw.Imm (X:Vw) (i:Id):Prop:=¬ X.top i∧oldI X.d X.nx i
def Vw.KI (X:Vw) (t:Nat) (o:Id):Prop:=o = .st X.d t∧¬ X.top o
def isRef:AV→Prop
 | .nils=>True
 | .ref _ _ _ _ _=>True
 | _=>False
mutual
def VR (X:Vw):PV→AV→Prop
 | .d p t x,v=>∃ Li,Rep false X.H t x v Li∧(p=true∨t.flat=true→Li=[])∧∀ i∈Li,X.Imm i
 | .agg cs,v=>v.isAgg=true∧VRs X cs v.cells
 | .nils,v=>v = .nils
 | .own a,v=>a < X.hp.length∧v=X.μ a∧isRef v
 | .win a off len,v=>a < X.hp.length∧((X.μ a = .nils∧v = .nils∧off=0∧len=0)∨∃ o g n off0 len0,X.μ a = .ref o g n off0 len0∧off + len≤len0∧v = .ref o g n (off0 + off) len)
 | .cp a off,v=>a < X.hp.length∧∃ o g,X.μ a = .ptr o g 1 0 0∧v = .ptr o g 1 0 off
 | .ep a ver i off e x,v=>a < X.hp.length∧∃ o g n off0 len0,X.μ a = .ref o g n off0 len0∧i < len0∧v = .ptr o g n (off0 + i) off ∧
   ∀ ro ver' tmp sz e' dp xs,hget X.hp a=some (.sl ro ver' tmp sz e' dp xs)→ver≤ver'∧(ver=ver'→∃ y,castK e e' x=some y∧xs[i]? = some y)
 | .tp p e x off,v=>(∃ y,v = .tptr y off∧Rep false X.H e x (.c y) []) ∨
   (p=false∧∃ o g n j b w Li,v = .ptr o g n j off∧X.H o=some b∧b.gen=g∧b.es.length=n∧b.sz=e.cn∧b.es[j]? = some w∧Rep false X.H e x w Li∧X.Imm o∧∀ i∈Li,X.Imm i)
 | .kp t u off,v=>pureV u=true∧cellOK u=true∧∃ o g b w,X.KI t o∧v = .ptr o g 1 0 off∧X.H o=some b∧b.gen=g∧b.es=[w]∧b.sz=w.cells.length∧VR X u w
 | .fn f cs,v=>∃ vs,v = .fn f vs∧VRs X cs vs
 | .tup l,v=>∃ vs,v = .tup vs∧VRs X l vs
 | .undef,_=>True
 | .np,v=>v = .c (.s (.pointer none))
def VRs (X:Vw):List PV→List AV→Prop
 | [],[]=>True
 | x :: r,v :: q=>VR X x v∧VRs X r q
 | _,_=>False
end
def SlR (X:Vw) (a:Nat) (ro:Bool) (sz:Nat) (e:Kd) (dp:Bool) (xs:List e.den):Prop:=
 sz=e.cn∧0 < sz∧((X.μ a = .nils∧xs=[]∧X.L a=[]) ∨
  ∃ o g n off len b L',X.μ a = .ref o g n off len∧X.H o=some b∧b.gen=g∧b.es.length=n∧off + len≤n∧b.sz=sz∧(ro=false→b.w=true) ∧
   RepL (Rep dp X.H e) xs ((b.es.drop off).take len) L'∧(∀ x∈b.es,stor x=true∧x.cells.length=sz∧(dp=true→fineV (· ∈ L') x)) ∧
   X.L a=o :: (if dp=true then L' else [])∧(dp=false→∀ i∈L',X.Imm i)∧(dp=true→∀ x∈outW b.es off len,fineV (fun _=>False) x))
def ObR (X:Vw) (a:Nat):PObj→Prop
 | .sl ro _ _ sz e dp xs=>SlR X a ro sz e dp xs
 | .cell ro _ v=>∃ o g b w,X.μ a = .ptr o g 1 0 0∧X.H o=some b∧b.gen=g∧b.es=[w]∧b.sz=w.cells.length∧0 < b.sz∧stor w=true∧(ro=false→b.w=true)∧X.L a=[o]∧VR X v w∧cellOK v=true
def ageI (d nx:Nat) (tmp:Option Nat):Id→Prop
 | .dy k=>k < nx
 | .st d' t=>d' < d∨(d'=d∧tmp=some t)
 | .ex _=>False
structure Rel (d:Nat) (anV:List AV) (P0:Id→Prop) (H0:Heap) (ps:PS) (μ:Nat→AV) (L:Nat→List Id) (E:AEnv) (H:Heap) (nx:Nat):Prop where
 env:∀ t,VR ⟨d,ps.heap,μ,L,H,nx⟩ (look ps.env t) (E t)
 anc:VRs ⟨d,ps.heap,μ,L,H,nx⟩ ps.anc anV
 ank:∀ t,hasKps t ps.anc=false
 ob:∀ a ob,hget ps.heap a=some ob→ObR ⟨d,ps.heap,μ,L,H,nx⟩ a ob
 dis:∀ a b,a≠b→live ps.heap a→live ps.heap b→∀ i∈L a,i ∉ L b
 nd:∀ a,live ps.heap a→(L a).Nodup
 age:∀ a ob,hget ps.heap a=some ob→∀ i∈L a,ageI d nx (tmpO ob) i
 tl:∀ a,live ps.heap a→∀ i∈(L a).tail,oldI d nx i
 st:∀ a ob t,hget ps.heap a=some ob→tmpO ob=some t→∀ o,(L a).head? = some o→o = .st d t
 fresh:∀ k,nx≤k→H (.dy k)=none
 p0:∀ i,P0 i→H i=H0 i
 p1:∀ a ob,hget ps.heap a=some ob→roOf ob=false→∀ i∈L a,¬ P0 i
 p2:∀ k,nx≤k→¬ P0 (.dy k)
theorem hget_lt {hp:List (Option PObj)}:∀ {a:Nat} {o:PObj},hget hp a=some o→a < hp.length:=by
 induction hp with
 | nil=>intro a o h; simp [hget] at h
 | cons x r ih=>
  intro a o h
  cases a with
  | zero=>simp
  | succ a=>have:=ih (a:=a) (o:=o) (by simpa [hget] using h); simp; omega
theorem hget_hset {hp:List (Option PObj)} {x:Option PObj}:∀ {a b:Nat},hget (hset hp a x) b=if b=a∧a < hp.length then x else hget hp b:=by
 induction hp with
 | nil=>intro a b; simp [hset,hget]
 | cons y r ih=>
  intro a b
  cases a with
  | zero=>cases b <;> simp [hset,hget]
  | succ a=>
   cases b with
   | zero=>simp [hset,hget]
   | succ b=>simp only [hset,hget,ih]; simp
theorem hset_length {x:Option PObj}:∀ {hp:List (Option PObj)} {a:Nat},(hset hp a x).length=hp.length:=by
 intro hp
 induction hp with
 | nil=>intro a; rfl
 | cons y r ih=>intro a; cases a <;> simp [hset,ih]
theorem hget_append {hp q:List (Option PObj)}:∀ {a:Nat},hget (hp++q) a=if a < hp.length then hget hp a else hget q (a - hp.length):=by
 induction hp with
 | nil=>intro a; simp
 | cons y r ih=>
  intro a
  cases a with
  | zero=>simp [hget]
  | succ a=>simp only [List.cons_append,hget,ih,List.length_cons]; simp
theorem hget_ge {hp:List (Option PObj)}:∀ {a:Nat},hp.length≤a→hget hp a=none:=by
 induction hp with
 | nil=>intro a _; simp [hget]
 | cons y r ih=>intro a h; cases a with
  | zero=>simp at h
  | succ a=>simp only [hget]; exact ih (by simpa using h)
theorem look_cons {e:List (Nat×PV)} {u:Nat} {v:PV} {t:Nat}:look ((u,v) :: e) t=if u=t then v else look e t:=by
 simp only [look]
 by_cases h:u=t
 ·subst h; simp
 ·rw [if_neg h]
  have:Nat.beq u t=false:=by
   cases hb:Nat.beq u t with
   | true=>exact (h (Nat.eq_of_beq_eq_true hb)).elim
   | false=>rfl
  rw [this]
def laterO:Option PObj→Option PObj→Prop
 | o,none=>True
 | some (.sl _ ver _ _ e _ xs),some (.sl _ ver' _ _ e' _ xs')=>ver < ver'∨(ver=ver'∧∃ h:e=e',h ▸ xs=xs')
 | some (.cell _ _ _),some (.cell _ _ _)=>True
 | _,_=>False
theorem laterO.refl (o:Option PObj):laterO o o:=by
 cases o with
 | none=>trivial
 | some o=>cases o with
  | sl=>exact .inr ⟨rfl,rfl,rfl⟩
  | cell=>trivial
structure Grow (X Y:Vw) (tm:Option Nat):Prop where
 d:Y.d=X.d
 len:X.hp.length≤Y.hp.length
 mu:∀ a,a < X.hp.length→Y.μ a=X.μ a
 ob:∀ a,a < X.hp.length→laterO (hget X.hp a) (hget Y.hp a)
 imm:∀ i,X.Imm i→Y.H i=X.H i∧Y.Imm i
 ki:∀ t o,tm≠some t→X.KI t o→Y.H o=X.H o∧Y.KI t o
theorem Grow.refl (X:Vw):Grow X X none:=⟨rfl,Nat.le_refl _,fun _ _=>rfl,fun _ _=>laterO.refl _,fun _ h=>⟨rfl,h⟩,fun _ _ _ h=>⟨rfl,h⟩⟩
theorem castK_eq {t t':Kd} {x:t.den} {y:t'.den} (h:castK t t' x=some y):∃ e:t=t',e ▸ x=y:=by
 unfold castK at h
 split at h
 ·rename_i hb
  exact ⟨Kd.beq_eq t t' hb,Option.some.inj h⟩
 ·cases h
theorem Kd.beq_refl_aux:(∀ t:Kd,Kd.beq t t=true)∧True:=by
 refine ⟨?_,trivial⟩
 intro t
 refine Kd.rec (motive_1:=fun t=>Kd.beq t t=true) (motive_2:=fun l=>Kd.beqs l l=true) ?_ ?_ ?_ ?_ ?_ ?_ ?_ t
 ·intro k; simp [Kd.beq]
 ·rfl
 ·rfl
 ·intro fs h; simpa [Kd.beq] using h
 ·intro sz e h; simp [Kd.beq,h]
 ·rfl
 ·intro a r h1 h2; simp [Kd.beqs,h1,h2]
theorem castK_self {t:Kd} (x:t.den):castK t t x=some x:=by
 unfold castK
 rw [dif_pos (Kd.beq_refl_aux.1 t)]
theorem hasKps_pure {t:Nat}:∀ {cs:List PV},cs.all pureLeaf=true→hasKps t cs=false:=by
 intro cs
 induction cs with
 | nil=>intro _; rfl
 | cons x r ih=>
  intro h
  simp only [List.all_cons,Bool.and_eq_true] at h
  simp only [hasKps,ih h.2,Bool.or_false]
  cases x <;> first | rfl | simp [pureLeaf] at h
theorem hasKp_cell {t:Nat} {u:PV} (h0:pureV u=true) (h1:cellOK u=true):hasKp t u=false:=by
 cases u with
 | agg cs=>exact hasKps_pure h0
 | d=>rfl
 | nils=>rfl
 | _=>first | (simp [cellOK,cellLeaf] at h1; done) | rfl
mutual
theorem VR.mono {X Y:Vw} {tm:Option Nat} (g:Grow X Y tm):∀ (v:PV) (a:AV),(∀ t,tm=some t→hasKp t v=false)→VR X v a→VR Y v a
 | .d p t x,a,_,⟨Li,h1,h2,h3⟩=>⟨Li,Rep.frame t x a Li (fun i hi=>(g.imm i (h3 i hi)).1) h1,h2,fun i hi=>(g.imm i (h3 i hi)).2⟩
 | .agg cs,a,hk,⟨h1,h2⟩=>⟨h1,VRs.mono g cs _ (fun t e=>by simpa [hasKp] using hk t e) h2⟩
 | .nils,a,_,h=>h
 | .np,a,_,h=>h
 | .own b,a,_,⟨h1,h2,h3⟩=>⟨Nat.lt_of_lt_of_le h1 g.len,h2.trans (g.mu b h1).symm,h3⟩
 | .win b off len,a,_,⟨h1,h2⟩=>⟨Nat.lt_of_lt_of_le h1 g.len,by rw [g.mu b h1]; exact h2⟩
 | .cp b off,a,_,⟨h1,h2⟩=>⟨Nat.lt_of_lt_of_le h1 g.len,by rw [g.mu b h1]; exact h2⟩
 | .ep b ver i off e x,a,_,⟨h1,o,gg,n,off0,len0,h2,h3,h4,h5⟩=>by
  refine ⟨Nat.lt_of_lt_of_le h1 g.len,o,gg,n,off0,len0,by rw [g.mu b h1]; exact h2,h3,h4,?_⟩
  intro ro ver' tmp sz e' dp xs hb
  have hl:=g.ob b h1
  rw [hb] at hl
  cases hx:hget X.hp b with
  | none=>rw [hx] at hl; exact hl.elim
  | some ob=>
   rw [hx] at hl
   cases ob with
   | cell=>exact hl.elim
   | sl ro1 ver1 tmp1 sz1 e1 dp1 xs1=>
    obtain ⟨k1,k2⟩:=h5 _ _ _ _ _ _ _ hx
    rcases hl with hl | ⟨hl,he,hxs⟩
    ·exact ⟨by omega,fun e=>by omega⟩
    ·subst hl; subst he; subst hxs
     exact ⟨k1,k2⟩
 | .tp p e x off,a,_,h=>by
  rcases h with ⟨y,h1,h2⟩ | ⟨h0,o,gg,n,j,b,w,Li,h1,h2,h3,h4,h5,h6,h7,h9,h10⟩
  ·exact .inl ⟨y,h1,Rep.frame e x _ [] (fun i hi=>by cases hi) h2⟩
  ·exact .inr ⟨h0,o,gg,n,j,b,w,Li,h1,(g.imm o h9).1.trans h2,h3,h4,h5,h6,Rep.frame e x w Li (fun i hi=>(g.imm i (h10 i hi)).1) h7,(g.imm o h9).2,fun i hi=>(g.imm i (h10 i hi)).2⟩
 | .kp t u off,a,hk,⟨h0,h0',o,gg,b,w,h1,h2,h3,h4,h5,h6,h7⟩=>by
  have hne:tm≠some t:=fun e=>by simpa [hasKp] using hk t e
  obtain ⟨k1,k2⟩:=g.ki t o hne h1
  refine ⟨h0,h0',o,gg,b,w,k2,h2,k1.trans h3,h4,h5,h6,VR.mono g u w (fun t' _=>?_) h7⟩
  exact hasKp_cell h0 h0'
 | .fn f cs,a,hk,⟨vs,h1,h2⟩=>⟨vs,h1,VRs.mono g cs vs (fun t e=>by simpa [hasKp] using hk t e) h2⟩
 | .tup l,a,hk,⟨vs,h1,h2⟩=>⟨vs,h1,VRs.mono g l vs (fun t e=>by simpa [hasKp] using hk t e) h2⟩
 | .undef,_,_,_=>trivial
theorem VRs.mono {X Y:Vw} {tm:Option Nat} (g:Grow X Y tm):∀ (v:List PV) (a:List AV),(∀ t,tm=some t→hasKps t v=false)→VRs X v a→VRs Y v a
 | [],[],_,_=>trivial
 | x :: r,v :: q,hk,⟨h1,h2⟩=>⟨VR.mono g x v (fun t e=>by have:=hk t e; simp [hasKps] at this; exact this.1) h1,VRs.mono g r q (fun t e=>by have:=hk t e; simp [hasKps] at this; exact this.2) h2⟩
 | [],_ :: _,_,h=>h.elim
 | _ :: _,[],_,h=>h.elim
end
end Go.Am
/- The machine on typed data against the small machine: reading. -/
namespace Go.Am
theorem litS_back (l:List UInt8):litS (l.map UInt8.toNat)=l:=by
 rw [litS_def]
 rw [List.map_map]
 conv=>rhs; rw [← List.map_id l]
 refine List.map_congr_left fun b _=>?_
 simp
section
variable {X:Vw}
theorem constV_rel (x:Value):VR X (constV x) (.c (.s x)):=by
 cases x with
 | int k n=>exact ⟨[],⟨rfl,rfl⟩,fun _=>rfl,fun i hi=>by cases hi⟩
 | bool b=>exact ⟨[],⟨rfl,rfl⟩,fun _=>rfl,fun i hi=>by cases hi⟩
 | string s=>
  refine ⟨[],⟨?_,rfl⟩,fun _=>rfl,fun i hi=>by cases hi⟩
  rw [litS_back]
 | pointer a=>cases a <;> first | rfl | trivial
 | _=>trivial
theorem constA_go:∀ (l:List AV),VRs X (constA.go l) l
 | []=>trivial
 | .c (.s v) :: r=>⟨constV_rel v,constA_go r⟩
 | .nils :: r=>⟨rfl,constA_go r⟩
 | .c (.agg _) :: r=>⟨trivial,constA_go r⟩
 | .c (.sl _ _) :: r=>⟨trivial,constA_go r⟩
 | .agg _ :: r=>⟨trivial,constA_go r⟩
 | .tup _ :: r=>⟨trivial,constA_go r⟩
 | .tptr _ _ :: r=>⟨trivial,constA_go r⟩
 | .ref _ _ _ _ _ :: r=>⟨trivial,constA_go r⟩
 | .ptr _ _ _ _ _ :: r=>⟨trivial,constA_go r⟩
 | .fn _ _ :: r=>⟨trivial,constA_go r⟩
 | .undef :: r=>⟨trivial,constA_go r⟩
theorem constA_rel (v:AV):VR X (constA v) v:=by
 cases v with
 | c t=>cases t with
  | s x=>exact constV_rel x
  | _=>trivial
 | agg cs=>exact ⟨rfl,constA_go cs⟩
 | nils=>rfl
 | fn f cs=>cases cs with
  | nil=>exact ⟨[],rfl,trivial⟩
  | cons=>trivial
 | _=>trivial
theorem Rep.cells1 {own:Bool} {H:Heap} {t:Kd} {x:t.den} {a:AV} {L:List Id} (hs:t.isS=false) (h:Rep own H t x a L):a.cells=[a]:=by
 cases t with
 | st=>simp [Kd.isS] at hs
 | sl sz e=>
  rcases h with ⟨rfl,_⟩ | ⟨_,z,ts,rfl,_⟩ | ⟨o,g,n,off,len,b,L',rfl,_⟩ <;> rfl
 | int=>obtain ⟨rfl,_⟩:=h; rfl
 | bool=>obtain ⟨rfl,_⟩:=h; rfl
 | str=>obtain ⟨rfl,_⟩:=h; rfl
theorem leafsP_rel {p:Bool}:∀ (fs:List Kd) (x:Kd.dens fs) (vs:List AV) (Li:List Id),Reps false X.H fs x vs Li→(p=true∨(Kd.st fs).flat=true→Li=[])→(∀ i∈Li,X.Imm i)→VRs X (leafsP p fs x) vs
 | [],x,[],Li,_,_,_=>trivial
 | [],x,_ :: _,Li,h,_,_=>h.elim
 | t :: r,x,[],Li,h,_,_=>h.elim
 | t :: r,x,v :: vs,Li,⟨h0,L1,L2,h1,h2,e⟩,hp,hi=>by
  subst e
  refine ⟨⟨L1,h1,fun q=>?_,fun i h=>hi i (by simp [h])⟩,leafsP_rel r x.2 vs L2 h2 (fun q=>?_) (fun i h=>hi i (by simp [h]))⟩
  ·rcases q with q | q
   ·have:=hp (.inl q)
    simp at this; exact this.1
   ·exact (h1.flat (own':=false) (H':=X.H) q).2
  ·rcases q with q | q
   ·have:=hp (.inl q)
    simp at this; exact this.2
   ·exact (Reps.flat (own':=false) (H':=X.H) r x.2 vs L2 q h2).2
theorem cells_rel:∀ (v:PV) (a:AV),v.known=true→VR X v a→VRs X v.cells a.cells∧v.isAgg=a.isAgg
 | .d p t x,a,_,⟨Li,h1,h2,h3⟩=>by
  cases t with
  | st fs=>exact ⟨leafsP_rel fs x a.cells Li h1.2 h2 h3,h1.1.symm⟩
  | _=>
   have hc:=h1.cells1 rfl
   refine ⟨?_,?_⟩
   ·rw [hc]; exact ⟨⟨Li,h1,h2,h3⟩,trivial⟩
   ·rw [h1.stor.2.2]; rfl
 | .agg cs,a,_,⟨h1,h2⟩=>⟨h2,h1.symm⟩
 | .nils,a,_,h=>by obtain rfl:a = .nils:=h; exact ⟨⟨rfl,trivial⟩,rfl⟩
 | .np,a,_,h=>by obtain rfl:a = .c (.s (.pointer none)):=h; exact ⟨⟨rfl,trivial⟩,rfl⟩
 | .own b,a,_,h=>by
  have h':=h
  obtain ⟨h1,h2,h3⟩:=h
  cases a with
  | nils=>exact ⟨⟨h',trivial⟩,rfl⟩
  | ref o g n off len=>exact ⟨⟨h',trivial⟩,rfl⟩
  | _=>exact h3.elim
 | .win b off len,a,_,⟨h0,h⟩=>by
  rcases h with ⟨h1,rfl,h3,h4⟩ | ⟨o,g,n,off0,len0,h1,h2,rfl⟩
  ·exact ⟨⟨⟨h0,.inl ⟨h1,rfl,h3,h4⟩⟩,trivial⟩,rfl⟩
  ·exact ⟨⟨⟨h0,.inr ⟨o,g,n,off0,len0,h1,h2,rfl⟩⟩,trivial⟩,rfl⟩
 | .cp b off,a,_,h=>by
  have h':=h
  obtain ⟨h0,o,g,h1,rfl⟩:=h
  exact ⟨⟨h',trivial⟩,rfl⟩
 | .ep b ver i off e x,a,_,h=>by
  have h':=h
  obtain ⟨h0,o,g,n,off0,len0,h1,h2,rfl,h4⟩:=h
  exact ⟨⟨h',trivial⟩,rfl⟩
 | .tp p e x off,a,_,h=>by
  have h':=h
  rcases h with ⟨y,rfl,h2⟩ | ⟨h0,o,gg,n,j,b,w,Li,rfl,h2⟩
  ·exact ⟨⟨h',trivial⟩,rfl⟩
  ·exact ⟨⟨h',trivial⟩,rfl⟩
 | .kp t u off,a,_,h=>by
  have h':=h
  obtain ⟨_,_,o,gg,b,w,_,rfl,_⟩:=h
  exact ⟨⟨h',trivial⟩,rfl⟩
 | .fn f cs,a,_,⟨vs,h1,h2⟩=>by subst h1; exact ⟨⟨⟨vs,rfl,h2⟩,trivial⟩,rfl⟩
 | .tup l,a,_,⟨vs,h1,h2⟩=>by subst h1; exact ⟨⟨⟨vs,rfl,h2⟩,trivial⟩,rfl⟩
def Obs (X:Vw):Prop:=∀ a ob,hget X.hp a=some ob→ObR X a ob
theorem take_drop_sub {α:Type} (l:List α) (off0 len0 off len:Nat) (h:off + len≤len0):(l.drop (off0 + off)).take len=((((l.drop off0).take len0).drop off).take len):=by
 rw [List.drop_take,List.take_take,List.drop_drop]
 congr 1
 omega
theorem RepL.sub {α:Type} {R:α→AV→List Id→Prop} {xs:List α} {vs:List AV} {L:List Id} (off len:Nat) (h:RepL R xs vs L):∃ L',RepL R ((xs.drop off).take len) ((vs.drop off).take len) L'∧∀ i∈L',i∈L:=by
 obtain ⟨L1,L2,_,h2,rfl⟩:=h.split off
 obtain ⟨M1,M2,h3,_,rfl⟩:=h2.split len
 exact ⟨M1,h3,fun i hi=>by simp [hi]⟩
def Bnd (X:Vw) (ns:List Nat) (fr:Bool) (Li:List Id):Prop:=∀ i∈Li,(∃ a∈ns,live X.hp a∧i∈X.L a)∨X.Imm i
theorem own_read (hob:Obs X) {b:Nat} {a:AV} (h:VR X (.own b) a) {ro:Bool} {ver:Nat} {tmp:Option Nat} {sz:Nat} {e:Kd} {dp:Bool} {xs:List e.den} (hb:hget X.hp b=some (.sl ro ver tmp sz e dp xs)) :
  ∃ Li,Rep false X.H (.sl sz e) xs a Li∧∀ i∈Li,i∈X.L b∨X.Imm i:=by
 obtain ⟨h1,rfl,h3⟩:=h
 obtain ⟨k0,k1,k2⟩:=hob b _ hb
 rcases k2 with ⟨e1,e2,e3⟩ | ⟨o,g,n,off,len,ob,L',e1,e2,e3,e4,e5,e6,e7,e8,e9,e10,e11⟩
 ·exact ⟨[],.inl ⟨e1,e2,rfl⟩,fun i hi=>by cases hi⟩
 ·refine ⟨o :: L',.inr (.inr ⟨o,g,n,off,len,ob,L',e1,e2,e3,e4,e5,e6,e8.imp (fun x v L'' _ _ h=>?_),rfl,(fun h=>by cases h),k0⟩),?_⟩
  ·cases dp with
   | true=>exact Rep.read e x v L'' h
   | false=>exact h
  ·intro i hi
   rw [e10]
   cases dp with
   | true=>left; simpa using hi
   | false=>
    rcases List.mem_cons.1 hi with rfl | hi
    ·left; simp
    ·right; exact e11.1 rfl i hi
theorem win_read (hob:Obs X) {b off len:Nat} {a:AV} (h:VR X (.win b off len) a) {ro:Bool} {ver:Nat} {tmp:Option Nat} {sz:Nat} {e:Kd} {dp:Bool} {xs:List e.den} (hb:hget X.hp b=some (.sl ro ver tmp sz e dp xs)) :
  ∃ Li,Rep false X.H (.sl sz e) (sub xs off len) a Li∧∀ i∈Li,i∈X.L b∨X.Imm i:=by
 obtain ⟨h1,h2⟩:=h
 obtain ⟨k0,k1,k2⟩:=hob b _ hb
 rcases k2 with ⟨e1,e2,e3⟩ | ⟨o,g,n,off0,len0,ob,L',e1,e2,e3,e4,e5,e6,e7,e8,e9,e10,e11⟩
 ·rcases h2 with ⟨_,rfl,rfl,rfl⟩ | ⟨o,g,n,off0,len0,q,_⟩
  ·exact ⟨[],.inl ⟨rfl,by rw [e2,sub_def]; rfl,rfl⟩,fun i hi=>by cases hi⟩
  ·rw [e1] at q; cases q
 ·rcases h2 with ⟨q,_⟩ | ⟨o',g',n',off0',len0',q,q2,rfl⟩
  ·rw [e1] at q; cases q
  ·rw [e1] at q
   obtain ⟨rfl,rfl,rfl,rfl,rfl⟩:=q
   obtain ⟨M,m1,m2⟩:=e8.sub off len
   refine ⟨o :: M,.inr (.inr ⟨o,g,n,off0 + off,len,ob,M,rfl,e2,e3,e4,by omega,e6,?_,rfl,(fun h=>by cases h),k0⟩),?_⟩
   ·rw [take_drop_sub _ _ _ _ _ q2,sub_def]
    refine m1.imp (fun x v L'' _ _ h=>?_)
    cases dp with
    | true=>exact Rep.read e x v L'' h
    | false=>exact h
   ·intro i hi
    rw [e10]
    rcases List.mem_cons.1 hi with rfl | hi
    ·left; simp
    ·cases dp with
     | true=>left; simp [m2 i hi]
     | false=>right; exact e11.1 rfl i (m2 i hi)
theorem cast_rep {own:Bool} {H:Heap} {t t':Kd} {x:t.den} {y:t'.den} {a:AV} {L:List Id} (h:castK t t' x=some y) (hr:Rep own H t x a L):Rep own H t' y a L:=by
 obtain ⟨rfl,rfl⟩:=castK_eq h; exact hr
theorem asLeaf_rel (hob:Obs X) {t:Kd} {v:PV} {a:AV} {x:t.den} (h:VR X v a) (hx:asLeaf X.hp t v=some x) :
  ∃ Li,Rep false X.H t x a Li∧Bnd X (nameLeaf v) false Li:=by
 cases v with
 | d p t' y=>
  simp only [asLeaf] at hx
  obtain ⟨Li,h1,h2,h3⟩:=h
  exact ⟨Li,cast_rep hx h1,fun i hi=>.inr (h3 i hi)⟩
 | nils=>
  obtain rfl:a = .nils:=h
  simp only [asLeaf] at hx
  cases t with
  | sl sz e=>
   obtain rfl:=Option.some.inj hx
   exact ⟨[],.inl ⟨rfl,rfl,rfl⟩,fun i hi=>by cases hi⟩
  | _=>cases hx
 | own b=>
  simp only [asLeaf] at hx
  split at hx
  ·rename_i ro ver tmp sz e dp xs hb
   obtain ⟨Li,h1,h2⟩:=own_read hob h hb
   have hl:live X.hp b:=by unfold live; rw [hb]; rfl
   refine ⟨Li,cast_rep hx h1,fun i hi=>(h2 i hi).imp (fun q=>⟨b,by simp [nameLeaf],hl,q⟩) id⟩
  ·cases hx
 | win b off len=>
  simp only [asLeaf] at hx
  split at hx
  ·rename_i ro ver tmp sz e dp xs hb
   obtain ⟨Li,h1,h2⟩:=win_read hob h hb
   have hl:live X.hp b:=by unfold live; rw [hb]; rfl
   refine ⟨Li,cast_rep hx h1,fun i hi=>(h2 i hi).imp (fun q=>⟨b,by simp [nameLeaf],hl,q⟩) id⟩
  ·cases hx
 | _=>simp [asLeaf] at hx
theorem Bnd.app {ns ms:List Nat} {L M:List Id} (h:Bnd X ns false L) (k:Bnd X ms false M):Bnd X (ns++ms) false (L++M):=by
 intro i hi
 rcases List.mem_append.1 hi with hi | hi
 ·exact (h i hi).imp (fun ⟨a,b,c⟩=>⟨a,by simp [b],c⟩) id
 ·exact (k i hi).imp (fun ⟨a,b,c⟩=>⟨a,by simp [b],c⟩) id
theorem asDs_rel (hob:Obs X):∀ (fs:List Kd) (vs:List PV) (as:List AV) (x:Kd.dens fs),VRs X vs as→asDs X.hp fs vs=some x→∃ Li,Reps false X.H fs x as Li∧Bnd X (vs.flatMap nameLeaf) false Li
 | [],[],[],x,_,_=>⟨[],rfl,fun i hi=>by cases hi⟩
 | [],_ :: _,_,x,_,h=>by simp [asDs] at h
 | [],[],_ :: _,x,h,_=>h.elim
 | t :: r,[],_,x,_,h=>by simp [asDs] at h
 | t :: r,v :: q,[],x,h,_=>h.elim
 | t :: r,v :: q,a :: as,x,⟨h1,h2⟩,h=>by
  simp only [asDs] at h
  split at h
  ·rename_i x1 x2 e1 e2 e3
   obtain rfl:=Option.some.inj h
   obtain ⟨L1,k1,k2⟩:=asLeaf_rel hob h1 e2
   obtain ⟨L2,k3,k4⟩:=asDs_rel hob r q as _ h2 e3
   exact ⟨L1++L2,⟨e1,L1,L2,k1,k3,rfl⟩,by rw [List.flatMap_cons]; exact k2.app k4⟩
  ·cases h
theorem bnd_leaf {t:Kd} {v:PV} {x:t.den} {Li:List Id} (hx:asLeaf X.hp t v=some x) (h:Bnd X (nameLeaf v) false Li):Bnd X (namesV v) false Li:=by
 cases v with
 | agg cs=>simp only [asLeaf] at hx; cases hx
 | _=>exact h
theorem asSt_rel (hob:Obs X) {fs:List Kd} {v:PV} {a:AV} {x:Kd.dens fs} (h:VR X v a) (hx:asSt X.hp fs v=some x) :
  ∃ Li,Rep false X.H (.st fs) x a Li∧Bnd X (namesV v) false Li:=by
 cases v with
 | agg cs=>
  obtain ⟨h1,h2⟩:=h
  obtain ⟨Li,k1,k2⟩:=asDs_rel hob fs cs _ x h2 hx
  exact ⟨Li,⟨h1,k1⟩,k2⟩
 | d p t' y=>
  have hx':castK t' (.st fs) y=some x:=hx
  obtain ⟨Li,h1,h2,h3⟩:=h
  obtain ⟨rfl,rfl⟩:=castK_eq hx'
  exact ⟨Li,h1,fun i hi=>.inr (h3 i hi)⟩
 | _=>exact nomatch (show (none:Option (Kd.dens fs))=some x from hx)
theorem asD_rel (hob:Obs X) {t:Kd} {v:PV} {a:AV} {x:t.den} (h:VR X v a) (hx:asD X.hp t v=some x) :
  ∃ Li,Rep false X.H t x a Li∧Bnd X (namesV v) false Li:=by
 have leaf:∀ (t:Kd) (x:t.den),asLeaf X.hp t v=some x→∃ Li,Rep false X.H t x a Li∧Bnd X (namesV v) false Li:=by
  intro t x hx
  obtain ⟨Li,k1,k2⟩:=asLeaf_rel hob h hx
  exact ⟨Li,k1,bnd_leaf hx k2⟩
 cases t with
 | st fs=>exact asSt_rel hob h hx
 | int k=>exact leaf _ _ hx
 | bool=>exact leaf _ _ hx
 | str=>exact leaf _ _ hx
 | sl sz e=>exact leaf _ _ hx
def idsN (L:Nat→List Id):List Nat→List Id
 | []=>[]
 | a :: r=>L a++idsN L r
theorem idsN_app {L:Nat→List Id}:∀ {a b:List Nat},idsN L (a++b)=idsN L a++idsN L b
 | [],b=>rfl
 | x :: r,b=>by simp [idsN,idsN_app (a:=r)]
theorem mem_idsN {L:Nat→List Id} {i:Id}:∀ {l:List Nat},i∈idsN L l↔∃ a∈l,i∈L a
 | []=>by simp [idsN]
 | x :: r=>by simp [idsN,mem_idsN (l:=r)]
def OwnN (X:Vw) (ns:List Nat):Prop:=∀ a∈ns,∃ ver sz e,∃ xs:List (Kd.den e),hget X.hp a=some (.sl false ver none sz e true xs)
theorem own_own (hob:Obs X) {b:Nat} {a:AV} (h:VR X (.own b) a) {ver:Nat} {tmp:Option Nat} {sz:Nat} {e:Kd} {xs:List e.den} (hb:hget X.hp b=some (.sl false ver tmp sz e true xs)) :
  Rep true X.H (.sl sz e) xs a (X.L b):=by
 obtain ⟨h1,rfl,h3⟩:=h
 obtain ⟨k0,k1,k2⟩:=hob b _ hb
 rcases k2 with ⟨e1,e2,e3⟩ | ⟨o,g,n,off,len,ob,L',e1,e2,e3,e4,e5,e6,e7,e8,e9,e10,e11⟩
 ·exact .inl ⟨e1,e2,e3⟩
 ·exact .inr (.inr ⟨o,g,n,off,len,ob,L',e1,e2,e3,e4,e5,e6,e8,by rw [e10]; rfl,(fun _=>⟨e7 rfl,fun x hx=>⟨(e9 x hx).1,(e9 x hx).2.1,(e9 x hx).2.2 rfl⟩,e11.2 rfl⟩),k0⟩)
theorem RepL.flat0 {own:Bool} {H:Heap} {e:Kd} (hf:e.flat=true):∀ {xs:List e.den} {vs:List AV} {L:List Id},RepL (Rep own H e) xs vs L→L=[]
 | [],[],_,h=>h
 | [],_ :: _,_,h=>h.elim
 | _ :: _,[],_,h=>h.elim
 | x :: xs,v :: vs,L,⟨L1,L2,h1,h2,h3⟩=>by
  obtain ⟨_,rfl⟩:=h1.flat (own':=own) (H':=H) hf
  have:=RepL.flat0 hf h2
  subst this
  exact h3
theorem win_own (hob:Obs X) {b off len:Nat} {a:AV} (h:VR X (.win b off len) a) {ver:Nat} {tmp:Option Nat} {sz:Nat} {e:Kd} {xs:List e.den} (hf:e.flat=true) (hb:hget X.hp b=some (.sl false ver tmp sz e true xs)) :
  Rep true X.H (.sl sz e) (sub xs off len) a (X.L b):=by
 obtain ⟨h1,h2⟩:=h
 obtain ⟨k0,k1,k2⟩:=hob b _ hb
 rcases k2 with ⟨e1,e2,e3⟩ | ⟨o,g,n,off0,len0,ob,L',e1,e2,e3,e4,e5,e6,e7,e8,e9,e10,e11⟩
 ·rcases h2 with ⟨_,rfl,rfl,rfl⟩ | ⟨o,g,n,off0,len0,q,_⟩
  ·exact .inl ⟨rfl,by rw [e2,sub_def]; rfl,e3⟩
  ·rw [e1] at q; cases q
 ·rcases h2 with ⟨q,_⟩ | ⟨o',g',n',off0',len0',q,q2,rfl⟩
  ·rw [e1] at q; cases q
  ·rw [e1] at q
   obtain ⟨rfl,rfl,rfl,rfl,rfl⟩:=q
   have hL':=RepL.flat0 hf e8
   subst hL'
   obtain ⟨M,m1,m2⟩:=e8.sub off len
   have hM:=RepL.flat0 hf m1
   subst hM
   refine .inr (.inr ⟨o,g,n,off0 + off,len,ob,[],rfl,e2,e3,e4,by omega,e6,?_,by rw [e10]; rfl,(fun _=>⟨e7 rfl,fun x hx=>⟨(e9 x hx).1,(e9 x hx).2.1,(e9 x hx).2.2 rfl⟩,fun x hx=>fineV_mono (fun p hp=>by cases hp) x ((e9 x (outW_mem hx)).2.2 rfl)⟩),k0⟩)
   rw [take_drop_sub _ _ _ _ _ q2,sub_def]
   exact m1
theorem ownLeaf_rel (hob:Obs X) {t:Kd} {v:PV} {a:AV} {x:t.den} {ns:List Nat} (hs:t.isS=false) (h:VR X v a) (hx:ownLeaf X.hp t v=some (x,ns)) :
  Rep true X.H t x a (idsN X.L ns)∧OwnN X ns:=by
 have leaf:∀ (t:Kd) (x:t.den),t.flat=true→plainL X.hp t v=some (x,ns)→Rep true X.H t x a (idsN X.L ns)∧OwnN X ns:=by
  intro t x hf h2
  unfold plainL at h2
  split at h2
  ·rename_i y hy
   cases h2
   obtain ⟨Li,k1,_⟩:=asLeaf_rel hob h hy
   obtain ⟨k2,rfl⟩:=k1.flat (own':=true) (H':=X.H) hf
   exact ⟨k2,fun a ha=>by cases ha⟩
  ·cases h2
 cases t with
 | st=>simp [Kd.isS] at hs
 | int=>exact leaf _ _ rfl hx
 | bool=>exact leaf _ _ rfl hx
 | str=>exact leaf _ _ rfl hx
 | sl sz e=>
  simp only [ownLeaf] at hx
  cases v with
  | nils=>
   obtain rfl:a = .nils:=h
   simp only [ownSl] at hx
   cases hx
   exact ⟨.inl ⟨rfl,rfl,rfl⟩,fun a ha=>by cases ha⟩
  | own b=>
   simp only [ownSl] at hx
   split at hx
   ·rename_i ver sz' e' xs hb
    split at hx
    ·rename_i y hy
     cases hx
     refine ⟨?_,fun c hc=>?_⟩
     ·have:=cast_rep hy (own_own hob h hb)
      simpa [idsN] using this
     ·obtain rfl:c=b:=by simpa using hc
      exact ⟨ver,sz',e',xs,hb⟩
    ·cases hx
   ·cases hx
  | win b off len=>
   simp only [ownSl] at hx
   split at hx
   ·rename_i ver sz' e' xs hb
    split at hx
    ·rename_i y hfl hy
     cases hx
     refine ⟨?_,fun c hc=>?_⟩
     ·have:=cast_rep hy (win_own hob h hfl hb)
      simpa [idsN] using this
     ·obtain rfl:c=b:=by simpa using hc
      exact ⟨ver,sz',e',xs,hb⟩
    ·cases hx
   ·cases hx
  | _=>simp only [ownSl] at hx; cases hx
theorem OwnN.app {a b:List Nat} (h:OwnN X a) (k:OwnN X b):OwnN X (a++b):=by
 intro x hx
 rcases List.mem_append.1 hx with hx | hx
 ·exact h x hx
 ·exact k x hx
theorem ownLeafs_rel (hob:Obs X):∀ (fs:List Kd) (vs:List PV) (as:List AV) (x:Kd.dens fs) (ns:List Nat),VRs X vs as→ownLeafs X.hp fs vs=some (x,ns)→Reps true X.H fs x as (idsN X.L ns)∧OwnN X ns
 | [],[],[],x,ns,_,h=>by simp only [ownLeafs] at h; cases h; exact ⟨rfl,fun a ha=>by cases ha⟩
 | [],_ :: _,_,x,_,_,h=>by simp [ownLeafs] at h
 | [],[],_ :: _,x,_,h,_=>h.elim
 | t :: r,[],_,x,_,_,h=>by simp [ownLeafs] at h
 | t :: r,v :: q,[],x,_,h,_=>h.elim
 | t :: r,v :: q,a :: as,x,ns,⟨h1,h2⟩,h=>by
  simp only [ownLeafs] at h
  split at h
  ·rename_i x1 n1 x2 n2 e1 e2 e3
   cases h
   obtain ⟨k1,k2⟩:=ownLeaf_rel hob e1 h1 e2
   obtain ⟨k3,k4⟩:=ownLeafs_rel hob r q as _ _ h2 e3
   exact ⟨⟨e1,_,_,k1,k3,idsN_app⟩,k2.app k4⟩
  ·cases h
theorem asOwn_rel (hob:Obs X) {t:Kd} {v:PV} {a:AV} {x:t.den} {ns:List Nat} (h:VR X v a) (hx:asOwn X.hp t v=some (x,ns)) :
  Rep true X.H t x a (idsN X.L ns)∧OwnN X ns:=by
 cases t with
 | st fs=>
  simp only [asOwn] at hx
  split at hx
  ·rename_i hag
   have hk:v.known=true:=by cases v <;> first | rfl | cases hag
   obtain ⟨h1,h2⟩:=cells_rel v a hk h
   obtain ⟨k1,k2⟩:=ownLeafs_rel hob fs v.cells a.cells x ns h1 hx
   exact ⟨⟨by rw [← h2]; exact hag,k1⟩,k2⟩
  ·cases hx
 | int k=>exact ownLeaf_rel hob rfl h hx
 | bool=>exact ownLeaf_rel hob rfl h hx
 | str=>exact ownLeaf_rel hob rfl h hx
 | sl sz e=>exact ownLeaf_rel hob rfl h hx
end
end Go.Am
/- The machine on typed data against the small machine: how a state may change. -/
namespace Go.Am
def NewI (d nx:Nat) (tm:Option Nat) (i:Id):Prop:=(∃ k,i = .dy k∧nx≤k)∨∃ t,i = .st d t∧tm=some t
theorem Grow.of {X Y:Vw} {tm:Option Nat} (hd:Y.d=X.d) (hlen:X.hp.length≤Y.hp.length) (hmu:∀ a,a < X.hp.length→Y.μ a=X.μ a) (hob:∀ a,a < X.hp.length→laterO (hget X.hp a) (hget Y.hp a))
  (hnx:X.nx≤Y.nx) (hH:∀ i,¬ X.top i→¬ NewI X.d X.nx tm i→Y.H i=X.H i) (htop:∀ i,Y.top i→X.top i∨NewI X.d X.nx tm i):Grow X Y tm:=by
 have new_imm:∀ i,X.Imm i→¬ NewI X.d X.nx tm i:=by
  rintro i ⟨_,h2⟩ (⟨k,rfl,h3⟩ | ⟨t,rfl,_⟩)
  ·have:k < X.nx:=h2
   omega
  ·have:X.d < X.d:=h2
   omega
 have new_ki:∀ t o,tm≠some t→X.KI t o→¬ NewI X.d X.nx tm o:=by
  rintro t o hne ⟨rfl,_⟩ (⟨k,h,_⟩ | ⟨t',h,h3⟩)
  ·cases h
  ·injection h with _ h; subst h; exact hne h3
 refine ⟨hd,hlen,hmu,hob,fun i hi=>⟨hH i hi.1 (new_imm i hi),?_,?_⟩,fun t o hne ho=>⟨hH o ho.2 (new_ki t o hne ho),?_,?_⟩⟩
 ·intro ht
  rcases htop i ht with h | h
  ·exact hi.1 h
  ·exact new_imm i hi h
 ·have h2:=hi.2
  cases i with
  | dy k=>exact Nat.lt_of_lt_of_le h2 hnx
  | st d' t=>rw [hd]; exact h2
  | ex=>exact h2
 ·rw [hd]; exact ho.1
 ·intro ht
  rcases htop o ht with h | h
  ·exact ho.2 h
  ·exact new_ki t o hne ho h
theorem ageI_mono {d nx nx':Nat} {tmp:Option Nat} {i:Id} (h:nx≤nx') (ha:ageI d nx tmp i):ageI d nx' tmp i:=by
 cases i with
 | dy k=>exact Nat.lt_of_lt_of_le ha h
 | st=>exact ha
 | ex=>exact ha
theorem hasKp_ok {t:Nat}:∀ {v:PV},cellOK v=true→hasKp t v=false:=by
 have leafs:∀ (cs:List PV),cs.all cellLeaf=true→hasKps t cs=false:=by
  intro cs
  induction cs with
  | nil=>intro _; rfl
  | cons x r ih=>
   intro h
   simp only [List.all_cons,Bool.and_eq_true] at h
   simp only [hasKps,ih h.2,Bool.or_false]
   cases x <;> first | rfl | simp [cellLeaf] at h
 intro v h
 cases v with
 | agg cs=>
  simp only [cellOK,Bool.and_eq_true] at h
  exact leafs cs h.1
 | _=>first | rfl | (simp [cellOK,cellLeaf] at h; done)
theorem ObR.mono {X Y:Vw} {tm:Option Nat} (g:Grow X Y tm) {a:Nat} {ob:PObj} (ha:a < X.hp.length) (hL:Y.L a=X.L a) (hH:∀ i∈X.L a,Y.H i=X.H i) (h:ObR X a ob):ObR Y a ob:=by
 cases ob with
 | sl ro ver tmp sz e dp xs=>
  obtain ⟨h1,h2,h3⟩:=h
  refine ⟨h1,h2,?_⟩
  rcases h3 with ⟨e1,e2,e3⟩ | ⟨o,gg,n,off,len,b,L',e1,e2,e3,e4,e5,e6,e7,e8,e9,e10,e11⟩
  ·exact .inl ⟨(g.mu a ha).trans e1,e2,hL.trans e3⟩
  ·refine .inr ⟨o,gg,n,off,len,b,L',(g.mu a ha).trans e1,(hH o (by rw [e10]; simp)).trans e2,e3,e4,e5,e6,e7,?_,e9,hL.trans e10,fun q i hi=>(g.imm i (e11.1 q i hi)).2,e11.2⟩
   refine RepL.frame (fun i hi=>?_) e8
   cases dp with
   | true=>exact hH i (by rw [e10]; simp [hi])
   | false=>exact (g.imm i (e11.1 rfl i hi)).1
 | cell ro tmp v=>
  obtain ⟨o,gg,b,w,e1,e2,e3,e4,e5,e6,e7,e8,e9,e10,e11⟩:=h
  exact ⟨o,gg,b,w,(g.mu a ha).trans e1,(hH o (by rw [e9]; simp)).trans e2,e3,e4,e5,e6,e7,e8,hL.trans e9,VR.mono g v w (fun t _=>hasKp_ok e11) e10,e11⟩
section
variable {d:Nat} {anV:List AV} {P0:Id→Prop} {H0:Heap} {ps:PS} {μ:Nat→AV} {L:Nat→List Id} {E:AEnv} {H:Heap} {nx:Nat}
theorem Rel.obs (R:Rel d anV P0 H0 ps μ L E H nx):Obs ⟨d,ps.heap,μ,L,H,nx⟩:=R.ob
theorem Rel.pev (R:Rel d anV P0 H0 ps μ L E H nx) (x:Opd):VR ⟨d,ps.heap,μ,L,H,nx⟩ (pev ps x) (ev E x):=by
 cases x with
 | t n=>exact R.env n
 | k v=>exact constA_rel v
theorem Rel.pevs (R:Rel d anV P0 H0 ps μ L E H nx):∀ (l:List Opd),VRs ⟨d,ps.heap,μ,L,H,nx⟩ (l.map (Go.Am.pev ps)) (l.map (ev E))
 | []=>trivial
 | x :: r=>⟨R.pev x,R.pevs r⟩
theorem Rel.put (R:Rel d anV P0 H0 ps μ L E H nx) {dst:Option Nat} {v:PV} {av:AV} (h:dst≠none→VR ⟨d,ps.heap,μ,L,H,nx⟩ v av):Rel d anV P0 H0 (ps.put dst v) μ L (updO E dst av) H nx:=by
 cases dst with
 | none=>exact R
 | some t=>
  refine ⟨fun u=>?_,R.anc,R.ank,R.ob,R.dis,R.nd,R.age,R.tl,R.st,R.fresh,R.p0,R.p1,R.p2⟩
  simp only [PS.put,updO,upd,look_cons]
  by_cases hu:t=u
  ·subst hu; rw [if_pos rfl,if_pos rfl]; exact h (by simp)
  ·rw [if_neg hu,if_neg (Ne.symm hu)]; exact R.env u
theorem Rel.setEnv (R:Rel d anV P0 H0 ps μ L E H nx) {env:List (Nat×PV)} (h:∀ t,VR ⟨d,ps.heap,μ,L,H,nx⟩ (look env t) (E t)):Rel d anV P0 H0 { ps with env:=env } μ L E H nx:=
 ⟨h,R.anc,R.ank,R.ob,R.dis,R.nd,R.age,R.tl,R.st,R.fresh,R.p0,R.p1,R.p2⟩
theorem look_kill (t:Nat):∀ (e:List (Nat×PV)) (u:Nat),look (killE t e) u = .undef∨(look (killE t e) u=look e u∧hasKp t (look e u)=false)
 | [],u=>.inl rfl
 | (w,v) :: r,u=>by
  simp only [killE,look_cons]
  by_cases h:w=u
  ·rw [if_pos h,if_pos h]
   cases hk:hasKp t v with
   | true=>exact .inl rfl
   | false=>exact .inr ⟨rfl,rfl⟩
  ·rw [if_neg h,if_neg h]; exact look_kill t r u
theorem Rel.next (R:Rel d anV P0 H0 ps μ L E H nx) {tm:Option Nat} {env':List (Nat×PV)} {hp':List (Option PObj)} {μ':Nat→AV} {L':Nat→List Id} {H':Heap} {nx':Nat} (Ch:Nat→Prop)
  (g:Grow ⟨d,ps.heap,μ,L,H,nx⟩ ⟨d,hp',μ',L',H',nx'⟩ tm)
  (henv:∀ u,look env' u = .undef∨(look env' u=look ps.env u∧∀ t,tm=some t→hasKp t (look ps.env u)=false))
  (hob:∀ a ob,hget hp' a=some ob→¬ Ch a→hget ps.heap a=some ob∧L' a=L a∧∀ i∈L a,H' i=H i)
  (hch:∀ a ob,hget hp' a=some ob→Ch a→ObR ⟨d,hp',μ',L',H',nx'⟩ a ob∧(L' a).Nodup∧(∀ i∈L' a,ageI d nx' (tmpO ob) i)∧(roOf ob=false→∀ i∈L' a,¬ P0 i)∧(∀ i∈(L' a).tail,oldI d nx' i)∧(∀ t,tmpO ob=some t→∀ o,(L' a).head? = some o→o = .st d t) ∧
   ∀ b,b≠a→live hp' b→∀ i∈L' a,i ∉ L' b)
  (hnx:nx≤nx') (hf:∀ k,nx'≤k→H' (.dy k)=none) (hp0:∀ i,P0 i→H' i=H i):Rel d anV P0 H0 ⟨env',ps.anc,hp'⟩ μ' L' E H' nx':=by
 have liv:∀ {a:Nat},live hp' a→∃ ob,hget hp' a=some ob:=fun h=>Option.isSome_iff_exists.1 h
 refine ⟨fun u=>?_,VRs.mono g _ _ (fun t _=>R.ank t) R.anc,R.ank,?_,?_,?_,?_,?_,?_,hf,fun i hi=>(hp0 i hi).trans (R.p0 i hi),?_,fun k hk=>R.p2 k (Nat.le_trans hnx hk)⟩
 ·show VR _ (look env' u) (E u)
  rcases henv u with h | ⟨h,h2⟩
  ·rw [h]; trivial
  ·rw [h]; exact VR.mono g _ _ h2 (R.env u)
 ·intro a ob ha
  by_cases hc:Ch a
  ·exact (hch a ob ha hc).1
  ·obtain ⟨h1,h2,h3⟩:=hob a ob ha hc
   exact ObR.mono g (hget_lt h1) h2 h3 (R.ob a ob h1)
 ·intro a b hab hla hlb
  obtain ⟨oa,ha⟩:=liv hla
  obtain ⟨ob,hb⟩:=liv hlb
  by_cases hca:Ch a
  ·exact (hch a oa ha hca).2.2.2.2.2.2 b (Ne.symm hab) hlb
  ·by_cases hcb:Ch b
   ·exact fun i hi hj=>(hch b ob hb hcb).2.2.2.2.2.2 a hab hla i hj hi
   ·obtain ⟨h1,h2,_⟩:=hob a oa ha hca
    obtain ⟨k1,k2,_⟩:=hob b ob hb hcb
    show ∀ i∈L' a,i ∉ L' b
    rw [h2,k2]
    exact R.dis a b hab (by unfold live; rw [h1]; rfl) (by unfold live; rw [k1]; rfl)
 ·intro a hla
  obtain ⟨oa,ha⟩:=liv hla
  by_cases hca:Ch a
  ·exact (hch a oa ha hca).2.1
  ·obtain ⟨h1,h2,_⟩:=hob a oa ha hca
   rw [h2]; exact R.nd a (by unfold live; rw [h1]; rfl)
 ·intro a oa ha
  by_cases hca:Ch a
  ·exact (hch a oa ha hca).2.2.1
  ·obtain ⟨h1,h2,_⟩:=hob a oa ha hca
   rw [h2]; exact fun i hi=>ageI_mono hnx (R.age a oa h1 i hi)
 ·intro a hla
  obtain ⟨oa,ha⟩:=liv hla
  by_cases hca:Ch a
  ·exact (hch a oa ha hca).2.2.2.2.1
  ·obtain ⟨h1,h2,_⟩:=hob a oa ha hca
   rw [h2]
   intro i hi
   have:=R.tl a (by unfold live; rw [h1]; rfl) i hi
   cases i with
   | dy k=>exact Nat.lt_of_lt_of_le this hnx
   | st=>exact this
   | ex=>exact this
 ·intro a oa t ha ht
  by_cases hca:Ch a
  ·exact (hch a oa ha hca).2.2.2.2.2.1 t ht
  ·obtain ⟨h1,h2,_⟩:=hob a oa ha hca
   rw [h2]; exact R.st a oa t h1 ht
 ·intro a oa ha hro
  by_cases hca:Ch a
  ·exact (hch a oa ha hca).2.2.2.1 hro
  ·obtain ⟨h1,h2,_⟩:=hob a oa ha hca
   rw [h2]; exact R.p1 a oa h1 hro
theorem Rel.live_ids (R:Rel d anV P0 H0 ps μ L E H nx) {a:Nat} (ha:live ps.heap a):∀ i∈L a,∃ ob,hget ps.heap a=some ob∧ageI d nx (tmpO ob) i:=by
 obtain ⟨ob,h⟩:=Option.isSome_iff_exists.1 ha
 exact fun i hi=>⟨ob,h,R.age a ob h i hi⟩
theorem delN_length:∀ {ns:List Nat} {hp:List (Option PObj)},(delN hp ns).length=hp.length
 | [],hp=>rfl
 | a :: r,hp=>by simp only [delN]; rw [delN_length,hset_length]
theorem hget_delN:∀ {ns:List Nat} {hp:List (Option PObj)} {a:Nat},hget (delN hp ns) a=if a∈ns then none else hget hp a
 | [],hp,a=>by simp [delN]
 | b :: r,hp,a=>by
  simp only [delN]
  rw [hget_delN,hget_hset]
  by_cases h1:a∈r
  ·simp [h1]
  ·rw [if_neg h1]
   by_cases h2:a=b
   ·subst h2
    simp only [List.mem_cons,true_or,if_true,true_and]
    split
    ·rfl
    ·rename_i h; exact hget_ge (by omega)
   ·rw [if_neg (fun e=>h2 e.1)]; simp [h1,h2]
theorem hget_map {f:Option PObj→Option PObj} (hf:f none=none):∀ {hp:List (Option PObj)} {a:Nat},hget (hp.map f) a=f (hget hp a):=by
 intro hp
 induction hp with
 | nil=>intro a; simp [hget,hf]
 | cons o r ih=>
  intro a
  cases a with
  | zero=>rfl
  | succ a=>exact ih
theorem delT_length {t:Nat} {hp:List (Option PObj)}:(delT t hp).length=hp.length:=by simp [delT]
theorem hget_delT {t:Nat} {hp:List (Option PObj)} {a:Nat} {ob:PObj}:hget (delT t hp) a=some ob↔hget hp a=some ob∧tmpO ob≠some t:=by
 unfold delT
 rw [hget_map rfl]
 cases hget hp a with
 | none=>simp [delO]
 | some o=>
  simp only [delO]
  cases ht:tmpO o with
  | none=>
   simp only [Option.some.injEq]
   constructor
   ·rintro rfl; exact ⟨rfl,by rw [ht]; simp⟩
   ·rintro ⟨h',_⟩; exact h'
  | some u=>
   simp only
   by_cases h:u=t
   ·subst h
    simp only [Nat.beq_eq_true_eq,Nat.beq_refl]
    constructor
    ·intro h; cases h
    ·rintro ⟨h',h⟩
     cases Option.some.inj h'
     exact (h ht).elim
   ·have:Nat.beq u t=false:=by
     cases hb:Nat.beq u t with
     | true=>exact (h (Nat.eq_of_beq_eq_true hb)).elim
     | false=>rfl
    rw [this]
    simp only [Option.some.injEq]
    constructor
    ·rintro rfl; exact ⟨rfl,by rw [ht]; simpa using h⟩
    ·rintro ⟨h',_⟩; exact h'
theorem look_killTo (tm:Option Nat) (e:List (Nat×PV)) (u:Nat):look (killTo tm e) u = .undef∨(look (killTo tm e) u=look e u∧∀ t,tm=some t→hasKp t (look e u)=false):=by
 cases tm with
 | none=>exact .inr ⟨rfl,fun t h=>by cases h⟩
 | some t=>exact (look_kill t e u).imp id fun h=>⟨h.1,fun t' h'=>by cases h'; exact h.2⟩
theorem delTo_length {tm:Option Nat} {hp:List (Option PObj)}:(delTo tm hp).length=hp.length:=by cases tm <;> simp [delTo,delT_length]
theorem hget_delTo {tm:Option Nat} {hp:List (Option PObj)} {a:Nat} {ob:PObj}:hget (delTo tm hp) a=some ob↔hget hp a=some ob∧∀ t,tm=some t→tmpO ob≠some t:=by
 cases tm with
 | none=>simp [delTo]
 | some t=>simp [delTo,hget_delT]
end
end Go.Am
/- The machine on typed data against the small machine: operations that touch no memory. -/
namespace Go.Am
section
variable {X:Vw}
theorem intP_rel {v:PV} {a:AV} {k:IntKind} {n:Int} (h:intP v=some (k,n)) (hr:VR X v a):a = .c (.s (.int k n)):=by
 cases v with
 | d p t x=>
  cases t with
  | int k'=>
   cases h
   obtain ⟨Li,h1,_⟩:=hr
   exact h1.1
  | _=>cases h
 | _=>cases h
theorem boolP_rel {v:PV} {a:AV} {b:Bool} (h:boolP v=some b) (hr:VR X v a):a = .c (.s (.bool b)):=by
 cases v with
 | d p t x=>
  cases t with
  | bool=>
   cases h
   obtain ⟨Li,h1,_⟩:=hr
   exact h1.1
  | _=>cases h
 | _=>cases h
theorem bytP_rel {v:PV} {a:AV} {s:List UInt8} (h:bytP v=some s) (hr:VR X v a):a = .c (.s (.string ⟨s.toArray⟩)):=by
 cases v with
 | d p t x=>
  cases t with
  | str=>
   cases h
   obtain ⟨Li,h1,_⟩:=hr
   exact h1.1
  | _=>cases h
 | _=>cases h
theorem vr_int {p:Bool} {k:IntKind} {n:Int}:VR X (.d p (.int k) n) (.c (.s (.int k n))):=⟨[],⟨rfl,rfl⟩,fun _=>rfl,fun i hi=>by cases hi⟩
theorem vr_bool {p:Bool} {b:Bool}:VR X (.d p .bool b) (.c (.s (.bool b))):=⟨[],⟨rfl,rfl⟩,fun _=>rfl,fun i hi=>by cases hi⟩
theorem vr_str {p:Bool} {s:List UInt8}:VR X (.d p .str s) (.c (.s (.string ⟨s.toArray⟩))):=⟨[],⟨rfl,rfl⟩,fun _=>rfl,fun i hi=>by cases hi⟩
end
theorem size_mk (l:List UInt8):(⟨l.toArray⟩:ByteArray).size=l.length:=by simp [ByteArray.size]
theorem toList_mk (l:List UInt8):(⟨l.toArray⟩:ByteArray).toList=l:=by rw [ByteArray.toList_eq]
theorem append_mk (a b:List UInt8):(⟨a.toArray⟩:ByteArray)++(⟨b.toArray⟩:ByteArray)=⟨(a++b).toArray⟩:=by
 apply ByteArray.ext; simp
theorem extract_mk (a:List UInt8) (i j:Nat):(⟨a.toArray⟩:ByteArray).extract i j=⟨((a.drop i).take (j - i)).toArray⟩:=by
 apply ByteArray.ext
 simp [ByteArray.data_extract,List.extract_eq_take_drop]
theorem get_mk (a:List UInt8) (i:Nat):(⟨a.toArray⟩:ByteArray)[i]? = a[i]?:=by
 by_cases h:i < a.length
 ·rw [getElem?_pos _ _ (by simpa [ByteArray.size] using h)]
  simp [h,ByteArray.getElem_eq_getElem_data]
 ·rw [getElem?_neg _ _ (by simpa [ByteArray.size] using h)]
  simp at h
  simp [h]
theorem guardK_some {ρ:Type} {c:Bool} {k:Option ρ} {r:ρ} (h:guardK c k=some r):c=true∧k=some r:=by
 rw [guardK_def] at h
 cases c with
 | true=>exact ⟨rfl,h⟩
 | false=>cases h
theorem idxK_some {α ρ:Type} {xs:List α} {i:Int} {k:α→Option ρ} {r:ρ} (h:idxK xs i k=some r):0≤i∧∃ x,xs[i.toNat]? = some x∧k x=some r:=by
 rw [idxK_def] at h
 split at h
 ·rename_i h0
  split at h
  ·rename_i x hx; exact ⟨h0,x,hx,h⟩
  ·cases h
 ·cases h
theorem bndK_some {ρ:Type} {len:Nat} {l h:Int} {k:Nat→Nat→Option ρ} {r:ρ} (e:bndK len l h k=some r):0≤l∧l≤h∧h≤len∧k l.toNat (h - l).toNat=some r:=by
 rw [bndK_def] at e
 split at e
 ·rename_i h0; exact ⟨h0.1,h0.2.1,h0.2.2,e⟩
 ·cases e
section
variable {T:Tab} {Rn:Run} {d:Nat} {anV:List AV} {P0:Id→Prop} {H0:Heap} {ps:PS} {μ:Nat→AV} {L:Nat→List Id} {E:AEnv} {H:Heap} {nx:Nat} {dst:Option Nat} {hn:Hints} {pm:List Nat} {ρ:Type} {r:ρ} {k:PV→PS→Option ρ}
def PureOK (T:Tab) (Rn:Run) (d:Nat) (dst:Option Nat) (E:AEnv) (ps:PS) (μ:Nat→AV) (L:Nat→List Id) (H:Heap) (nx:Nat) {ρ:Type} (k:PV→PS→Option ρ) (r:ρ) (o:AOp):Prop:=
 ∃ v av,k v ps=some r∧operV T Rn (8 * d) dst E H nx o=some (av,H,nx)∧VR ⟨d,ps.heap,μ,L,H,nx⟩ v av
theorem binI_ok {op:BinOp} {kd kd':IntKind} {a b:Int} {kk:PV→Option ρ} (hk:kd=kd'∨isShift op=true) (h:binI op kd a b kk=some r) :
  ∃ v x,kk v=some r∧binV op (.int kd a) (.int kd' b)=some x∧∀ X:Vw,VR X v (.c (.s x)):=by
 cases op
 case shl | shr=>
  simp only [binI,iAdd_def,iSub_def,iMul_def,iQuo_def,iRem_def,iAnd_def,iOr_def,iXor_def,iAndNot_def,iShl_def,iShr_def,iEq_def,iNe_def,iLt_def,iLe_def,iGt_def,iGe_def,gNn_def,gNz_def] at h
  obtain ⟨h1,h2⟩:=guardK_some h
  have hb:¬ b < 0:=by simpa using h1
  exact ⟨_,_,h2,by simp only [binV,shiftV,hb,if_false] <;> rfl,fun X=>vr_int⟩
 case quo | rem=>
  simp only [binI,iAdd_def,iSub_def,iMul_def,iQuo_def,iRem_def,iAnd_def,iOr_def,iXor_def,iAndNot_def,iShl_def,iShr_def,iEq_def,iNe_def,iLt_def,iLe_def,iGt_def,iGe_def,gNn_def,gNz_def] at h
  obtain ⟨h1,h2⟩:=guardK_some h
  have hb:b≠0:=by simpa using h1
  obtain rfl:kd=kd':=hk.resolve_right (by simp [isShift])
  exact ⟨_,_,h2,by simp only [binV,intV,hb,if_false,if_true] <;> rfl,fun X=>vr_int⟩
 case add | sub | mul | and | or | xor | andNot=>
  simp only [binI,iAdd_def,iSub_def,iMul_def,iQuo_def,iRem_def,iAnd_def,iOr_def,iXor_def,iAndNot_def,iShl_def,iShr_def,iEq_def,iNe_def,iLt_def,iLe_def,iGt_def,iGe_def,gNn_def,gNz_def] at h
  obtain rfl:kd=kd':=hk.resolve_right (by simp [isShift])
  exact ⟨_,_,h,by simp only [binV,intV,if_true] <;> rfl,fun X=>vr_int⟩
 case eql | neq | lss | leq | gtr | geq=>
  simp only [binI,iAdd_def,iSub_def,iMul_def,iQuo_def,iRem_def,iAnd_def,iOr_def,iXor_def,iAndNot_def,iShl_def,iShr_def,iEq_def,iNe_def,iLt_def,iLe_def,iGt_def,iGe_def,gNn_def,gNz_def] at h
  obtain rfl:kd=kd':=hk.resolve_right (by simp [isShift])
  exact ⟨_,_,h,by simp only [binV,intV,if_true] <;> rfl,fun X=>vr_bool⟩
 all_goals first | (simp only [binI,iAdd_def,iSub_def,iMul_def,iQuo_def,iRem_def,iAnd_def,iOr_def,iXor_def,iAndNot_def,iShl_def,iShr_def,iEq_def,iNe_def,iLt_def,iLe_def,iGt_def,iGe_def,gNn_def,gNz_def] at h; cases h; done) | skip
theorem binS_ok {op:BinOp} {a b:List UInt8} {kk:PV→Option ρ} (h:binS' op a b kk=some r) :
  ∃ v x,kk v=some r∧binV op (.string ⟨a.toArray⟩) (.string ⟨b.toArray⟩)=some x∧∀ X:Vw,VR X v (.c (.s x)):=by
 cases op
 case add=>
  simp only [binS',strEq_def,strLess_def,bNot_def,bOr_def,cat_def,gCat_def] at h
  obtain ⟨h1,h2⟩:=guardK_some h
  have hb:a.length + b.length≤140737488355328:=by simpa using h1
  refine ⟨_,_,h2,?_,fun X=>vr_str (s:=a++b)⟩
  simp only [binV,strV,size_mk,hb,if_true,append_mk]
 case eql | neq | lss | leq | gtr | geq=>
  simp only [binS',strEq_def,strLess_def,bNot_def,bOr_def,cat_def,gCat_def] at h
  refine ⟨_,_,h,?_,fun X=>vr_bool⟩
  simp only [binV,strV,cmpV,toList_mk] <;> rfl
 all_goals first | (simp only [binS',strEq_def,strLess_def,bNot_def,bOr_def,cat_def,gCat_def] at h; cases h; done) | skip
theorem castK_heq {t t':Kd} {x:t.den} {y:t'.den} (h:castK t t' x=some y):t=t'∧HEq x y:=by
 obtain ⟨rfl,rfl⟩:=castK_eq h; exact ⟨rfl,HEq.rfl⟩
theorem vr_pick {X:Vw} {p q:Bool} {t:Kd} {x y:t.den} {a b:AV} {c:Bool} (h1:VR X (.d p t x) a) (h2:VR X (.d q t y) b):VR X (.d (p && q) t (bif c then x else y)) (if c=true then a else b):=by
 cases c with
 | true=>
  obtain ⟨Li,k1,k2,k3⟩:=h1
  exact ⟨Li,k1,fun h=>k2 (h.imp (fun h=>by simp at h; exact h.1) id),k3⟩
 | false=>
  obtain ⟨Li,k1,k2,k3⟩:=h2
  exact ⟨Li,k1,fun h=>k2 (h.imp (fun h=>by simp at h; exact h.2) id),k3⟩
variable (R:Rel d anV P0 H0 ps μ L E H nx)
include R
theorem ok_mov {x:Opd} (h:opP hn pm dst ps (.mov x) k=some r):PureOK T Rn d dst E ps μ L H nx k r (.mov x):=
 ⟨_,_,h,rfl,R.pev x⟩
theorem ok_pick {c a b:Opd} (h:opP hn pm dst ps (.pick c a b) k=some r):PureOK T Rn d dst E ps μ L H nx k r (.pick c a b):=by
 simp only [opP] at h
 split at h
 ·rename_i t p tx x q ty y hc ha hb
  split at h
  ·rename_i y' hy
   have h1:=boolP_rel hc (R.pev c)
   have h2:=R.pev a
   have h3:=R.pev b
   rw [ha] at h2
   rw [hb] at h3
   obtain ⟨rfl,rfl⟩:=castK_eq hy
   exact ⟨_,_,h,by simp only [operV,h1],vr_pick h2 h3⟩
  ·cases h
 ·cases h
theorem ok_nilc {x:Opd} (h:opP hn pm dst ps (.nilc x) k=some r):PureOK T Rn d dst E ps μ L H nx k r (.nilc x):=by
 simp only [opP] at h
 have h1:=R.pev x
 split at h
 ·rename_i a f hx
  rw [hx] at h1
  have h1':=h1
  obtain ⟨_,o,g,_,h3⟩:=h1
  exact ⟨_,ev E x,h,by simp only [operV,h3],h1'⟩
 ·rename_i a v i f e x' hx
  rw [hx] at h1
  have h1':=h1
  obtain ⟨_,o,g,n,off0,len0,_,_,h3,_⟩:=h1
  exact ⟨_,ev E x,h,by simp only [operV,h3],h1'⟩
 ·rename_i p e x' f hx
  rw [hx] at h1
  have h1':=h1
  rcases h1 with ⟨y,h3,_⟩ | ⟨_,o,g,n,j,b,w,Li,h3,_⟩
  ·exact ⟨_,ev E x,h,by simp only [operV,h3],h1'⟩
  ·exact ⟨_,ev E x,h,by simp only [operV,h3],h1'⟩
 ·rename_i t v f hx
  rw [hx] at h1
  have h1':=h1
  obtain ⟨_,_,o,g,b,w,_,h3,_⟩:=h1
  exact ⟨_,ev E x,h,by simp only [operV,h3],h1'⟩
 ·rename_i f l hx
  rw [hx] at h1
  have h1':=h1
  obtain ⟨vs,h3,_⟩:=h1
  exact ⟨_,ev E x,h,by simp only [operV,h3],h1'⟩
 ·cases h
theorem ok_bin {op:BinOp} {x y:Opd} (h:opP hn pm dst ps (.bin op x y) k=some r):PureOK T Rn d dst E ps μ L H nx k r (.bin op x y):=by
 simp only [opP] at h
 have h1:=R.pev x
 have h2:=R.pev y
 split at h
 ·rename_i kd a kd' b hx hy
  have e1:=intP_rel hx h1
  have e2:=intP_rel hy h2
  split at h
  ·rename_i hk
   obtain ⟨v,z,k1,k2,k3⟩:=binI_ok hk h
   exact ⟨v,_,k1,by simp only [operV,e1,e2,k2],k3 _⟩
  ·cases h
 ·split at h
  ·rename_i a b hx hy
   have e1:=bytP_rel hx h1
   have e2:=bytP_rel hy h2
   obtain ⟨v,z,k1,k2,k3⟩:=binS_ok h
   exact ⟨v,_,k1,by simp only [operV,e1,e2,k2],k3 _⟩
  ·cases h
theorem ok_binB {op:BinOp} {x y:Opd} (h:opP hn pm dst ps (.binB op x y) k=some r):PureOK T Rn d dst E ps μ L H nx k r (.binB op x y):=by
 simp only [opP,bEq_def,bNe_def] at h
 split at h
 ·rename_i a b hx hy
  have e1:=boolP_rel hx (R.pev x)
  have e2:=boolP_rel hy (R.pev y)
  split at h
  ·exact ⟨_,_,h,by simp only [operV,e1,e2]; rfl,vr_bool⟩
  ·exact ⟨_,_,h,by simp only [operV,e1,e2]; rfl,vr_bool⟩
  ·cases h
 ·cases h
theorem ok_un {op:UnOp} {x:Opd} (h:opP hn pm dst ps (.un op x) k=some r):PureOK T Rn d dst E ps μ L H nx k r (.un op x):=by
 simp only [opP,bNot_def,iSub_def] at h
 split at h
 ·split at h
  ·rename_i b hx
   have e1:=boolP_rel hx (R.pev x)
   exact ⟨_,_,h,by simp only [operV,e1,unV] <;> rfl,vr_bool⟩
  ·cases h
 ·split at h
  ·rename_i kd n hx
   have e1:=intP_rel hx (R.pev x)
   exact ⟨_,_,h,by simp only [operV,e1,unV] <;> rfl,vr_int⟩
  ·cases h
 ·cases h
theorem ok_conv {kd:IntKind} {x:Opd} (h:opP hn pm dst ps (.conv kd x) k=some r):PureOK T Rn d dst E ps μ L H nx k r (.conv kd x):=by
 simp only [opP,iConv_def] at h
 split at h
 ·rename_i k' n hx
  have e1:=intP_rel hx (R.pev x)
  exact ⟨_,_,h,by simp only [operV,e1] <;> rfl,vr_int⟩
 ·cases h
theorem ok_same {x:Opd} (h:opP hn pm dst ps (.same x) k=some r):PureOK T Rn d dst E ps μ L H nx k r (.same x):=by
 simp only [opP] at h
 split at h
 ·rename_i s hx
  have e1:=bytP_rel hx (R.pev x)
  exact ⟨_,_,h,by simp only [operV,e1,AV.isStr,if_true],vr_str⟩
 ·cases h
theorem ok_mkfn {f:Nat} {l:List Opd} (h:opP hn pm dst ps (.mkfn f l) k=some r):PureOK T Rn d dst E ps μ L H nx k r (.mkfn f l):=
 ⟨_,_,h,rfl,_,rfl,R.pevs l⟩
theorem ok_index {x i:Opd} (h:opP hn pm dst ps (.index x i) k=some r):PureOK T Rn d dst E ps μ L H nx k r (.index x i):=by
 simp only [opP,byteI_def] at h
 split at h
 ·rename_i s ki j hx hi
  have e1:=bytP_rel hx (R.pev x)
  have e2:=intP_rel hi (R.pev i)
  obtain ⟨h0,b,hb,hk⟩:=idxK_some h
  exact ⟨_,_,hk,by simp only [operV,e1,e2,intOfV,h0,if_true,get_mk,hb] <;> rfl,vr_int⟩
 ·cases h
theorem ok_faddr {x:Opd} {off:Nat} (h:opP hn pm dst ps (.faddr x off) k=some r):PureOK T Rn d dst E ps μ L H nx k r (.faddr x off):=by
 simp only [opP] at h
 have h1:=R.pev x
 split at h
 ·rename_i a f hx
  rw [hx] at h1
  obtain ⟨h0,o,g,h2,h3⟩:=h1
  exact ⟨_,_,h,by simp only [operV,h3],h0,o,g,h2,rfl⟩
 ·rename_i a v i f e x hx
  rw [hx] at h1
  obtain ⟨h0,o,g,n,off0,len0,h2,h4,h3,h5⟩:=h1
  exact ⟨_,_,h,by simp only [operV,h3],h0,o,g,n,off0,len0,h2,h4,rfl,h5⟩
 ·rename_i p e x f hx
  rw [hx] at h1
  rcases h1 with ⟨y,h3,h4⟩ | ⟨h0,o,g,n,j,b,w,Li,h3,h4⟩
  ·exact ⟨_,_,h,by simp only [operV,h3],.inl ⟨y,rfl,h4⟩⟩
  ·exact ⟨_,_,h,by simp only [operV,h3],.inr ⟨h0,o,g,n,j,b,w,Li,rfl,h4⟩⟩
 ·rename_i t v f hx
  rw [hx] at h1
  obtain ⟨h0,h0',o,g,b,w,h2,h3,h4⟩:=h1
  exact ⟨_,_,h,by simp only [operV,h3],h0,h0',o,g,b,w,h2,rfl,h4⟩
 ·cases h
theorem ok_extract {x:Opd} {i:Nat} (h:opP hn pm dst ps (.extract x i) k=some r):PureOK T Rn d dst E ps μ L H nx k r (.extract x i):=by
 simp only [opP] at h
 have h1:=R.pev x
 split at h
 ·rename_i l hx
  rw [hx] at h1
  obtain ⟨vs,h2,h3⟩:=h1
  split at h
  ·rename_i v hv
   have key:∀ (l:List PV) (vs:List AV) (i:Nat) (v:PV),VRs ⟨d,ps.heap,μ,L,H,nx⟩ l vs→l[i]? = some v→∃ a,vs[i]? = some a∧VR ⟨d,ps.heap,μ,L,H,nx⟩ v a:=by
    intro l
    induction l with
    | nil=>intro vs i v _ h; simp at h
    | cons y q ih=>
     intro vs i v hr h
     cases vs with
     | nil=>exact hr.elim
     | cons a as=>
      cases i with
      | zero=>simp at h; subst h; exact ⟨a,rfl,hr.1⟩
      | succ i=>simpa using ih as i v hr.2 (by simpa using h)
   obtain ⟨a,k1,k2⟩:=key l vs i v h3 hv
   exact ⟨_,_,h,by simp only [operV,h2,k1],k2⟩
  ·cases h
 ·cases h
omit R in
theorem lenL_rel {X:Vw}:∀ {l:List PV} {vs:List AV},VRs X l vs→lenL l=vs.length
 | [],[],_=>rfl
 | [],_ :: _,h=>h.elim
 | _ :: _,[],h=>h.elim
 | x :: r,v :: q,h=>by simp [lenL,lenL_rel h.2]
omit R in
theorem nthL_rel {X:Vw}:∀ {l:List PV} {vs:List AV} {i:Nat},VRs X l vs→(∀ v,nthL l i=some v→∃ a,vs[i]? = some a∧VR X v a)∧(nthL l i=none→vs[i]? = none)
 | [],[],i,_=>⟨fun v h=>by simp [nthL] at h,fun _=>rfl⟩
 | [],_ :: _,_,h=>h.elim
 | _ :: _,[],_,h=>h.elim
 | x :: r,v :: q,0,h=>⟨fun w hw=>by simp only [nthL] at hw; cases hw; exact ⟨v,rfl,h.1⟩,fun hw=>by simp [nthL] at hw⟩
 | x :: r,v :: q,i + 1,h=>⟨fun w hw=>by simpa using (nthL_rel (i:=i) h.2).1 w hw,fun hw=>by simpa using (nthL_rel (i:=i) h.2).2 hw⟩
theorem ok_caps {x:Opd} {g m i:Nat} (h:opP hn pm dst ps (.caps x g m i) k=some r):PureOK T Rn d dst E ps μ L H nx k r (.caps x g m i):=by
 simp only [opP] at h
 have h1:=R.pev x
 split at h
 ·rename_i g' l hx
  rw [hx] at h1
  obtain ⟨vs,h2,h3⟩:=h1
  split at h
  ·rename_i hc
   simp only [Bool.and_eq_true] at hc
   have c1:=Nat.eq_of_beq_eq_true hc.1
   have c2:=Nat.eq_of_beq_eq_true hc.2
   rw [lenL_rel h3] at c2
   split at h
   ·rename_i v hv
    obtain ⟨a,k1,k2⟩:=(nthL_rel (i:=i) h3).1 v hv
    exact ⟨_,_,h,by simp only [operV,h2]; rw [if_pos ⟨c1,c2⟩,k1],k2⟩
   ·rename_i hv
    exact ⟨_,.tup [],h,by simp only [operV,h2]; rw [if_pos ⟨c1,c2⟩,(nthL_rel (i:=i) h3).2 hv],[],rfl,trivial⟩
  ·cases h
 ·cases h
theorem ok_tupl {l:List Opd} (h:opP hn pm dst ps (.tupl l) k=some r):PureOK T Rn d dst E ps μ L H nx k r (.tupl l):=by
 have h:k (tup1 (l.map (pev ps))) ps=some r:=h
 refine ⟨_,_,h,rfl,?_⟩
 have h1:=R.pevs l
 generalize l.map (pev ps)=ws at h1 ⊢
 generalize l.map (ev E)=vs at h1 ⊢
 cases ws with
 | nil=>cases vs with
  | nil=>exact ⟨[],rfl,trivial⟩
  | cons=>exact h1.elim
 | cons w q=>cases vs with
  | nil=>exact h1.elim
  | cons v u=>
   cases q with
   | nil=>cases u with
    | nil=>exact h1.1
    | cons=>exact h1.2.elim
   | cons w2 q=>cases u with
    | nil=>exact h1.2.elim
    | cons v2 u=>exact ⟨_,rfl,h1⟩
theorem intsOf_rel:∀ {l:List Opd} {ns:List Int},intsOf (l.map (pev ps))=some ns→i64s (l.map (ev E))=some ns
 | [],ns,h=>by simp [intsOf] at h; subst h; rfl
 | x :: q,ns,h=>by
  simp only [List.map_cons,intsOf] at h
  split at h
  ·rename_i n m hx hm
   cases h
   have e1:=intP_rel hx (R.pev x)
   simp only [List.map_cons,e1,i64s,intsOf_rel hm]
  ·cases h
omit R in
theorem minmaxI_eq (mx:Bool):∀ (l:List Int) (a:Int),minmaxI mx l a=l.foldl (fun a b=>if mx=true then (if b > a then b else a) else (if b < a then b else a)) a
 | [],a=>rfl
 | b :: q,a=>by
  simp only [minmaxI,List.foldl_cons]
  rw [minmaxI_eq mx q]
  congr 1
  cases mx <;> simp [iMax_def,iMin_def]
theorem ok_minmax {mx:Bool} {l:List Opd} (h:opP hn pm dst ps (.minmax mx l) k=some r):PureOK T Rn d dst E ps μ L H nx k r (.minmax mx l):=by
 simp only [opP] at h
 split at h
 ·rename_i a q hx
  have e1:=intsOf_rel R hx
  exact ⟨_,_,h,by simp only [operV,minMax,e1]; rfl,by rw [← minmaxI_eq]; exact vr_int⟩
 ·cases h
end
end Go.Am
/- The machine on typed data against the small machine: operations that read. -/
namespace Go.Am
section
variable {X:Vw}
theorem VRs.len:∀ {vs:List PV} {as:List AV},VRs X vs as→vs.length=as.length
 | [],[],_=>rfl
 | [],_ :: _,h=>h.elim
 | _ :: _,[],h=>h.elim
 | x :: r,v :: q,h=>by simp [VRs.len h.2]
theorem VRs.drop:∀ {vs:List PV} {as:List AV} (n:Nat),VRs X vs as→VRs X (vs.drop n) (as.drop n)
 | vs,as,0,h=>by simpa using h
 | [],[],n + 1,_=>by simp [VRs]
 | [],_ :: _,_ + 1,h=>h.elim
 | _ :: _,[],_ + 1,h=>h.elim
 | x :: r,v :: q,n + 1,h=>by simpa using VRs.drop n h.2
theorem VRs.take:∀ {vs:List PV} {as:List AV} (n:Nat),VRs X vs as→VRs X (vs.take n) (as.take n)
 | vs,as,0,h=>by simp [VRs]
 | [],[],n + 1,_=>by simp [VRs]
 | [],_ :: _,_ + 1,h=>h.elim
 | _ :: _,[],_ + 1,h=>h.elim
 | x :: r,v :: q,n + 1,h=>by simpa [VRs] using ⟨h.1,VRs.take n h.2⟩
theorem VRs.app:∀ {vs us:List PV} {as bs:List AV},VRs X vs as→VRs X us bs→VRs X (vs++us) (as++bs)
 | [],us,[],bs,_,h=>h
 | [],_,_ :: _,_,h,_=>h.elim
 | _ :: _,_,[],_,h,_=>h.elim
 | x :: r,us,v :: q,bs,h,k=>⟨h.1,VRs.app h.2 k⟩
theorem VRs.get:∀ {vs:List PV} {as:List AV} {i:Nat} {v:PV},VRs X vs as→vs[i]? = some v→∃ a,as[i]? = some a∧VR X v a
 | [],_,i,v,_,h=>by simp at h
 | _ :: _,[],_,_,h,_=>h.elim
 | y :: q,a :: as,i,v,hr,h=>by
  cases i with
  | zero=>simp at h; subst h; exact ⟨a,rfl,hr.1⟩
  | succ i=>simpa using VRs.get hr.2 (by simpa using h)
theorem known_ok {v:PV} (h:cellOK v=true):v.known=true:=by
 cases v <;> first | rfl | simp [cellOK,cellLeaf] at h
theorem known_agg {v:PV} (h:v.isAgg=true):v.known=true:=by
 cases v <;> first | rfl | simp [PV.isAgg] at h
theorem cellOK_stor {v:PV} {a:AV} (h:cellOK v=true) (hr:VR X v a):stor a=true∧0 < a.cells.length:=by
 cases v with
 | agg cs=>
  simp only [cellOK,Bool.and_eq_true] at h
  obtain ⟨h1,h2⟩:=hr
  refine ⟨by cases a <;> simp_all [AV.isAgg,stor],?_⟩
  rw [← h2.len]
  cases cs with
  | nil=>simp at h
  | cons=>simp
 | d p t x=>
  obtain ⟨Li,h1,_⟩:=hr
  refine ⟨h1.stor.1,?_⟩
  rw [h1.stor.2.1]
  cases t with
  | st fs=>
   cases fs with
   | nil=>simp [cellOK] at h
   | cons=>simp [Kd.cn]
  | _=>simp [Kd.cn]
 | nils=>obtain rfl:a = .nils:=hr; exact ⟨rfl,by simp [AV.cells]⟩
 | own b=>
  obtain ⟨_,_,h3⟩:=hr
  cases a <;> first | exact h3.elim | exact ⟨rfl,by simp [AV.cells]⟩
 | cp b off=>
  obtain ⟨_,o,g,_,rfl⟩:=hr
  exact ⟨rfl,by simp [AV.cells]⟩
 | np=>
  obtain rfl:a = .c (.s (.pointer none)):=hr
  exact ⟨rfl,Nat.succ_pos 0⟩
 | _=>simp [cellOK,cellLeaf] at h
theorem fillP_rel:∀ (ps:List (Nat×Nat×PV)) (qs:List (Nat×Nat×AV)) (cs:List PV) (as:List AV) (us:List PV),VRs X cs as →
  (ps.map (fun p=>(p.1,p.2.1))=qs.map (fun p=>(p.1,p.2.1)))→VRs X (ps.map (fun p=>p.2.2)) (qs.map (fun p=>p.2.2))→opP.fillP cs ps=some us→∃ bs,fillCells as qs=some bs∧VRs X us bs
 | [],[],cs,as,us,h,_,_,e=>by cases e; exact ⟨as,rfl,h⟩
 | [],_ :: _,_,_,_,_,h,_,_=>by simp at h
 | _ :: _,[],_,_,_,_,h,_,_=>by simp at h
 | (off,n,v) :: r,(off',n',a) :: q,cs,as,us,h,he,hv,e=>by
  simp only [List.map_cons,List.cons.injEq,Prod.mk.injEq] at he
  obtain ⟨⟨rfl,rfl⟩,he⟩:=he
  simp only [opP.fillP] at e
  split at e
  ·cases e
  ·rename_i hok
   split at e
   ·rename_i hc
    have h1:VR X v a:=hv.1
    obtain ⟨c1,c2⟩:=cells_rel v a (known_ok hok) h1
    have hl:=c1.len
    have hl2:=h.len
    have hst:=(cellOK_stor hok h1).1
    obtain ⟨bs,k1,k2⟩:=fillP_rel r q _ (as.take off++a.cells++as.drop (off + n)) us ((h.take off).app c1 |>.app (h.drop (off + n))) he hv.2 e
    refine ⟨bs,?_,k2⟩
    simp only [fillCells]
    rw [if_pos ⟨by omega,hst⟩]
    unfold putCells
    rw [if_pos (by omega)]
    have:a.cells.length=n:=by omega
    rw [this]
    exact k1
   ·cases e
theorem eqLeaf_rel {l:Lf} {v u:PV} {a b:AV} {q:Bool} (h1:VR X v a) (h2:VR X u b) (h:eqLeaf l v u=some q):∃ x y,a = .c (.s x)∧b = .c (.s y)∧sameV l x y=some q:=by
 unfold eqLeaf at h
 simp only [iEq_def,strEq_def,bEq_def] at h
 split at h
 ·split at h
  ·rename_i k n k' m e1 e2
   split at h
   ·rename_i hk
    cases h
    exact ⟨_,_,intP_rel e1 h1,intP_rel e2 h2,by simp only [sameV]; rw [if_pos hk]⟩
   ·cases h
  ·cases h
 ·split at h
  ·rename_i s t e1 e2
   cases h
   exact ⟨_,_,bytP_rel e1 h1,bytP_rel e2 h2,by simp only [sameV,toList_mk]⟩
  ·cases h
 ·split at h
  ·rename_i s t e1 e2
   cases h
   exact ⟨_,_,boolP_rel e1 h1,boolP_rel e2 h2,by simp only [sameV]⟩
  ·cases h
theorem eqLeafs_rel:∀ (ls:List Lf) (vs us:List PV) (as bs:List AV) (q:Bool),VRs X vs as→VRs X us bs→eqLeafs ls vs us=some q→sameL ls as bs=some q
 | [],[],[],[],[],q,_,_,h=>by simpa [eqLeafs,sameL] using h
 | [],[],[],_ :: _,_,_,h,_,_=>h.elim
 | [],[],[],_,_ :: _,_,_,h,_=>h.elim
 | [],_ :: _,_,_,_,_,_,_,h=>by simp [eqLeafs] at h
 | [],[],_ :: _,_,_,_,_,_,h=>by simp [eqLeafs] at h
 | [l],[x],[y],[a],[b],q,h1,h2,h=>by
  simp only [eqLeafs] at h
  obtain ⟨u,w,rfl,rfl,e⟩:=eqLeaf_rel h1.1 h2.1 h
  simp [sameL,e]
 | [l],[x],[y],a :: a' :: r,_,_,h,_,_=>h.2.elim
 | [l],[x],[y],[],_,_,h,_,_=>h.elim
 | [l],[x],[y],[a],b :: b' :: r,_,_,h,_=>h.2.elim
 | [l],[x],[y],[a],[],_,_,h,_=>h.elim
 | [l],[],_,_,_,_,_,_,h=>by simp [eqLeafs] at h
 | [l],[x],[],_,_,_,_,_,h=>by simp [eqLeafs] at h
 | [l],x :: x' :: r,us,as,bs,q,h1,h2,h=>by
  cases us with
  | nil=>simp [eqLeafs] at h
  | cons y us=>
   simp only [eqLeafs,bAnd_def] at h
   split at h
   ·rename_i e1 e2
    cases us <;> simp [eqLeafs] at e2
   ·cases h
 | [l],[x],y :: y' :: r,as,bs,q,h1,h2,h=>by
  simp only [eqLeafs,bAnd_def] at h
  split at h
  ·rename_i e1 e2
   simp [eqLeafs] at e2
  ·cases h
 | l :: l' :: ls,vs,us,as,bs,q,h1,h2,h=>by
  cases vs with
  | nil=>cases us <;> simp [eqLeafs] at h
  | cons x vs=>
   cases us with
   | nil=>simp [eqLeafs] at h
   | cons y us=>
    cases as with
    | nil=>exact h1.elim
    | cons a as=>
     cases bs with
     | nil=>exact h2.elim
     | cons b bs=>
      simp only [eqLeafs,bAnd_def] at h
      split at h
      ·rename_i p p' e1 e2
       cases h
       obtain ⟨u,w,rfl,rfl,e⟩:=eqLeaf_rel h1.1 h2.1 e1
       have e3:=eqLeafs_rel (l' :: ls) vs us as bs p' h1.2 h2.2 e2
       simp only [sameL,e,e3] <;> rfl
      ·cases h
theorem Rep.elems {own:Bool} {H:Heap} {sz:Nat} {e:Kd} {xs:List e.den} {a:AV} {L:List Id} (h:Rep own H (.sl sz e) xs a L):∃ es L',Go.Am.elems H a=some es∧RepL (Rep own H e) xs es L'∧∀ i∈L',i∈L:=by
 rcases h with ⟨rfl,h2,_⟩ | ⟨h0,z,ts,rfl,h2,h3,h4⟩ | ⟨o,g,n,off,len,b,L',rfl,h2,h3,h4,h5,h6,h7,h8,h9⟩
 ·have h2:xs=[]:=h2
  subst h2; exact ⟨[],[],rfl,rfl,fun i hi=>by cases hi⟩
 ·exact ⟨_,[],rfl,h3,fun i hi=>by cases hi⟩
 ·subst h8
  refine ⟨_,L',?_,h7,fun i hi=>by simp [hi]⟩
  simp only [Go.Am.elems,elemsOf,h2]
  rw [if_pos ⟨h3,h4,h5⟩]
theorem bytesOf_rel {own:Bool} {H:Heap}:∀ (xs:List Int) (es:List AV) (L:List Id),RepL (Rep own H (.int .u8)) xs es L→bytesOf.go es=some (strP xs)
 | [],[],_,_=>by rw [strP_def]; rfl
 | [],_ :: _,_,h=>h.elim
 | _ :: _,[],_,h=>h.elim
 | n :: xs,a :: es,L,⟨L1,L2,h1,h2,_⟩=>by
  obtain ⟨rfl,_⟩:=h1
  simp only [bytesOf.go,bytesOf_rel xs es L2 h2,strP_def]
  rfl
theorem Rep.lenV {own:Bool} {H:Heap} {sz:Nat} {e:Kd} {xs:List e.den} {a:AV} {L:List Id} (h:Rep own H (.sl sz e) xs a L):Go.Am.lenV a=some xs.length∧a.isStr=false:=by
 rcases h with ⟨rfl,h2,_⟩ | ⟨h0,z,ts,rfl,h2,h3,h4⟩ | ⟨o,g,n,off,len,b,L',rfl,h2,h3,h4,h5,h6,h7,h8,h9⟩
 ·have h2:xs=[]:=h2
  subst h2; exact ⟨rfl,rfl⟩
 ·have:=RepL.len h3
  simp at this
  exact ⟨by simp [Go.Am.lenV,this],rfl⟩
 ·have:=RepL.len h7
  simp only [List.length_take,List.length_drop] at this
  exact ⟨by simp [Go.Am.lenV]; omega,rfl⟩
theorem Rep.slice {H:Heap} {sz:Nat} {e:Kd} {xs:List e.den} {a:AV} {L:List Id} (h:Rep false H (.sl sz e) xs a L) {l n:Nat} (hb:l + n≤xs.length) (hsz:sz≠0) {lo hi:Option Int} (hlo:lo.getD 0=l) (hhi:hi.getD xs.length=(l:Int) + n) :
  ∃ b,sliceV H a lo hi none=some b∧szOk H sz b=true∧a.isStr=(sz == 0)∧∃ L',Rep false H (.sl sz e) (sub xs l n) b L'∧∀ i∈L',i∈L:=by
 rw [sub_def]
 have hz:(sz == 0)=false:=by simpa using hsz
 rcases h with ⟨rfl,h2,rfl⟩ | ⟨h0,z,ts,rfl,h2,h3,rfl⟩ | ⟨o,g,m,off,len,b,L',rfl,h2,h3,h4,h5,h6,h7,rfl,h9⟩
 ·have h2:xs=[]:=h2
  subst h2
  simp only [List.length_nil] at hb hhi
  obtain rfl:l=0:=by omega
  obtain rfl:n=0:=by omega
  refine ⟨.nils,?_,rfl,by rw [hz]; rfl,[],.inl ⟨rfl,rfl,rfl⟩,fun i hi=>hi⟩
  have e2:hi.getD 0=0:=by cases hi <;> simp_all
  simp only [sliceV,hlo,e2]; simp
 ·have hl:=RepL.len h3
  simp at hl
  refine ⟨.c (.sl z ((ts.drop l).take n)),?_,?_,by rw [hz]; rfl,[],.inr (.inl ⟨rfl,z,(ts.drop l).take n,rfl,?_,?_,rfl⟩),fun i hi=>hi⟩
  ·have this:hi.getD ts.length=(l:Int) + n:=by rw [← hl]; exact hhi
   have c:0≤lo.getD 0∧lo.getD 0≤hi.getD ts.length∧hi.getD ts.length≤ts.length∧True:=by
    rw [hlo,this]; exact ⟨by omega,by omega,by omega,trivial⟩
   simp only [sliceV]
   rw [if_pos c,hlo,this]
   rw [show ((l:Int) + n - l).toNat=n from by omega,show (l:Int).toNat=l from by omega]
  ·simp only [szOk]
   rcases h2 with rfl | rfl <;> simp
  ·rcases h2 with rfl | rfl
   ·exact .inl rfl
   ·right; simp
  ·obtain ⟨M,m1,m2⟩:=h3.sub l n
   have e:M=[]:=List.eq_nil_iff_forall_not_mem.2 fun i hi=>by simpa using m2 i hi
   subst e
   have e2:((ts.drop l).take n).map AV.c=((ts.map AV.c).drop l).take n:=by simp [List.map_take,List.map_drop]
   rw [e2]
   exact m1
 ·have hl:=RepL.len h7
  simp only [List.length_take,List.length_drop] at hl
  obtain ⟨M,m1,m2⟩:=h7.sub l n
  refine ⟨.ref o g m (off + l) n,?_,?_,by rw [hz]; rfl,o :: M,.inr (.inr ⟨o,g,m,off + l,n,b,M,rfl,h2,h3,h4,by omega,h6,?_,rfl,(fun h=>by cases h),h9.2⟩),?_⟩
  ·have e1:xs.length=len:=by omega
   rw [e1] at hhi
   have c:b.gen=g∧b.es.length=m∧0≤lo.getD 0∧lo.getD 0≤hi.getD len∧hi.getD len + off≤m∧(True∨((none:Option Int)=some ((m:Int) - off)∧hi≠none)):=by
    rw [hlo,hhi]; exact ⟨h3,h4,by omega,by omega,by omega,.inl trivial⟩
   simp only [sliceV,h2]
   rw [if_pos c,hlo,hhi]
   rw [show ((l:Int) + n - l).toNat=n from by omega,show (l:Int).toNat=l from by omega]
  ·simp only [szOk,szOf,h2,h6]; simp
  ·rw [take_drop_sub _ _ len _ _ (by omega)]
   exact m1
  ·intro i hi
   rcases List.mem_cons.1 hi with rfl | hi
   ·simp
   ·simp [m2 i hi]
theorem boundK_some {ρ:Type} {len:Nat} {lo hi:Option Int} {k:Nat→Nat→Option ρ} {r:ρ} (h:boundK len lo hi k=some r) :
  ∃ l n:Nat,k l n=some r∧l + n≤len∧lo.getD 0=l∧hi.getD len=(l:Int) + n:=by
 have e:boundK len lo hi k=bndK len (lo.getD 0) (hi.getD len) k:=by unfold boundK; rw [ofN_def]; cases lo <;> cases hi <;> rfl
 rw [e] at h
 obtain ⟨h1,h2,h3,h4⟩:=bndK_some h
 exact ⟨_,_,h4,by omega,by omega,by omega⟩
end
end Go.Am
/- The machine on typed data against the small machine: operations that read. -/
namespace Go.Am
section
variable {T:Tab} {Rn:Run} {d:Nat} {anV:List AV} {P0:Id→Prop} {H0:Heap} {ps:PS} {μ:Nat→AV} {L:Nat→List Id} {E:AEnv} {H:Heap} {nx:Nat} {dst:Option Nat} {hn:Hints} {pm:List Nat} {ρ:Type} {r:ρ} {k:PV→PS→Option ρ}
theorem map_constA {X:Vw}:∀ (l:List AV),VRs X (l.map constA) l
 | []=>trivial
 | x :: r=>⟨constA_rel x,map_constA r⟩
variable (R:Rel d anV P0 H0 ps μ L E H nx)
include R
theorem ok_build {z:List AV} {parts:List (Nat×Nat×Opd)} (h:opP hn pm dst ps (.build z parts) k=some r):PureOK T Rn d dst E ps μ L H nx k r (.build z parts):=by
 simp only [opP] at h
 split at h
 ·rename_i cs hcs
  have hv:∀ (l:List (Nat×Nat×Opd)),VRs ⟨d,ps.heap,μ,L,H,nx⟩ ((l.map fun p=>(p.1,p.2.1,pev ps p.2.2)).map (fun p=>p.2.2)) ((l.map fun p=>(p.1,p.2.1,ev E p.2.2)).map (fun p=>p.2.2)):=by
   intro l
   induction l with
   | nil=>trivial
   | cons x q ih=>exact ⟨R.pev x.2.2,ih⟩
  obtain ⟨bs,k1,k2⟩:=fillP_rel (X:=⟨d,ps.heap,μ,L,H,nx⟩) _ (parts.map fun p=>(p.1,p.2.1,ev E p.2.2)) _ z cs (map_constA z) (by simp) (hv parts) hcs
  exact ⟨_,.agg bs,h,by simp only [operV,k1],rfl,k2⟩
 ·cases h
theorem ok_binS {neg:Bool} {ls:List Lf} {x y:Opd} (h:opP hn pm dst ps (.binS neg ls x y) k=some r):PureOK T Rn d dst E ps μ L H nx k r (.binS neg ls x y):=by
 simp only [opP,bNot_def] at h
 split at h
 ·rename_i q hx hy hq
  obtain ⟨c1,c2⟩:=cells_rel _ _ (known_agg hx) (R.pev x)
  obtain ⟨c3,c4⟩:=cells_rel _ _ (known_agg hy) (R.pev y)
  have e:=eqLeafs_rel ls _ _ _ _ q c1 c3 hq
  refine ⟨_,_,h,?_,vr_bool⟩
  simp only [operV,e]
  rw [if_pos ⟨by rw [← c2]; exact hx,by rw [← c4]; exact hy⟩]
  cases neg <;> rfl
 ·cases h
theorem ok_b2s {x:Opd} (h:opP hn pm dst ps (.b2s x) k=some r):PureOK T Rn d dst E ps μ L H nx k r (.b2s x):=by
 simp only [opP] at h
 split at h
 ·rename_i xs hx
  obtain ⟨Li,h1,_⟩:=asLeaf_rel R.obs (R.pev x) hx
  obtain ⟨es,L',h2,h3,_⟩:=h1.elems
  have h4:=bytesOf_rel xs es L' h3
  exact ⟨_,_,h,by simp only [operV,h2,bytesOf,h4]; rfl,vr_str (s:=strP xs)⟩
 ·cases h
theorem ok_len {str:Bool} {x:Opd} (h:opP hn pm dst ps (.len str x) k=some r):PureOK T Rn d dst E ps μ L H nx k r (.len str x):=by
 simp only [opP,lenI_def,ofN_def] at h
 have h1:=R.pev x
 split at h
 ·split at h
  ·rename_i s hs
   have e:=bytP_rel hs h1
   exact ⟨_,_,h,by simp only [operV,e,lenV,AV.isStr,size_mk,if_true]; rfl,vr_int (n:=(s.length:Int))⟩
  ·cases h
 ·split at h
  ·rename_i p sz e xs hx
   rw [hx] at h1
   obtain ⟨Li,k1,_⟩:=h1
   obtain ⟨k2,k3⟩:=k1.lenV
   exact ⟨_,_,h,by simp only [operV,k2,k3,if_true]; exact congrArg (fun z:Int=>some (gInt z,H,nx)) (lenI_def (α:=e.den) xs).symm,vr_int⟩
  ·rename_i hx
   rw [hx] at h1
   have h1:ev E x = .nils:=h1
   exact ⟨_,_,h,by simp only [operV,h1,lenV,AV.isStr,if_true]; rfl,vr_int⟩
  ·rename_i a hx
   rw [hx] at h1
   split at h
   ·rename_i ro ver tmp sz e dp xs hb
    obtain ⟨Li,k1,_⟩:=own_read R.obs h1 hb
    obtain ⟨k2,k3⟩:=k1.lenV
    exact ⟨_,_,h,by simp only [operV,k2,k3,if_true]; rfl,vr_int⟩
   ·cases h
  ·rename_i a off len hx
   rw [hx] at h1
   obtain ⟨_,h2⟩:=h1
   rcases h2 with ⟨_,h3,_,rfl⟩ | ⟨o,g,n,off0,len0,_,_,h3⟩
   ·exact ⟨_,_,h,by simp only [operV,h3,lenV,AV.isStr,if_true]; rfl,vr_int⟩
   ·exact ⟨_,_,h,by simp only [operV,h3,lenV,AV.isStr,if_true]; rfl,vr_int⟩
  ·cases h
omit R in
theorem loadP_ok {ag:Bool} {n off:Nat} {v:PV} {w:AV} (hv:VR ⟨d,ps.heap,μ,L,H,nx⟩ v w) (hk:v.known=true) (h:opP.loadP ag n off v k ps=some r) :
  ∃ u a,k u ps=some r∧VR ⟨d,ps.heap,μ,L,H,nx⟩ u a ∧
   (if ag=true then (if w.isAgg=true then (if off=0∧n=w.cells.length then some w else if off + n≤w.cells.length then some (.agg ((w.cells.drop off).take n)) else none) else none) else w.cells[off]?)=some a∧(ag=true→¬ (off=0∧n=w.cells.length)→∃ cs,u = .agg cs):=by
 obtain ⟨c1,c2⟩:=cells_rel v w hk hv
 have hl:=c1.len
 unfold opP.loadP at h
 cases ag with
 | false=>
  simp only at h
  split at h
  ·rename_i u hu
   obtain ⟨a,k1,k2⟩:=c1.get hu
   exact ⟨u,a,h,k2,by simpa using k1,fun h=>by cases h⟩
  ·cases h
 | true=>
  simp only at h
  split at h
  ·rename_i hag
   split at h
   ·rename_i hc
    refine ⟨v,w,h,hv,?_,fun _ q=>(q (by rw [← hl]; exact hc)).elim⟩
    rw [if_pos rfl,if_pos (by rw [← c2]; exact hag),if_pos (by rw [← hl]; exact hc)]
   ·rename_i hc
    split at h
    ·rename_i hc2
     refine ⟨_,.agg ((w.cells.drop off).take n),h,⟨rfl,(c1.drop off).take n⟩,?_,fun _ _=>⟨_,rfl⟩⟩
     rw [if_pos rfl,if_pos (by rw [← c2]; exact hag),if_neg (by rw [← hl]; exact hc),if_pos (by rw [← hl]; exact hc2)]
    ·cases h
  ·cases h
theorem ids_nested {a:Nat} {o:Id} {Ln:List Id} (ha:live ps.heap a) (hL:L a=o :: Ln):∀ i∈Ln,(⟨d,ps.heap,μ,L,H,nx⟩:Vw).Imm i:=by
 intro i hi
 refine ⟨?_,R.tl a ha i (by rw [hL]; exact hi)⟩
 rintro ⟨b,hb,htop⟩
 have htop:(L b).head? = some i:=htop
 have hmem:i∈L b:=List.mem_of_head? htop
 by_cases hab:b=a
 ·subst hab
  rw [hL] at htop
  have:=R.nd b hb
  rw [hL] at this
  cases htop
  exact (List.nodup_cons.1 this).1 hi
 ·exact R.dis b a hab hb ha i hmem (by rw [hL]; simp [hi])
theorem ep_read {c ver i off:Nat} {e:Kd} {x:e.den} {v:AV} (hv:VR ⟨d,ps.heap,μ,L,H,nx⟩ (.ep c ver i off e x) v) {ro:Bool} {tmp:Option Nat} {sz:Nat} {e':Kd} {dp:Bool} {xs:List e'.den}
  (hc:hget ps.heap c=some (.sl ro ver tmp sz e' dp xs)) :
  ∃ o g n off0 len0 b w L',v = .ptr o g n (off0 + i) off∧μ c = .ref o g n off0 len0∧H o=some b∧b.gen=g∧b.es.length=n∧b.sz=e.cn∧sz=e.cn∧(ro=false→b.w=true)∧b.es[off0 + i]? = some w∧Rep dp H e x w L'∧(∀ j∈L',(⟨d,ps.heap,μ,L,H,nx⟩:Vw).Imm j) ∧
   off0 + len0≤n∧i < len0∧∃ y,castK e e' x=some y∧xs[i]? = some y:=by
 obtain ⟨h0,o,g,n,off0,len0,h1,h2,rfl,h3⟩:=hv
 obtain ⟨_,h4⟩:=h3 _ _ _ _ _ _ _ hc
 obtain ⟨y,h5,h6⟩:=h4 rfl
 obtain ⟨s0,s1,s2⟩:=R.ob c _ hc
 rcases s2 with ⟨e1,_⟩ | ⟨o',g',n',off',len',b,L',e1,e2,e3,e4,e5,e6,e7,e8,e9,e10,e11⟩
 ·rw [h1] at e1; cases e1
 ·rw [h1] at e1
  cases e1
  obtain ⟨rfl,rfl⟩:=castK_eq h5
  obtain ⟨w,L'',k1,k2,k3⟩:=e8.get i _ h6
  have hl:live ps.heap c:=by unfold live; rw [hc]; rfl
  refine ⟨o,g,n,off0,len0,b,w,L'',rfl,h1,e2,e3,e4,by rw [e6,s0],s0,e7,?_,k2,?_,e5,h2,_,h5,h6⟩
  ·rw [List.getElem?_take_of_lt h2,List.getElem?_drop] at k1
   exact k1
  ·intro j hj
   have hj:=k3 j hj
   cases dp with
   | true=>exact ids_nested R hl (by simpa using e10) j hj
   | false=>exact e11.1 rfl j hj
theorem ok_load {ag:Bool} {n:Nat} {a:Opd} (h:opP hn pm dst ps (.load ag n a) k=some r):PureOK T Rn d dst E ps μ L H nx k r (.load ag n a):=by
 simp only [opP] at h
 have h1:=R.pev a
 split at h
 ·rename_i c off hx
  rw [hx] at h1
  obtain ⟨h0,o,g,h2,h3⟩:=h1
  split at h
  ·rename_i ro tmp v hc
   obtain ⟨o',g',b,w,e1,e2,e3,e4,e5,e6,e7,e8,e9,e10,e11⟩:=R.ob c _ hc
   rw [h2] at e1
   cases e1
   have e2:H o=some b:=e2
   obtain ⟨u,z,k1,k2,k3,k4⟩:=loadP_ok e10 (known_ok e11) h
   refine ⟨u,z,k1,?_,k2⟩
   have:loadV H ag n (.ptr o g 1 0 off)=some z:=by
    simp only [loadV,e2]
    rw [if_pos ⟨e3,by rw [e4]; rfl⟩,e4]
    simp only [List.getElem?_cons_zero]
    rw [e5]
    exact k3
   simp only [operV,h3,this]
  ·cases h
 ·rename_i c ver i off e x hx
  rw [hx] at h1
  split at h
  ·rename_i ro ver' tmp sz e' dp xs hc
   split at h
   ·rename_i hver
    obtain rfl:=Nat.eq_of_beq_eq_true hver
    obtain ⟨o,g,m,off0,len0,b,w,L',h3,_,e2,e3,e4,e5,_,_,e6,e7,e8,_⟩:=ep_read R h1 hc
    have hv:VR ⟨d,ps.heap,μ,L,H,nx⟩ (.d false e x) w:=by
     have e7':Rep false H e x w L':=by
      cases dp with
      | true=>exact Rep.read e x w L' e7
      | false=>exact e7
     exact ⟨L',e7',fun q=>(e7'.flat (own':=false) (H':=H) (by simpa using q)).2,e8⟩
    obtain ⟨u,z,k1,k2,k3,k4⟩:=loadP_ok hv rfl h
    refine ⟨u,z,k1,?_,k2⟩
    have:loadV H ag n (.ptr o g m (off0 + i) off)=some z:=by
     simp only [loadV,e2]
     rw [if_pos ⟨e3,e4⟩,e6]
     simp only
     rw [e5,← e7.stor.2.1]
     exact k3
    simp only [operV,h3,this]
   ·cases h
  ·cases h
 ·rename_i p e x off hx
  rw [hx] at h1
  rcases h1 with ⟨y,h3,h4⟩ | ⟨h0,o,g,m,j,b,w,Li,h3,e2,e3,e4,e5,e6,e7,e8,e9⟩
  ·have hv:VR ⟨d,ps.heap,μ,L,H,nx⟩ (.d p e x) (.c y):=⟨[],h4,fun _=>rfl,fun i hi=>by cases hi⟩
   obtain ⟨u,z,k1,k2,k3,k4⟩:=loadP_ok hv rfl h
   have:∃ a,loadV H ag n (.tptr y off)=some a∧VR ⟨d,ps.heap,μ,L,H,nx⟩ u a:=by
    cases ag with
    | true=>
     simp only [if_true] at k3
     cases y with
     | agg cs=>
      simp only [AV.isAgg,if_true,AV.cells,TV.cells,List.length_map] at k3 k4
      by_cases hc:off=0∧n=cs.length
      ·rw [if_pos hc] at k3
       cases k3
       exact ⟨_,by simp only [loadV,if_true]; rw [if_pos ⟨hc.1,hc.2.symm⟩],k2⟩
      ·obtain ⟨us,rfl⟩:=k4 trivial hc
       rw [if_neg hc] at k3
       split at k3
       ·rename_i hc2
        cases k3
        refine ⟨.c (.agg ((cs.drop off).take n)),?_,rfl,?_⟩
        ·simp only [loadV,if_true]; rw [if_neg (fun q=>hc ⟨q.1,q.2.symm⟩),if_pos hc2]
        ·have:=k2.2
         simpa [AV.cells,TV.cells,List.map_take,List.map_drop] using this
       ·cases k3
     | _=>simp [AV.isAgg] at k3
    | false=>
     refine ⟨z,?_,k2⟩
     simp only [Bool.false_eq_true,if_false] at k3
     simp only [loadV,Bool.false_eq_true,if_false]
     simp only [AV.cells,List.getElem?_map] at k3
     cases hy:y.cells[off]? with
     | none=>rw [hy] at k3; cases k3
     | some q=>rw [hy] at k3; simpa using k3
   obtain ⟨a',q1,q2⟩:=this
   exact ⟨u,a',k1,by simp only [operV,h3,q1],q2⟩
  ·have e2:H o=some b:=e2
   have hv:VR ⟨d,ps.heap,μ,L,H,nx⟩ (.d p e x) w:=⟨Li,e7,fun q=>by
     rcases q with q | q
     ·rw [h0] at q; cases q
     ·exact (e7.flat (own':=false) (H':=H) q).2,e9⟩
   obtain ⟨u,z,k1,k2,k3,k4⟩:=loadP_ok hv rfl h
   refine ⟨u,z,k1,?_,k2⟩
   have:loadV H ag n (.ptr o g m j off)=some z:=by
    simp only [loadV,e2]
    rw [if_pos ⟨e3,e4⟩,e6]
    simp only
    rw [e5,← e7.stor.2.1]
    exact k3
   simp only [operV,h3,this]
 ·rename_i t v off hx
  rw [hx] at h1
  obtain ⟨h0,h0',o,g,b,w,e1,h3,e2,e3,e4,e5,e6⟩:=h1
  obtain ⟨u,z,k1,k2,k3,k4⟩:=loadP_ok e6 (known_ok h0') h
  refine ⟨u,z,k1,?_,k2⟩
  have e2:H o=some b:=e2
  have:loadV H ag n (.ptr o g 1 0 off)=some z:=by
   simp only [loadV,e2]
   rw [if_pos ⟨e3,by rw [e4]; rfl⟩,e4]
   simp only [List.getElem?_cons_zero]
   rw [e5]
   exact k3
  simp only [operV,h3,this]
 ·cases h
theorem ok_field {x:Opd} {off n:Nat} {ag:Bool} (h:opP hn pm dst ps (.field x off n ag) k=some r):PureOK T Rn d dst E ps μ L H nx k r (.field x off n ag):=by
 simp only [opP] at h
 split at h
 ·rename_i hag
  obtain ⟨c1,c2⟩:=cells_rel _ _ (known_agg hag) (R.pev x)
  have hl:=c1.len
  have ha:(ev E x).isAgg=true:=by rw [← c2]; exact hag
  split at h
  ·rename_i hc
   rw [hl] at hc
   cases ag with
   | true=>exact ⟨_,.agg (((ev E x).cells.drop off).take n),h,by simp only [operV,ha]; rw [if_pos hc]; rfl,rfl,(c1.drop off).take n⟩
   | false=>
    simp only at h
    split at h
    ·rename_i v hv
     obtain ⟨a,k1,k2⟩:=c1.get hv
     exact ⟨_,a,h,by simp only [operV,ha]; rw [if_pos hc]; simp only [Bool.false_eq_true,if_false,k1],k2⟩
    ·cases h
  ·cases h
 ·cases h
theorem optP_rel {x:Option Opd} {n:Option Int} (h:optP ps x=some n):optI E x=some n:=by
 cases x with
 | none=>exact h
 | some y=>
  simp only [optP] at h
  split at h
  ·rename_i q hq
   cases h
   have e:=intP_rel hq (R.pev y)
   simp only [optI,e,intOfV]
  ·cases h
theorem own_len {a:Nat} {v:AV} (hv:VR ⟨d,ps.heap,μ,L,H,nx⟩ (.own a) v) {ro:Bool} {ver:Nat} {tmp:Option Nat} {sz:Nat} {e:Kd} {dp:Bool} {xs:List e.den} (hc:hget ps.heap a=some (.sl ro ver tmp sz e dp xs)) :
  (v = .nils∧μ a = .nils∧xs=[])∨∃ o g n off b L',v = .ref o g n off xs.length∧μ a = .ref o g n off xs.length∧H o=some b∧b.gen=g∧b.es.length=n∧off + xs.length≤n∧b.sz=sz∧RepL (Rep dp H e) xs ((b.es.drop off).take xs.length) L':=by
 obtain ⟨h0,rfl,_⟩:=hv
 obtain ⟨s0,s1,s2⟩:=R.ob a _ hc
 rcases s2 with ⟨e1,e2,_⟩ | ⟨o,g,n,off,len,b,L',e1,e2,e3,e4,e5,e6,e7,e8,e9,e10,e11⟩
 ·exact .inl ⟨e1,e1,e2⟩
 ·right
  have hl:=RepL.len e8
  simp only [List.length_take,List.length_drop] at hl
  obtain rfl:len=xs.length:=by omega
  exact ⟨o,g,n,off,b,L',e1,e1,e2,e3,e4,e5,e6,e8⟩
theorem ok_slice {sz:Nat} {x:Opd} {lo hi mx:Option Opd} (h:opP hn pm dst ps (.slice sz x lo hi mx) k=some r):PureOK T Rn d dst E ps μ L H nx k r (.slice sz x lo hi mx):=by
 simp only [opP,lenN_def,gZero_def] at h
 split at h
 ·rename_i l hh e1 e2 e3
  have o1:=optP_rel R e1
  have o2:=optP_rel R e2
  have o3:=optP_rel R e3
  have h1:=R.pev x
  split at h
  ·rename_i s hs
   have es:=bytP_rel hs h1
   split at h
   ·rename_i hz
    subst hz
    obtain ⟨a,n,k1,k2,k3,k4⟩:=boundK_some h
    refine ⟨_,gStr ⟨(sub s a n).toArray⟩,k1,?_,vr_str⟩
    have c:0≤l.getD 0∧l.getD 0≤hh.getD (s.length:Int)∧hh.getD (s.length:Int)≤(s.length:Int)∧True:=by
     rw [k3,k4]; exact ⟨by omega,by omega,by omega,trivial⟩
    have e:sliceV H (ev E x) l hh none=some (gStr ⟨(sub s a n).toArray⟩):=by
     rw [es]
     simp only [sliceV,size_mk]
     rw [if_pos c,extract_mk,k3,k4]
     rw [sub_def]
     congr 4
     rw [show ((a:Int) + n).toNat - (a:Int).toNat=n from by omega,show (a:Int).toNat=a from by omega]
    simp only [operV,o1,o2,o3,e]
    rw [if_pos ⟨rfl,by rw [es]; rfl⟩]
   ·cases h
  ·split at h
   ·cases h
   ·rename_i hz
    split at h
    ·rename_i p sz' e xs hx
     rw [hx] at h1
     obtain ⟨Li,r1,r2,r3⟩:=h1
     split at h
     ·rename_i hs
      subst hs
      obtain ⟨a,n,k1,k2,k3,k4⟩:=boundK_some h
      have hlen:lenN (α:=e.den) xs=List.length (α:=e.den) xs:=lenN_def _
      rw [hlen] at k2 k4
      obtain ⟨b,q1,q2,q3,L',q4,q5⟩:=r1.slice k2 hz k3 k4
      refine ⟨_,b,k1,?_,L',q4,fun q=>?_,fun i hi=>r3 i (q5 i hi)⟩
      ·simp only [operV,o1,o2,o3,q1]
       rw [if_pos ⟨q2,q3⟩]
      ·rcases q with q | q
       ·have:=r2 (.inl q)
        subst this
        exact List.eq_nil_iff_forall_not_mem.2 fun i hi=>by simpa using q5 i hi
       ·simp [Kd.flat] at q
     ·cases h
    ·rename_i a hx
     rw [hx] at h1
     split at h
     ·rename_i ro ver tmp sz' e dp xs hc
      split at h
      ·rename_i hs
       subst hs
       obtain ⟨a',n,k1,k2,k3,k4⟩:=boundK_some h
       rcases own_len R h1 hc with ⟨q1,q2,q3⟩ | ⟨o,g,m,off,b,L',q1,q2,q3,q4,q5,q6,q7,_⟩
       ·subst q3
        simp only [List.length_nil] at k2 k4
        obtain rfl:a'=0:=by omega
        obtain rfl:n=0:=by omega
        refine ⟨_,.nils,k1,?_,h1.1,.inl ⟨q2,rfl,rfl,rfl⟩⟩
        have e2:hh.getD 0=0:=by cases hh <;> simp_all
        have:sliceV H (ev E x) l hh none=some .nils:=by
         rw [q1]; simp only [sliceV,k3,e2]; simp
        simp only [operV,o1,o2,o3,this]
        rw [if_pos ⟨rfl,by rw [q1]; simpa [AV.isStr] using hz⟩]
       ·refine ⟨_,.ref o g m (off + a') n,k1,?_,h1.1,.inr ⟨o,g,m,off,xs.length,q2,k2,rfl⟩⟩
        have c:b.gen=g∧b.es.length=m∧0≤l.getD 0∧l.getD 0≤hh.getD (xs.length:Int)∧hh.getD (xs.length:Int) + off≤m∧(True∨((none:Option Int)=some ((m:Int) - off)∧hh≠none)):=by
         rw [k3,k4]; exact ⟨q4,q5,by omega,by omega,by omega,.inl trivial⟩
        have:sliceV H (ev E x) l hh none=some (.ref o g m (off + a') n):=by
         rw [q1]; simp only [sliceV,q3]
         rw [if_pos c,k3,k4]
         rw [show ((a':Int) + n - a').toNat=n from by omega,show (a':Int).toNat=a' from by omega]
        simp only [operV,o1,o2,o3,this]
        rw [if_pos ⟨by simp only [szOk,szOf,q3,q7]; simp,by rw [q1]; simpa [AV.isStr] using hz⟩]
      ·cases h
     ·cases h
    ·rename_i hx
     rw [hx] at h1
     have h1:ev E x = .nils:=h1
     obtain ⟨g1,g2⟩:=guardK_some h
     have g3:l.getD 0=0∧hh.getD 0=0:=by
      cases l <;> cases hh <;> simp_all
     refine ⟨_,.nils,g2,?_,rfl⟩
     have:sliceV H (ev E x) l hh none=some .nils:=by
      rw [h1]; simp only [sliceV,g3.1,g3.2]; simp
     simp only [operV,o1,o2,o3,this]
     rw [if_pos ⟨rfl,by rw [h1]; simpa [AV.isStr] using hz⟩]
    ·cases h
 ·cases h
theorem ok_iaddr {sz:Nat} {x i:Opd} (h:opP hn pm dst ps (.iaddr sz x i) k=some r):PureOK T Rn d dst E ps μ L H nx k r (.iaddr sz x i):=by
 simp only [opP,toN_def,addN_def,dropL_def,gLt_def] at h
 split at h
 ·rename_i kd j hj
  have ej:=intP_rel hj (R.pev i)
  have h1:=R.pev x
  split at h
  ·rename_i p sz' e xs hx
   rw [hx] at h1
   obtain ⟨Li,r1,r2,r3⟩:=h1
   split at h
   ·rename_i hs
    subst hs
    obtain ⟨h0,y,hy,hk⟩:=idxK_some h
    rcases r1 with ⟨q1,q2,_⟩ | ⟨_,z,ts,q1,q2,q3,q4⟩ | ⟨o,g,n,off,len,b,L',q1,q2,q3,q4,q5,q6,q7,q8,q9⟩
    ·have q2:xs=[]:=q2
     subst q2; simp at hy
    ·obtain ⟨v,L1,s1,s2,s3⟩:=q3.get _ y hy
     rw [List.getElem?_map] at s1
     cases ht:ts[j.toNat]? with
     | none=>rw [ht] at s1; cases s1
     | some t=>
      rw [ht] at s1
      cases s1
      have:L1=[]:=List.eq_nil_iff_forall_not_mem.2 fun i hi=>by simpa using s3 i hi
      subst this
      refine ⟨_,.tptr t 0,hk,?_,.inl ⟨t,rfl,s2⟩⟩
      simp only [operV,ej,intOfV,q1]
      rw [if_pos h0]
      simp only [ht]
      rw [if_pos]
      rcases q2 with q2 | q2
      ·exact q2
      ·subst q2; simp at ht
    ·subst q8
     obtain ⟨v,L1,s1,s2,s3⟩:=q7.get _ y hy
     have hlt:j.toNat < len:=by
      have:=RepL.len q7
      simp only [List.length_take,List.length_drop] at this
      have:=(List.getElem?_eq_some_iff.1 hy).1
      omega
     rw [List.getElem?_take_of_lt hlt,List.getElem?_drop] at s1
     have hp:p=false:=by
      cases p with
      | false=>rfl
      | true=>have:=r2 (.inl rfl); cases this
     have hsz:sz=e.cn:=q9.2
     have q2:H o=some b:=q2
     refine ⟨_,.ptr o g n (off + j.toNat) 0,hk,?_,.inr ⟨hp,o,g,n,off + j.toNat,b,v,L1,rfl,q2,q3,q4,by rw [q6]; exact hsz,s1,s2,r3 o (by simp),fun i hi=>r3 i (by simp [s3 i hi])⟩⟩
     simp only [operV,ej,intOfV,q1]
     rw [if_pos h0]
     simp only [q2]
     rw [if_pos ⟨q3,q4,q5,hlt,q6⟩]
   ·cases h
  ·rename_i a hx
   rw [hx] at h1
   split at h
   ·rename_i ro ver tmp sz' e dp xs hc
    split at h
    ·rename_i hs
     subst hs
     obtain ⟨h0,y,hy,hk⟩:=idxK_some h
     have hlt:=(List.getElem?_eq_some_iff.1 hy).1
     rcases own_len R h1 hc with ⟨q1,q2,q3⟩ | ⟨o,g,m,off,b,L',q1,q2,q3,q4,q5,q6,q7,_⟩
     ·subst q3; simp at hy
     ·refine ⟨_,.ptr o g m (off + j.toNat) 0,hk,?_,h1.1,o,g,m,off,xs.length,q2,hlt,rfl,?_⟩
      ·simp only [operV,ej,intOfV,q1]
       rw [if_pos h0]
       simp only [q3]
       rw [if_pos ⟨q4,q5,q6,hlt,q7⟩]
      ·intro ro' ver' tmp' sz'' e' dp' xs' hc'
       have:=hc.symm.trans hc'
       cases this
       exact ⟨Nat.le_refl _,fun _=>⟨y,castK_self y,hy⟩⟩
    ·cases h
   ·cases h
  ·rename_i a off len hx
   rw [hx] at h1
   split at h
   ·rename_i ro ver tmp sz' e dp xs hc
    split at h
    ·rename_i hs
     subst hs
     obtain ⟨g1,g2⟩:=guardK_some h
     have g1:j.toNat < len:=of_decide_eq_true g1
     obtain ⟨h0,y,hy,hk⟩:=idxK_some g2
     simp only [List.getElem?_drop] at hy
     have hlt:=(List.getElem?_eq_some_iff.1 hy).1
     obtain ⟨w0,w1⟩:=h1
     have hown:VR ⟨d,ps.heap,μ,L,H,nx⟩ (.own a) (μ a):=by
      refine ⟨w0,rfl,?_⟩
      rcases w1 with ⟨q,_⟩ | ⟨o,g,n,off0,len0,q,_⟩ <;> (show isRef (μ a); rw [show μ a=_ from q]; trivial)
     rcases own_len R hown hc with ⟨q1,q2,q3⟩ | ⟨o,g,m,off0,b,L',q1,q2,q3,q4,q5,q6,q7,_⟩
     ·subst q3; simp at hy
     ·rcases w1 with ⟨q,_⟩ | ⟨o',g',n',off0',len0',q,w2,w3⟩
      ·have q:μ a = .nils:=q
       rw [q2] at q; cases q
      ·have q:μ a=_:=q
       rw [q2] at q
       cases q
       refine ⟨_,.ptr o g m (off0 + off + j.toNat) 0,hk,?_,w0,o,g,m,off0,xs.length,q2,hlt,?_,?_⟩
       ·simp only [operV,ej,intOfV,w3]
        rw [if_pos h0]
        simp only [q3]
        rw [if_pos ⟨q4,q5,by omega,g1,q7⟩]
       ·simp only [Nat.add_assoc]
       ·intro ro' ver' tmp' sz'' e' dp' xs' hc'
        have:=hc.symm.trans hc'
        cases this
        exact ⟨Nat.le_refl _,fun _=>⟨y,castK_self y,hy⟩⟩
    ·cases h
   ·cases h
  ·cases h
 ·cases h
end
end Go.Am
/- The machine on typed data against the small machine: operations that make objects. -/
namespace Go.Am
def updN {α:Type} (f:Nat→α) (n:Nat) (x:α):Nat→α:=fun a=>if a=n then x else f a
theorem updN_at {α:Type} {f:Nat→α} {n:Nat} {x:α}:updN f n x n=x:=by simp [updN]
theorem updN_ne {α:Type} {f:Nat→α} {n a:Nat} {x:α} (h:a≠n):updN f n x a=f a:=by simp [updN,h]
section
variable {T:Tab} {Rn:Run} {d:Nat} {anV:List AV} {P0:Id→Prop} {H0:Heap} {ps:PS} {μ:Nat→AV} {L:Nat→List Id} {E:AEnv} {H:Heap} {nx:Nat} {dst:Option Nat} {hn:Hints} {pm:List Nat} {ρ:Type} {r:ρ} {k:PV→PS→Option ρ}
def EWv (v v':PV):Prop:=v'=v∨v' = .undef∨∃ c off,v = .cp c off
def EW (e e':List (Nat×PV)):Prop:=∀ t,EWv (look e t) (look e' t)
theorem EW.refl (e:List (Nat×PV)):EW e e:=fun _=>.inl rfl
theorem EW.kill (t:Nat) (e:List (Nat×PV)):EW e (killE t e):=fun u=>(look_kill t e u).elim (fun h=>.inr (.inl h)) fun h=>.inl h.1
theorem EW.killTo (tm:Option Nat) (e:List (Nat×PV)):EW e (killTo tm e):=by
 cases tm with
 | none=>exact EW.refl e
 | some t=>exact EW.kill t e
def LB (hp hp':List (Option PObj)):Prop:=∀ a,a < hp.length→live hp' a→live hp a
theorem LB.refl (hp:List (Option PObj)):LB hp hp:=fun _ _ h=>h
theorem LB.app {hp hp' q:List (Option PObj)} (h:LB hp hp') (hl:hp.length=hp'.length):LB hp (hp'++q):=fun a ha hh=>by
 unfold live at hh
 rw [hget_append,if_pos (by omega)] at hh
 exact h a ha hh
theorem LB.del {hp hp':List (Option PObj)} (h:LB hp hp') (ns:List Nat):LB hp (delN hp' ns):=by
 intro a ha hh
 unfold live at hh
 rw [hget_delN] at hh
 split at hh
 ·cases hh
 ·exact h a ha hh
theorem LB.delT {hp hp':List (Option PObj)} (h:LB hp hp') (t:Nat):LB hp (delT t hp'):=by
 intro a ha hh
 obtain ⟨ob,hob⟩:=Option.isSome_iff_exists.1 hh
 exact h a ha (Option.isSome_iff_exists.2 ⟨ob,(hget_delT.1 hob).1⟩)
theorem LB.delTo {hp hp':List (Option PObj)} (h:LB hp hp') (tm:Option Nat):LB hp (delTo tm hp'):=by
 cases tm with
 | none=>exact h
 | some t=>exact h.delT t
theorem LB.set {hp:List (Option PObj)} {c:Nat} {x:Option PObj} (h:x.isSome=true→live hp c):LB hp (hset hp c x):=by
 intro a ha hh
 unfold live at hh
 rw [hget_hset] at hh
 split at hh
 ·rename_i e; rw [e.1]; exact h hh
 ·exact hh
theorem LB.newSl (ps:PS) (tm:Option Nat) (ds:List Nat) (sz:Nat) (e:Kd) (dp:Bool) (xs:List e.den):LB ps.heap (ps.newSl tm ds sz e dp xs).heap:=
 (((LB.refl _).del ds).delTo tm).app (by cases tm <;> simp [Go.Am.delTo,delN_length,delT_length])
theorem keepL {n:Nat} {μ μ':Nat→AV} {L L':Nat→List Id} {P:Prop} (h:∀ a,a < n→μ' a=μ a∧L' a=L a):∀ a,a < n→μ' a=μ a∧(P→L' a=L a):=fun a ha=>⟨(h a ha).1,fun _=>(h a ha).2⟩
def OpOK (T:Tab) (Rn:Run) (d:Nat) (anV:List AV) (P0:Id→Prop) (H0:Heap) (dst:Option Nat) (E:AEnv) (ps:PS) (μ:Nat→AV) (L:Nat→List Id) (H:Heap) (nx:Nat) {ρ:Type} (k:PV→PS→Option ρ) (r:ρ) (o:AOp):Prop:=
 ∃ v ps' av μ' L' H' nx',k v ps'=some r∧operV T Rn (8 * d) dst E H nx o=some (av,H',nx')∧Rel d anV P0 H0 ps' μ' L' E H' nx'∧(dst≠none→VR ⟨d,ps'.heap,μ',L',H',nx'⟩ v av) ∧
  ps.heap.length≤ps'.heap.length∧(∀ a,a < ps.heap.length→μ' a=μ a∧(deepSt ps o=false→L' a=L a))∧nx≤nx'∧ps'.anc=ps.anc∧EW ps.env ps'.env∧LB ps.heap ps'.heap
theorem PureOK.op (R:Rel d anV P0 H0 ps μ L E H nx) {o:AOp} (h:PureOK T Rn d dst E ps μ L H nx k r o):OpOK T Rn d anV P0 H0 dst E ps μ L H nx k r o:=by
 obtain ⟨v,av,h1,h2,h3⟩:=h
 exact ⟨v,ps,av,μ,L,H,nx,h1,h2,R,fun _=>h3,Nat.le_refl _,fun _ _=>⟨rfl,fun _=>rfl⟩,Nat.le_refl _,rfl,EW.refl _,LB.refl _⟩
theorem live_iff {hp:List (Option PObj)} {a:Nat}:live hp a↔∃ ob,hget hp a=some ob:=Option.isSome_iff_exists
theorem Rel.newSl (R:Rel d anV P0 H0 ps μ L E H nx) {tm:Option Nat} (ds:List Nat) {o:Id} {b:Obj} {sz:Nat} {e:Kd} {dp:Bool} {xs:List e.den} {Ln Lx:List Id} {off len:Nat} {nx':Nat}
  (hds:∀ a∈ds,∃ ob,hget ps.heap a=some ob∧roOf ob=false)
  (ho:NewI d nx tm o∨∃ a∈ds,(L a).head? = some o) (hLn:∀ i∈Ln,∃ a∈ds,i∈L a) (hold:∀ i∈Ln,oldI d nx i) (hnd:(o :: Ln).Nodup)
  (hnx:nx≤nx') (hfr:∀ k,nx'≤k→o ≠ .dy k) (hage:ageI d nx' tm o) (hp:∀ t,tm=some t→¬ P0 (.st d t)) (htm0:∀ t,tm=some t→o = .st d t)
  (hsz:sz=e.cn) (hsz0:0 < sz) (hbs:b.sz=sz) (hbw:b.w=true) (hol:off + len≤b.es.length)
  (hrep:RepL (Rep dp H e) xs ((b.es.drop off).take len) Lx) (hdp:dp=true→Lx=Ln) (hdp2:dp=false→Ln=[]∧∀ i∈Lx,(⟨d,ps.heap,μ,L,H,nx⟩:Vw).Imm i)
  (hfine:∀ x∈b.es,stor x=true∧x.cells.length=sz∧(dp=true→fineV (· ∈ Ln) x))
  (houts:dp=true→∀ x∈outW b.es off len,fineV (fun _=>False) x) :
  Rel d anV P0 H0 (ps.newSl tm ds sz e dp xs) (updN μ ps.heap.length (.ref o b.gen b.es.length off len)) (updN L ps.heap.length (o :: Ln)) E (hupd H o b) nx' ∧
   VR ⟨d,(ps.newSl tm ds sz e dp xs).heap,updN μ ps.heap.length (.ref o b.gen b.es.length off len),updN L ps.heap.length (o :: Ln),hupd H o b,nx'⟩ (.own ps.heap.length) (.ref o b.gen b.es.length off len) ∧
   ps.heap.length≤(ps.newSl tm ds sz e dp xs).heap.length∧∀ a,a < ps.heap.length→updN μ ps.heap.length (.ref o b.gen b.es.length off len) a=μ a∧updN L ps.heap.length (o :: Ln) a=L a:=by
 have hlen:(delTo tm (delN ps.heap ds)).length=ps.heap.length:=by rw [delTo_length,delN_length]
 have hp':∀ {a:Nat} {ob:PObj},hget (ps.newSl tm ds sz e dp xs).heap a=some ob→a≠ps.heap.length→hget ps.heap a=some ob∧a ∉ ds∧(∀ t,tm=some t→tmpO ob≠some t)∧a < ps.heap.length:=by
  intro a ob h hne
  have h:hget (delTo tm (delN ps.heap ds)++[some (.sl false 0 tm sz e dp xs)]) a=some ob:=h
  rw [hget_append,hlen] at h
  split at h
  ·rename_i hlt
   obtain ⟨h1,h2⟩:=hget_delTo.1 h
   rw [hget_delN] at h1
   split at h1
   ·cases h1
   ·rename_i hnin
    exact ⟨h1,hnin,h2,hlt⟩
  ·rename_i hlt
   rw [hget_ge (by simp; omega)] at h
   cases h
 have hnew:hget (ps.newSl tm ds sz e dp xs).heap ps.heap.length=some (.sl false 0 tm sz e dp xs):=by
  show hget (delTo tm (delN ps.heap ds)++[some (.sl false 0 tm sz e dp xs)]) ps.heap.length=_
  rw [hget_append,hlen,if_neg (by omega),Nat.sub_self]; rfl
 have hout:∀ {a:Nat} {ob:PObj},hget ps.heap a=some ob→a ∉ ds→(∀ t,tm=some t→tmpO ob≠some t)→∀ i∈o :: Ln,i ∉ L a:=by
  intro a ob ha hnin htm i hi hia
  have hla:live ps.heap a:=live_iff.2 ⟨ob,ha⟩
  have clash:∀ c∈ds,i∈L c→False:=by
   intro c hc hic
   obtain ⟨oc,hoc,_⟩:=hds c hc
   exact R.dis a c (fun e=>hnin (e ▸ hc)) hla (live_iff.2 ⟨oc,hoc⟩) i hia hic
  rcases List.mem_cons.1 hi with rfl | hi
  ·rcases ho with ho | ⟨c,hc,hh⟩
   ·have hag:=R.age a ob ha i hia
    rcases ho with ⟨q,rfl,hq⟩ | ⟨t,rfl,ht⟩
    ·have:q < nx:=hag
     omega
    ·rcases hag with hag | hag
     ·omega
     ·exact htm t ht hag.2
   ·exact clash c hc (List.mem_of_head? hh)
  ·obtain ⟨c,hc,hic⟩:=hLn i hi
   exact clash c hc hic
 have ho_imm:∀ i,(⟨d,ps.heap,μ,L,H,nx⟩:Vw).Imm i→i≠o:=by
  rintro i ⟨h1,h2⟩ rfl
  rcases ho with (⟨q,rfl,hq⟩ | ⟨t,rfl,ht⟩) | ⟨c,hc,hh⟩
  ·have:q < nx:=h2
   omega
  ·have:d < d:=h2
   omega
  ·obtain ⟨oc,hoc,_⟩:=hds c hc
   exact h1 ⟨c,live_iff.2 ⟨oc,hoc⟩,hh⟩
 have hmu:∀ a,a < ps.heap.length→updN μ ps.heap.length (.ref o b.gen b.es.length off len) a=μ a:=fun a ha=>updN_ne (by omega)
 have hL:∀ a,a < ps.heap.length→updN L ps.heap.length (o :: Ln) a=L a:=fun a ha=>updN_ne (by omega)
 have g:Grow ⟨d,ps.heap,μ,L,H,nx⟩ ⟨d,(ps.newSl tm ds sz e dp xs).heap,updN μ ps.heap.length (.ref o b.gen b.es.length off len),updN L ps.heap.length (o :: Ln),hupd H o b,nx'⟩ tm:=by
  refine Grow.of rfl ?_ hmu ?_ hnx ?_ ?_
  ·show ps.heap.length≤(delTo tm (delN ps.heap ds)++[_]).length
   rw [List.length_append,hlen]; omega
  ·intro a ha
   cases hx:hget (ps.newSl tm ds sz e dp xs).heap a with
   | none=>cases hget ps.heap a <;> trivial
   | some ob=>
    have ha:a < ps.heap.length:=ha
    have:=(hp' hx (by omega)).1
    show laterO (hget ps.heap a) (some ob)
    rw [this]; exact laterO.refl _
  ·intro i h1 h2
   show hupd H o b i=H i
   refine hupd_ne H b ?_
   rintro rfl
   rcases ho with ho | ⟨c,hc,hh⟩
   ·exact h2 ho
   ·obtain ⟨oc,hoc,_⟩:=hds c hc
    exact h1 ⟨c,live_iff.2 ⟨oc,hoc⟩,hh⟩
  ·rintro i ⟨a,ha,htop⟩
   obtain ⟨ob,hob⟩:=live_iff.1 ha
   by_cases hane:a=ps.heap.length
   ·subst hane
    have htop:(updN L ps.heap.length (o :: Ln) ps.heap.length).head? = some i:=htop
    rw [updN_at] at htop
    cases htop
    rcases ho with ho | ⟨c,hc,hh⟩
    ·exact .inr ho
    ·obtain ⟨oc,hoc,_⟩:=hds c hc
     exact .inl ⟨c,live_iff.2 ⟨oc,hoc⟩,hh⟩
   ·obtain ⟨h1,_,_,h4⟩:=hp' hob hane
    have htop:(updN L ps.heap.length (o :: Ln) a).head? = some i:=htop
    rw [hL a h4] at htop
    exact .inl ⟨a,live_iff.2 ⟨ob,h1⟩,htop⟩
 have hon:o ∉ Ln:=(List.nodup_cons.1 hnd).1
 have hrep':RepL (Rep dp (hupd H o b) e) xs ((b.es.drop off).take len) Lx:=by
  refine RepL.frame (fun i hi=>hupd_ne H b ?_) hrep
  cases dp with
  | true=>rintro rfl; exact hon (by rw [← hdp rfl]; exact hi)
  | false=>exact ho_imm i ((hdp2 rfl).2 i hi)
 have hP0o:¬ P0 o:=by
  rcases ho with (⟨q,rfl,hq⟩ | ⟨t,rfl,ht⟩) | ⟨c,hc,hh⟩
  ·exact R.p2 q hq
  ·exact hp t ht
  ·obtain ⟨oc,hoc,hro⟩:=hds c hc
   exact R.p1 c oc hoc hro o (List.mem_of_head? hh)
 have hsl:SlR ⟨d,(ps.newSl tm ds sz e dp xs).heap,updN μ ps.heap.length (.ref o b.gen b.es.length off len),updN L ps.heap.length (o :: Ln),hupd H o b,nx'⟩ ps.heap.length false sz e dp xs:=by
  refine ⟨hsz,hsz0,.inr ⟨o,b.gen,b.es.length,off,len,b,Lx,updN_at,hupd_same H o b,rfl,rfl,hol,hbs,fun _=>hbw,hrep',?_,?_,fun q i hi=>(g.imm i ((hdp2 q).2 i hi)).2,houts⟩⟩
  ·intro x hx
   exact ⟨(hfine x hx).1,(hfine x hx).2.1,fun q=>by rw [hdp q]; exact (hfine x hx).2.2 q⟩
  ·show updN L ps.heap.length (o :: Ln) ps.heap.length=_
   rw [updN_at]
   cases dp with
   | true=>rw [if_pos rfl,hdp rfl]
   | false=>rw [if_neg (by simp),(hdp2 rfl).1]
 refine ⟨?_,⟨?_,updN_at.symm,trivial⟩,g.len,fun a ha=>⟨hmu a ha,hL a ha⟩⟩
 ·refine Rel.next R (tm:=tm) (Ch:=fun a=>a=ps.heap.length) g (look_killTo tm ps.env) ?_ ?_ hnx ?_ ?_
  ·intro a ob ha hne
   obtain ⟨h1,h2,h3,h4⟩:=hp' ha hne
   refine ⟨h1,hL a h4,fun i hi=>hupd_ne H b ?_⟩
   rintro rfl
   exact hout h1 h2 h3 i (by simp) hi
  ·rintro a ob ha rfl
   have ha:=hnew.symm.trans ha
   cases ha
   rw [updN_at]
   refine ⟨hsl,hnd,?_,?_,?_,fun t ht q hq=>by cases hq; exact htm0 t ht,?_⟩
   ·intro i hi
    rcases List.mem_cons.1 hi with rfl | hi
    ·exact hage
    ·have:=hold i hi
     cases i with
     | dy q=>exact Nat.lt_of_lt_of_le this hnx
     | st d' t=>exact .inl this
     | ex=>exact this
   ·intro _ i hi
    rcases List.mem_cons.1 hi with rfl | hi
    ·exact hP0o
    ·obtain ⟨c,hc,hic⟩:=hLn i hi
     obtain ⟨oc,hoc,hro⟩:=hds c hc
     exact R.p1 c oc hoc hro i hic
   ·intro i hi
    have:=hold i hi
    cases i with
    | dy q=>exact Nat.lt_of_lt_of_le this hnx
    | st d' t=>exact this
    | ex=>exact this
   ·intro c hne hlc i hi
    obtain ⟨oc,hoc⟩:=live_iff.1 hlc
    obtain ⟨h1,h2,h3,h4⟩:=hp' hoc hne
    rw [hL c h4]
    exact hout h1 h2 h3 i hi
  ·intro q hq
   rw [hupd_ne H b (fun e=>hfr q hq e.symm)]
   exact R.fresh q (Nat.le_trans hnx hq)
  ·intro i hi
   refine hupd_ne H b ?_
   rintro rfl
   exact hP0o hi
 ·show ps.heap.length < (delTo tm (delN ps.heap ds)++[_]).length
  rw [List.length_append,hlen]; simp
theorem nodupB_spec:∀ {l:List Nat},nodupB l=true→l.Nodup
 | [],_=>List.nodup_nil
 | a :: r,h=>by
  simp only [nodupB,Bool.and_eq_true,Bool.not_eq_true'] at h
  refine List.nodup_cons.2 ⟨fun hm=>?_,nodupB_spec h.2⟩
  have:=h.1
  simp [hm] at this
theorem OwnN.rel (R:Rel d anV P0 H0 ps μ L E H nx) {ns:List Nat} (h:OwnN ⟨d,ps.heap,μ,L,H,nx⟩ ns):(∀ a∈ns,∃ ob,hget ps.heap a=some ob∧roOf ob=false∧tmpO ob=none):=by
 intro a ha
 obtain ⟨ver,sz,e,xs,hx⟩:=h a ha
 exact ⟨_,hx,rfl,rfl⟩
theorem ids_old (R:Rel d anV P0 H0 ps μ L E H nx) {a:Nat} {ob:PObj} (ha:hget ps.heap a=some ob) (ht:tmpO ob=none):∀ i∈L a,oldI d nx i:=by
 intro i hi
 have:=R.age a ob ha i hi
 cases i with
 | dy q=>exact this
 | st d' t=>
  rcases this with h | h
  ·exact h
  ·rw [ht] at h; cases h.2
 | ex=>exact this
theorem idsN_nodup (R:Rel d anV P0 H0 ps μ L E H nx):∀ {ns:List Nat},ns.Nodup→(∀ a∈ns,live ps.heap a)→(idsN L ns).Nodup
 | [],_,_=>List.nodup_nil
 | a :: r,h,hl=>by
  simp only [idsN]
  obtain ⟨h1,h2⟩:=List.nodup_cons.1 h
  refine List.nodup_append.2 ⟨R.nd a (hl a (by simp)),idsN_nodup R h2 (fun b hb=>hl b (by simp [hb])),?_⟩
  intro i hi j hj e
  subst e
  obtain ⟨b,hb,hib⟩:=mem_idsN.1 hj
  exact R.dis a b (fun e=>h1 (e ▸ hb)) (hl a (by simp)) (hl b (by simp [hb])) i hi hib
theorem elemsP_rel {X:Vw} (hob:Obs X) {e:Kd}:∀ {vs:List PV} {as:List AV} {xs:List e.den} {ns:List Nat} {ow:Bool},VRs X vs as→elemsP X.hp e vs=some (xs,ns,ow) →
  (ow=true→RepL (Rep true X.H e) xs as (idsN X.L ns))∧OwnN X ns∧∃ Lx,RepL (Rep false X.H e) xs as Lx∧(ns=[]→∀ i∈Lx,X.Imm i)
 | [],[],xs,ns,ow,_,h=>by simp only [elemsP] at h; cases h; exact ⟨fun _=>rfl,fun a ha=>(by cases ha),[],rfl,fun _ i hi=>by cases hi⟩
 | [],_ :: _,_,_,_,h,_=>h.elim
 | _ :: _,[],_,_,_,h,_=>h.elim
 | v :: r,a :: as,xs,ns,ow,⟨h1,h2⟩,h=>by
  simp only [elemsP] at h
  split at h
  ·rename_i ys ms ow' hr
   obtain ⟨k1,k2,Lx,k3,k4⟩:=elemsP_rel hob h2 hr
   split at h
   ·rename_i x m hx
    cases h
    obtain ⟨q1,q2⟩:=asOwn_rel hob h1 hx
    refine ⟨fun ho=>⟨_,_,q1,k1 ho,idsN_app⟩,q2.app k2,idsN X.L m++Lx,⟨_,_,Rep.read e x a _ q1,k3,rfl⟩,?_⟩
    intro hn i hi
    have hn:=List.append_eq_nil_iff.1 hn
    rcases List.mem_append.1 hi with hi | hi
    ·rw [hn.1] at hi; cases hi
    ·exact k4 hn.2 i hi
   ·split at h
    ·rename_i x hx hnm
     cases h
     obtain ⟨Li,q1,q2⟩:=asD_rel hob h1 hx
     refine ⟨fun ho=>(by cases ho),k2,Li++Lx,⟨_,_,q1,k3,rfl⟩,?_⟩
     intro hn i hi
     rcases List.mem_append.1 hi with hi | hi
     ·rcases q2 i hi with ⟨b,hb,_⟩ | q
      ·rw [hnm] at hb; cases hb
      ·exact q
     ·exact k4 hn i hi
    ·cases h
  ·cases h
theorem RepL.mem {own:Bool} {H:Heap} {e:Kd}:∀ {xs:List e.den} {vs:List AV} {L:List Id},RepL (Rep own H e) xs vs L→∀ v∈vs,∃ x L',Rep own H e x v L'∧∀ i∈L',i∈L
 | [],[],L,_,v,hv=>by cases hv
 | [],_ :: _,L,h,_,_=>h.elim
 | _ :: _,[],L,h,_,_=>h.elim
 | x :: xs,u :: vs,L,⟨L1,L2,h1,h2,e⟩,v,hv=>by
  subst e
  rcases List.mem_cons.1 hv with rfl | hv
  ·exact ⟨x,L1,h1,fun i hi=>by simp [hi]⟩
  ·obtain ⟨y,L',a,b⟩:=RepL.mem h2 v hv
   exact ⟨y,L',a,fun i hi=>by simp [b i hi]⟩
theorem RepL.fineE {own:Bool} {H:Heap} {e:Kd} {xs:List e.den} {vs:List AV} {L:List Id} (h:RepL (Rep own H e) xs vs L):∀ x∈vs,Go.Am.stor x=true∧x.cells.length=e.cn∧(own=true→fineV (· ∈ L) x):=by
 intro v hv
 obtain ⟨x,L',h1,h2⟩:=h.mem v hv
 refine ⟨h1.stor.1,h1.stor.2.1,fun ho=>?_⟩
 subst ho
 exact fineV_mono h2 v (Rep.fine e x v L' h1)
theorem fits_of {sz:Nat} {es:List AV} (h:∀ x∈es,stor x=true∧x.cells.length=sz):fits sz es=true:=by
 unfold fits
 rw [List.all_eq_true]
 intro x hx
 simp [(h x hx).1,(h x hx).2]
theorem rep_bytes {own:Bool} {H:Heap}:∀ (s:List UInt8),RepL (Rep own H (.int .u8)) (bytesP s) (s.map fun b=>.c (.s (.int .u8 b.toNat))) []
 | []=>by rw [bytesP_def]; rfl
 | b :: q=>by
  have:=rep_bytes (own:=own) (H:=H) q
  rw [bytesP_def] at this ⊢
  exact ⟨[],[],⟨by rw [byteI_def],rfl⟩,this,rfl⟩
variable (R:Rel d anV P0 H0 ps μ L E H nx)
include R
theorem ok_slice_of {tm:Option Nat} {o:Id} {sz:Nat} {e:Kd} {l:List Opd} {xs:List e.den} {ns:List Nat} {ow:Bool} {nx':Nat} (ho:NewI d nx tm o) (hnx:nx≤nx') (hfr:∀ k,nx'≤k→o ≠ .dy k) (hage:ageI d nx' tm o) (hp:∀ t,tm=some t→¬ P0 (.st d t)) (htm0:∀ t,tm=some t→o = .st d t)
  (hsz:sz=e.cn) (hsz0:0 < sz) (he:elemsP ps.heap e (l.map (pev ps))=some (xs,ns,ow)) (hn:nodupB ns=true) (how:ow=true∨ns=[]) (hk:k (.own ps.heap.length) (ps.newSl tm ns sz e ow xs)=some r)
  {op:AOp} (hop:operV T Rn (8 * d) dst E H nx op=(if fits sz (l.map (ev E))=true then some (.ref o (genAt H o) l.length 0 l.length,hupd H o ⟨genAt H o,sz,true,l.map (ev E)⟩,nx') else none)):OpOK T Rn d anV P0 H0 dst E ps μ L H nx k r op:=by
 obtain ⟨k1,k2,Lx,k3,k4⟩:=elemsP_rel R.obs (R.pevs l) he
 have hown:=OwnN.rel R k2
 have hlive:∀ a∈ns,live ps.heap a:=fun a ha=>(hown a ha).elim fun ob h=>live_iff.2 ⟨ob,h.1⟩
 have hfe:=k3.fineE
 have hlen:xs.length=l.length:=by rw [RepL.len k3]; simp
 have hLn:∃ Ln Lx',RepL (Rep ow H e) xs (l.map (ev E)) Lx'∧(ow=true→Lx'=Ln)∧(ow=false→Ln=[]∧∀ i∈Lx',(⟨d,ps.heap,μ,L,H,nx⟩:Vw).Imm i)∧(∀ i∈Ln,∃ a∈ns,i∈L a)∧Ln.Nodup:=by
  cases ow with
  | true=>exact ⟨idsN L ns,idsN L ns,k1 rfl,fun _=>rfl,fun h=>(by cases h),fun i hi=>mem_idsN.1 hi,idsN_nodup R (nodupB_spec hn) hlive⟩
  | false=>
   have:ns=[]:=how.resolve_left (by simp)
   exact ⟨[],Lx,k3,fun h=>(by cases h),fun _=>⟨rfl,k4 this⟩,fun i hi=>(by cases hi),List.nodup_nil⟩
 obtain ⟨Ln,Lx',q1,q2,q3,q4,q5⟩:=hLn
 have hold:∀ i∈Ln,oldI d nx i:=by
  intro i hi
  obtain ⟨a,ha,hia⟩:=q4 i hi
  obtain ⟨ob,h1,_,h3⟩:=hown a ha
  exact ids_old R h1 h3 i hia
 have hon:o ∉ Ln:=by
  intro hm
  have:=hold o hm
  rcases ho with ⟨q,rfl,hq⟩ | ⟨t,rfl,ht⟩
  ·have:q < nx:=this
   omega
  ·have:d < d:=this
   omega
 have hfits:fits sz (l.map (ev E))=true:=fits_of fun x hx=>⟨(hfe x hx).1,by rw [(hfe x hx).2.1,hsz]⟩
 have hall:(l.map (ev E)).take l.length=l.map (ev E):=List.take_of_length_le (by simp)
 obtain ⟨r1,r2,r3,r4⟩:=R.newSl (tm:=tm) ns (o:=o) (b:=⟨genAt H o,sz,true,l.map (ev E)⟩) (sz:=sz) (e:=e) (dp:=ow) (xs:=xs) (Ln:=Ln) (Lx:=Lx') (off:=0) (len:=l.length) (nx':=nx')
  (fun a ha=>(hown a ha).elim fun ob h=>⟨ob,h.1,h.2.1⟩) (.inl ho) q4 hold (List.nodup_cons.2 ⟨hon,q5⟩) hnx hfr hage hp htm0 hsz hsz0 rfl rfl (by simp) (by rw [List.drop_zero]; show RepL _ _ ((l.map (ev E)).take l.length) _; rw [hall]; exact q1) q2 q3
  (fun x hx=>⟨(hfe x hx).1,by rw [(hfe x hx).2.1,hsz],fun ho=>by
   have q1':RepL (Rep true H e) xs (l.map (ev E)) Lx':=by rw [← ho]; exact q1
   rw [← q2 ho]; exact (q1'.fineE x hx).2.2 rfl⟩) (fun _ x hx=>(outW_all (by simp) hx).elim)
 have hle:(l.map (ev E)).length=l.length:=by simp
 refine ⟨_,_,.ref o (genAt H o) l.length 0 l.length,_,_,_,nx',hk,?_,r1,fun _=>?_,r3,keepL r4,hnx,rfl,EW.killTo _ _,LB.newSl _ _ _ _ _ _ _⟩
 ·rw [hop,if_pos hfits]
 ·have:=r2
  simp only [hle] at this ⊢
  exact this
theorem ok_bsliceD {sz:Nat} {l:List Opd} (h:opP hn pm dst ps (.bsliceD sz l) k=some r):OpOK T Rn d anV P0 H0 dst E ps μ L H nx k r (.bsliceD sz l):=by
 simp only [opP] at h
 split at h
 ·rename_i sz' e he
  split at h
  ·rename_i hc
   split at h
   ·rename_i xs ns ow hx
    split at h
    ·rename_i hc2
     exact ok_slice_of R (tm:=none) (.inl ⟨nx,rfl,Nat.le_refl _⟩) (Nat.le_succ nx) (fun q hq e=>by cases e; omega) (Nat.lt_succ_self nx) (fun t ht=>by cases ht) (fun t ht=>by cases ht) hc.2.1 hc.2.2 hx hc2.1 hc2.2 h (by simp only [operV])
    ·cases h
   ·cases h
  ·cases h
 ·cases h
theorem ok_bslice {sz:Nat} {l:List Opd} (hp:∀ t,dst=some t→¬ P0 (.st d t)) (h:opP hn pm dst ps (.bslice sz l) k=some r):OpOK T Rn d anV P0 H0 dst E ps μ L H nx k r (.bslice sz l):=by
 simp only [opP] at h
 split at h
 ·rename_i t sz' e he
  split at h
  ·rename_i hc
   split at h
   ·rename_i xs ns ow hx
    split at h
    ·rename_i hc2
     exact ok_slice_of R (tm:=some t) (.inr ⟨t,rfl,rfl⟩) (Nat.le_refl nx) (fun q hq e=>by cases e) (.inr ⟨rfl,rfl⟩) (fun t' ht=>by cases ht; exact hp _ rfl) (fun t' ht=>by cases ht; rfl) hc.2.1 hc.2.2 hx hc2.1 hc2.2 h (by simp only [operV,sid8])
    ·cases h
   ·cases h
  ·cases h
 ·cases h
theorem ok_fresh {sz:Nat} {e:Kd} {xs:List e.den} {es:List AV} (hsz:sz=e.cn) (hsz0:0 < sz) (hr:RepL (Rep true H e) xs es []) (hk:k (.own ps.heap.length) (ps.newSl none [] sz e true xs)=some r)
  {op:AOp} (hop:operV T Rn (8 * d) dst E H nx op=some (.ref (.dy nx) (genAt H (.dy nx)) es.length 0 es.length,hupd H (.dy nx) ⟨genAt H (.dy nx),sz,true,es⟩,nx + 1)):OpOK T Rn d anV P0 H0 dst E ps μ L H nx k r op:=by
 have hfe:=hr.fineE
 obtain ⟨r1,r2,r3,r4⟩:=R.newSl (tm:=none) [] (o:=.dy nx) (b:=⟨genAt H (.dy nx),sz,true,es⟩) (sz:=sz) (e:=e) (dp:=true) (xs:=xs) (Ln:=[]) (Lx:=[]) (off:=0) (len:=es.length) (nx':=nx + 1)
  (fun a ha=>by cases ha) (.inl (.inl ⟨nx,rfl,Nat.le_refl _⟩)) (fun i hi=>by cases hi) (fun i hi=>by cases hi) (List.nodup_cons.2 ⟨by simp,List.nodup_nil⟩) (Nat.le_succ nx) (fun q hq e=>by cases e; omega) (Nat.lt_succ_self nx) (fun t ht=>by cases ht) (fun t ht=>by cases ht) hsz hsz0 rfl rfl (by simp)
  (by rw [List.drop_zero]; show RepL _ _ (es.take es.length) _; rw [List.take_length]; exact hr) (fun _=>rfl) (fun h=>by cases h) (fun x hx=>⟨(hfe x hx).1,by rw [(hfe x hx).2.1,hsz],(hfe x hx).2.2⟩) (fun _ x hx=>(outW_all (Nat.le_refl _) hx).elim)
 exact ⟨_,_,_,_,_,_,nx + 1,hk,hop,r1,fun _=>r2,r3,keepL r4,Nat.le_succ nx,rfl,EW.killTo none ps.env,LB.newSl _ _ _ _ _ _ _⟩
theorem ok_s2b {x:Opd} (h:opP hn pm dst ps (.s2b x) k=some r):OpOK T Rn d anV P0 H0 dst E ps μ L H nx k r (.s2b x):=by
 simp only [opP] at h
 split at h
 ·rename_i s hs
  have es:=bytP_rel hs (R.pev x)
  obtain ⟨h1,h2⟩:=guardK_some h
  rw [gS2b_def] at h1
  have h1:s.length≤4294967296:=of_decide_eq_true h1
  refine ok_fresh R (sz:=1) (e:=.int .u8) (xs:=bytesP s) (es:=s.map fun b=>.c (.s (.int .u8 b.toNat))) rfl (by omega) ?_ h2 ?_
  ·exact rep_bytes s
  ·simp only [operV,es,size_mk]
   rw [if_pos h1]
   simp [bytesVs]
 ·cases h
theorem ok_mksl {sz:Nat} {z:AV} {n:Opd} (h:opP hn pm dst ps (.mksl sz z n) k=some r):OpOK T Rn d anV P0 H0 dst E ps μ L H nx k r (.mksl sz z n):=by
 simp only [opP] at h
 split at h
 ·rename_i sz' e kd m he hm
  have em:=intP_rel hm (R.pev n)
  split at h
  ·rename_i hc
   split at h
   ·rename_i zx ns hz
    obtain ⟨h1,h2⟩:=guardK_some h
    rw [gMk_def] at h1
    have h1:0≤m∧m * sz≤4294967296:=of_decide_eq_true h1
    let X0:Vw:=⟨d,[],μ,L,H,nx⟩
    obtain ⟨q1,q2⟩:=asOwn_rel (X:=X0) (fun a ob ha=>by simp [X0,hget] at ha) (constA_rel z) hz
    have hns:ns=[]:=by
     cases ns with
     | nil=>rfl
     | cons a q=>obtain ⟨_,_,_,_,ha⟩:=q2 a (by simp); simp [X0,hget] at ha
    subst hns
    have q1:Rep true H e zx z []:=q1
    refine ok_fresh R (sz:=sz) (e:=e) (xs:=repL (toN m) zx) (es:=List.replicate m.toNat z) hc.2.1 hc.2.2 ?_ h2 ?_
    ·rw [repL_def,toN_def]
     generalize m.toNat=q
     induction q with
     | zero=>rfl
     | succ q ih=>exact ⟨[],[],q1,ih,rfl⟩
    ·simp only [operV,em,intOfV]
     rw [if_pos ⟨h1.1,h1.2,q1.stor.1,by rw [q1.stor.2.1]; exact hc.2.1.symm⟩]
     simp
   ·cases h
  ·cases h
 ·cases h
end
end Go.Am
/- The machine on typed data against the small machine: cells,and what is written. -/
namespace Go.Am
section
variable {T:Tab} {Rn:Run} {d:Nat} {anV:List AV} {P0:Id→Prop} {H0:Heap} {ps:PS} {μ:Nat→AV} {L:Nat→List Id} {E:AEnv} {H:Heap} {nx:Nat} {dst:Option Nat} {hn:Hints} {pm:List Nat} {ρ:Type} {r:ρ} {k:PV→PS→Option ρ}
theorem Rel.chg (R:Rel d anV P0 H0 ps μ L E H nx) {tm:Option Nat} {env':List (Nat×PV)} {hp':List (Option PObj)} {H':Heap} (Wr:Id→Prop)
  (hlen:hp'.length=ps.heap.length) (hWr:∀ i,Wr i→(⟨d,ps.heap,μ,L,H,nx⟩:Vw).top i∨NewI d nx tm i) (hH:∀ i,¬ Wr i→H' i=H i)
  (hob:∀ a ob',hget hp' a=some ob'→∃ ob,hget ps.heap a=some ob∧laterO (some ob) (some ob')∧(∀ t,tm=some t→tmpO ob≠some t)) :
  Grow ⟨d,ps.heap,μ,L,H,nx⟩ ⟨d,hp',μ,L,H',nx⟩ tm:=by
 refine Grow.of rfl (by show ps.heap.length≤hp'.length; omega) (fun _ _=>rfl) ?_ (Nat.le_refl _) ?_ ?_
 ·intro a ha
  show laterO (hget ps.heap a) (hget hp' a)
  cases hx:hget hp' a with
  | none=>cases hget ps.heap a <;> trivial
  | some ob'=>
   obtain ⟨ob,h1,h2,_⟩:=hob a ob' hx
   rw [h1]; exact h2
 ·intro i h1 h2
  refine hH i fun hw=>?_
  rcases hWr i hw with h | h
  ·exact h1 h
  ·exact h2 h
 ·rintro i ⟨a,ha,htop⟩
  obtain ⟨ob',hx⟩:=live_iff.1 ha
  obtain ⟨ob,h1,_⟩:=hob a ob' hx
  exact .inl ⟨a,live_iff.2 ⟨ob,h1⟩,htop⟩
variable (R:Rel d anV P0 H0 ps μ L E H nx)
include R
theorem Rel.newCell {t:Nat} {g n:Nat} {v:PV} {w:AV} (hp:¬ P0 (.st d t)) (hok:cellOK v=true) (hv:VR ⟨d,ps.heap,μ,L,H,nx⟩ v w) (hn:n=w.cells.length) :
  let o:Id:=.st d t
  let ps':PS:={ ps with env:=killE t ps.env,heap:=delT t ps.heap++[some (.cell false (some t) v)] }
  Rel d anV P0 H0 ps' (updN μ ps.heap.length (.ptr o g 1 0 0)) (updN L ps.heap.length [o]) E (hupd H o ⟨g,n,true,[w]⟩) nx ∧
   VR ⟨d,ps'.heap,updN μ ps.heap.length (.ptr o g 1 0 0),updN L ps.heap.length [o],hupd H o ⟨g,n,true,[w]⟩,nx⟩ (.cp ps.heap.length 0) (.ptr o g 1 0 0) ∧
   ps.heap.length≤ps'.heap.length∧∀ a,a < ps.heap.length→updN μ ps.heap.length (.ptr o g 1 0 0) a=μ a∧updN L ps.heap.length [o] a=L a:=by
 intro o ps'
 have hlen:(delT t ps.heap).length=ps.heap.length:=delT_length
 have hp':∀ {a:Nat} {ob:PObj},hget ps'.heap a=some ob→a≠ps.heap.length→hget ps.heap a=some ob∧tmpO ob≠some t∧a < ps.heap.length:=by
  intro a ob h hne
  have h:hget (delT t ps.heap++[some (.cell false (some t) v)]) a=some ob:=h
  rw [hget_append,hlen] at h
  split at h
  ·rename_i hlt
   obtain ⟨h1,h2⟩:=hget_delT.1 h
   exact ⟨h1,h2,hlt⟩
  ·rename_i hlt
   rw [hget_ge (by simp; omega)] at h
   cases h
 have hnew:hget ps'.heap ps.heap.length=some (.cell false (some t) v):=by
  show hget (delT t ps.heap++[some (.cell false (some t) v)]) ps.heap.length=_
  rw [hget_append,hlen,if_neg (by omega),Nat.sub_self]; rfl
 have hout:∀ {a:Nat} {ob:PObj},hget ps.heap a=some ob→tmpO ob≠some t→o ∉ L a:=by
  intro a ob ha htm hi
  rcases R.age a ob ha o hi with h | h
  ·omega
  ·exact htm h.2
 have hmu:∀ a,a < ps.heap.length→updN μ ps.heap.length (.ptr o g 1 0 0) a=μ a:=fun a ha=>updN_ne (by omega)
 have hL:∀ a,a < ps.heap.length→updN L ps.heap.length [o] a=L a:=fun a ha=>updN_ne (by omega)
 have gr:Grow ⟨d,ps.heap,μ,L,H,nx⟩ ⟨d,ps'.heap,updN μ ps.heap.length (.ptr o g 1 0 0),updN L ps.heap.length [o],hupd H o ⟨g,n,true,[w]⟩,nx⟩ (some t):=by
  refine Grow.of rfl ?_ hmu ?_ (Nat.le_refl _) ?_ ?_
  ·show ps.heap.length≤(delT t ps.heap++[_]).length
   rw [List.length_append,hlen]; omega
  ·intro a ha
   cases hx:hget ps'.heap a with
   | none=>cases hget ps.heap a <;> trivial
   | some ob=>
    have ha:a < ps.heap.length:=ha
    have:=(hp' hx (by omega)).1
    show laterO (hget ps.heap a) (some ob)
    rw [this]; exact laterO.refl _
  ·intro i _ h2
   exact hupd_ne H _ (fun e=>h2 (.inr ⟨t,e,rfl⟩))
  ·rintro i ⟨a,ha,htop⟩
   obtain ⟨ob,hob⟩:=live_iff.1 ha
   by_cases hane:a=ps.heap.length
   ·subst hane
    have htop:(updN L ps.heap.length [o] ps.heap.length).head? = some i:=htop
    rw [updN_at] at htop
    cases htop
    exact .inr (.inr ⟨t,rfl,rfl⟩)
   ·obtain ⟨h1,_,h4⟩:=hp' hob hane
    have htop:(updN L ps.heap.length [o] a).head? = some i:=htop
    rw [hL a h4] at htop
    exact .inl ⟨a,live_iff.2 ⟨ob,h1⟩,htop⟩
 obtain ⟨st1,st2⟩:=cellOK_stor hok hv
 refine ⟨?_,⟨?_,o,g,updN_at,rfl⟩,gr.len,fun a ha=>⟨hmu a ha,hL a ha⟩⟩
 ·refine Rel.next R (tm:=some t) (Ch:=fun a=>a=ps.heap.length) gr (fun u=>(look_kill t ps.env u).imp id fun h=>⟨h.1,fun t' h'=>by cases h'; exact h.2⟩) ?_ ?_ (Nat.le_refl _) ?_ ?_
  ·intro a ob ha hne
   obtain ⟨h1,h2,h3⟩:=hp' ha hne
   refine ⟨h1,hL a h3,fun i hi=>hupd_ne H _ ?_⟩
   rintro rfl
   exact hout h1 h2 hi
  ·rintro a ob ha rfl
   have ha:=hnew.symm.trans ha
   cases ha
   rw [updN_at]
   refine ⟨⟨o,g,_,w,updN_at,hupd_same _ _ _,rfl,rfl,hn,by show 0 < n; omega,st1,fun _=>rfl,updN_at,VR.mono gr v w (fun _ _=>hasKp_ok hok) hv,hok⟩,by simp,?_,?_,by simp,fun t' ht q hq=>by cases ht; cases hq; rfl,?_⟩
   ·intro i hi
    obtain rfl:i=o:=by simpa using hi
    exact .inr ⟨rfl,rfl⟩
   ·intro _ i hi
    obtain rfl:i=o:=by simpa using hi
    exact hp
   ·intro c hne hlc i hi
    obtain rfl:i=o:=by simpa using hi
    obtain ⟨oc,hoc⟩:=live_iff.1 hlc
    obtain ⟨h1,h2,h3⟩:=hp' hoc hne
    rw [hL c h3]
    exact hout h1 h2
  ·intro q hq
   rw [hupd_ne H _ (by simp [o])]
   exact R.fresh q hq
  ·intro i hi
   refine hupd_ne H _ ?_
   rintro rfl
   exact hp hi
 ·show ps.heap.length < (delT t ps.heap++[_]).length
  rw [List.length_append,hlen]; simp
theorem Rel.newKp {t:Nat} {g n:Nat} {v:PV} {w:AV} (hp:¬ P0 (.st d t)) (hok:cellOK v=true) (hpu:pureV v=true) (hv:VR ⟨d,ps.heap,μ,L,H,nx⟩ v w) (hn:n=w.cells.length) :
  let o:Id:=.st d t
  let ps':PS:={ ps with env:=killE t ps.env,heap:=delT t ps.heap }
  Rel d anV P0 H0 ps' μ L E (hupd H o ⟨g,n,true,[w]⟩) nx∧VR ⟨d,ps'.heap,μ,L,hupd H o ⟨g,n,true,[w]⟩,nx⟩ (.kp t v 0) (.ptr o g 1 0 0)∧ps.heap.length≤ps'.heap.length:=by
 intro o ps'
 have hlen:ps'.heap.length=ps.heap.length:=delT_length
 have hp':∀ {a:Nat} {ob:PObj},hget ps'.heap a=some ob→hget ps.heap a=some ob∧tmpO ob≠some t:=fun h=>hget_delT.1 h
 have hout:∀ {a:Nat} {ob:PObj},hget ps.heap a=some ob→tmpO ob≠some t→o ∉ L a:=by
  intro a ob ha htm hi
  rcases R.age a ob ha o hi with h | h
  ·omega
  ·exact htm h.2
 have gr:=R.chg (tm:=some t) (env':=ps'.env) (hp':=ps'.heap) (H':=hupd H o ⟨g,n,true,[w]⟩) (fun i=>i=o) hlen (fun i hi=>.inr (.inr ⟨t,hi,rfl⟩)) (fun i hi=>hupd_ne H _ hi)
  (fun a ob ha=>⟨ob,(hp' ha).1,laterO.refl _,fun t' h'=>by cases h'; exact (hp' ha).2⟩)
 refine ⟨?_,⟨hpu,hok,o,g,⟨g,n,true,[w]⟩,w,⟨rfl,?_⟩,rfl,hupd_same _ _ _,rfl,rfl,hn,VR.mono gr v w (fun _ _=>hasKp_ok hok) hv⟩,by omega⟩
 ·refine Rel.next R (tm:=some t) (Ch:=fun a=>False) gr (fun u=>(look_kill t ps.env u).imp id fun h=>⟨h.1,fun t' h'=>by cases h'; exact h.2⟩) ?_ ?_ (Nat.le_refl _) ?_ ?_
  ·intro a ob ha _
   obtain ⟨h1,h2⟩:=hp' ha
   refine ⟨h1,rfl,fun i hi=>hupd_ne H _ ?_⟩
   rintro rfl
   exact hout h1 h2 hi
  ·intro a ob _ h; exact h.elim
  ·intro q hq
   rw [hupd_ne H _ (by simp [o])]
   exact R.fresh q hq
  ·intro i hi
   refine hupd_ne H _ ?_
   rintro rfl
   exact hp hi
 ·rintro ⟨a,ha,htop⟩
  obtain ⟨ob,hob⟩:=live_iff.1 ha
  obtain ⟨h1,h2⟩:=hp' hob
  exact hout h1 h2 (List.mem_of_head? htop)
theorem ok_alloc {z:AV} (hp:∀ t,dst=some t→¬ P0 (.st d t)) (h:opP hn pm dst ps (.alloc z) k=some r):OpOK T Rn d anV P0 H0 dst E ps μ L H nx k r (.alloc z):=by
 simp only [opP] at h
 split at h
 ·rename_i t
  split at h
  ·rename_i hok
   obtain ⟨r1,r2,r3,r4⟩:=R.newCell (t:=t) (g:=genAt H (.st d t)) (n:=z.cells.length) (hp t rfl) hok (constA_rel z) rfl
   have hst:=(cellOK_stor (X:=⟨d,ps.heap,μ,L,H,nx⟩) hok (constA_rel z)).1
   exact ⟨_,_,_,_,_,_,nx,h,by simp only [operV,sid8]; rw [if_pos hst],r1,fun _=>r2,r3,keepL r4,Nat.le_refl _,rfl,EW.kill _ _,((LB.refl _).delT _).app delT_length.symm⟩
  ·cases h
 ·cases h
theorem ok_box {x:Opd} (hp:∀ t,dst=some t→¬ P0 (.st d t)) (h:opP hn pm dst ps (.box x) k=some r):OpOK T Rn d anV P0 H0 dst E ps μ L H nx k r (.box x):=by
 simp only [opP] at h
 split at h
 ·rename_i t hok
  obtain ⟨st1,st2⟩:=cellOK_stor hok (R.pev x)
  split at h
  ·rename_i hpm
   simp only [Bool.and_eq_true] at hpm
   obtain ⟨r1,r2,r3⟩:=R.newKp (t:=t) (g:=genAt H (.st d t)) (n:=(ev E x).cells.length) (hp t rfl) hok hpm.2 (R.pev x) rfl
   exact ⟨_,_,_,_,_,_,nx,h,by simp only [operV,sid8]; rw [if_pos ⟨st1,st2⟩],r1,fun _=>r2,r3,fun _ _=>⟨rfl,fun _=>rfl⟩,Nat.le_refl _,rfl,EW.kill _ _,(LB.refl _).delT _⟩
  ·obtain ⟨r1,r2,r3,r4⟩:=R.newCell (t:=t) (g:=genAt H (.st d t)) (n:=(ev E x).cells.length) (hp t rfl) hok (R.pev x) rfl
   exact ⟨_,_,_,_,_,_,nx,h,by simp only [operV,sid8]; rw [if_pos ⟨st1,st2⟩],r1,fun _=>r2,r3,keepL r4,Nat.le_refl _,rfl,EW.kill _ _,((LB.refl _).delT _).app delT_length.symm⟩
 ·cases h
end
end Go.Am
