/- Texts of this proof. -/
import Derived.Below
import Derived.Deep.Draws
import Derived.Orders
import Derived.Tactics
import Derived.KernelRfl
import Derived.Test.YtckdfgknodedoaaGreatDoorWW
import Derived.WalkKit
import Derived.RowKit3
import Derived.Deep.MidRow
import Derived.Laws.CopyRow
import Derived.Laws.Tables
import Derived.Laws.AppendOwn
import Derived.Deep.AppendSrc
import Derived.Laws.StructEq
import Derived.ChangeKeysEq
import Derived.Laws.IdiomStrings
import Derived.Handed
import Derived.OpenShut
import Derived.MakeChecks
import Derived.LaidMore
import Derived.MapKept
import Derived.Laws.Cover3
import Derived.Laws.Cover1
import Derived.Laws.Small
set_option linter.unusedVariables false
set_option linter.unusedSimpArgs false
namespace Go.a2
theorem U{α:Sort _}{a:α}:a=a:=rfl
section
structure Env(l:List (Nat×Value))(n:Nat)(a:Act):Prop where
 get:∀t v,l.lookup t=some v->a.tmps.getD t undef=v
 size:a.tmps.size=n
 defers:a.defers=[]
def cf(l:List (Nat×Value)):Operand->Value
 | .tmp t=>(l.lookup t).getD undef
 | .const v=>v
 | .global g=>.pointer (some ⟨g,0,none⟩)
 | .func f=>.func (.func f) #[] #[]
def wB(l:List (Nat×Value))(d:Option Tmp)(v:Value):List (Nat×Value):=
 match d with
 |some d=>(d,v)::l
 |none=>l
def fits(n:Nat)(d:Option Tmp):Bool:=
 match d with
 |some d=>Nat.blt d n
 |none=>true
def oO(l:List (Nat×Value))(t:Nat):Bool:=(l.lookup t).isSome
def dg(ops:Array Oper)(l:List (Nat×Value))(o:Oper):Bool:=
 match o.guard with
 |none=>true
 |some (j,_)=>match(ops[j]?).bind (·.dst)with
  |some d=>oO l d
  |none=>true
def nb:Op->List Operand
 | .alloc _| .ready _| .waits _=>[]
 | .move x| .assign x| .box _ x| .load _ x| .nilCheck x| .unOp _ _ x| .convert _ _ x| .sliceToArrayPointer _ x| .makeInterface _ x
 | .makeChan _ x| .fieldAddr _ x _| .field _ x _| .range _ x| .next x _| .entry x| .typeAssert x _ _ _| .extract x _| .panic x| .recv _ x _=>[x]
 | .pick c a b=>[c,a,b]
 | .build _ ps| .buildSlice _ _ ps=>ps.toList.map (·.2)
 | .store _ a v| .binOp _ _ a v _| .makeSlice _ a v| .indexAddr _ a v| .index _ a v| .lookup _ a v _| .mapEntry _ a v| .send a v=>[a,v]
 | .makeFunc _ first captured=>first.toList++captured.toList
 | .makeMap _ r=>r.toList
 | .slice _ x l h m=>x::(l.toList++h.toList++m.toList)
 | .mapUpdate _ m k v| .entryStore _ m k v| .insert _ m k v=>[m,k,v]
 | .call c| .go c| .defer c=>(match c.callee with| .value f=>[f]| .invoke r _=>[r]| .builtin _=>[])++c.args.toList
 | .select cs _=>[]
theorem TZ{p:Op}(h:(match p with| .select .. =>false|_=>true)=true){x:Operand}(ad:x∈p.operands):x∈nb p:=by
 cases p with
 |select=>cases h
 |call c=>cases aJ:c.callee<;>simp_all [Op.operands,Call.operands,nb]
 |go c=>cases aJ:c.callee<;>simp_all [Op.operands,Call.operands,nb]
 |defer c=>cases aJ:c.callee<;>simp_all [Op.operands,Call.operands,nb]
 |_=>simp_all [Op.operands,nb]
def sA(l:List (Nat×Value)):Operand->Bool
 | .tmp t=>oO l t
 |_=>true
def qV:Op->Bool
 | .select .. =>false
 |_=>true
def dp(l:List (Nat×Value))(o:Oper):Bool:=qV o.op&&(nb o.op).all (sA l)
def Dy(ops:Array Oper)(l:List (Nat×Value))(j:Nat):Option Bool:=
 match((ops[j]?).bind (·.dst)).bind (fun d=>l.lookup d)with
 |some (.bool b)=>some b
 |_=>none
def dh(ops:Array Oper)(l:List (Nat×Value))(o:Oper):Bool:=Region.wanted o (Dy ops l)
theorem Env.put{l:List (Nat×Value)}{n:Nat}{a:Act}(E:Env l n a){d:Option Tmp}(aT:fits n d=true)(v:Value):Env (wB l d v) n (a.put d v):=by
 cases d with
 |none=>exact E
 |some d=>
  have Sf:d<n:=by simpa [fits]using aT
  refine⟨fun t u h=>?_,by simp[Act.put,E.size],E.defers⟩;simp only[wB,List.lookup_cons]at h;by_cases aM:t=d
  ·subst aM;simp at h;subst h;simp[Act.put,Array.getD_eq_getD_getElem?,E.size,Sf]
  ·have ak:(t==d)=false:=by simpa using aM
   rw[ak]at h;have:=E.get t u h;simp only[Act.put,Array.getD_eq_getD_getElem?]at this⊢;rw[Array.getElem?_setIfInBounds_ne (fun e=>aM e.symm)];exact this
theorem Env.eval{l:List (Nat×Value)}{n:Nat}{a:Act}(E:Env l n a){x:Operand}(h:∀t,x=.tmp t->oO l t=true):a.eval x=cf l x:=by
 cases x with
 |tmp t=>
  have aj:=h t rfl;simp only[oO,Option.isSome_iff_exists]at aj;obtain⟨v,aD⟩:=aj;simp only[Act.eval,cf,aD,Option.getD_some];exact E.get t v aD
 |_=>rfl
theorem Env.exec{l:List (Nat×Value)}{n:Nat}{a:Act}(E:Env l n a){o:Oper}(h:dp l o=true):execOp a.eval o=execOp (cf l) o:=by
 simp only[dp,Bool.and_eq_true]at h;refine execOp_congr o (fun cs b e=>by simp[e,qV]at h) (fun x ad=>E.eval fun t aM=>?_);have:=List.all_eq_true.1 h.2 x (TZ (by cases hp:o.op<;>simp_all [qV]) ad);subst aM;exact this
theorem Env.aax{l:List (Nat×Value)}{n:Nat}{a:Act}(E:Env l n a){ops:Array Oper}{j:Nat}(h:∀d,(ops[j]?).bind (·.dst)=some d->oO l d=true):yielded ops a.tmps j=Dy ops l j:=by
 unfold yielded Dy;cases aT:(ops[j]?).bind (·.dst)with
 |none=>rfl
 |some d=>
  have aj:=h d aT;simp only[oO,Option.isSome_iff_exists]at aj;obtain⟨v,aD⟩:=aj;have al:=E.get d v aD;simp only[Option.bind_some,aD];rw[Array.getD_eq_getD_getElem?]at al;cases ad:a.tmps[d]? with
  |some u=>rw[ad]at al;simp at al;subst al;rfl
  |none=>rw[ad]at al;simp at al;subst al;rfl
theorem Env.wanted{l:List (Nat×Value)}{n:Nat}{a:Act}(E:Env l n a){ops:Array Oper}{o:Oper}(h:dg ops l o=true):Region.wanted o (yielded ops a.tmps)=dh ops l o:=by
 unfold dh Region.wanted;cases al:o.guard with
 |none=>rfl
 |some p=>
  obtain⟨j,want⟩:=p;simp only;rw[E.aax (j:=j) (fun d aT=>by simpa [dg,al,aT]using h)]
theorem Env.of{n:Nat}{a:Act}(aP:a.tmps.size=n)(aT:a.defers=[]):Env [] n a:=⟨fun t v h=>by simp at h,aP,aT⟩
theorem Env.add{l c9:List (Nat×Value)}{n:Nat}{a:Act}(dQ:Env c9 n a)(E:Env l n a){t:Nat}{v:Value}(h:l.lookup t=some v):Env ((t,v)::c9) n a:=by
 refine⟨fun s u hu=>?_,E.size,E.defers⟩;simp only[List.lookup_cons]at hu;by_cases e:s=t
 ·subst e;simp at hu;subst hu;exact E.get _ _ h
 ·have ak:(s==t)=false:=by simpa using e
  rw[ak]at hu;exact dQ.get _ _ hu
theorem Env.nil{l:List (Nat×Value)}{n:Nat}{a:Act}(E:Env l n a):Env [] n a:=Env.of E.size E.defers
section
variable{P:Program}{ops:Array Oper}{Q:Exit->Act->World->Prop}{l:List (Nat×Value)}{n:Nat}{a:Act}{w w':World}{rest:List Oper}{o:Oper}{v:Value}
theorem wo(E:Env l n a)(aJ:dp l o=true)(al:dg ops l o=true)(hw:dh ops l o=true)(bu:fits n o.dst=true)
  (h:(execOp (cf l) o).run P w=.ok (.value v) w') (k:∀a',Env (wB l o.dst v) n a'->wpList P ops Q rest a' w'):wpList P ops Q (o::rest) a w:=by
 unfold wpList;rw[E.wanted al,if_pos hw];refine .inl ?_;unfold Oper.wp;rw[E.exec aJ,h];exact k _ (E.put bu v)
theorem e5{d:Tmp}(E:Env l n a)(aT:o.dst=some d)(a6:Nat.blt d n=true)(aJ:dp l o=true)(al:dg ops l o=true)(hw:dh ops l o=true)
  (h:(execOp (cf l) o).run P w=.ok (.value v) w') (k:∀a',Env ((d,v)::l) n a'->wpList P ops Q rest a' w'):wpList P ops Q (o::rest) a w:=
 wo E aJ al hw (by rw[aT];exact a6) h (by rw[aT];exact k)
theorem ca{d:Tmp}(E:Env l n a)(h:(execOp (cf l) o).run P w=.ok (.value v) w')(k:∀a',Env ((d,v)::l) n a'->wpList P ops Q rest a' w')(aT:o.dst=some d:=by rfl)(a6:Nat.blt d n=true:=by rfl)(aJ:dp l o=true:=by rfl)(al:dg ops l o=true:=by rfl)(hw:dh ops l o=true:=by rfl):wpList P ops Q (o::rest) a w:=
 e5 E aT a6 aJ al hw h k
theorem oP{d:Tmp}(E:Env l n a)(aT:o.dst=some d)(a6:Nat.blt d n=true)(al:dg ops l o=true)(hw:dh ops l o=false)
  (k:∀a',Env ((d,undef)::l) n a'->wpList P ops Q rest a' w):wpList P ops Q (o::rest) a w:=by
 unfold wpList;rw[E.wanted al,if_neg (by simp[hw])];have:=E.put (d:=o.dst) (by rw[aT];exact a6) undef;rw[aT]at this;rw[aT];exact k _ this
theorem Cv(E:Env l n a)(aJ:dp l o=true)(al:dg ops l o=true)(hw:dh ops l o=true)(bu:fits n o.dst=true)
  (h:(execOp (cf l) o).run P w=.ok .skip w') (k:∀a',Env (wB l o.dst undef) n a'->wpList P ops Q rest a' w'):wpList P ops Q (o::rest) a w:=by
 unfold wpList;rw[E.wanted al,if_pos hw];refine .inl ?_;unfold Oper.wp;rw[E.exec aJ,h];exact k _ (E.put bu undef)
theorem Xa{f:FuncId}{args:Array Value}{R:Value->World->Prop}(E:Env l n a)(aJ:dp l o=true)(al:dg ops l o=true)(hw:dh ops l o=true)(bu:fits n o.dst=true)
  (h:(execOp (cf l) o).run P w=.ok (.enter f args) w') (C:Calls P f args w' fun e dY=>∃v,e=.returned v/\R v dY)
  (k:∀a' v dY,R v dY->Env (wB l o.dst v) n a'->wpList P ops Q rest a' dY):wpList P ops Q (o::rest) a w:=by
 unfold wpList;rw[E.wanted al,if_pos hw];refine .inl ?_;unfold Oper.wp;rw[E.exec aJ,h];rw[Oper.upon_enter];refine C.mono ?_;rintro e dY ⟨v,rfl,ap⟩;exact k _ v dY ap (E.put bu v)
theorem mc(h:Q .normal a w):wpList P ops Q [] a w:=h
end
end
section
open Go.Proofs.kD.kC Go.RowKit
def bd(w w':World):Prop:=Below w.heap.size w w'
theorem bd.refl(w:World):bd w w:=Below.refl _ _
theorem bd.trans{a b c:World}(h:bd a b)(k:bd b c):bd a c:=Below.trans h (k.mono h.size)
theorem bd.drew(w:World):bd w w.drew:=(Below.refl _ _).drew
theorem bd.alloc(w:World)(o:Obj):bd w (w.alloc o):=(Below.refl _ _).alloc (Nat.le_refl _) o
inductive Spec where
 |af (v:Value)
 |rel (p:World->Value->Prop)
def Spec.ok(s:Spec)(w:World)(v:Value):Prop:=
 match s with
 | .af u=>v=u
 | .rel p=>p w v
def valOf(Vs:List Spec)(x:Nat->Value)(j:Nat):Value:=
 match Vs[j]? with
 |some (.af v)=>v
 |_=>x j
def fq(Vs:List Spec)(x:Nat->Value)(w:World)(j:Nat):Prop:=
 match Vs[j]? with
 |some (.rel p)=>p w (x j)
 |_=>True
def ej(Vs:List Spec):Prop:=∀(j:Nat) (p:World->Value->Prop),Vs[j]? =some (.rel p)->∀w w' v,bd w w'->p w v->p w' v
def hs(ops:Array Oper)(i:Nat):Option Nat:=(ops[i]?).bind (·.dst)
def writes(ops:Array Oper)(t i:Nat):Bool:=hs ops i==some t
def slotsOf(ops:Array Oper)(i:Nat):List Nat:=
 match ops[i]? with
 |none=>[]
 |some o=>((nb o.op).filterMap fun| .tmp t=>some t|_=>none)++(match o.guard with|some (g,_)=>(hs ops g).toList|none=>[])
def waits(B:List Nat)(i j:Nat):Bool:=(B.getD i 0).testBit j
def jT(ops:Array Oper)(B:List Nat)(i t:Nat):Option Nat:=(List.range i).reverse.find? fun j=>writes ops t j&&waits B i j
def uY(ops:Array Oper)(B:List Nat):Bool:=
 (List.range ops.size).all fun i=>
  ((slotsOf ops i).all fun t=>match jT ops B i t with
   |some j=>(List.range ops.size).all fun k=> !writes ops t k||Nat.ble k j||Nat.beq k i||waits B k i
   |none=>(List.range ops.size).all fun k=> !writes ops t k||Nat.beq k i||waits B k i)&&
  (match hs ops i with
   |some t=>(List.range ops.size).all fun k=> !writes ops t k||Nat.ble k i||waits B k i
   |none=>true)
def cg(ops:Array Oper)(B:List Nat)(l:List (Nat×Value))(Vs:List Spec)(x:Nat->Value)(i:Nat):List (Nat×Value):=
 (slotsOf ops i).filterMap fun t=>match jT ops B i t with
  |some j=>some (t,valOf Vs x j)
  |none=>(l.lookup t).map fun v=>(t,v)
def Fg(ops:Array Oper)(l:List (Nat×Value))(Vs:List Spec)(x:Nat->Value):List (Nat×Value):=
 ((List.range ops.size).reverse.filterMap fun i=>(hs ops i).map fun t=>(t,valOf Vs x i))++l
def mh(P:Program)(ops:Array Oper)(B:List Nat)(l:List (Nat×Value))(n:Nat)(Vs:List Spec)(w0:World)(Q:Exit->Act->World->Prop)(i:Nat):Prop:=
 ∀(x:Nat->Value) (a:Act) (w:World),bd w0 w->(∀j,waits B i j=true->fq Vs x w j)->Env (cg ops B l Vs x i) n a->
  ∃o s,ops[i]? =some o/\Vs[i]? =some s/\∀K:Act->World->Prop,(∀v w',bd w w'->s.ok w' v->K (a.put o.dst v) w')->
   if Region.wanted o (yielded ops a.tmps)=true then Oper.wp P o a w K Q else K (a.put o.dst undef) w
def g3(ops:Array Oper)(b:Nat->Bool)(t:Nat):Option Nat:=(List.range ops.size).reverse.find? fun j=>writes ops t j&&b j
theorem pa{p:Nat->Bool}{n j:Nat}(ax:j<n)(hp:p j=true)(hm:∀k,k<n->p k=true->k<=j):(List.range n).reverse.find? p=some j:=by
 induction n with
 |zero=>omega
 |succ n ck=>
  rw[List.range_succ,List.reverse_append];simp only[List.reverse_singleton,List.singleton_append,List.find?_cons];by_cases e:j=n
  ·subst e;rw[hp]
  ·have a6:p n=false:=by
    cases h:p n with
    |false=>rfl
    |true=>have:=hm n (by omega) h;omega
   rw[a6];exact ck (by omega) (fun k ab h=>hm k (by omega) h)
theorem lE{p:Nat->Bool}{n:Nat}(h:∀k,k<n->p k=false):(List.range n).reverse.find? p=none:=by
 rw[List.find?_eq_none];intro k ab;simp at ab;simp[h k ab]
theorem rD{p:Nat->Bool}{n j:Nat}(h:(List.range n).reverse.find? p=some j):j<n/\p j=true/\∀k,k<n->p k=true->k<=j:=by
 induction n with
 |zero=>simp at h
 |succ n ck=>
  rw[List.range_succ,List.reverse_append]at h;simp only[List.reverse_singleton,List.singleton_append,List.find?_cons]at h;cases a6:p n with
  |true=>rw[a6]at h;simp at h;subst h;exact⟨by omega,a6,fun k ab _=>by omega⟩
  |false=>
   rw[a6]at h;obtain⟨aj,an,aB⟩:=ck h;refine⟨by omega,an,fun k ab hp=>?_⟩;by_cases e:k=n
   ·subst e;rw[a6]at hp;cases hp
   ·exact aB k (by omega) hp
theorem CD{ops:Array Oper}{B:List Nat}{i t j:Nat}(h:jT ops B i t=some j):j<i/\writes ops t j=true/\waits B i j=true:=by
 obtain⟨aj,an,_⟩:=rD h;simp only[Bool.and_eq_true]at an;exact⟨aj,an.1,an.2⟩
section
variable{P:Program}{Q:Exit->Act->World->Prop}{l:List (Nat×Value)}{n:Nat}{a:Act}{w:World}{ops:Array Oper}{B:List Nat}{Vs:List Spec}{id:Nat}
structure Inv(ops:Array Oper)(a0:Act)(n:Nat)(Vs:List Spec)(w0:World)(b:Nat->Bool)(a:Act)(w:World):Prop where
 ext:bd w0 w
 size:a.tmps.size=n
 defers:a.defers=[]
 rj:∃x:Nat->Value,(∀j,b j=true->fq Vs x w j)/\∀t,t<n->a.tmps.getD t undef=match g3 ops b t with
  |some j=>valOf Vs x j
  |none=>a0.tmps.getD t undef
theorem BW{a:Act}{d:Option Tmp}{v:Value}{t:Nat}(aM:t<a.tmps.size):(a.put d v).tmps.getD t undef=if d=some t then v else a.tmps.getD t undef:=by
 cases d with
 |none=>simp[Act.put]
 |some d=>
  by_cases e:d=t
  ·subst e;simp[Act.put,aM]
  ·simp[Act.put,e,Array.getD_eq_getD_getElem?,Array.getElem?_setIfInBounds_ne e]
theorem Bv{f:Nat->Option Value}{L:List Nat}{t:Nat}{v:Value}(h:(L.filterMap fun s=>(f s).map fun u=>(s,u)).lookup t=some v):f t=some v/\t∈L:=by
 induction L with
 |nil=>simp at h
 |cons s L ck=>
  simp only[List.filterMap_cons]at h;cases bu:f s with
  |none=>rw[bu]at h;simp at h;obtain⟨aj,an⟩:=ck h;exact⟨aj,List.mem_cons_of_mem _ an⟩
  |some u=>
   rw[bu]at h;simp only[Option.map_some,List.lookup_cons]at h;by_cases e:t=s
   ·subst e;simp at h;subst h;exact⟨bu,List.mem_cons_self⟩
   ·have:(t==s)=false:=by simpa using e
    rw[this]at h;obtain⟨aj,an⟩:=ck h;exact⟨aj,List.mem_cons_of_mem _ an⟩
theorem Ah(x:Nat->Value)(i:Nat):cg ops B l Vs x i=(slotsOf ops i).filterMap fun t=>((match jT ops B i t with
  |some j=>some (valOf Vs x j)
  |none=>l.lookup t):Option Value).map fun v=>(t,v):=by
 unfold cg;congr 1;funext t;cases jT ops B i t<;>rfl
def og(ops:Array Oper)(l:List (Nat×Value))(Vs:List Spec)(x:Nat->Value)(m:Nat):List (Nat×Value):=
 ((List.range m).reverse.filterMap fun i=>(hs ops i).map fun t=>(t,valOf Vs x i))++l
def j7(P:Program)(ops:Array Oper)(Q:Exit->Act->World->Prop)(m:Nat)(a:Act)(w:World):Prop:=
 match ops[m]? with
 |none=>False
 |some o=>if Region.wanted o (yielded ops a.tmps)=true then Oper.wp P o a w (fun a w=>Q .normal a w) Q else Q .normal (a.put o.dst undef) w
theorem F7(gK:Bool){a0:Act}(T:Bool×List (List Nat×List Nat))(B:List Nat)(Vs:List Spec)(E:Env l n a0)(hm:P.follows .mixedOrders=true)(fC:hA .any ops=T)(hw:oX T.2 B=true)(ab:lC T.2 (List.range ops.size)=true)
  (bu:uY ops B=true) (aT:((List.range ops.size).all fun i=>fits n (hs ops i))=true) (aI:ej Vs)
  (m:Nat) (ff:m+(if gK then 1 else 0)=ops.size) (pC:gK=true->∀i,i<m->waits B m i=true)
  (aP:∀i∈List.range m,mh P ops B l n Vs w.drew Q i)
  (ij:∀(x:Nat->Value) (a:Act) (w':World),bd w w'->(∀j,j<m->fq Vs x w' j)->Env (og ops l Vs x m) n a->if gK then j7 P ops Q m a w' else Q .normal a w'):(Code.region id ops true).wp P Q a0 w:=by
 have hlen:T.2.length=ops.size:=by subst fC;simp[hA]
 refine Ds (S:=fun _=>True) (ds:=[]) hm ?_;show rk P .any ops Q (fun _=>True) [] ops.size (Array.replicate ops.size false) a0 w.drew
 have key:∀i,i<ops.size->(∀t∈slotsOf ops i,match jT ops B i t with
   |some j=>∀k,k<ops.size->writes ops t k=true->k<=j\/k=i\/waits B k i=true
   |none=>∀k,k<ops.size->writes ops t k=true->k=i\/waits B k i=true)/\(∀t,hs ops i=some t->∀k,k<ops.size->writes ops t k=true->k<=i\/waits B k i=true):=by
  intro i hi;have aj:=List.all_eq_true.1 bu i (List.mem_range.2 hi);rw[Bool.and_eq_true]at aj;refine⟨fun t aM=>?_,fun t aM k c2 fM=>?_⟩
  ·have an:=List.all_eq_true.1 aj.1 t aM;cases jf:jT ops B i t with
   |some j=>
    rw[jf]at an;intro k c2 fM;have aB:=List.all_eq_true.1 an k (List.mem_range.2 c2);rw[fM]at aB;simp only[Bool.not_true,Bool.false_or,Bool.or_eq_true,Nat.ble_eq,Nat.beq_eq]at aB;rcases aB with(aB|aB)|aB
    ·exact .inl aB
    ·exact .inr (.inl aB)
    ·exact .inr (.inr aB)
   |none=>
    rw[jf]at an;intro k c2 fM;have aB:=List.all_eq_true.1 an k (List.mem_range.2 c2);rw[fM]at aB;simp only[Bool.not_true,Bool.false_or,Bool.or_eq_true,Nat.beq_eq]at aB;exact aB
  ·have an:=aj.2;rw[aM]at an;have aB:=List.all_eq_true.1 an k (List.mem_range.2 c2);rw[fM]at aB;simp only[Bool.not_true,Bool.false_or,Bool.or_eq_true,Nat.ble_eq]at aB;exact aB
 have final:∀b a w',(∀j,j<m->b j=true)->(∀j,j<ops.size->m<=j->b j=false)->Inv ops a0 n Vs w.drew b a w'->if gK then j7 P ops Q m a w' else Q .normal a w':=by
  intro b a w' j1 eB I;obtain⟨x,ad,aD⟩:=I.rj;refine ij x a w' ((bd.drew w).trans I.ext) (fun j ax=>ad j (j1 j ax)) ⟨fun t v aM=>?_,I.size,I.defers⟩;unfold og at aM;rw[List.lookup_append]at aM;have vi:∀m,((List.range m).reverse.filterMap fun i=>(hs ops i).map fun t=>(t,valOf Vs x i)).lookup t=((List.range m).reverse.find? fun j=>writes ops t j).map (valOf Vs x):=by
   intro m
   induction m with
   |zero=>rfl
   |succ m ck=>
    rw[List.range_succ,List.reverse_append];simp only[List.reverse_singleton,List.singleton_append,List.filterMap_cons,List.find?_cons];cases qG:hs ops m with
    |none=>simp only[Option.map_none,writes,qG];rw[ck];rfl
    |some d=>
     simp only[Option.map_some,List.lookup_cons,writes,qG];by_cases e:t=d
     ·subst e;simp
     ·have aj:(t==d)=false:=by simpa using e
      have an:(some d==some t)=false:=by simpa using fun c=>e c.symm
      rw[aj,an];exact ck
  rw[vi]at aM;have GD:m<=ops.size:=by omega
  by_cases my:t<n
  ·rw[aD t my];have nH:g3 ops b t=(List.range m).reverse.find? fun j=>writes ops t j:=by
    unfold g3;cases iU:(List.range m).reverse.find? fun j=>writes ops t j with
    |none=>
     refine lE (fun k c2=>?_);by_cases ms:k<m
     ·have:=List.find?_eq_none.1 iU k (by simp;exact ms);simp at this;simp[this]
     ·simp[eB k c2 (by omega)]
    |some j=>
     obtain⟨aj,an,aB⟩:=rD iU;refine pa (by omega) (by simp[an,j1 j aj]) (fun k c2 hp=>?_);simp only[Bool.and_eq_true]at hp;by_cases ms:k<m
     ·exact aB k ms hp.1
     ·rw[eB k c2 (by omega)]at hp;cases hp.2
   rw[nH];cases iU:(List.range m).reverse.find? fun j=>writes ops t j with
   |none=>rw[iU]at aM;simp at aM;exact E.get t v aM
   |some j=>rw[iU]at aM;simp at aM;exact aM
  ·have iU:((List.range m).reverse.find? fun j=>writes ops t j)=none:=by
    refine lE (fun k c2=>?_);cases fM:writes ops t k with
    |false=>rfl
    |true=>
     have be:=List.all_eq_true.1 aT k (List.mem_range.2 (by omega));have bZ:hs ops k=some t:=by simpa [writes]using fM
     rw[bZ]at be;simp[fits]at be;omega
   rw[iU]at aM;simp at aM;have dZ:=E.get t v aM;have bQ:a0.tmps.getD t undef=undef:=by simp[Array.getD_eq_getD_getElem?];rw[Array.getElem?_eq_none (by rw[E.size];omega)];rfl
   have cF:a.tmps.getD t undef=undef:=by simp[Array.getD_eq_getD_getElem?];rw[Array.getElem?_eq_none (by rw[I.size];omega)];rfl
   rw[cF,<-bQ];exact dZ
 refine Bq (List.range ops.size) (fun b a w'=>if(gK&&b m)=true then Q .normal a w' else Inv ops a0 n Vs w.drew b a w') fC hw ab ?_ ?_ ?_ ?_
 ·rw[hlen];simp only[List.length_range,beq_self_eq_true,Bool.and_true,beq_iff_eq];apply List.ext_getElem
  ·simp[iE]
  ·intro j aj an;simp[iE]at aj an⊢;exact aj
 ·show if(gK&&false)=true then _ else _
  rw[Bool.and_false,if_neg (by simp)];refine⟨bd.refl _,E.size,E.defers,fun _=>undef,fun j ax=>(by cases ax),fun t _=>?_⟩;have:g3 ops (fun _=>false) t=none:=lE (fun k _=>by simp);rw[this]
 ·intro i hi b a w' I h4 m7 qK;have ln:i<ops.size:=List.mem_range.1 hi;have qF:(gK&&b m)=false:=by
   cases eV:gK with
   |false=>rfl
   |true=>
    rw[eV]at ff;simp only[if_true]at ff;by_cases l1:i=m
    ·subst l1;simp[h4]
    ·have:=qK m (by simp[<-ff];exact pC eV i (by omega));simp[this]
  rw[if_neg (by simp[qF])]at I;by_cases l1:gK=true/\i=m
  ·obtain⟨eV,rfl⟩:=l1;rw[eV]at ff;simp only[if_true]at ff;have iS:∀j,j<i->b j=true:=fun j ax=>m7 j (by simp[<-ff];exact⟨by omega,pC eV j ax⟩);have iV:=final b a w' iS (fun j qI hc=>by(have:j=i:=by omega);rw[this];exact h4) I;rw[eV,if_pos rfl]at iV;obtain⟨o,aF⟩:∃o,ops[i]? =some o:=⟨ops[i],by simp[ln]⟩
   refine⟨o,aF,fun K nE=>?_⟩;have qB:∀a w,Q .normal a w->K a w:=fun a w bE=>nE.out _ _ (by dsimp only;rw[if_pos (by simp[eV,nX])];exact bE);unfold j7 at iV;rw[aF]at iV;simp only at iV;split at iV
   ·rename_i nL;rw[if_pos nL];exact Oper.wp_mono qB iV
   ·rename_i nL;rw[if_neg nL];exact qB _ _ iV
  have px:i<m:=by
   cases eV:gK with
   |false=>rw[eV]at ff;simp at ff;omega
   |true=>rw[eV]at ff;simp at ff;have:i≠m:=fun c=>l1 ⟨eV,c⟩;omega
  obtain⟨x,ad,aD⟩:=I.rj;obtain⟨gk,hQ⟩:=key i ln;have l4:∀j,j<ops.size->waits B i j=true->b j=true:=fun j ax pB=>m7 j (by simp[ax];exact pB);have j4:∀k,k<ops.size->waits B k i=true->b k=false:=fun k c2 fM=>qK k (by simp[c2];exact fM);have nJ:∀j,waits B i j=true->j<ops.size:=by
   intro j ax;have aj:=sm hw (i+1) i (by omega) (by omega) ax;have:∀fuel d,d<T.2.length->jD T.2 j fuel d=true->j<ops.size:=by
    intro fuel
    induction fuel with
    |zero=>intro d _ h;simp[jD]at h
    |succ fuel ck=>
     intro d rU h;unfold jD at h;cases ap:T.2[d]? with
     |none=>rw[ap]at h;simp at h
     |some r=>
      rw[ap]at h;simp only[List.any_eq_true]at h;obtain⟨m,nI,fL⟩:=h;have h5:=(mW ab ap).2 m nI;rw[Bool.or_eq_true]at fL;rcases fL with fL|fL
      ·have:m=j:=by simpa using fL
       omega
      ·exact ck m (by omega) fL
   exact this (i+1) i (by omega) aj
  have qA:Env (cg ops B l Vs x i) n a:=by
   refine⟨fun t v aM=>?_,I.size,I.defers⟩;rw[Ah]at aM;obtain⟨aj,an⟩:=Bv (f:=fun t=>match jT ops B i t with
    |some j=>some (valOf Vs x j)
    |none=>l.lookup t) aM
   have aB:=gk t an;by_cases my:t<n
   ·rw[aD t my];cases jf:jT ops B i t with
    |some j=>
     rw[jf]at aj aB;obtain⟨qI,hc,vm⟩:=CD jf;have va:=l4 j (by omega) vm;have:g3 ops b t=some j:=by
      refine pa (by omega) (by simp[hc,va]) (fun k c2 hp=>?_);simp only[Bool.and_eq_true]at hp;rcases aB k c2 hp.1 with h|h|h
      ·exact h
      ·subst h;rw[h4]at hp;cases hp.2
      ·rw[j4 k c2 h]at hp;cases hp.2
     rw[this];simpa using aj
    |none=>
     rw[jf]at aj aB;have:g3 ops b t=none:=by
      refine lE (fun k c2=>?_);cases fM:writes ops t k with
      |false=>rfl
      |true=>
       rcases aB k c2 fM with h|h
       ·subst h;rw[h4];rfl
       ·rw[j4 k c2 h];rfl
     rw[this];exact E.get t v aj
   ·
    have vr:∀k,k<ops.size->writes ops t k=false:=by
     intro k c2;cases fM:writes ops t k with
     |false=>rfl
     |true=>
      have be:=List.all_eq_true.1 aT k (List.mem_range.2 c2);have bZ:hs ops k=some t:=by simpa [writes]using fM
      rw[bZ]at be;simp[fits]at be;omega
    have vy:jT ops B i t=none:=lE (fun k c2=>by simp[vr k (by omega)]);rw[vy]at aj;have dZ:=E.get t v aj;have bQ:a0.tmps.getD t undef=undef:=by simp[Array.getD_eq_getD_getElem?];rw[Array.getElem?_eq_none (by rw[E.size];omega)];rfl
    have cF:a.tmps.getD t undef=undef:=by simp[Array.getD_eq_getD_getElem?];rw[Array.getElem?_eq_none (by rw[I.size];omega)];rfl
    rw[cF,<-bQ];exact dZ
  obtain⟨o,s,aF,kl,cY⟩:=aP i (List.mem_range.2 px) x a w' I.ext (fun j ax=>ad j (l4 j (nJ j ax) ax)) qA;refine⟨o,aF,fun K nE=>?_⟩;refine cY K (fun v sG qH qM=>?_);refine nE.out _ _ ?_;dsimp only;rw[if_neg (by rw[k5 (by omega)];simp[qF])];refine⟨I.ext.trans qH,by cases kQ:o.dst<;>simp[Act.put,I.size],by cases kQ:o.dst<;>simp[Act.put,I.defers],fun j=>if j=i then v else x j,fun j ax=>?_,fun t aM=>?_⟩
  ·by_cases e:j=i
   ·subst e;unfold fq;rw[kl];cases s with
    |af u=>trivial
    |rel p=>simpa [Spec.ok]using qM
   ·have ak:b j=true:=by rw[k5 e]at ax;exact ax
    have aj:=ad j ak;unfold fq at aj⊢;cases hc:Vs[j]? with
    |none=>trivial
    |some s2=>
     cases s2 with
     |af u=>trivial
     |rel p=>rw[hc]at aj;simp only[if_neg e];exact aI j p hc _ _ _ qH aj
  ·rw[BW (by rw[I.size];exact aM)];have kQ:o.dst=hs ops i:=by simp[hs,aF]
   have kS:∀j,j≠i->valOf Vs (fun j=>if j=i then v else x j) j=valOf Vs x j:=by
    intro j e;unfold valOf;simp only[if_neg e]
   by_cases e:o.dst=some t
   ·rw[if_pos e];have vz:writes ops t i=true:=by simp[writes,<-kQ,e]
    have:g3 ops (up b i) t=some i:=by
     refine pa ln (by simp[vz,nX]) (fun k c2 hp=>?_);simp only[Bool.and_eq_true]at hp;rcases hQ t (by rw[<-kQ];exact e) k c2 hp.1 with h|h
     ·exact h
     ·have c6:k≠i:=fun c=>by
       subst c;have ap:=sm hw (k+1) k (by omega) (by omega) h;have:∀fuel d,d<T.2.length->d<=k->jD T.2 k fuel d=true->False:=by
        intro fuel
        induction fuel with
        |zero=>intro d _ _ h;simp[jD]at h
        |succ fuel ck=>
         intro d rU Gx h;unfold jD at h;cases ap:T.2[d]? with
         |none=>rw[ap]at h;simp at h
         |some r=>
          rw[ap]at h;simp only[List.any_eq_true]at h;obtain⟨m,nI,fL⟩:=h;have h5:=(mW ab ap).2 m nI;rw[Bool.or_eq_true]at fL;rcases fL with fL|fL
          ·have:m=k:=by simpa using fL
           omega
          ·exact ck m (by omega) (by omega) fL
       exact this _ _ (by omega) (Nat.le_refl _) ap
      rw[k5 c6]at hp;rw[j4 k c2 h]at hp;cases hp.2
    rw[this];show v=valOf Vs _ i
    unfold valOf;rw[kl];cases s with
    |af u=>simpa [Spec.ok]using qM
    |rel p=>simp
   ·rw[if_neg e,aD t aM];have:g3 ops (up b i) t=g3 ops b t:=by
     unfold g3;congr 1;funext k;by_cases qj:k=i
     ·subst qj;have:writes ops t k=false:=by
       cases h:writes ops t k with
       |false=>rfl
       |true=>exact absurd (by simpa [writes,<-kQ]using h) e
      simp[this]
     ·rw[k5 qj]
    rw[this];cases nH:g3 ops b t with
    |none=>rfl
    |some j=>
     have c6:j≠i:=fun c=>by
      subst c;have:=(rD nH).2.1;rw[h4]at this;simp at this
     exact(kS j c6).symm
 ·intro b a w' iS I;have j1:∀j,j<ops.size->b j=true:=fun j ax=>iS j (by simp[ax]);cases eV:gK with
  |false=>
   rw[eV,Bool.false_and,if_neg (by simp)]at I;rw[eV]at ff;simp at ff;have:=final b a w' (fun j ax=>j1 j (by omega)) (fun j aj an=>by omega) I;rw[eV]at this;exact this
  |true=>
   rw[eV]at ff;simp at ff;rw[eV,Bool.true_and,j1 m (by omega),if_pos rfl]at I;exact I
theorem Rt{a0:Act}(T:Bool×List (List Nat×List Nat))(B:List Nat)(Vs:List Spec)(E:Env l n a0)(hm:P.follows .mixedOrders=true)(fC:hA .any ops=T)(hw:oX T.2 B=true)(ab:lC T.2 (List.range ops.size)=true)
  (bu:uY ops B=true) (aT:((List.range ops.size).all fun i=>fits n (hs ops i))=true) (aI:ej Vs)
  (aP:∀i∈List.range ops.size,mh P ops B l n Vs w.drew Q i)
  (ij:∀(x:Nat->Value) (a:Act) (w':World),bd w w'->(∀j,j<ops.size->fq Vs x w' j)->Env (Fg ops l Vs x) n a->Q .normal a w'):(Code.region id ops true).wp P Q a0 w:=
 F7 false T B Vs E hm fC hw ab bu aT aI ops.size (by simp) (by simp) aP (fun x a w' aj an aB=>by rw[if_neg (by simp)];exact ij x a w' aj an aB)
end
end
section
open Go.RowKit
def fb(P:Program)(t:TypeId):Bool:=
 match P.underlying t with
 |some (.struct _)|some (.array ..)|none=>false
 |_=>true
def hv(P:Program)(t:TypeId)(k:Nat):Bool:=
 (match P.underlying t with
 |some (.struct _)|some (.array ..)=>true
 |_=>false)&&(match P.info? t with|some i=>i.size==k|none=>false)
def eS(P:Program)(t:TypeId)(k:Nat):Bool:=match P.info? t with|some i=>i.size==k|none=>false
def gG(P:Program)(s:TypeId)(f:Nat)(k:Nat):Bool:=
 match P.underlying s with
 |some (.struct dX)=>match dX[f]? with
  |some fd=>fd.offset==k&&(match P.info? fd.type with|some i=>i.size !=0|none=>false)
  |none=>false
 |_=>false
def dN(P:Program)(t e:TypeId):Bool:=match P.underlying t with|some (.slice bV)=>bV==e|_=>false
def bO(P:Program)(f:FuncId):Bool:=
 match P.funcs[f]? with
 |some fn=>fn.body.isSome&& !(fn.name== "runtime.NumGoroutine")
 |none=>false
def zeroOf(P:Program)(t:TypeId):Option Value:=(P.info? t).bind (·.zero)
section
variable{P:Program}{ρ:Operand->Value}{o:Oper}{w:World}{t s T e:TypeId}{A X Y:Operand}{a:Addr}{v u:Value}{g off k:Nat}{cs:Array Value}{fr:Nat×Nat}
theorem add_plain(g off k:Nat):(⟨g,off,none⟩:Addr).add k=⟨g,off+k,none⟩:=by
 unfold Addr.add;split<;>simp_all
theorem cell_of(al:w.heap[g]? =some (.cells cs T fr))(aD:cs[off]? =some v):w.cell? ⟨g,off,none⟩=some v:=by
 simp[World.cell?,al,aD]
theorem Bs(aM:fb P t=true):(isAgg t).run P w=.ok false w:=by
 unfold fb at aM;cases h:P.underlying t with
 |none=>rw[h]at aM;cases aM
 |some d=>rw[h]at aM;cases d<;>simp_all [isAgg,run_underlying h]
theorem uh(h:eS P t k=true):∃i,P.info? t=some i/\i.size=k:=by
 unfold eS at h;cases hi:P.info? t with
 |none=>rw[hi]at h;cases h
 |some i=>rw[hi]at h;exact⟨i,rfl,by simpa using h⟩
theorem sD(h:hv P t k=true):eS P t k=true:=by
 unfold hv at h;rw[Bool.and_eq_true]at h;exact h.2
theorem zb(h:hv P t k=true):∃d,P.underlying t=some d/\d.isRow=true:=by
 unfold hv at h;rw[Bool.and_eq_true]at h;cases hu:P.underlying t with
 |none=>rw[hu]at h;cases h.1
 |some d=>rw[hu]at h;refine⟨d,rfl,?_⟩;cases d<;>simp_all [TypeDesc.isRow]
theorem kc(h:eS P t k=true):(sizeOf t).run P w=.ok k w:=by
 obtain⟨i,hi,aP⟩:=uh h;simp[sizeOf,typeInfo,hi,aP]
theorem IT(aF:o.op=.load t A)(aR:ρ A=.pointer (some a))(aM:fb P t=true)(aJ:w.cell? a=some v):(execOp ρ o).run P w=.ok (.value v) w:=by
 have aj:(isAgg t).run P w=.ok false w:=Bs aM;simp[execOp,aF,aR,Instr.loadAt,Instr.sureAddr,loadVar,aj,aJ,go_sem]
theorem aE(aF:o.op=.load t A)(aR:ρ A=.pointer (some ⟨g,off,none⟩))(aM:fb P t=true)(al:w.heap[g]? =some (.cells cs T fr))(aD:cs[off]? =some v):(execOp ρ o).run P w=.ok (.value v) w:=
 IT aF aR aM (cell_of al aD)
theorem IU(aF:o.op=.load t A)(aR:ρ A=.pointer (some ⟨g,off,none⟩))(aM:hv P t k=true)(al:w.heap[g]? =some (.cells cs T fr))(ab:off+k<=cs.size):
  (execOp ρ o).run P w=.ok (.value (.agg (cs.extract off (off+k)))) w:=by
 obtain⟨d,hu,aT⟩:=zb aM;obtain⟨i,hi,aP⟩:=uh (sD aM);have aI:((cs.extract off (off+k)).toList).length=k:=by simp;omega
 have:=run_loadAt_mid (P:=P) w g off t (cs.extract off (off+k)).toList d (fun j v aD=>cell_of al (by
  simp[List.getElem?_take,List.getElem?_drop]at aD;exact aD.2)) hu aT (by rw[hi,aI];simp[aP])
 rw[Array.toArray_toList]at this;simp only[execOp,aF,aR,Sem.run_bind,this,Result.andThen_ok];rfl
theorem gb{vs:Array Value}(aF:o.op=.load t A)(aR:ρ A=.pointer (some ⟨g,off,none⟩))(aM:hv P t k=true)(al:w.heap[g]? =some (.cells cs T fr))(ab:Nat.ble (off+k) cs.size=true)(he:((cs.toList.drop off).take k).toArray=vs):
  (execOp ρ o).run P w=.ok (.value (.agg vs)) w:=by
 subst he;rw[IU aF aR aM al (by simpa using ab)];congr 3;apply Array.toList_inj.1;simp
theorem cW(aF:o.op=.load t A)(aR:ρ A=.pointer (some ⟨g,0,none⟩))(aM:hv P t k=true)(al:w.heap[g]? =some (.cells cs T fr))(ab:cs.size=k):
  (execOp ρ o).run P w=.ok (.value (.agg cs)) w:=by
 rw[IU aF aR aM al (by omega)];congr 3;subst ab;simp
theorem br{x:Int}(bG: -9223372036854775808<=x)(aj:x<=9223372036854775807):IntKind.i64.wrap x=x:=by
 have cz:(2^IntKind.i64.bits:Int)=18446744073709551616:=rfl;have c6:(2^(IntKind.i64.bits-1):Int)=9223372036854775808:=rfl;have ih:IntKind.i64.signed=true:=rfl;simp only[IntKind.wrap,cz,c6,ih,Bool.true_and,decide_eq_true_eq];split<;>omega
theorem eZ{b fI:Bool}(h:(execOp ρ o).run P w=.ok (.value (.bool fI)) w)(ak:fI=b):(execOp ρ o).run P w=.ok (.value (.bool b)) w:=by rw[h,ak]
theorem num{b fI:Int}{kd:IntKind}(h:(execOp ρ o).run P w=.ok (.value (.int kd fI)) w)(ak:fI=b):(execOp ρ o).run P w=.ok (.value (.int kd b)) w:=by rw[h,ak]
theorem Ci(aF:o.op=.store t A X)(aR:ρ A=.pointer (some ⟨g,off,none⟩))(bS:ρ X=v)(aM:eS P t 1=true)(al:w.heap[g]? =some (.cells cs T (0,0)))(ab:off<cs.size)(aj:v.oneCell'=true):
  (execOp ρ o).run P w=.ok .skip (w.setRow g (cs.setIfInBounds off v)):=by
 obtain⟨i,hi,aP⟩:=uh aM;have an:=run_storeCells_at P g off T [v] 0 cs w al (by simp;omega) (by simpa using aj);have aB:(cs.toList.take (off+0)++[v]++cs.toList.drop (off+0+ [v].length)).toArray=cs.setIfInBounds off v:=by
  apply Array.toList_inj.1;simp only[Array.toList_setIfInBounds,Nat.add_zero,List.length_singleton];rw[List.set_eq_take_append_cons_drop,if_pos (by simpa using ab)];simp
 rw[aB]at an;have aD:v.cells= #[v]:=by cases v<;>first|rfl|simp[Value.oneCell']at aj
 simp[execOp,aF,aR,bS,Instr.storeAt,Instr.sureAddr,storeVar,aD,kc (w:=w) aM,an]
theorem Cj{vs:Array Value}(aF:o.op=.store t A X)(aR:ρ A=.pointer (some ⟨g,off,none⟩))(bS:ρ X=.agg vs)(aM:eS P t vs.size=true)(al:w.heap[g]? =some (.cells cs T (0,0)))(ab:off+vs.size<=cs.size)(aj:∀v∈vs.toList,v.oneCell'=true):
  (execOp ρ o).run P w=.ok .skip (w.setRow g (cs.toList.take off++vs.toList++cs.toList.drop (off+vs.size)).toArray):=by
 have an:=run_storeCells_at P g off T vs.toList 0 cs w al (by simp;omega) aj;simp only[Nat.add_zero,Array.length_toList]at an;simp[execOp,aF,aR,bS,Instr.storeAt,Instr.sureAddr,storeVar,Value.cells,kc (w:=w) aM,an]
theorem cy{cs':Array Value}(aF:o.op=.store t A X)(aR:ρ A=.pointer (some ⟨g,off,none⟩))(bS:ρ X=v)(aM:eS P t 1=true)(al:w.heap[g]? =some (.cells cs T (0,0)))(ab:Nat.blt off cs.size=true)(aj:v.oneCell'=true)(he:(cs.toList.set off v).toArray=cs'):
  (execOp ρ o).run P w=.ok .skip (w.setRow g cs'):=by
 subst he;rw[Ci aF aR bS aM al (by simpa using ab) aj];congr 2;apply Array.toList_inj.1;simp
theorem dr{vs cs':Array Value}{m:Nat}(aF:o.op=.store t A X)(aR:ρ A=.pointer (some ⟨g,off,none⟩))(bS:ρ X=.agg vs)(aM:eS P t m=true)(hm:vs.size=m)(al:w.heap[g]? =some (.cells cs T (0,0)))(ab:Nat.ble (off+m) cs.size=true)(aj:vs.toList.all (·.oneCell')=true)
  (he:(cs.toList.take off++vs.toList++cs.toList.drop (off+m)).toArray=cs'):
  (execOp ρ o).run P w=.ok .skip (w.setRow g cs'):=by
 subst he;subst hm;exact Cj aF aR bS aM al (by simpa using ab) (fun v aD=>List.all_eq_true.1 aj v aD)
theorem IQ(aF:o.op=.box t X)(bS:ρ X=v):(execOp ρ o).run P w=.ok (.value (.pointer (some ⟨w.heap.size,0,none⟩))) (w.alloc (.cells v.cells t)):=by
 simp only[execOp,aF,bS];rfl
theorem cS(aF:o.op=.box t X)(bS:ρ X=.agg cs):(execOp ρ o).run P w=.ok (.value (.pointer (some ⟨w.heap.size,0,none⟩))) (w.alloc (.cells cs t)):=IQ aF bS
theorem Ca(aF:o.op=.box t X)(bS:ρ X=v)(aj:v.oneCell'=true):(execOp ρ o).run P w=.ok (.value (.pointer (some ⟨w.heap.size,0,none⟩))) (w.alloc (.cells #[v] t)):=by
 have aD:v.cells= #[v]:=by cases v<;>first|rfl|simp[Value.oneCell']at aj
 have:=IQ (P:=P) (w:=w) aF bS
 rwa [aD]at this
theorem IL(aF:o.op=.alloc t)(au:zeroOf P t=some v):(execOp ρ o).run P w=.ok (.value (.pointer (some ⟨w.heap.size,0,none⟩))) (w.alloc (.cells v.cells t)):=by
 unfold zeroOf at au;cases hi:P.info? t with
 |none=>rw[hi]at au;cases au
 |some i=>
  rw[hi]at au;simp only[Option.bind_some]at au;have aj:(zeroValue t).run P w=.ok v w:=by simp[zeroValue,typeInfo,hi,au]
  simp only[execOp,aF,Instr.alloc,Sem.run_bind,aj,Result.andThen_ok];rfl
theorem bT(aF:o.op=.alloc t)(au:zeroOf P t=some (.agg cs)):(execOp ρ o).run P w=.ok (.value (.pointer (some ⟨w.heap.size,0,none⟩))) (w.alloc (.cells cs t)):=IL aF au
theorem IM(aF:o.op=.alloc t)(au:zeroOf P t=some v)(aj:v.oneCell'=true):(execOp ρ o).run P w=.ok (.value (.pointer (some ⟨w.heap.size,0,none⟩))) (w.alloc (.cells #[v] t)):=by
 have aD:v.cells= #[v]:=by cases v<;>first|rfl|simp[Value.oneCell']at aj
 have:=IL (P:=P) (w:=w) (ρ:=ρ) aF au
 rwa [aD]at this
theorem mH{f:Nat}(aF:o.op=.fieldAddr s A f)(aR:ρ A=.pointer (some ⟨g,off,none⟩))(bu:gG P s f k=true):
  (execOp ρ o).run P w=.ok (.value (.pointer (some ⟨g,off+k,none⟩))) w:=by
 unfold gG at bu;cases hu:P.underlying s with
 |none=>rw[hu]at bu;cases bu
 |some d=>
  rw[hu]at bu;cases d with
  |struct dX=>
   simp only at bu;cases A5:dX[f]? with
   |none=>rw[A5]at bu;cases bu
   |some fd=>
    rw[A5]at bu;simp only[Bool.and_eq_true,beq_iff_eq]at bu;obtain⟨aj,an⟩:=bu;cases hi:P.info? fd.type with
    |none=>rw[hi]at an;cases an
    |some i=>
     rw[hi]at an;have aB:i.size≠0:=by simpa using an
     subst aj;simp[execOp,aF,aR,Instr.fieldAt,Instr.sureAddr,run_underlying hu,A5,fieldPlace,sizeOf,typeInfo,hi,aB,add_plain]
  |_=>cases bu
theorem mb{n c:Nat}{b:Option Addr}{b7:List TypeId}{args:List Operand}(aF:o.op=.call {callee:=.builtin .len,args:=args.toArray,argTypes:=b7.toArray})(bm:args=[X])(fp:b7=[t])(bS:ρ X=.slice b n c)(aM:dN P t e=true):
  (execOp ρ o).run P w=.ok (.value (.int .i64 n)) w:=by
 subst bm fp;unfold dN at aM;cases hu:P.underlying t with
 |none=>rw[hu]at aM;cases aM
 |some d=>
  rw[hu]at aM;cases d with
  |slice bV=>simp[execOp,aF,resolve,invoke,builtin,Builtin.len_,bS,run_underlying hu,goInt]
  |_=>cases aM
theorem IS{n c i:Nat}{kd:IntKind}{x:Int}{sz:Nat}(aF:o.op=.indexAddr t X Y)(bS:ρ X=.slice (some ⟨g,off,none⟩) n c)(du:ρ Y=.int kd x)(ad:x=i)(hi:i<n)(aM:dN P t e=true)(aP:eS P e sz=true):
  (execOp ρ o).run P w=.ok (.value (.pointer (some ⟨g,off+i*sz,none⟩))) w:=by
 subst ad;unfold dN at aM;cases hu:P.underlying t with
 |none=>rw[hu]at aM;cases aM
 |some d=>
  rw[hu]at aM;cases d with
  |slice bV=>
   have he:bV=e:=by simpa using aM
   subst he;have aj:(0:Int)<=(i:Int)/\(i:Int)<(n:Int):=by omega
   simp[execOp,aF,bS,du,Instr.indexAt,asIntOf,run_underlying hu,hi,kc (w:=w) aP,add_plain]
  |_=>cases aM
theorem ar{f:FuncId}{args:List Operand}{b7:Array TypeId}(aF:o.op=.call {callee:=.value (.func f),args:=args.toArray,argTypes:=b7})(Bn:ρ (.func f)=.func (.func f) #[] #[])(bu:bO P f=true):
  (execOp ρ o).run P w=.ok (.enter f (args.map ρ).toArray) w:=by
 unfold bO at bu;cases h:P.funcs[f]? with
 |none=>rw[h]at bu;cases bu
 |some fn=>
  rw[h]at bu;simp only[Bool.and_eq_true,Bool.not_eq_true']at bu;obtain⟨aj,an⟩:=bu;have aB:¬fn.body=none:=by cases ak:fn.body<;>simp_all
  have be:¬fn.name= "runtime.NumGoroutine" :=by simpa using an
  simp[execOp,aF,resolve,Bn,Deferred.ofValue,invoke,callFunc,h,be,aB,program,Sem.run]
end
end
section
open Go.RowKit
structure az where
 et:List Nat
 ok:World->Prop
 pS:∀w w':World,(∀g∈et,w'.heap[g]? =w.heap[g]?)->ok w->ok w'
def az.bb(g:Nat)(o:Obj):az:=⟨[g],fun w=>w.heap[g]? =some o,fun w w' h k=>(h g (by simp)).trans k⟩
structure gI(F:Nat->Prop)(w w':World):Prop where
 size:w.heap.size<=w'.heap.size
 block:∀g,g<w.heap.size->¬F g->w'.heap[g]? =w.heap[g]?
def aS(L:List az)(g:Nat):Prop:=∃e∈L,g∈e.et
def qW:Nat->Prop:=fun _=>False
structure dc(F:Nat->Prop)(w w':World):Prop where
 os:w'.os=w.os
 tape:w'.tape=w.tape
 output:w'.output=w.output
 held:gI F w w'
structure Mem(w0:World)(O:Nat->Prop)(L:List az)(Φ:World->Prop)(w:World):Prop where
 jM:dc O w0 w
 gi:∀e∈L,e.ok w
 lt:∀e∈L,∀g∈e.et,g<w.heap.size
 own:∀e∈L,∀g∈e.et,w0.heap.size<=g\/O g
 apart:L.Pairwise fun e bV=>∀g∈e.et,g∉bV.et
 safe:∀w',gI (aS L) w w'->Φ w'
section
variable{w0 w w':World}{O F wL:Nat->Prop}{L L':List az}{Φ aaU:World->Prop}{e:az}{i g:Nat}
theorem gI.refl(F:Nat->Prop)(w:World):gI F w w:=⟨Nat.le_refl _,fun _ _ _=>rfl⟩
theorem gI.trans{a b c:World}(h:gI F a b)(k:gI F b c):gI F a c:=
 ⟨Nat.le_trans h.size k.size,fun g al dd=>(k.block g (Nat.lt_of_lt_of_le al h.size) dd).trans (h.block g al dd)⟩
theorem gI.mono(h:gI F w w')(cG:∀g,g<w.heap.size->F g->wL g):gI wL w w':=⟨h.size,fun g al a6=>h.block g al (fun c=>a6 (cG g al c))⟩
theorem gI.kW(h:bd w w'):gI F w w':=⟨h.size,fun g al _=>h.block g al⟩
theorem dc.refl(F:Nat->Prop)(w:World):dc F w w:=⟨rfl,rfl,rfl,.refl _ _⟩
theorem dc.trans{a b c:World}(h:dc F a b)(k:dc F b c):dc F a c:=⟨k.os.trans h.os,k.tape.trans h.tape,k.output.trans h.output,h.held.trans k.held⟩
theorem dc.mono(h:dc F w w')(cG:∀g,g<w.heap.size->F g->wL g):dc wL w w':=⟨h.os,h.tape,h.output,h.held.mono cG⟩
theorem dc.kW(h:bd w w'):dc F w w':=⟨h.os,h.tape,h.output,.kW h⟩
theorem dc.ext(h:dc qW w w'):bd w w':=⟨h.os,h.tape,h.output,h.held.size,fun g al=>h.held.block g al id⟩
theorem dc.setRow{g:Nat}{cs:Array Value}(al:F g):dc F w (w.setRow g cs):=⟨rfl,rfl,rfl,by simp,fun k ab a6=>setRow_other w g k cs (fun e=>a6 (e▸al))⟩
theorem Mem.fact(M:Mem w0 O L Φ w):Φ w:=M.safe w (gI.refl _ _)
theorem Mem.dG(M:Mem w0 O L Φ w){e:az}(i:Nat)(h:L[i]? =some e):e.ok w:=M.gi e (List.mem_of_getElem? h)
theorem Mem.row(M:Mem w0 O L Φ w){i g:Nat}{o:Obj}(h:L[i]? =some (.bb g o)):w.heap[g]? =some o:=M.dG i h
theorem Mem.swap(M:Mem w0 O L Φ w)(aJ:dc (aS L) w w')(aj:∀e∈L',e.ok w')(an:∀e∈L',∀g∈e.et,g<w'.heap.size)(aB:∀e∈L',∀g∈e.et,aS L g\/w.heap.size<=g)(be:L'.Pairwise fun e bV=>∀g∈e.et,g∉bV.et):Mem w0 O L' Φ w':=by
 refine⟨⟨aJ.os.trans M.jM.os,aJ.tape.trans M.jM.tape,aJ.output.trans M.jM.output,⟨Nat.le_trans M.jM.held.size aJ.held.size,fun g al gS=>?_⟩⟩,aj,an,fun e he g al=>?_,be,fun sG h=>M.safe sG ⟨Nat.le_trans aJ.held.size h.size,fun g al a6=>?_⟩⟩
 ·rw[aJ.held.block g (Nat.lt_of_lt_of_le al M.jM.held.size) (fun⟨e,he,hb⟩=>?_)]
  ·exact M.jM.held.block g al gS
  ·rcases M.own e he g hb with h|h
   ·omega
   ·exact gS h
 ·rcases aB e he g al with⟨bV,A2,dq⟩|h
  ·exact M.own bV A2 g dq
  ·exact .inl (Nat.le_trans M.jM.held.size h)
 ·rw[h.block g (Nat.lt_of_lt_of_le al aJ.held.size) (fun⟨e,he,hb⟩=>?_)]
  ·exact aJ.held.block g al a6
  ·rcases aB e he g hb with h|h
   ·exact a6 h
   ·omega
theorem Mem.na(M:Mem w0 O L Φ w)(he:e∈L)(h:∀g∈e.et,w'.heap[g]? =w.heap[g]?):e.ok w':=e.pS w w' h (M.gi e he)
theorem Mem.ext(M:Mem w0 O L Φ w)(h:bd w w'):Mem w0 O L Φ w':=
 M.swap (.kW h) (fun e he=>M.na he fun g al=>h.block g (M.lt e he g al)) (fun e he g al=>Nat.lt_of_lt_of_le (M.lt e he g al) h.size) (fun e he g al=>.inl ⟨e,he,al⟩) M.apart
theorem Mem.jo(M:Mem w0 O L Φ w)(h:bd w w')(e:az)(m5:e.ok w')(bu:∀g∈e.et,w.heap.size<=g/\g<w'.heap.size):Mem w0 O (e::L) Φ w':=by
 have aA:=M.ext h;refine M.swap (.kW h) (fun bV he=>?_) (fun bV he g al=>?_) (fun bV he g al=>?_) (List.pairwise_cons.2 ⟨fun bV he g al dq=>?_,M.apart⟩)
 ·rcases List.mem_cons.1 he with rfl|he
  ·exact m5
  ·exact aA.gi bV he
 ·rcases List.mem_cons.1 he with rfl|he
  ·exact(bu g al).2
  ·exact aA.lt bV he g al
 ·rcases List.mem_cons.1 he with rfl|he
  ·exact .inr (bu g al).1
  ·exact .inl ⟨bV,he,al⟩
 ·have:=M.lt bV he g dq;have:=(bu g al).1;omega
theorem Mem.alloc(M:Mem w0 O L Φ w)(o:Obj):Mem w0 O (.bb w.heap.size o::L) Φ (w.alloc o):=
 M.jo (bd.alloc w o) _ (by show(w.heap.push o)[w.heap.size]? =some o;simp) (fun g al=>by simp[az.bb]at al;subst al;simp)
theorem Mem.change(M:Mem w0 O L Φ w)(hi:L[i]? =some e)(bV:az)(aJ:dc (fun g=>g∈e.et) w w')(m5:bV.ok w')(bu:∀g∈bV.et,g<w'.heap.size/\(g∈e.et\/w.heap.size<=g)):Mem w0 O (L.set i bV) Φ w':=by
 have dd:i<L.length:=(List.getElem?_eq_some_iff.1 hi).1;have Gg:L[i]=e:=(List.getElem?_eq_some_iff.1 hi).2;have he:e∈L:=List.mem_of_getElem? hi;have cK:∀j (ax:j<L.length),j≠i->∀g∈e.et,g∉L[j].et:=by
  intro j ax eP g al dq;have hp:=List.pairwise_iff_getElem.1 M.apart;rcases Nat.lt_or_gt_of_ne eP with lt|lt
  ·exact hp j i ax dd lt g dq (by rw[Gg];exact al)
  ·exact hp i j dd ax lt g (by rw[Gg];exact al) dq
 have hold:∀j (ax:j<L.length),j≠i->L[j].ok w':=fun j ax eP=>M.na (List.getElem_mem ax) fun g al=>aJ.held.block g (M.lt _ (List.getElem_mem ax) g al) (fun hb=>cK j ax eP g hb al);have A0:∀x∈L.set i bV,x=bV\/∃j,∃ax:j<L.length,j≠i/\x=L[j]:=by
  intro x ad;obtain⟨j,ax,rfl⟩:=List.getElem_of_mem ad;by_cases c:i=j
  ·subst c;exact .inl (by simp)
  ·exact .inr ⟨j,by simpa using ax,fun h=>c h.symm,by rw[List.getElem_set_ne c]⟩
 refine M.swap ⟨aJ.os,aJ.tape,aJ.output,aJ.held.mono fun g _ h=>⟨e,he,h⟩⟩ (fun x ad=>?_) (fun x ad g al=>?_) (fun x ad g al=>?_) ?_
 ·rcases A0 x ad with rfl|⟨j,ax,eP,rfl⟩
  ·exact m5
  ·exact hold j ax eP
 ·rcases A0 x ad with rfl|⟨j,ax,eP,rfl⟩
  ·exact(bu g al).1
  ·exact Nat.lt_of_lt_of_le (M.lt _ (List.getElem_mem ax) g al) aJ.held.size
 ·rcases A0 x ad with rfl|⟨j,ax,eP,rfl⟩
  ·rcases(bu g al).2 with h|h
   ·exact .inl ⟨e,he,h⟩
   ·exact .inr h
  ·exact .inl ⟨_,List.getElem_mem ax,al⟩
 ·rw[List.pairwise_iff_getElem];intro a b bm ak tk g al dq;simp only[List.length_set]at bm ak;by_cases c:i=a
  ·subst c;rw[List.getElem_set_self]at al;rw[List.getElem_set_ne (by omega)]at dq;rcases(bu g al).2 with h|h
   ·exact cK b ak (by omega) g h dq
   ·have:=M.lt _ (List.getElem_mem ak) g dq;omega
  ·rw[List.getElem_set_ne c]at al;by_cases d:i=b
   ·subst d;rw[List.getElem_set_self]at dq;rcases(bu g dq).2 with h|h
    ·exact cK a bm (by omega) g h al
    ·have:=M.lt _ (List.getElem_mem bm) g al;omega
   ·rw[List.getElem_set_ne d]at dq;exact List.pairwise_iff_getElem.1 M.apart a b bm ak tk g al dq
theorem Mem.set(M:Mem w0 O L Φ w){i g:Nat}{cs cs':Array Value}{T:TypeId}{fr:Nat×Nat}(h:L[i]? =some (.bb g (.cells cs T fr))):Mem w0 O (L.set i (.bb g (.cells cs' T fr))) Φ (w.setRow g cs'):=
 M.change h _ (dc.setRow (by simp[az.bb])) (setRow_heap w g cs cs' T fr (M.row h)) (fun k ab=>⟨by simpa using M.lt _ (List.mem_of_getElem? h) k (by simpa [az.bb]using ab),.inl (by simpa [az.bb]using ab)⟩)
theorem Mem.sub(M:Mem w0 O L Φ w)(h:L'.Sublist L):Mem w0 O L' Φ w:=
 ⟨M.jM,fun e he=>M.gi e (h.mem he),fun e he=>M.lt e (h.mem he),fun e he=>M.own e (h.mem he),M.apart.sublist h,fun w' m1=>M.safe w' (m1.mono fun g _ ⟨e,he,al⟩=>⟨e,h.mem he,al⟩)⟩
theorem Mem.perm(M:Mem w0 O L Φ w)(h:L'.Perm L):Mem w0 O L' Φ w:=
 ⟨M.jM,fun e he=>M.gi e (h.mem_iff.1 he),fun e he=>M.lt e (h.mem_iff.1 he),fun e he=>M.own e (h.mem_iff.1 he),(h.pairwise_iff (fun ap g al dq=>ap g dq al)).2 M.apart,fun w' m1=>M.safe w' (m1.mono fun g _ ⟨e,he,al⟩=>⟨e,h.mem_iff.1 he,al⟩)⟩
theorem Mem.view(M:Mem w0 O L Φ w)(hi:L[i]? =some e)(bV:az)(m5:e.ok w->bV.ok w)(bu:∀g∈bV.et,g∈e.et):Mem w0 O (L.set i bV) Φ w:=
 M.change hi bV (.refl _ _) (m5 (M.dG i hi)) fun g al=>⟨M.lt e (List.mem_of_getElem? hi) g (bu g al),.inl (bu g al)⟩
end
theorem V4(t:TypeId)(sz:Nat)(v:Value)(n:Nat)(xs:List Value)(w w':World)(h:∀g∈v.ownBlock.toList,w'.heap[g]? =w.heap[g]?)(k:w.ownsRow 0 t sz v n xs):w'.ownsRow 0 t sz v n xs:=by
 obtain⟨aj,an⟩:=k;refine⟨aj,?_⟩;rcases an with an|⟨g,cap,dz,rfl,aB,be,bZ⟩
 ·exact .inl an
 ·exact .inr ⟨g,cap,dz,U,aB,(h g (by simp[Value.ownBlock])).trans be,bZ⟩
def az.row(t:TypeId)(sz:Nat)(v:Value)(n:Nat)(xs:List Value):az:=⟨v.ownBlock.toList,fun w=>w.ownsRow 0 t sz v n xs,V4 t sz v n xs⟩
def Reads(sz:Nat)(w:World)(v:Value)(n:Nat)(xs:List Value):Prop:=
 xs.length=n*sz/\((v=.slice none 0 0/\n=0)\/∃g off cap,v=.slice (some ⟨g,off,none⟩) n cap/\n<=cap/\cap<=maxLen/\g<w.heap.size/\∀j u,xs[j]? =some u->w.cell? ⟨g,off+j,none⟩=some u)
section
variable{w w':World}{t:TypeId}{sz n:Nat}{v:Value}{xs:List Value}{F:Nat->Prop}
theorem nS(h:w.ownsRow 0 t sz v n xs):Reads sz w v n xs:=by
 refine⟨h.1,?_⟩;rcases h.2 with an|⟨g,cap,dz,rfl,aB,be,bZ,dZ,jO⟩
 ·exact .inl an
 ·refine .inr ⟨g,0,cap,U,bZ,dZ,(Array.getElem?_eq_some_iff.1 be).1,fun j u hu=>?_⟩;have:=h.cells (g:=g) rfl j u hu
  rwa [add_plain]at this
theorem Mem.reads{w0:World}{O:Nat->Prop}{L:List az}{Φ:World->Prop}(M:Mem w0 O L Φ w)(i:Nat)(h:L[i]? =some (.row t sz v n xs)):Reads sz w v n xs:=nS (M.dG i h)
theorem Reads.held(h:Reads sz w v n xs)(H:gI F w w')(cG:∀g,v.ownBlock=some g->¬F g):Reads sz w' v n xs:=by
 refine⟨h.1,?_⟩;rcases h.2 with an|⟨g,off,cap,rfl,aB,be,bZ,dZ⟩
 ·exact .inl an
 ·exact .inr ⟨g,off,cap,U,aB,be,Nat.lt_of_lt_of_le bZ H.size,fun j u hu=>(World.cell?_of_block (w:=w) (H.block g bZ (cG g U))).trans (dZ j u hu)⟩
theorem Reads.ext(h:Reads sz w v n xs)(H:bd w w'):Reads sz w' v n xs:=h.held (F:=qW) (.kW H) fun _ _=>id
theorem Reads.slice(h:Reads sz w v n xs):∃b c,v=.slice b n c:=by
 rcases h.2 with⟨rfl,rfl⟩|⟨g,off,cap,rfl,_⟩
 ·exact⟨_,_,U⟩
 ·exact⟨_,_,U⟩
end
end
section
open Go.RowKit
structure Has(w:World)(L:List az):Prop where
 gi:∀e∈L,e.ok w
 lt:∀e∈L,∀g∈e.et,g<w.heap.size
 apart:L.Pairwise fun e bV=>∀g∈e.et,g∉bV.et
def aY{α:Type}(P:Program)(f:FuncId)(args:List Value)(w:World)(ins:List az)(val:α->Value)(outs:α->List az)(p:α->Prop):Prop:=
 Calls P f args.toArray w fun oe w'=>∃x,oe=.returned (val x)/\dc (aS ins) w w'/\Has w' (outs x)/\(∀g,aS (outs x) g->aS ins g\/w.heap.size<=g)/\p x
def bH(P:Program)(f:FuncId)(args:List Value)(w:World)(v:Value):Prop:=aY P f args w [] (fun _:Unit=>v) (fun _=>[]) (fun _=>True)
section
variable{w0 w w':World}{O:Nat->Prop}{L L' ins rest outs:List az}{Φ aaU:World->Prop}{e:az}{i g:Nat}
theorem Mem.has(M:Mem w0 O L Φ w):Has w L:=⟨M.gi,M.lt,M.apart⟩
theorem Has.nil(w:World):Has w []:=⟨fun _ h=>(by cases h),fun _ h=>(by cases h),.nil⟩
theorem gQ{g:Nat}:¬aS [] g:=fun⟨_,h,_⟩=>by cases h
theorem g9{e:az}{g:Nat}:aS [e] g↔g∈e.et:=⟨fun⟨x,h,al⟩=>by simp at h;subst h;exact al,fun h=>⟨e,by simp,h⟩⟩
theorem hN{A B:List az}{g:Nat}:aS (A++B) g↔aS A g\/aS B g:=by
 constructor
 ·rintro⟨e,he,al⟩;rcases List.mem_append.1 he with h|h
  ·exact .inl ⟨e,h,al⟩
  ·exact .inr ⟨e,h,al⟩
 ·rintro(⟨e,he,al⟩|⟨e,he,al⟩)
  ·exact⟨e,List.mem_append_left _ he,al⟩
  ·exact⟨e,List.mem_append_right _ he,al⟩
theorem Mem.begin(h:Has w ins)(S4:∀w',gI (aS ins) w w'->Φ w'):Mem w (aS ins) ins Φ w:=⟨.refl _ _,h.gi,h.lt,fun e he g al=>.inr ⟨e,he,al⟩,h.apart,S4⟩
theorem Has.sub(h:Has w L)(aP:L'.Sublist L):Has w L':=⟨fun e he=>h.gi e (aP.mem he),fun e he=>h.lt e (aP.mem he),h.apart.sublist aP⟩
theorem Mem.out(M:Mem w0 (aS ins) L Φ w)(aP:outs.Sublist L):dc (aS ins) w0 w/\Has w outs/\(∀g,aS outs g->aS ins g\/w0.heap.size<=g):=
 ⟨M.jM,M.has.sub aP,fun g ⟨e,he,al⟩=>(M.own e (aP.mem he) g al).symm⟩
theorem ES{α:Type}:∀(l:List α) (i:Nat) (h:i<l.length),(l[i]::l.eraseIdx i).Perm l
 |x::l,0,_=>.refl _
 |x::l,i+1,h=>(List.Perm.swap x _ _).trans ((ES l i (by simpa using h)).cons x)
theorem Mem.aH(M:Mem w0 O L Φ w)(i:Nat)(h:L[i]? =some e):Mem w0 O (e::L.eraseIdx i) Φ w:=by
 obtain⟨hi,he⟩:=List.getElem?_eq_some_iff.1 h;subst he;exact M.perm (ES L i hi)
theorem Mem.call(M:Mem w0 O (ins++rest) Φ w)(aJ:dc (aS ins) w w')(aF:Has w' outs)(bu:∀g,aS outs g->aS ins g\/w.heap.size<=g):Mem w0 O (outs++rest) Φ w':=by
 have cK:=List.pairwise_append.1 M.apart;have xY:∀e∈rest,∀g∈e.et,w'.heap[g]? =w.heap[g]? :=fun e he g al=>aJ.held.block g (M.lt e (List.mem_append_right _ he) g al) (fun⟨x,ad,dq⟩=>cK.2.2 x ad e he g dq al);refine M.swap (aJ.mono fun g _ h=>hN.2 (.inl h)) (fun e he=>?_) (fun e he g al=>?_) (fun e he g al=>?_) (List.pairwise_append.2 ⟨aF.apart,cK.2.1,fun a bm b ak g al dq=>?_⟩)
 ·rcases List.mem_append.1 he with h|h
  ·exact aF.gi e h
  ·exact M.na (List.mem_append_right _ h) (xY e h)
 ·rcases List.mem_append.1 he with h|h
  ·exact aF.lt e h g al
  ·exact Nat.lt_of_lt_of_le (M.lt e (List.mem_append_right _ h) g al) aJ.held.size
 ·rcases List.mem_append.1 he with h|h
  ·exact(bu g ⟨e,h,al⟩).imp (fun h=>hN.2 (.inl h)) id
  ·exact .inl (hN.2 (.inr ⟨e,h,al⟩))
 ·rcases bu g ⟨a,bm,al⟩with⟨x,ad,pw⟩|h
  ·exact cK.2.2 x ad b ak g pw dq
  ·have:=M.lt b (List.mem_append_right _ ak) g dq;omega
theorem Mem.jb(M:Mem w0 O L Φ w)(h:bd w w')(aF:Has w' outs)(bu:∀g,aS outs g->w.heap.size<=g):Mem w0 O (outs++L) Φ w':=
 Mem.call (ins:=[]) (by simpa using M) (.kW h) aF fun g al=>.inr (bu g al)
theorem Has.ext(h:Has w L)(ad:bd w w'):Has w' L:=⟨fun e he=>e.pS w w' (fun g al=>ad.block g (h.lt e he g al)) (h.gi e he),fun e he g al=>Nat.lt_of_lt_of_le (h.lt e he g al) ad.size,h.apart⟩
theorem Reads.bU{sz n:Nat}{v:Value}{xs:List Value}(h:Reads sz w v n xs)(H:gI (aS []) w w'):Reads sz w' v n xs:=h.held H fun _ _=>gQ
end
def rp(P:Program)(f:FuncId)(args:Array Value)(w:World)(s:Spec):Prop:=Calls P f args w fun e w'=>∃v,e=.returned v/\(bd w w'/\s.ok w' v)
theorem bH.ext{P:Program}{f:FuncId}{args:List Value}{w:World}{v:Value}(h:bH P f args w v):rp P f args.toArray w (.af v):=
 h.mono fun oe w' ⟨x,aj,an,aB,be,bZ⟩=>⟨_,aj,(an.mono fun g _ h=>(gQ h).elim:dc qW w w').ext,rfl⟩
section
variable{P:Program}{ops:Array Oper}{Q:Exit->Act->World->Prop}{l:List (Nat×Value)}{n:Nat}{a:Act}{w w' w0:World}{rest:List Oper}{o:Oper}{v:Value}{O:Nat->Prop}{L L' ins R:List az}{Φ:World->Prop}
theorem q9{d:Tmp}{ob:Obj}(f:Nat->Value)(E:Env l n a)(M:Mem w0 O L Φ w)(aT:o.dst=some d)(a6:Nat.blt d n=true)(aJ:dp l o=true)(al:dg ops l o=true)(hw:dh ops l o=true)
  (h:(execOp (cf l) o).run P w=.ok (.value (f w.heap.size)) (w.alloc ob))
  (dD:∀g a' w',Mem w0 O (.bb g ob::L) Φ w'->Env ((d,f g)::l) n a'->wpList P ops Q rest a' w'):wpList P ops Q (o::rest) a w:=
 e5 E aT a6 aJ al hw h fun a' dQ=>dD _ a' _ (M.alloc ob) dQ
theorem sw{i g:Nat}{cs cs':Array Value}{T:TypeId}{fr:Nat×Nat}(E:Env l n a)(M:Mem w0 O L Φ w)(dd:L[i]? =some (.bb g (.cells cs T fr)))(aT:o.dst=none)(aJ:dp l o=true)(al:dg ops l o=true)(hw:dh ops l o=true)
  (h:(execOp (cf l) o).run P w=.ok .skip (w.setRow g cs')) (pn:L.set i (.bb g (.cells cs' T fr))=L')
  (dD:∀a' w',Mem w0 O L' Φ w'->Env l n a'->wpList P ops Q rest a' w'):wpList P ops Q (o::rest) a w:=by
 subst pn;refine Cv E aJ al hw (by rw[aT];rfl) h fun a' dQ=>dD a' _ (M.set dd) ?_;rw[aT]at dQ;exact dQ
theorem sr{α:Type}{val:α->Value}{outs:α->List az}{p:α->Prop}{d:Tmp}{f:FuncId}{args:List Value}(E:Env l n a)(M:Mem w0 O L Φ w)(aT:o.dst=some d)(a6:Nat.blt d n=true)(aJ:dp l o=true)(al:dg ops l o=true)(hw:dh ops l o=true)
  (h:(execOp (cf l) o).run P w=.ok (.enter f args.toArray) w) (C:aY P f args w ins val outs p) (dd:ins++R=L)
  (dD:∀x a' w',p x->Mem w0 O (outs x++R) Φ w'->Env ((d,val x)::l) n a'->wpList P ops Q rest a' w'):wpList P ops Q (o::rest) a w:=by
 subst dd;refine Xa (R:=fun v w'=>∃x,v=val x/\dc (aS ins) w w'/\Has w' (outs x)/\(∀g,aS (outs x) g->aS ins g\/w.heap.size<=g)/\p x) E aJ al hw (by rw[aT];exact a6) h (C.mono fun oe w' ⟨x,aj,an⟩=>⟨_,aj,x,U,an⟩) fun a' v dY ⟨x,aD,aj,an,aB,be⟩ dQ=>dD x a' dY be (M.call aj an aB) ?_;subst aD;rw[aT]at dQ;exact dQ
theorem W4{α:Type}{val:α->Value}{outs:α->List az}{p:α->Prop}{d:Tmp}{f:FuncId}{args:List Value}(ins:List az)(E:Env l n a)(M:Mem w0 O L Φ w)(aT:o.dst=some d)(a6:Nat.blt d n=true)(aJ:dp l o=true)(al:dg ops l o=true)(hw:dh ops l o=true)
  (h:(execOp (cf l) o).run P w=.ok (.enter f args.toArray) w) (dd:ins++R=L) (C:Has w ins->aY P f args w ins val outs p)
  (dD:∀x a' w',p x->Mem w0 O (outs x++R) Φ w'->Env ((d,val x)::l) n a'->wpList P ops Q rest a' w'):wpList P ops Q (o::rest) a w:=by
 subst dd;exact sr E M aT a6 aJ al hw h (C (M.has.sub (List.sublist_append_left _ _))) U dD
theorem yR{d:Tmp}{f:FuncId}{args:List Value}{v:Value}(E:Env l n a)(M:Mem w0 O L Φ w)(aT:o.dst=some d)(a6:Nat.blt d n=true)(aJ:dp l o=true)(al:dg ops l o=true)(hw:dh ops l o=true)
  (h:(execOp (cf l) o).run P w=.ok (.enter f args.toArray) w) (C:bH P f args w v)
  (dD:∀a' w',Mem w0 O L Φ w'->Env ((d,v)::l) n a'->wpList P ops Q rest a' w'):wpList P ops Q (o::rest) a w:=
 sr (ins:=[]) (R:=L) E M aT a6 aJ al hw h C rfl fun _ a' w' _ aA dQ=>dD a' w' aA dQ
end
def e2(sz:Nat)(v:Value)(lo hi:Nat):Value:=
 match v with
 | .slice b _ c=>.slice (if c=lo then b else b.map (·.add (lo*sz))) (hi-lo) (c-lo)
 |_=>undef
def cellAt(v:Value)(k:Nat):Value:=
 match v with
 | .slice (some a) _ _=>.pointer (some (a.add k))
 |_=>undef
section
variable{P:Program}{ρ:Operand->Value}{o:Oper}{w w':World}{t s T e:TypeId}{A X Y:Operand}{v u:Value}{n sz:Nat}{xs:List Value}
theorem kg(h:dN P t e=true):P.underlying t=some (.slice e):=by
 unfold dN at h;cases hu:P.underlying t with
 |none=>rw[hu]at h;cases h
 |some d=>rw[hu]at h;cases d<;>simp_all
theorem bx{b7:List TypeId}{args:List Operand}(aF:o.op=.call {callee:=.builtin .len,args:=args.toArray,argTypes:=b7.toArray})(bm:args=[X])(fp:b7=[t])(bS:ρ X=v)(aM:dN P t e=true)(h:Reads sz w v n xs):
  (execOp ρ o).run P w=.ok (.value (.int .i64 n)) w:=by
 rcases h.2 with⟨rfl,rfl⟩|⟨g,off,cap,rfl,_⟩
 ·exact mb aF bm fp bS aM
 ·exact mb aF bm fp bS aM
theorem bL{i:Nat}{kd:IntKind}{x:Int}(aF:o.op=.indexAddr t X Y)(h:Reads sz w v n xs)(bS:ρ X=v)(du:ρ Y=.int kd x)(ad:x=i)(hi:i<n)(aM:dN P t e=true)(aP:eS P e sz=true):
  (execOp ρ o).run P w=.ok (.value (cellAt v (i*sz))) w:=by
 rcases h.2 with⟨rfl,rfl⟩|⟨g,off,cap,rfl,_⟩
 ·omega
 ·rw[IS aF bS du ad hi aM aP,cellAt,add_plain]
theorem b2{k:Nat}(aF:o.op=.load t A)(h:Reads sz w v n xs)(aR:ρ A=cellAt v k)(aM:fb P t=true)(hu:xs[k]? =some u):(execOp ρ o).run P w=.ok (.value u) w:=by
 rcases h.2 with⟨rfl,rfl⟩|⟨g,off,cap,rfl,_,_,_,aJ⟩
 ·have:=h.1;rw[Nat.zero_mul,List.length_eq_zero_iff]at this;subst this;simp at hu
 ·rw[cellAt,add_plain]at aR;exact IT aF aR aM (aJ k u hu)
theorem hU{k m:Nat}{us:List Value}(aF:o.op=.load t A)(h:Reads sz w v n xs)(aR:ρ A=cellAt v k)(aM:hv P t m=true)(ab:k+m<=n*sz)(hm:0<m)(hu:(xs.drop k).take m=us):(execOp ρ o).run P w=.ok (.value (.agg us.toArray)) w:=by
 subst hu;rcases h.2 with⟨rfl,rfl⟩|⟨g,off,cap,rfl,_,_,_,aJ⟩
 ·omega
 ·rw[cellAt,add_plain]at aR;obtain⟨d,aT,ve⟩:=zb aM;obtain⟨i,hi,aP⟩:=uh (sD aM);have aI:((xs.drop k).take m).length=m:=by simp[h.1];omega
  have:=run_loadAt_mid (P:=P) w g (off+k) t ((xs.drop k).take m) d (fun j v aD=>by
   rw[List.getElem?_take]at aD;split at aD
   ·rw[List.getElem?_drop]at aD;have:=aJ (k+j) v aD
    rwa [<-Nat.add_assoc]at this
   ·cases aD) aT ve (by rw[hi,aI];simp[aP])
  simp only[execOp,aF,aR,Sem.run_bind,this,Result.andThen_ok];rfl
theorem run_sliceBound{k:IntKind}{x:Int}{i y:Nat}{c:BoundsCode}(ad:x=i)(h:i<=y):(Instr.sliceBound (.int k x) y c).run P w=.ok i w:=by
 subst ad;have:(0:Int)<=i/\(i:Int)<=y:=by omega
 simp[Instr.sliceBound,asIntOf,this]
def mm(ρ:Operand->Value)(x:Option Operand)(P1 i:Nat):Prop:=
 match x with
 |none=>i=P1
 |some X=>∃k x,ρ X=.int k x/\x=(i:Int)
theorem ew{L H:Option Operand}{lo hi:Nat}(aF:o.op=.slice t X L H none)(h:Reads sz w v n xs)(bS:ρ X=v)(aM:dN P t e=true)(aP:eS P e sz=true)(aI:mm ρ L 0 lo)(cc:mm ρ H n hi)(aj:lo<=hi)(an:hi<=n):
  (execOp ρ o).run P w=.ok (.value (e2 sz v lo hi)) w:=by
 have hu:=kg aM;have key:∀(b:Option Addr) (cap:Nat),n<=cap->v=.slice b n cap->(execOp ρ o).run P w=.ok (.value (e2 sz v lo hi)) w:=by
  intro b cap aJ aD;subst aD;have Gq:hi<=cap:=by omega
  cases L with
  |none=>
   simp only[mm]at aI;subst aI;cases H with
   |none=>
    simp only[mm]at cc;subst cc;simp[execOp,aF,bS,Instr.sliceAt,Instr.slice,run_underlying hu,Instr.sliceBounds,kc (w:=w) aP,e2]
   |some H=>
    obtain⟨hQ,Dv,cc,jA⟩:=cc;simp[execOp,aF,bS,cc,Instr.sliceAt,Instr.slice,run_underlying hu,Instr.sliceBounds,run_sliceBound jA Gq,kc (w:=w) aP,e2]
  |some L=>
   obtain⟨gk,Du,aI,oy⟩:=aI;cases H with
   |none=>
    simp only[mm]at cc;subst cc;simp[execOp,aF,bS,aI,Instr.sliceAt,Instr.slice,run_underlying hu,Instr.sliceBounds,run_sliceBound oy aj,kc (w:=w) aP,e2]
   |some H=>
    obtain⟨hQ,Dv,cc,jA⟩:=cc;simp[execOp,aF,bS,aI,cc,Instr.sliceAt,Instr.slice,run_underlying hu,Instr.sliceBounds,run_sliceBound jA Gq,run_sliceBound oy aj,kc (w:=w) aP,e2]
 rcases h.2 with⟨rfl,rfl⟩|⟨g,off,cap,rfl,aJ,_⟩
 ·exact key none 0 (Nat.le_refl _) U
 ·exact key _ _ aJ U
theorem Reads.cut{lo hi:Nat}(h:Reads sz w v n xs)(aj:lo<=hi)(an:hi<=n):Reads sz w (e2 sz v lo hi) (hi-lo) ((xs.drop (lo*sz)).take ((hi-lo)*sz)):=by
 have hlen:((xs.drop (lo*sz)).take ((hi-lo)*sz)).length=(hi-lo)*sz:=by
  have cz:hi*sz<=n*sz:=Nat.mul_le_mul_right _ an;rw[List.length_take,List.length_drop,h.1,Nat.sub_mul];omega
 refine⟨hlen,?_⟩;rcases h.2 with⟨rfl,rfl⟩|⟨g,off,cap,rfl,aB,be,bZ,dZ⟩
 ·obtain rfl:hi=0:=by omega
  obtain rfl:lo=0:=by omega
  exact .inl ⟨U,U⟩
 ·refine .inr ⟨g,if cap=lo then off else off+lo*sz,cap-lo,?_,by omega,by omega,bZ,fun j u hu=>?_⟩
  ·show Value.slice _ _ _=_
   by_cases c:cap=lo
   ·simp[c]
   ·simp[c,add_plain]
  ·rw[List.getElem?_take]at hu;split at hu
   ·rw[List.getElem?_drop]at hu;have eP:cap≠lo:=by
     rintro rfl;have:hi-cap=0:=by omega
     simp_all
    rw[if_neg eP];have:=dZ _ u hu
    rwa [<-Nat.add_assoc]at this
   ·cases hu
def ky(P:Program)(t e:TypeId)(m:Nat):Bool:=match P.underlying t with|some (.array r8 bV)=>r8==m&&bV==e|_=>false
theorem lQ{m g:Nat}{cs:Array Value}{T:TypeId}{fr:Nat×Nat}(aF:o.op=.slice t X none none none)(bS:ρ X=.pointer (some ⟨g,0,none⟩))(aM:ky P t e m=true)(aP:eS P e sz=true):
  (execOp ρ o).run P w=.ok (.value (.slice (some ⟨g,0,none⟩) m m)) w:=by
 unfold ky at aM;cases hu:P.underlying t with
 |none=>rw[hu]at aM;cases aM
 |some d=>
  rw[hu]at aM;cases d with
  |array r8 bV=>
   simp at aM;obtain⟨rfl,rfl⟩:=aM;simp[execOp,aF,bS,Instr.sliceAt,Instr.sureAddr,run_underlying hu,Instr.sliceBounds,kc (w:=w) aP,add_plain]
  |_=>cases aM
theorem Wu{m g off cap:Nat}(aF:o.op=.sliceToArrayPointer t X)(bS:ρ X=.slice (some ⟨g,off,none⟩) n cap)(aM:ky P t e m=true)(a6:m<=n):
  (execOp ρ o).run P w=.ok (.value (.pointer (some ⟨g,off,none⟩))) w:=by
 unfold ky at aM;cases hu:P.underlying t with
 |none=>rw[hu]at aM;cases aM
 |some d=>
  rw[hu]at aM;cases d with
  |array r8 bV=>
   simp at aM;obtain⟨rfl,rfl⟩:=aM;have:¬n<r8:=by omega
   simp[execOp,aF,bS,Instr.arrayAt,run_underlying hu,this]
  |_=>cases aM
theorem yB{m g:Nat}{cs:Array Value}{T:TypeId}{fr:Nat×Nat}(al:w.heap[g]? =some (.cells cs T fr))(hm:cs.size=m*sz)(g1:m<=maxLen):Reads sz w (.slice (some ⟨g,0,none⟩) m m) m cs.toList:=
 ⟨by simpa using hm,.inr ⟨g,0,m,rfl,Nat.le_refl _,g1,(Array.getElem?_eq_some_iff.1 al).1,fun j u hu=>by
  rw[Nat.zero_add];exact cell_of al (by simpa using hu)⟩⟩
end
section
variable{P:Program}
theorem Reads.src{w:World}{sz n:Nat}{x:Value}{xs:List Value}{dP bV:TypeId}(h:Reads sz w x n xs)(ab:P.underlying dP=some (.slice bV))(aj:∀u∈xs,u.oneCell'=true):Src P sz dP x n xs w:=by
 rcases h.2 with⟨rfl,rfl⟩|⟨g,off,cap,rfl,_,_,_,aJ⟩
 ·have:=h.1;rw[Nat.zero_mul,List.length_eq_zero_iff]at this;subst this;exact Src.ofNil w ab 0
 ·exact Src.ofSlice w ab _ n cap xs h.1 (fun j u hu=>by rw[add_plain];exact aJ j u hu) aj
theorem IP{w:World}(t dP pW e:TypeId)(i:TypeInfo)(z:Value)(size bytes:Nat)(aM:P.underlying t=some (.slice e))(hi:P.info? e=some i)(au:i.zero=some z)
  (xZ:i.size=size) (Sa:i.bytes=bytes) (oz:z.cells.size=size) (hd:0<size)
  (v:Value) (n:Nat) (xs:List Value) (je:w.ownsRow 0 e size v n xs)
  (x:Value) (m:Nat) (news:List Value) (aP:Src P size dP x m news w)
  (u1:n+m<=maxLen) (Gn:(n+m)*bytes<=140737488355328):
  ∃bR w',(Builtin.append_ #[t,dP] pW #[v,x]).run P w=.ok bR w'/\w'.ownsRow 0 e size bR (n+m) (xs++news)/\w.grownBy w' v.ownBlock/\(∀g,bR.ownBlock=some g->v.ownBlock=some g\/w.heap.size<=g)/\
   (0<n+m->bR.ownBlock.isSome=true):=by
 subst xZ;subst Sa;have abp:n+m<=9223372036854775807:=by simp only[maxLen]at u1;omega
 have aI:=aP.newsLen;have hlen:(xs++news).length=(n+m)*i.size:=by rw[List.length_append,je.1,aI,Nat.add_mul]
 have grown:∀(gA:Nat),gA<n+m->∀(row:Option Nat),
   (w.drew.alloc (.cells ((xs++news).toArray++Builtin.zeroCells z.cells (grownCap w (n+m) gA e-(n+m))) e)).ownsRow 0 e i.size
    (.slice (some ⟨w.heap.size,0,none⟩) (n+m) (grownCap w (n+m) gA e)) (n+m) (xs++news)/\
   w.grownBy (w.drew.alloc (.cells ((xs++news).toArray++Builtin.zeroCells z.cells (grownCap w (n+m) gA e-(n+m))) e)) row:=by
  intro gA aF row;have hb:=grownCap_ge w (n+m) gA e;have hy:grownCap w (n+m) gA e<=maxLen:=grownCap_le_maxLen w (n+m) gA e u1;refine⟨⟨hlen,.inr ⟨w.heap.size,_,_,U,Nat.zero_le _,heap_alloc_new w.drew _,hb,hy,?_,?_⟩⟩,⟨U,U,U,by simp,fun k ab _=>Below.heap_alloc w.drew _ k ab⟩⟩
  ·simp only[Array.size_append,List.size_toArray,size_zeroCells,oz,hlen,<-Nat.add_mul];congr 1;omega
  ·simp only[Array.toList_append];rw[<-hlen];exact List.take_left
 rcases je.2 with⟨rfl,rfl⟩|⟨g,cap,dz,rfl,AZ,al,mu,hy,fo,Bi⟩
 ·have ad:xs=[]:=List.eq_nil_of_length_eq_zero (by simpa using je.1);subst ad;by_cases hm:m=0
  ·subst hm;have a6:news=[]:=List.eq_nil_of_length_eq_zero (by simpa using aI);subst a6;refine⟨.slice none 0 0,w,?_,World.ownsRow_nil w 0 e i.size,⟨U,U,U,Nat.le_refl _,fun _ _ _=>rfl⟩,fun g h=>.inl h,fun h=>absurd h (by omega)⟩;rcases aP.kind with⟨bV,ab⟩|ab<;>simp[Builtin.append_,run_underlying aM,run_underlying ab,sizeOf,typeInfo,hi,aP.len,aP.cells,storeCells]
  ·have hold:(Builtin.firstCells i.size 0 (.slice none 0 0)).run P w.drew=.ok (([]:List Value)).toArray w.drew:=by simp[Builtin.firstCells]
   have ap:=run_append_grow_src (P:=P) w t dP pW e i z aM hi au none 0 0 [] hold x m news aP (by omega) (by omega) (growslice_fits (by omega) Gn);have vl:=grown 0 (by omega) (Value.ownBlock (.slice none 0 0));exact⟨_,_,ap,vl.1,vl.2,fun g h=>.inr (by simp[Value.ownBlock]at h;omega),fun _=>rfl⟩
 ·by_cases r2:n+m<=cap
  ·have pv:n*i.size+news.length<=dz.size:=by rw[aI,fo,<-Nat.add_mul];exact Nat.mul_le_mul_right _ r2
   have hP:=run_storeCells_at P g (n*i.size) e news 0 dz w al (by simpa using pv) aP.one;simp only[Nat.add_zero]at hP;have ap:(Builtin.append_ #[t,dP] pW #[.slice (some ⟨g,0,none⟩) n cap,x]).run P w=.ok (.slice (some ⟨g,0,none⟩) (n+m) cap) (w.setRow g (dz.toList.take (n*i.size)++news++dz.toList.drop (n*i.size+news.length)).toArray):=by
    rcases aP.kind with⟨bV,ab⟩|ab<;>simp[Builtin.append_,run_underlying aM,run_underlying ab,sizeOf,typeInfo,hi,aP.len,r2,aP.cells,Addr.add_lit,hP]
   refine⟨_,_,ap,⟨hlen,.inr ⟨g,cap,_,U,AZ,setRow_heap w g dz _ e _ al,r2,hy,?_,?_⟩⟩,⟨U,U,U,by simp,fun k _ ab=>setRow_other w g k _ (fun e=>ab (by simp[Value.ownBlock,e]))⟩,fun g h=>.inl h,fun _=>rfl⟩
   ·simp only[List.size_toArray,List.length_append,List.length_take,List.length_drop,Array.length_toList];omega
   ·rw[Bi,<-hlen];exact List.take_left
  ·have holds:∀j u,xs[j]? =some u->w.cell? ((⟨g,0,none⟩:Addr).add j)=some u:=je.cells (g:=g) rfl;have hold:=run_firstCells_some (P:=P) w.drew i.size n ⟨g,0,none⟩ n cap xs je.1 (by simpa using holds);have ap:=run_append_grow_src (P:=P) w t dP pW e i z aM hi au (some ⟨g,0,none⟩) n cap xs hold x m news aP (by omega) (by omega) (growslice_fits (by omega) Gn);have vl:=grown cap (by omega) (Value.ownBlock (.slice (some ⟨g,0,none⟩) n cap));exact⟨_,_,ap,vl.1,vl.2,fun g h=>.inr (by simp[Value.ownBlock]at h;omega),fun _=>rfl⟩
def hl(P:Program)(e:TypeId)(sz:Nat):Bool:=match P.info? e with|some i=>i.size==sz&&(match i.zero with|some z=>z.cells.size==sz|none=>false)|none=>false
def hk(P:Program)(e:TypeId)(k:Nat):Bool:=match P.info? e with|some i=>i.bytes==k|none=>false
theorem vW{ρ:Operand->Value}{o:Oper}{w:World}{t dP e bV:TypeId}{X Y:Operand}{sz bytes n m:Nat}{v x:Value}{xs news:List Value}{args:List Operand}{b7:List TypeId}(aF:o.op=.call {callee:=.builtin .append,args:=args.toArray,argTypes:=b7.toArray})(bm:args=[X,Y])(fp:b7=[t,dP])(bS:ρ X=v)(du:ρ Y=x)
  (aM:dN P t e=true) (h6:dN P dP bV=true) (au:hl P e sz=true) (ak:hk P e bytes=true) (hd:0<sz) (je:w.ownsRow 0 e sz v n xs) (ap:Reads sz w x m news) (aj:∀u∈news,u.oneCell'=true) (g1:(n+m)*(bytes+1)<=140737488355328):
  ∃bR w',(execOp ρ o).run P w=.ok (.value bR) w'/\w'.ownsRow 0 e sz bR (n+m) (xs++news)/\w.grownBy w' v.ownBlock/\(∀g,bR.ownBlock=some g->v.ownBlock=some g\/w.heap.size<=g):=by
 subst bm fp;unfold hl at au;unfold hk at ak;cases hi:P.info? e with
 |none=>rw[hi]at au;cases au
 |some i=>
  rw[hi]at au ak;simp only[Bool.and_eq_true,beq_iff_eq]at au ak;cases j5:i.zero with
  |none=>rw[j5]at au;cases au.2
  |some z=>
   rw[j5]at au;have oz:z.cells.size=sz:=by simpa using au.2
   have cz:(n+m)*(bytes+1)=(n+m)*bytes+(n+m):=by rw[Nat.mul_add,Nat.mul_one]
   obtain⟨bR,w',an,aB,be,bZ,_⟩:=IP (P:=P) t dP o.type e i z sz bytes (kg aM) hi j5 au.1 ak oz hd v n xs je x m news (ap.src (kg h6) aj) (by simp only[maxLen];omega) (by omega);refine⟨bR,w',?_,aB,be,bZ⟩;simp[execOp,aF,resolve,invoke,builtin,bS,du,an]
variable{ops:Array Oper}{Q:Exit->Act->World->Prop}{l:List (Nat×Value)}{n:Nat}{a:Act}{w w' w0:World}{rest:List Oper}{o:Oper}{O:Nat->Prop}{L R:List az}{Φ:World->Prop}
theorem oM{d:Tmp}{i k m sz bytes:Nat}{t dP e bV:TypeId}{X Y:Operand}{v x:Value}{xs news:List Value}{args:List Operand}{b7:List TypeId}(E:Env l n a)(M:Mem w0 O L Φ w)(dd:L[i]? =some (.row e sz v k xs))(aT:o.dst=some d)(a6:Nat.blt d n=true)(aJ:dp l o=true)(al:dg ops l o=true)(hw:dh ops l o=true)
  (aF:o.op=.call {callee:=.builtin .append,args:=args.toArray,argTypes:=b7.toArray}) (bm:args=[X,Y]) (fp:b7=[t,dP]) (bS:cf l X=v) (du:cf l Y=x) (aM:dN P t e=true) (h6:dN P dP bV=true) (au:hl P e sz=true) (ak:hk P e bytes=true) (hd:0<sz) (ap:Reads sz w x m news) (aj:∀u∈news,u.oneCell'=true) (g1:(k+m)*(bytes+1)<=140737488355328)
  (dD:∀bR a' w',Mem w0 O (L.set i (.row e sz bR (k+m) (xs++news))) Φ w'->Env ((d,bR)::l) n a'->wpList P ops Q rest a' w'):wpList P ops Q (o::rest) a w:=by
 obtain⟨bR,w',h,aB,be,bZ⟩:=vW (P:=P) aF bm fp bS du aM h6 au ak hd (M.dG i dd) ap aj g1;refine e5 E aT a6 aJ al hw h fun a' dQ=>dD bR a' w' (M.change dd _ ⟨be.os,be.tape,be.output,⟨be.size,fun g al a6=>be.block g al (fun he=>a6 (by simp[az.row,<-he]))⟩⟩ aB fun g al=>?_) dQ;have dq:bR.ownBlock=some g:=by simpa [az.row]using al
 refine⟨?_,(bZ g dq).imp (fun h=>by simp[az.row,h]) id⟩;rcases aB.2 with⟨rfl,_⟩|⟨cF,cap,dz,rfl,_,dZ,_⟩
 ·simp[Value.ownBlock]at dq
 ·simp[Value.ownBlock]at dq;subst dq;exact(Array.getElem?_eq_some_iff.1 dZ).1
theorem so{w:World}{g k c sz:Nat}{e:TypeId}{cs:Array Value}(al:w.heap[g]? =some (.cells cs e (0,0)))(aP:cs.size=c*sz)(ab:k<=c)(aJ:c<=maxLen):w.ownsRow 0 e sz (.slice (some ⟨g,0,none⟩) k c) k (cs.toList.take (k*sz)):=by
 have:k*sz<=c*sz:=Nat.mul_le_mul_right _ ab;exact⟨by simp;omega,.inr ⟨g,c,cs,U,Nat.zero_le _,al,ab,aJ,aP,U⟩⟩
theorem dM{d:Tmp}{k c sz:Nat}{e:TypeId}{cs:Array Value}{xs:List Value}(E:Env l n a)(M:Mem w0 O L Φ w)(aT:o.dst=some d)(a6:Nat.blt d n=true)(aJ:dp l o=true)(al:dg ops l o=true)(hw:dh ops l o=true)
  (h:(execOp (cf l) o).run P w=.ok (.value (.slice (some ⟨w.heap.size,0,none⟩) k c)) (w.alloc (.cells cs e))) (aP:cs.size=c*sz) (ab:k<=c) (hy:c<=maxLen) (ad:cs.toList.take (k*sz)=xs)
  (dD:∀v a' w',Mem w0 O (.row e sz v k xs::L) Φ w'->Env ((d,v)::l) n a'->wpList P ops Q rest a' w'):wpList P ops Q (o::rest) a w:=by
 subst ad;refine e5 E aT a6 aJ al hw h fun a' dQ=>dD _ a' _ ?_ dQ;have ad:bd w (w.alloc (.cells cs e)):=bd.alloc w _;exact M.jo ad _ (so (by show(w.heap.push _)[w.heap.size]? =_;simp) aP ab hy) fun g al=>by
  have:g=w.heap.size:=by simpa [az.row,Value.ownBlock]using al
  subst this;simp
theorem wu{i k m sz:Nat}{t e:TypeId}{A X:Operand}{v u:Value}{xs xs':List Value}(E:Env l n a)(M:Mem w0 O L Φ w)(dd:L[i]? =some (.row e sz v m xs))(aT:o.dst=none)(aJ:dp l o=true)(al:dg ops l o=true)(hw:dh ops l o=true)
  (aF:o.op=.store t A X) (aR:cf l A=cellAt v k) (bS:cf l X=u) (aM:eS P t 1=true) (ab:k<m*sz) (aj:u.oneCell'=true) (ad:xs.set k u=xs')
  (dD:∀a' w',Mem w0 O (L.set i (.row e sz v m xs')) Φ w'->Env l n a'->wpList P ops Q rest a' w'):wpList P ops Q (o::rest) a w:=by
 subst ad;have ap:=M.dG i dd;obtain⟨hlen,cc⟩:=ap;rcases cc with⟨rfl,rfl⟩|⟨g,cap,dz,rfl,bG,kk,mu,hy,fo,mw⟩
 ·simp at ab
 ·have rQ:cf l A=.pointer (some ⟨g,k,none⟩):=by rw[aR,cellAt,add_plain,Nat.zero_add]
  have Bc:m*sz<=cap*sz:=Nat.mul_le_mul_right _ mu;have mv:=Ci (P:=P) (w:=w) aF rQ bS aM kk (by omega) aj;refine Cv E aJ al hw (by rw[aT];rfl) mv fun a' dQ=>dD a' _ (M.change dd _ (dc.setRow (by simp[az.row,Value.ownBlock])) ⟨by simpa using hlen,.inr ⟨g,cap,_,U,bG,setRow_heap w g dz _ e _ kk,mu,hy,by simpa using fo,?_⟩⟩ fun iW m4=>?_) ?_
  ·simp only[Array.toList_setIfInBounds];rw[List.take_set,mw]
  ·have:=M.lt _ (List.mem_of_getElem? dd) iW (by simpa [az.row]using m4);exact⟨by simpa using this,.inl (by simpa [az.row]using m4)⟩
  ·rw[aT]at dQ;exact dQ
theorem Ce{ρ:Operand->Value}{o:Oper}{w:World}{t e:TypeId}{X Y:Operand}{bM oA:IntKind}{k c sz bytes:Nat}{x y:Int}(aF:o.op=.makeSlice t X Y)(bS:ρ X=.int bM x)(du:ρ Y=.int oA y)(ad:x=k)(bn:y=c)(aM:dN P t e=true)(au:hl P e sz=true)(ak:hk P e bytes=true)(ab:k<=c)(g1:c*(bytes+1)<=140737488355328):
  ∃cs,cs.size=c*sz/\(execOp ρ o).run P w=.ok (.value (.slice (some ⟨w.heap.size,0,none⟩) k c)) (w.alloc (.cells cs e))/\∃i z,P.info? e=some i/\i.zero=some z/\cs=madeCells z.cells (c*sz):=by
 subst ad bn;unfold hl at au;unfold hk at ak;cases hi:P.info? e with
 |none=>rw[hi]at au;cases au
 |some i=>
  rw[hi]at au ak;simp only[Bool.and_eq_true,beq_iff_eq]at au ak;cases j5:i.zero with
  |none=>rw[j5]at au;cases au.2
  |some z=>
   have cz:c*(bytes+1)=c*bytes+c:=by rw[Nat.mul_add,Nat.mul_one]
   have u9:(i.bytes:Int)*(c:Int)<=281474976710656:=by
    rw[ak,Int.mul_comm];have:((c*bytes:Nat):Int)<=281474976710656:=by omega
    rwa [Int.natCast_mul]at this
   have ap:=run_make (P:=P) w t e i z (kg aM) hi j5 bM oA k c (by omega) (by omega) u9 (by omega);simp only[Int.toNat_natCast,au.1]at ap;exact⟨_,size_madeCells _ _,by simp[execOp,aF,bS,du,ap],i,z,U,j5,U⟩
end
end
section
open Go.RowKit
section
variable{P:Program}{Q:Exit->Act->World->Prop}{l:List (Nat×Value)}{n:Nat}{w0:World}{ops:Array Oper}{B:List Nat}{Vs:List Spec}{i:Nat}
theorem jd{o:Oper}{s:Spec}(aF:ops[i]? =some o)(aP:Vs[i]? =some s)
  (h:∀(x:Nat->Value) (w:World),bd w0 w->(∀j,waits B i j=true->fq Vs x w j)->∃v w',dp (cg ops B l Vs x i) o=true/\dg ops (cg ops B l Vs x i) o=true/\dh ops (cg ops B l Vs x i) o=true/\
   (execOp (cf (cg ops B l Vs x i)) o).run P w=.ok (.value v) w'/\bd w w'/\s.ok w' v):mh P ops B l n Vs w0 Q i:=by
 intro x a w ad ab E;obtain⟨v,w',aj,an,aB,be,bZ,dZ⟩:=h x w ad ab;refine⟨o,s,aF,aP,fun K cY=>?_⟩;rw[E.wanted an,if_pos aB];unfold Oper.wp;rw[E.exec aj,be];exact cY v w' bZ dZ
theorem aC{o:Oper}{v:Value}(aF:ops[i]? =some o)(aP:Vs[i]? =some (.af v))
  (h:∀(x:Nat->Value) (w:World),bd w0 w->(∀j,waits B i j=true->fq Vs x w j)->(execOp (cf (cg ops B l Vs x i)) o).run P w=.ok (.value v) w)
  (aj:∀x,dp (cg ops B l Vs x i) o=true:=by intro x;rfl) (an:∀x,dg ops (cg ops B l Vs x i) o=true:=by intro x;rfl) (aB:∀x,dh ops (cg ops B l Vs x i) o=true:=by intro x;rfl):mh P ops B l n Vs w0 Q i:=
 jd aF aP fun x w ad ab=>⟨v,w,aj x,an x,aB x,h x w ad ab,bd.refl _,rfl⟩
theorem lj{o:Oper}(aF:ops[i]? =some o)(aP:Vs[i]? =some (.af undef))
  (h:∀(x:Nat->Value),dg ops (cg ops B l Vs x i) o=true/\dh ops (cg ops B l Vs x i) o=false):mh P ops B l n Vs w0 Q i:=by
 intro x a w ad ab E;obtain⟨an,aB⟩:=h x;refine⟨o,.af undef,aF,aP,fun K cY=>?_⟩;rw[E.wanted an,if_neg (by simp[aB])];exact cY undef w (bd.refl _) U
theorem cE{o:Oper}{s:Spec}(aF:ops[i]? =some o)(aP:Vs[i]? =some s)
  (h:∀(x:Nat->Value) (w:World),bd w0 w->(∀j,waits B i j=true->fq Vs x w j)->∃f args,dp (cg ops B l Vs x i) o=true/\dg ops (cg ops B l Vs x i) o=true/\dh ops (cg ops B l Vs x i) o=true/\
   (execOp (cf (cg ops B l Vs x i)) o).run P w=.ok (.enter f args) w/\rp P f args w s):mh P ops B l n Vs w0 Q i:=by
 intro x a w ad ab E;obtain⟨f,args,aj,an,aB,be,bZ⟩:=h x w ad ab;refine⟨o,s,aF,aP,fun K cY=>?_⟩;rw[E.wanted an,if_pos aB];unfold Oper.wp;rw[E.exec aj,be,Oper.upon_enter];refine bZ.mono ?_;rintro e dY ⟨v,rfl,jA,aD⟩;exact cY v dY jA aD
def lS(p:Nat->Prop):List Nat->Prop
 |[]=>True
 |i::r=>p i/\lS p r
theorem lS.mem{p:Nat->Prop}:∀{is:List Nat},lS p is->∀i∈is,p i
 |[],_,_,h=>by cases h
 |j::r,h,i,hi=>by
  rcases List.mem_cons.1 hi with rfl|hi
  ·exact h.1
  ·exact lS.mem h.2 i hi
def cR(ops:Array Oper)(B:List Nat)(n:Nat):Bool:=
 Go.Proofs.kD.kC.oX (Go.Proofs.kD.kC.hA .any ops).2 B&&Go.Proofs.kD.kC.lC (Go.Proofs.kD.kC.hA .any ops).2 (List.range ops.size)&&uY ops B&&(List.range ops.size).all fun i=>fits n (hs ops i)
theorem dR{a0:Act}{w:World}{id:Nat}{B:List Nat}{Vs:List Spec}(is:List Nat)(E:Env l n a0)(hm:P.follows .mixedOrders=true)(fC:cR ops B n=true)(py:is=List.range ops.size)(aI:ej Vs)
  (aP:lS (mh P ops B l n Vs w.drew Q) is)
  (ij:∀(x:Nat->Value) (a:Act) (w':World),bd w w'->(∀j,j<ops.size->fq Vs x w' j)->Env (Fg ops l Vs x) n a->Q .normal a w'):(Code.region id ops true).wp P Q a0 w:=by
 subst py;simp only[cR,Bool.and_eq_true]at fC;exact Rt _ B Vs E hm U fC.1.1.1 fC.1.1.2 fC.1.2 fC.2 aI (lS.mem aP) ij
def Lg(B:List Nat)(m:Nat):Bool:=(List.range m).all fun i=>waits B m i
theorem ii{a0:Act}{w:World}{id:Nat}{B:List Nat}{Vs:List Spec}(is:List Nat)(m:Nat)(E:Env l n a0)(hm:P.follows .mixedOrders=true)(fC:cR ops B n=true)(ff:m+1=ops.size)(Bj:Lg B m=true)(py:is=List.range m)(aI:ej Vs)
  (aP:lS (mh P ops B l n Vs w.drew Q) is)
  (ij:∀(x:Nat->Value) (a:Act) (w':World),bd w w'->(∀j,j<m->fq Vs x w' j)->Env (og ops l Vs x m) n a->j7 P ops Q m a w'):(Code.region id ops true).wp P Q a0 w:=by
 subst py;simp only[cR,Bool.and_eq_true]at fC;exact F7 true _ B Vs E hm U fC.1.1.1 fC.1.1.2 fC.1.2 fC.2 aI m (by simpa using ff) (fun _ i hi=>List.all_eq_true.1 Bj i (List.mem_range.2 hi)) (lS.mem aP) (fun x a w' aj an aB=>by rw[if_pos U];exact ij x a w' aj an aB)
theorem iq{a:Act}{w:World}{m:Nat}{o:Oper}{O:Nat->Prop}{L:List az}{Φ:World->Prop}{hW:World}{i g:Nat}{cs cs':Array Value}{T:TypeId}{fr:Nat×Nat}{L':List az}(E:Env l n a)(M:Mem hW O L Φ w)(aF:ops[m]? =some o)(dd:L[i]? =some (.bb g (.cells cs T fr)))(aT:o.dst=none)(aJ:dp l o=true)(al:dg ops l o=true)(hw:dh ops l o=true)
  (h:(execOp (cf l) o).run P w=.ok .skip (w.setRow g cs')) (pn:L.set i (.bb g (.cells cs' T fr))=L')
  (dD:∀a' w',Mem hW O L' Φ w'->Env l n a'->Q .normal a' w'):j7 P ops Q m a w:=by
 subst pn;unfold j7;rw[aF];simp only;rw[E.wanted al,if_pos hw];unfold Oper.wp;rw[E.exec aJ,h];have nn:=E.put (d:=o.dst) (by rw[aT];rfl) undef;rw[aT]at nn;rw[Oper.upon_skip,aT];exact dD _ _ (M.set dd) nn
def cn:Spec->Prop
 | .af _=>True
 | .rel p=>∀w w' v,bd w w'->p w v->p w' v
theorem ej.of{Vs:List Spec}(h:∀s∈Vs,cn s):ej Vs:=fun j p ax w w' v ad hp=>by
 have:=h _ (List.mem_of_getElem? ax);exact this w w' v ad hp
def fH:List Spec->Prop
 |[]=>True
 |s::r=>cn s/\fH r
theorem fH.dF{Vs:List Spec}(h:fH Vs):ej Vs:=ej.of (by
 induction Vs with
 |nil=>intro s aP;cases aP
 |cons s r ck=>
  intro x ad;rcases List.mem_cons.1 ad with rfl|ad
  ·exact h.1
  ·exact ck h.2 x ad)
def cV(B:Nat)(outs:Value->List az)(p:Value->Prop):Spec:=.rel fun w v=>Has w (outs v)/\(∀g,aS (outs v) g->B<=g)/\p v
theorem cn.df{B:Nat}{outs:Value->List az}{p:Value->Prop}:cn (cV B outs p):=fun w w' v ad ⟨an,aB⟩=>⟨an.ext ad,aB⟩
theorem aY.eN{f:FuncId}{args:List Value}{w:World}{outs:Value->List az}{p:Value->Prop}{B:Nat}(h:aY P f args w [] (fun s:Value=>s) outs p)(aL:B<=w.heap.size):rp P f args.toArray w (cV B outs p):=
 h.mono fun oe w' ⟨x,aj,an,aB,be,bZ⟩=>⟨_,aj,(an.mono fun g _ h=>(gQ h).elim:dc qW w w').ext,aB,fun g al=>(be g al).elim (fun h=>(gQ h).elim) fun h=>Nat.le_trans aL h,bZ⟩
theorem Has.dG{w:World}{L:List az}{e:az}(h:Has w L)(i:Nat)(hi:L[i]? =some e):e.ok w:=h.gi e (List.mem_of_getElem? hi)
theorem Has.reads{w:World}{L:List az}{t:TypeId}{sz n:Nat}{v:Value}{xs:List Value}(h:Has w L)(i:Nat)(hi:L[i]? =some (.row t sz v n xs)):Reads sz w v n xs:=nS (h.dG i hi)
theorem vX{ρ:Operand->Value}{o:Oper}{w:World}{X:Operand}{f:FuncId}{args:List Operand}{b7:Array TypeId}(aF:o.op=.call {callee:=.value X,args:=args.toArray,argTypes:=b7})(Bn:ρ X=.func (.func f) #[] #[])(bu:bO P f=true):
  (execOp ρ o).run P w=.ok (.enter f (args.map ρ).toArray) w:=by
 unfold bO at bu;cases h:P.funcs[f]? with
 |none=>rw[h]at bu;cases bu
 |some fn=>
  rw[h]at bu;simp only[Bool.and_eq_true,Bool.not_eq_true']at bu;obtain⟨aj,an⟩:=bu;have aB:¬fn.body=none:=by cases ak:fn.body<;>simp_all
  have be:¬fn.name= "runtime.NumGoroutine" :=by simpa using an
  simp[execOp,aF,resolve,Bn,Deferred.ofValue,invoke,callFunc,h,be,aB,program,Sem.run]
end
end
section
open Go.RowKit
theorem Rl(vs:List Value):∀(k:Nat) (off:Nat) (cells:Array Value),off+k+vs.length<=cells.size->
  ((vs.zipIdx k).foldl (fun cs (x:Value×Nat)=>cs.setIfInBounds (off+x.2) x.1) cells).toList=cells.toList.take (off+k)++vs++cells.toList.drop (off+k+vs.length):=by
 induction vs with
 |nil=>intro k off cells h;simp
 |cons v r ck=>
  intro k off cells h;simp only[List.length_cons]at h;rw[List.zipIdx_cons,List.foldl_cons,ck (k+1) off _ (by simp;omega)];simp only[Array.toList_setIfInBounds];have ab:off+k<cells.toList.length:=by simp;omega
  rw[List.set_eq_take_append_cons_drop,if_pos ab];have aj:(cells.toList.take (off+k)).length=off+k:=by simp;omega
  rw[List.take_append,List.drop_append,aj];have cz:off+(k+1)-(off+k)=1:=by omega
  have c6:off+(k+1)+r.length-(off+k)=r.length+1:=by omega
  rw[cz,c6];rw[List.take_of_length_le (by omega),List.drop_of_length_le (l:=cells.toList.take (off+k)) (by omega)];simp only[List.take_succ_cons,List.take_zero,List.drop_succ_cons,List.nil_append,List.drop_drop,List.append_assoc,List.length_cons];have ih:off+k+1+r.length=off+k+(r.length+1):=by omega
  rw[ih];rfl
def pieces:Nat->List Nat->Nat->List (Nat×Nat)
 |_,[],_=>[]
 |off,s::r,_=>(off,s)::pieces (off+s) r 0
def iy(P:Program)(t:TypeId)(gE:List Nat)(z:List Value):Bool:=
 match P.underlying t with
 |some (.struct dX)=>(dX.toList.map fun f=>(f.offset,(match P.info? f.type with|some i=>i.size|none=>0)))==pieces 0 gE 0&&dX.toList.all (fun f=>(P.info? f.type).isSome)&&(match zeroOf P t with|some v=>v.cells.toList.length==z.length|none=>false)
 |_=>false
theorem Ak(place:Nat->Option (Nat×Nat)):∀(vs:List Value) (gE:List Nat) (i off:Nat) (done z:List Value),done.length=off->vs.map (·.cells.size)=gE.take vs.length->vs.length<=gE.length->
  (∀j,j<gE.length->place (i+j)=(pieces off gE 0)[j]?)->(gE.sum<=z.length)->
  Instr.fill place (done++z).toArray ((vs.zipIdx i).map fun x=>(x.2,x.1))=some (done++(vs.map (·.cells.toList)).flatten++z.drop (vs.map (·.cells.size)).sum).toArray:=by
 intro vs
 induction vs with
 |nil=>intro gE i off done z _ _ _ _ _;simp[Instr.fill]
 |cons v r ck=>
  intro gE i off done z aT aP aI hp au;cases gE with
  |nil=>simp at aI
  |cons s gE=>
   simp only[List.map_cons,List.length_cons,List.take_succ_cons,List.cons.injEq]at aP;obtain⟨aj,an⟩:=aP;have GJ:=hp 0 (by simp);simp only[Nat.add_zero,pieces,List.getElem?_cons_zero]at GJ;simp only[List.sum_cons]at au;rw[List.zipIdx_cons,List.map_cons];unfold Instr.fill;simp only[GJ];have hd:¬((decide (v.cells.size≠s)||decide (off+v.cells.size>(done++z).toArray.size))=true):=by
    simp[aj,aT];omega
   rw[if_neg hd];have bu:(v.cells.zipIdx.foldl (fun cs (x:Value×Nat)=>cs.setIfInBounds (off+x.2) x.1) (done++z).toArray)=((done++v.cells.toList)++z.drop s).toArray:=by
    apply Array.toList_inj.1;have:=Rl v.cells.toList 0 off (done++z).toArray (by simp[aj,aT];omega);rw[<-Array.foldl_toList];simp only[Array.toList_zipIdx];rw[this];simp only[Nat.add_zero,Array.length_toList,aj];rw[List.take_append,List.drop_append,aT];rw[List.take_of_length_le (l:=done) (by omega),List.drop_of_length_le (l:=done) (by omega)];have cz:off+s-off=s:=by omega
    simp[cz]
   have:=ck gE (i+1) (off+s) (done++v.cells.toList) (z.drop s) (by simp[aT,aj]) an (by simpa using aI) (fun j ax=>by
    have:=hp (j+1) (by simpa using ax);simp only[pieces,List.getElem?_cons_succ]at this;rw[<-this];congr 1;omega) (by simp;omega)
   refine Eq.trans (congrArg (fun c=>Instr.fill place c _) bu) (this.trans ?_);simp[List.append_assoc,List.drop_drop,aj]
theorem Cf{α β:Type}{P:Program}{w:World}(g:α->Sem β)(h:α->β)(l:List α)(aI:∀x∈l,(g x).run P w=.ok (h x) w):(l.mapM g).run P w=.ok (l.map h) w:=by
 induction l with
 |nil=>simp
 |cons x r ck=>
  rw[List.mapM_cons,Sem.run_bind,aI x (by simp),Result.andThen_ok,Sem.run_bind,ck fun y bn=>aI y (by simp[bn]),Result.andThen_ok,Sem.run_pure];rfl
theorem dl{P:Program}{ρ:Operand->Value}{o:Oper}{w:World}{t:TypeId}{ps:List (Nat×Operand)}{vs:List Value}{gE:List Nat}{z:List Value}{us:List Value}(aF:o.op=.build t ps.toArray)(aD:ps.map (fun p=>(p.1,ρ p.2))=(vs.zipIdx 0).map fun x=>(x.2,x.1))
  (aM:iy P t gE z=true) (au:zeroOf P t=some (.agg z.toArray)) (aP:vs.map (·.cells.size)=gE.take vs.length) (aI:Nat.ble vs.length gE.length=true) (qL:Nat.ble gE.sum z.length=true) (hu:(vs.map (·.cells.toList)).flatten++z.drop (gE.take vs.length).sum=us):
  (execOp ρ o).run P w=.ok (.value (.agg us.toArray)) w:=by
 subst hu;unfold iy at aM;cases lI:P.underlying t with
 |none=>rw[lI]at aM;cases aM
 |some d=>
  rw[lI]at aM;cases d with
  |struct dX=>
   simp only[Bool.and_eq_true,beq_iff_eq,List.all_eq_true]at aM;obtain⟨⟨aj,an⟩,_⟩:=aM;have lJ:(zeroValue t).run P w=.ok (.agg z.toArray) w:=by
    unfold zeroOf at au;cases hi:P.info? t with
    |none=>rw[hi]at au;cases au
    |some i=>rw[hi]at au;simp only[Option.bind_some]at au;simp[zeroValue,typeInfo,hi,au]
   have vu:(dX.mapM (m:=Sem) fun f=>do pure (f.offset,<-sizeOf f.type)).run P w=.ok (pieces 0 gE 0).toArray w:=by
    have key:=Cf (P:=P) (w:=w) (fun f:Field=>(do pure (f.offset,<-sizeOf f.type):Sem (Nat×Nat))) (fun f=>(f.offset,(match P.info? f.type with|some i=>i.size|none=>0))) dX.toList (fun f bu=>by
     obtain⟨i,hi⟩:=Option.isSome_iff_exists.1 (an f bu);simp[sizeOf,typeInfo,hi])
    rw[aj]at key;rw[Array.mapM_eq_mapM_toList,map_eq_pure_bind,Sem.run_bind,key,Result.andThen_ok,Sem.run_pure]
   have pu:=Ak (fun i=>(pieces 0 gE 0).toArray[i]?) vs gE 0 0 [] z rfl aP (by simpa using aI) (fun j _=>by simp) (by simpa using qL);rw[aP]at pu;simp only[List.nil_append]at pu;have jz:(ps.toArray.map fun x=>(x.1,ρ x.2)).toList=(vs.zipIdx 0).map fun x=>(x.2,x.1):=by simpa using aD
   simp only[execOp,aF,Instr.build,Sem.run_bind,lJ,Result.andThen_ok,run_underlying lI,vu,jz,Value.cells];simp only[pu];rfl
  |_=>cases aM
theorem Ig(sz:Nat):∀(n off j:Nat),j<n->(pieces off (List.replicate n sz) 0)[j]? =some (off+j*sz,sz)
 |0,_,_,h=>by omega
 |n+1,off,0,_=>by simp[List.replicate_succ,pieces]
 |n+1,off,j+1,h=>by
  rw[List.replicate_succ,pieces,List.getElem?_cons_succ,Ig sz n (off+sz) j (by omega),Nat.add_mul];congr 2;omega
theorem ev{P:Program}{ρ:Operand->Value}{o:Oper}{w:World}{t e:TypeId}{n sz:Nat}{ps:List (Nat×Operand)}{vs us:List Value}{z:List Value}(aF:o.op=.buildSlice t n ps.toArray)(aD:ps.map (fun p=>(p.1,ρ p.2))=(vs.zipIdx 0).map fun x=>(x.2,x.1))(a6:vs.length=n)(aM:dN P t e=true)(aP:eS P e sz=true)(au:(zeroOf P e).map (·.cells.toList)=some z)(kT:z.length=sz)
  (hd:vs.map (·.cells.size)=List.replicate n sz) (rP:Nat.ble (n*sz) 16777216=true) (bG:Nat.blt 0 (n*sz)=true) (hu:(vs.map (·.cells.toList)).flatten=us):
  (execOp ρ o).run P w=.ok (.value (.slice (some ⟨w.heap.size,0,none⟩) n n)) (w.alloc (.cells us.toArray e)):=by
 subst hu;have RS:¬n*sz>2^24:=by have:=Nat.le_of_ble_eq_true rP;omega
 have hO:¬n*sz=0:=by(have:0<n*sz:=by simpa using bG);omega
 have lJ:∃u,(zeroValue e).run P w=.ok u w/\u.cells.toList=z:=by
  unfold zeroOf at au;cases hi:P.info? e with
  |none=>rw[hi]at au;cases au
  |some i=>
   rw[hi]at au;cases hu:i.zero with
   |none=>simp[hu]at au
   |some u=>exact⟨u,by simp[zeroValue,typeInfo,hi,hu],by simpa [hu]using au⟩
 obtain⟨u,qN,abr⟩:=lJ;have jz:(ps.toArray.map fun x=>(x.1,ρ x.2)).toList=(vs.zipIdx 0).map fun x=>(x.2,x.1):=by simpa using aD
 have S3:(Array.range (n*sz)).map (u.cells[·%u.cells.size]!)=(([]:List Value)++((Array.range (n*sz)).map (u.cells[·%u.cells.size]!)).toList).toArray:=by rw[List.nil_append,Array.toArray_toList]
 have hlen:((Array.range (n*sz)).map (u.cells[·%u.cells.size]!)).toList.length=n*sz:=by simp
 have qL:∀m,(List.replicate m sz).sum=m*sz:=by
  intro m
  induction m with
  |zero=>simp
  |succ m ck=>rw[List.replicate_succ,List.sum_cons,ck,Nat.add_mul];omega
 have pu:=Ak (fun i=>some (i*sz,sz)) vs (List.replicate n sz) 0 0 [] ((Array.range (n*sz)).map (u.cells[·%u.cells.size]!)).toList rfl (by rw[hd,a6,List.take_replicate,Nat.min_self]) (by simp[a6]) (fun j ax=>by
  have l2:j<n:=by simpa using ax
  rw[Ig sz n 0 j l2];simp) (by rw[qL,hlen];exact Nat.le_refl _)
 rw[<-S3,hd,qL,List.drop_of_length_le (by rw[hlen];exact Nat.le_refl _),List.append_nil,List.nil_append]at pu;simp only[execOp,aF,Instr.buildSlice,Sem.run_bind,run_underlying (kg aM),Result.andThen_ok,kc (w:=w) aP,if_neg RS,if_neg hO,qN,Sem.run_pure,jz,pu];rfl
theorem lP{P:Program}{ρ:Operand->Value}{o:Oper}{w:World}{t e:TypeId}(aF:o.op=.buildSlice t 0 #[])(aM:dN P t e=true)(aP:(P.info? e).isSome=true):(execOp ρ o).run P w=.ok (.value (.slice (some ⟨w.heap.size,0,none⟩) 0 0)) (w.alloc (.cells #[] e)):=by
 obtain⟨i,hi⟩:=Option.isSome_iff_exists.1 aP;simp[execOp,aF,Instr.buildSlice,run_underlying (kg aM),sizeOf,typeInfo,hi,Instr.fill,newRow,Array.range_zero']
section
variable{P:Program}{o:Oper}{w:World}{l:List (Nat×Value)}{s:Tmp}{v:Value}{x:Operand}
theorem run_move(aF:o.op=.move (.tmp s))(h:l.lookup s=some v):(execOp (cf l) o).run P w=.ok (.value v) w:=by
 simp[execOp,aF,cf,h]
theorem run_assign(aF:o.op=.assign (.tmp s))(h:l.lookup s=some v):(execOp (cf l) o).run P w=.ok (.value v) w:=by
 simp[execOp,aF,cf,h]
theorem cM{ops:Array Oper}{Q:Exit->Act->World->Prop}{n d:Nat}{a:Act}{rest:List Oper}(E:Env l n a)(k:∀a',Env ((d,v)::l) n a'->wpList P ops Q rest a' w)(aF:o.op=.move (.tmp s):=by rfl)(aD:l.lookup s=some v:=by rfl)(aT:o.dst=some d:=by rfl)(a6:Nat.blt d n=true:=by rfl)(aJ:dp l o=true:=by rfl)(al:dg ops l o=true:=by rfl)(hw:dh ops l o=true:=by rfl):wpList P ops Q (o::rest) a w:=
 e5 E aT a6 aJ al hw (run_move aF aD) k
theorem iF{ops:Array Oper}{Q:Exit->Act->World->Prop}{n d:Nat}{a:Act}{rest:List Oper}(E:Env l n a)(k:∀a',Env ((d,v)::l) n a'->wpList P ops Q rest a' w)(aF:o.op=.assign (.tmp s):=by rfl)(aD:l.lookup s=some v:=by rfl)(aT:o.dst=some d:=by rfl)(a6:Nat.blt d n=true:=by rfl)(aJ:dp l o=true:=by rfl)(al:dg ops l o=true:=by rfl)(hw:dh ops l o=true:=by rfl):wpList P ops Q (o::rest) a w:=
 e5 E aT a6 aJ al hw (run_assign aF aD) k
theorem Ws{v:Value}(aF:o.op=.move (.const v)):(execOp (cf l) o).run P w=.ok (.value v) w:=by simp[execOp,aF,cf]
theorem hT{v:Value}(aF:o.op=.assign (.const v)):(execOp (cf l) o).run P w=.ok (.value v) w:=by simp[execOp,aF,cf]
theorem ng{a:Addr}(aF:o.op=.nilCheck (.tmp s))(h:l.lookup s=some (.pointer (some a))):(execOp (cf l) o).run P w=.ok (.value (.pointer (some a))) w:=by
 simp[execOp,aF,cf,h,Instr.sureAddr,asAddr]
theorem Wl{i:Nat}{vs:Array Value}{v:Value}(aF:o.op=.extract (.tmp s) i)(h:l.lookup s=some (.tuple vs))(aD:vs[i]? =some v):(execOp (cf l) o).run P w=.ok (.value v) w:=by
 simp[execOp,aF,cf,h,Instr.extract,aD]
end
section
variable{P:Program}{ρ:Operand->Value}{o:Oper}{w:World}{t s T e:TypeId}{A X:Operand}{v:Value}{n sz g:Nat}{xs:List Value}{cs:Array Value}
theorem tQ{m:Nat}(aF:o.op=.sliceToArrayPointer t X)(h:Reads sz w v n xs)(bS:ρ X=v)(aM:ky P t e m=true)(a6:m<=n)(bG:0<m):(execOp ρ o).run P w=.ok (.value (cellAt v 0)) w:=by
 rcases h.2 with⟨rfl,rfl⟩|⟨g,off,cap,rfl,_⟩
 ·omega
 ·rw[Wu aF bS aM a6,cellAt,add_plain,Nat.add_zero]
theorem cB{vs:Array Value}{m:Nat}(aF:o.op=.store t A X)(aR:ρ A=.pointer (some ⟨g,0,none⟩))(bS:ρ X=.agg vs)(aM:eS P t m=true)(hm:vs.size=m)(al:w.heap[g]? =some (.cells cs T (0,0)))(ab:cs.size=m)(aj:∀v∈vs.toList,v.oneCell'=true):
  (execOp ρ o).run P w=.ok .skip (w.setRow g vs):=by
 subst hm;rw[Cj aF aR bS aM al (by omega) aj];congr 2;apply Array.toList_inj.1;simp[ab]
theorem Reads.one(h:Reads sz w v n xs):v.oneCell'=true:=by
 obtain⟨b,c,rfl⟩:=h.slice;rfl
theorem o9(h:v.oneCell'=true):v.cells= #[v]:=by cases v<;>first|rfl|simp[Value.oneCell']at h
end
section
variable{P:Program}{ρ:Operand->Value}{o:Oper}{w:World}{t k3 e:TypeId}{X Y:Operand}
theorem dm{g off m sz i:Nat}{kd:IntKind}{x:Int}(aF:o.op=.indexAddr t X Y)(bS:ρ X=.pointer (some ⟨g,off,none⟩))(du:ρ Y=.int kd x)(ad:x=i)(hi:i<m)(aM:ky P t e m=true)(aP:eS P e sz=true):
  (execOp ρ o).run P w=.ok (.value (.pointer (some ⟨g,off+i*sz,none⟩))) w:=by
 subst ad;unfold ky at aM;cases hu:P.underlying t with
 |none=>rw[hu]at aM;cases aM
 |some d=>
  rw[hu]at aM;cases d with
  |array r8 bV=>
   simp at aM;obtain⟨rfl,rfl⟩:=aM;simp[execOp,aF,bS,du,Instr.indexAt,asIntOf,Instr.sureAddr,run_underlying hu,hi,kc (w:=w) aP,add_plain]
  |_=>cases aM
theorem q6{k iW:IntKind}{x y z:Int}(aF:o.op=.binOp .shr t X Y k3)(bS:ρ X=.int k x)(du:ρ Y=.int iW y)(h:0<=y)(e:x.fdiv (2^min y.toNat k.bits)=z):(execOp ρ o).run P w=.ok (.value (.int k z)) w:=by
 subst e;have m1:¬y<0:=by omega
 have al:(eqGuard .shr t X Y (.int k x) (.int iW y)).run P w=.ok () w:=rfl;simp only[execOp,aF,bS,du,Sem.run_bind,al,Result.andThen_ok,binOp,Op.shift,if_neg m1];rfl
end
theorem mM{x:Int}(bG:0<=x)(aj:x<18446744073709551616):IntKind.u64.wrap x=x:=by
 show x%18446744073709551616=x
 omega
def ao(l:List UInt8):List Value:=l.map fun b=>.int .u8 (b.toNat:Int)
@[simp] theorem dj (l:List UInt8):(ao l).length=l.length:=by simp[ao]
@[simp] theorem sU (a b:List UInt8):ao (a++b)=ao a++ao b:=by simp[ao]
@[simp] theorem aaZ:ao []=[]:=rfl
@[simp] theorem Er (b:UInt8) (l:List UInt8):ao (b::l)=.int .u8 (b.toNat:Int)::ao l:=rfl
theorem uH(l:List UInt8)(k:Nat):(ao l).drop k=ao (l.drop k):=by simp[ao]
theorem qb(l:List UInt8)(k:Nat):(ao l).take k=ao (l.take k):=by simp[ao]
theorem c0(l:List UInt8):∀u∈ao l,u.oneCell'=true:=by
 intro u hu;obtain⟨b,_,rfl⟩:=List.mem_map.1 hu;rfl
theorem gx{l:List UInt8}{k:Nat}(h:k<l.length):(ao l)[k]? =some (.int .u8 ((l[k]).toNat:Int)):=by simp[ao,h]
theorem C8{l:List Value}{n:Nat}(h:l.length=n):l.take n=l:=List.take_of_length_le (by omega)
def Bytes(w:World)(v:Value)(l:List UInt8):Prop:=Reads 1 w v l.length (ao l)
theorem Bytes.bU{w w':World}{v:Value}{l:List UInt8}(h:Bytes w v l)(H:gI (aS []) w w'):Bytes w' v l:=Reads.bU h H
theorem Reads.nil(sz:Nat)(w:World):Reads sz w (.slice none 0 0) 0 []:=⟨by simp,.inl ⟨rfl,rfl⟩⟩
def fg(l:List Int):List Value:=l.map fun b=>.int .i64 b
@[simp] theorem abt (l:List Int):(fg l).length=l.length:=by simp[fg]
theorem kU{l:List Int}{k:Nat}(h:k<l.length):(fg l)[k]? =some (.int .i64 l[k]):=by simp[fg,h]
def Ints(w:World)(v:Value)(l:List Int):Prop:=Reads 1 w v l.length (fg l)
theorem Ints.bU{w w':World}{v:Value}{l:List Int}(h:Ints w v l)(H:gI (aS []) w w'):Ints w' v l:=Reads.bU h H
def aO(v:Int):List UInt8:=[UInt8.ofInt (v/72057594037927936),UInt8.ofInt (v/281474976710656),UInt8.ofInt (v/1099511627776),UInt8.ofInt (v/4294967296),UInt8.ofInt (v/16777216),UInt8.ofInt (v/65536),UInt8.ofInt (v/256),UInt8.ofInt v]
theorem fd{x k iW:Int}(h:0<=k)(e:iW=k):x.fdiv iW=x/k:=by rw[e,Int.fdiv_eq_ediv_of_nonneg _ h]
theorem iH(x:Int):((UInt8.ofInt x).toNat:Int)=x%256:=by
 unfold UInt8.ofInt;simp;omega
theorem eo(v:Int):(aO v).length=8:=rfl
theorem tJ(v:Int){j:Nat}(aj:1<=j)(qz:j<=8):IntKind.u8.wrap ((IntKind.u64.wrap v).fdiv (2^min (8*((j:Int)-1)).toNat IntKind.u64.bits))=(((aO v)[8-j]'(by rw[eo];omega)).toNat:Int):=by
 have hw:∀x:Int,IntKind.u64.wrap x=x%18446744073709551616:=fun _=>rfl;have kM:∀x:Int,IntKind.u8.wrap x=x%256:=fun _=>rfl;obtain rfl|rfl|rfl|rfl|rfl|rfl|rfl|rfl:j=1\/j=2\/j=3\/j=4\/j=5\/j=6\/j=7\/j=8:=by omega
 ·refine(congrArg IntKind.u8.wrap (fd (k:=1) (by decide) U)).trans ?_;show _=((UInt8.ofInt v).toNat:Int);rw[iH,hw,kM];omega
 ·refine(congrArg IntKind.u8.wrap (fd (k:=256) (by decide) U)).trans ?_;show _=((UInt8.ofInt (v/256)).toNat:Int);rw[iH,hw,kM];omega
 ·refine(congrArg IntKind.u8.wrap (fd (k:=65536) (by decide) U)).trans ?_;show _=((UInt8.ofInt (v/65536)).toNat:Int);rw[iH,hw,kM];omega
 ·refine(congrArg IntKind.u8.wrap (fd (k:=16777216) (by decide) U)).trans ?_;show _=((UInt8.ofInt (v/16777216)).toNat:Int);rw[iH,hw,kM];omega
 ·refine(congrArg IntKind.u8.wrap (fd (k:=4294967296) (by decide) U)).trans ?_;show _=((UInt8.ofInt (v/4294967296)).toNat:Int);rw[iH,hw,kM];omega
 ·refine(congrArg IntKind.u8.wrap (fd (k:=1099511627776) (by decide) U)).trans ?_;show _=((UInt8.ofInt (v/1099511627776)).toNat:Int);rw[iH,hw,kM];omega
 ·refine(congrArg IntKind.u8.wrap (fd (k:=281474976710656) (by decide) U)).trans ?_;show _=((UInt8.ofInt (v/281474976710656)).toNat:Int);rw[iH,hw,kM];omega
 ·refine(congrArg IntKind.u8.wrap (fd (k:=72057594037927936) (by decide) U)).trans ?_;show _=((UInt8.ofInt (v/72057594037927936)).toNat:Int);rw[iH,hw,kM];omega
def ou(l:List UInt8):Nat:=l.foldl (fun u c=>(u*256+c.toNat)%18446744073709551616) 0
def iG(l:List UInt8):Int:=IntKind.i64.wrap (ou l)
theorem F4{l:List UInt8}{i:Nat}(h:i<l.length):ou (l.take (i+1))=(ou (l.take i)*256+(l[i]).toNat)%18446744073709551616:=by
 unfold ou;rw[List.take_succ_eq_append_getElem h,List.foldl_append];rfl
theorem UP(u c:Nat)(aJ:c<256):IntKind.u64.wrap ((BitVec.ofInt 64 (IntKind.u64.wrap ((u:Int)*2^8))||| BitVec.ofInt 64 (IntKind.u64.wrap (c:Int))).toNat:Int)=((u*256+c)%18446744073709551616:Nat):=by
 have hw:∀x:Int,IntKind.u64.wrap x=x%18446744073709551616:=fun _=>rfl;have aj:(BitVec.ofInt 64 (IntKind.u64.wrap ((u:Int)*2^8))).toNat=2^8*(u%72057594037927936):=by
  rw[BitVec.toNat_ofInt,hw];omega
 have an:(BitVec.ofInt 64 (IntKind.u64.wrap (c:Int))).toNat=c:=by
  rw[BitVec.toNat_ofInt,hw];omega
 rw[BitVec.toNat_or,aj,an,<-Nat.two_pow_add_eq_or_of_lt (by omega),hw];omega
theorem Ob(u c:Nat)(aJ:c<256):IntKind.u64.wrap (IntKind.u64.wrap ((u:Int)*256)+IntKind.u64.wrap (c:Int))=((u*256+c)%18446744073709551616:Nat):=by
 have hw:∀x:Int,IntKind.u64.wrap x=x%18446744073709551616:=fun _=>rfl;simp only[hw];omega
theorem HU(v:Int)(bG: -9223372036854775808<=v)(aj:v<=9223372036854775807):iG (aO v)=v:=by
 have key:(ou (aO v):Int)=v%18446744073709551616:=by
  have e:∀x:Int,((UInt8.ofInt x).toNat:Int)=x%256:=iH;simp only[ou,aO,List.foldl_cons,List.foldl_nil];have a0:=e (v/72057594037927936);have gn:=e (v/281474976710656);have fY:=e (v/1099511627776);have a3:=e (v/4294967296);have a4:=e (v/16777216);have a5:=e (v/65536);have zC:=e (v/256);have zD:=e v;generalize(UInt8.ofInt (v/72057594037927936)).toNat=ml at*;generalize(UInt8.ofInt (v/281474976710656)).toNat=jc at*;generalize(UInt8.ofInt (v/1099511627776)).toNat=jr at*;generalize(UInt8.ofInt (v/4294967296)).toNat=uG at*;generalize(UInt8.ofInt (v/16777216)).toNat=Ow at*;generalize(UInt8.ofInt (v/65536)).toNat=Ox at*;generalize(UInt8.ofInt (v/256)).toNat=Oy at*;generalize(UInt8.ofInt v).toNat=Oz at*;omega
 unfold iG;rw[IntKind.wrap_i64,key];omega
abbrev az.bytes(e:TypeId)(v:Value)(l:List UInt8):az:=.row e 1 v l.length (ao l)
theorem Mem.bytes{w0 w:World}{O:Nat->Prop}{L:List az}{Φ:World->Prop}{e:TypeId}{v:Value}{l:List UInt8}(M:Mem w0 O L Φ w)(i:Nat)(h:L[i]? =some (.bytes e v l)):Bytes w v l:=M.reads i h
def az.sub(v:Value)(l:List UInt8):az:=⟨v.ownBlock.toList,fun w=>Bytes w v l,fun w w' h k=>by
 refine⟨k.1,?_⟩;rcases k.2 with an|⟨g,off,cap,rfl,aB,be,bZ,dZ⟩
 ·exact .inl an
 ·have ak:=h g (by simp[Value.ownBlock]);refine .inr ⟨g,off,cap,rfl,aB,be,?_,fun j u hu=>(World.cell?_of_block (w:=w) ak).trans (dZ j u hu)⟩;have jO:(w.heap[g]?).isSome=true:=by simp[bZ]
  rw[<-ak]at jO;simpa using jO⟩
theorem Ab(sz:Nat)(v:Value)(lo hi:Nat)(h:∃b n c,v=.slice b n c):(e2 sz v lo hi).ownBlock=v.ownBlock:=by
 obtain⟨b,n,c,rfl⟩:=h;show Value.ownBlock (.slice _ _ _)=_
 cases b with
 |none=>split<;>rfl
 |some a=>split<;>simp[Value.ownBlock,Addr.add]<;>split<;>rfl
theorem Mem.gv{w0 w:World}{O:Nat->Prop}{L:List az}{Φ:World->Prop}{v:Value}{l:List UInt8}(M:Mem w0 O L Φ w)(i:Nat)(h:L[i]? =some (.sub v l)):Bytes w v l:=M.dG i h
theorem Mem.as{w0 w:World}{O:Nat->Prop}{L L':List az}{Φ:World->Prop}(M:Mem w0 O L Φ w)(h:L=L'):Mem w0 O L' Φ w:=h▸M
theorem Bytes.cut{w:World}{v:Value}{l:List UInt8}(lo hi:Nat)(h:Bytes w v l)(aj:lo<=hi)(an:hi<=l.length):Bytes w (e2 1 v lo hi) ((l.drop lo).take (hi-lo)):=by
 have:=Reads.cut h aj an;simp only[Nat.mul_one,uH,qb]at this;unfold Bytes;rw[List.length_take,List.length_drop]
 rwa [show min (hi-lo) (l.length-lo)=hi-lo by omega]
theorem Mem.wW{w0 w:World}{O:Nat->Prop}{L:List az}{Φ:World->Prop}{e:TypeId}{v:Value}{l:List UInt8}(M:Mem w0 O L Φ w)(i:Nat)(h:L[i]? =some (.bytes e v l)):Mem w0 O (L.set i (.sub v l)) Φ w:=
 M.view h _ (fun k=>nS k) fun g al=>al
theorem Mem.rest{w0 w:World}{O:Nat->Prop}{L:List az}{Φ:World->Prop}{v:Value}{l:List UInt8}(M:Mem w0 O L Φ w)(i k:Nat)(h:L[i]? =some (.sub v l))(ab:k<=l.length):Mem w0 O (L.set i (.sub (e2 1 v k l.length) (l.drop k))) Φ w:=by
 have ak:=M.gv i h;refine M.view h _ (fun _=>?_) fun g al=>?_
 ·have:=Bytes.cut k l.length ak ab (Nat.le_refl _)
  rwa [List.take_of_length_le (by simp)]at this
 ·obtain⟨b,c,aD⟩:=Reads.slice ak;simp only[az.sub]at al⊢
  rwa [Ab _ _ _ _ ⟨b,_,c,aD⟩]at al
theorem Bytes.pre{w:World}{v:Value}{l:List UInt8}{k:Nat}(h:Bytes w v l)(ab:k<=l.length):Bytes w (e2 1 v 0 k) (l.take k):=by simpa using Bytes.cut 0 k h (Nat.zero_le _) ab
theorem Bytes.oT{w:World}{v:Value}{l:List UInt8}{k:Nat}(h:Bytes w v l)(ab:k<=l.length):Bytes w (e2 1 v k l.length) (l.drop k):=by
 have:=Bytes.cut k l.length h ab (Nat.le_refl _)
 rwa [List.take_of_length_le (by simp)]at this
theorem Bytes.nil(w:World):Bytes w (.slice none 0 0) []:=Reads.nil 1 w
theorem Bytes.ext{w w':World}{v:Value}{l:List UInt8}(h:Bytes w v l)(H:bd w w'):Bytes w' v l:=Reads.ext h H
section
variable{P:Program}{ops:Array Oper}{Q:Exit->Act->World->Prop}{l:List (Nat×Value)}{n:Nat}{a:Act}{w w' w0:World}{rest:List Oper}{o:Oper}{O:Nat->Prop}{L R:List az}{Φ:World->Prop}
theorem yW{i k:Nat}{t e:TypeId}{A X:Operand}{v:Value}{b:UInt8}{x:Int}{xs:List UInt8}(E:Env l n a)(M:Mem w0 O L Φ w)(dd:L[i]? =some (.bytes e v xs))(aT:o.dst=none)(aJ:dp l o=true)(al:dg ops l o=true)(hw:dh ops l o=true)
  (aF:o.op=.store t A X) (aR:cf l A=cellAt v (k*1)) (bS:cf l X=.int .u8 x) (ak:x=(b.toNat:Int)) (aM:eS P t 1=true) (ab:k<xs.length)
  (dD:∀a' w',Mem w0 O (L.set i (.bytes e v (xs.set k b))) Φ w'->Env l n a'->wpList P ops Q rest a' w'):wpList P ops Q (o::rest) a w:=by
 subst ak;refine wu E M dd aT aJ al hw aF aR bS aM (by omega) U U fun a' w' aA dQ=>dD a' w' (aA.as ?_) dQ;have cz:ao (xs.set k b)=(ao xs).set (k*1) (.int .u8 (b.toNat:Int)):=by simp[ao,List.map_set]
 unfold az.bytes;rw[cz,List.length_set]
theorem fX{d:Tmp}{i:Nat}{t dP e bV:TypeId}{X Y:Operand}{v x:Value}{xs news:List UInt8}{args:List Operand}{b7:List TypeId}(E:Env l n a)(M:Mem w0 O L Φ w)(dd:L[i]? =some (.bytes e v xs))(aT:o.dst=some d)(a6:Nat.blt d n=true)(aJ:dp l o=true)(al:dg ops l o=true)(hw:dh ops l o=true)
  (aF:o.op=.call {callee:=.builtin .append,args:=args.toArray,argTypes:=b7.toArray}) (bm:args=[X,Y]) (fp:b7=[t,dP]) (bS:cf l X=v) (du:cf l Y=x) (aM:dN P t e=true) (h6:dN P dP bV=true) (au:hl P e 1=true) (ak:hk P e 1=true) (ap:Bytes w x news) (g1:xs.length+news.length<=70368744177664)
  (dD:∀bR a' w',Mem w0 O (L.set i (.bytes e bR (xs++news))) Φ w'->Env ((d,bR)::l) n a'->wpList P ops Q rest a' w'):wpList P ops Q (o::rest) a w:=by
 refine oM E M dd aT a6 aJ al hw aF bm fp bS du aM h6 au ak (by decide) ap (c0 news) (by omega) fun bR a' w' aA dQ=>dD bR a' w' (aA.as ?_) dQ;rw[<-sU,<-List.length_append]
theorem By(z:Value)(c:Nat):(madeCells #[z] c).toList=List.replicate c z:=by
 apply List.ext_getElem
 ·simp[madeCells]
 ·intro i aj an;simp[madeCells,Nat.mod_one]
theorem Jf{d:Tmp}{t e:TypeId}{X Y:Operand}{bM oA:IntKind}{k c bytes:Nat}{x y:Int}{z:Value}(E:Env l n a)(M:Mem w0 O L Φ w)(aT:o.dst=some d)(a6:Nat.blt d n=true)(aJ:dp l o=true)(al:dg ops l o=true)(hw:dh ops l o=true)
  (aF:o.op=.makeSlice t X Y) (bS:cf l X=.int bM x) (du:cf l Y=.int oA y) (ad:x=k) (bn:y=c) (aM:dN P t e=true) (au:hl P e 1=true) (eG:(zeroOf P e).map (·.cells)=some #[z]) (ak:hk P e bytes=true) (ab:k<=c) (g1:c*(bytes+1)<=140737488355328)
  (dD:∀v a' w',Mem w0 O (.row e 1 v k (List.replicate k z)::L) Φ w'->Env ((d,v)::l) n a'->wpList P ops Q rest a' w'):wpList P ops Q (o::rest) a w:=by
 obtain⟨cs,fo,ap,i,u,hi,hu,rfl⟩:=Ce (P:=P) (w:=w) aF bS du ad bn aM au ak ab g1;have qN:u.cells= #[z]:=by simpa [zeroOf,hi,hu]using eG
 have vb:c<=maxLen:=by
  have:c*(bytes+1)=c*bytes+c:=by rw[Nat.mul_add,Nat.mul_one]
  simp only[maxLen];omega
 refine dM (xs:=List.replicate k z) E M aT a6 aJ al hw ap fo ab vb ?_ dD;rw[qN,Nat.mul_one,Nat.mul_one,By,List.take_replicate];congr 1;omega
theorem CA{d:Tmp}{t e:TypeId}{X Y:Operand}{bM oA:IntKind}{k c:Nat}{x y:Int}(E:Env l n a)(M:Mem w0 O L Φ w)(aT:o.dst=some d)(a6:Nat.blt d n=true)(aJ:dp l o=true)(al:dg ops l o=true)(hw:dh ops l o=true)
  (aF:o.op=.makeSlice t X Y) (bS:cf l X=.int bM x) (du:cf l Y=.int oA y) (ad:x=k) (bn:y=c) (aM:dN P t e=true) (au:hl P e 1=true) (eG:(zeroOf P e).map (·.cells)=some #[.int .u8 0]) (ak:hk P e 1=true) (ab:k<=c) (g1:c<=70368744177664)
  (dD:∀v a' w',Mem w0 O (.bytes e v (List.replicate k 0)::L) Φ w'->Env ((d,v)::l) n a'->wpList P ops Q rest a' w'):wpList P ops Q (o::rest) a w:=by
 refine Jf E M aT a6 aJ al hw aF bS du ad bn aM au eG ak ab (by omega) fun v a' w' aA dQ=>dD v a' w' (aA.as ?_) dQ;have aj:ao (List.replicate k 0)=List.replicate k (.int .u8 0):=by simp[ao]
 unfold az.bytes;rw[aj,List.length_replicate]
end
end
section
open Go.RowKit
def iC(K:TypeId->Option (List IntKind)):List Field->Nat->Option (List IntKind)
 |[],_=>some []
 |f::dX,off=>match K f.type with
  |none=>none
  |some ks=>if f.offset==off&& !(f.name== "_")then(match iC K dX (off+ks.length)with|some r=>some (ks++r)|none=>none)else none
def er(P:Program):Nat->TypeId->Option (List IntKind)
 |0,_=>none
 |d+1,t=>match P.underlying t with
  |some (.int k)=>if fb P t then some [k]else none
  |some (.struct dX)=>match iC (er P d) dX.toList 0 with
   |some ks=>if hv P t ks.length&& !P.stoodInHeld t then some ks else none
   |none=>none
  |some (.array n e)=>match er P d e with
   |some ks=>if P.cellsOf e==ks.length&&(P.info? e).isSome&&hv P t (n*ks.length)then some (List.replicate n ks).flatten else none
   |none=>none
  |_=>none
def kindOf:Value->Option IntKind
 | .int k _=>some k
 |_=>none
def Fit(ks:List IntKind)(L:List Value):Prop:=L.map kindOf=ks.map some
theorem Fit.len{ks:List IntKind}{L:List Value}(h:Fit ks L):L.length=ks.length:=by
 have:=congrArg List.length h;simpa using this
theorem Fit.split{ks qP:List IntKind}{L:List Value}(h:Fit (ks++qP) L):∃A B,L=A++B/\Fit ks A/\Fit qP B:=by
 refine⟨L.take ks.length,L.drop ks.length,(List.take_append_drop _ _).symm,?_,?_⟩
 ·unfold Fit at*;rw[List.map_take,h,List.map_append,List.take_left' (by simp)]
 ·unfold Fit at*;rw[List.map_drop,h,List.map_append,List.drop_left' (by simp)]
def fT(P:Program)(t:TypeId)(L:List Value):Value:=if fb P t then L.headD undef else .agg L.toArray
def sK(P:Program)(d:Nat)(t:TypeId)(ks:List IntKind):Prop:=∀(w:World) (xs ys:List Value),Fit ks xs->Fit ks ys->∃r,(Op.equalIn d t (fT P t xs) (fT P t ys)).run P w=.ok r w/\(r=true↔xs=ys)
theorem q0{P:Program}{w:World}{t:TypeId}{ks:List IntKind}{pre A post:List Value}{off:Nat}(aP:(fb P t=true/\ks.length=1)\/(fb P t=false/\hv P t ks.length=true))(hp:pre.length=off)(aR:Fit ks A):(part t (pre++A++post).toArray off).run P w=.ok (fT P t A) w:=by
 rcases aP with⟨aj,an⟩|⟨aj,an⟩
 ·obtain⟨v,rfl⟩:∃v,A=[v]:=List.length_eq_one_iff.1 (by rw[aR.len,an]);have hi:(isAgg t).run P w=.ok false w:=Bs aj;have al:(pre++[v]++post).toArray[off]? =some v:=by
   simp[List.getElem?_append,hp]
  simp only[part,Sem.run_bind,hi,Result.andThen_ok,Bool.false_eq_true,if_false,al,Sem.run_pure,fT,aj,if_true,List.headD_cons]
 ·obtain⟨kI,hu,ap⟩:=zb an;have hi:(isAgg t).run P w=.ok true w:=by
   cases kI<;>simp_all [isAgg,run_underlying hu,TypeDesc.isRow]
  have he:(pre++A++post).toArray.extract off (off+ks.length)=A.toArray:=by
   apply Array.toList_inj.1;simp[<-hp,<-aR.len]
  simp only[part,Sem.run_bind,hi,Result.andThen_ok,if_true,kc (w:=w) (sD an),he,Sem.run_pure,fT,aj,Bool.false_eq_true,if_false]
theorem nh{P:Program}{d:Nat}{t:TypeId}{ks:List IntKind}(h:er P d t=some ks):(fb P t=true/\ks.length=1)\/(fb P t=false/\hv P t ks.length=true):=by
 cases d with
 |zero=>simp[er]at h
 |succ d=>
  unfold er at h;cases hu:P.underlying t with
  |none=>rw[hu]at h;cases h
  |some kI=>
   rw[hu]at h;cases kI with
   |int k=>
    simp only at h;split at h
    ·rename_i aJ;injection h with h;subst h;exact .inl ⟨aJ,U⟩
    ·cases h
   |struct dX=>
    simp only at h;split at h
    ·split at h
     ·rename_i aJ;rw[Bool.and_eq_true]at aJ;injection h with h;subst h;exact .inr ⟨by simp[fb,hu],aJ.1⟩
     ·cases h
    ·cases h
   |array n e=>
    simp only at h;split at h
    ·rename_i g2 _;split at h
     ·rename_i aJ;simp only[Bool.and_eq_true]at aJ;injection h with h;subst h;refine .inr ⟨by simp[fb,hu],?_⟩;have:(List.replicate n g2).flatten.length=n*g2.length:=by simp
      rw[this];exact aJ.2
     ·cases h
    ·cases h
   |_=>cases h
theorem uO{P:Program}{d:Nat}(K:∀t ks,er P d t=some ks->sK P d t ks):∀(dX:List Field) (off:Nat) (ks:List IntKind),iC (er P d) dX off=some ks->∀(w:World) (p q xs ys:List Value),p.length=off->q.length=off->Fit ks xs->Fit ks ys->
  ∃r,(Op.eqFields d (p++xs).toArray (q++ys).toArray dX).run P w=.ok r w/\(r=true↔xs=ys)
 |[],off,ks,h,w,p,q,xs,ys,hp,bE,ad,bn=>by
  simp only[iC,Option.some.injEq]at h;subst h;have cz:xs=[]:=List.eq_nil_of_length_eq_zero (by simpa using ad.len);have c6:ys=[]:=List.eq_nil_of_length_eq_zero (by simpa using bn.len);exact⟨true,by simp[Op.eqFields],by simp[cz,c6]⟩
 |f::dX,off,ks,h,w,p,q,xs,ys,hp,bE,ad,bn=>by
  unfold iC at h;cases ab:er P d f.type with
  |none=>rw[ab]at h;cases h
  |some gk=>
   rw[ab]at h;simp only at h;split at h
   ·rename_i aJ;simp only[Bool.and_eq_true,Bool.not_eq_true',beq_iff_eq]at aJ;obtain⟨pA,a6⟩:=aJ;cases ap:iC (er P d) dX (off+gk.length)with
    |none=>rw[ap]at h;cases h
    |some hQ=>
     rw[ap]at h;simp only[Option.some.injEq]at h;subst h;obtain⟨A,xs',rfl,aR,r3⟩:=ad.split;obtain⟨B,nY,rfl,aL,pD⟩:=bn.split;have vp:f.name≠ "_" :=by simpa using a6
     have s1:=q0 (P:=P) (w:=w) (post:=xs') (nh ab) (hp.trans pA.symm) aR;have s2:=q0 (P:=P) (w:=w) (post:=nY) (nh ab) (bE.trans pA.symm) aL;obtain⟨r,vv,jQ⟩:=K _ _ ab w A B aR aL;obtain⟨q1,nK,vw⟩:=uO K dX _ _ ap w (p++A) (q++B) xs' nY (by simp[hp,aR.len]) (by simp[bE,aL.len]) r3 pD;rw[List.append_assoc]at s1 s2 nK;rw[List.append_assoc]at nK;unfold Op.eqFields;simp only[if_pos vp,Sem.run_bind,s1,s2,vv,Result.andThen_ok];cases r with
     |false=>exact⟨false,by simp,by simp;intro e;have:=List.append_inj_left e (by rw[aR.len,aL.len]);exact absurd (jQ.2 this) (by simp)⟩
     |true=>
      have u2:=jQ.1 rfl;refine⟨q1,by simpa using nK,?_⟩;rw[vw,u2];simp
   ·cases h
theorem Fu{ks:List IntKind}:∀{n:Nat} {xs:List Value},Fit (List.replicate (n+1) ks).flatten xs->∃A B,xs=A++B/\Fit ks A/\Fit (List.replicate n ks).flatten B:=by
 intro n xs h;rw[List.replicate_succ,List.flatten_cons]at h;exact h.split
theorem Fh{P:Program}{d:Nat}{e:TypeId}{ks:List IntKind}(ab:er P d e=some ks)(K:sK P d e ks):∀(n s:Nat) (w:World) (p q xs ys:List Value),p.length=s*ks.length->q.length=s*ks.length->Fit (List.replicate n ks).flatten xs->Fit (List.replicate n ks).flatten ys->
  ∃r,(Op.eqItems d e ks.length (p++xs).toArray (q++ys).toArray (List.range' s n)).run P w=.ok r w/\(r=true↔xs=ys)
 |0,s,w,p,q,xs,ys,hp,bE,ad,bn=>by
  have cz:xs=[]:=List.eq_nil_of_length_eq_zero (by simpa using ad.len);have c6:ys=[]:=List.eq_nil_of_length_eq_zero (by simpa using bn.len);exact⟨true,by simp[Op.eqItems],by simp[cz,c6]⟩
 |n+1,s,w,p,q,xs,ys,hp,bE,ad,bn=>by
  obtain⟨A,xs',rfl,aR,r3⟩:=Fu ad;obtain⟨B,nY,rfl,aL,pD⟩:=Fu bn;have s1:=q0 (P:=P) (w:=w) (post:=xs') (nh ab) hp aR;have s2:=q0 (P:=P) (w:=w) (post:=nY) (nh ab) bE aL;obtain⟨r,vv,jQ⟩:=K w A B aR aL;obtain⟨q1,nK,vw⟩:=Fh ab K n (s+1) w (p++A) (q++B) xs' nY (by simp[hp,aR.len,Nat.add_mul]) (by simp[bE,aL.len,Nat.add_mul]) r3 pD;rw[List.append_assoc]at s1 s2 nK;rw[List.append_assoc]at nK;rw[List.range'_succ];unfold Op.eqItems;simp only[Sem.run_bind,s1,s2,vv,Result.andThen_ok];cases r with
  |false=>exact⟨false,by simp,by simp;intro e;have:=List.append_inj_left e (by rw[aR.len,aL.len]);exact absurd (jQ.2 this) (by simp)⟩
  |true=>
   have u2:=jQ.1 rfl;refine⟨q1,by simpa using nK,?_⟩;rw[vw,u2];simp
theorem rE{P:Program}:∀(d:Nat) (t:TypeId) (ks:List IntKind),er P d t=some ks->sK P d t ks
 |0,t,ks,h=>by simp[er]at h
 |d+1,t,ks,h=>by
  have m8:=nh h;unfold er at h;intro w xs ys ad bn;cases hu:P.underlying t with
  |none=>rw[hu]at h;cases h
  |some kI=>
   rw[hu]at h;cases kI with
   |int k=>
    simp only at h;split at h
    ·rename_i aJ;injection h with h;subst h;obtain⟨x,rfl⟩:∃v,xs=[v]:=List.length_eq_one_iff.1 (by rw[ad.len];rfl);obtain⟨y,rfl⟩:∃v,ys=[v]:=List.length_eq_one_iff.1 (by rw[bn.len];rfl);simp only[Fit,List.map_cons,List.map_nil,List.cons.injEq,and_true]at ad bn;cases x<;>simp only[kindOf,reduceCtorEq]at ad;cases y<;>simp only[kindOf,reduceCtorEq]at bn;simp only[Option.some.injEq]at ad bn;subst ad bn;rename_i a _ b;refine⟨a==b,?_,by simp⟩;simp only[fT,aJ,if_true,List.headD_cons];exact run_equalIn_int w d t _ _ a b hu
    ·cases h
   |struct dX=>
    simp only at h;cases bu:iC (er P d) dX.toList 0 with
    |none=>rw[bu]at h;cases h
    |some g2=>
     rw[bu]at h;simp only at h;split at h
     ·rename_i aJ;simp only[Bool.and_eq_true,Bool.not_eq_true']at aJ;injection h with h;subst h;have aF:fb P t=false:=by simp[fb,hu]
      have vj:P.fieldsOf t=dX:=by simp[Program.fieldsOf,hu]
      simp only[fT,aF,Bool.false_eq_true,if_false];rw[run_equalIn_struct (P:=P) w d t _ _ (by rw[vj];exact hu) aJ.2,vj];have:=uO (fun t ks h=>rE d t ks h) dX.toList 0 _ bu w [] [] xs ys rfl rfl ad bn;simpa using this
     ·cases h
   |array n e=>
    simp only at h;cases bu:er P d e with
    |none=>rw[bu]at h;cases h
    |some g2=>
     rw[bu]at h;simp only at h;split at h
     ·rename_i aJ;simp only[Bool.and_eq_true,beq_iff_eq]at aJ;injection h with h;subst h;obtain⟨i,hi⟩:=Option.isSome_iff_exists.1 aJ.1.2;have aF:fb P t=false:=by simp[fb,hu]
      simp only[fT,aF,Bool.false_eq_true,if_false];rw[run_equalIn_array (P:=P) w d _ _ hu hi,aJ.1.1,List.range_eq_range'];have:=Fh bu (rE d e _ bu) n 0 w [] [] xs ys (by simp) (by simp) ad bn;simpa using this
     ·cases h
   |_=>cases h
def ug(P:Program)(t:TypeId)(ks:List IntKind):Bool:=er P 10000 t==some ks&& !fb P t&& !P.eqGuardType P.depth t
theorem oL{P:Program}{ρ:Operand->Value}{o:Oper}{w:World}{t k3:TypeId}{X Y:Operand}{xs ys:List Value}{ks:List IntKind}{b:Bool}(aF:o.op=.binOp .eql t X Y k3)(bS:ρ X=.agg xs.toArray)(du:ρ Y=.agg ys.toArray)(aM:ug P t ks=true)(ad:Fit ks xs)(bn:Fit ks ys)(ak:b=true↔xs=ys):
  (execOp ρ o).run P w=.ok (.value (.bool b)) w:=by
 simp only[ug,Bool.and_eq_true,Bool.not_eq_true',beq_iff_eq]at aM;obtain⟨⟨aj,an⟩,aB⟩:=aM;obtain⟨r,ap,Bg⟩:=rE 10000 t ks aj w xs ys ad bn;simp only[fT,an,Bool.false_eq_true,if_false]at ap;have e:r=b:=by rw[Bool.eq_iff_iff,Bg,ak]
 subst e;have al:=run_eqGuard_agg (P:=P) w .eql t X Y xs.toArray ys.toArray aB;have he:=run_eql_struct (P:=P) w t xs.toArray ys.toArray;rw[ap,Result.andThen_ok]at he;simp only[execOp,aF,bS,du,Sem.run_bind,al,Result.andThen_ok,he];rfl
theorem Ft(l:List UInt8):Fit (List.replicate l.length .u8) (ao l):=by
 unfold Fit ao;rw[List.map_map,List.map_replicate];exact List.map_const'
theorem Fit.app{ks qP:List IntKind}{A B:List Value}(h:Fit ks A)(k:Fit qP B):Fit (ks++qP) (A++B):=by
 unfold Fit at*;rw[List.map_append,h,k,List.map_append]
end
section
open Go.Proofs.kD.kC Go.RowKit
structure Road where
 mQ:Nat->World->Prop
 R:Nat->World->World->Prop
 I:(Nat->Bool)->World->Prop
structure Road.Ok(D:Road)(N:Nat)(B:List Nat)(Vs:List Spec)(w0:World):Prop where
 begin:D.I (fun _=>false) w0
 pre:∀(b:Nat->Bool) i w,b i=false->(∀j,j<N->waits B j i=true->b j=false)->(∀j,waits B i j=true->b j=true)->D.I b w->D.mQ i w
 step:∀(b:Nat->Bool) i w w',b i=false->(∀j,j<N->waits B j i=true->b j=false)->(∀j,waits B i j=true->b j=true)->D.I b w->D.R i w w'->D.I (up b i) w'
 na:∀i j p,i≠j->(j<N->waits B j i=false)->Vs[j]? =some (.rel p)->∀w w' v,D.mQ i w->D.R i w w'->p w v->p w' v
def iA(P:Program)(ops:Array Oper)(B:List Nat)(l:List (Nat×Value))(n:Nat)(Vs:List Spec)(D:Road)(Q:Exit->Act->World->Prop)(i:Nat):Prop:=
 ∀(x:Nat->Value) (a:Act) (w:World),D.mQ i w->(∀j,waits B i j=true->fq Vs x w j)->Env (cg ops B l Vs x i) n a->
  ∃o s,ops[i]? =some o/\Vs[i]? =some s/\∀K:Act->World->Prop,(∀v w',D.R i w w'->s.ok w' v->K (a.put o.dst v) w')->
   if Region.wanted o (yielded ops a.tmps)=true then Oper.wp P o a w K Q else K (a.put o.dst undef) w
section
variable{P:Program}{Q:Exit->Act->World->Prop}{l:List (Nat×Value)}{n:Nat}{a:Act}{w:World}{ops:Array Oper}{B:List Nat}{Vs:List Spec}{id:Nat}
structure DI(ops:Array Oper)(a0:Act)(n:Nat)(Vs:List Spec)(D:Road)(b:Nat->Bool)(a:Act)(w:World):Prop where
 yE:D.I b w
 size:a.tmps.size=n
 defers:a.defers=[]
 rj:∃x:Nat->Value,(∀j,b j=true->fq Vs x w j)/\∀t,t<n->a.tmps.getD t undef=match g3 ops b t with
  |some j=>valOf Vs x j
  |none=>a0.tmps.getD t undef
theorem F8(D:Road)(gK:Bool){a0:Act}(T:Bool×List (List Nat×List Nat))(B:List Nat)(Vs:List Spec)(E:Env l n a0)(hm:P.follows .mixedOrders=true)(fC:hA .any ops=T)(hw:oX T.2 B=true)(ab:lC T.2 (List.range ops.size)=true)
  (bu:uY ops B=true) (aT:((List.range ops.size).all fun i=>fits n (hs ops i))=true) (cb:D.Ok ops.size B Vs w.drew)
  (m:Nat) (ff:m+(if gK then 1 else 0)=ops.size) (pC:gK=true->∀i,i<m->waits B m i=true)
  (aP:∀i∈List.range m,iA P ops B l n Vs D Q i)
  (ij:∀(x:Nat->Value) (a:Act) (w':World),(∃b:Nat->Bool,(∀j,j<m->b j=true)/\D.I b w')->(∀j,j<m->fq Vs x w' j)->Env (og ops l Vs x m) n a->if gK then j7 P ops Q m a w' else Q .normal a w'):(Code.region id ops true).wp P Q a0 w:=by
 have hlen:T.2.length=ops.size:=by subst fC;simp[hA]
 refine Ds (S:=fun _=>True) (ds:=[]) hm ?_;show rk P .any ops Q (fun _=>True) [] ops.size (Array.replicate ops.size false) a0 w.drew
 have key:∀i,i<ops.size->(∀t∈slotsOf ops i,match jT ops B i t with
   |some j=>∀k,k<ops.size->writes ops t k=true->k<=j\/k=i\/waits B k i=true
   |none=>∀k,k<ops.size->writes ops t k=true->k=i\/waits B k i=true)/\(∀t,hs ops i=some t->∀k,k<ops.size->writes ops t k=true->k<=i\/waits B k i=true):=by
  intro i hi;have aj:=List.all_eq_true.1 bu i (List.mem_range.2 hi);rw[Bool.and_eq_true]at aj;refine⟨fun t aM=>?_,fun t aM k c2 fM=>?_⟩
  ·have an:=List.all_eq_true.1 aj.1 t aM;cases jf:jT ops B i t with
   |some j=>
    rw[jf]at an;intro k c2 fM;have aB:=List.all_eq_true.1 an k (List.mem_range.2 c2);rw[fM]at aB;simp only[Bool.not_true,Bool.false_or,Bool.or_eq_true,Nat.ble_eq,Nat.beq_eq]at aB;rcases aB with(aB|aB)|aB
    ·exact .inl aB
    ·exact .inr (.inl aB)
    ·exact .inr (.inr aB)
   |none=>
    rw[jf]at an;intro k c2 fM;have aB:=List.all_eq_true.1 an k (List.mem_range.2 c2);rw[fM]at aB;simp only[Bool.not_true,Bool.false_or,Bool.or_eq_true,Nat.beq_eq]at aB;exact aB
  ·have an:=aj.2;rw[aM]at an;have aB:=List.all_eq_true.1 an k (List.mem_range.2 c2);rw[fM]at aB;simp only[Bool.not_true,Bool.false_or,Bool.or_eq_true,Nat.ble_eq]at aB;exact aB
 have final:∀b a w',(∀j,j<m->b j=true)->(∀j,j<ops.size->m<=j->b j=false)->DI ops a0 n Vs D b a w'->if gK then j7 P ops Q m a w' else Q .normal a w':=by
  intro b a w' j1 eB I;obtain⟨x,ad,aD⟩:=I.rj;refine ij x a w' ⟨b,j1,I.yE⟩ (fun j ax=>ad j (j1 j ax)) ⟨fun t v aM=>?_,I.size,I.defers⟩;unfold og at aM;rw[List.lookup_append]at aM;have vi:∀m,((List.range m).reverse.filterMap fun i=>(hs ops i).map fun t=>(t,valOf Vs x i)).lookup t=((List.range m).reverse.find? fun j=>writes ops t j).map (valOf Vs x):=by
   intro m
   induction m with
   |zero=>rfl
   |succ m ck=>
    rw[List.range_succ,List.reverse_append];simp only[List.reverse_singleton,List.singleton_append,List.filterMap_cons,List.find?_cons];cases qG:hs ops m with
    |none=>simp only[Option.map_none,writes,qG];rw[ck];rfl
    |some d=>
     simp only[Option.map_some,List.lookup_cons,writes,qG];by_cases e:t=d
     ·subst e;simp
     ·have aj:(t==d)=false:=by simpa using e
      have an:(some d==some t)=false:=by simpa using fun c=>e c.symm
      rw[aj,an];exact ck
  rw[vi]at aM;have GD:m<=ops.size:=by omega
  by_cases my:t<n
  ·rw[aD t my];have nH:g3 ops b t=(List.range m).reverse.find? fun j=>writes ops t j:=by
    unfold g3;cases iU:(List.range m).reverse.find? fun j=>writes ops t j with
    |none=>
     refine lE (fun k c2=>?_);by_cases ms:k<m
     ·have:=List.find?_eq_none.1 iU k (by simp;exact ms);simp at this;simp[this]
     ·simp[eB k c2 (by omega)]
    |some j=>
     obtain⟨aj,an,aB⟩:=rD iU;refine pa (by omega) (by simp[an,j1 j aj]) (fun k c2 hp=>?_);simp only[Bool.and_eq_true]at hp;by_cases ms:k<m
     ·exact aB k ms hp.1
     ·rw[eB k c2 (by omega)]at hp;cases hp.2
   rw[nH];cases iU:(List.range m).reverse.find? fun j=>writes ops t j with
   |none=>rw[iU]at aM;simp at aM;exact E.get t v aM
   |some j=>rw[iU]at aM;simp at aM;exact aM
  ·have iU:((List.range m).reverse.find? fun j=>writes ops t j)=none:=by
    refine lE (fun k c2=>?_);cases fM:writes ops t k with
    |false=>rfl
    |true=>
     have be:=List.all_eq_true.1 aT k (List.mem_range.2 (by omega));have bZ:hs ops k=some t:=by simpa [writes]using fM
     rw[bZ]at be;simp[fits]at be;omega
   rw[iU]at aM;simp at aM;have dZ:=E.get t v aM;have bQ:a0.tmps.getD t undef=undef:=by simp[Array.getD_eq_getD_getElem?];rw[Array.getElem?_eq_none (by rw[E.size];omega)];rfl
   have cF:a.tmps.getD t undef=undef:=by simp[Array.getD_eq_getD_getElem?];rw[Array.getElem?_eq_none (by rw[I.size];omega)];rfl
   rw[cF,<-bQ];exact dZ
 refine Bq (List.range ops.size) (fun b a w'=>if(gK&&b m)=true then Q .normal a w' else DI ops a0 n Vs D b a w') fC hw ab ?_ ?_ ?_ ?_
 ·rw[hlen];simp only[List.length_range,beq_self_eq_true,Bool.and_true,beq_iff_eq];apply List.ext_getElem
  ·simp[iE]
  ·intro j aj an;simp[iE]at aj an⊢;exact aj
 ·show if(gK&&false)=true then _ else _
  rw[Bool.and_false,if_neg (by simp)];refine⟨cb.begin,E.size,E.defers,fun _=>undef,fun j ax=>(by cases ax),fun t _=>?_⟩;have:g3 ops (fun _=>false) t=none:=lE (fun k _=>by simp);rw[this]
 ·intro i hi b a w' I h4 m7 qK;have ln:i<ops.size:=List.mem_range.1 hi;have qF:(gK&&b m)=false:=by
   cases eV:gK with
   |false=>rfl
   |true=>
    rw[eV]at ff;simp only[if_true]at ff;by_cases l1:i=m
    ·subst l1;simp[h4]
    ·have:=qK m (by simp[<-ff];exact pC eV i (by omega));simp[this]
  rw[if_neg (by simp[qF])]at I;by_cases l1:gK=true/\i=m
  ·obtain⟨eV,rfl⟩:=l1;rw[eV]at ff;simp only[if_true]at ff;have iS:∀j,j<i->b j=true:=fun j ax=>m7 j (by simp[<-ff];exact⟨by omega,pC eV j ax⟩);have iV:=final b a w' iS (fun j qI hc=>by(have:j=i:=by omega);rw[this];exact h4) I;rw[eV,if_pos rfl]at iV;obtain⟨o,aF⟩:∃o,ops[i]? =some o:=⟨ops[i],by simp[ln]⟩
   refine⟨o,aF,fun K nE=>?_⟩;have qB:∀a w,Q .normal a w->K a w:=fun a w bE=>nE.out _ _ (by dsimp only;rw[if_pos (by simp[eV,nX])];exact bE);unfold j7 at iV;rw[aF]at iV;simp only at iV;split at iV
   ·rename_i nL;rw[if_pos nL];exact Oper.wp_mono qB iV
   ·rename_i nL;rw[if_neg nL];exact qB _ _ iV
  have px:i<m:=by
   cases eV:gK with
   |false=>rw[eV]at ff;simp at ff;omega
   |true=>rw[eV]at ff;simp at ff;have:i≠m:=fun c=>l1 ⟨eV,c⟩;omega
  obtain⟨x,ad,aD⟩:=I.rj;obtain⟨gk,hQ⟩:=key i ln;have l4:∀j,j<ops.size->waits B i j=true->b j=true:=fun j ax pB=>m7 j (by simp[ax];exact pB);have j4:∀k,k<ops.size->waits B k i=true->b k=false:=fun k c2 fM=>qK k (by simp[c2];exact fM);have nJ:∀j,waits B i j=true->j<ops.size:=by
   intro j ax;have aj:=sm hw (i+1) i (by omega) (by omega) ax;have:∀fuel d,d<T.2.length->jD T.2 j fuel d=true->j<ops.size:=by
    intro fuel
    induction fuel with
    |zero=>intro d _ h;simp[jD]at h
    |succ fuel ck=>
     intro d rU h;unfold jD at h;cases ap:T.2[d]? with
     |none=>rw[ap]at h;simp at h
     |some r=>
      rw[ap]at h;simp only[List.any_eq_true]at h;obtain⟨m,nI,fL⟩:=h;have h5:=(mW ab ap).2 m nI;rw[Bool.or_eq_true]at fL;rcases fL with fL|fL
      ·have:m=j:=by simpa using fL
       omega
      ·exact ck m (by omega) fL
   exact this (i+1) i (by omega) aj
  have qA:Env (cg ops B l Vs x i) n a:=by
   refine⟨fun t v aM=>?_,I.size,I.defers⟩;rw[Ah]at aM;obtain⟨aj,an⟩:=Bv (f:=fun t=>match jT ops B i t with
    |some j=>some (valOf Vs x j)
    |none=>l.lookup t) aM
   have aB:=gk t an;by_cases my:t<n
   ·rw[aD t my];cases jf:jT ops B i t with
    |some j=>
     rw[jf]at aj aB;obtain⟨qI,hc,vm⟩:=CD jf;have va:=l4 j (by omega) vm;have:g3 ops b t=some j:=by
      refine pa (by omega) (by simp[hc,va]) (fun k c2 hp=>?_);simp only[Bool.and_eq_true]at hp;rcases aB k c2 hp.1 with h|h|h
      ·exact h
      ·subst h;rw[h4]at hp;cases hp.2
      ·rw[j4 k c2 h]at hp;cases hp.2
     rw[this];simpa using aj
    |none=>
     rw[jf]at aj aB;have:g3 ops b t=none:=by
      refine lE (fun k c2=>?_);cases fM:writes ops t k with
      |false=>rfl
      |true=>
       rcases aB k c2 fM with h|h
       ·subst h;rw[h4];rfl
       ·rw[j4 k c2 h];rfl
     rw[this];exact E.get t v aj
   ·
    have vr:∀k,k<ops.size->writes ops t k=false:=by
     intro k c2;cases fM:writes ops t k with
     |false=>rfl
     |true=>
      have be:=List.all_eq_true.1 aT k (List.mem_range.2 c2);have bZ:hs ops k=some t:=by simpa [writes]using fM
      rw[bZ]at be;simp[fits]at be;omega
    have vy:jT ops B i t=none:=lE (fun k c2=>by simp[vr k (by omega)]);rw[vy]at aj;have dZ:=E.get t v aj;have bQ:a0.tmps.getD t undef=undef:=by simp[Array.getD_eq_getD_getElem?];rw[Array.getElem?_eq_none (by rw[E.size];omega)];rfl
    have cF:a.tmps.getD t undef=undef:=by simp[Array.getD_eq_getD_getElem?];rw[Array.getElem?_eq_none (by rw[I.size];omega)];rfl
    rw[cF,<-bQ];exact dZ
  obtain⟨o,s,aF,kl,cY⟩:=aP i (List.mem_range.2 px) x a w' (cb.pre b i w' h4 j4 (fun j ax=>l4 j (nJ j ax) ax) I.yE) (fun j ax=>ad j (l4 j (nJ j ax) ax)) qA;refine⟨o,aF,fun K nE=>?_⟩;refine cY K (fun v sG qH qM=>?_);refine nE.out _ _ ?_;dsimp only;rw[if_neg (by rw[k5 (by omega)];simp[qF])];refine⟨cb.step b i _ _ h4 j4 (fun j ax=>l4 j (nJ j ax) ax) I.yE qH,by cases kQ:o.dst<;>simp[Act.put,I.size],by cases kQ:o.dst<;>simp[Act.put,I.defers],fun j=>if j=i then v else x j,fun j ax=>?_,fun t aM=>?_⟩
  ·by_cases e:j=i
   ·subst e;unfold fq;rw[kl];cases s with
    |af u=>trivial
    |rel p=>simpa [Spec.ok]using qM
   ·have ak:b j=true:=by rw[k5 e]at ax;exact ax
    have aj:=ad j ak;unfold fq at aj⊢;cases hc:Vs[j]? with
    |none=>trivial
    |some s2=>
     cases s2 with
     |af u=>trivial
     |rel p=>rw[hc]at aj;simp only[if_neg e];exact cb.na i j p (fun c=>e c.symm) (fun A8=>by cases pB:waits B j i with|false=>rfl|true=>rw[j4 j A8 pB]at ak;cases ak) hc _ _ _ (cb.pre b i w' h4 j4 (fun j ax=>l4 j (nJ j ax) ax) I.yE) qH aj
  ·rw[BW (by rw[I.size];exact aM)];have kQ:o.dst=hs ops i:=by simp[hs,aF]
   have kS:∀j,j≠i->valOf Vs (fun j=>if j=i then v else x j) j=valOf Vs x j:=by
    intro j e;unfold valOf;simp only[if_neg e]
   by_cases e:o.dst=some t
   ·rw[if_pos e];have vz:writes ops t i=true:=by simp[writes,<-kQ,e]
    have:g3 ops (up b i) t=some i:=by
     refine pa ln (by simp[vz,nX]) (fun k c2 hp=>?_);simp only[Bool.and_eq_true]at hp;rcases hQ t (by rw[<-kQ];exact e) k c2 hp.1 with h|h
     ·exact h
     ·have c6:k≠i:=fun c=>by
       subst c;have ap:=sm hw (k+1) k (by omega) (by omega) h;have:∀fuel d,d<T.2.length->d<=k->jD T.2 k fuel d=true->False:=by
        intro fuel
        induction fuel with
        |zero=>intro d _ _ h;simp[jD]at h
        |succ fuel ck=>
         intro d rU Gx h;unfold jD at h;cases ap:T.2[d]? with
         |none=>rw[ap]at h;simp at h
         |some r=>
          rw[ap]at h;simp only[List.any_eq_true]at h;obtain⟨m,nI,fL⟩:=h;have h5:=(mW ab ap).2 m nI;rw[Bool.or_eq_true]at fL;rcases fL with fL|fL
          ·have:m=k:=by simpa using fL
           omega
          ·exact ck m (by omega) (by omega) fL
       exact this _ _ (by omega) (Nat.le_refl _) ap
      rw[k5 c6]at hp;rw[j4 k c2 h]at hp;cases hp.2
    rw[this];show v=valOf Vs _ i
    unfold valOf;rw[kl];cases s with
    |af u=>simpa [Spec.ok]using qM
    |rel p=>simp
   ·rw[if_neg e,aD t aM];have:g3 ops (up b i) t=g3 ops b t:=by
     unfold g3;congr 1;funext k;by_cases qj:k=i
     ·subst qj;have:writes ops t k=false:=by
       cases h:writes ops t k with
       |false=>rfl
       |true=>exact absurd (by simpa [writes,<-kQ]using h) e
      simp[this]
     ·rw[k5 qj]
    rw[this];cases nH:g3 ops b t with
    |none=>rfl
    |some j=>
     have c6:j≠i:=fun c=>by
      subst c;have:=(rD nH).2.1;rw[h4]at this;simp at this
     exact(kS j c6).symm
 ·intro b a w' iS I;have j1:∀j,j<ops.size->b j=true:=fun j ax=>iS j (by simp[ax]);cases eV:gK with
  |false=>
   rw[eV,Bool.false_and,if_neg (by simp)]at I;rw[eV]at ff;simp at ff;have:=final b a w' (fun j ax=>j1 j (by omega)) (fun j aj an=>by omega) I;rw[eV]at this;exact this
  |true=>
   rw[eV]at ff;simp at ff;rw[eV,Bool.true_and,j1 m (by omega),if_pos rfl]at I;exact I
theorem iQ{a0:Act}(D:Road)(is:List Nat)(E:Env l n a0)(hm:P.follows .mixedOrders=true)(fC:cR ops B n=true)(py:is=List.range ops.size)(cb:D.Ok ops.size B Vs w.drew)
  (aP:lS (iA P ops B l n Vs D Q) is)
  (ij:∀(x:Nat->Value) (a:Act) (w':World),(∃b:Nat->Bool,(∀j,j<ops.size->b j=true)/\D.I b w')->(∀j,j<ops.size->fq Vs x w' j)->Env (og ops l Vs x ops.size) n a->Q .normal a w'):(Code.region id ops true).wp P Q a0 w:=by
 subst py;simp only[cR,Bool.and_eq_true]at fC;exact F8 D false _ B Vs E hm U fC.1.1.1 fC.1.1.2 fC.1.2 fC.2 cb ops.size (by simp) (by simp) (lS.mem aP) fun x a w' aj an aB=>by rw[if_neg (by simp)];exact ij x a w' aj an aB
theorem rO{a0:Act}(D:Road)(is:List Nat)(m:Nat)(E:Env l n a0)(hm:P.follows .mixedOrders=true)(fC:cR ops B n=true)(ff:m+1=ops.size)(Bj:Lg B m=true)(py:is=List.range m)(cb:D.Ok ops.size B Vs w.drew)
  (aP:lS (iA P ops B l n Vs D Q) is)
  (ij:∀(x:Nat->Value) (a:Act) (w':World),(∃b:Nat->Bool,(∀j,j<m->b j=true)/\D.I b w')->(∀j,j<m->fq Vs x w' j)->Env (og ops l Vs x m) n a->j7 P ops Q m a w'):(Code.region id ops true).wp P Q a0 w:=by
 subst py;simp only[cR,Bool.and_eq_true]at fC;exact F8 D true _ B Vs E hm U fC.1.1.1 fC.1.1.2 fC.1.2 fC.2 cb m (by simpa using ff) (fun _ i hi=>List.all_eq_true.1 Bj i (List.mem_range.2 hi)) (lS.mem aP) fun x a w' aj an aB=>by rw[if_pos U];exact ij x a w' aj an aB
end
def fs(Fs:Nat->Nat->Prop)(w0:World):Road where
 mQ i w:=dc (fun g=>∃j,j≠i/\Fs j g) w0 w
 R i w w':=dc (Fs i) w w'
 I b w:=dc (fun g=>∃j,b j=true/\Fs j g) w0 w
def cJ(B0:Nat)(N:Nat->Prop):Spec->Prop
 | .af _=>True
 | .rel p=>∀(G:Nat->Prop) w w' v,(∀g,G g->N g)->B0<=w.heap.size->dc G w w'->p w v->p w' v
theorem H9{Fs:Nat->Nat->Prop}{N:Nat}{B:List Nat}{Vs:List Spec}{w0:World}(ll:Nat.ble Vs.length N=true)(aI:∀j s,Vs[j]? =some s->cJ w0.heap.size (fun g=>∃i,i≠j/\waits B j i=false/\Fs i g) s):(fs Fs w0).Ok N B Vs w0 where
 begin:=dc.refl _ _
 pre b i w ak _ _ h:=h.mono fun g _ ⟨j,aj,an⟩=>⟨j,fun e=>(by subst e;rw[ak]at aj;cases aj),an⟩
 step b i w w' ak _ _ h k:=(h.mono fun g _ ⟨j,aj,an⟩=>⟨j,(by unfold up;split<;>first|rfl|exact aj),an⟩).trans (k.mono fun g _ an=>⟨i,nX ..,an⟩)
 na i j p m3 hw aP w w' v hp ap aD:=aI j _ aP (Fs i) w w' v (fun g al=>⟨i,m3,hw (Nat.lt_of_lt_of_le (List.getElem?_eq_some_iff.1 aP).1 (Nat.le_of_ble_eq_true ll)),al⟩) hp.held.size ap aD
theorem Has.held{w w':World}{L:List az}{F:Nat->Prop}(h:Has w L)(H:gI F w w')(cG:∀g,aS L g->¬F g):Has w' L:=
 ⟨fun e he=>e.pS w w' (fun g al=>H.block g (h.lt e he g al) (cG g ⟨e,he,al⟩)) (h.gi e he),fun e he g al=>Nat.lt_of_lt_of_le (h.lt e he g al) H.size,h.apart⟩
def cL{α:Type}(B0:Nat)(ins:List az)(val:α->Value)(outs:α->List az)(p:α->Prop):Spec:=.rel fun w v=>∃x,v=val x/\Has w (outs x)/\(∀g,aS (outs x) g->aS ins g\/B0<=g)/\p x
theorem cJ.kG{α:Type}{B0:Nat}{N:Nat->Prop}{ins:List az}{val:α->Value}{outs:α->List az}{p:α->Prop}(aj:∀g,N g->g<B0)(an:∀g,N g->¬aS ins g):cJ B0 N (cL B0 ins val outs p):=fun G w w' v nD aL aJ ⟨x,gn,fY,a3,a4⟩=>
 ⟨x,gn,fY.held aJ.held fun g al ow=>(a3 g al).elim (an g (nD g ow)) fun h=>Nat.not_le_of_lt (aj g (nD g ow)) h,a3,a4⟩
section
variable{P:Program}{Q:Exit->Act->World->Prop}{l:List (Nat×Value)}{n:Nat}{w w0:World}{ops:Array Oper}{B:List Nat}{Vs:List Spec}{i:Nat}{Fs:Nat->Nat->Prop}{O:Nat->Prop}{I dJ:List az}{Φ:World->Prop}
theorem Mem.nP(M:Mem w0 O (I++dJ) Φ w)(lG:∀i g,Fs i g->aS I g){w':World}{q:Nat->Prop}(h:dc (fun g=>∃j,q j/\Fs j g) w.drew w'):Mem w0 O dJ Φ w':=by
 have aJ:dc (aS I) w w':=(dc.kW (bd.drew w)).trans (h.mono fun g _ ⟨j,_,ax⟩=>lG j g ax);exact M.call (outs:=[]) aJ (Has.nil _) fun g al=>(gQ al).elim
theorem Has.nP{J:List az}(H:Has w J){w':World}(h:dc (fun g=>∃j,j≠i/\Fs j g) w.drew w')(u4:∀j,j≠i->∀g,Fs j g->¬aS J g):Has w' J:=
 (H.ext (bd.drew w)).held h.held fun g al ⟨j,aj,an⟩=>u4 j aj g an al
theorem AS{o:Oper}{s:Spec}(aF:ops[i]? =some o)(aP:Vs[i]? =some s)(M:Mem w0 O (I++dJ) Φ w)(lG:∀i g,Fs i g->aS I g)
  (h:∀(x:Nat->Value) (w':World),Mem w0 O dJ Φ w'->w.heap.size<=w'.heap.size->(∀j,waits B i j=true->fq Vs x w' j)->∃v dY,dp (cg ops B l Vs x i) o=true/\dg ops (cg ops B l Vs x i) o=true/\dh ops (cg ops B l Vs x i) o=true/\
   (execOp (cf (cg ops B l Vs x i)) o).run P w'=.ok (.value v) dY/\bd w' dY/\s.ok dY v):iA P ops B l n Vs (fs Fs w.drew) Q i:=by
 intro x a w' ad ab E;obtain⟨v,dY,aj,an,aB,be,bZ,dZ⟩:=h x w' (M.nP lG ad) ad.held.size ab;refine⟨o,s,aF,aP,fun K cY=>?_⟩;rw[E.wanted an,if_pos aB];unfold Oper.wp;rw[E.exec aj,be];exact cY v dY (dc.kW bZ) dZ
theorem h2{o:Oper}(aF:ops[i]? =some o)(aP:Vs[i]? =some (.af undef))
  (h:∀(x:Nat->Value),dg ops (cg ops B l Vs x i) o=true/\dh ops (cg ops B l Vs x i) o=false):iA P ops B l n Vs (fs Fs w.drew) Q i:=by
 intro x a w' ad ab E;obtain⟨an,aB⟩:=h x;refine⟨o,.af undef,aF,aP,fun K cY=>?_⟩;rw[E.wanted an,if_neg (by simp[aB])];exact cY undef w' (dc.refl _ _) U
theorem nC{o:Oper}{s:Spec}(aF:ops[i]? =some o)(aP:Vs[i]? =some s)(M:Mem w0 O (I++dJ) Φ w)(lG:∀i g,Fs i g->aS I g)
  (h:∀(x:Nat->Value) (w':World),Mem w0 O dJ Φ w'->w.heap.size<=w'.heap.size->(∀j,waits B i j=true->fq Vs x w' j)->∃f args,dp (cg ops B l Vs x i) o=true/\dg ops (cg ops B l Vs x i) o=true/\dh ops (cg ops B l Vs x i) o=true/\
   (execOp (cf (cg ops B l Vs x i)) o).run P w'=.ok (.enter f args) w'/\rp P f args w' s):iA P ops B l n Vs (fs Fs w.drew) Q i:=by
 intro x a w' ad ab E;obtain⟨f,args,aj,an,aB,be,bZ⟩:=h x w' (M.nP lG ad) ad.held.size ab;refine⟨o,s,aF,aP,fun K cY=>?_⟩;rw[E.wanted an,if_pos aB];unfold Oper.wp;rw[E.exec aj,be,Oper.upon_enter];refine bZ.mono ?_;rintro e dY ⟨v,rfl,jA,aD⟩;exact cY v dY (dc.kW jA) aD
theorem xC{o:Oper}{s:Spec}{J:List az}(aF:ops[i]? =some o)(aP:Vs[i]? =some s)(M:Mem w0 O (I++dJ) Φ w)(lG:∀i g,Fs i g->aS I g)(H:Has w J)(u4:∀j,j≠i->∀g,Fs j g->¬aS J g)
  (h:∀(x:Nat->Value) (w':World),Mem w0 O dJ Φ w'->Has w' J->w.heap.size<=w'.heap.size->(∀j,waits B i j=true->fq Vs x w' j)->∃v dY,dp (cg ops B l Vs x i) o=true/\dg ops (cg ops B l Vs x i) o=true/\dh ops (cg ops B l Vs x i) o=true/\
   (execOp (cf (cg ops B l Vs x i)) o).run P w'=.ok (.value v) dY/\dc (Fs i) w' dY/\s.ok dY v):iA P ops B l n Vs (fs Fs w.drew) Q i:=by
 intro x a w' ad ab E;obtain⟨v,dY,aj,an,aB,be,bZ,dZ⟩:=h x w' (M.nP lG ad) (H.nP ad u4) ad.held.size ab;refine⟨o,s,aF,aP,fun K cY=>?_⟩;rw[E.wanted an,if_pos aB];unfold Oper.wp;rw[E.exec aj,be];exact cY v dY bZ dZ
theorem AR{o:Oper}{s:Spec}{J:List az}(aF:ops[i]? =some o)(aP:Vs[i]? =some s)(M:Mem w0 O (I++dJ) Φ w)(lG:∀i g,Fs i g->aS I g)(H:Has w J)(u4:∀j,j≠i->∀g,Fs j g->¬aS J g)
  (h:∀(x:Nat->Value) (w':World),Mem w0 O dJ Φ w'->Has w' J->w.heap.size<=w'.heap.size->(∀j,waits B i j=true->fq Vs x w' j)->∃f args,dp (cg ops B l Vs x i) o=true/\dg ops (cg ops B l Vs x i) o=true/\dh ops (cg ops B l Vs x i) o=true/\
   (execOp (cf (cg ops B l Vs x i)) o).run P w'=.ok (.enter f args) w'/\Calls P f args w' fun e dY=>∃v,e=.returned v/\dc (Fs i) w' dY/\s.ok dY v):iA P ops B l n Vs (fs Fs w.drew) Q i:=by
 intro x a w' ad ab E;obtain⟨f,args,aj,an,aB,be,bZ⟩:=h x w' (M.nP lG ad) (H.nP ad u4) ad.held.size ab;refine⟨o,s,aF,aP,fun K cY=>?_⟩;rw[E.wanted an,if_pos aB];unfold Oper.wp;rw[E.exec aj,be,Oper.upon_enter];refine bZ.mono ?_;rintro e dY ⟨v,rfl,jA,aD⟩;exact cY v dY jA aD
theorem aY.own{α:Type}{f:FuncId}{args:List Value}{ins:List az}{val:α->Value}{outs:α->List az}{p:α->Prop}{B0:Nat}(h:aY P f args w ins val outs p)(aL:B0<=w.heap.size)(cG:∀g,aS ins g->Fs i g):Calls P f args.toArray w fun e dY=>∃v,e=.returned v/\dc (Fs i) w dY/\(cL B0 ins val outs p).ok dY v:=
 h.mono fun oe w' ⟨x,aj,an,aB,be,bZ⟩=>⟨_,aj,an.mono fun g _ al=>cG g al,x,rfl,aB,fun g al=>(be g al).imp id fun h=>Nat.le_trans aL h,bZ⟩
end
def ga(c:Nat)(J:List az):Nat->Nat->Prop:=fun j g=>j=c/\aS J g
theorem cJ.mono{B0:Nat}{N DL:Nat->Prop}{s:Spec}(h:cJ B0 N s)(a6:∀g,DL g->N g):cJ B0 DL s:=by
 cases s with
 |af v=>trivial
 |rel p=>exact fun G w w' v nD=>h G w w' v fun g al=>a6 g (nD g al)
theorem cJ.fJ{α:Type}{B0:Nat}{ins:List az}{val:α->Value}{outs:α->List az}{p:α->Prop}:cJ B0 (fun _=>False) (cL B0 ins val outs p):=cJ.kG (fun g h=>h.elim) fun g h=>h.elim
def nq(B0 sz n:Nat)(xs:List Value):Spec:=.rel fun w v=>Reads sz w v n xs/\∀g,v.ownBlock=some g->B0<=g
theorem cJ.oD{B0 sz n:Nat}{xs:List Value}{N:Nat->Prop}(aj:∀g,N g->g<B0):cJ B0 N (nq B0 sz n xs):=fun G w w' v nD aL aJ ⟨gn,fY⟩=>
 ⟨gn.held aJ.held fun g al ow=>Nat.not_le_of_lt (aj g (nD g ow)) (fY g al),fY⟩
section
variable{P:Program}{Q:Exit->Act->World->Prop}{l:List (Nat×Value)}{n:Nat}{w w0:World}{ops:Array Oper}{B:List Nat}{Vs:List Spec}{i c:Nat}{O:Nat->Prop}{J dJ:List az}{Φ:World->Prop}
theorem Mem.gA(M:Mem w0 O (J++dJ) Φ w):∀g,aS J g->g<w.heap.size:=fun g ⟨e,he,al⟩=>M.lt e (List.mem_append_left _ he) g al
theorem Mem.front(M:Mem w0 O (J++dJ) Φ w):Has w J:=(M.has).sub (List.sublist_append_left _ _)
theorem Mem.behind{α:Type}{val:α->Value}{outs:α->List az}{p:α->Prop}{b:Nat->Bool}{w':World}{v:Value}(M:Mem w0 O (J++dJ) Φ w)(h:(fs (ga c J) w.drew).I b w')(ab:(match cL w.heap.size J val outs p with| .rel q=>q w' v| .af _=>False)):∃x,v=val x/\p x/\Mem w0 O (outs x++dJ) Φ w':=by
 obtain⟨x,aj,an,aB,be⟩:=ab;have aJ:dc (aS J) w w':=(dc.kW (bd.drew w)).trans (dc.mono h fun g _ ⟨j,_,ax⟩=>ax.2);exact⟨x,aj,be,M.call aJ an aB⟩
theorem m0{o:Oper}{t dP e bV:TypeId}{X Y:Operand}{sz bytes k m:Nat}{v y:Value}{xs news:List Value}{args:List Operand}{b7:List TypeId}(aF:ops[i]? =some o)(aP:Vs[i]? =some (cL w.heap.size [.row e sz v k xs] (fun v:Value=>v) (fun bR=>[.row e sz bR (k+m) (xs++news)]) (fun _=>True)))
  (M:Mem w0 O ([.row e sz v k xs]++dJ) Φ w) (lH:o.op=.call {callee:=.builtin .append,args:=args.toArray,argTypes:=b7.toArray}) (bm:args=[X,Y]) (fp:b7=[t,dP]) (aM:dN P t e=true) (h6:dN P dP bV=true) (au:hl P e sz=true) (ak:hk P e bytes=true) (hd:0<sz) (aj:∀u∈news,u.oneCell'=true) (g1:(k+m)*(bytes+1)<=140737488355328)
  (h:∀(x:Nat->Value) (w':World),(∀j,waits B i j=true->fq Vs x w' j)->dp (cg ops B l Vs x i) o=true/\dg ops (cg ops B l Vs x i) o=true/\dh ops (cg ops B l Vs x i) o=true/\cf (cg ops B l Vs x i) X=v/\∃y,cf (cg ops B l Vs x i) Y=y/\Reads sz w' y m news):
  iA P ops B l n Vs (fs (ga i [.row e sz v k xs]) w.drew) Q i:=by
 refine xC (J:=[.row e sz v k xs]) aF aP M (fun j g ax=>ax.2) M.front (fun j ax g mr=>absurd mr.1 ax) fun x w' aA c4 aL ab=>?_;obtain⟨ju,lD,mX,oc,y,od,qe⟩:=h x w' ab;obtain⟨bR,dY,pL,pM,iv,pN⟩:=vW (P:=P) lH bm fp oc od aM h6 au ak hd (c4.dG 0 rfl) qe aj g1;refine⟨bR,dY,ju,lD,mX,pL,⟨iv.os,iv.tape,iv.output,⟨iv.size,fun g al a6=>iv.block g al (fun he=>a6 ⟨U,g9.2 (by simp[az.row,<-he])⟩)⟩⟩,bR,U,⟨fun x ad=>by simp at ad;subst ad;exact pM,fun x ad g al=>?_,List.pairwise_singleton _ _⟩,fun g al=>?_,trivial⟩
 ·simp at ad;subst ad;have dq:bR.ownBlock=some g:=by simpa [az.row]using al
  rcases pM.2 with⟨rfl,_⟩|⟨cF,cap,dz,rfl,_,dZ,_⟩
  ·simp[Value.ownBlock]at dq
  ·simp[Value.ownBlock]at dq;subst dq;exact(Array.getElem?_eq_some_iff.1 dZ).1
 ·have dq:bR.ownBlock=some g:=by simpa [az.row,g9]using al
  exact(pN g dq).imp (fun h=>g9.2 (by simp[az.row,h])) fun h=>Nat.le_trans aL h
end
section
variable{P:Program}{ρ:Operand->Value}{o:Oper}{w:World}{t e:TypeId}
theorem vJ{cs:Array Value}{n sz:Nat}(aP:cs.size=n*sz)(a6:n<=maxLen):Reads sz (w.alloc (.cells cs e)) (.slice (some ⟨w.heap.size,0,none⟩) n n) n cs.toList:=
 yB (w:=w.alloc (.cells cs e)) (g:=w.heap.size) (T:=e) (fr:=(0,0)) (by show(w.heap.push _)[w.heap.size]? =_;simp) aP a6
theorem BA{n:Nat}:∀g,(Value.slice (some ⟨w.heap.size,0,none⟩) n n).ownBlock=some g->w.heap.size<=g:=fun g al=>by
 simp[Value.ownBlock]at al;omega
theorem yc{X Y:Operand}{bM oA:IntKind}{k:Nat}{x y:Int}(aF:o.op=.makeSlice t X Y)(bS:ρ X=.int bM x)(du:ρ Y=.int oA y)(ad:x=k)(bn:y=k)(aM:dN P t e=true)(au:hl P e 1=true)(eG:(zeroOf P e).map (·.cells)=some #[.int .u8 0])(ak:hk P e 1=true)(g1:k<=70368744177664):
  ∃v w',(execOp ρ o).run P w=.ok (.value v) w'/\bd w w'/\Bytes w' v (List.replicate k 0):=by
 obtain⟨cs,fo,ap,i,u,hi,hu,rfl⟩:=Ce (P:=P) (w:=w) aF bS du ad bn aM au ak (Nat.le_refl k) (by omega);have qN:u.cells= #[.int .u8 0]:=by simpa [zeroOf,hi,hu]using eG
 refine⟨_,_,ap,bd.alloc _ _,?_⟩;have:=vJ (w:=w) (e:=e) fo (by simp only[maxLen];omega);rw[qN,Nat.mul_one,By]at this;have cz:ao (List.replicate k 0)=List.replicate k (.int .u8 0):=by simp[ao]
 unfold Bytes;rw[List.length_replicate,cz]
 rwa [qN,Nat.mul_one]
theorem Pw{n:Nat}{ps:List (Nat×Operand)}{vs:List Value}{z:List Value}(aF:o.op=.buildSlice t n ps.toArray)(aD:ps.map (fun p=>(p.1,ρ p.2))=(vs.zipIdx 0).map fun x=>(x.2,x.1))(a6:vs.length=n)(aM:dN P t e=true)(aP:eS P e 1=true)(au:(zeroOf P e).map (·.cells.toList)=some z)(kT:z.length=1)
  (aj:∀u∈vs,u.oneCell'=true) (hm:Nat.ble n 4194304=true) (bG:Nat.blt 0 n=true):∃v w',(execOp ρ o).run P w=.ok (.value v) w'/\bd w w'/\Reads 1 w' v n vs:=by
 have Sy:=Nat.le_of_ble_eq_true hm;have cz:vs.map (·.cells.size)=List.replicate n 1:=by
  rw[<-a6];exact List.eq_replicate_iff.2 ⟨by simp,fun b ak=>by
   obtain⟨u,hu,rfl⟩:=List.mem_map.1 ak;simp[o9 (aj u hu)]⟩
 have c6:(vs.map (·.cells.toList)).flatten=vs:=by
  clear a6 aD cz
  induction vs with
  |nil=>rfl
  |cons u r ck=>simp[o9 (aj u (List.mem_cons_self ..)),ck fun x ad=>aj x (List.mem_cons_of_mem _ ad)]
 have ap:=ev (w:=w) (us:=vs) aF aD a6 aM aP au kT cz (by simp;omega) (by simpa using bG) c6;exact⟨_,_,ap,bd.alloc _ _,vJ (by simp[a6]) (by simp only[maxLen];omega)⟩
end
end
section
open Go.RowKit
def DC(L:List az):Prop:=L.Pairwise fun e bV=>∀g∈e.et,g∉bV.et
def az.all(L:List az):az:=⟨L.flatMap (·.et),fun w=>(∀e∈L,e.ok w)/\DC L,fun w w' h k=>⟨fun e he=>e.pS w w' (fun g al=>h g (List.mem_flatMap.2 ⟨e,he,al⟩)) (k.1 e he),k.2⟩⟩
theorem Ek:∀{L:List az},(L.flatMap (·.et)).Nodup->DC L
 |[],_=>List.Pairwise.nil
 |e::r,h=>by
  rw[List.flatMap_cons,List.nodup_append]at h;exact List.pairwise_cons.2 ⟨fun bV he g al dq=>h.2.2 g al g (List.mem_flatMap.2 ⟨bV,he,dq⟩) U,Ek h.2.1⟩
section
variable{w0 w w':World}{O:Nat->Prop}{L A R ins outs:List az}{Φ:World->Prop}{g:Nat}
theorem az.kq:g∈(az.all L).et↔aS L g:=List.mem_flatMap
theorem uP:aS (az.all A::R) g↔aS (A++R) g:=by
 rw[hN];constructor
 ·rintro⟨e,he,al⟩;rcases List.mem_cons.1 he with rfl|he
  ·exact .inl (az.kq.1 al)
  ·exact .inr ⟨e,he,al⟩
 ·rintro(h|⟨e,he,al⟩)
  ·exact⟨_,List.mem_cons_self ..,az.kq.2 h⟩
  ·exact⟨e,List.mem_cons_of_mem _ he,al⟩
theorem xn:aS [az.all A] g↔aS A g:=by rw[uP,List.append_nil]
theorem Qb{B:List az}:aS (B++[az.all A]) g↔aS (B++A) g:=by rw[hN,hN,xn]
theorem Mem.pack(M:Mem w0 O (A++R) Φ w):Mem w0 O (az.all A::R) Φ w:=by
 have hp:=List.pairwise_append.1 M.apart;refine M.swap (.refl _ _) (fun e he=>?_) (fun e he g al=>?_) (fun e he g al=>?_) (List.pairwise_cons.2 ⟨fun e he g al dq=>?_,hp.2.1⟩)
 ·rcases List.mem_cons.1 he with rfl|he
  ·exact⟨fun e he=>M.gi e (List.mem_append_left _ he),hp.1⟩
  ·exact M.gi e (List.mem_append_right _ he)
 ·obtain⟨x,ad,pw⟩:=uP.1 ⟨e,he,al⟩;exact M.lt x ad g pw
 ·exact .inl (uP.1 ⟨e,he,al⟩)
 ·obtain⟨x,ad,pw⟩:=az.kq.1 al;exact hp.2.2 x ad e he g pw dq
theorem Mem.unpack(M:Mem w0 O (az.all A::R) Φ w):Mem w0 O (A++R) Φ w:=by
 have hp:=List.pairwise_cons.1 M.apart;have bm:(az.all A).ok w:=M.gi _ (List.mem_cons_self ..);refine M.swap (.refl _ _) (fun e he=>?_) (fun e he g al=>?_) (fun e he g al=>?_) (List.pairwise_append.2 ⟨bm.2,hp.2,fun a h b ak g al dq=>?_⟩)
 ·rcases List.mem_append.1 he with he|he
  ·exact bm.1 e he
  ·exact M.gi e (List.mem_cons_of_mem _ he)
 ·obtain⟨x,ad,pw⟩:=uP.2 ⟨e,he,al⟩;exact M.lt x ad g pw
 ·exact .inl (uP.2 ⟨e,he,al⟩)
 ·exact hp.1 b ak g (az.kq.2 ⟨a,h,al⟩) dq
theorem Has.mem(h:Has w L):Mem w (aS L) L (fun _=>True) w:=Mem.begin h fun _ _=>trivial
theorem Has.unpack(h:Has w (az.all A::R)):Has w (A++R):=h.mem.unpack.has
theorem Has.pack(h:Has w (A++R)):Has w (az.all A::R):=h.mem.pack.has
theorem Has.hL(h:Has w [az.all A]):Has w A:=by
 have:=h.unpack
 rwa [List.append_nil]at this
theorem Has.perm{L':List az}(h:Has w L)(hp:L'.Perm L):Has w L':=(h.mem.perm hp).has
theorem Has.UU{B:List az}(h:Has w (B++A)):Has w (B++[az.all A]):=by
 have aj:Has w (A++B):=h.perm List.perm_append_comm;exact aj.pack.perm (List.perm_append_comm (l₁:=B) (l₂:=[az.all A]))
end
section
variable{α β:Type}{P:Program}{f:FuncId}{args:List Value}{w:World}{ins A:List az}{val:α->Value}{outs:α->List az}{p:α->Prop}
theorem aY.packed{B C:β->List az}{sF:β->Value}{q:β->Prop}(h:Has w A->aY P f args w A val outs p)(H:Has w [az.all A])(k:∀x,p x->∃y,val x=sF y/\outs x=B y++C y/\q y):aY P f args w [az.all A] sF (fun y=>B y++[az.all (C y)]) q:=
 (h H.hL).mono fun oe w' ⟨x,aj,an,aB,be,bZ⟩=>by
  obtain⟨y,gk,hQ,vE⟩:=k x bZ;rw[hQ]at aB be;exact⟨y,by rw[aj,gk],an.mono fun g _ al=>xn.2 al,aB.UU,fun g al=>(be g (Qb.1 al)).imp xn.2 id,vE⟩
end
end
section
open Go.RowKit
def rh(P:Program)(T:TypeId)(name:String)(f:Nat):Bool:=match P.info? T with
 |some i=>(match i.methods.find? (·.name==name)with
  |some m=>m.path.isEmpty&&(match m.func with|some (g,true)=>Nat.beq g f|_=>false)
  |none=>false)&&(match P.underlying T with|some (.pointer _)=>true|_=>false)
 |none=>false
section
variable{P:Program}{w:World}
theorem K7{T:TypeId}{name:String}{f:Nat}(h:rh P T name f=true):∃i m el,P.info? T=some i/\i.methods.find? (·.name==name)=some m/\m.path.toList=[]/\m.path.isEmpty=true/\m.func=some (f,true)/\P.underlying T=some (.pointer el):=by
 unfold rh at h;split at h
 ·rename_i i hi;rw[Bool.and_eq_true]at h;obtain⟨aj,an⟩:=h;split at aj
  ·rename_i m hm;rw[Bool.and_eq_true]at aj;obtain⟨aB,be⟩:=aj;split at be
   ·rename_i g al;have e:=Nat.eq_of_beq_eq_true be;subst e;split at an
    ·rename_i el vf;exact⟨i,m,el,hi,hm,by simpa using aB,aB,al,vf⟩
    ·cases an
   ·cases be
  ·cases aj
 ·cases h
theorem Rh{f:FuncId}{args:Array Value}(bu:bO P f=true):(callFunc f args).run P w=.ok (.enter f args) w:=by
 unfold bO at bu;cases h:P.funcs[f]? with
 |none=>rw[h]at bu;cases bu
 |some fn=>
  rw[h]at bu;simp only[Bool.and_eq_true,Bool.not_eq_true']at bu;obtain⟨aj,an⟩:=bu;have aB:¬fn.body=none:=by cases ak:fn.body<;>simp_all
  have be:¬fn.name= "runtime.NumGoroutine" :=by simpa using an
  simp[callFunc,h,be,aB,program,Sem.run]
theorem tM{ρ:Operand->Value}{o:Oper}{x:Operand}{name:String}{args:List Operand}{b7:Array TypeId}{T f:Nat}{ns:Addr}(aF:o.op=.call {callee:=.invoke x name,args:=args.toArray,argTypes:=b7})(ad:ρ x=.iface T (.pointer (some ns)))(hm:rh P T name f=true)(al:bO P f=true):
  (execOp ρ o).run P w=.ok (.enter f (.pointer (some ns)::args.map ρ).toArray) w:=by
 obtain⟨i,m,el,bQ,cF,gR,lF,u0,xD⟩:=K7 hm;have SB:∀n,(method (n+1) T (.pointer (some ns)) name).run P w=.ok (f,.pointer (some ns)) w:=fun n=>by
  unfold method;simp[typeInfo,bQ,cF,gR,lF,follow,u0,receiverAt,run_underlying xD,Place.get]
 have rV:∃n,P.types.size+Made.depth=n+1:=⟨P.types.size+Made.depth-1,by simp[Made.depth]⟩
 obtain⟨n,rV⟩:=rV;have Sd:=Rh (P:=P) (w:=w) (args:= #[.pointer (some ns)]++(args.map ρ).toArray) al;have hy:(callMethod (.iface T (.pointer (some ns))) name (args.map ρ).toArray).run P w=.ok (.enter f (.pointer (some ns)::args.map ρ).toArray) w:=by
  simp only[callMethod,Sem.run_bind];simp[rV,SB n];simpa using Sd
 have R4:(#[ρ x]++args.toArray.map ρ)[0]? =some (ρ x):=by simp
 simp only[execOp,aF,resolve,Sem.run_bind,Sem.run_pure,Result.andThen_ok,invoke];have aM:(args.map ρ).take args.length=args.map ρ:=List.take_of_length_le (by simp);simp[ad];rw[aM];exact hy
theorem tN{ρ:Operand->Value}{o:Oper}{x:Operand}{oE:String}{v:Value}(aF:o.op=.makeFunc (.method oE) #[x] #[])(ad:ρ x=v):(execOp ρ o).run P w=.ok (.value (.func (.method oE) #[v] #[])) w:=by
 subst ad;simp[execOp,aF,Instr.makeFunc]
theorem tP{ρ:Operand->Value}{o:Oper}{x:Operand}{oE:String}{T f:Nat}{ns:Addr}(aF:o.op=.nilCheck x)(ad:ρ x=.func (.method oE) #[.iface T (.pointer (some ns))] #[])(aM:rh P T oE f=true):(execOp ρ o).run P w=.ok (.value (.func (.method oE) #[.iface T (.pointer (some ns))] #[])) w:=by
 obtain⟨i,m,el,bQ,cF,gR,lF,u0,xD⟩:=K7 aM;have SC:∀n,(nilAhead (n+1) T (.pointer (some ns)) oE).run P w=.ok (some false) w:=fun n=>by
  unfold nilAhead;simp[typeInfo,bQ,cF,gR,followBlind,u0]
 have rV:∃n,P.types.size+Made.depth=n+1:=⟨P.types.size+Made.depth-1,by simp[Made.depth]⟩
 obtain⟨n,rV⟩:=rV;simp only[execOp,aF,ad,Sem.run_bind];simp[rV,SC n]
theorem tO{ρ:Operand->Value}{o:Oper}{X:Operand}{v:Value}(aF:o.op=.move X)(bS:ρ X=v):(execOp ρ o).run P w=.ok (.value v) w:=by simp[execOp,aF,bS]
theorem ku{ρ:Operand->Value}{o:Oper}{X:Operand}{v:Value}(aF:o.op=.assign X)(bS:ρ X=v):(execOp ρ o).run P w=.ok (.value v) w:=by simp[execOp,aF,bS]
theorem nf{ρ:Operand->Value}{o:Oper}{X:Operand}{i:Nat}{vs:Array Value}{v:Value}(aF:o.op=.extract X i)(bS:ρ X=.tuple vs)(aD:vs[i]? =some v):(execOp ρ o).run P w=.ok (.value v) w:=by
 simp[execOp,aF,bS,Instr.extract,aD]
end
theorem Bytes.one{w:World}{v:Value}{l:List UInt8}(h:Bytes w v l):v.oneCell'=true:=by
 obtain⟨b,c,rfl⟩:=Reads.slice h;rfl
theorem Ey{P:Program}{ρ:Operand->Value}{o:Oper}{w:World}{t e:TypeId}{X:Operand}{sz B0:Nat}{cs z:List Value}(aL:B0<=w.heap.size)(aF:o.op=.buildSlice t 1 #[(0,X)])(bS:ρ X=.agg cs.toArray)(aJ:cs.length=sz)(aM:dN P t e=true)(aP:eS P e sz=true)(au:(zeroOf P e).map (·.cells.toList)=some z)(kT:z.length=sz)
  (hm:Nat.ble sz 16777216=true) (bG:Nat.blt 0 sz=true):∃v w',(execOp ρ o).run P w=.ok (.value v) w'/\bd w w'/\(Reads sz w' v 1 cs/\∀g,v.ownBlock=some g->B0<=g):=by
 have ap:=ev (P:=P) (ρ:=ρ) (w:=w) (ps:=[(0,X)]) (vs:=[.agg cs.toArray]) (us:=cs) aF (by simp[bS]) rfl aM aP au kT (by simp[Value.cells,aJ]) (by simpa using hm) (by simpa using bG) (by simp[Value.cells]);refine⟨_,_,ap,bd.alloc _ _,?_,fun g al=>Nat.le_trans aL (BA g al)⟩;have:=vJ (w:=w) (e:=e) (cs:=cs.toArray) (n:=1) (sz:=sz) (by simp[aJ]) (by decide);simpa using this
def mS(w:World)(v:Value)(ls:List (List UInt8)):Prop:=∃ps:List (Value×List UInt8),ps.map (·.2)=ls/\Reads 1 w v ps.length (ps.map (·.1))/\∀q∈ps,Bytes w q.1 q.2
theorem mS.ext{w w':World}{v:Value}{ls:List (List UInt8)}(h:mS w v ls)(ad:bd w w'):mS w' v ls:=by
 obtain⟨ps,aj,an,aB⟩:=h;exact⟨ps,aj,Reads.ext an ad,fun q bE=>Reads.ext (aB q bE) ad⟩
theorem zS{P:Program}{ρ:Operand->Value}{o:Oper}{w:World}{t e:TypeId}{X:Operand}{b:UInt8}{z:List Value}{B0:Nat}(aL:B0<=w.heap.size)(aF:o.op=.buildSlice t 1 #[(0,X)])(bS:ρ X=.int .u8 (b.toNat:Int))(aM:dN P t e=true)(aP:eS P e 1=true)(au:(zeroOf P e).map (·.cells.toList)=some z)(kT:z.length=1):∃v w',(execOp ρ o).run P w=.ok (.value v) w'/\bd w w'/\(Bytes w' v [b]/\∀g,v.ownBlock=some g->B0<=g):=by
 have ap:=ev (P:=P) (ρ:=ρ) (w:=w) (ps:=[(0,X)]) (vs:=[.int .u8 (b.toNat:Int)]) (us:=[.int .u8 (b.toNat:Int)]) aF (by simp[bS]) rfl aM aP au kT (by simp[Value.cells]) rfl rfl (by simp[Value.cells]);exact⟨_,_,ap,bd.alloc _ _,vJ (w:=w) (e:=e) (cs:= #[.int .u8 (b.toNat:Int)]) (n:=1) (sz:=1) U (by decide),fun g al=>Nat.le_trans aL (BA g al)⟩
theorem vU{P:Program}{ρ:Operand->Value}{o:Oper}{w:World}{t e:TypeId}{n:Nat}{ps:List (Nat×Operand)}{z:List Value}{ls:List (List UInt8)}(qs:List (Value×List UInt8))(aF:o.op=.buildSlice t n ps.toArray)(aD:ps.map (fun p=>(p.1,ρ p.2))=((qs.map (·.1)).zipIdx 0).map fun x=>(x.2,x.1))(a6:qs.length=n)(aI:qs.map (·.2)=ls)(aM:dN P t e=true)(aP:eS P e 1=true)(au:(zeroOf P e).map (·.cells.toList)=some z)(kT:z.length=1)
  (ak:∀q∈qs,Bytes w q.1 q.2) (hm:Nat.ble n 4194304=true) (bG:Nat.blt 0 n=true):∃v w',(execOp ρ o).run P w=.ok (.value v) w'/\bd w w'/\mS w' v ls:=by
 subst a6;obtain⟨v,w',aj,an,aB⟩:=Pw (P:=P) (w:=w) (vs:=qs.map (·.1)) aF aD (by simp) aM aP au kT (fun u hu=>by obtain⟨q,bE,rfl⟩:=List.mem_map.1 hu;exact(ak q bE).one) hm bG;exact⟨v,w',aj,an,qs,aI,aB,fun q bE=>(ak q bE).ext an⟩
theorem B9{w:World}{a b:Value}{x y:List UInt8}(aj:Bytes w a x)(an:Bytes w b y):∀q∈[(a,x),(b,y)],Bytes w q.1 q.2:=fun q bE=>by
 simp only[List.mem_cons,List.not_mem_nil,or_false]at bE;rcases bE with rfl|rfl<;>assumption
theorem IF{w:World}{a b c:Value}{x y z:List UInt8}(aj:Bytes w a x)(an:Bytes w b y)(aB:Bytes w c z):∀q∈[(a,x),(b,y),(c,z)],Bytes w q.1 q.2:=fun q bE=>by
 simp only[List.mem_cons,List.not_mem_nil,or_false]at bE;rcases bE with rfl|rfl|rfl<;>assumption
theorem Mem.off{w0 w:World}{O:Nat->Prop}{L:List az}{Φ:World->Prop}{e:az}{i j sz n:Nat}{t:TypeId}{v:Value}{xs:List Value}(M:Mem w0 O L Φ w)(hi:L[i]? =some e)(ax:L[j]? =some (.row t sz v n xs))(m3:Nat.beq i j=false):∀g,v.ownBlock=some g->g∉e.et:=fun g al aJ=>by
 have eP:i≠j:=fun c=>by subst c;rw[Nat.beq_refl]at m3;cases m3
 obtain⟨GA,Sr⟩:=List.getElem?_eq_some_iff.1 hi;obtain⟨qI,hc⟩:=List.getElem?_eq_some_iff.1 ax;have hp:=List.pairwise_iff_getElem.1 M.apart;have dq:g∈(L[j]).et:=by rw[hc];simp[az.row,al]
 have Gp:g∈(L[i]).et:=by rw[Sr];exact aJ
 rcases Nat.lt_or_gt_of_ne eP with h|h
 ·exact hp i j GA qI h g Gp dq
 ·exact hp j i qI GA h g dq Gp
theorem Mem.u7{w0 w:World}{O:Nat->Prop}{L:List az}{Φ:World->Prop}{e:az}{i:Nat}(M:Mem w0 O L Φ w)(hi:L[i]? =some e):Has w [e]:=M.has.sub (List.singleton_sublist.2 (List.mem_of_getElem? hi))
section
variable{α:Type}{P:Program}{Q:Exit->Act->World->Prop}{l:List (Nat×Value)}{n:Nat}{w w0:World}{ops:Array Oper}{B:List Nat}{Vs:List Spec}{i j B0:Nat}{J:List az}{val sF:α->Value}{outs:α->List az}{p:α->Prop}
theorem h3{o:Oper}{q:World->Value->Prop}(aF:ops[i]? =some o)(aP:Vs[i]? =some (.rel q))
  (h:∀(x:Nat->Value) (w:World),bd w0 w->(∀j,waits B i j=true->fq Vs x w j)->dp (cg ops B l Vs x i) o=true/\dg ops (cg ops B l Vs x i) o=true/\dh ops (cg ops B l Vs x i) o=true/\
   ∃v w',(execOp (cf (cg ops B l Vs x i)) o).run P w=.ok (.value v) w'/\bd w w'/\q w' v):mh P ops B l n Vs w0 Q i:=
 jd aF aP fun x w ad ab=>by
  obtain⟨aj,an,aB,v,w',be,bZ,dZ⟩:=h x w ad ab;exact⟨v,w',aj,an,aB,be,bZ,dZ⟩
theorem lk{o:Oper}(aF:ops[i]? =some o)(aP:Vs[i]? =some (cL B0 J sF outs p))(ax:Vs[j]? =some (cL B0 J val outs p))(hw:waits B i j=true)
  (h:∀(x:Nat->Value) (w:World) (y:α),x j=val y->dp (cg ops B l Vs x i) o=true/\dg ops (cg ops B l Vs x i) o=true/\dh ops (cg ops B l Vs x i) o=true/\(execOp (cf (cg ops B l Vs x i)) o).run P w=.ok (.value (sF y)) w):mh P ops B l n Vs w0 Q i:=
 jd aF aP fun x w ad ab=>by
  have k:=ab j hw;unfold fq at k;rw[ax]at k;obtain⟨y,gk,hQ⟩:=k;obtain⟨aj,an,aB,be⟩:=h x w y gk;exact⟨_,_,aj,an,aB,be,bd.refl _,y,U,hQ⟩
theorem uZ{o:Oper}{v:Value}(aF:ops[i]? =some o)(aP:Vs[i]? =some (.af v))(ax:Vs[j]? =some (cL B0 J val outs p))(hw:waits B i j=true)
  (h:∀(x:Nat->Value) (w:World) (y:α),x j=val y->dp (cg ops B l Vs x i) o=true/\dg ops (cg ops B l Vs x i) o=true/\dh ops (cg ops B l Vs x i) o=true/\(execOp (cf (cg ops B l Vs x i)) o).run P w=.ok (.value v) w):mh P ops B l n Vs w0 Q i:=
 jd aF aP fun x w ad ab=>by
  have k:=ab j hw;unfold fq at k;rw[ax]at k;obtain⟨y,gk,hQ⟩:=k;obtain⟨aj,an,aB,be⟩:=h x w y gk;exact⟨_,_,aj,an,aB,be,bd.refl _,U⟩
theorem cJ.df{N:Nat->Prop}{outs:Value->List az}{p:Value->Prop}(aj:∀g,N g->g<B0):cJ B0 N (cV B0 outs p):=fun G w w' v nD aL aJ ⟨gn,fY,a3⟩=>⟨gn.held aJ.held fun g al ow=>Nat.not_le_of_lt (aj g (nD g ow)) (fY g al),fY,a3⟩
theorem cn.hx:cn (cL B0 J val outs p):=fun w w' v ad ⟨x,aj,an,aB⟩=>⟨x,aj,an.ext ad,aB⟩
theorem aY.qk{f:FuncId}{args:List Value}{B:Nat}(h:aY P f args w [] val outs p)(aL:B<=w.heap.size):rp P f args.toArray w (cL B [] val outs p):=
 h.mono fun oe w' ⟨x,aj,an,aB,be,bZ⟩=>⟨_,aj,(an.mono fun g _ h=>(gQ h).elim:dc qW w w').ext,x,rfl,aB,fun g al=>(be g al).elim (fun h=>(gQ h).elim) fun h=>.inr (Nat.le_trans aL h),bZ⟩
section
variable{Fs:Nat->Nat->Prop}{O:Nat->Prop}{I dJ:List az}{Φ:World->Prop}
theorem kK{o:Oper}{q:World->Value->Prop}(aF:ops[i]? =some o)(aP:Vs[i]? =some (.rel q))(M:Mem w0 O (I++dJ) Φ w)(lG:∀i g,Fs i g->aS I g)
  (h:∀(x:Nat->Value) (w':World),Mem w0 O dJ Φ w'->w.heap.size<=w'.heap.size->(∀j,waits B i j=true->fq Vs x w' j)->dp (cg ops B l Vs x i) o=true/\dg ops (cg ops B l Vs x i) o=true/\dh ops (cg ops B l Vs x i) o=true/\
   ∃v dY,(execOp (cf (cg ops B l Vs x i)) o).run P w'=.ok (.value v) dY/\bd w' dY/\q dY v):iA P ops B l n Vs (fs Fs w.drew) Q i:=
 AS aF aP M lG fun x w' aA aL ab=>by
  obtain⟨aj,an,aB,v,w',be,bZ,dZ⟩:=h x w' aA aL ab;exact⟨v,w',aj,an,aB,be,bZ,dZ⟩
theorem lZ{o:Oper}(aF:ops[i]? =some o)(aP:Vs[i]? =some (cL B0 J sF outs p))(ax:Vs[j]? =some (cL B0 J val outs p))(hw:waits B i j=true)
  (h:∀(x:Nat->Value) (w:World) (y:α),x j=val y->dp (cg ops B l Vs x i) o=true/\dg ops (cg ops B l Vs x i) o=true/\dh ops (cg ops B l Vs x i) o=true/\(execOp (cf (cg ops B l Vs x i)) o).run P w=.ok (.value (sF y)) w):iA P ops B l n Vs (fs Fs w0) Q i:=by
 intro x a w' ad ab E;have k:=ab j hw;unfold fq at k;rw[ax]at k;obtain⟨y,gk,hQ⟩:=k;obtain⟨aj,an,aB,be⟩:=h x w' y gk;refine⟨o,_,aF,aP,fun K cY=>?_⟩;rw[E.wanted an,if_pos aB];unfold Oper.wp;rw[E.exec aj,be];exact cY _ w' (dc.refl _ _) ⟨y,U,hQ⟩
theorem Rq{o:Oper}{v:Value}(aF:ops[i]? =some o)(aP:Vs[i]? =some (.af v))(ax:Vs[j]? =some (cL B0 J val outs p))(hw:waits B i j=true)
  (h:∀(x:Nat->Value) (w:World) (y:α),x j=val y->dp (cg ops B l Vs x i) o=true/\dg ops (cg ops B l Vs x i) o=true/\dh ops (cg ops B l Vs x i) o=true/\(execOp (cf (cg ops B l Vs x i)) o).run P w=.ok (.value v) w):iA P ops B l n Vs (fs Fs w0) Q i:=by
 intro x a w' ad ab E;have k:=ab j hw;unfold fq at k;rw[ax]at k;obtain⟨y,gk,hQ⟩:=k;obtain⟨aj,an,aB,be⟩:=h x w' y gk;refine⟨o,_,aF,aP,fun K cY=>?_⟩;rw[E.wanted an,if_pos aB];unfold Oper.wp;rw[E.exec aj,be];exact cY _ w' (dc.refl _ _) U
end
theorem Env.gD{a:Act}{t:Nat}{u v:Value}(E:Env l n a)(h:l.lookup t=some u)(e:u=v):Env ((t,v)::l) n a:=by
 subst e;refine⟨fun s z aP=>?_,E.size,E.defers⟩;simp only[List.lookup_cons]at aP;by_cases c:s=t
 ·subst c;simp at aP;subst aP;exact E.get _ _ h
 ·have ak:(s==t)=false:=by simpa using c
  rw[ak]at aP;exact E.get _ _ aP
def mO(B0 c:Nat)(F:Nat->Prop)(B:List Nat):List Spec->Nat->Prop
 |[],_=>True
 |s::r,j=>(bif Nat.beq j c||waits B j c then cJ B0 (fun _=>False) s else cJ B0 F s)/\mO B0 c F B r (j+1)
theorem mO.get{c:Nat}{F:Nat->Prop}:∀{Vs:List Spec} {k j:Nat} {s:Spec},mO B0 c F B Vs k->Vs[j]? =some s->bif Nat.beq (k+j) c||waits B (k+j) c then cJ B0 (fun _=>False) s else cJ B0 F s
 |[],_,_,_,_,h=>by simp at h
 |a::r,k,0,s,h,ax=>by
  simp only[List.getElem?_cons_zero,Option.some.injEq]at ax;subst ax;exact h.1
 |a::r,k,j+1,s,h,ax=>by
  have:=mO.get (j:=j) h.2 (by simpa using ax)
  rwa [show k+1+j=k+(j+1) by omega]at this
theorem hH{c j:Nat}{F:Nat->Prop}:mO B0 c F B [] j:=trivial
theorem aK{c j:Nat}{F:Nat->Prop}{v:Value}{r:List Spec}(h:mO B0 c F B r (j+1)):mO B0 c F B (.af v::r) j:=⟨by cases(Nat.beq j c||waits B j c)<;>trivial,h⟩
theorem fK{c j:Nat}{F:Nat->Prop}{s:Spec}{r:List Spec}(hw:(Nat.beq j c||waits B j c)=true)(aj:cJ B0 (fun _=>False) s)(h:mO B0 c F B r (j+1)):mO B0 c F B (s::r) j:=⟨by rw[hw];exact aj,h⟩
theorem jq{c j:Nat}{F:Nat->Prop}{s:Spec}{r:List Spec}(aj:cJ B0 F s)(h:mO B0 c F B r (j+1)):mO B0 c F B (s::r) j:=⟨by
 cases(Nat.beq j c||waits B j c)
 ·exact aj
 ·exact cJ.mono aj fun g h=>h.elim,h⟩
theorem hJ{N c:Nat}{J:List az}(ll:Nat.ble Vs.length N=true)(h:mO w0.heap.size c (aS J) B Vs 0):(fs (ga c J) w0).Ok N B Vs w0:=
 H9 ll fun j s aP=>by
  have:=h.get aP;rw[Nat.zero_add]at this;cases ak:(Nat.beq j c||waits B j c)with
  |true=>
   rw[ak]at this;refine cJ.mono this fun g ⟨i,aj,an,aB,_⟩=>?_;subst aB;rw[Bool.or_eq_true]at ak;rcases ak with ak|ak
   ·exact aj (Nat.eq_of_beq_eq_true ak).symm
   ·rw[an]at ak;cases ak
  |false=>
   rw[ak]at this;exact cJ.mono this fun g ⟨i,_,_,_,be⟩=>be
theorem ph{g:Nat}{cs cs':Array Value}{T:TypeId}{fr:Nat×Nat}{o:Oper}{O:Nat->Prop}{dJ:List az}{Φ:World->Prop}(aF:ops[i]? =some o)(aP:Vs[i]? =some (cL w.heap.size [.bb g (.cells cs T fr)] (fun _:Unit=>undef) (fun _=>[.bb g (.cells cs' T fr)]) (fun _=>True)))(M:Mem w0 O ([.bb g (.cells cs T fr)]++dJ) Φ w)
  (h:∀(x:Nat->Value) (w':World),Mem w0 O dJ Φ w'->Has w' [.bb g (.cells cs T fr)]->w.heap.size<=w'.heap.size->(∀j,waits B i j=true->fq Vs x w' j)->dp (cg ops B l Vs x i) o=true/\dg ops (cg ops B l Vs x i) o=true/\dh ops (cg ops B l Vs x i) o=true/\
   (execOp (cf (cg ops B l Vs x i)) o).run P w'=.ok .skip (w'.setRow g cs')):iA P ops B l n Vs (fs (ga i [.bb g (.cells cs T fr)]) w.drew) Q i:=by
 intro x a w' ad ab E;have c4:Has w' [.bb g (.cells cs T fr)]:=M.front.nP ad fun j ax g mr=>absurd mr.1 ax;obtain⟨aj,an,aB,be⟩:=h x w' (M.nP (fun i g h=>h.2) ad) c4 ad.held.size ab;refine⟨o,_,aF,aP,fun K cY=>?_⟩;rw[E.wanted an,if_pos aB];unfold Oper.wp;rw[E.exec aj,be,Oper.upon_skip];have zv:=c4.mem.set (i:=0) (cs':=cs') rfl;have al:g<w'.heap.size:=c4.lt _ (List.mem_singleton.2 rfl) g (List.mem_singleton.2 rfl);exact cY undef _ (dc.setRow ⟨U,g9.2 (List.mem_singleton.2 U)⟩) ⟨(),U,zv.has,fun q bE=>.inl (g9.2 (by have:=g9.1 bE;exact this)),trivial⟩
def sC(c d:Nat)(J K:List az):Nat->Nat->Prop:=fun j g=>(j=c/\aS J g)\/(j=d/\aS K g)
def lT(B0 c d:Nat)(J K:List az)(B:List Nat):List Spec->Nat->Prop
 |[],_=>True
 |s::r,j=>cJ B0 (fun g=>∃i,i≠j/\waits B j i=false/\sC c d J K i g) s/\lT B0 c d J K B r (j+1)
section
variable{c d:Nat}{K:List az}
theorem Ol{k:Nat}:lT B0 c d J K B [] k:=trivial
theorem la{k:Nat}{v:Value}{r:List Spec}(h:lT B0 c d J K B r (k+1)):lT B0 c d J K B (.af v::r) k:=⟨trivial,h⟩
theorem Oi{k:Nat}{s:Spec}{r:List Spec}(aj:cJ B0 (fun g=>aS J g\/aS K g) s)(h:lT B0 c d J K B r (k+1)):lT B0 c d J K B (s::r) k:=
 ⟨cJ.mono aj fun g ⟨i,_,_,h⟩=>h.imp (·.2) (·.2),h⟩
theorem Oj{k:Nat}{s:Spec}{r:List Spec}(aJ:k=c)(aj:cJ B0 (aS K) s)(h:lT B0 c d J K B r (k+1)):lT B0 c d J K B (s::r) k:=
 ⟨cJ.mono aj fun g ⟨i,an,_,h⟩=>h.elim (fun h=>absurd (h.1.trans aJ.symm) an) (·.2),h⟩
theorem Ei{k:Nat}{s:Spec}{r:List Spec}(aT:(Nat.beq k d||waits B k d)=true)(aJ:waits B k c=true)(aj:cJ B0 (fun _=>False) s)(h:lT B0 c d J K B r (k+1)):lT B0 c d J K B (s::r) k:=
 And.intro (cJ.mono aj fun g ⟨i,an,aB,be⟩=>by
  rcases be with⟨bZ,_⟩|⟨bZ,_⟩
  ·subst bZ;rw[aJ]at aB;cases aB
  ·subst bZ;rw[Bool.or_eq_true]at aT;rcases aT with aT|aT
   ·exact an (Nat.eq_of_beq_eq_true aT).symm
   ·rw[aT]at aB;cases aB) h
theorem lT.get:∀{Vs:List Spec} {k j:Nat} {s:Spec},lT B0 c d J K B Vs k->Vs[j]? =some s->cJ B0 (fun g=>∃i,i≠k+j/\waits B (k+j) i=false/\sC c d J K i g) s
 |[],_,_,_,_,h=>by simp at h
 |a::r,k,0,s,h,ax=>by
  simp only[List.getElem?_cons_zero,Option.some.injEq]at ax;subst ax;exact h.1
 |a::r,k,j+1,s,h,ax=>by
  have:=lT.get (j:=j) h.2 (by simpa using ax)
  rwa [show k+1+j=k+(j+1) by omega]at this
theorem Z6{N:Nat}(ll:Nat.ble Vs.length N=true)(h:lT w0.heap.size c d J K B Vs 0):(fs (sC c d J K) w0).Ok N B Vs w0:=
 H9 ll fun j s aP=>by
  have:=h.get aP
  rwa [Nat.zero_add]at this
theorem jW{i g:Nat}(h:sC c d J K i g):aS (J++K) g:=h.elim (fun h=>hN.2 (.inl h.2)) fun h=>hN.2 (.inr h.2)
end
theorem Mem.part{w0 w:World}{O:Nat->Prop}{J K dJ:List az}{Φ:World->Prop}(M:Mem w0 O ((J++K)++dJ) Φ w):∀g,aS J g->¬aS K g:=fun g ⟨a,bm,Sl⟩ ⟨b,ak,Sm⟩=>
 (List.pairwise_append.1 (List.pairwise_append.1 M.apart).1).2.2 a bm b ak g Sl Sm
theorem Mem.OT{Fs:Nat->Nat->Prop}{O:Nat->Prop}{J dJ:List az}{Φ:World->Prop}{b:Nat->Bool}{w' w hW:World}{v:Value}(M:Mem hW O (J++dJ) Φ w)(cG:∀i g,Fs i g->aS J g)(h:(fs Fs w.drew).I b w')(ab:(match cL w.heap.size J val outs p with| .rel q=>q w' v| .af _=>False)):∃x,v=val x/\p x/\Mem hW O (outs x++dJ) Φ w':=by
 obtain⟨x,aj,an,aB,be⟩:=ab;have aJ:dc (aS J) w w':=(dc.kW (bd.drew w)).trans (dc.mono h fun g _ ⟨j,_,ax⟩=>cG j g ax);exact⟨x,aj,be,M.call aJ an aB⟩
theorem Rn{c:α->Value}{rest:α->List az}{p1:α->Prop}{kw lN:List UInt8}{v:Value}{e cz c6 t dP:TypeId}{o:Oper}{X Y:Operand}{args:List Operand}{b7:List TypeId}{O:Nat->Prop}{dJ:List az}{Φ:World->Prop}
  (aF:ops[i]? =some o) (aP:Vs[i]? =some (cL w.heap.size (J++[.bytes e v lN]) (fun y:Value×α=>y.1) (fun y=>[.bytes e y.1 (lN++kw)]++rest y.2) (fun y=>p1 y.2)))
  (ax:Vs[j]? =some (cL w.heap.size J c (fun y=>[.bytes cz (c y) kw]++rest y) p1)) (SZ:waits B i j=true) (M:Mem w0 O ((J++[.bytes e v lN])++dJ) Φ w)
  (lH:o.op=.call {callee:=.builtin .append,args:=args.toArray,argTypes:=b7.toArray}) (bm:args=[X,Y]) (fp:b7=[t,dP]) (aM:dN P t e=true) (h6:dN P dP c6=true) (au:hl P e 1=true) (ak:hk P e 1=true) (g1:(lN.length+kw.length)*(1+1)<=140737488355328)
  (h:∀(x:Nat->Value) (y:α),x j=c y->dp (cg ops B l Vs x i) o=true/\dg ops (cg ops B l Vs x i) o=true/\dh ops (cg ops B l Vs x i) o=true/\cf (cg ops B l Vs x i) X=v/\cf (cg ops B l Vs x i) Y=c y):
  iA P ops B l n Vs (fs (sC j i J [.bytes e v lN]) w.drew) Q i:=by
 have Mo:Has w [.bytes e v lN]:=M.has.sub ((List.sublist_append_right _ _).trans (List.sublist_append_left _ _));have hold:∀g,aS (J++[.bytes e v lN]) g->g<w.heap.size:=M.gA;refine xC (J:=[.bytes e v lN]) aF aP M (fun i g h=>jW h) Mo (fun l6 l2 g al aJ=>?_) fun x w' aA c4 aL ab=>?_
 ·rcases al with⟨_,al⟩|⟨e,_⟩
  ·exact M.part g al aJ
  ·exact l2 e
 ·have k:=ab j SZ;unfold fq at k;rw[ax]at k;obtain⟨y,gk,hQ,vE,To⟩:=k;obtain⟨ju,lD,mX,oc,od⟩:=h x y gk;have jf:Reads 1 w' (c y) kw.length (ao kw):=hQ.reads 0 rfl;obtain⟨bR,dY,pL,pM,iv,pN⟩:=vW (P:=P) lH bm fp oc od aM h6 au ak (by decide) (c4.dG 0 rfl) jf (c0 kw) g1;have xY:Has w' (rest y):=hQ.sub (List.sublist_append_right _ _);have je:∀g,v.ownBlock=some g->aS [az.bytes e v lN] g:=fun g al=>g9.2 (by simp[az.row,al]);have Sq:gI (fun g=>v.ownBlock=some g) w' dY:=⟨iv.size,fun g al a6=>iv.block g al fun he=>a6 he.symm⟩
  have Gw:∀g,aS (rest y) g->v.ownBlock≠some g:=fun g al aJ=>by
   rcases vE g (hN.2 (.inr al))with aj|aj
   ·exact M.part g aj (je g aJ)
   ·exact Nat.not_le_of_lt (hold g (hN.2 (.inr (je g aJ)))) aj
  have jQ:Has dY (rest y):=xY.held Sq fun g al aJ=>Gw g al aJ;have cz:ao (lN++kw)=ao lN++ao kw:=by simp[ao]
  have c6:az.bytes e bR (lN++kw)=.row e 1 bR (lN.length+kw.length) (ao lN++ao kw):=by unfold az.bytes;rw[cz,List.length_append]
  have h5:∀g,bR.ownBlock=some g->g<dY.heap.size:=fun g dq=>by
   rcases pM.2 with⟨rfl,_⟩|⟨cF,cap,dz,rfl,_,dZ,_⟩
   ·simp[Value.ownBlock]at dq
   ·simp[Value.ownBlock]at dq;subst dq;exact(Array.getElem?_eq_some_iff.1 dZ).1
  refine⟨bR,dY,ju,lD,mX,pL,⟨iv.os,iv.tape,iv.output,⟨iv.size,fun g al a6=>iv.block g al (fun he=>a6 (.inr ⟨U,je g he.symm⟩))⟩⟩,(bR,y),U,?_,fun g al=>?_,To⟩
  ·show Has dY (az.bytes e bR (lN++kw)::rest y)
   rw[c6];refine⟨fun z au=>?_,fun z au g al=>?_,List.pairwise_cons.2 ⟨fun z au g al dq=>?_,jQ.apart⟩⟩
   ·rcases List.mem_cons.1 au with rfl|au
    ·exact pM
    ·exact jQ.gi z au
   ·rcases List.mem_cons.1 au with rfl|au
    ·exact h5 g (by simpa [az.row]using al)
    ·exact jQ.lt z au g al
   ·have rW:bR.ownBlock=some g:=by simpa [az.row]using al
    rcases pN g rW with aj|aj
    ·exact Gw g ⟨z,au,dq⟩ aj
    ·have:=xY.lt z au g dq;omega
  ·rcases hN.1 al with al|al
   ·have rW:bR.ownBlock=some g:=by simpa [az.row,g9]using al
    exact(pN g rW).imp (fun aj=>hN.2 (.inr (je g aj))) fun aj=>Nat.le_trans aL aj
   ·exact(vE g (hN.2 (.inr al))).imp (fun aj=>hN.2 (.inl aj)) id
theorem Mem.kG{O:Nat->Prop}{L:List az}{Φ:World->Prop}{hW w':World}{v:Value}(M:Mem hW O L Φ w)(ad:bd w w')(ab:(match cL w.heap.size [] val outs p with| .rel q=>q w' v| .af _=>False)):∃x,v=val x/\p x/\Mem hW O (outs x++L) Φ w':=by
 obtain⟨x,aj,an,aB,be⟩:=ab;exact⟨x,aj,be,M.jb ad an fun g al=>(aB g al).elim (fun h=>(gQ h).elim) id⟩
end
end
section
open Go.RowKit
abbrev cU{n:Nat}(x:BitVec n):Int:=(x.toNat:Int)
abbrev v32(x:BitVec 32):Value:=.int .u32 (cU x)
abbrev v64(x:BitVec 64):Value:=.int .u64 (cU x)
abbrev b1(x:BitVec 8):Value:=.int .u8 (cU x)
def a7(l:List (BitVec 32)):List Value:=l.map v32
theorem zg(n:Int):IntKind.wrap .u32 n=n%4294967296:=by simp[IntKind.wrap,IntKind.bits,IntKind.signed]
theorem Lo(n:Int):IntKind.wrap .u64 n=n%18446744073709551616:=by simp[IntKind.wrap,IntKind.bits,IntKind.signed]
theorem zh(n:Int):IntKind.wrap .u8 n=n%256:=by simp[IntKind.wrap,IntKind.bits,IntKind.signed]
theorem wY(x:BitVec 32):IntKind.wrap .u32 (x.toNat:Int)=cU x:=by
 rw[zg];have:=x.isLt;unfold cU;omega
theorem wZ(x:BitVec 8):IntKind.wrap .u8 (x.toNat:Int)=cU x:=by
 rw[zh];have:=x.isLt;unfold cU;omega
theorem mG{n:Nat}(x:BitVec n):BitVec.ofInt n (cU x)=x:=by
 unfold cU;rw[BitVec.ofInt_natCast,BitVec.ofNat_toNat,BitVec.setWidth_eq]
section
variable(a b:BitVec 32)(c d:BitVec 8)(e f:BitVec 64)
theorem hF:IntKind.wrap .u32 (cU a+cU b)=cU (a+b):=by
 rw[zg];unfold cU;rw[BitVec.toNat_add];omega
theorem jl:IntKind.wrap .u32 ((BitVec.ofInt 32 (cU a)^^^ BitVec.ofInt 32 (cU b)).toNat:Int)=cU (a ^^^ b):=by rw[mG,mG];exact wY _
theorem n3:IntKind.wrap .u32 ((BitVec.ofInt 32 (cU a)&&& BitVec.ofInt 32 (cU b)).toNat:Int)=cU (a &&& b):=by rw[mG,mG];exact wY _
theorem qZ:IntKind.wrap .u32 ((BitVec.ofInt 32 (cU a)||| BitVec.ofInt 32 (cU b)).toNat:Int)=cU (a ||| b):=by rw[mG,mG];exact wY _
theorem dx:IntKind.wrap .u8 ((BitVec.ofInt 8 (cU c)^^^ BitVec.ofInt 8 (cU d)).toNat:Int)=cU (c ^^^ d):=by rw[mG,mG];exact wZ _
theorem kt:IntKind.wrap .u8 ((BitVec.ofInt 8 (cU c)||| BitVec.ofInt 8 (cU d)).toNat:Int)=cU (c ||| d):=by rw[mG,mG];exact wZ _
theorem HR:IntKind.wrap .u32 ((BitVec.ofInt 32 4294967295 ^^^ BitVec.ofInt 32 (cU a)).toNat:Int)=cU (~~~a):=by
 rw[mG,show BitVec.ofInt 32 4294967295=BitVec.allOnes 32 by decide,BitVec.allOnes_xor];exact wY _
theorem qi:IntKind.wrap .u32 (cU c)=cU (c.setWidth 32):=by
 rw[zg];have:=c.isLt;unfold cU;rw[BitVec.toNat_setWidth];omega
theorem EY:IntKind.wrap .u8 (cU a)=cU (a.setWidth 8):=by
 rw[zh];unfold cU;rw[BitVec.toNat_setWidth];omega
theorem Xf{w:Nat}(x:BitVec w)(n:Nat):(cU x).fdiv (2^n)=cU (x >>> n):=by
 unfold cU;rw[BitVec.toNat_ushiftRight,Nat.shiftRight_eq_div_pow,Int.fdiv_eq_ediv_of_nonneg _ (by exact_mod_cast Nat.zero_le _)];norm_cast
theorem q8(n:Nat):IntKind.wrap .u32 (cU a*2^n)=cU (a <<< n):=by
 rw[zg];unfold cU;rw[BitVec.toNat_shiftLeft,Nat.shiftLeft_eq,Int.natCast_emod,Int.natCast_mul,Int.natCast_pow];rfl
theorem g4(n:Nat):IntKind.wrap .u8 (cU c*2^n)=cU (c <<< n):=by
 rw[zh];unfold cU;rw[BitVec.toNat_shiftLeft,Nat.shiftLeft_eq,Int.natCast_emod,Int.natCast_mul,Int.natCast_pow];rfl
end
theorem aaO{P:Program}{w:World}{t:TypeId}{v:Value}(au:zeroOf P t=some v):(zeroValue t).run P w=.ok v w:=by
 unfold zeroOf at au;cases hi:P.info? t with
 |none=>rw[hi]at au;cases au
 |some i=>rw[hi]at au;simp only[Option.bind_some]at au;simp[zeroValue,typeInfo,hi,au]
theorem mZ{cs:List Value}{i:Nat}{v:Value}{r:List (Nat×Value)}(aJ:v.cells= #[v])(h:i<cs.length):Instr.fill (fun i=>some (i,1)) cs.toArray ((i,v)::r)=Instr.fill (fun i=>some (i,1)) (cs.set i v).toArray r:=by
 have an:¬(cs.length<i+1):=by omega
 rw[Instr.fill];simp[aJ,an]
theorem Cb{P:Program}{ρ:Operand->Value}{o:Oper}{w:World}{t e:TypeId}{n:Nat}{ps:List (Nat×Operand)}{qs:List (Nat×Value)}{us us':Array Value}(aF:o.op=.build t ps.toArray)(aD:ps.map (fun p=>(p.1,ρ p.2))=qs)(aM:ky P t e n=true)(aP:eS P e 1=true)(au:zeroOf P t=some (.agg us))(he:Instr.fill (fun i=>some (i,1)) us qs=some us'):(execOp ρ o).run P w=.ok (.value (.agg us')) w:=by
 unfold ky at aM;have lJ:=aaO (P:=P) (w:=w) au;have jz:(ps.toArray.map fun x=>(x.1,ρ x.2)).toList=qs:=by simpa using aD
 cases bE:P.underlying t with
 |none=>rw[bE]at aM;cases aM
 |some d=>
  rw[bE]at aM;cases d with
  |array r8 bV=>
   simp at aM;obtain⟨rfl,rfl⟩:=aM;simp only[execOp,aF,Instr.build,Sem.run_bind,lJ,Result.andThen_ok,run_underlying bE,kc (w:=w) aP,Value.cells,Nat.mul_one,jz,Sem.run_pure];simp only[he];rfl
  |_=>cases aM
section
variable{P:Program}{ρ:Operand->Value}{o:Oper}{w:World}{t k3:TypeId}{X Y:Operand}
theorem hV{q:Nat}{k:IntKind}{x:BitVec k.bits}{Bt:IntKind}(aF:o.op=.binOp .shr t X Y k3)(bS:ρ X=.int k (cU x))(du:ρ Y=.int Bt (q:Int))(bE:q<=k.bits):(execOp ρ o).run P w=.ok (.value (.int k (cU (x >>> q)))) w:=by
 have al:(eqGuard .shr t X Y (ρ X) (ρ Y)).run P w=.ok () w:=rfl;have e:min (Int.toNat (q:Int)) k.bits=q:=by simp only[Int.toNat_natCast];exact Nat.min_eq_left bE
 simp only[execOp,aF,Sem.run_bind,al,Result.andThen_ok,bS,du,binOp,Op.shift,if_neg (show¬((q:Int)<0) by omega),e,Xf];rfl
theorem fO{q:Nat}{k:IntKind}{x:BitVec k.bits}{Bt:IntKind}(aF:o.op=.binOp .shl t X Y k3)(bS:ρ X=.int k (cU x))(du:ρ Y=.int Bt (q:Int))(bE:q<=k.bits)(hw:IntKind.wrap k (cU x*2^q)=cU (x <<< q)):(execOp ρ o).run P w=.ok (.value (.int k (cU (x <<< q)))) w:=by
 have al:(eqGuard .shl t X Y (ρ X) (ρ Y)).run P w=.ok () w:=rfl;have e:min (Int.toNat (q:Int)) k.bits=q:=by simp only[Int.toNat_natCast];exact Nat.min_eq_left bE
 simp only[execOp,aF,Sem.run_bind,al,Result.andThen_ok,bS,du,binOp,Op.shift,if_neg (show¬((q:Int)<0) by omega),e,hw];rfl
end
section
variable{P:Program}{ρ:Operand->Value}{o:Oper}{w:World}{t e:TypeId}{B0:Nat}
theorem uI{n:Nat}{ps:List (Nat×Operand)}{vs:List Value}{z:List Value}(aL:B0<=w.heap.size)(aF:o.op=.buildSlice t n ps.toArray)(aD:ps.map (fun p=>(p.1,ρ p.2))=(vs.zipIdx 0).map fun x=>(x.2,x.1))(a6:vs.length=n)(aM:dN P t e=true)(aP:eS P e 1=true)(au:(zeroOf P e).map (·.cells.toList)=some z)(kT:z.length=1)
  (aj:∀u∈vs,u.oneCell'=true) (hm:Nat.ble n 4194304=true) (bG:Nat.blt 0 n=true):∃v w',(execOp ρ o).run P w=.ok (.value v) w'/\bd w w'/\(Has w' [.row e 1 v n vs]/\(∀g,aS [az.row e 1 v n vs] g->B0<=g)/\True):=by
 have Sy:=Nat.le_of_ble_eq_true hm;have cz:vs.map (·.cells.size)=List.replicate n 1:=by
  rw[<-a6];exact List.eq_replicate_iff.2 ⟨by simp,fun b ak=>by
   obtain⟨u,hu,rfl⟩:=List.mem_map.1 ak;simp[o9 (aj u hu)]⟩
 have c6:(vs.map (·.cells.toList)).flatten=vs:=by
  clear a6 aD cz
  induction vs with
  |nil=>rfl
  |cons u r ck=>simp[o9 (aj u (List.mem_cons_self ..)),ck fun x ad=>aj x (List.mem_cons_of_mem _ ad)]
 have ap:=ev (w:=w) (us:=vs) aF aD a6 aM aP au kT cz (by simp;omega) (by simpa using bG) c6;have al:(w.alloc (.cells vs.toArray e)).heap[w.heap.size]? =some (.cells vs.toArray e (0,0)):=by show(w.heap.push _)[w.heap.size]? =_;simp
 have GP:=so (k:=n) (c:=n) (sz:=1) al (by simp[a6]) (Nat.le_refl _) (by simp only[maxLen];omega);rw[show vs.toArray.toList.take (n*1)=vs by simp[<-a6]]at GP;have bu:∀g,g∈(az.row e 1 (.slice (some ⟨w.heap.size,0,none⟩) n n) n vs).et->g=w.heap.size:=fun g al=>by simpa [az.row,Value.ownBlock]using al
 refine⟨_,_,ap,bd.alloc _ _,⟨fun x ad=>by simp at ad;subst ad;exact GP,fun x ad g al=>?_,List.pairwise_singleton _ _⟩,fun g al=>?_,trivial⟩
 ·simp at ad;subst ad;rw[bu g al];simp
 ·rw[bu g (g9.1 al)];exact aL
theorem qd{n:Nat}{ps:List (Nat×Operand)}{vs:List Value}{z:List Value}(aL:B0<=w.heap.size)(aF:o.op=.buildSlice t n ps.toArray)(aD:ps.map (fun p=>(p.1,ρ p.2))=(vs.zipIdx 0).map fun x=>(x.2,x.1))(a6:vs.length=n)(aM:dN P t e=true)(aP:eS P e 1=true)(au:(zeroOf P e).map (·.cells.toList)=some z)(kT:z.length=1)
  (aj:∀u∈vs,u.oneCell'=true) (hm:Nat.ble n 4194304=true) (bG:Nat.blt 0 n=true):∃v w',(execOp ρ o).run P w=.ok (.value v) w'/\bd w w'/\(Reads 1 w' v n vs/\∀g,v.ownBlock=some g->B0<=g):=by
 obtain⟨v,w',aj,an,aB,be,_⟩:=uI (B0:=B0) aL aF aD a6 aM aP au kT aj hm bG;exact⟨v,w',aj,an,aB.reads 0 U,fun g al=>be g (g9.2 (by simp[az.row,al]))⟩
end
theorem Z9(l:List (BitVec 32)):∀u∈a7 l,u.oneCell'=true:=by
 intro u hu;obtain⟨x,_,rfl⟩:=List.mem_map.1 hu;rfl
@[simp] theorem abP (l:List (BitVec 32)):(a7 l).length=l.length:=by simp[a7]
section
variable{P:Program}{ops:Array Oper}{Q:Exit->Act->World->Prop}{l:List (Nat×Value)}{n:Nat}{a:Act}{w w' w0:World}{rest:List Oper}{o:Oper}{O:Nat->Prop}{L L' R J:List az}{Φ:World->Prop}
theorem Jq{i g:Nat}{d:Tmp}{v:Value}{cs cs':Array Value}{T:TypeId}{fr:Nat×Nat}(E:Env l n a)(M:Mem w0 O L Φ w)(dd:L[i]? =some (.bb g (.cells cs T fr)))(aT:o.dst=some d)(a6:Nat.blt d n=true)(aJ:dp l o=true)(al:dg ops l o=true)(hw:dh ops l o=true)
  (h:(execOp (cf l) o).run P w=.ok (.value v) (w.setRow g cs')) (pn:L.set i (.bb g (.cells cs' T fr))=L')
  (dD:∀a' w',Mem w0 O L' Φ w'->Env ((d,v)::l) n a'->wpList P ops Q rest a' w'):wpList P ops Q (o::rest) a w:=by
 subst pn;exact e5 E aT a6 aJ al hw h fun a' dQ=>dD a' _ (M.set dd) dQ
theorem Jh{d:Tmp}{bl:List UInt8}(E:Env l n a)(M:Mem w0 O L Φ w)(aT:o.dst=some d)(a6:Nat.blt d n=true)(aJ:dp l o=true)(al:dg ops l o=true)(hw:dh ops l o=true)
  (h:∃v w',(execOp (cf l) o).run P w=.ok (.value v) w'/\bd w w'/\Bytes w' v bl/\∀g,v.ownBlock=some g->w.heap.size<=g)
  (dD:∀v a' w',Mem w0 O (.sub v bl::L) Φ w'->Env ((d,v)::l) n a'->wpList P ops Q rest a' w'):wpList P ops Q (o::rest) a w:=by
 obtain⟨v,w',aj,an,aB,be⟩:=h;refine e5 E aT a6 aJ al hw aj fun a' dQ=>dD v a' _ (M.jo an (.sub v bl) aB fun g al=>?_) dQ;have dq:v.ownBlock=some g:=by simpa [az.sub]using al
 refine⟨be g dq,?_⟩;rcases aB.2 with⟨rfl,_⟩|⟨cF,off,cap,rfl,_,_,bZ,_⟩
 ·simp[Value.ownBlock]at dq
 ·simp[Value.ownBlock]at dq;omega
theorem Mem.Qa{i g:Nat}{ob:Obj}(M:Mem w0 O (J++R) Φ w)(h:(J++R)[i]? =some (.bb g ob))(hi:Nat.ble J.length i=true):¬aS J g:=fun⟨e,he,al⟩=>by
 have ln:=Nat.le_of_ble_eq_true hi;rw[List.getElem?_append_right ln]at h;exact(List.pairwise_append.1 M.apart).2.2 e he _ (List.mem_of_getElem? h) g al (by simp[az.bb])
theorem Mem.Aj{i g x y z:Nat}{ob:Obj}(M:Mem w0 O (J++R) Φ w)(h:(J++R)[i]? =some (.bb g ob))(hi:Nat.ble J.length i=true):∀q,(Value.slice (some ⟨g,x,none⟩) y z).ownBlock=some q->¬aS J q:=fun q bE=>by
 simp[Value.ownBlock]at bE;exact bE▸M.Qa h hi
end
section
variable{P:Program}{ρ:Operand->Value}{o:Oper}{w:World}{t dP e:TypeId}{X Y:Operand}
theorem Cd{g off n c:Nat}{T:TypeId}{cs cs':Array Value}{v:Value}{l:List UInt8}{args:List Operand}{b7:List TypeId}(aF:o.op=.call {callee:=.builtin .copy,args:=args.toArray,argTypes:=b7.toArray})(bm:args=[X,Y])(fp:b7=[t,dP])(bS:ρ X=.slice (some ⟨g,off,none⟩) n c)(du:ρ Y=v)(aM:dN P t e=true)(aP:eS P e 1=true)(al:w.heap[g]? =some (.cells cs T (0,0)))(ak:Bytes w v l)(aI:l.length<=n)(pv:off+n<=cs.size)(fo:(cs.toList.take off++ao l++cs.toList.drop (off+l.length)).toArray=cs'):
  (execOp ρ o).run P w=.ok (.value (.int .i64 l.length)) (w.setRow g cs'):=by
 subst bm fp fo;obtain⟨i,hi,hd⟩:=uh aP;have hlen:(ao l).length=l.length:=by simp[ao]
 rcases ak.2 with⟨rfl,bG⟩|⟨cF,UF,cap,rfl,aj,an,aB,be⟩
 ·have hO:l=[]:=List.length_eq_zero_iff.1 bG;subst hO;have h:=run_copy_nil (P:=P) w t dP o.type e ⟨g,off,none⟩ n c (kg aM) (by rw[hi];rfl);have cz:(cs.toList.take off++ao []++cs.toList.drop (off+0)).toArray=cs:=by simp[ao]
  have SO:=setRow_self w g cs T (0,0) al;simp[execOp,aF,resolve,invoke,builtin,bS,du,h,goInt,SO,ao]
 ·have h:=run_copy_row (P:=P) w t dP o.type e g off n c ⟨cF,UF,none⟩ l.length cap cs T (ao l) (kg aM) (by rw[hi];simp[hd]) al (by rw[hlen];exact(Nat.min_eq_left aI).symm) (fun j u hu=>by rw[add_plain];exact be j u hu) (by rw[hlen];omega) (fun u hu=>c0 l u hu);rw[hlen]at h;simp[execOp,aF,resolve,invoke,builtin,bS,du,h,goInt]
def Dk(P:Program)(t:TypeId):Bool:=match P.underlying t with|some .string=>true|_=>false
def Dl(P:Program)(t:TypeId):Bool:=match P.underlying t with|some (.int .u8)=>true|_=>false
theorem I0{s:ByteArray}(aF:o.op=.convert dP t X)(bS:ρ X=.string s)(aP:Dk P dP=true)(aM:dN P t e=true)(he:Dl P e=true)(hlen:s.size<=100):∃v w',(execOp ρ o).run P w=.ok (.value v) w'/\bd w w'/\Bytes w' v s.data.toList/\∀g,v.ownBlock=some g->w.heap.size<=g:=by
 have SN:P.underlying dP=some .string:=by unfold Dk at aP;split at aP<;>simp_all
 have A2:P.underlying e=some (.int .u8):=by unfold Dl at he;split at he<;>simp_all
 have ap:=run_bytes_of_string (P:=P) w dP t e s SN (kg aM) A2;have hb:=grownCap_ge w s.size 0 e;have hle:=grownCap_le_maxLen w s.size 0 e (by simp only[maxLen];omega);have a6:s.data.toList.length=s.size:=Array.length_toList;have mv:(execOp ρ o).run P w=.ok (.value (.slice (some ⟨w.heap.size,0,none⟩) s.size (grownCap w s.size 0 e))) (w.drew.alloc (.cells (bytesRow s (grownCap w s.size 0 e)) e ((bytesRow s (grownCap w s.size 0 e)).size,(bytesRow s (grownCap w s.size 0 e)).size+1))):=by
  simp only[execOp,aF,bS,Sem.run_bind,ap,Result.andThen_ok,Sem.run_pure]
 refine⟨_,_,mv,(bd.drew w).trans (bd.alloc _ _),?_,fun g al=>Nat.le_of_eq (by simpa [Value.ownBlock]using al)⟩;unfold Bytes;rw[a6];refine⟨by simp[a6],.inr ⟨w.heap.size,0,_,U,hb,hle,by simp,fun j u hu=>?_⟩⟩;rw[Nat.zero_add];have ax:j<s.data.toList.length:=by simpa using(List.getElem?_eq_some_iff.1 hu).1
 rw[gx ax]at hu;refine cell_of (heap_alloc_new w.drew _) ?_;rw[bytesRow_at s _ j (by simpa using ax),<-hu];simp
end
end
end Go.a2
section
namespace Go
theorem R3{H:Type}{enc:TypeId×Value->H}{a:Assume}{C:Checked}{os:Os}{f:FuncId}{fn:Func}{s:ChangeSpec}{conds:List PathCond}{apart fresh handsOn again:Bool}{X:World->Array Value->Prop}
  (bS:∀(w w':World) (args:Array Value),w.heap=w'.heap->X w args->X w' args)
  (own:ownKnob C.prog.godebug=none) (started:os.Started) (Us:C.prog.inits.idxOf? f=none) (A6:C.prog.funcs[f]? =some fn)
  (witness:∃(w:World) (tape:Tape) (i:Input),w.os=os/\(w.forCall tape i).Shaped C.prog/\i.vars=[]/\Input.okWide C.prog (w.forCall tape i) .any w.heap.size f i/\
   ((s.pre enc C.prog fn conds apart (w.forCall tape i).memory i.args/\X (w.forCall tape i).memory i.args)/\sizedMet enc C.prog fn (OpenSpec.ofChange s) apart (w.forCall tape i).memory i.args)/\a.holds C.prog (lone (Frame.enter C.prog f i.args .normal) [] (w.forCall tape i)))
  (PT:∀(W:World) (base:Nat) (args:Array Value) (ds gs:List (DataW H)) (before:List MemPlace),
   (∀(j:Nat) t v,fn.params[j]? =some t->args[j]? =some v->Value.okWide C.prog W .any base t v)->
   DataW.Whole enc C.prog fn.params.toList s.vars apart W args.toList ds gs before->
   conds.all (PathCond.test C.prog ⟨fn.params.toList,ds,s.plain.varTypes C.prog,gs⟩)=true->X W args->W.ShapedOpen C.prog->
   Calls C.prog f args W fun e zA=>∃v,e=.returned v/\s.post enc C.prog fn apart fresh handsOn again W args v zA):
  ReturnsInHanded a C os f .any (fun w args=>(s.pre enc C.prog fn conds apart w args/\X w args)/\sizedMet enc C.prog fn (OpenSpec.ofChange s) apart w args) (s.post enc C.prog fn apart fresh handsOn again):=by
 refine returnsInHanded_of_calls own started Us witness ?_;intro w tape i _ m8 _ m5 m7 abi;obtain⟨_,_,_,Qo,Si,_,_,_,_,kS⟩:=m5;have e:Qo=fn:=Option.some.inj (Si.symm.trans A6);subst e;obtain⟨⟨⟨ds,gs,before,hw,aJ⟩,ad⟩,au⟩:=m7;have SW:=DataW.Whole.of_heap (w':=w.forCall tape i) (by rfl) hw;refine(PT (w.forCall tape i) w.heap.size i.args ds gs before kS SW aJ (bS _ _ _ (by rfl) ad) m8).mono fun e zA ⟨v,he,hp⟩=>?_;subst he;exact ChangeSpec.post_blind hp
end Go
namespace Go.a2
open Go.RowKit Go.ChangeShapes Go.WideShapes
theorem Hh{P:Program}{W:World}{oE:String}{g:Nat}{t:TypeId}{cs:Array Value}(aP:W.ShapedOpen P)(aD:W.var? P oE=some cs)(al:P.globalNamed oE=some g)(Sp:g<P.globals.size)
  (bG:(((begin P (fun _ _=>0) default).world.heap[g]?).bind Obj.row?).map (·.2)=some t):W.heap[g]? =some (.cells cs t):=by
 cases au:((begin P (fun _ _=>0) default).world.heap[g]?).bind Obj.row? with
 |none=>rw[au]at bG;cases bG
 |some z=>
  obtain⟨zero,k3⟩:=z;rw[au]at bG;obtain rfl:k3=t:=by simpa using bG
  obtain⟨cs',cc,_⟩:=aP.1 g zero k3 Sp au;simp only[World.var?,al,Option.bind_some,cc]at aD;rw[cc,Option.some.inj aD]
theorem Hi{P:Program}{W:World}{t e:TypeId}{n fuel:Nat}{ws:List (BitVec 32)}{cs:Array Value}{q:List MemPlace}{spare:Nat->Bool}{held:Bool}{ds:DataW Unit}(aM:P.underlying t=some (.array n e))(he:P.underlying e=some (.int .u32))(aJ:P.cellsOf e=1)(xO:P.cellsOf t=n)
  (h:DataW.trod (fun _=>()) P W 0 spare held fuel t cs.toList=some (ds,q)) (aT:ds=.agg (ws.map fun x=>.lit (.int .u32 (cU x)))):cs=(a7 ws).toArray:=by
 subst aT;obtain⟨xs,m,rfl,ad,hlen,qO,vf⟩:=DataW.trod_array aM h;have ad:(ws.map fun x=>(DataW.lit (.int .u32 (cU x)):DataW Unit))=xs.map (·.1):=by
  have:=congrArg Prod.fst ad;simpa using this
 have a6:ws.length=n:=by
  have:=congrArg List.length ad;simpa [qO]using this
 have key:cs.toList=a7 ws:=by
  refine List.ext_getElem (by rw[hlen,xO,<-a6];simp[a7]) fun i aj an=>?_;have hi:i<ws.length:=by simpa [a7]using an
  have aB:=vf i (by omega);rw[aJ,Nat.mul_one,List.getElem?_eq_getElem (by omega)]at aB;obtain⟨z,cz,c6,_⟩:=DataW.trod_int he aB;have ih:=congrArg (·[i]?) ad;simp only[List.getElem?_map,List.getElem?_eq_getElem hi,List.getElem?_eq_getElem (show i<xs.length by omega),Option.map_some,Option.some.injEq]at ih;rw[c6]at ih;have kJ:cU ws[i]=z:=by simpa using ih
  have rC:cs.toList[i]=.int .u32 z:=by
   have:=congrArg (·[0]?) cz;simpa [List.getElem?_take,List.getElem?_drop,List.getElem?_eq_getElem aj]using this
  rw[rC,<-kJ];simp[a7]
 cases cs;simp only at key;rw[key]
end Go.a2
end
namespace Go.a2
section
open Go.RowKit
structure Rec where
 bq:Int
 cd:Int
 bF:Int
 cD:List UInt8
 cx:Int
 b3:List UInt8
 c1:Int
 c5:Int
 dw:Int
 dB:Int
 dt:List UInt8
 dI:List UInt8
def aW(n:Int):Value:=.int .i64 n
structure Rec.Ok(r:Rec):Prop where
 cD:r.cD.length=32
 b3:r.b3.length=32
 dt:r.dt.length=32
 dI:r.dI.length=32
def Rec.cells(r:Rec):List Value:=aW r.bq::aW r.cd::aW r.bF::(ao r.cD++(aW r.cx::(ao r.b3++(aW r.c1::aW r.c5::aW r.dw::aW r.dB::(ao r.dt++ao r.dI)))))
def Rec.val(r:Rec):Value:=.agg r.cells.toArray
theorem vN{L:List Value}{n:Nat}{v:Value}{M:List Value}{m:Nat}(e:(L.drop n).take m=v::M):L.toArray[n]? =some v:=by
 have:((L.drop n).take m)[0]? =some v:=by rw[e];rfl
 rw[List.getElem?_take]at this;split at this
 ·simpa using this
 ·cases this
section
variable{r:Rec}(h:r.Ok)
theorem Rec.jv:r.cells.toArray[0]? =some (aW r.bq):=by simp[Rec.cells]
theorem Rec.h1:r.cells.toArray[1]? =some (aW r.cd):=by simp[Rec.cells]
theorem Rec.ho:r.cells.toArray[2]? =some (aW r.bF):=by simp[Rec.cells]
theorem pH{L a b c:List Value}{n m:Nat}(e:L=a++(b++c))(bm:a.length=n)(ak:b.length=m):(L.drop n).take m=b:=by
 subst e;rw[List.drop_left' bm,List.take_left' ak]
include h
theorem Rec.len:r.cells.length=136:=by simp[Rec.cells,h.cD,h.b3,h.dt,h.dI]
theorem Rec.Hs:(r.cells.drop 3).take 32=ao r.cD:=pH (a:=[aW r.bq,aW r.cd,aW r.bF]) rfl rfl (by simp[h.cD])
theorem Rec.nO:(r.cells.drop 35).take 33=aW r.cx::ao r.b3:=pH (a:=aW r.bq::aW r.cd::aW r.bF::ao r.cD) (c:=aW r.c1::aW r.c5::aW r.dw::aW r.dB::(ao r.dt++ao r.dI)) (by simp[Rec.cells]) (by simp[h.cD]) (by simp[h.b3])
theorem Rec.TO:(r.cells.drop 36).take 32=ao r.b3:=pH (a:=aW r.bq::aW r.cd::aW r.bF::(ao r.cD++[aW r.cx])) (c:=aW r.c1::aW r.c5::aW r.dw::aW r.dB::(ao r.dt++ao r.dI)) (by simp[Rec.cells]) (by simp[h.cD]) (by simp[h.b3])
theorem Rec.nN:(r.cells.drop 68).take 2=[aW r.c1,aW r.c5]:=pH (a:=aW r.bq::aW r.cd::aW r.bF::(ao r.cD++(aW r.cx::ao r.b3))) (c:=aW r.dw::aW r.dB::(ao r.dt++ao r.dI)) (by simp[Rec.cells]) (by simp[h.cD,h.b3]) rfl
theorem Rec.qS:(r.cells.drop 70).take 2=[aW r.dw,aW r.dB]:=pH (a:=aW r.bq::aW r.cd::aW r.bF::(ao r.cD++(aW r.cx::(ao r.b3++[aW r.c1,aW r.c5])))) (c:=ao r.dt++ao r.dI) (by simp[Rec.cells]) (by simp[h.cD,h.b3]) rfl
theorem Rec.Hr:(r.cells.drop 72).take 32=ao r.dt:=pH (a:=aW r.bq::aW r.cd::aW r.bF::(ao r.cD++(aW r.cx::(ao r.b3++[aW r.c1,aW r.c5,aW r.dw,aW r.dB])))) (c:=ao r.dI) (by simp[Rec.cells]) (by simp[h.cD,h.b3]) (by simp[h.dt])
theorem Rec.Ht:(r.cells.drop 104).take 32=ao r.dI:=pH (a:=aW r.bq::aW r.cd::aW r.bF::(ao r.cD++(aW r.cx::(ao r.b3++(aW r.c1::aW r.c5::aW r.dw::aW r.dB::ao r.dt))))) (c:=[]) (by simp[Rec.cells]) (by simp[h.cD,h.b3,h.dt]) (by simp[h.dI])
theorem Rec.size:r.cells.toArray.size=136:=by simp[Rec.len h]
theorem Rec.nx:r.cells.toArray[35]? =some (aW r.cx):=vN (Rec.nO h)
theorem Rec.PJ:r.cells.toArray[68]? =some (aW r.c1):=vN (Rec.nN h)
theorem Rec.PL:r.cells.toArray[70]? =some (aW r.dw):=vN (Rec.qS h)
theorem Rec.PK:r.cells.toArray[69]? =some (aW r.c5):=by
 have:(r.cells.drop 69).take 1=[aW r.c5]:=pH (a:=aW r.bq::aW r.cd::aW r.bF::(ao r.cD++(aW r.cx::(ao r.b3++[aW r.c1])))) (c:=aW r.dw::aW r.dB::(ao r.dt++ao r.dI)) (by simp[Rec.cells]) (by simp[h.cD,h.b3]) rfl;exact vN this
theorem Rec.PM:r.cells.toArray[71]? =some (aW r.dB):=by
 have:(r.cells.drop 71).take 1=[aW r.dB]:=pH (a:=aW r.bq::aW r.cd::aW r.bF::(ao r.cD++(aW r.cx::(ao r.b3++[aW r.c1,aW r.c5,aW r.dw])))) (c:=ao r.dt++ao r.dI) (by simp[Rec.cells]) (by simp[h.cD,h.b3]) rfl;exact vN this
theorem Rec.EJ{i:Nat}(hi:i<32):r.cells.toArray[36+i]? =some (.int .u8 ((r.b3[i]'(by rw[h.b3];exact hi)).toNat:Int)):=by
 have aj:(ao r.b3)[i]? =some (.int .u8 ((r.b3[i]'(by rw[h.b3];exact hi)).toNat:Int)):=gx (by rw[h.b3];exact hi);rw[<-Rec.TO h,List.getElem?_take,if_pos hi,List.getElem?_drop]at aj;simpa using aj
end
theorem OS{a b:List UInt8}(h:ao a=ao b):a=b:=by
 induction a generalizing b with
 |nil=>cases b with
  |nil=>rfl
  |cons=>cases h
 |cons x r ck=>cases b with
  |nil=>cases h
  |cons y s=>
   simp only[Er,List.cons.injEq,Value.int.injEq,true_and]at h;rw[ck h.2,UInt8.toNat_inj.1 (Int.ofNat_inj.1 h.1)]
theorem lh{a:Int}{s:List UInt8}(aP:s.length=32):Fit (.i64::List.replicate 32 .u8) (aW a::ao s):=by
 have:=Ft s;rw[aP]at this;exact Fit.app (ks:=[.i64]) (A:=[aW a]) U this
theorem q4{a b:Int}{s t:List UInt8}:aW a::ao s=aW b::ao t↔a=b/\s=t:=by
 constructor
 ·intro h;simp only[aW,List.cons.injEq,Value.int.injEq,true_and]at h;exact⟨h.1,OS h.2⟩
 ·rintro⟨rfl,rfl⟩;rfl
theorem Rec.eX(r:Rec):∀v∈r.cells,v.oneCell'=true:=by
 intro v aD;simp only[Rec.cells,aW,List.mem_cons,List.mem_append]at aD;rcases aD with rfl|rfl|rfl|aD|rfl|aD|rfl|rfl|rfl|rfl|aD|aD
 all_goals first|rfl|exact c0 _ v aD
theorem oQ{L a b fI c:List Value}{n m k:Nat}(e:L=a++(b++c))(bm:a.length=n)(ak:b.length=m)(ab:n+m=k):L.take n++fI++L.drop k=a++(fI++c):=by
 subst ab;subst e;rw[List.take_left' bm,List.append_assoc,<-List.append_assoc a b c,List.drop_left' (by simp[bm,ak])]
section
variable{r:Rec}(h:r.Ok)
include h
theorem Rec.Ck(s q:Int):r.cells.take 68++[aW s,aW q]++r.cells.drop 70=({r with c1:=s,c5:=q}:Rec).cells:=
 (oQ (a:=aW r.bq::aW r.cd::aW r.bF::(ao r.cD++(aW r.cx::ao r.b3))) (b:=[aW r.c1,aW r.c5]) (c:=aW r.dw::aW r.dB::(ao r.dt++ao r.dI)) (by simp[Rec.cells]) (by simp[h.cD,h.b3]) rfl rfl).trans (by simp[Rec.cells])
theorem Rec.Cp(s q:Int):r.cells.take 70++[aW s,aW q]++r.cells.drop 72=({r with dw:=s,dB:=q}:Rec).cells:=
 (oQ (a:=aW r.bq::aW r.cd::aW r.bF::(ao r.cD++(aW r.cx::(ao r.b3++[aW r.c1,aW r.c5])))) (b:=[aW r.dw,aW r.dB]) (c:=ao r.dt++ao r.dI) (by simp[Rec.cells]) (by simp[h.cD,h.b3]) rfl rfl).trans (by simp[Rec.cells])
theorem Rec.tS(s:List UInt8):r.cells.take 72++ao s++r.cells.drop 104=({r with dt:=s}:Rec).cells:=
 (oQ (a:=aW r.bq::aW r.cd::aW r.bF::(ao r.cD++(aW r.cx::(ao r.b3++[aW r.c1,aW r.c5,aW r.dw,aW r.dB])))) (b:=ao r.dt) (c:=ao r.dI) (m:=32) (by simp[Rec.cells]) (by simp[h.cD,h.b3]) (by simp[h.dt]) rfl).trans (by simp[Rec.cells])
theorem Rec.tT(s:List UInt8):r.cells.take 104++ao s++r.cells.drop 136=({r with dI:=s}:Rec).cells:=
 (oQ (a:=aW r.bq::aW r.cd::aW r.bF::(ao r.cD++(aW r.cx::(ao r.b3++(aW r.c1::aW r.c5::aW r.dw::aW r.dB::ao r.dt))))) (b:=ao r.dI) (c:=[]) (m:=32) (by simp[Rec.cells]) (by simp[h.cD,h.b3,h.dt]) (by simp[h.dI]) rfl).trans (by simp[Rec.cells])
theorem Rec.Co(s:List UInt8):r.cells.take 3++ao s++r.cells.drop 35=({r with cD:=s}:Rec).cells:=
 (oQ (a:=[aW r.bq,aW r.cd,aW r.bF]) (b:=ao r.cD) (c:=aW r.cx::(ao r.b3++(aW r.c1::aW r.c5::aW r.dw::aW r.dB::(ao r.dt++ao r.dI)))) (m:=32) rfl rfl (by simp[h.cD]) rfl).trans (by simp[Rec.cells])
theorem Rec.Cn(a:Int)(s:List UInt8):r.cells.take 35++(aW a::ao s)++r.cells.drop 68=({r with cx:=a,b3:=s}:Rec).cells:=
 (oQ (a:=aW r.bq::aW r.cd::aW r.bF::ao r.cD) (b:=aW r.cx::ao r.b3) (c:=aW r.c1::aW r.c5::aW r.dw::aW r.dB::(ao r.dt++ao r.dI)) (m:=33) (by simp[Rec.cells]) (by simp[h.cD]) (by simp[h.b3]) rfl).trans (by simp[Rec.cells])
end
theorem yQ{L M:List Value}{n k:Nat}{v:Value}(ab:n+1=k)(a6:n<L.length)(h:L.take n++[v]++L.drop k=M):L.set n v=M:=by
 subst ab;rw[List.set_eq_take_append_cons_drop,if_pos a6,<-h];simp
section
variable{r:Rec}(h:r.Ok)
include h
theorem Rec.Cl(s:Int):r.cells.set 68 (aW s)=({r with c1:=s}:Rec).cells:=
 yQ rfl (by simp[Rec.len h]) ((oQ (a:=aW r.bq::aW r.cd::aW r.bF::(ao r.cD++(aW r.cx::ao r.b3))) (b:=[aW r.c1]) (c:=aW r.c5::aW r.dw::aW r.dB::(ao r.dt++ao r.dI)) (by simp[Rec.cells]) (by simp[h.cD,h.b3]) rfl rfl).trans (by simp[Rec.cells]))
theorem Rec.Cm(s:Int):r.cells.set 69 (aW s)=({r with c5:=s}:Rec).cells:=
 yQ rfl (by simp[Rec.len h]) ((oQ (a:=aW r.bq::aW r.cd::aW r.bF::(ao r.cD++(aW r.cx::(ao r.b3++[aW r.c1])))) (b:=[aW r.c5]) (c:=aW r.dw::aW r.dB::(ao r.dt++ao r.dI)) (by simp[Rec.cells]) (by simp[h.cD,h.b3]) rfl rfl).trans (by simp[Rec.cells]))
theorem Rec.Cq(s:Int):r.cells.set 70 (aW s)=({r with dw:=s}:Rec).cells:=
 yQ rfl (by simp[Rec.len h]) ((oQ (a:=aW r.bq::aW r.cd::aW r.bF::(ao r.cD++(aW r.cx::(ao r.b3++[aW r.c1,aW r.c5])))) (b:=[aW r.dw]) (c:=aW r.dB::(ao r.dt++ao r.dI)) (by simp[Rec.cells]) (by simp[h.cD,h.b3]) rfl rfl).trans (by simp[Rec.cells]))
theorem Rec.Cr(s:Int):r.cells.set 71 (aW s)=({r with dB:=s}:Rec).cells:=
 yQ rfl (by simp[Rec.len h]) ((oQ (a:=aW r.bq::aW r.cd::aW r.bF::(ao r.cD++(aW r.cx::(ao r.b3++[aW r.c1,aW r.c5,aW r.dw])))) (b:=[aW r.dB]) (c:=ao r.dt++ao r.dI) (by simp[Rec.cells]) (by simp[h.cD,h.b3]) rfl rfl).trans (by simp[Rec.cells]))
end
def Rec.zero:Rec:=⟨0,0,0,List.replicate 32 0,0,List.replicate 32 0,0,0,0,0,List.replicate 32 0,List.replicate 32 0⟩
theorem Rec.e0:Rec.zero.Ok:=⟨by simp[Rec.zero],by simp[Rec.zero],by simp[Rec.zero],by simp[Rec.zero]⟩
def gh(s q:Int):Prop:=(0<=s/\s<=31)/\(0<=q/\q<=63)
instance(s q:Int):Decidable (gh s q):=by unfold gh;infer_instance
def fP(n:Int):Prop:=1<=n/\n<=1099511627776
instance(n:Int):Decidable (fP n):=by unfold fP;infer_instance
def Rec.uC(r:Rec):Prop:=(r.cx=0/\r.b3=List.replicate 32 0)\/(3<=r.cx/\r.cx<=4095)
instance(r:Rec):Decidable r.uC:=by unfold Rec.uC;infer_instance
def Rec.fA(r:Rec):Prop:=(fP r.bq/\fP r.cd/\fP r.bF)/\r.uC/\gh r.c1 r.c5/\gh r.dw r.dB
instance(r:Rec):Decidable r.fA:=by unfold Rec.fA;infer_instance
def Rec.bytes(r:Rec):List UInt8:=aO r.bq++aO r.cd++aO r.bF++r.cD++aO r.cx++r.b3++aO r.c1++aO r.c5++aO r.dw++aO r.dB++r.dt++r.dI
end
section
open Go.RowKit
structure eT where
 key:Int
 val:Value
 born:Nat
def dv(es:List eT):Array MapEntry:=(es.map fun e=>{key:=.int .i64 e.key,val:=e.val,born:=e.born}).toArray
def nk(P:Program)(t k e:TypeId):Bool:=match P.underlying t with|some (.map iW bV)=>iW==k&&bV==e&&(match P.underlying k with|some (.int .i64)=>true|_=>false)|_=>false
theorem tx{P:Program}{t k e:TypeId}(h:nk P t k e=true):P.underlying t=some (.map k e)/\P.underlying k=some (.int .i64):=by
 unfold nk at h;split at h
 ·rename_i iW bV hu;simp only[Bool.and_eq_true,beq_iff_eq]at h;obtain⟨⟨rfl,rfl⟩,an⟩:=h;refine⟨hu,?_⟩;split at an
  ·assumption
  ·cases an
 ·cases h
def im(k:Int):List eT->Nat->Option (Nat×Value)
 |[],_=>none
 |e::r,i=>if k=e.key then some (i,e.val)else im k r (i+1)
def hz(es:List eT)(k:Int):Option Value:=(im k es 0).map (·.2)
def io(k:Int)(v:Value)(clock:Nat):List eT->List eT×Nat
 |[]=>([⟨k,v,clock⟩],clock+1)
 |e::r=>if k=e.key then(⟨k,v,e.born⟩::r,clock)else(e::(io k v clock r).1,(io k v clock r).2)
section
variable{P:Program}{ρ:Operand->Value}{o:Oper}{w:World}{t k e:TypeId}{g clock:Nat}{es:List eT}
theorem Fo(q:Int):∀(es:List eT) (i:Nat),Instr.findNow (.int .i64) (.int .i64 q) (dv es).toList i=some (im q es i)
 |[],i=>rfl
 |e::r,i=>by
  have ck:=Fo q r (i+1);show(match Instr.sameNow (.int .i64) (.int .i64 q) (.int .i64 e.key)with|some true=>_|some false=>Instr.findNow (.int .i64) (.int .i64 q) (dv r).toList (i+1)|none=>none)=_
  by_cases h:q=e.key
  ·subst h;simp[Instr.sameNow,im]
  ·simp only[Instr.sameNow,im,if_neg h,if_true];rw[show(q==e.key)=false by simpa using h];exact ck
theorem vZ(q:Int)(ab:P.underlying k=some (.int .i64)):(Instr.findKey k (.int .i64 q) (dv es).toList).run P w=.ok (im q es 0) w:=by
 simp only[Instr.findKey,Sem.run_bind,run_underlying ab,Result.andThen_ok,Fo q es 0];rfl
theorem vY(b:Bool)(q:Int)(ab:P.underlying k=some (.int .i64)):(Instr.checkKey b 10000 k (.int .i64 q)).run P w=.ok () w:=by
 unfold Instr.checkKey;simp[run_underlying ab]
theorem IW{X Y:Operand}{q:Int}{z v:Value}{b:Bool}(aF:o.op=.lookup t X Y true)(bS:ρ X=.map (some g))(du:ρ Y=.int .i64 q)(aM:nk P t k e=true)(au:zeroOf P e=some z)(al:w.heap[g]? =some (.map (dv es) clock))(ap:(match hz es q with|some u=>(u,true)|none=>(z,false))=(v,b)):
  (execOp ρ o).run P w=.ok (.value (.tuple #[v,.bool b])) w:=by
 obtain⟨aj,an⟩:=tx aM;have lJ:(zeroValue e).run P w=.ok z w:=by
  unfold zeroOf at au;cases hi:P.info? e with
  |none=>rw[hi]at au;cases au
  |some i=>rw[hi]at au;simp only[Option.bind_some]at au;simp[zeroValue,typeInfo,hi,au]
 have l0:(getObj g).run P w=.ok (.map (dv es) clock) w:=by simp[getObj,Sem.run,al]
 simp only[execOp,aF,bS,du,Instr.lookup,Sem.run_bind,run_underlying aj,Result.andThen_ok,l0,Sem.run_pure,vY _ q an,vZ q an];unfold hz at ap;cases bu:im q es 0 with
 |none=>
  rw[bu]at ap;simp only[Option.map_none,Prod.mk.injEq]at ap;obtain⟨rfl,rfl⟩:=ap;simp[lJ]
 |some p=>
  rw[bu]at ap;simp only[Option.map_some,Prod.mk.injEq]at ap;obtain⟨rfl,rfl⟩:=ap;simp
theorem Ir{q:Int}{v:Value}{c:Nat}:∀{es:List eT} {n:Nat},im q es n=none->io q v c es=(es++[⟨q,v,c⟩],c+1)
 |[],n,_=>rfl
 |e::r,n,h=>by
  unfold im at h;split at h
  ·cases h
  ·rename_i eP;rw[io,if_neg eP,Ir h];rfl
theorem Is{q:Int}{v u:Value}{c:Nat}:∀{es:List eT} {n i:Nat},im q es n=some (i,u)->∃j,i=n+j/\(∃x,es[j]? =some x/\x.key=q)/\io q v c es=(es.modify j fun x=>⟨q,v,x.born⟩,c)
 |[],n,i,h=>by cases h
 |e::r,n,i,h=>by
  unfold im at h;split at h
  ·rename_i he;injection h with h;injection h with aj an;subst aj;exact⟨0,U,⟨e,U,he.symm⟩,by rw[io,if_pos he];rfl⟩
  ·rename_i eP;obtain⟨j,aj,⟨x,ad,Bk⟩,an⟩:=Is (v:=v) (c:=c) h;exact⟨j+1,by omega,⟨x,by simpa using ad,Bk⟩,by rw[io,if_neg eP,an];rfl⟩
theorem Wp{X Y Z:Operand}{q:Int}{v:Value}(aF:o.op=.mapUpdate t X Y Z)(bS:ρ X=.map (some g))(du:ρ Y=.int .i64 q)(po:ρ Z=v)(aM:nk P t k e=true)(al:w.heap[g]? =some (.map (dv es) clock)):
  (execOp ρ o).run P w=.ok .skip {w with heap:=w.heap.setIfInBounds g (.map (dv (io q v clock es).1) (io q v clock es).2)}:=by
 obtain⟨aj,an⟩:=tx aM;have l0:(getObj g).run P w=.ok (.map (dv es) clock) w:=by simp[getObj,Sem.run,al]
 have kl:∀gz,(setObj g gz).run P w=.ok () {w with heap:=w.heap.setIfInBounds g gz}:=fun gz=>by simp[setObj,Sem.run,al]
 simp only[execOp,aF,bS,du,po,Instr.mapUpdate,Sem.run_bind,run_underlying aj,Result.andThen_ok,l0,vY _ q an,vZ q an];cases bu:im q es 0 with
 |none=>
  rw[Ir bu];have cz:(dv es).push {key:=.int .i64 q,val:=v,born:=clock}=dv (es++[⟨q,v,clock⟩]):=by
   apply Array.toList_inj.1;simp[dv]
  simp only[kl,cz];rfl
 |some p=>
  obtain⟨i,u⟩:=p;obtain⟨j,ax,⟨x,ad,Bk⟩,hp⟩:=Is (v:=v) (c:=clock) bu;rw[Nat.zero_add]at ax;subst ax;rw[hp];have hold:(((dv es)[i]?).map (·.key)).getD (.int .i64 q)=.int .i64 q:=by
   have:(dv es)[i]? =some {key:=.int .i64 x.key,val:=x.val,born:=x.born}:=by simp[dv,ad]
   rw[this,Bk];rfl
  have A9:(Instr.keyThatStays (.int .i64 q) (.int .i64 q)).run P w=.ok (.int .i64 q) w:=by
   have:Instr.sameBits 10000 (.int .i64 q) (.int .i64 q)=true:=by simp[Instr.sameBits]
   simp[Instr.keyThatStays,this]
  have cz:((dv es).modify i fun e=>{e with key:=.int .i64 q,val:=v})=dv (es.modify i fun x=>⟨q,v,x.born⟩):=by
   apply Array.toList_inj.1;apply List.ext_getElem?;intro m;simp only[dv,Array.toList_modify,List.getElem?_modify,List.getElem?_map];by_cases c:i=m
   ·subst c;cases es[i]? <;>simp
   ·cases es[m]? <;>simp[c]
  simp only[hold,A9,Sem.run_bind,Result.andThen_ok,kl,cz];rfl
end
section
variable{P:Program}{ops:Array Oper}{Q:Exit->Act->World->Prop}{l:List (Nat×Value)}{n:Nat}{a:Act}{w w' w0:World}{rest:List Oper}{o:Oper}{O:Nat->Prop}{L R:List az}{Φ:World->Prop}
theorem Mem.setObj(M:Mem w0 O L Φ w){i g:Nat}{o gz:Obj}(h:L[i]? =some (.bb g o)):Mem w0 O (L.set i (.bb g gz)) Φ {w with heap:=w.heap.setIfInBounds g gz}:=by
 have al:g<w.heap.size:=M.lt _ (List.mem_of_getElem? h) g (by simp[az.bb]);refine M.change h _ ⟨U,U,U,by simp,fun k ab a6=>?_⟩ (by show(w.heap.setIfInBounds g gz)[g]? =some gz;simp[al]) (fun k ab=>?_)
 ·show(w.heap.setIfInBounds g gz)[k]? =_
  rw[Array.getElem?_setIfInBounds_ne (fun c=>a6 (by simp[az.bb,c]))]
 ·have e:k=g:=by simpa [az.bb]using ab
  subst e;exact⟨by simpa using al,.inl (by simp[az.bb])⟩
end
section
variable{P:Program}{Q:Exit->Act->World->Prop}{l:List (Nat×Value)}{n:Nat}{ops:Array Oper}
theorem Hk{a:Act}{w hW:World}{m i g clock:Nat}{o:Oper}{O:Nat->Prop}{L:List az}{Φ:World->Prop}{es:List eT}{t k e:TypeId}{X Y Z:Operand}{q:Int}{v:Value}(E:Env l n a)(M:Mem hW O L Φ w)(aF:ops[m]? =some o)(dd:L[i]? =some (.bb g (.map (dv es) clock)))(aT:o.dst=none)(aJ:dp l o=true)(al:dg ops l o=true)(hw:dh ops l o=true)
  (lH:o.op=.mapUpdate t X Y Z) (bS:cf l X=.map (some g)) (du:cf l Y=.int .i64 q) (po:cf l Z=v) (aM:nk P t k e=true)
  (dD:∀a' w',Mem hW O (L.set i (.bb g (.map (dv (io q v clock es).1) (io q v clock es).2))) Φ w'->Env l n a'->Q .normal a' w'):j7 P ops Q m a w:=by
 unfold j7;rw[aF];simp only;rw[E.wanted al,if_pos hw];unfold Oper.wp;rw[E.exec aJ,Wp lH bS du po aM (M.row dd)];have nn:=E.put (d:=o.dst) (by rw[aT];rfl) undef;rw[aT]at nn;rw[Oper.upon_skip,aT];exact dD _ _ (M.setObj dd) nn
end
theorem PB{w w':World}{v:Value}{l:List UInt8}(h:∀g,v.ownBlock=some g->w'.heap[g]? =w.heap[g]?)(k:Bytes w v l):Bytes w' v l:=(az.sub v l).pS w w' (fun g al=>h g (by simpa [az.sub]using al)) k
def az.e7(ps:List (Value×List UInt8)):az:=⟨ps.filterMap (·.1.ownBlock),fun w=>∀p∈ps,Bytes w p.1 p.2,fun w w' h k p hp=>PB (fun g al=>h g (List.mem_filterMap.2 ⟨p,hp,al⟩)) (k p hp)⟩
section
variable{w w0:World}{O:Nat->Prop}{L:List az}{Φ:World->Prop}{ps ps':List (Value×List UInt8)}{e:TypeId}{v:Value}{l:List UInt8}
theorem Mem.nT(M:Mem w0 O (.bytes e v l:: .e7 ps::L) Φ w):Mem w0 O (.e7 ((v,l)::ps)::L) Φ w:=by
 have hp:=List.pairwise_cons.1 M.apart;have m6:=List.pairwise_cons.1 hp.2;have ak:Bytes w v l:=M.bytes 0 rfl;have r1:∀g,g∈(az.e7 ((v,l)::ps)).et->g∈(az.bytes e v l).et\/g∈(az.e7 ps).et:=by
  intro g al;obtain⟨p,hp,xS⟩:=List.mem_filterMap.1 al;rcases List.mem_cons.1 hp with rfl|hp
  ·exact .inl (by simpa [az.row]using xS)
  ·exact .inr (List.mem_filterMap.2 ⟨p,hp,xS⟩)
 refine M.swap (.refl _ _) (fun x ad=>?_) (fun x ad g al=>?_) (fun x ad g al=>?_) (List.pairwise_cons.2 ⟨fun x ad g al dq=>?_,m6.2⟩)
 ·rcases List.mem_cons.1 ad with rfl|ad
  ·intro p Bf;rcases List.mem_cons.1 Bf with rfl|Bf
   ·exact ak
   ·exact M.gi (.e7 ps) (by simp) p Bf
  ·exact M.gi x (by simp[ad])
 ·rcases List.mem_cons.1 ad with rfl|ad
  ·rcases r1 g al with h|h
   ·exact M.lt _ (by simp) g h
   ·exact M.lt (.e7 ps) (by simp) g h
  ·exact M.lt x (by simp[ad]) g al
 ·rcases List.mem_cons.1 ad with rfl|ad
  ·rcases r1 g al with h|h
   ·exact .inl ⟨_,by simp,h⟩
   ·exact .inl ⟨.e7 ps,by simp,h⟩
  ·exact .inl ⟨x,by simp[ad],al⟩
 ·rcases r1 g al with h|h
  ·exact hp.1 x (by simp[ad]) g h dq
  ·exact m6.1 x ad g h dq
theorem Mem.jg(M:Mem w0 O L Φ w)(e:TypeId):Mem w0 O (.bytes e (.slice none 0 0) []::L) Φ w:=
 M.jo (bd.refl w) _ (World.ownsRow_nil w 0 e 1) fun g al=>by simp[az.row,Value.ownBlock]at al
theorem Mem.CC{i:Nat}(M:Mem w0 O L Φ w)(h:L[i]? =some (.e7 ps))(aP:∀p∈ps',p∈ps):Mem w0 O (L.set i (.e7 ps')) Φ w:=
 M.view h _ (fun k p hp=>k p (aP p hp)) fun g al=>by
  obtain⟨p,hp,xS⟩:=List.mem_filterMap.1 al;exact List.mem_filterMap.2 ⟨p,aP p hp,xS⟩
theorem Mem.gr{i:Nat}(M:Mem w0 O L Φ w)(h:L[i]? =some (.e7 ps)){p:Value×List UInt8}(hp:p∈ps):Bytes w p.1 p.2:=M.dG i h p hp
end
section
variable{P:Program}{ρ:Operand->Value}{o:Oper}{w:World}{t k3 e:TypeId}{X Y:Operand}
theorem wb{b:Option Addr}{n c:Nat}{r:Bool}(aF:o.op=.binOp .eql t X Y k3)(bS:ρ X=.slice b n c)(du:ρ Y=.slice none 0 0)(aM:dN P t e=true)(ap:b.isNone=r):(execOp ρ o).run P w=.ok (.value (.bool r)) w:=by
 subst ap;have al:(eqGuard .eql t X Y (.slice b n c) (.slice none 0 0)).run P w=.ok () w:=rfl;have he:=run_equal_slice_nil (P:=P) w t e b n c (kg aM);have ak:binOp .eql t (.slice b n c) (.slice none 0 0)=(do pure (.bool (<-Op.equal t (.slice b n c) (.slice none 0 0)))):=rfl;simp only[execOp,aF,bS,du,Sem.run_bind,al,Result.andThen_ok,ak,he];rfl
theorem Cg{A B C:Operand}{k:IntKind}{x y z:Int}{args:List Operand}{b7:Array TypeId}(aF:o.op=.call {callee:=.builtin .min,args:=args.toArray,argTypes:=b7})(bm:args=[A,B,C])(aR:ρ A=.int k x)(aL:ρ B=.int k y)(hC:ρ C=.int k z):
  (execOp ρ o).run P w=.ok (.value (.int k (if z<(if y<x then y else x)then z else(if y<x then y else x)))) w:=by
 subst bm;have:=run_min_int3 (P:=P) w b7 o.type k k k x y z;simp[execOp,aF,resolve,invoke,builtin,aR,aL,hC,this]
theorem IX{A B:Operand}{k:IntKind}{x y:Int}{args:List Operand}{b7:Array TypeId}(aF:o.op=.call {callee:=.builtin .max,args:=args.toArray,argTypes:=b7})(bm:args=[A,B])(aR:ρ A=.int k x)(aL:ρ B=.int k y):
  (execOp ρ o).run P w=.ok (.value (.int k (if y>x then y else x))) w:=by
 subst bm;have:=run_max_int2 (P:=P) w b7 o.type k k x y;simp[execOp,aF,resolve,invoke,builtin,aR,aL,this]
end
end
end Go.a2
