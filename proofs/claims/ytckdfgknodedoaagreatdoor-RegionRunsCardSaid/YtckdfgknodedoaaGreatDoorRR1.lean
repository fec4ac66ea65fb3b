/- Texts of this proof. -/
import Derived.Test.YtckdfgknodedoaaGreatDoorRR
import Derived.KernelRfl
import Derived.Laws.Pointers
import Derived.Lib.AppendZeros
import Derived.Laws.BytesString
import Derived.Maps.RangeRun
import Derived.Test.YtckdfgknodedoaaGreatDoorProg
import Derived.Shelf.SlLaysM
import Derived.Shelf.SlLaysZI
import Derived.WalkKit
import Derived.ChangeSlices
import Derived.OpenShut
import Derived.WideShapes
import Derived.Lib.SmallJoins
set_option linter.unusedVariables false
set_option linter.unusedSimpArgs false
namespace Go.a2
section
open Go.RowKit
def uE:List Value->Nat->List (Nat×Value)
 |[],_=>[]
 |v::r,i=>(i,v)::uE r (i+1)
theorem Oo{fR:List Value}{i t:Nat}{v:Value}(h:(uE fR i).lookup t=some v):i<=t/\fR[t-i]? =some v:=by
 induction fR generalizing i with
 |nil=>simp[uE]at h
 |cons u r ck=>
  simp only[uE,List.lookup_cons]at h;by_cases e:t=i
  ·subst e;simp at h;subst h;simp
  ·have ak:(t==i)=false:=by simpa using e
   rw[ak]at h;obtain⟨aj,an⟩:=ck h;refine⟨by omega,?_⟩;have:t-i=(t-(i+1))+1:=by omega
   rw[this];simpa using an
section
variable{P:Program}{Q:Exit->Act->World->Prop}{l:List (Nat×Value)}{n:Nat}{a:Act}{w w0:World}{Φ:World->Prop}
theorem enter{f:FuncId}{fn:Func}{c:Code}{fR:List Value}{R:Ending->World->Prop}(bu:P.funcs[f]? =some fn)(ak:fn.body=some c)(a6:fn.ntmps=n)(bm:Nat.ble fR.length n=true)
  (h:∀a,Env (uE fR 0) n a->c.wp P (bodyPost P fn R) a w):Calls P f fR.toArray w R:=by
 have abd:fR.length<=n:=by simpa using bm
 refine calls_of_wp bu ak (h _ ⟨fun t v aM=>?_,by simp[a6];omega,U⟩);obtain⟨_,an⟩:=Oo aM;have h5:t<fR.length:=by simpa using(List.getElem?_eq_some_iff.1 an).1
 simp only[Array.getD_eq_getD_getElem?];rw[Array.getElem?_append_left (by simpa using h5)];simp at an;simp[an]
theorem eU{id:Nat}{os:List Oper}{y:Code}(h:wpList P os.toArray (Exit.then (y.wp P Q) Q) os a w):(Code.seq (.region id os.toArray false) y).wp P Q a w:=
 wp_seq (wp_region_lit h)
theorem lY{id:Nat}{os:List Oper}(h:wpList P os.toArray Q os a w):(Code.region id os.toArray false).wp P Q a w:=wp_region_lit h
theorem eY{ops:Array Oper}{y:Code}(h:y.wp P Q a w):wpList P ops (Exit.then (y.wp P Q) Q) [] a w:=h
theorem lA{K:Act->World->Prop}{id:Nat}(h:Q (.exit id) a w):Exit.then K Q (.exit id) a w:=h
theorem o7{id:Nat}(h:Q .normal a w):Exit.inBlock id Q (.exit id) a w:=by simpa [Exit.inBlock]using h
theorem O2{id x3:Nat}(eP:(x3==id)=false)(h:Q (.exit x3) a w):Exit.inBlock id Q (.exit x3) a w:=by
 have:¬x3=id:=by simpa using eP
 simpa [Exit.inBlock,this]using h
theorem o8{id:Nat}(h:Q .normal a w):Exit.inBlock id Q .normal a w:=h
theorem gV{y:Code}(h:y.wp P Q a w):Exit.then (y.wp P Q) Q .normal a w:=h
theorem cond_true{s:Tmp}{x y:Code}{t:Bool}(E:Env l n a)(aJ:l.lookup s=some (.bool t))(aM:t=true)(h:x.wp P Q a w):(Code.cond (.tmp s) x y).wp P Q a w:=
 wp_cond_true (by show a.tmps.getD s undef=_;rw[E.get _ _ aJ,aM]) h
theorem cond_false{s:Tmp}{x y:Code}{t:Bool}(E:Env l n a)(aJ:l.lookup s=some (.bool t))(aM:t=false)(h:y.wp P Q a w):(Code.cond (.tmp s) x y).wp P Q a w:=
 wp_cond_false (by show a.tmps.getD s undef=_;rw[E.get _ _ aJ,aM]) h
theorem cI{c:Code}(I:Nat->Act->World->Prop)(d:Nat)(bG:I d a w)(round:∀d a w,I d a w->c.wp P (Exit.then (fun a' w'=>∃ny,ny<d/\I ny a' w') Q) a w):(Code.loop c).wp P Q a w:=by
 intro b dD cs;have key:∀d a w,I d a w->∃e a' w',Q e a' w'/\Arrives P (lone (b.at a (.code c:: .inLoop c::dD)) cs w) b dD cs e a' w':=by
  intro d
  induction d using Nat.strongRecOn with
  |_ d ck=>
   intro a w cX;obtain⟨e,sT,uj,bE,qC⟩:=round d a w cX b (.inLoop c::dD) cs;cases e with
   |normal=>
    obtain⟨ny,h5,AV⟩:=bE;obtain⟨P7,Ov,aat,SK,R5⟩:=ck ny h5 sT uj AV;exact⟨P7,Ov,aat,SK,.of_steps (Steps.trans qC (.one step_inLoop)) R5⟩
   |exit id=>exact⟨_,sT,uj,bE,.pass (x:=.inLoop c) rfl (fun _ _=>.inl (by simp)) qC⟩
   |goto l=>exact⟨_,sT,uj,bE,.pass (x:=.inLoop c) rfl (fun _ _=>.inl (by simp)) qC⟩
   |ret=>exact⟨_,sT,uj,bE,.pass (x:=.inLoop c) rfl (fun _ _=>.inl (by simp)) qC⟩
   |panic jM=>exact⟨_,sT,uj,bE,.pass (x:=.inLoop c) rfl (fun _ _=>.inl (by simp)) qC⟩
   |outgrown=>exact⟨_,sT,uj,bE,.pass (x:=.inLoop c) rfl (fun _ _=>.inl (by simp)) qC⟩
 obtain⟨e,a',w',bE,qC⟩:=key d a w bG;exact⟨e,a',w',bE,.of_steps (.one step_loop) qC⟩
theorem pV{K:Act->World->Prop}(h:K a w):Exit.then K Q .normal a w:=h
theorem results1{fn:Func}{t:Tmp}{v:Value}(E:Env l n a)(ap:fn.results= #[.tmp t])(aD:l.lookup t=some v):(results fn a.tmps).run P w=.ok v w:=by
 rw[results_tmp ap,E.get t v aD]
theorem bi{fn:Func}{R:Ending->World->Prop}{t:Tmp}{v:Value}(E:Env l n a)(ap:fn.results= #[.tmp t])(aD:l.lookup t=some v)(h:R (.returned v) w):bodyPost P fn R .ret a w:=
 ⟨E.defers,v,results1 E ap aD,h⟩
theorem fN{fn:Func}{R:Ending->World->Prop}{t1 t2:Tmp}{v1 v2:Value}(E:Env l n a)(ap:fn.results= #[.tmp t1,.tmp t2])(aj:l.lookup t1=some v1)(an:l.lookup t2=some v2)(h:R (.returned (.tuple #[v1,v2])) w):bodyPost P fn R .ret a w:=
 ⟨E.defers,_,by rw[results_tmp2 ap,E.get _ _ aj,E.get _ _ an],h⟩
theorem pQ{fn:Func}{R:Ending->World->Prop}(E:Env l n a)(ap:fn.results= #[])(h:R (.returned (.tuple #[])) w):bodyPost P fn R .normal a w:=
 ⟨E.defers,_,results_none ap _ _ _,h⟩
theorem IV{t T:TypeId}{g k:Nat}{cs:Array Value}{fr:Nat×Nat}(aM:hv P t k=true)(al:w.heap[g]? =some (.cells cs T fr))(ab:cs.size=k):(loadVar t ⟨g,0,none⟩).run P w=.ok (.agg cs) w:=by
 have h:=cW (P:=P) (ρ:=cf []) (o:={op:=.load t (.const (.pointer (some ⟨g,0,none⟩))),dst:=none,type:=t,pos:=default,after:= #[],guard:=none}) (A:=.const (.pointer (some ⟨g,0,none⟩))) rfl rfl aM al ab;simp only[execOp,cf,Instr.loadAt,Instr.sureAddr,Sem.run_bind,Sem.run_pure,Result.andThen_ok]at h;cases aI:(loadVar t ⟨g,0,none⟩).run P w with
 |ok v sG=>
  rw[aI]at h;injection h with aj an;injection aj with aj;rw[aj,an]
 |halt=>rw[aI]at h;cases h
theorem gC{fn:Func}{R:Ending->World->Prop}{s:Tmp}{t T:TypeId}{g k:Nat}{cs:Array Value}{fr:Nat×Nat}(E:Env l n a)(ap:fn.results= #[.cell s t])(aP:l.lookup s=some (.pointer (some ⟨g,0,none⟩)))(aM:hv P t k=true)(al:w.heap[g]? =some (.cells cs T fr))(ab:cs.size=k)(h:R (.returned (.agg cs)) w):bodyPost P fn R .ret a w:=
 ⟨E.defers,.agg cs,by
  have aj:=E.get _ _ aP;rw[Array.getD_eq_getD_getElem?]at aj;simp[results,ap,aj,asAddr,IV aM al ab],h⟩
theorem fW{fn:Func}{R:Ending->World->Prop}{s u:Tmp}{t T:TypeId}{g k:Nat}{cs:Array Value}{fr:Nat×Nat}{v:Value}(E:Env l n a)(ap:fn.results= #[.cell s t,.tmp u])(aP:l.lookup s=some (.pointer (some ⟨g,0,none⟩)))(hu:l.lookup u=some v)(aM:hv P t k=true)(al:w.heap[g]? =some (.cells cs T fr))(ab:cs.size=k)(h:R (.returned (.tuple #[.agg cs,v])) w):bodyPost P fn R .ret a w:=
 ⟨E.defers,.tuple #[.agg cs,v],by
  have aj:=E.get _ _ aP;have an:=E.get _ _ hu;rw[Array.getD_eq_getD_getElem?]at aj an;simp[results,ap,aj,an,asAddr,IV aM al ab],h⟩
end
def Tm:Spec->Bool
 | .af _=>true
 | .rel _=>false
theorem ej.e6{Vs:List Spec}(h:Vs.all Tm=true):ej Vs:=by
 intro j p ax;have:=List.all_eq_true.1 h _ (List.mem_of_getElem? ax);cases this
def q5:Code->Nat->Option (Array Oper)
 | .region id ops _,n=>if id=n then some ops else none
 | .seq a b,n=>match q5 a n with|some o=>some o|none=>q5 b n
 | .cond _ a b,n=>match q5 a n with|some o=>some o|none=>q5 b n
 | .rangeFunc _ _ a b,n=>match q5 a n with|some o=>some o|none=>q5 b n
 | .block _ a,n| .loop a,n| .scope a,n=>q5 a n
 |_,_=>none
def c7(f:Func)(n:Nat):Array Oper:=((f.body.bind fun c=>q5 c n)).getD #[]
section
variable{α:Type}{P:Program}{val:α->Value}{outs:α->List az}{p:α->Prop}{ins L:List az}{Φ:World->Prop}{w0 w:World}
theorem _root_.Go.a2.Mem.fin{outs:List az}{p:Prop}(M:Mem w0 (aS ins) L Φ w)(aP:outs.Sublist L)(hp:p):dc (aS ins) w0 w/\Has w outs/\(∀g,aS outs g->aS ins g\/w0.heap.size<=g)/\p:=
 ⟨(M.out aP).1,(M.out aP).2.1,(M.out aP).2.2,hp⟩
theorem bX{v:Value}(M:Mem w0 (aS []) L Φ w):∃y:Unit,Ending.returned v=.returned ((fun _:Unit=>v) y)/\dc (aS []) w0 w/\Has w ((fun _:Unit=>[]) y)/\(∀g,aS ((fun _:Unit=>[]) y) g->aS [] g\/w0.heap.size<=g)/\True:=
 ⟨(),rfl,M.fin (List.nil_sublist _) trivial⟩
theorem ni{e:az}{i:Nat}(h:L[i]? =some e): [e].Sublist L:=List.singleton_sublist.2 (List.mem_of_getElem? h)
end
end
section
open Go.RowKit
inductive Fr where
 |uc (y:Code)
 |bl (id:Nat)
 |sR (K:Act->World->Prop)
def lM(P:Program)(de:Exit->Act->World->Prop):List Fr->Exit->Act->World->Prop
 |[]=>de
 | .uc y::s=>Exit.then (y.wp P (lM P de s)) (lM P de s)
 | .bl id::s=>Exit.inBlock id (lM P de s)
 | .sR K::s=>Exit.then K (lM P de s)
inductive hZ where
 |code (c:Code)
 |ops (all:Array Oper) (rest:List Oper)
 |fin (e:Exit)
def D5(P:Program)(de:Exit->Act->World->Prop)(p:hZ)(s:List Fr)(a:Act)(w:World):Prop:=
 match p with
 | .code c=>c.wp P (lM P de s) a w
 | .ops all r=>wpList P all (lM P de s) r a w
 | .fin e=>lM P de s e a w
def gw(P:Program)(de:Exit->Act->World->Prop)(n:Nat)(p:hZ)(s:List Fr)(l:List (Nat×Value))(w:World):Prop:=∀a,Env l n a->D5 P de p s a w
def pG(t:Nat):List (Nat×Value)->Option Value
 |[]=>none
 |(s,v)::l=>bif Nat.beq t s then some v else pG t l
theorem r7(t:Nat):∀l,pG t l=l.lookup t
 |[]=>rfl
 |(s,v)::l=>by
  rw[pG,List.lookup_cons,r7 t l];by_cases e:t=s
  ·subst e;simp
  ·have aj:Nat.beq t s=false:=by
    cases ak:Nat.beq t s with
    |false=>rfl
    |true=>exact absurd (Nat.eq_of_beq_eq_true ak) e
   have an:(t==s)=false:=by simpa using e
   rw[aj,an];rfl
def zc(l:List (Nat×Value)):Operand->Option Value
 | .tmp t=>pG t l
 | .const v=>some v
 | .global _=>none
 | .func _=>none
def xB(T f:Nat):List (Nat×Nat×Nat)->Option Nat
 |[]=>none
 |(t,g,k)::r=>bif Nat.beq T t&&Nat.beq f g then some k else xB T f r
theorem F3{T f k:Nat}:∀{F:List (Nat×Nat×Nat)},xB T f F=some k->(T,f,k)∈F
 |[],h=>by cases h
 |(t,g,j)::r,h=>by
  unfold xB at h;cases ak:Nat.beq T t&&Nat.beq f g with
  |true=>
   rw[ak]at h;have h:k=j:=(Option.some.inj h).symm;rw[Bool.and_eq_true]at ak;rw[Nat.eq_of_beq_eq_true ak.1,Nat.eq_of_beq_eq_true ak.2,h];exact List.mem_cons_self ..
  |false=>
   rw[ak]at h;exact List.mem_cons_of_mem _ (F3 h)
def sf(F:List (Nat×Nat×Nat))(l:List (Nat×Value)):Op->Option Value
 | .move x=>zc l x
 | .assign x=>zc l x
 | .extract (.tmp t) i=>match pG t l with
  |some (.tuple vs)=>vs.toList[i]?
  |_=>none
 | .nilCheck (.tmp t)=>match pG t l with
  |some (.pointer (some a))=>some (.pointer (some a))
  |_=>none
 | .fieldAddr T (.tmp t) f=>match pG t l with
  |some (.pointer (some ⟨g,off,none⟩))=>match xB T f F with
   |some k=>some (.pointer (some ⟨g,off+k,none⟩))
   |none=>none
  |_=>none
 |_=>none
def BS(F:List (Nat×Nat×Nat))(n:Nat)(all:Array Oper)(l:List (Nat×Value))(o:Oper):Option (Nat×Value):=
 match o.dst with
 |none=>none
 |some d=>bif Nat.blt d n then(match o.guard with
  |none=>match sf F l o.op with
   |some v=>some (d,v)
   |none=>none
  |some g=>bif dg all l o then(bif dh all l o then(match sf F l o.op with
    |some v=>some (d,v)
    |none=>none)else some (d,undef))else none)else none
def K0:Code->Option Nat
 | .seq _ b=>K0 b
 | .cond (.tmp t) _ _=>some t
 |_=>none
def stops(S:List Nat)(a:Code):Bool:=match S with
 |[]=>false
 |t::_=>match K0 a with
  |some u=>Nat.beq t u
  |none=>false
def hf(S:List Nat)(F:List (Nat×Nat×Nat))(n:Nat):Nat->Nat->hZ->List Fr->List (Nat×Value)->hZ×List Fr×List (Nat×Value)
 |0,_,p,s,l=>(p,s,l)
 |k+1,c,p,s,l=>match p with
  | .code x=>match x with
   | .seq a b=>bif stops S a then(.code (.seq a b),s,l)else hf S F n k c (.code a) (.uc b::s) l
   | .region id os Ac=>(match Ac with
    |false=>hf S F n k c (.ops os os.toList) s l
    |true=>(.code (.region id os true),s,l))
   | .cond (.tmp t) x y=>(match c with
    |0=>(.code (.cond (.tmp t) x y),s,l)
    |c+1=>(match pG t l with
     |some (.bool true)=>hf S F n k c (.code x) s l
     |some (.bool false)=>hf S F n k c (.code y) s l
     |_=>(.code (.cond (.tmp t) x y),s,l)))
   | .skip=>hf S F n k c (.fin .normal) s l
   | .block id x=>hf S F n k c (.code x) (.bl id::s) l
   | .ret=>hf S F n k c (.fin .ret) s l
   | .exit id=>hf S F n k c (.fin (.exit id)) s l
   |x=>(.code x,s,l)
  | .ops all r=>match r with
   |[]=>hf S F n k c (.fin .normal) s l
   |o::r=>(match c with
    |0=>(.ops all (o::r),s,l)
    |c+1=>match BS F n all l o with
     |some (d,v)=>hf S F n k c (.ops all r) s ((d,v)::l)
     |none=>(.ops all (o::r),s,l))
  | .fin e=>match s with
   |[]=>(.fin e,[],l)
   | .uc y::s=>(match e with
    | .normal=>hf S F n k c (.code y) s l
    | .exit id=>hf S F n k c (.fin (.exit id)) s l
    | .ret=>hf S F n k c (.fin .ret) s l
    |e=>(.fin e,.uc y::s,l))
   | .bl id::s=>(match e with
    | .normal=>hf S F n k c (.fin .normal) s l
    | .exit j=>bif Nat.beq j id then hf S F n k c (.fin .normal) s l else hf S F n k c (.fin (.exit j)) s l
    | .ret=>hf S F n k c (.fin .ret) s l
    |e=>(.fin e,.bl id::s,l))
   | .sR K::s=>(match e with
    | .exit id=>hf S F n k c (.fin (.exit id)) s l
    | .ret=>hf S F n k c (.fin .ret) s l
    |e=>(.fin e,.sR K::s,l))
section
variable{P:Program}{de:Exit->Act->World->Prop}{F:List (Nat×Nat×Nat)}{n:Nat}{l c9:List (Nat×Value)}{w:World}{p p':hZ}{s e4:List Fr}{o:Oper}{all:Array Oper}
theorem Lc{x:Operand}{v:Value}(h:zc l x=some v):cf l x=v/\sA l x=true:=by
 cases x with
 |tmp t=>
  have h:l.lookup t=some v:=by rw[<-r7];exact h
  simp[cf,sA,oO,h]
 |const u=>simpa [zc,cf,sA]using h
 |global=>cases h
 |func=>cases h
theorem BR(cG:F.all (fun x=>gG P x.1 x.2.1 x.2.2)=true){v:Value}(h:sf F l o.op=some v):(execOp (cf l) o).run P w=.ok (.value v) w/\dp l o=true:=by
 cases aF:o.op with
 |move x=>
  rw[aF]at h;obtain⟨aj,an⟩:=Lc h;exact⟨by simp[execOp,aF,aj],by simp[dp,aF,qV,nb,an]⟩
 |assign x=>
  rw[aF]at h;obtain⟨aj,an⟩:=Lc h;exact⟨by simp[execOp,aF,aj],by simp[dp,aF,qV,nb,an]⟩
 |extract x i=>
  rw[aF]at h;cases x with
  |tmp t=>
   simp only[sf]at h;split at h
   ·rename_i vs aI;rw[r7]at aI;exact⟨Wl aF aI (by simpa using h),by simp[dp,aF,qV,nb,sA,oO,aI]⟩
   ·cases h
  |_=>cases h
 |nilCheck x=>
  rw[aF]at h;cases x with
  |tmp t=>
   simp only[sf]at h;split at h
   ·rename_i a aI;rw[r7]at aI;obtain rfl:=Option.some.inj h;exact⟨ng aF aI,by simp[dp,aF,qV,nb,sA,oO,aI]⟩
   ·cases h
  |_=>cases h
 |fieldAddr T x f=>
  rw[aF]at h;cases x with
  |tmp t=>
   simp only[sf]at h;split at h
   ·rename_i g off aI;rw[r7]at aI;split at h
    ·rename_i k ab;obtain rfl:=Option.some.inj h;exact⟨mH aF (by simp[cf,aI]) (List.all_eq_true.1 cG _ (F3 ab)),by simp[dp,aF,qV,nb,sA,oO,aI]⟩
    ·cases h
   ·cases h
  |_=>cases h
 |_=>rw[aF]at h;cases h
theorem Vd(cG:F.all (fun x=>gG P x.1 x.2.1 x.2.2)=true){d:Nat}{v:Value}{r:List Oper}{Q:Exit->Act->World->Prop}(h:BS F n all l o=some (d,v))(k:∀a,Env ((d,v)::l) n a->wpList P all Q r a w){a:Act}(E:Env l n a):wpList P all Q (o::r) a w:=by
 unfold BS at h;cases aT:o.dst with
 |none=>rw[aT]at h;cases h
 |some ny=>
  rw[aT]at h;simp only at h;cases a6:Nat.blt ny n with
  |false=>rw[a6]at h;cases h
  |true=>
   rw[a6,_root_.cond_true]at h;cases al:o.guard with
   |none=>
    rw[al]at h;simp only at h;split at h
    ·rename_i u hu;obtain⟨rfl,rfl⟩:=Prod.mk.inj (Option.some.inj h);obtain⟨aj,an⟩:=BR (w:=w) cG hu;exact e5 E aT a6 an (by simp[dg,al]) (by simp[dh,Region.wanted,al]) aj k
    ·cases h
   |some g=>
    rw[al]at h;simp only at h;cases aB:dg all l o with
    |false=>rw[aB]at h;cases h
    |true=>
     rw[aB,_root_.cond_true]at h;cases be:dh all l o with
     |false=>
      rw[be,_root_.cond_false]at h;obtain⟨rfl,rfl⟩:=Prod.mk.inj (Option.some.inj h);exact oP E aT a6 aB be k
     |true=>
      rw[be,_root_.cond_true]at h;split at h
      ·rename_i u hu;obtain⟨rfl,rfl⟩:=Prod.mk.inj (Option.some.inj h);obtain⟨aj,an⟩:=BR (w:=w) cG hu;exact e5 E aT a6 an aB be aj k
      ·cases h
theorem h8{S:List Nat}(cG:F.all (fun x=>gG P x.1 x.2.1 x.2.2)=true):∀(k c:Nat) {p:hZ} {s:List Fr} {l:List (Nat×Value)},gw P de n (hf S F n k c p s l).1 (hf S F n k c p s l).2.1 (hf S F n k c p s l).2.2 w->gw P de n p s l w
 |0,_,p,s,l,h=>h
 |k+1,c,p,s,l,h=>by
  cases p with
  |code x=>
   cases x with
   |seq a b=>
    unfold hf at h;simp only at h;cases ak:stops S a with
    |true=>rw[ak]at h;exact h
    |false=>
     rw[ak]at h;exact fun f E=>wp_seq (h8 cG k _ (p:=.code a) (s:=.uc b::s) h f E)
   |region id os Ac=>
    cases Ac with
    |false=>
     exact fun f E=>wp_region_list (h8 cG k _ (p:=.ops os os.toList) h f E)
    |true=>exact h
   |cond x a b=>
    cases x with
    |tmp t=>
     cases c with
     |zero=>exact h
     |succ c=>
     unfold hf at h;simp only at h;split at h
     ·rename_i aM;rw[r7]at aM;exact fun f E=>cond_true E aM U (h8 cG k _ (p:=.code a) h f E)
     ·rename_i aM;rw[r7]at aM;exact fun f E=>cond_false E aM U (h8 cG k _ (p:=.code b) h f E)
     ·exact h
    |_=>exact h
   |skip=>exact fun f E=>wp_skip (h8 cG k _ (p:=.fin .normal) h f E)
   |block id x=>exact fun f E=>wp_block (h8 cG k _ (p:=.code x) (s:=.bl id::s) h f E)
   |ret=>exact fun f E=>wp_ret (h8 cG k _ (p:=.fin .ret) h f E)
   |exit id=>exact fun f E=>wp_exit (h8 cG k _ (p:=.fin (.exit id)) h f E)
   |_=>exact h
  |ops all r=>
   cases r with
   |nil=>exact h8 cG k _ (p:=.fin .normal) h
   |cons o r=>
    cases c with
    |zero=>exact h
    |succ c=>
    unfold hf at h;simp only at h;split at h
    ·rename_i d v aD;exact fun f E=>Vd cG aD (fun P8 dQ=>h8 cG k _ (p:=.ops all r) (l:=(d,v)::l) h P8 dQ) E
    ·exact h
  |fin e=>
   cases s with
   |nil=>cases e<;>exact h
   |cons x s=>
    cases x with
    |uc y=>cases e with
     |normal=>exact fun f E=>h8 cG k _ (p:=.code y) (s:=s) h f E
     |exit id=>exact fun f E=>h8 cG k _ (p:=.fin (.exit id)) (s:=s) h f E
     |ret=>exact fun f E=>h8 cG k _ (p:=.fin .ret) (s:=s) h f E
     |_=>exact h
    |bl id=>cases e with
     |normal=>exact fun f E=>h8 cG k _ (p:=.fin .normal) (s:=s) h f E
     |exit j=>
      unfold hf at h;simp only at h;cases ak:Nat.beq j id with
      |true=>
       rw[ak,_root_.cond_true]at h;have e:j=id:=Nat.eq_of_beq_eq_true ak;subst e;exact fun f E=>o7 (h8 cG k _ (p:=.fin .normal) (s:=s) h f E)
      |false=>
       rw[ak,_root_.cond_false]at h;have u9:(j==id)=false:=by
        cases aJ:j==id with
        |false=>rfl
        |true=>
         have e:j=id:=by simpa using aJ
         subst e;simp at ak
       exact fun f E=>O2 u9 (h8 cG k _ (p:=.fin (.exit j)) (s:=s) h f E)
     |ret=>exact fun f E=>h8 cG k _ (p:=.fin .ret) (s:=s) h f E
     |_=>exact h
    |sR K=>cases e with
     |exit id=>exact fun f E=>h8 cG k _ (p:=.fin (.exit id)) (s:=s) h f E
     |ret=>exact fun f E=>h8 cG k _ (p:=.fin .ret) (s:=s) h f E
     |_=>exact h
end
def mE(F:List (Nat×Nat×Nat))(n c:Nat)(p:hZ)(s:List Fr)(l:List (Nat×Value)):Option (Array Oper×Oper×List Oper×List Fr×List (Nat×Value)×Nat):=
 match hf [] F n 1000000 c p s l with
 |(.ops all (o::r),e4,c9)=>match o.dst with
  |some d=>bif Nat.blt d n&&(dp c9 o&&(dg all c9 o&&dh all c9 o))then some (all,o,r,e4,c9,d)else none
  |none=>none
 |_=>none
theorem qy(P:Program)(F:List (Nat×Nat×Nat))(cG:F.all (fun x=>gG P x.1 x.2.1 x.2.2)=true){de:Exit->Act->World->Prop}{n d:Nat}{l c9:List (Nat×Value)}{w:World}{p:hZ}{s e4:List Fr}{o:Oper}{all:Array Oper}{r:List Oper}{v:Value}(c:Nat)(h:mE F n c p s l=some (all,o,r,e4,c9,d))(ap:(execOp (cf c9) o).run P w=.ok (.value v) w)(k:gw P de n (.ops all r) e4 ((d,v)::c9) w):gw P de n p s l w:=by
 unfold mE at h;split at h
 ·rename_i p9 gz q1 s2 mB e;split at h
  ·rename_i ny aT;cases ak:Nat.blt ny n&&(dp mB gz&&(dg p9 mB gz&&dh p9 mB gz))with
   |false=>rw[ak]at h;cases h
   |true=>
    rw[ak,_root_.cond_true]at h;simp only[Option.some.injEq,Prod.mk.injEq]at h;obtain⟨rfl,rfl,rfl,rfl,rfl,rfl⟩:=h;simp only[Bool.and_eq_true]at ak;refine h8 (S:=[]) cG 1000000 c ?_;rw[e];exact fun f E=>e5 E aT ak.1 ak.2.1 ak.2.2.1 ak.2.2.2 ap k
  ·cases h
 ·cases h
theorem RR(P:Program)(F:List (Nat×Nat×Nat))(cG:F.all (fun x=>gG P x.1 x.2.1 x.2.2)=true){de:Exit->Act->World->Prop}{n d:Nat}{l c9:List (Nat×Value)}{w:World}{p:hZ}{s e4:List Fr}{o:Oper}{all:Array Oper}{r:List Oper}(c:Nat){b:Bool}(h:mE F n c p s l=some (all,o,r,e4,c9,d))(ap:(execOp (cf c9) o).run P w=.ok (.value (.bool b)) w)(ak:b=true)(k:gw P de n (.ops all r) e4 ((d,.bool true)::c9) w):gw P de n p s l w:=
 qy P F cG c h (ak▸ap) k
theorem iR(P:Program)(F:List (Nat×Nat×Nat))(cG:F.all (fun x=>gG P x.1 x.2.1 x.2.2)=true){de:Exit->Act->World->Prop}{n d:Nat}{l c9:List (Nat×Value)}{w:World}{p:hZ}{s e4:List Fr}{o:Oper}{all:Array Oper}{r:List Oper}(c:Nat){b:Bool}(h:mE F n c p s l=some (all,o,r,e4,c9,d))(ap:(execOp (cf c9) o).run P w=.ok (.value (.bool b)) w)(ak:b=false)(k:gw P de n (.ops all r) e4 ((d,.bool false)::c9) w):gw P de n p s l w:=
 qy P F cG c h (ak▸ap) k
theorem bn(P:Program)(F:List (Nat×Nat×Nat))(cG:F.all (fun x=>gG P x.1 x.2.1 x.2.2)=true){de:Exit->Act->World->Prop}{n d:Nat}{l c9:List (Nat×Value)}{w:World}{p:hZ}{s e4:List Fr}{o:Oper}{all:Array Oper}{r:List Oper}(c:Nat){q:Prop} [Decidable q](h:mE F n c p s l=some (all,o,r,e4,c9,d))(ap:(execOp (cf c9) o).run P w=.ok (.value (.bool (decide q))) w)(bE:q)(k:gw P de n (.ops all r) e4 ((d,.bool true)::c9) w):gw P de n p s l w:=
 qy P F cG c h (decide_eq_true bE▸ap) k
theorem ad(P:Program)(F:List (Nat×Nat×Nat))(cG:F.all (fun x=>gG P x.1 x.2.1 x.2.2)=true){de:Exit->Act->World->Prop}{n d:Nat}{l c9:List (Nat×Value)}{w:World}{p:hZ}{s e4:List Fr}{o:Oper}{all:Array Oper}{r:List Oper}(c:Nat){q:Prop} [Decidable q](h:mE F n c p s l=some (all,o,r,e4,c9,d))(ap:(execOp (cf c9) o).run P w=.ok (.value (.bool (decide q))) w)(bE:¬q)(k:gw P de n (.ops all r) e4 ((d,.bool false)::c9) w):gw P de n p s l w:=
 qy P F cG c h (decide_eq_false bE▸ap) k
theorem cO(P:Program)(F:List (Nat×Nat×Nat))(cG:F.all (fun x=>gG P x.1 x.2.1 x.2.2)=true){de:Exit->Act->World->Prop}{n d:Nat}{l c9:List (Nat×Value)}{w:World}{p:hZ}{s e4:List Fr}{o:Oper}{all:Array Oper}{r:List Oper}{t:IntKind}{x y:Int}(c:Nat)(h:mE F n c p s l=some (all,o,r,e4,c9,d))(ap:(execOp (cf c9) o).run P w=.ok (.value (.int t x)) w)(ak:x=y)(k:gw P de n (.ops all r) e4 ((d,.int t y)::c9) w):gw P de n p s l w:=
 qy P F cG c h (ak▸ap) k
theorem yn(P:Program)(F:List (Nat×Nat×Nat))(cG:F.all (fun x=>gG P x.1 x.2.1 x.2.2)=true){de:Exit->Act->World->Prop}{n d:Nat}{l c9:List (Nat×Value)}{w:World}{p:hZ}{s e4:List Fr}{o:Oper}{all:Array Oper}{r:List Oper}{c:Nat}(h:mE F n c p s l=some (all,o,r,e4,c9,d))(k:o.dst=some d->Nat.blt d n=true->dp c9 o=true->dg all c9 o=true->dh all c9 o=true->∀a,Env c9 n a->wpList P all (lM P de e4) (o::r) a w):gw P de n p s l w:=by
 unfold mE at h;split at h
 ·rename_i p9 gz q1 s2 mB e;split at h
  ·rename_i ny aT;cases ak:Nat.blt ny n&&(dp mB gz&&(dg p9 mB gz&&dh p9 mB gz))with
   |false=>rw[ak]at h;cases h
   |true=>
    rw[ak,_root_.cond_true]at h;simp only[Option.some.injEq,Prod.mk.injEq]at h;obtain⟨rfl,rfl,rfl,rfl,rfl,rfl⟩:=h;simp only[Bool.and_eq_true]at ak;refine h8 (S:=[]) cG 1000000 c ?_;rw[e];exact k aT ak.1 ak.2.1 ak.2.2.1 ak.2.2.2
  ·cases h
 ·cases h
def BB(F:List (Nat×Nat×Nat))(n c:Nat)(p:hZ)(s:List Fr)(l:List (Nat×Value)):Option (Array Oper×Oper×List Oper×List Fr×List (Nat×Value)):=
 match hf [] F n 1000000 c p s l with
 |(.ops all (o::r),e4,c9)=>match o.dst with
  |none=>bif dp c9 o&&(dg all c9 o&&dh all c9 o)then some (all,o,r,e4,c9)else none
  |some _=>none
 |_=>none
theorem Uz(P:Program)(F:List (Nat×Nat×Nat))(cG:F.all (fun x=>gG P x.1 x.2.1 x.2.2)=true){de:Exit->Act->World->Prop}{n:Nat}{l c9:List (Nat×Value)}{w:World}{p:hZ}{s e4:List Fr}{o:Oper}{all:Array Oper}{r:List Oper}{c:Nat}(h:BB F n c p s l=some (all,o,r,e4,c9))(k:o.dst=none->dp c9 o=true->dg all c9 o=true->dh all c9 o=true->∀a,Env c9 n a->wpList P all (lM P de e4) (o::r) a w):gw P de n p s l w:=by
 unfold BB at h;split at h
 ·rename_i p9 gz q1 s2 mB e;split at h
  ·rename_i aT;cases ak:dp mB gz&&(dg p9 mB gz&&dh p9 mB gz)with
   |false=>rw[ak]at h;cases h
   |true=>
    rw[ak,_root_.cond_true]at h;simp only[Option.some.injEq,Prod.mk.injEq]at h;obtain⟨rfl,rfl,rfl,rfl,rfl⟩:=h;simp only[Bool.and_eq_true]at ak;refine h8 (S:=[]) cG 1000000 c ?_;rw[e];exact k aT ak.1 ak.2.1 ak.2.2
  ·cases h
 ·cases h
theorem RQ(P:Program)(F:List (Nat×Nat×Nat))(cG:F.all (fun x=>gG P x.1 x.2.1 x.2.2)=true){de:Exit->Act->World->Prop}{n d:Nat}{l c9:List (Nat×Value)}{w:World}{p:hZ}{s e4:List Fr}{o:Oper}{all:Array Oper}{r:List Oper}{v:Value}{w0:World}{O:Nat->Prop}{L:List az}{Φ:World->Prop}{f:FuncId}{args:List Value}(M:Mem w0 O L Φ w)(c:Nat)(h:mE F n c p s l=some (all,o,r,e4,c9,d))(ap:(execOp (cf c9) o).run P w=.ok (.enter f args.toArray) w)(C:bH P f args w v)
  (k:∀w',Mem w0 O L Φ w'->gw P de n (.ops all r) e4 ((d,v)::c9) w'):gw P de n p s l w:=
 yn P F cG h fun aT a6 aJ al hw a E=>yR E M aT a6 aJ al hw ap C fun a' w' aA dQ=>k w' aA a' dQ
theorem bg(P:Program)(F:List (Nat×Nat×Nat))(cG:F.all (fun x=>gG P x.1 x.2.1 x.2.2)=true){de:Exit->Act->World->Prop}{n d:Nat}{l c9:List (Nat×Value)}{w:World}{p:hZ}{s e4:List Fr}{o:Oper}{all:Array Oper}{r:List Oper}{w0:World}{O:Nat->Prop}{L:List az}{Φ:World->Prop}{ob:Obj}(f:Nat->Value)(M:Mem w0 O L Φ w)(c:Nat)(h:mE F n c p s l=some (all,o,r,e4,c9,d))(ap:(execOp (cf c9) o).run P w=.ok (.value (f w.heap.size)) (w.alloc ob))
  (k:∀g w',Mem w0 O (.bb g ob::L) Φ w'->gw P de n (.ops all r) e4 ((d,f g)::c9) w'):gw P de n p s l w:=
 yn P F cG h fun aT a6 aJ al hw a E=>q9 f E M aT a6 aJ al hw ap fun g a' w' aA dQ=>k g w' aA a' dQ
theorem gs(P:Program)(F:List (Nat×Nat×Nat))(cG:F.all (fun x=>gG P x.1 x.2.1 x.2.2)=true){de:Exit->Act->World->Prop}{n:Nat}{l c9:List (Nat×Value)}{w:World}{p:hZ}{s e4:List Fr}{o:Oper}{all:Array Oper}{r:List Oper}{w0:World}{O:Nat->Prop}{L L':List az}{Φ:World->Prop}{i g:Nat}{cs cs':Array Value}{T:TypeId}{fr:Nat×Nat}(M:Mem w0 O L Φ w)(c:Nat)(dd:L[i]? =some (.bb g (.cells cs T fr)))(h:BB F n c p s l=some (all,o,r,e4,c9))(ap:(execOp (cf c9) o).run P w=.ok .skip (w.setRow g cs'))(pn:L.set i (.bb g (.cells cs' T fr))=L')
  (k:∀w',Mem w0 O L' Φ w'->gw P de n (.ops all r) e4 c9 w'):gw P de n p s l w:=
 Uz P F cG h fun aT aJ al hw a E=>sw E M dd aT aJ al hw ap pn fun a' w' aA dQ=>k w' aA a' dQ
theorem gc(P:Program)(F:List (Nat×Nat×Nat))(cG:F.all (fun x=>gG P x.1 x.2.1 x.2.2)=true){de:Exit->Act->World->Prop}{n d:Nat}{l c9:List (Nat×Value)}{w:World}{p:hZ}{s e4:List Fr}{o:Oper}{all:Array Oper}{r:List Oper}{w0:World}{O:Nat->Prop}{L R ins:List az}{Φ:World->Prop}{α:Type}{val:α->Value}{outs:α->List az}{pp:α->Prop}{f:FuncId}{args:List Value}(M:Mem w0 O L Φ w)(c:Nat)(h:mE F n c p s l=some (all,o,r,e4,c9,d))(ap:(execOp (cf c9) o).run P w=.ok (.enter f args.toArray) w)(C:aY P f args w ins val outs pp)(dd:ins++R=L)
  (k:∀x w',pp x->Mem w0 O (outs x++R) Φ w'->gw P de n (.ops all r) e4 ((d,val x)::c9) w'):gw P de n p s l w:=
 yn P F cG h fun aT a6 aJ al hw a E=>sr E M aT a6 aJ al hw ap C dd fun x a' w' ad aA dQ=>k x w' ad aA a' dQ
theorem jN(P:Program)(F:List (Nat×Nat×Nat))(cG:F.all (fun x=>gG P x.1 x.2.1 x.2.2)=true){de:Exit->Act->World->Prop}{n d:Nat}{l c9:List (Nat×Value)}{w:World}{p:hZ}{s e4:List Fr}{o:Oper}{all:Array Oper}{r:List Oper}{w0:World}{O:Nat->Prop}{L R:List az}{Φ:World->Prop}{α:Type}{val:α->Value}{outs:α->List az}{pp:α->Prop}{f:FuncId}{args:List Value}(ins:List az)(M:Mem w0 O L Φ w)(c:Nat)(h:mE F n c p s l=some (all,o,r,e4,c9,d))(ap:(execOp (cf c9) o).run P w=.ok (.enter f args.toArray) w)(dd:ins++R=L)(C:Has w ins->aY P f args w ins val outs pp)
  (k:∀x w',pp x->Mem w0 O (outs x++R) Φ w'->gw P de n (.ops all r) e4 ((d,val x)::c9) w'):gw P de n p s l w:=
 yn P F cG h fun aT a6 aJ al hw a E=>W4 ins E M aT a6 aJ al hw ap dd C fun x a' w' ad aA dQ=>k x w' ad aA a' dQ
theorem UM(P:Program)(F:List (Nat×Nat×Nat))(cG:F.all (fun x=>gG P x.1 x.2.1 x.2.2)=true){de:Exit->Act->World->Prop}{n:Nat}{l c9:List (Nat×Value)}{w:World}{p:hZ}{s e4:List Fr}{all:Array Oper}{r:List Oper}(c:Nat)(h:hf [] F n 1000000 c p s l=(.ops all r,e4,c9))(k:∀a,Env c9 n a->wpList P all (lM P de e4) r a w):gw P de n p s l w:=h8 cG 1000000 c (by rw[h];exact k)
theorem qX(P:Program)(F:List (Nat×Nat×Nat))(cG:F.all (fun x=>gG P x.1 x.2.1 x.2.2)=true){de:Exit->Act->World->Prop}{n:Nat}{l c9:List (Nat×Value)}{w:World}{p:hZ}{s e4:List Fr}{x:Code}(c:Nat)(h:hf [] F n 1000000 c p s l=(.code x,e4,c9))(k:∀a,Env c9 n a->x.wp P (lM P de e4) a w):gw P de n p s l w:=h8 cG 1000000 c (by rw[h];exact k)
theorem UD(P:Program)(F:List (Nat×Nat×Nat))(cG:F.all (fun x=>gG P x.1 x.2.1 x.2.2)=true){de:Exit->Act->World->Prop}{n:Nat}{l c9:List (Nat×Value)}{w:World}{p:hZ}{s:List Fr}{e:Exit}(c:Nat)(h:hf [] F n 1000000 c p s l=(.fin e,[],c9))(k:∀a,Env c9 n a->de e a w):gw P de n p s l w:=h8 cG 1000000 c (by rw[h];exact k)
theorem yo(P:Program)(F:List (Nat×Nat×Nat))(cG:F.all (fun x=>gG P x.1 x.2.1 x.2.2)=true){de:Exit->Act->World->Prop}{n:Nat}{l c9:List (Nat×Value)}{w:World}{p:hZ}{s e4:List Fr}{J:Act->World->Prop}(c:Nat)(h:hf [] F n 1000000 c p s l=(.fin .normal,.sR J::e4,c9))(k:∀a,Env c9 n a->J a w):gw P de n p s l w:=h8 cG 1000000 c (by rw[h];exact k)
section
variable{P:Program}{de:Exit->Act->World->Prop}{n:Nat}{l:List (Nat×Value)}{w:World}{s:List Fr}{all:Array Oper}{r:List Oper}{a:Act}
theorem cw(E:Env l n a)(h:gw P de n (.ops all r) s l w):wpList P all (lM P de s) r a w:=h a E
theorem dT{c:Code}(E:Env l n a)(h:gw P de n (.code c) s l w):c.wp P (lM P de s) a w:=h a E
theorem aV{c:Code}(E:Env l n a)(h:gw P de n (.code c) [] l w):c.wp P de a w:=h a E
theorem bN{p:hZ}(E:Env l n a)(h:gw P de n p s l w):D5 P de p s a w:=h a E
theorem cm{e:Exit}(E:Env l n a)(h:gw P de n (.fin e) s l w):lM P de s e a w:=h a E
theorem bA{c:Code}{J:Act->World->Prop}(E:Env l n a)(h:gw P de n (.code c) (.sR J::s) l w):c.wp P (Exit.then J (lM P de s)) a w:=h a E
end
end
section
open Go.Proofs.kD.kC Go.RowKit
def yw(F:List (Nat×Nat×Nat))(ops:Array Oper)(l:List (Nat×Value))(o:Oper):Option Value:=bif dg ops l o&&dh ops l o then sf F l o.op else none
theorem Ij{P:Program}{F:List (Nat×Nat×Nat)}(cG:F.all (fun x=>gG P x.1 x.2.1 x.2.2)=true){ops:Array Oper}{l:List (Nat×Value)}{o:Oper}{v:Value}{w:World}(h:yw F ops l o=some v):
  dp l o=true/\dg ops l o=true/\dh ops l o=true/\(execOp (cf l) o).run P w=.ok (.value v) w:=by
 unfold yw at h;cases ak:dg ops l o&&dh ops l o with
 |false=>rw[ak]at h;cases h
 |true=>
  rw[ak,_root_.cond_true]at h;rw[Bool.and_eq_true]at ak;obtain⟨aj,an⟩:=BR (w:=w) cG h;exact⟨an,ak.1,ak.2,aj⟩
theorem Rm(P:Program)(F:List (Nat×Nat×Nat))(cG:F.all (fun x=>gG P x.1 x.2.1 x.2.2)=true){Q:Exit->Act->World->Prop}{l:List (Nat×Value)}{n:Nat}{w0:World}{ops:Array Oper}{B:List Nat}{Vs:List Spec}{i:Nat}{o:Oper}{v:Value}
  (aF:ops[i]? =some o) (aP:Vs[i]? =some (.af v)) (h:∀x,yw F ops (cg ops B l Vs x i) o=some v:=by intro x;rfl):mh P ops B l n Vs w0 Q i:=
 jd aF aP fun x w ad ab=>by
  obtain⟨aj,an,aB,be⟩:=Ij (w:=w) cG (h x);exact⟨v,w,aj,an,aB,be,bd.refl _,U⟩
theorem Wb(P:Program)(F:List (Nat×Nat×Nat))(cG:F.all (fun x=>gG P x.1 x.2.1 x.2.2)=true){Q:Exit->Act->World->Prop}{l:List (Nat×Value)}{n:Nat}{w w0:World}{ops:Array Oper}{B:List Nat}{Vs:List Spec}{i:Nat}{Fs:Nat->Nat->Prop}{O:Nat->Prop}{I dJ:List az}{Φ:World->Prop}{o:Oper}{v:Value}
  (aF:ops[i]? =some o) (aP:Vs[i]? =some (.af v)) (M:Mem w0 O (I++dJ) Φ w) (lG:∀i g,Fs i g->aS I g) (h:∀x,yw F ops (cg ops B l Vs x i) o=some v:=by intro x;rfl):iA P ops B l n Vs (fs Fs w.drew) Q i:=
 AS aF aP M lG fun x w' aA aL ab=>by
  obtain⟨aj,an,aB,be⟩:=Ij (w:=w') cG (h x);exact⟨v,w',aj,an,aB,be,bd.refl _,U⟩
theorem bY{P:Program}{Q:Exit->Act->World->Prop}{l:List (Nat×Value)}{n:Nat}{w w0:World}{ops:Array Oper}{B:List Nat}{Vs:List Spec}{i:Nat}{Fs:Nat->Nat->Prop}{O:Nat->Prop}{I dJ:List az}{Φ:World->Prop}{o:Oper}{v:Value}
  (aF:ops[i]? =some o) (aP:Vs[i]? =some (.af v)) (M:Mem w0 O (I++dJ) Φ w) (lG:∀i g,Fs i g->aS I g) (h:∀(x:Nat->Value) (w':World),Mem w0 O dJ Φ w'->w.heap.size<=w'.heap.size->(∀j,waits B i j=true->fq Vs x w' j)->(execOp (cf (cg ops B l Vs x i)) o).run P w'=.ok (.value v) w')
  (aj:∀x,dp (cg ops B l Vs x i) o=true:=by intro x;rfl) (an:∀x,dg ops (cg ops B l Vs x i) o=true:=by intro x;rfl) (aB:∀x,dh ops (cg ops B l Vs x i) o=true:=by intro x;rfl):iA P ops B l n Vs (fs Fs w.drew) Q i:=
 AS aF aP M lG fun x w' aA aL ab=>⟨v,w',aj x,an x,aB x,h x w' aA aL ab,bd.refl _,rfl⟩
end
section
open Go.RowKit
theorem Wh{P:Program}{ρ:Operand->Value}{o:Oper}{w:World}{t:TypeId}{ps:List (Nat×Operand)}{vs pre:List Value}{s0:Nat}{gE:List Nat}{z:List Value}{us:List Value}(aF:o.op=.build t ps.toArray)(aD:ps.map (fun p=>(p.1,ρ p.2))=(vs.zipIdx 1).map fun x=>(x.2,x.1))
  (aM:iy P t (s0::gE) (pre++z)=true) (au:zeroOf P t=some (.agg (pre++z).toArray)) (m7:pre.length=s0) (aP:vs.map (·.cells.size)=gE.take vs.length) (aI:Nat.ble vs.length gE.length=true) (qL:Nat.ble gE.sum z.length=true) (hu:pre++(vs.map (·.cells.toList)).flatten++z.drop (gE.take vs.length).sum=us):
  (execOp ρ o).run P w=.ok (.value (.agg us.toArray)) w:=by
 subst hu;unfold iy at aM;cases lI:P.underlying t with
 |none=>rw[lI]at aM;cases aM
 |some d=>
  rw[lI]at aM;cases d with
  |struct dX=>
   simp only[Bool.and_eq_true,beq_iff_eq,List.all_eq_true]at aM;obtain⟨⟨aj,an⟩,_⟩:=aM;have lJ:(zeroValue t).run P w=.ok (.agg (pre++z).toArray) w:=by
    unfold zeroOf at au;cases hi:P.info? t with
    |none=>rw[hi]at au;cases au
    |some i=>rw[hi]at au;simp only[Option.bind_some]at au;simp[zeroValue,typeInfo,hi,au]
   have vu:(dX.mapM (m:=Sem) fun f=>do pure (f.offset,<-sizeOf f.type)).run P w=.ok (pieces 0 (s0::gE) 0).toArray w:=by
    have key:=Cf (P:=P) (w:=w) (fun f:Field=>(do pure (f.offset,<-sizeOf f.type):Sem (Nat×Nat))) (fun f=>(f.offset,(match P.info? f.type with|some i=>i.size|none=>0))) dX.toList (fun f bu=>by
     obtain⟨i,hi⟩:=Option.isSome_iff_exists.1 (an f bu);simp[sizeOf,typeInfo,hi])
    have kL:(dX.toList.map fun f=>(f.offset,(match P.info? f.type with|some i=>i.size|none=>0)))=pieces 0 (s0::gE) 0:=aj;rw[kL]at key;rw[Array.mapM_eq_mapM_toList,map_eq_pure_bind,Sem.run_bind,key,Result.andThen_ok,Sem.run_pure]
   have pu:=Ak (fun i=>(pieces 0 (s0::gE) 0).toArray[i]?) vs gE 1 s0 pre z m7 aP (by simpa using aI) (fun j _=>by
    simp only[List.getElem?_toArray,pieces,Nat.add_comm 1 j,List.getElem?_cons_succ,Nat.zero_add]) (by simpa using qL)
   rw[aP]at pu;have jz:(ps.toArray.map fun x=>(x.1,ρ x.2)).toList=(vs.zipIdx 1).map fun x=>(x.2,x.1):=by simpa using aD
   simp only[execOp,aF,Instr.build,Sem.run_bind,lJ,Result.andThen_ok,run_underlying lI,vu,jz,Value.cells];simp only[pu];rfl
  |_=>cases aM
section
variable{P:Program}{ρ:Operand->Value}{o:Oper}{w:World}{t:TypeId}{B0:Nat}
theorem Om{cs:Array Value}(aL:B0<=w.heap.size)(aF:o.op=.alloc t)(au:zeroOf P t=some (.agg cs)):∃v w',(execOp ρ o).run P w=.ok (.value v) w'/\bd w w'/\∃g:Nat,v=.pointer (some ⟨g,0,none⟩)/\Has w' [.bb g (.cells cs t)]/\(∀q,aS [az.bb g (.cells cs t)] q->aS [] q\/B0<=q)/\True:=by
 refine⟨_,_,bT aF au,bd.alloc _ _,w.heap.size,U,⟨fun x ad=>?_,fun x ad g al=>?_,List.pairwise_singleton _ _⟩,fun q bE=>?_,trivial⟩
 ·simp at ad;subst ad;show(w.heap.push _)[w.heap.size]? =_
  simp
 ·simp at ad;subst ad;have:g=w.heap.size:=by simpa [az.bb]using al
  subst this;simp
 ·have:q=w.heap.size:=by simpa [az.bb]using g9.1 bE
  omega
end
theorem Qc(z:List Value)(au:z.length=4)(a b c d:BitVec 8):Instr.fill (fun i=>some (i,1)) z.toArray [(0,b1 a),(1,b1 b),(2,b1 c),(3,b1 d)]=some (ao [⟨a⟩,⟨b⟩,⟨c⟩,⟨d⟩]).toArray:=by
 have kj:∀x:BitVec 8,(b1 x).cells= #[b1 x]:=fun _=>rfl;rw[mZ (kj _) (by omega),mZ (kj _) (by simp;omega),mZ (kj _) (by simp;omega),mZ (kj _) (by simp;omega)]
 match z,au with
 |[_,_,_,_],_=>rfl
end
section
open Go.RowKit
section
variable{P:Program}
variable{ρ:Operand->Value}{o:Oper}{w:World}
theorem Wo{F:Fn}{xs ys:List Operand}{us vs:List Value}(aF:o.op=.makeFunc F xs.toArray ys.toArray)(ad:xs.map ρ=us)(bn:ys.map ρ=vs):(execOp ρ o).run P w=.ok (.value (.func F us.toArray vs.toArray)) w:=by
 subst ad bn;simp[execOp,aF,Instr.makeFunc]
theorem Wi{x:Operand}{args:List Operand}{b7:Array TypeId}{f:FuncId}{us cs:List Value}(aF:o.op=.call {callee:=.value x,args:=args.toArray,argTypes:=b7})(ad:ρ x=.func (.func f) us.toArray cs.toArray)(bu:bO P f=true):
  (execOp ρ o).run P w=.ok (.enter f (us++args.map ρ++cs).toArray) w:=by
 unfold bO at bu;cases h:P.funcs[f]? with
 |none=>rw[h]at bu;cases bu
 |some fn=>
  rw[h]at bu;simp only[Bool.and_eq_true,Bool.not_eq_true']at bu;obtain⟨aj,an⟩:=bu;have aB:¬fn.body=none:=by cases ak:fn.body<;>simp_all
  have be:¬fn.name= "runtime.NumGoroutine" :=by simpa using an
  simp[execOp,aF,resolve,ad,Deferred.ofValue,invoke,callFunc,h,be,aB,program,Sem.run]
end
end
section
open Go.RowKit
section
variable{P:Program}{ρ:Operand->Value}{o:Oper}{w:World}{t e:TypeId}{X:Operand}
theorem wa{L H K:Option Operand}{m g lo hi mx:Nat}(aF:o.op=.slice t X L H K)(bS:ρ X=.pointer (some ⟨g,0,none⟩))(aM:ky P t e m=true)(aP:eS P e 1=true)(cY:mm ρ K m mx)(th:mm ρ H m hi)(dd:mm ρ L 0 lo)(RY:K.isSome=true->H.isSome=true)(aj:lo<=hi)(an:hi<=mx)(aB:mx<=m)(eP:mx≠lo):
  (execOp ρ o).run P w=.ok (.value (.slice (some ⟨g,lo,none⟩) (hi-lo) (mx-lo))) w:=by
 unfold ky at aM;cases hu:P.underlying t with
 |none=>rw[hu]at aM;cases aM
 |some d=>
  rw[hu]at aM;cases d with
  |array r8 bV=>
   simp at aM;obtain⟨rfl,rfl⟩:=aM;cases K with
   |none=>
    simp only[mm]at cY;subst cY;cases H with
    |none=>
     simp only[mm]at th;subst th;cases L with
     |none=>
      simp only[mm]at dd;subst dd;simp[execOp,aF,bS,Instr.sliceAt,Instr.sureAddr,run_underlying hu,Instr.sliceBounds,kc (w:=w) aP,add_plain]
     |some L=>
      obtain⟨gk,Du,aI,oy⟩:=dd;simp[execOp,aF,bS,aI,Instr.sliceAt,Instr.sureAddr,run_underlying hu,Instr.sliceBounds,run_sliceBound oy aj,kc (w:=w) aP,add_plain,eP]
    |some H=>
     obtain⟨hQ,Dv,cc,jA⟩:=th;cases L with
     |none=>
      simp only[mm]at dd;subst dd;simp[execOp,aF,bS,cc,Instr.sliceAt,Instr.sureAddr,run_underlying hu,Instr.sliceBounds,run_sliceBound jA an,kc (w:=w) aP,add_plain]
     |some L=>
      obtain⟨gk,Du,aI,oy⟩:=dd;simp[execOp,aF,bS,cc,aI,Instr.sliceAt,Instr.sureAddr,run_underlying hu,Instr.sliceBounds,run_sliceBound jA an,run_sliceBound oy aj,kc (w:=w) aP,add_plain,eP]
   |some K=>
    obtain⟨vE,abQ,ab,GZ⟩:=cY;cases H with
    |none=>cases RY rfl
    |some H=>
     obtain⟨hQ,Dv,cc,jA⟩:=th;cases L with
     |none=>
      simp only[mm]at dd;subst dd;simp[execOp,aF,bS,cc,ab,Instr.sliceAt,Instr.sureAddr,run_underlying hu,Instr.sliceBounds,run_sliceBound GZ aB,run_sliceBound jA an,kc (w:=w) aP,add_plain]
     |some L=>
      obtain⟨gk,Du,aI,oy⟩:=dd;simp[execOp,aF,bS,cc,ab,aI,Instr.sliceAt,Instr.sureAddr,run_underlying hu,Instr.sliceBounds,run_sliceBound GZ aB,run_sliceBound jA an,run_sliceBound oy aj,kc (w:=w) aP,add_plain,eP]
  |_=>cases aM
end
theorem G7(v:Int){j:Nat}(aj:1<=j)(qz:j<=8):IntKind.u8.wrap (v.fdiv (2^min (8*((j:Int)-1)).toNat IntKind.i64.bits))=(((aO v)[8-j]'(by rw[eo];omega)).toNat:Int):=by
 have kM:∀x:Int,IntKind.u8.wrap x=x%256:=fun _=>rfl;obtain rfl|rfl|rfl|rfl|rfl|rfl|rfl|rfl:j=1\/j=2\/j=3\/j=4\/j=5\/j=6\/j=7\/j=8:=by omega
 ·refine(congrArg IntKind.u8.wrap (fd (k:=1) (by decide) U)).trans ?_;show _=((UInt8.ofInt v).toNat:Int);rw[iH,kM];omega
 ·refine(congrArg IntKind.u8.wrap (fd (k:=256) (by decide) U)).trans ?_;show _=((UInt8.ofInt (v/256)).toNat:Int);rw[iH,kM]
 ·refine(congrArg IntKind.u8.wrap (fd (k:=65536) (by decide) U)).trans ?_;show _=((UInt8.ofInt (v/65536)).toNat:Int);rw[iH,kM]
 ·refine(congrArg IntKind.u8.wrap (fd (k:=16777216) (by decide) U)).trans ?_;show _=((UInt8.ofInt (v/16777216)).toNat:Int);rw[iH,kM]
 ·refine(congrArg IntKind.u8.wrap (fd (k:=4294967296) (by decide) U)).trans ?_;show _=((UInt8.ofInt (v/4294967296)).toNat:Int);rw[iH,kM]
 ·refine(congrArg IntKind.u8.wrap (fd (k:=1099511627776) (by decide) U)).trans ?_;show _=((UInt8.ofInt (v/1099511627776)).toNat:Int);rw[iH,kM]
 ·refine(congrArg IntKind.u8.wrap (fd (k:=281474976710656) (by decide) U)).trans ?_;show _=((UInt8.ofInt (v/281474976710656)).toNat:Int);rw[iH,kM]
 ·refine(congrArg IntKind.u8.wrap (fd (k:=72057594037927936) (by decide) U)).trans ?_;show _=((UInt8.ofInt (v/72057594037927936)).toNat:Int);rw[iH,kM]
def l8(l:List UInt8)(off:Nat)(m:List UInt8)(i:Nat):List UInt8:=l.take off++m.take i++l.drop (off+i)
theorem Vk{l m:List UInt8}{off:Nat}:l8 l off m 0=l:=by simp[l8]
theorem Vl{l m:List UInt8}{off c:Nat}(h:m.length=c):l8 l off m c=l.take off++m++l.drop (off+c):=by
 subst h;simp[l8]
theorem Vm{l m:List UInt8}{off i:Nat}(aj:off+i<=l.length)(an:i<=m.length):(l8 l off m i).length=l.length:=by simp[l8];omega
theorem Vn{l m:List UInt8}{off i:Nat}(aj:off+i<l.length)(an:i<m.length):(l8 l off m i).set (off+i) (m[i]'an)=l8 l off m (i+1):=by
 have cz:(l.take off++m.take i).length=off+i:=by simp;omega
 unfold l8;rw[List.set_append_right _ _ (by omega),cz,Nat.sub_self,List.drop_eq_getElem_cons aj,List.take_succ_eq_append_getElem an,List.set_cons_zero];simp only[List.append_assoc,List.cons_append,List.nil_append,Nat.add_assoc]
def eQ(n:Nat)(v:Int):List UInt8:=(aO v).drop (8-n)
theorem jB{n:Nat}(v:Int)(h:n<=8):(eQ n v).length=n:=by simp[eQ,eo];omega
theorem Ho{n i:Nat}{v:Int}(h:n<=8)(hi:i<n):(eQ n v)[i]'(by rw[jB v h];exact hi)=(aO v)[8-(n-i)]'(by rw[eo];omega):=by
 unfold eQ;rw[List.getElem_drop];congr 1;omega
end
section
open Go.RowKit
theorem qD{w:World}{e:TypeId}{sz n:Nat}{v:Value}{xs:List Value}(h:w.ownsRow 0 e sz v n xs):Has w [.row e sz v n xs]:=⟨fun x ad=>by
  simp at ad;subst ad;exact h,fun x ad g al=>by
  simp at ad;subst ad;have dq:v.ownBlock=some g:=by simpa [az.row]using al
  rcases h.2 with⟨rfl,_⟩|⟨cF,cap,dz,rfl,_,dZ,_⟩
  ·simp[Value.ownBlock]at dq
  ·simp[Value.ownBlock]at dq;subst dq;exact(Array.getElem?_eq_some_iff.1 dZ).1,List.pairwise_singleton _ _⟩
theorem V5{w w':World}{e:TypeId}{sz n:Nat}{v:Value}{xs:List Value}(h:w.ownsRow 0 e sz v n xs)(ad:bd w w'):w'.ownsRow 0 e sz v n xs:=((qD h).ext ad).dG 0 rfl
structure rq(B N:Nat)(w w':World):Prop where
 jM:dc (fun g=>B<=g) w w'
 row:∀e v n xs,n<=N->w.ownsRow 0 e 1 v n xs->w'.ownsRow 0 e 1 v n xs
theorem rq.ext{B N:Nat}{w w':World}(h:bd w w'):rq B N w w':=⟨.kW h,fun e v n xs _ k=>V5 k h⟩
section
variable{P:Program}{ρ:Operand->Value}{o:Oper}{w:World}{t dP e bV:TypeId}{X Y:Operand}
theorem IN{B bytes N m:Nat}{v x:Value}{xs news:List Value}{args:List Operand}{b7:List TypeId}(aL:B<=w.heap.size)(aF:o.op=.call {callee:=.builtin .append,args:=args.toArray,argTypes:=b7.toArray})(bm:args=[X,Y])(fp:b7=[t,dP])(bS:ρ X=v)(du:ρ Y=x)
  (aM:dN P t e=true) (h6:dN P dP bV=true) (au:hl P e 1=true) (ak:hk P e bytes=true) (je:w.ownsRow 0 e 1 v N xs) (ap:Reads 1 w x m news) (aj:∀u∈news,u.oneCell'=true) (g1:(N+m)*(bytes+1)<=140737488355328) (aD:∀g,v.ownBlock=some g->B<=g):
  ∃bR w',(execOp ρ o).run P w=.ok (.value bR) w'/\rq B N w w'/\w'.ownsRow 0 e 1 bR (N+m) (xs++news)/\(∀g,bR.ownBlock=some g->B<=g)/\(∀g,v=.slice (some ⟨g,0,none⟩) 0 0->bd w w'):=by
 subst bm fp;unfold hl at au;unfold hk at ak;cases hi:P.info? e with
 |none=>rw[hi]at au;cases au
 |some i=>
  rw[hi]at au ak;simp only[Bool.and_eq_true,beq_iff_eq]at au ak;cases j5:i.zero with
  |none=>rw[j5]at au;cases au.2
  |some z=>
   rw[j5]at au;have oz:z.cells.size=1:=by simpa using au.2
   have hd:i.size=1:=au.1;have cz:(N+m)*(bytes+1)=(N+m)*bytes+(N+m):=by rw[Nat.mul_add,Nat.mul_one]
   have aP:Src P 1 dP x m news w:=ap.src (kg h6) aj;have aI:=aP.newsLen;have lI:=kg aM;have u1:N+m<=maxLen:=by simp only[maxLen];omega
   have hlen:(xs++news).length=(N+m)*1:=by rw[List.length_append,je.1,aI,Nat.add_mul]
   have key:∀bR w',(Builtin.append_ #[t,dP] o.type #[v,x]).run P w=.ok bR w'->(execOp ρ o).run P w=.ok (.value bR) w':=fun bR w' h=>by
    simp[execOp,aF,resolve,invoke,builtin,bS,du,h]
   have grown:∀(base:Option Addr) (cap:Nat),v=.slice base N cap->cap<N+m->(Builtin.firstCells i.size N (.slice base N cap)).run P w.drew=.ok xs.toArray w.drew->∃bR w',(execOp ρ o).run P w=.ok (.value bR) w'/\bd w w'/\w'.ownsRow 0 e 1 bR (N+m) (xs++news)/\(∀g,bR.ownBlock=some g->w.heap.size<=g):=by
    rintro base cap rfl h5 hold;have ap:=run_append_grow_src (P:=P) w t dP o.type e i z lI hi j5 base N cap xs hold x m news (hd▸aP) (by omega) (by simp only[maxLen]at u1;omega) (growslice_fits (by omega) (by rw[ak];omega));have hb:=grownCap_ge w (N+m) cap e;have hy:grownCap w (N+m) cap e<=maxLen:=grownCap_le_maxLen w (N+m) cap e u1;refine⟨_,_,key _ _ ap,(bd.drew w).trans (bd.alloc _ _),⟨hlen,.inr ⟨w.heap.size,_,_,U,Nat.zero_le _,heap_alloc_new w.drew _,hb,hy,?_,?_⟩⟩,fun g al=>by simp[Value.ownBlock]at al;omega⟩
    ·simp only[Array.size_append,List.size_toArray,size_zeroCells,oz,hlen,<-Nat.add_mul];congr 1;omega
    ·simp only[Array.toList_append];rw[<-hlen];exact List.take_left
   rcases je.2 with⟨rfl,rfl⟩|⟨g,cap,dz,rfl,AZ,al,mu,hy,fo,Bi⟩
   ·have ad:xs=[]:=List.eq_nil_of_length_eq_zero (by simpa using je.1);subst ad;by_cases hm:m=0
    ·subst hm;have a6:news=[]:=List.eq_nil_of_length_eq_zero (by simpa using aI);subst a6;refine⟨.slice none 0 0,w,key _ _ ?_,.ext (bd.refl w),World.ownsRow_nil w 0 e 1,fun g h=>by simp[Value.ownBlock]at h,fun g h=>bd.refl w⟩;rcases aP.kind with⟨bV,ab⟩|ab<;>simp[Builtin.append_,run_underlying lI,run_underlying ab,sizeOf,typeInfo,hi,aP.len,hd,aP.cells,storeCells]
    ·obtain⟨bR,w',gn,fY,a3,a4⟩:=grown none 0 rfl (by omega) (by simp[Builtin.firstCells]);exact⟨bR,w',gn,.ext fY,a3,fun g al=>Nat.le_trans aL (a4 g al),fun g h=>fY⟩
   ·by_cases r2:N+m<=cap
    ·have pv:N*1+news.length<=dz.size:=by rw[aI,fo,<-Nat.add_mul];exact Nat.mul_le_mul_right _ r2
     have hP:=run_storeCells_at P g (N*1) e news 0 dz w al (by simpa using pv) aP.one;simp only[Nat.add_zero]at hP;have ap:(Builtin.append_ #[t,dP] o.type #[.slice (some ⟨g,0,none⟩) N cap,x]).run P w=.ok (.slice (some ⟨g,0,none⟩) (N+m) cap) (w.setRow g (dz.toList.take (N*1)++news++dz.toList.drop (N*1+news.length)).toArray):=by
      have aJ:=aP.cells;rcases aP.kind with⟨bV,ab⟩|ab<;>simp[Builtin.append_,run_underlying lI,run_underlying ab,sizeOf,typeInfo,hi,aP.len,r2,hd,aJ,Addr.add_lit]<;>(simp at hP;rw[hP];rfl)
     have xZ:(dz.toList.take (N*1)++news++dz.toList.drop (N*1+news.length)).length=dz.size:=by
      simp only[List.length_append,List.length_take,List.length_drop,Array.length_toList];omega
     have Sk:B<=g:=aD g rfl;have cc:=setRow_heap w g dz (dz.toList.take (N*1)++news++dz.toList.drop (N*1+news.length)).toArray e (0,0) al;refine⟨_,_,key _ _ ap,⟨⟨U,U,U,⟨by simp,fun k ab a6=>setRow_other w g k _ (fun e=>a6 (by subst e;exact Sk))⟩⟩,fun c6 v2 HD abR xW an=>?_⟩,⟨hlen,.inr ⟨g,cap,_,U,AZ,cc,r2,hy,by simpa using xZ.trans fo,?_⟩⟩,fun tg h=>by simp[Value.ownBlock]at h;omega,fun tg h=>?_⟩
     ·rcases an.2 with⟨rfl,rfl⟩|⟨cF,EK,EV,rfl,jr,vk,GG,Gt,Gu,GW⟩
      ·exact⟨an.1,.inl ⟨U,U⟩⟩
      ·by_cases kk:cF=g
       ·subst kk;rw[al]at vk;obtain⟨rfl,rfl,_⟩:=by simpa using vk
        refine⟨an.1,.inr ⟨cF,EK,_,U,jr,cc,GG,Gt,by simpa using xZ.trans Gu,?_⟩⟩;rw[<-GW];simp only[Nat.mul_one,List.append_assoc];rw[List.take_append_of_le_length (by simp;omega),List.take_take,Nat.min_eq_left xW]
       ·exact⟨an.1,.inr ⟨cF,EK,EV,U,jr,(setRow_other w g cF _ kk).trans vk,GG,Gt,Gu,GW⟩⟩
     ·rw[Bi,<-hlen];exact List.take_left
     ·have ll:N=0/\cap=0:=by injection h with _ aj an;exact⟨aj,an⟩
      obtain⟨rfl,rfl⟩:=ll;have a6:news=[]:=List.eq_nil_of_length_eq_zero (by omega);have Sb:dz.toList=[]:=List.eq_nil_of_length_eq_zero (by simpa using fo);have:(dz.toList.take (0*1)++news++dz.toList.drop (0*1+news.length)).toArray=dz:=by
       apply Array.toList_inj.1;simp[a6,Sb]
      rw[this,setRow_self w g dz e (0,0) al];exact bd.refl w
    ·have holds:∀j u,xs[j]? =some u->w.cell? ((⟨g,0,none⟩:Addr).add j)=some u:=je.cells (g:=g) rfl;have hold:=run_firstCells_some (P:=P) w.drew i.size N ⟨g,0,none⟩ N cap xs (hd▸je.1) (by simpa using holds);obtain⟨bR,w',gn,fY,a3,a4⟩:=grown (some ⟨g,0,none⟩) cap rfl (by omega) hold;exact⟨bR,w',gn,.ext fY,a3,fun g al=>Nat.le_trans aL (a4 g al),fun g h=>fY⟩
end
theorem v8{P:Program}{ρ:Operand->Value}{o:Oper}{w:World}{t k3:TypeId}{X Y:Operand}{x y z:Int}(aF:o.op=.binOp .quo t X Y k3)(bS:ρ X=.int .i64 x)(du:ρ Y=.int .i64 y)(bG:y≠0)(au:IntKind.i64.wrap (x.tdiv y)=z):(execOp ρ o).run P w=.ok (.value (.int .i64 z)) w:=by
 subst au;have al:(eqGuard .quo t X Y (.int .i64 x) (.int .i64 y)).run P w=.ok () w:=rfl;have ak:(binOp .quo t (.int .i64 x) (.int .i64 y)).run P w=.ok (.int .i64 (IntKind.i64.wrap (x.tdiv y))) w:=by
  simp[binOp,Op.intDiv,bG]
 simp only[execOp,aF,bS,du,Sem.run_bind,al,Result.andThen_ok,ak];rfl
abbrev Value.xl(v:Value):Prop:=∃g,v=.slice (some ⟨g,0,none⟩) 0 0
section
variable{P:Program}{ρ:Operand->Value}{o:Oper}{w:World}{t dP e bV:TypeId}{X Y:Operand}{B:Nat}
theorem Ff(aL:B<=w.heap.size)(aF:o.op=.buildSlice t 0 #[])(aM:dN P t e=true)(aP:(P.info? e).isSome=true):∃v w',(execOp ρ o).run P w=.ok (.value v) w'/\bd w w'/\(Has w' [.bytes e v []]/\(∀g,aS [az.bytes e v []] g->B<=g)/\Value.xl v):=by
 refine⟨_,_,lP aF aM aP,bd.alloc _ _,qD ⟨U,.inr ⟨w.heap.size,0,#[],U,Nat.zero_le _,heap_alloc_new w _,Nat.le_refl _,Nat.zero_le _,U,U⟩⟩,fun g al=>?_,⟨_,U⟩⟩;have dq:g=w.heap.size:=by simpa [az.row,Value.ownBlock]using g9.1 al
 omega
theorem EF{v:Value}{l:List UInt8}{g:Nat}:aS [az.bytes e v l] g↔v.ownBlock=some g:=by rw[g9];simp[az.row]
theorem El{v x:Value}{l:List UInt8}{args:List Operand}{b7:List TypeId}(aL:B<=w.heap.size)(aF:o.op=.call {callee:=.builtin .append,args:=args.toArray,argTypes:=b7.toArray})(bm:args=[X,Y])(fp:b7=[t,dP])(bS:ρ X=v)(du:ρ Y=x)
  (aM:dN P t e=true) (h6:dN P dP bV=true) (au:hl P e 1=true) (ak:hk P e 1=true) (aD:Has w [.bytes e v []]/\(∀g,aS [az.bytes e v []] g->B<=g)/\Value.xl v) (ap:Bytes w x l) (g1:l.length<=35184372088832):
  ∃bR w',(execOp ρ o).run P w=.ok (.value bR) w'/\bd w w'/\(Has w' [.bytes e bR l]/\(∀g,aS [az.bytes e bR l] g->B<=g)/\True):=by
 obtain⟨aj,an,g,rfl⟩:=aD;obtain⟨bR,w',gn,_,a3,a4,a5⟩:=IN aL aF bm fp bS du aM h6 au ak (aj.dG 0 rfl) ap (c0 l) (by simp;omega) fun g al=>an g (EF.2 al);refine⟨bR,w',gn,a5 g U,?_,fun g al=>a4 g (EF.1 al),trivial⟩;have a3:w'.ownsRow 0 e 1 bR l.length (ao l):=by simpa [ao]using a3
 exact qD a3
end
def uy(B:Nat)(e:TypeId)(l:List UInt8):Spec:=.rel fun w v=>(∀g,v.ownBlock=some g->B<=g)/\∃u,Reads 1 w v 1 [u]/\Has w [.bytes e u l]/\∀g,aS [az.bytes e u l] g->B<=g
theorem cJ.gT{B:Nat}{e:TypeId}{l:List UInt8}{N:Nat->Prop}(aj:∀g,N g->g<B):cJ B N (uy B e l):=fun G w w' v nD aL aJ ⟨gn,u,fY,a3,a4⟩=>
 ⟨gn,u,fY.held aJ.held fun g al ow=>Nat.not_le_of_lt (aj g (nD g ow)) (gn g al),a3.held aJ.held fun g al ow=>Nat.not_le_of_lt (aj g (nD g ow)) (a4 g al),a4⟩
theorem BI{P:Program}{ρ:Operand->Value}{o:Oper}{w:World}{t e ee:TypeId}{X:Operand}{v:Value}{l:List UInt8}{z:List Value}{B0:Nat}(aL:B0<=w.heap.size)(aF:o.op=.buildSlice t 1 #[(0,X)])(bS:ρ X=v)(aM:dN P t e=true)(aP:eS P e 1=true)(au:(zeroOf P e).map (·.cells.toList)=some z)(kT:z.length=1)(aD:Has w [.bytes ee v l]/\(∀g,aS [az.bytes ee v l] g->B0<=g)/\True):
  ∃r w',(execOp ρ o).run P w=.ok (.value r) w'/\bd w w'/\((∀g,r.ownBlock=some g->B0<=g)/\∃u,Reads 1 w' r 1 [u]/\Has w' [.bytes ee u l]/\∀g,aS [az.bytes ee u l] g->B0<=g):=by
 have aj:v.oneCell'=true:=(aD.1.reads 0 rfl).one;have an:=o9 aj;have ap:=ev (P:=P) (ρ:=ρ) (w:=w) (ps:=[(0,X)]) (vs:=[v]) (us:=[v]) aF (by simp[bS]) rfl aM aP au kT (by simp[an]) rfl rfl (by simp[an]);exact⟨_,_,ap,bd.alloc _ _,fun g al=>Nat.le_trans aL (BA g al),v,vJ (w:=w) (e:=e) (cs:= #[v]) (n:=1) (sz:=1) U (by decide),aD.1.ext (bd.alloc _ _),aD.2.1⟩
section
variable{P:Program}{Q:Exit->Act->World->Prop}{l:List (Nat×Value)}{n:Nat}{w w0:World}{ops:Array Oper}{B:List Nat}{Vs:List Spec}{i:Nat}{O:Nat->Prop}{dJ:List az}{Φ:World->Prop}
theorem AQ{o:Oper}{t dP e bV ee:TypeId}{X Y:Operand}{bytes k:Nat}{v:Value}{xs:List Value}{bl:List UInt8}{args:List Operand}{b7:List TypeId}(aF:ops[i]? =some o)(aP:Vs[i]? =some (cL w.heap.size [.row e 1 v k xs] (fun q:Value×Value=>q.1) (fun q=>[.row e 1 q.1 (k+1) (xs++[q.2]),.bytes ee q.2 bl]) (fun _=>True)))
  (M:Mem w0 O ([.row e 1 v k xs]++dJ) Φ w) (lH:o.op=.call {callee:=.builtin .append,args:=args.toArray,argTypes:=b7.toArray}) (bm:args=[X,Y]) (fp:b7=[t,dP]) (aM:dN P t e=true) (h6:dN P dP bV=true) (au:hl P e 1=true) (ak:hk P e bytes=true) (g1:(k+1)*(bytes+1)<=140737488355328)
  (h:∀(x:Nat->Value) (w':World),(∀j,waits B i j=true->fq Vs x w' j)->dp (cg ops B l Vs x i) o=true/\dg ops (cg ops B l Vs x i) o=true/\dh ops (cg ops B l Vs x i) o=true/\cf (cg ops B l Vs x i) X=v/\∃y,cf (cg ops B l Vs x i) Y=y/\(uy w.heap.size ee bl).ok w' y):
  iA P ops B l n Vs (fs (ga i [.row e 1 v k xs]) w.drew) Q i:=by
 refine xC (J:=[.row e 1 v k xs]) aF aP M (fun j g ax=>ax.2) M.front (fun j ax g mr=>absurd mr.1 ax) fun x w' aA c4 aL ab=>?_;obtain⟨ju,lD,mX,oc,y,od,qe,u,w8,uK,w9⟩:=h x w' ab;have hu:u.oneCell'=true:=(uK.reads 0 rfl).one;obtain⟨bR,dY,pL,pM,iv,pN⟩:=vW (P:=P) lH bm fp oc od aM h6 au ak (by decide) (c4.dG 0 rfl) w8 (fun z au=>by obtain rfl:=List.mem_singleton.1 au;exact hu) g1;have Gf:∀g,v.ownBlock=some g->g<w.heap.size:=fun g al=>M.front.lt (.row e 1 v k xs) (List.mem_singleton.2 rfl) g (by simp[az.row,al]);have Gr:dc (fun g=>v.ownBlock=some g) w' dY:=⟨iv.os,iv.tape,iv.output,⟨iv.size,fun g al a6=>iv.block g al fun e=>a6 e.symm⟩⟩
 have qz:Has dY [.bytes ee u bl]:=uK.held Gr.held fun g al aJ=>Nat.not_le_of_lt (Gf g aJ) (w9 g al);have pk:=qD pM;refine⟨bR,dY,ju,lD,mX,pL,Gr.mono fun g _ al=>⟨U,g9.2 (by simp[az.row,al])⟩,(bR,u),U,⟨fun z au=>?_,fun z au g al=>?_,List.pairwise_pair.2 fun g al dq=>?_⟩,fun g al=>?_,trivial⟩
 ·simp only[List.mem_cons,List.not_mem_nil,or_false]at au;rcases au with rfl|rfl
  ·exact pk.gi _ (List.mem_singleton.2 U)
  ·exact qz.gi _ (List.mem_singleton.2 U)
 ·simp only[List.mem_cons,List.not_mem_nil,or_false]at au;rcases au with rfl|rfl
  ·exact pk.lt _ (List.mem_singleton.2 U) g al
  ·exact qz.lt _ (List.mem_singleton.2 U) g al
 ·have bQ:bR.ownBlock=some g:=by simpa [az.row]using al
  have cF:aS [az.bytes ee u bl] g:=g9.2 dq;rcases pN g bQ with h|h
  ·exact Nat.not_le_of_lt (Gf g h) (w9 g cF)
  ·exact Nat.not_le_of_lt (uK.lt _ (List.mem_singleton.2 U) g (g9.1 cF)) h
 ·obtain⟨z,au,al⟩:=al;simp only[List.mem_cons,List.not_mem_nil,or_false]at au;rcases au with rfl|rfl
  ·have bQ:bR.ownBlock=some g:=by simpa [az.row]using al
   exact(pN g bQ).imp (fun h=>g9.2 (by simp[az.row,h])) fun h=>Nat.le_trans aL h
  ·exact .inr (w9 g (g9.2 al))
end
def wV(c N:Nat)(w0:World):Road where
 mQ _ w:=bd w0 w
 R i w w':=(i=c->rq w0.heap.size N w w')/\(i≠c->bd w w')
 I _ w:=bd w0 w
def lU(B N:Nat)(is:Bool):Spec->Prop
 | .af _=>True
 | .rel p=>(∀w w' v,bd w w'->p w v->p w' v)/\(is=true\/∀w w' v,rq B N w w'->p w v->p w' v)
def uu(W:List Nat)(B N c:Nat):List Spec->Nat->Prop
 |[],_=>True
 |s::r,j=>lU B N (Nat.beq j c||waits W j c) s/\uu W B N c r (j+1)
theorem uu.get{W:List Nat}{B N c:Nat}:∀{Vs:List Spec} {k j:Nat} {s:Spec},uu W B N c Vs k->Vs[j]? =some s->lU B N (Nat.beq (k+j) c||waits W (k+j) c) s
 |[],_,_,_,_,h=>by simp at h
 |a::r,k,0,s,h,ax=>by
  simp only[List.getElem?_cons_zero,Option.some.injEq]at ax;subst ax;exact h.1
 |a::r,k,j+1,s,h,ax=>by
  have:=uu.get (j:=j) h.2 (by simpa using ax)
  rwa [show k+1+j=k+(j+1) by omega]at this
theorem rq.up{B N:Nat}{w0 w w':World}(aL:w0.heap.size<=B)(bG:bd w0 w)(h:rq B N w w'):bd w0 w':=⟨h.jM.os.trans bG.os,h.jM.tape.trans bG.tape,h.jM.output.trans bG.output,Nat.le_trans bG.size h.jM.held.size,fun g al=>(h.jM.held.block g (Nat.lt_of_lt_of_le al bG.size) (by omega)).trans (bG.block g al)⟩
theorem On{M N c:Nat}{B:List Nat}{Vs:List Spec}{w0:World}(u5:Nat.ble Vs.length M=true)(h:uu B w0.heap.size N c Vs 0):(wV c N w0).Ok M B Vs w0 where
 begin:=bd.refl _
 pre b i w ak _ _ h:=h
 step b i w w' ak _ _ h k:=by
  by_cases hi:i=c
  ·exact(k.1 hi).up (Nat.le_refl _) h
  ·exact bd.trans h (k.2 hi)
 na i j p m3 hw aP w w' v hp ap aD:=by
  have:=h.get aP;rw[Nat.zero_add]at this;by_cases hi:i=c
  ·rcases this.2 with aj|aj
   ·rw[Bool.or_eq_true]at aj;rcases aj with aj|aj
    ·exact absurd (hi.trans (Nat.eq_of_beq_eq_true aj).symm) m3
    ·rw[<-hi,hw (Nat.lt_of_lt_of_le (List.getElem?_eq_some_iff.1 aP).1 (Nat.le_of_ble_eq_true u5))]at aj;cases aj
   ·exact aj _ _ _ (ap.1 hi) aD
  ·exact this.1 _ _ _ (ap.2 hi) aD
section
variable{P:Program}{Q:Exit->Act->World->Prop}{l:List (Nat×Value)}{n:Nat}{w0:World}{ops:Array Oper}{B:List Nat}{Vs:List Spec}{i c N:Nat}
theorem wE(h:mh P ops B l n Vs w0 Q i)(hi:(!Nat.beq i c)=true):iA P ops B l n Vs (wV c N w0) Q i:=by
 intro x a w ad ab E;obtain⟨o,s,aj,an,aB⟩:=h x a w ad ab E;refine⟨o,s,aj,an,fun K cY=>aB K fun v w' ad aP=>cY v w' ⟨fun e=>?_,fun _=>ad⟩ aP⟩;subst e;simp at hi
theorem lU.exact{B:Nat}{is:Bool}{v:Value}:lU B N is (.af v):=trivial
theorem lU.row{uv k:Nat}{is:Bool}{e:TypeId}{xs:List Value}{p:Value->Prop}(ab:Nat.ble k N=true):lU uv N is (cV uv (fun v=>[.row e 1 v k xs]) p):=⟨fun w w' v ad h=>⟨h.1.ext ad,h.2⟩,.inr fun w w' v ad h=>⟨qD (ad.row e v k xs (Nat.le_of_ble_eq_true ab) (h.1.dG 0 rfl)),h.2⟩⟩
theorem lU.own{uv k:Nat}{e:TypeId}{xs:List Value}{p:Value->Prop}:lU uv N true (cV uv (fun v=>[.row e 1 v k xs]) p):=⟨fun w w' v ad h=>⟨h.1.ext ad,h.2⟩,.inl rfl⟩
theorem P9{o:Oper}{t dP e bV:TypeId}{X Y:Operand}{bytes m:Nat}{xs news:List Value}{args:List Operand}{b7:List TypeId}(aF:ops[i]? =some o)(aP:Vs[i]? =some (cV w0.heap.size (fun v=>[.row e 1 v (N+m) (xs++news)]) (fun _=>True)))
  (lH:o.op=.call {callee:=.builtin .append,args:=args.toArray,argTypes:=b7.toArray}) (bm:args=[X,Y]) (fp:b7=[t,dP]) (aM:dN P t e=true) (h6:dN P dP bV=true) (au:hl P e 1=true) (ak:hk P e bytes=true) (aj:∀u∈news,u.oneCell'=true) (g1:(N+m)*(bytes+1)<=140737488355328)
  (h:∀(x:Nat->Value) (w:World),bd w0 w->(∀j,waits B i j=true->fq Vs x w j)->∃v y,dp (cg ops B l Vs x i) o=true/\dg ops (cg ops B l Vs x i) o=true/\dh ops (cg ops B l Vs x i) o=true/\cf (cg ops B l Vs x i) X=v/\cf (cg ops B l Vs x i) Y=y/\(Has w [.row e 1 v N xs]/\(∀g,aS [az.row e 1 v N xs] g->w0.heap.size<=g)/\True)/\Reads 1 w y m news):
  iA P ops B l n Vs (wV i N w0) Q i:=by
 intro x a w ad ab E;obtain⟨v,y,ju,lD,mX,oc,od,qe,w8⟩:=h x w ad ab;obtain⟨bR,w',gn,fY,a3,a4,_⟩:=IN (P:=P) ad.size lH bm fp oc od aM h6 au ak (qe.1.dG 0 rfl) w8 aj g1 fun g al=>qe.2.1 g (g9.2 (by simp[az.row,al]));refine⟨o,_,aF,aP,fun K cY=>?_⟩;rw[E.wanted lD,if_pos mX];unfold Oper.wp;rw[E.exec ju,gn];exact cY bR w' ⟨fun _=>fY,fun h=>absurd U h⟩ ⟨qD a3,fun g al=>a4 g (by simpa [az.row]using g9.1 al),trivial⟩
end
end
section
open Go.RowKit
def Dj(P:Program)(t:TypeId):Bool:=match P.underlying t with|some (.pointer e)=>e==P.pointee t|_=>false
theorem Ch{P:Program}{ρ:Operand->Value}{o:Oper}{w:World}{t k3:TypeId}{X Y:Operand}{p:Option Addr}{r:Bool}(aF:o.op=.binOp .neq t X Y k3)(bS:ρ X=.pointer p)(du:ρ Y=.pointer none)(aM:Dj P t=true)(ap:(!p.isNone)=r):(execOp ρ o).run P w=.ok (.value (.bool r)) w:=by
 subst ap;have hu:P.underlying t=some (.pointer (P.pointee t)):=by
  unfold Dj at aM;split at aM
  ·rename_i e he;rw[he,eq_of_beq aM]
  ·cases aM
 have al:(eqGuard .neq t X Y (.pointer p) (.pointer none)).run P w=.ok () w:=rfl;have ak:=run_neq_pointer_nil (P:=P) w t p hu;simp only[execOp,aF,bS,du,Sem.run_bind,al,Result.andThen_ok,ak];rfl
def az.pure(p:Prop):az:=⟨[],fun _=>p,fun _ _ _ h=>h⟩
theorem Mem.pure{w0 w:World}{O:Nat->Prop}{L:List az}{Φ:World->Prop}{p:Prop}(M:Mem w0 O L Φ w)(h:p):Mem w0 O (.pure p::L) Φ w:=M.jo (bd.refl w) _ h fun g al=>by cases al
theorem yF{e:TypeId}{v:Value}{a b:List UInt8}:az.row e 1 v (a.length+b.length) (ao a++ao b)=az.bytes e v (a++b):=by
 unfold az.bytes;rw[sU,List.length_append]
theorem PO{B:Nat}{ins:List az}{e:TypeId}{a b:List UInt8}{w:World}{v:Value}{p:Value->Prop}(h:(cL B ins (fun v:Value=>v) (fun bR=>[az.row e 1 bR (a.length+b.length) (ao a++ao b)]) p).ok w v):Bytes w v (a++b):=by
 obtain⟨x,rfl,an,_⟩:=h;have an:Has w [az.row e 1 v (a.length+b.length) (ao a++ao b)]:=an;rw[yF]at an;exact an.reads 0 U
section
variable{P:Program}{Q:Exit->Act->World->Prop}{l:List (Nat×Value)}{n:Nat}{w w0:World}{ops:Array Oper}{B:List Nat}{Vs:List Spec}{i:Nat}{O:Nat->Prop}{dJ:List az}{Φ:World->Prop}
theorem Ro{o:Oper}{t dP e bV:TypeId}{X Y:Operand}{sz bytes k m:Nat}{v:Value}{xs news:List Value}{args:List Operand}{b7:List TypeId}(aF:ops[i]? =some o)(aP:Vs[i]? =some (cL w.heap.size [.row e sz v k xs] (fun v:Value=>v) (fun bR=>[.row e sz bR (k+m) (xs++news)]) (fun _=>True)))
  (M:Mem w0 O ([.row e sz v k xs]++dJ) Φ w) (lH:o.op=.call {callee:=.builtin .append,args:=args.toArray,argTypes:=b7.toArray}) (bm:args=[X,Y]) (fp:b7=[t,dP]) (aM:dN P t e=true) (h6:dN P dP bV=true) (au:hl P e sz=true) (ak:hk P e bytes=true) (hd:0<sz) (aj:∀u∈news,u.oneCell'=true) (g1:(k+m)*(bytes+1)<=140737488355328)
  (h:∀(x:Nat->Value) (w':World),Mem w0 O dJ Φ w'->(∀j,waits B i j=true->fq Vs x w' j)->dp (cg ops B l Vs x i) o=true/\dg ops (cg ops B l Vs x i) o=true/\dh ops (cg ops B l Vs x i) o=true/\cf (cg ops B l Vs x i) X=v/\∃y,cf (cg ops B l Vs x i) Y=y/\Reads sz w' y m news):
  iA P ops B l n Vs (fs (ga i [.row e sz v k xs]) w.drew) Q i:=by
 refine xC (J:=[.row e sz v k xs]) aF aP M (fun j g ax=>ax.2) M.front (fun j ax g mr=>absurd mr.1 ax) fun x w' aA c4 aL ab=>?_;obtain⟨ju,lD,mX,oc,y,od,qe⟩:=h x w' aA ab;obtain⟨bR,dY,pL,pM,iv,pN⟩:=vW (P:=P) lH bm fp oc od aM h6 au ak hd (c4.dG 0 rfl) qe aj g1;refine⟨bR,dY,ju,lD,mX,pL,⟨iv.os,iv.tape,iv.output,⟨iv.size,fun g al a6=>iv.block g al (fun he=>a6 ⟨U,g9.2 (by simp[az.row,<-he])⟩)⟩⟩,bR,U,qD pM,fun g al=>?_,trivial⟩;have dq:bR.ownBlock=some g:=by simpa [az.row,g9]using al
 exact(pN g dq).imp (fun h=>g9.2 (by simp[az.row,h])) fun h=>Nat.le_trans aL h
end
end
section
open Go.RowKit
section
variable{P:Program}{ρ:Operand->Value}{o:Oper}{w:World}{X:Operand}{t s e:TypeId}
theorem Cc{b7:List TypeId}{args:List Operand}(aF:o.op=.call {callee:=.builtin .cap,args:=args.toArray,argTypes:=b7.toArray})(bm:args=[X])(fp:b7=[t])(bS:ρ X=.slice none 0 0)(aM:dN P t e=true):(execOp ρ o).run P w=.ok (.value (.int .i64 0)) w:=by
 subst bm fp;simp[execOp,aF,resolve,invoke,builtin,Builtin.cap_,bS,run_underlying (kg aM),goInt]
theorem Ve(l:List UInt8):∀(s:ByteArray),(l.map fun b=>(b.toNat:Int)).foldl (fun r n=>r.push (UInt8.ofNat n.toNat)) s=⟨s.data++l.toArray⟩:=by
 induction l with
 |nil=>intro s;simp
 |cons b l ck=>intro s;rw[List.map_cons,List.foldl_cons,ck];simp[ByteArray.push]
theorem run_makeMap(aF:o.op=.makeMap t none):(execOp ρ o).run P w=.ok (.value (.map (some w.heap.size))) (w.alloc (.map #[] 0)):=by
 simp[execOp,aF,Instr.makeMap]
theorem yJ{ps:List (Nat×Operand)}{qs:List (Nat×Value)}{gE:List Nat}{z:List Value}{us:Array Value}(aF:o.op=.build t ps.toArray)(bE:ps.map (fun p=>(p.1,ρ p.2))=qs)(aM:iy P t gE z=true)(au:zeroOf P t=some (.agg z.toArray))
  (bu:Instr.fill (fun i=>(pieces 0 gE 0)[i]?) z.toArray qs=some us):(execOp ρ o).run P w=.ok (.value (.agg us)) w:=by
 subst bE;unfold iy at aM;cases lI:P.underlying t with
 |none=>rw[lI]at aM;cases aM
 |some d=>
  rw[lI]at aM;cases d with
  |struct dX=>
   simp only[Bool.and_eq_true,beq_iff_eq,List.all_eq_true]at aM;obtain⟨⟨aj,an⟩,_⟩:=aM;have lJ:(zeroValue t).run P w=.ok (.agg z.toArray) w:=by
    unfold zeroOf at au;cases hi:P.info? t with
    |none=>rw[hi]at au;cases au
    |some i=>rw[hi]at au;simp only[Option.bind_some]at au;simp[zeroValue,typeInfo,hi,au]
   have vu:(dX.mapM (m:=Sem) fun f=>do pure (f.offset,<-sizeOf f.type)).run P w=.ok (pieces 0 gE 0).toArray w:=by
    have key:=Cf (P:=P) (w:=w) (fun f:Field=>(do pure (f.offset,<-sizeOf f.type):Sem (Nat×Nat))) (fun f=>(f.offset,(match P.info? f.type with|some i=>i.size|none=>0))) dX.toList (fun f bu=>by
     obtain⟨i,hi⟩:=Option.isSome_iff_exists.1 (an f bu);simp[sizeOf,typeInfo,hi])
    have key:=key.trans (congrArg (fun l=>Result.ok l w) aj);rw[Array.mapM_eq_mapM_toList,map_eq_pure_bind,Sem.run_bind,key,Result.andThen_ok,Sem.run_pure]
   have jz:(ps.toArray.map fun x=>(x.1,ρ x.2)).toList=ps.map fun x=>(x.1,ρ x.2):=by simp
   have vh:Instr.fill (fun i=>(pieces 0 gE 0).toArray[i]?) z.toArray (ps.map fun p=>(p.1,ρ p.2))=some us:=by
    rw[<-bu];congr 1;funext i;simp
   simp only[execOp,aF,Instr.build,Sem.run_bind,lJ,Result.andThen_ok,run_underlying lI,vu,jz,Value.cells];simp only[vh];rfl
  |_=>cases aM
theorem xo{pl:Nat->Option (Nat×Nat)}{cs:Array Value}{i off:Nat}{v:Value}{r:List (Nat×Value)}(hp:pl i=some (off,1))(aD:v.oneCell'=true)(aF:off<cs.size):Instr.fill pl cs ((i,v)::r)=Instr.fill pl (cs.setIfInBounds off v) r:=by
 have e:=o9 aD;have an:¬(cs.size<off+1):=by omega
 simp only[Instr.fill,hp,e,List.size_toArray,List.length_cons,List.length_nil,ne_eq,not_true_eq_false,decide_false,Bool.false_or,gt_iff_lt,decide_eq_true_eq,Nat.zero_add,an,if_false];rfl
theorem oK{v:Value}{l:List UInt8}(aF:o.op=.convert s t X)(bS:ρ X=v)(h:Bytes w v l)(aP:dN P s e=true)(he:P.underlying e=some (.int .u8))(aM:P.underlying t=some .string):(execOp ρ o).run P w=.ok (.value (.string ⟨l.toArray⟩)) w:=by
 have conv:∀(b:Option Addr) (n c:Nat) (u:Value),ρ X=.slice b n c->(Conv.bytesToString (.slice b n c)).run P w=.ok u w->(execOp ρ o).run P w=.ok (.value u) w:=fun b n c u aj an=>by
  simp[execOp,aF,aj,convert,run_underlying (kg aP),run_underlying aM,run_underlying he,an]
 rcases h.2 with⟨rfl,bG⟩|⟨g,off,cap,rfl,_,_,_,aJ⟩
 ·have:l=[]:=List.eq_nil_of_length_eq_zero bG;subst this;exact conv _ _ _ _ bS U
 ·refine conv _ _ _ _ bS ?_;have cz:ao l=(l.map fun b=>(b.toNat:Int)).map (Value.int .u8):=by simp[ao]
  have aI:=run_loadCells_list (P:=P) (w:=w) ⟨g,off,none⟩ (ao l) fun j u ax=>by rw[add_plain];exact aJ j u ax
  rw[cz]at aI;simp only[List.length_map]at aI;rw[run_bytesToString (P:=P) w ⟨g,off,none⟩ l.length cap _ aI,Ve];simp
end
section
variable{P:Program}{ops:Array Oper}{Q:Exit->Act->World->Prop}{l:List (Nat×Value)}{n:Nat}{a:Act}{w w' w0:World}{rest:List Oper}{o:Oper}{O:Nat->Prop}{L R:List az}{Φ:World->Prop}
theorem Mem.P0{e:TypeId}{sz m:Nat}{v:Value}{xs:List Value}(M:Mem w0 O L Φ w)(i k:Nat)(h:L[i]? =some (.row e sz v m xs))(ab:k<=m):Mem w0 O (L.set i (.row e sz (e2 sz v 0 k) k (xs.take (k*sz)))) Φ w:=by
 refine M.view h _ (fun ap=>?_) fun g al=>?_
 ·obtain⟨aj,an⟩:=ap;have A9:k*sz<=m*sz:=Nat.mul_le_mul_right _ ab;refine⟨by rw[List.length_take,aj];omega,?_⟩;rcases an with⟨rfl,rfl⟩|⟨g,cap,dz,rfl,aB,be,bZ,dZ,jO,qz⟩
  ·obtain rfl:k=0:=by omega
   exact .inl ⟨U,U⟩
  ·refine .inr ⟨g,cap,dz,?_,aB,be,by omega,dZ,jO,by rw[<-qz,List.take_take,Nat.min_eq_left A9]⟩;show Value.slice (if cap=0 then _ else _) _ _=_
   simp[add_plain]
 ·obtain⟨b,c,aD⟩:=Reads.slice (M.reads i h);simp only[az.row]at al⊢
  rwa [Ab _ _ _ _ ⟨b,_,c,aD⟩]at al
theorem W1{d:Tmp}{t C9 e:TypeId}{X Y:Operand}{k Hf:IntKind}{x:Int}{m:Nat}{args:List Operand}{b7:List TypeId}(E:Env l n a)(M:Mem w0 O L Φ w)(aT:o.dst=some d)(a6:Nat.blt d n=true)(aJ:dp l o=true)(al:dg ops l o=true)(hw:dh ops l o=true)
  (aF:o.op=.call {callee:=.builtin .append,args:=args.toArray,argTypes:=b7.toArray}) (bm:args=[X,Y]) (fp:b7=[t,C9]) (bS:cf l X=.slice none 0 0) (du:cf l Y=.int k x) (ad:x=m) (aM:dN P t e=true) (my:P.underlying C9=some (.int Hf)) (au:hl P e 1=true) (j5:(zeroOf P e).map (·.cells)=some #[.int .u8 0]) (ak:hk P e 1=true) (bG:0<m) (g1:m<=70368744177664)
  (dD:∀v a' w',Mem w0 O (.bytes e v (List.replicate m 0)::L) Φ w'->Env ((d,v)::l) n a'->wpList P ops Q rest a' w'):wpList P ops Q (o::rest) a w:=by
 subst bm fp ad;unfold hl at au;unfold hk at ak;cases hi:P.info? e with
 |none=>rw[hi]at au;cases au
 |some i=>
  rw[hi]at au ak;simp only[Bool.and_eq_true,beq_iff_eq]at au ak;cases pE:i.zero with
  |none=>rw[pE]at au;cases au.2
  |some wH=>
   have lJ:wH.cells= #[.int .u8 0]:=by
    unfold zeroOf at j5;rw[hi]at j5;simpa [pE]using j5
   have ap:=Lib.run_append_nil_zeros (P:=P) w t C9 o.type e i wH k Hf (kg aM) my hi pE m bG (by omega) (by omega) (by rw[ak];omega);have hb:=grownCap_ge w m 0 e;have hy:grownCap w m 0 e<=maxLen:=grownCap_le_maxLen w m 0 e (by simp only[maxLen];omega);generalize grownCap w m 0 e=cap at*;generalize fo:Builtin.zeroCells wH.cells m++Builtin.zeroCells wH.cells (cap-m)=cs at*;have hd:∀q,(Builtin.zeroCells wH.cells q).toList=List.replicate q (.int .u8 0):=fun q=>by
    rw[lJ];apply List.ext_getElem
    ·simp[Builtin.zeroCells]
    ·intro j aj an;simp[Builtin.zeroCells,Nat.mod_one]
   have xO:cs.toList=List.replicate cap (.int .u8 0):=by
    rw[<-fo,Array.toList_append,hd,hd,List.replicate_append_replicate];congr 1;omega
   have mv:(execOp (cf l) o).run P w=.ok (.value (.slice (some ⟨w.heap.size,0,none⟩) m cap)) (w.drew.alloc (.cells cs e)):=by
    simp only[execOp,aF,resolve,Sem.run_bind,Sem.run_pure,Result.andThen_ok,invoke,builtin,List.map_toArray,List.map_cons,List.map_nil,bS,du,ap]
   refine e5 E aT a6 aJ al hw mv fun a' dQ=>dD _ a' _ ?_ dQ;have r3:bd w (w.drew.alloc (.cells cs e)):=(bd.drew w).trans (bd.alloc _ _);have Se:cs.size=cap*1:=by
    have:=congrArg List.length xO;simpa using this
   have ts:=so (e:=e) (k:=m) (sz:=1) (w:=w.drew.alloc (.cells cs e)) (g:=w.heap.size) (by show(w.heap.push _)[w.heap.size]? =_;simp) Se hb hy;have cz:cs.toList.take (m*1)=ao (List.replicate m 0):=by rw[xO,List.take_replicate,Nat.mul_one,Nat.min_eq_left hb];simp[ao]
   rw[cz]at ts;refine M.jo r3 (.bytes e _ (List.replicate m 0)) (by unfold az.bytes;rw[List.length_replicate];exact ts) fun g al=>by
    have:g=w.heap.size:=by simpa [az.row,Value.ownBlock]using al
    subst this;exact⟨Nat.le_refl _,by simp[World.alloc]⟩
end
end
section
open Go.RowKit
section
variable{P:Program}{ρ:Operand->Value}{o:Oper}{w:World}{t e:TypeId}{B0:Nat}
def n1(B0 e k:Nat)(z:Value)(w:World)(v:Value):Prop:=∃g,v=.slice (some ⟨g,0,none⟩) k k/\w.heap[g]? =some (.cells (List.replicate k z).toArray e)/\B0<=g
def rr(B0:Nat)(w:World)(v:Value):Prop:=∃g,v=.map (some g)/\w.heap[g]? =some (.map #[] 0)/\B0<=g
theorem n1.ext{k:Nat}{z v:Value}{w w':World}(h:n1 B0 e k z w v)(ad:bd w w'):n1 B0 e k z w' v:=by
 obtain⟨g,aj,an,aB⟩:=h;exact⟨g,aj,(ad.block g (Array.getElem?_eq_some_iff.1 an).1).trans an,aB⟩
theorem rr.ext{v:Value}{w w':World}(h:rr B0 w v)(ad:bd w w'):rr B0 w' v:=by
 obtain⟨g,aj,an,aB⟩:=h;exact⟨g,aj,(ad.block g (Array.getElem?_eq_some_iff.1 an).1).trans an,aB⟩
theorem Bz(w:World)(ob:Obj):(w.alloc ob).heap[w.heap.size]? =some ob:=by
 show(w.heap.push ob)[w.heap.size]? =some ob
 simp
theorem Hw{X Y:Operand}{bM oA:IntKind}{k bytes:Nat}{x y:Int}{z:Value}(aL:B0<=w.heap.size)(aF:o.op=.makeSlice t X Y)(bS:ρ X=.int bM x)(du:ρ Y=.int oA y)(ad:x=k)(bn:y=k)(aM:dN P t e=true)(au:hl P e 1=true)(eG:(zeroOf P e).map (·.cells)=some #[z])(ak:hk P e bytes=true)(g1:k*(bytes+1)<=140737488355328):
  ∃v w',(execOp ρ o).run P w=.ok (.value v) w'/\bd w w'/\n1 B0 e k z w' v:=by
 obtain⟨cs,fo,ap,i,u,hi,hu,rfl⟩:=Ce (P:=P) (w:=w) aF bS du ad bn aM au ak (Nat.le_refl k) g1;have qN:u.cells= #[z]:=by simpa [zeroOf,hi,hu]using eG
 refine⟨_,_,ap,bd.alloc _ _,w.heap.size,U,?_,aL⟩;rw[Bz,qN];have:=By z k;congr 2;exact Array.toList_inj.1 (by rw[Nat.mul_one,this])
theorem TP(aL:B0<=w.heap.size)(aF:o.op=.makeMap t none):∃v w',(execOp ρ o).run P w=.ok (.value v) w'/\bd w w'/\rr B0 w' v:=
 ⟨_,_,run_makeMap aF,bd.alloc _ _,w.heap.size,rfl,Bz _ _,aL⟩
end
end
section
open Go.RowKit
open Go.ChangeMaps (setBlock)
section
variable{P:Program}{ρ:Operand->Value}{o:Oper}{w:World}{t k e:TypeId}{g jN clock:Nat}{es:List eT}{seen:Array Nat}{X:Operand}
theorem Wn{F:Fn}{v:Value}(aF:o.op=.makeFunc F #[] #[X])(bS:ρ X=v):(execOp ρ o).run P w=.ok (.value (.func F #[] #[v])) w:=by
 subst bS;simp[execOp,aF,Instr.makeFunc]
theorem IZ(aF:o.op=.range t X)(bS:ρ X=.map (some g))(aM:nk P t k e=true)(al:w.heap[g]? =some (.map (dv es) clock)):
  (execOp ρ o).run P w=.ok (.value (.pointer (some ⟨w.heap.size,0,none⟩))) (w.alloc (.mapIter (some g) clock #[] clock)):=by
 have:=run_range_map w t k e g (dv es) clock (tx aM).1 al;simp[execOp,aF,bS,this]
theorem vB{x:MapEntry}(h:x∈(dv es).toList):∃a∈es,x={key:=.int .i64 a.key,val:=a.val,born:=a.born}:=by
 simp only[dv,List.mem_map]at h;obtain⟨a,aj,an⟩:=h;exact⟨a,aj,an.symm⟩
theorem Bp{a:eT}(h:a∈es):({key:=.int .i64 a.key,val:=a.val,born:=a.born}:MapEntry)∈(dv es).toList:=by
 simp only[dv,List.mem_map];exact⟨a,h,U⟩
theorem G4:(dv es).toList.map (·.born)=es.map (·.born):=by
 simp[dv,Function.comp_def]
theorem IY(aF:o.op=.next X false)(bS:ρ X=.pointer (some ⟨jN,0,none⟩))(hi:w.heap[jN]? =some (.mapIter (some g) clock seen clock))(al:w.heap[g]? =some (.map (dv es) clock))(hold:∀a∈es,a.born<clock)(bG:(leftOf (dv es) seen).size=0):
  (execOp ρ o).run P w=.ok (.value (.tuple #[.bool false])) w:=by
 have h:=run_next_at (P:=P) w o.type jN g clock clock seen (dv es) clock hi al (fun x ad=>by obtain⟨a,bm,rfl⟩:=vB ad;exact hold a bm) (Nat.le_refl _);rcases h with⟨_,h⟩|⟨x,ad,_⟩
 ·simp[execOp,aF,bS,h]
 ·have:(leftOf (dv es) seen)= #[]:=Array.eq_empty_of_size_eq_zero bG;rw[this]at ad;simp at ad
theorem IR{a:eT}(aF:o.op=.entry X)(bS:ρ X=.pointer (some ⟨jN,0,none⟩))(hi:w.heap[jN]? =some (.mapIter (some g) clock (seen.push a.born) clock))(al:w.heap[g]? =some (.map (dv es) clock))(bm:a∈es)(a6:(es.map (·.born)).Nodup):
  (execOp ρ o).run P w=.ok (.value (.tuple #[.int .i64 a.key,a.val])) w:=by
 have h:=run_entry_at (P:=P) w jN g clock seen (dv es) clock _ hi al (Bp bm) (by rw[G4];exact a6);simp[execOp,aF,bS,h]
theorem Wj{args:List Operand}{b7:List TypeId}(aF:o.op=.call {callee:=.builtin .clear,args:=args.toArray,argTypes:=b7.toArray})(bm:args=[X])(fp:b7=[t])(bS:ρ X=.map (some g))(aM:nk P t k e=true)(al:w.heap[g]? =some (.map (dv es) clock)):
  (execOp ρ o).run P w=.ok (.value (.tuple #[])) {w with heap:=w.heap.setIfInBounds g (.map (dv []) clock)}:=by
 subst bm fp;have l0:(getObj g).run P w=.ok (.map (dv es) clock) w:=by simp[getObj,Sem.run,al]
 have kl:∀gz,(setObj g gz).run P w=.ok () {w with heap:=w.heap.setIfInBounds g gz}:=fun gz=>by simp[setObj,Sem.run,al]
 have:(Builtin.clear_ #[t] o.type #[.map (some g)]).run P w=.ok (.tuple #[]) {w with heap:=w.heap.setIfInBounds g (.map #[] clock)}:=by
  simp[Builtin.clear_,run_underlying (tx aM).1,l0,kl,Result.andThen]
 simp[execOp,aF,resolve,invoke,builtin,bS,this,dv]
end
section
variable{P:Program}{ops:Array Oper}{Q:Exit->Act->World->Prop}{l:List (Nat×Value)}{n:Nat}{a:Act}{w w' w0:World}{rest:List Oper}{o:Oper}{O:Nat->Prop}{L R:List az}{Φ:World->Prop}
theorem Ji{i j g jN clock:Nat}{es:List eT}{seen:Array Nat}{X:Operand}{d:Tmp}(E:Env l n a)(M:Mem w0 O L Φ w)(hi:L[i]? =some (.bb jN (.mapIter (some g) clock seen clock)))(ax:L[j]? =some (.bb g (.map (dv es) clock)))
  (aT:o.dst=some d) (a6:Nat.blt d n=true) (aJ:dp l o=true) (al:dg ops l o=true) (hw:dh ops l o=true)
  (aF:o.op=.next X false) (bS:cf l X=.pointer (some ⟨jN,0,none⟩)) (hold:∀e∈es,e.born<clock) (bG:(leftOf (dv es) seen).size≠0)
  (dD:∀e∈es,seen.contains e.born=false->(leftOf (dv es) (seen.push e.born)).size<(leftOf (dv es) seen).size->∀a' w',Mem w0 O (L.set i (.bb jN (.mapIter (some g) clock (seen.push e.born) clock))) Φ w'->Env ((d,.tuple #[.bool true,.int .i64 e.key,e.val])::l) n a'->wpList P ops Q rest a' w'):
  wpList P ops Q (o::rest) a w:=by
 have h:=run_next_at (P:=P) w o.type jN g clock clock seen (dv es) clock (M.dG i hi) (M.dG j ax) (fun x ad=>by obtain⟨a,bm,rfl⟩:=vB ad;exact hold a bm) (Nat.le_refl _);rcases h with⟨h,_⟩|⟨x,ad,pX,SX,h⟩
 ·exact absurd h bG
 ·have aI:=left_shrinks _ _ x ad;obtain⟨oy,jA⟩:=mem_left ad;obtain⟨b,ak,rfl⟩:=vB oy;have Mw:Mem w0 O L Φ pX:=by
   rcases SX with rfl|rfl
   ·exact M
   ·exact M.ext (bd.drew w)
  exact e5 E aT a6 aJ al hw (v:=.tuple #[.bool true,.int .i64 b.key,b.val]) (w':=setBlock pX jN (.mapIter (some g) clock (seen.push b.born) clock)) (by simp[execOp,aF,bS,h]) fun a' dQ=>dD b ak jA aI a' _ (Mw.setObj hi) dQ
theorem yV{i g clock:Nat}{es:List eT}{t k e:TypeId}{X:Operand}{args:List Operand}{b7:List TypeId}(E:Env l n a)(M:Mem w0 O L Φ w)(hi:L[i]? =some (.bb g (.map (dv es) clock)))(aT:o.dst=none)(aJ:dp l o=true)(al:dg ops l o=true)(hw:dh ops l o=true)
  (aF:o.op=.call {callee:=.builtin .clear,args:=args.toArray,argTypes:=b7.toArray}) (bm:args=[X]) (fp:b7=[t]) (bS:cf l X=.map (some g)) (aM:nk P t k e=true)
  (dD:∀a' w',Mem w0 O (L.set i (.bb g (.map (dv []) clock))) Φ w'->Env l n a'->wpList P ops Q rest a' w'):wpList P ops Q (o::rest) a w:=by
 refine wo E aJ al hw (by rw[aT];rfl) (Wj aF bm fp bS aM (M.dG i hi)) fun a' dQ=>dD a' _ (M.setObj hi) ?_;rw[aT]at dQ;exact dQ
end
theorem Al{α:Type}{p q:α->Bool}:∀{l:List α},(∀x∈l,p x=q x)->l.find? p=l.find? q
 |[],_=>rfl
 |a::r,h=>by rw[List.find?_cons,List.find?_cons,h a (List.mem_cons_self ..),Al fun x ad=>h x (List.mem_cons_of_mem _ ad)]
def nW(es:List eT)(seen:Array Nat)(vs:List Value):List Value:=vs.mapIdx fun j v=>match es.find? (fun e=>decide (e.key=(j:Int))&&seen.contains e.born)with|some e=>e.val|none=>v
theorem Js(es:List eT)(vs:List Value):nW es #[] vs=vs:=by
 unfold nW;have:(fun(j:Nat) (v:Value)=>match es.find? (fun e=>decide (e.key=(j:Int))&&(#[]:Array Nat).contains e.born)with|some e=>e.val|none=>v)=fun j v=>v:=by
  funext j v;have:es.find? (fun e=>decide (e.key=(j:Int))&&(#[]:Array Nat).contains e.born)=none:=by simp
  rw[this]
 rw[this];exact List.ext_getElem (by simp) fun j aj an=>by simp
theorem Jt{es:List eT}{seen:Array Nat}{vs:List Value}{a:eT}(bm:a∈es)(ab:(es.map (·.key)).Nodup)(ak:(es.map (·.born)).Nodup){i:Nat}(hi:a.key=(i:Int)):(nW es seen vs).set i a.val=nW es (seen.push a.born) vs:=by
 apply List.ext_getElem?;intro j;have inj:∀(f:eT->Int),(es.map f).Nodup->∀x∈es,∀y∈es,f x=f y->x=y:=fun f bu x ad y bn h=>by
  obtain⟨m,hm,rfl⟩:=List.getElem_of_mem ad;obtain⟨n,a6,rfl⟩:=List.getElem_of_mem bn;have:=(List.getElem_inj (xs:=es.map f) (h₀:=by simpa using hm) (h₁:=by simpa using a6) bu).1 (by simpa using h);subst this;rfl
 have Te:∀x∈es,∀y∈es,x.born=y.born->x=y:=fun x ad y bn h=>by
  obtain⟨m,hm,rfl⟩:=List.getElem_of_mem ad;obtain⟨n,a6,rfl⟩:=List.getElem_of_mem bn;have:=(List.getElem_inj (xs:=es.map (·.born)) (h₀:=by simpa using hm) (h₁:=by simpa using a6) ak).1 (by simpa using h);subst this;rfl
 unfold nW;rw[List.getElem?_set];simp only[List.getElem?_mapIdx];by_cases ax:i=j
 ·subst ax;rw[if_pos rfl];cases aD:vs[i]? with
  |none=>
   have:¬i<vs.length:=by simpa using aD
   simp[this]
  |some v=>
   have h5:i<vs.length:=(List.getElem?_eq_some_iff.1 aD).1;have:es.find? (fun e=>decide (e.key=(i:Int))&&(seen.push a.born).contains e.born)=some a:=by
    cases bu:es.find? (fun e=>decide (e.key=(i:Int))&&(seen.push a.born).contains e.born)with
    |none=>
     have:=List.find?_eq_none.1 bu a bm;simp[hi]at this
    |some x=>
     have aj:=List.find?_some bu;simp only[Bool.and_eq_true,decide_eq_true_eq]at aj;rw[inj (·.key) ab x (List.mem_of_find?_eq_some bu) a bm (aj.1.trans hi.symm)]
   rw[this];simp[h5]
 ·rw[if_neg ax];congr 1;funext v;have:es.find? (fun e=>decide (e.key=(j:Int))&&(seen.push a.born).contains e.born)=es.find? (fun e=>decide (e.key=(j:Int))&&seen.contains e.born):=by
   refine Al fun x ad=>?_;by_cases h:x.key=(j:Int)
   ·have eP:x.born≠a.born:=fun c=>ax (by have:=Te x ad a bm c;subst this;omega);rw[contains_push,show(x.born==a.born)=false by simpa using eP,Bool.or_false]
   ·simp[h]
  rw[this]
theorem Jr{es:List eT}{seen:Array Nat}{vs:List Value}(h:∀e∈es,seen.contains e.born=true):nW es seen vs=vs.mapIdx fun j v=>(hz es (j:Int)).getD v:=by
 unfold nW;congr 1;funext j v;have:es.find? (fun e=>decide (e.key=(j:Int))&&seen.contains e.born)=es.find? (fun e=>decide (e.key=(j:Int))):=Al fun x ad=>by rw[h x ad,Bool.and_true]
 rw[this];have al:∀(es:List eT) (i:Nat),(im (j:Int) es i).map (·.2)=(es.find? (fun e=>decide (e.key=(j:Int)))).map (·.val):=by
  intro es
  induction es with
  |nil=>intro i;rfl
  |cons e r ck=>
   intro i;unfold im;by_cases h:(j:Int)=e.key
   ·rw[if_pos h];simp[h]
   ·rw[if_neg h,ck,List.find?_cons,show decide (e.key=(j:Int))=false by simpa using fun c=>h c.symm]
 unfold hz;rw[al es 0];cases es.find? (fun e=>decide (e.key=(j:Int)))<;>rfl
end
section
open Go.RowKit
def lK(q:Int):List eT->List eT
 |[]=>[]
 |e::r=>if q=e.key then r else e::lK q r
theorem Hx{α β:Type}(f:α->β):∀(l:List α) (i:Nat),(l.map f).eraseIdx i=(l.eraseIdx i).map f
 |[],_=>rfl
 |a::r,0=>rfl
 |a::r,i+1=>by simp[Hx f r i]
theorem E0{q:Int}:∀{es:List eT} {n:Nat},im q es n=none->lK q es=es
 |[],n,_=>rfl
 |e::r,n,h=>by
  unfold im at h;split at h
  ·cases h
  ·rename_i eP;rw[lK,if_neg eP,E0 h]
theorem E1{q:Int}{u:Value}:∀{es:List eT} {n i:Nat},im q es n=some (i,u)->∃j,i=n+j/\j<es.length/\lK q es=es.eraseIdx j
 |[],n,i,h=>by cases h
 |e::r,n,i,h=>by
  unfold im at h;split at h
  ·rename_i he;injection h with h;injection h with aj an;subst aj;exact⟨0,U,by simp,by rw[lK,if_pos he];rfl⟩
  ·rename_i eP;obtain⟨j,aj,an,aB⟩:=E1 h;exact⟨j+1,by omega,by simpa using an,by rw[lK,if_neg eP,aB];rfl⟩
section
variable{P:Program}{ρ:Operand->Value}{o:Oper}{w:World}{t k iW e:TypeId}{g clock:Nat}{es:List eT}
theorem Wk{X Y:Operand}{q:Int}{args:List Operand}{b7:List TypeId}(aF:o.op=.call {callee:=.builtin .delete,args:=args.toArray,argTypes:=b7.toArray})(bm:args=[X,Y])(fp:b7=[t,iW])(bS:ρ X=.map (some g))(du:ρ Y=.int .i64 q)(aM:nk P t k e=true)(al:w.heap[g]? =some (.map (dv es) clock)):
  (execOp ρ o).run P w=.ok (.value (.tuple #[])) {w with heap:=w.heap.setIfInBounds g (.map (dv (lK q es)) clock)}:=by
 subst bm fp;obtain⟨aj,an⟩:=tx aM;have l0:(getObj g).run P w=.ok (.map (dv es) clock) w:=by simp[getObj,Sem.run,al]
 have kl:∀gz,(setObj g gz).run P w=.ok () {w with heap:=w.heap.setIfInBounds g gz}:=fun gz=>by simp[setObj,Sem.run,al]
 have:(Builtin.delete_ #[t,iW] o.type #[.map (some g),.int .i64 q]).run P w=.ok (.tuple #[]) {w with heap:=w.heap.setIfInBounds g (.map (dv (lK q es)) clock)}:=by
  cases bu:im q es 0 with
  |none=>
   rw[E0 bu];simp[Builtin.delete_,run_underlying aj,l0,kl,vY _ q an,vZ q an,bu,Result.andThen]
  |some p=>
   obtain⟨i,u⟩:=p;obtain⟨j,ax,iD,aT⟩:=E1 bu;rw[Nat.zero_add]at ax;subst ax;have cz:(dv es).eraseIdxIfInBounds i=dv (lK q es):=by
    rw[aT];apply Array.toList_inj.1;unfold Array.eraseIdxIfInBounds;rw[dif_pos (by simpa [dv]using iD)];simp[dv,Hx]
   simp[Builtin.delete_,run_underlying aj,l0,kl,vY _ q an,vZ q an,bu,Result.andThen,cz]
 simp[execOp,aF,resolve,invoke,builtin,bS,du,this]
theorem Wm{X Y:Operand}{q:Int}{z v:Value}(aF:o.op=.lookup t X Y false)(bS:ρ X=.map (some g))(du:ρ Y=.int .i64 q)(aM:nk P t k e=true)(au:zeroOf P e=some z)(al:w.heap[g]? =some (.map (dv es) clock))(ap:(hz es q).getD z=v):
  (execOp ρ o).run P w=.ok (.value v) w:=by
 obtain⟨aj,an⟩:=tx aM;have lJ:(zeroValue e).run P w=.ok z w:=by
  unfold zeroOf at au;cases hi:P.info? e with
  |none=>rw[hi]at au;cases au
  |some i=>rw[hi]at au;simp only[Option.bind_some]at au;simp[zeroValue,typeInfo,hi,au]
 have l0:(getObj g).run P w=.ok (.map (dv es) clock) w:=by simp[getObj,Sem.run,al]
 simp only[execOp,aF,bS,du,Instr.lookup,Sem.run_bind,run_underlying aj,Result.andThen_ok,l0,Sem.run_pure,vY _ q an,vZ q an];unfold hz at ap;cases bu:im q es 0 with
 |none=>rw[bu]at ap;simp only[Option.map_none,Option.getD_none]at ap;subst ap;simp[lJ]
 |some p=>rw[bu]at ap;simp only[Option.map_some,Option.getD_some]at ap;subst ap;simp
end
section
variable{P:Program}{ops:Array Oper}{Q:Exit->Act->World->Prop}{l:List (Nat×Value)}{n:Nat}{a:Act}{w w' w0:World}{rest:List Oper}{o:Oper}{O:Nat->Prop}{L R:List az}{Φ:World->Prop}
theorem Jg{i g clock:Nat}{es:List eT}{t k iW e:TypeId}{X Y:Operand}{q:Int}{args:List Operand}{b7:List TypeId}(E:Env l n a)(M:Mem w0 O L Φ w)(hi:L[i]? =some (.bb g (.map (dv es) clock)))(aT:o.dst=none)(aJ:dp l o=true)(al:dg ops l o=true)(hw:dh ops l o=true)
  (aF:o.op=.call {callee:=.builtin .delete,args:=args.toArray,argTypes:=b7.toArray}) (bm:args=[X,Y]) (fp:b7=[t,iW]) (bS:cf l X=.map (some g)) (du:cf l Y=.int .i64 q) (aM:nk P t k e=true)
  (dD:∀a' w',Mem w0 O (L.set i (.bb g (.map (dv (lK q es)) clock))) Φ w'->Env l n a'->wpList P ops Q rest a' w'):wpList P ops Q (o::rest) a w:=by
 refine wo E aJ al hw (by rw[aT];rfl) (Wk aF bm fp bS du aM (M.dG i hi)) fun a' dQ=>dD a' _ (M.setObj hi) ?_;rw[aT]at dQ;exact dQ
theorem x6{hW:World}{m i k c sz:Nat}{t e:TypeId}{A X:Operand}{v u:Value}{xs xs':List Value}(E:Env l n a)(M:Mem hW O L Φ w)(aF:ops[m]? =some o)(dd:L[i]? =some (.row e sz v c xs))(aT:o.dst=none)(aJ:dp l o=true)(al:dg ops l o=true)(hw:dh ops l o=true)
  (lH:o.op=.store t A X) (aR:cf l A=cellAt v k) (bS:cf l X=u) (aM:eS P t 1=true) (ab:k<c*sz) (aj:u.oneCell'=true) (ad:xs.set k u=xs')
  (dD:∀a' w',Mem hW O (L.set i (.row e sz v c xs')) Φ w'->Env l n a'->Q .normal a' w'):j7 P ops Q m a w:=by
 subst ad;have ap:=M.dG i dd;obtain⟨hlen,cc⟩:=ap;rcases cc with⟨rfl,rfl⟩|⟨g,cap,dz,rfl,bG,kk,mu,hy,fo,mw⟩
 ·simp at ab
 ·have rQ:cf l A=.pointer (some ⟨g,k,none⟩):=by rw[aR,cellAt,add_plain,Nat.zero_add]
  have Bc:c*sz<=cap*sz:=Nat.mul_le_mul_right _ mu;have mv:=Ci (P:=P) (w:=w) lH rQ bS aM kk (by omega) aj;unfold j7;rw[aF];simp only;rw[E.wanted al,if_pos hw];unfold Oper.wp;rw[E.exec aJ,mv];have nn:=E.put (d:=o.dst) (by rw[aT];rfl) undef;rw[aT]at nn;rw[Oper.upon_skip,aT];refine dD _ _ (M.change dd _ (dc.setRow (by simp[az.row,Value.ownBlock])) ⟨by simpa using hlen,.inr ⟨g,cap,_,U,bG,setRow_heap w g dz _ e _ kk,mu,hy,by simpa using fo,?_⟩⟩ fun iW m4=>?_) nn
  ·simp only[Array.toList_setIfInBounds];rw[List.take_set,mw]
  ·have:=M.lt _ (List.mem_of_getElem? dd) iW (by simpa [az.row]using m4);exact⟨by simpa using this,.inl (by simpa [az.row]using m4)⟩
end
end
section
open Go.Proofs.kD.kC Go.RowKit
def pJ(B:List Nat)(N:Nat)(Fs:Nat->Nat->Prop)(w0:World):Road where
 mQ i w:=dc (fun g=>∃j,j≠i/\(j<N->waits B j i=false)/\Fs j g) w0 w
 R i w w':=dc (Fs i) w w'
 I b w:=dc (fun g=>∃j,b j=true/\Fs j g) w0 w
section
variable{P:Program}{Q:Exit->Act->World->Prop}{l:List (Nat×Value)}{n N c:Nat}{w w0:World}{ops:Array Oper}{B:List Nat}{Vs:List Spec}{i:Nat}{Fs:Nat->Nat->Prop}{O:Nat->Prop}{J dJ:List az}{Φ:World->Prop}
theorem hM(h:iA P ops B l n Vs (fs Fs w0) Q i):iA P ops B l n Vs (pJ B N Fs w0) Q i:=
 fun x a w hp=>h x a w (hp.mono fun g _ ⟨j,aj,_,an⟩=>⟨j,aj,an⟩)
theorem tF(h:(fs Fs w0).Ok N B Vs w0):(pJ B N Fs w0).Ok N B Vs w0 where
 begin:=h.begin
 pre b i w ak aP _ cX:=cX.mono fun g _ ⟨j,aj,an⟩=>⟨j,fun e=>(by subst e;rw[ak]at aj;cases aj),fun ax=>(by
  cases hw:waits B j i with
  |false=>rfl
  |true=>rw[aP j ax hw]at aj;cases aj),an⟩
 step:=h.step
 na i j p m3 hw aP w w' v hp ap aD:=h.na i j p m3 hw aP w w' v (hp.mono fun g _ ⟨j,aj,_,an⟩=>⟨j,aj,an⟩) ap aD
theorem ahead(M:Mem w0 O (J++dJ) Φ w)(aJ:Nat.blt c N=true)(hw:waits B c i=true){w':World}(h:dc (fun g=>∃j,j≠i/\(j<N->waits B j i=false)/\ga c J j g) w.drew w'):Mem w0 O (J++dJ) Φ w':=by
 refine M.ext ((bd.drew w).trans (h.mono fun g _ ⟨j,_,an,aB,_⟩=>?_ :dc qW w.drew w').ext);subst aB;rw[an (by simpa using aJ)]at hw;cases hw
theorem ci{o:Oper}{s:Spec}(aF:ops[i]? =some o)(aP:Vs[i]? =some s)(M:Mem w0 O (J++dJ) Φ w)(aJ:Nat.blt c N=true)(hw:waits B c i=true)
  (h:∀(x:Nat->Value) (w':World),Mem w0 O (J++dJ) Φ w'->w.heap.size<=w'.heap.size->(∀j,waits B i j=true->fq Vs x w' j)->∃v dY,dp (cg ops B l Vs x i) o=true/\dg ops (cg ops B l Vs x i) o=true/\dh ops (cg ops B l Vs x i) o=true/\
   (execOp (cf (cg ops B l Vs x i)) o).run P w'=.ok (.value v) dY/\bd w' dY/\s.ok dY v):iA P ops B l n Vs (pJ B N (ga c J) w.drew) Q i:=by
 intro x a w' ad ab E;obtain⟨v,dY,aj,an,aB,be,bZ,dZ⟩:=h x w' (ahead M aJ hw ad) ad.held.size ab;refine⟨o,s,aF,aP,fun K cY=>?_⟩;rw[E.wanted an,if_pos aB];unfold Oper.wp;rw[E.exec aj,be,Oper.upon_value];exact cY v dY (dc.kW bZ) dZ
end
end
section
open Go.RowKit
def hh(l:List Rec):List Value:=(l.map Rec.cells).flatten
def hG(l:List Rec):Prop:=∀r∈l,r.Ok
@[simp] theorem abI:hh []=[]:=rfl
theorem B5(r:Rec)(l:List Rec):hh (r::l)=r.cells++hh l:=by simp[hh]
theorem yz(a b:List Rec):hh (a++b)=hh a++hh b:=by simp[hh]
theorem hG.sub{a b:List Rec}(h:hG b)(s:∀r∈a,r∈b):hG a:=fun r ap=>h r (s r ap)
theorem hG.take{l:List Rec}(h:hG l)(k:Nat):hG (l.take k):=fun r ap=>h r (List.mem_of_mem_take ap)
theorem hG.set{l:List Rec}(h:hG l){k:Nat}{r:Rec}(ap:r.Ok):hG (l.set k r):=fun x ad=>by
 rcases List.mem_or_eq_of_mem_set ad with aj|rfl
 ·exact h x aj
 ·exact ap
theorem hG.get{l:List Rec}(h:hG l){k:Nat}(ab:k<l.length):(l[k]).Ok:=h _ (List.getElem_mem ab)
theorem Iz{l:List Rec}(h:hG l):(hh l).length=l.length*136:=by
 induction l with
 |nil=>rfl
 |cons r l ck=>rw[B5,List.length_append,Rec.len (h r (List.mem_cons_self ..)),ck fun x ad=>h x (List.mem_cons_of_mem _ ad),List.length_cons];omega
theorem IA{l:List Rec}(h:hG l){k:Nat}(ab:k<=l.length):(hh l).take (k*136)=hh (l.take k):=by
 have e:hh l=hh (l.take k)++hh (l.drop k):=by rw[<-yz,List.take_append_drop]
 rw[e];exact List.take_left' (by rw[Iz (h.take k),List.length_take,Nat.min_eq_left ab])
theorem Iy{l:List Rec}(h:hG l){k:Nat}(ab:k<=l.length):(hh l).drop (k*136)=hh (l.drop k):=by
 have e:hh l=hh (l.take k)++hh (l.drop k):=by rw[<-yz,List.take_append_drop]
 rw[e];exact List.drop_left' (by rw[Iz (h.take k),List.length_take,Nat.min_eq_left ab])
theorem pP{l:List Rec}(h:hG l){k:Nat}(ab:k<l.length):((hh l).drop (k*136)).take 136=(l[k]).cells:=by
 rw[Iy h (Nat.le_of_lt ab),List.drop_eq_getElem_cons ab,B5];exact List.take_left' (Rec.len (h.get ab))
theorem VM{l:List Rec}(h:hG l){k:Nat}(ab:k<l.length)(r:Rec):(hh l).take (k*136)++r.cells++(hh l).drop (k*136+136)=hh (l.set k r):=by
 rw[IA h (Nat.le_of_lt ab),show k*136+136=(k+1)*136 by omega,Iy h ab,List.set_eq_take_append_cons_drop,if_pos ab,yz,B5,List.append_assoc]
abbrev jn(w:World)(v:Value)(l:List Rec):Prop:=Reads 136 w v l.length (hh l)
theorem jn.bU{w w':World}{v:Value}{l:List Rec}(h:jn w v l)(H:gI (aS []) w w'):jn w' v l:=Reads.bU h H
abbrev az.eI(e:TypeId)(v:Value)(l:List Rec):az:=.row e 136 v l.length (hh l)
def az.part(sz:Nat)(v:Value)(n:Nat)(xs:List Value):az:=⟨v.ownBlock.toList,fun w=>Reads sz w v n xs,fun w w' h k=>by
 refine⟨k.1,?_⟩;rcases k.2 with an|⟨g,off,cap,rfl,aB,be,bZ,dZ⟩
 ·exact .inl an
 ·have ak:=h g (by simp[Value.ownBlock]);refine .inr ⟨g,off,cap,rfl,aB,be,?_,fun j u hu=>(World.cell?_of_block (w:=w) ak).trans (dZ j u hu)⟩;have jO:(w.heap[g]?).isSome=true:=by simp[bZ]
  rw[<-ak]at jO;simpa using jO⟩
abbrev az.sx(v:Value)(l:List Rec):az:=.part 136 v l.length (hh l)
theorem Wt{P:Program}{ρ:Operand->Value}{o:Oper}{w:World}{t k3:TypeId}{X Y:Operand}{xs ys:List Value}{ks:List IntKind}{b:Bool}(aF:o.op=.binOp .neq t X Y k3)(bS:ρ X=.agg xs.toArray)(du:ρ Y=.agg ys.toArray)(aM:ug P t ks=true)(ad:Fit ks xs)(bn:Fit ks ys)(ak:b=true↔xs=ys):
  (execOp ρ o).run P w=.ok (.value (.bool !b)) w:=by
 simp only[ug,Bool.and_eq_true,Bool.not_eq_true',beq_iff_eq]at aM;obtain⟨⟨aj,an⟩,aB⟩:=aM;obtain⟨r,ap,Bg⟩:=rE 10000 t ks aj w xs ys ad bn;simp only[fT,an,Bool.false_eq_true,if_false]at ap;have e:r=b:=by rw[Bool.eq_iff_iff,Bg,ak]
 subst e;have al:=run_eqGuard_agg (P:=P) w .neq t X Y xs.toArray ys.toArray aB;have he:=run_neq_struct (P:=P) w t xs.toArray ys.toArray;rw[ap,Result.andThen_ok]at he;simp only[execOp,aF,bS,du,Sem.run_bind,al,Result.andThen_ok,he];rfl
theorem yK{P:Program}{ρ:Operand->Value}{o:Oper}{w:World}{x:Operand}{args:List Operand}{b7:Array TypeId}{f:FuncId}{cs:List Value}(aF:o.op=.call {callee:=.value x,args:=args.toArray,argTypes:=b7})(ad:ρ x=.func (.func f) #[] cs.toArray)(bu:bO P f=true):
  (execOp ρ o).run P w=.ok (.enter f (args.map ρ++cs).toArray) w:=by
 unfold bO at bu;cases h:P.funcs[f]? with
 |none=>rw[h]at bu;cases bu
 |some fn=>
  rw[h]at bu;simp only[Bool.and_eq_true,Bool.not_eq_true']at bu;obtain⟨aj,an⟩:=bu;have aB:¬fn.body=none:=by cases ak:fn.body<;>simp_all
  have be:¬fn.name= "runtime.NumGoroutine" :=by simpa using an
  simp[execOp,aF,resolve,ad,Deferred.ofValue,invoke,callFunc,h,be,aB,program,Sem.run]
section
variable{P:Program}{ops:Array Oper}{Q:Exit->Act->World->Prop}{l:List (Nat×Value)}{n:Nat}{a:Act}{w w' w0:World}{rest:List Oper}{o:Oper}{O:Nat->Prop}{L R:List az}{Φ:World->Prop}
theorem Mem.parts{sz m:Nat}{v:Value}{xs:List Value}(M:Mem w0 O L Φ w)(i:Nat)(h:L[i]? =some (.part sz v m xs)):Reads sz w v m xs:=M.dG i h
theorem Mem.Oq{e:TypeId}{sz m:Nat}{v:Value}{xs:List Value}(M:Mem w0 O L Φ w)(i k:Nat)(h:L[i]? =some (.row e sz v m xs))(ab:k<=m):Mem w0 O (L.set i (.part sz (e2 sz v 0 k) k (xs.take (k*sz)))) Φ w:=by
 refine M.view h _ (fun ap=>?_) fun g al=>?_
 ·have:=Reads.cut (nS ap) (Nat.zero_le k) ab;simp only[Nat.zero_mul,List.drop_zero,Nat.sub_zero]at this;exact this
 ·obtain⟨b,c,aD⟩:=Reads.slice (M.reads i h);simp only[az.part]at al;rw[Ab _ _ _ _ ⟨b,_,c,aD⟩]at al;exact al
theorem Mem.Ot{e:TypeId}{sz m:Nat}{v:Value}{xs:List Value}(M:Mem w0 O L Φ w)(i:Nat)(h:L[i]? =some (.row e sz v m xs)):Mem w0 O (L.set i (.part sz v m xs)) Φ w:=
 M.view h _ (fun ap=>nS ap) fun g al=>al
theorem Mem.yk(M:Mem w0 O L Φ w)(e:TypeId):Mem w0 O (.eI e (.slice none 0 0) []::L) Φ w:=
 M.jo (bd.refl w) _ (World.ownsRow_nil w 0 e 136) fun g al=>by simp[az.row,Value.ownBlock]at al
theorem Wr{ρ:Operand->Value}{x:Operand}{f:FuncId}{v:Value}(aF:o.op=.makeFunc (.func f) #[] #[x])(ad:ρ x=v):(execOp ρ o).run P w=.ok (.value (.func (.func f) #[] #[v])) w:=by
 simp[execOp,aF,ad,Instr.makeFunc]
theorem mI{ρ:Operand->Value}{A:Operand}{s:TypeId}{f k q m sz:Nat}{v:Value}{xs:List Value}(aF:o.op=.fieldAddr s A f)(h:Reads sz w v m xs)(aR:ρ A=cellAt v q)(bu:gG P s f k=true)(bE:q<m*sz):(execOp ρ o).run P w=.ok (.value (cellAt v (q+k))) w:=by
 rcases h.2 with⟨rfl,rfl⟩|⟨g,off,cap,rfl,_⟩
 ·simp at bE
 ·have rQ:ρ A=.pointer (some ⟨g,off+q,none⟩):=by rw[aR,cellAt,add_plain]
  rw[mH aF rQ bu,cellAt,add_plain,Nat.add_assoc]
theorem VL(l:List Rec):∀u∈hh l,u.oneCell'=true:=fun u hu=>by
 obtain⟨c,vb,rS⟩:=List.mem_flatten.1 hu;obtain⟨r,_,rfl⟩:=List.mem_map.1 vb;exact Rec.eX r u rS
theorem xP{g:Nat}{x:Obj}(al:w.heap[g]? =some x)(h:gI (aS []) w w'):w'.heap[g]? =some x:=(h.block g (Array.getElem?_eq_some_iff.1 al).1 gQ).trans al
theorem Xm{i k m sz q:Nat}{t e:TypeId}{A X:Operand}{v:Value}{us:Array Value}{xs xs':List Value}(E:Env l n a)(M:Mem w0 O L Φ w)(dd:L[i]? =some (.row e sz v m xs))(aT:o.dst=none)(aJ:dp l o=true)(al:dg ops l o=true)(hw:dh ops l o=true)
  (aF:o.op=.store t A X) (aR:cf l A=cellAt v k) (bS:cf l X=.agg us) (aM:eS P t q=true) (bE:us.size=q) (ab:k+q<=m*sz) (bG:0<q) (aj:∀u∈us.toList,u.oneCell'=true) (ad:xs.take k++us.toList++xs.drop (k+q)=xs')
  (dD:∀a' w',Mem w0 O (L.set i (.row e sz v m xs')) Φ w'->Env l n a'->wpList P ops Q rest a' w'):wpList P ops Q (o::rest) a w:=by
 subst ad bE;have ap:=M.dG i dd;obtain⟨hlen,cc⟩:=ap;rcases cc with⟨rfl,rfl⟩|⟨g,cap,dz,rfl,hO,kk,mu,hy,fo,mw⟩
 ·omega
 ·have rQ:cf l A=.pointer (some ⟨g,k,none⟩):=by rw[aR,cellAt,add_plain,Nat.zero_add]
  have Bc:m*sz<=cap*sz:=Nat.mul_le_mul_right _ mu;have mv:=Cj (P:=P) (w:=w) aF rQ bS aM kk (by omega) aj;have rZ:(dz.toList.take k++us.toList++dz.toList.drop (k+us.size)).length=cap*sz:=by
   simp only[List.length_append,List.length_take,List.length_drop,Array.length_toList,fo];omega
  have qO:xs.length=m*sz:=hlen;refine Cv E aJ al hw (by rw[aT];rfl) mv fun a' dQ=>dD a' _ (M.change dd _ (dc.setRow (by simp[az.row,Value.ownBlock])) ⟨?_,.inr ⟨g,cap,_,U,hO,setRow_heap w g dz _ e _ kk,mu,hy,?_,?_⟩⟩ fun iW m4=>?_) ?_
  ·simp only[List.length_append,List.length_take,List.length_drop,Array.length_toList,qO];omega
  ·rw[List.size_toArray];exact rZ
  ·have cz:dz.toList=xs++dz.toList.drop (m*sz):=by
    rw[<-mw,List.take_append_drop]
   show List.take (m*sz) (dz.toList.take k++us.toList++dz.toList.drop (k+us.size))=_
   have c6:dz.toList.take k=xs.take k:=by
    rw[cz,List.take_append_of_le_length (by omega)]
   have ih:dz.toList.drop (k+us.size)=xs.drop (k+us.size)++dz.toList.drop (m*sz):=by
    rw[cz,List.drop_append_of_le_length (by omega),<-cz]
   rw[c6,ih,<-List.append_assoc];exact List.take_left' (by simp only[List.length_append,List.length_take,List.length_drop,Array.length_toList,qO];omega)
  ·have:=M.lt _ (List.mem_of_getElem? dd) iW (by simpa [az.row]using m4);exact⟨by simpa using this,.inl (by simpa [az.row]using m4)⟩
  ·rw[aT]at dQ;exact dQ
theorem Xn{i k:Nat}{t e:TypeId}{A X:Operand}{v:Value}{r:Rec}{xs:List Rec}(E:Env l n a)(M:Mem w0 O L Φ w)(dd:L[i]? =some (.eI e v xs))(aT:o.dst=none)(aJ:dp l o=true)(al:dg ops l o=true)(hw:dh ops l o=true)
  (aF:o.op=.store t A X) (aR:cf l A=cellAt v (k*136)) (bS:cf l X=r.val) (aM:eS P t 136=true) (ab:k<xs.length) (ap:r.Ok) (ad:hG xs)
  (dD:∀a' w',Mem w0 O (L.set i (.eI e v (xs.set k r))) Φ w'->Env l n a'->wpList P ops Q rest a' w'):wpList P ops Q (o::rest) a w:=by
 refine Xm (xs':=hh (xs.set k r)) E M dd aT aJ al hw aF aR bS aM (Rec.size ap) (by omega) (by decide) (fun u hu=>Rec.eX _ u hu) (VM ad ab r) fun a' w' aA dQ=>dD a' w' ?_ dQ;have e:(xs.set k r).length=xs.length:=List.length_set ..;unfold az.eI;rw[e];exact aA
theorem Cs{d:Tmp}{i bytes:Nat}{t dP e bV:TypeId}{X Y:Operand}{v x:Value}{xs news:List Rec}{args:List Operand}{b7:List TypeId}(E:Env l n a)(M:Mem w0 O L Φ w)(dd:L[i]? =some (.eI e v xs))(aT:o.dst=some d)(a6:Nat.blt d n=true)(aJ:dp l o=true)(al:dg ops l o=true)(hw:dh ops l o=true)
  (aF:o.op=.call {callee:=.builtin .append,args:=args.toArray,argTypes:=b7.toArray}) (bm:args=[X,Y]) (fp:b7=[t,dP]) (bS:cf l X=v) (du:cf l Y=x) (aM:dN P t e=true) (h6:dN P dP bV=true) (au:hl P e 136=true) (ak:hk P e bytes=true) (ap:jn w x news) (g1:(xs.length+news.length)*(bytes+1)<=140737488355328)
  (dD:∀bR a' w',Mem w0 O (L.set i (.eI e bR (xs++news))) Φ w'->Env ((d,bR)::l) n a'->wpList P ops Q rest a' w'):wpList P ops Q (o::rest) a w:=by
 refine oM E M dd aT a6 aJ al hw aF bm fp bS du aM h6 au ak (by decide) ap (fun u hu=>?_) g1 fun bR a' w' aA dQ=>dD bR a' w' (aA.as ?_) dQ
 ·obtain⟨c,vb,rS⟩:=List.mem_flatten.1 hu;obtain⟨r,_,rfl⟩:=List.mem_map.1 vb;exact Rec.eX r u (by simpa using rS)
 ·unfold az.eI;rw[yz,List.length_append]
theorem aaN{P:Program}{w:World}{e:TypeId}{z:Value}(h:zeroOf P e=some z):(zeroValue e).run P w=.ok z w:=by
 unfold zeroOf at h;cases hi:P.info? e with
 |none=>rw[hi]at h;cases h
 |some i=>
  rw[hi]at h;have h:i.zero=some z:=h;simp[zeroValue,typeInfo,hi,h]
theorem W7{i k m sz:Nat}{t e bV:TypeId}{X:Operand}{v z:Value}{xs:List Value}{args:List Operand}{b7:List TypeId}(E:Env l n a)(M:Mem w0 O L Φ w)(dd:L[i]? =some (.row e sz v m xs))(aT:o.dst=none)(aJ:dp l o=true)(al:dg ops l o=true)(hw:dh ops l o=true)
  (aF:o.op=.call {callee:=.builtin .clear,args:=args.toArray,argTypes:=b7.toArray}) (bm:args=[X]) (fp:b7=[t]) (bS:cf l X=e2 sz v k m) (ab:k<=m) (aM:dN P t bV=true) (au:zeroOf P bV=some z) (oz:z.cells.size=sz) (bG:0<sz) (aj:∀u∈z.cells.toList,u.oneCell'=true)
  (dD:∀xs' a' w',xs'.length=m*sz->xs'.take (k*sz)=xs.take (k*sz)->Mem w0 O (L.set i (.row e sz v m xs')) Φ w'->Env l n a'->wpList P ops Q rest a' w'):wpList P ops Q (o::rest) a w:=by
 subst bm fp;have ap:=M.dG i dd;have pv:L.set i (.row e sz v m xs)=L:=by
  have hi:i<L.length:=(List.getElem?_eq_some_iff.1 dd).1;have:L[i]=.row e sz v m xs:=(List.getElem?_eq_some_iff.1 dd).2;rw[<-this,List.set_getElem_self]
 obtain⟨hlen,cc⟩:=ap;have GS:(∃b c,cf l X=.slice b 0 c)->wpList P ops Q (o::rest) a w:=fun⟨b,c,cz⟩=>by
  have mv:(execOp (cf l) o).run P w=.ok (.value (.tuple #[])) w:=by
   cases b<;>simp[execOp,aF,resolve,invoke,builtin,cz,Builtin.clear_,run_underlying (kg aM)]
  refine wo E aJ al hw (by rw[aT];rfl) mv fun a' dQ=>dD xs a' w hlen U (pv.symm▸M) ?_;rw[aT]at dQ;exact dQ
 rcases cc with⟨rfl,rfl⟩|⟨g,cap,dz,rfl,hO,kk,mu,hy,fo,mw⟩
 ·obtain rfl:k=0:=by omega
  exact GS ⟨_,_,bS⟩
 ·by_cases ms:k=m
  ·subst ms;refine GS ⟨if cap=k then some ⟨g,0,none⟩else(some (⟨g,0,none⟩:Addr)).map (·.add (k*sz)),cap-k,bS.trans ?_⟩;show Value.slice _ (k-k) _=_
   rw[Nat.sub_self]
  ·have Bc:m*sz<=cap*sz:=Nat.mul_le_mul_right _ mu;have eF:k*sz<=m*sz:=Nat.mul_le_mul_right _ ab;have Gj:cf l X=.slice (some ⟨g,k*sz,none⟩) (m-k) (cap-k):=by
    rw[bS];show Value.slice (if cap=k then _ else _) _ _=_
    rw[if_neg (by omega)];simp[add_plain]
   obtain⟨N,ll⟩:∃N,m-k=N+1:=⟨m-k-1,by omega⟩
   have r0:(Builtin.zeroCells z.cells (m-k)).toList.length=(m-k)*sz:=by simp[Builtin.zeroCells,oz]
   have vt:∀u∈(Builtin.zeroCells z.cells (m-k)).toList,u.oneCell'=true:=fun u hu=>by
    obtain⟨j,ax⟩:=List.getElem?_of_mem hu;have iD:j<(m-k)*sz:=by have:=(List.getElem?_eq_some_iff.1 ax).1;rwa [r0]at this
    have hm:j%sz<sz:=Nat.mod_lt _ bG;simp only[Builtin.zeroCells,Array.toList_map,List.getElem?_map,Array.toList_range,oz,List.getElem?_range iD,Option.map_some,Option.some.injEq]at ax;rw[getElem!_pos z.cells _ (by omega)]at ax;rw[<-ax];exact aj _ (by simp)
   have qL:k*sz+(m-k)*sz=m*sz:=by rw[<-Nat.add_mul];congr 1;omega
   have hP:=run_storeCells_at P g (k*sz) e (Builtin.zeroCells z.cells (m-k)).toList 0 dz w kk (by rw[r0];omega) vt;rw[Nat.add_zero,r0,qL]at hP;have mv:(execOp (cf l) o).run P w=.ok (.value (.tuple #[])) (w.setRow g (dz.toList.take (k*sz)++(Builtin.zeroCells z.cells (m-k)).toList++dz.toList.drop (m*sz)).toArray):=by
    rw[ll]at Gj hP⊢;simp[execOp,aF,resolve,invoke,builtin,Gj,Builtin.clear_,run_underlying (kg aM),aaN au,hP]
   have Sx:dz.toList.length=cap*sz:=by simpa using fo
   refine wo E aJ al hw (by rw[aT];rfl) mv fun a' dQ=>dD (xs.take (k*sz)++(Builtin.zeroCells z.cells (m-k)).toList) a' _ ?_ ?_ (M.change dd _ (dc.setRow (by simp[az.row,Value.ownBlock])) ⟨?_,.inr ⟨g,cap,_,U,hO,setRow_heap w g dz _ e _ kk,mu,hy,?_,?_⟩⟩ fun iW m4=>?_) ?_
   ·rw[List.length_append,r0,List.length_take,hlen];omega
   ·rw[List.take_append_of_le_length (by rw[List.length_take,hlen];omega),List.take_take,Nat.min_self]
   ·rw[List.length_append,r0,List.length_take,hlen];omega
   ·rw[List.size_toArray,List.length_append,List.length_append,r0,List.length_take,List.length_drop,Sx];omega
   ·show List.take (m*sz) (dz.toList.take (k*sz)++(Builtin.zeroCells z.cells (m-k)).toList++dz.toList.drop (m*sz))=_
    have c6:dz.toList.take (k*sz)=xs.take (k*sz):=by rw[<-mw,List.take_take,Nat.min_eq_left eF]
    rw[c6];exact List.take_left' (by rw[List.length_append,r0,List.length_take,hlen];omega)
   ·have:=M.lt _ (List.mem_of_getElem? dd) iW (by simpa [az.row]using m4);exact⟨by simpa using this,.inl (by simpa [az.row]using m4)⟩
   ·rw[aT]at dQ;exact dQ
end
end
section
open Go.RowKit
def sP(B:Nat)(e:TypeId)(k:Int)(l:List UInt8):Spec:=.rel fun w v=>∃u,v=.agg #[.int .i64 k,u]/\Has w [.bytes e u l]/\∀g,aS [az.bytes e u l] g->B<=g
theorem cn.yM{B:Nat}{e:TypeId}{k:Int}{l:List UInt8}:cn (sP B e k l):=fun w w' v ad ⟨u,aj,an,aB⟩=>⟨u,aj,an.ext ad,aB⟩
theorem Ic{k:Int}{u:Value}(h:u.oneCell'=true): [Value.int .i64 k,u].map (·.cells.size)=[1,1]/\([Value.int .i64 k,u].map (·.cells.toList)).flatten=[.int .i64 k,u]:=by
 have b:=o9 h;have a:(Value.int .i64 k).cells= #[.int .i64 k]:=rfl;constructor<;>simp only[List.map_cons,List.map_nil,a,b]<;>rfl
theorem yO{P:Program}{ρ:Operand->Value}{o:Oper}{w:World}{t e:TypeId}{X Y:Operand}{k:Int}{u zm Lw:Value}{l:List UInt8}{B:Nat}(aF:o.op=.build t #[(0,X),(1,Y)])(bS:ρ X=.int .i64 k)(du:ρ Y=u)(aM:iy P t [1,1] [zm,Lw]=true)(au:zeroOf P t=some (.agg [zm,Lw].toArray))(aD:Has w [.bytes e u l]/\(∀g,aS [az.bytes e u l] g->B<=g)/\True):
  ∃v w',(execOp ρ o).run P w=.ok (.value v) w'/\bd w w'/\∃u,v=.agg #[.int .i64 k,u]/\Has w' [.bytes e u l]/\∀g,aS [az.bytes e u l] g->B<=g:=by
 have aj:u.oneCell'=true:=(aD.1.reads 0 rfl).one;have ap:=dl (P:=P) (ρ:=ρ) (w:=w) (ps:=[(0,X),(1,Y)]) (vs:=[.int .i64 k,u]) (us:=[.int .i64 k,u]) aF (by simp[bS,du]) aM au (Ic aj).1 rfl rfl (by rw[(Ic aj).2];rfl);exact⟨_,_,ap,bd.refl _,u,U,aD.1,aD.2.1⟩
theorem yN{P:Program}{f:FuncId}{v0 Ld:Value}{k:Int}{l:List UInt8}{e:TypeId}{w:World}{B:Nat}{R:Value->Value->az}(aL:B<=w.heap.size)(h:(sP B e k l).ok w Ld)(C:∀u,Bytes w u l->u.oneCell'=true->aY P f [v0,.agg #[.int .i64 k,u]] w [] (fun o:Value=>o) (fun o=>[R o u]) (fun _=>True)):
  rp P f #[v0,Ld] w (cL B [] (fun q:Value×Value=>q.1) (fun q=>[R q.1 q.2,.bytes e q.2 l]) (fun _=>True)):=by
 obtain⟨u,rfl,an,aB⟩:=h;refine(C u (an.reads 0 U) (an.reads 0 U).one).mono fun oe w' ⟨x,aj,aJ,cc,bu,_⟩=>⟨_,aj,(aJ.mono fun g _ h=>(gQ h).elim:dc qW w w').ext,(x,u),U,?_,fun g al=>?_,trivial⟩
 ·have ad:bd w w':=(aJ.mono fun g _ h=>(gQ h).elim:dc qW w w').ext;have xH:=an.ext ad;refine⟨fun z au=>?_,fun z au g al=>?_,List.pairwise_pair.2 fun g al dq=>?_⟩
  ·simp only[List.mem_cons,List.not_mem_nil,or_false]at au;rcases au with rfl|rfl
   ·exact cc.gi _ (List.mem_singleton.2 U)
   ·exact xH.gi _ (List.mem_singleton.2 U)
  ·simp only[List.mem_cons,List.not_mem_nil,or_false]at au;rcases au with rfl|rfl
   ·exact cc.lt _ (List.mem_singleton.2 U) g al
   ·exact xH.lt _ (List.mem_singleton.2 U) g al
  ·have:=(bu g (g9.2 al)).resolve_left gQ;have:=an.lt _ (List.mem_singleton.2 rfl) g dq;omega
 ·obtain⟨z,au,al⟩:=al;simp only[List.mem_cons,List.not_mem_nil,or_false]at au;rcases au with rfl|rfl
  ·exact .inr (Nat.le_trans aL ((bu g (g9.2 al)).resolve_left gQ))
  ·exact .inr (aB g (g9.2 al))
end
section
open Go.RowKit
section
variable{P:Program}
theorem Wg{ρ:Operand->Value}{o:Oper}{w:World}{t dP e bV:TypeId}{X Y:Operand}{sz bytes n m:Nat}{v x:Value}{xs news:List Value}{args:List Operand}{b7:List TypeId}(aF:o.op=.call {callee:=.builtin .append,args:=args.toArray,argTypes:=b7.toArray})(bm:args=[X,Y])(fp:b7=[t,dP])(bS:ρ X=v)(du:ρ Y=x)
  (aM:dN P t e=true) (h6:dN P dP bV=true) (au:hl P e sz=true) (ak:hk P e bytes=true) (hd:0<sz) (je:w.ownsRow 0 e sz v n xs) (aP:Src P sz dP x m news w) (g1:(n+m)*(bytes+1)<=140737488355328):
  ∃bR w',(execOp ρ o).run P w=.ok (.value bR) w'/\w'.ownsRow 0 e sz bR (n+m) (xs++news)/\w.grownBy w' v.ownBlock/\(∀g,bR.ownBlock=some g->v.ownBlock=some g\/w.heap.size<=g):=by
 subst bm fp;unfold hl at au;unfold hk at ak;cases hi:P.info? e with
 |none=>rw[hi]at au;cases au
 |some i=>
  rw[hi]at au ak;simp only[Bool.and_eq_true,beq_iff_eq]at au ak;cases j5:i.zero with
  |none=>rw[j5]at au;cases au.2
  |some z=>
   rw[j5]at au;have oz:z.cells.size=sz:=by simpa using au.2
   have cz:(n+m)*(bytes+1)=(n+m)*bytes+(n+m):=by rw[Nat.mul_add,Nat.mul_one]
   obtain⟨bR,w',an,aB,be,bZ,_⟩:=IP (P:=P) t dP o.type e i z sz bytes (kg aM) hi j5 au.1 ak oz hd v n xs je x m news aP (by simp only[maxLen];omega) (by omega);refine⟨bR,w',?_,aB,be,bZ⟩;simp[execOp,aF,resolve,invoke,builtin,bS,du,an]
variable{ops:Array Oper}{Q:Exit->Act->World->Prop}{l:List (Nat×Value)}{n:Nat}{a:Act}{w w' w0:World}{rest:List Oper}{o:Oper}{O:Nat->Prop}{L R:List az}{Φ:World->Prop}
theorem W0{d:Tmp}{i k m sz bytes:Nat}{t dP e bV:TypeId}{X Y:Operand}{v x:Value}{xs news:List Value}{args:List Operand}{b7:List TypeId}(E:Env l n a)(M:Mem w0 O L Φ w)(dd:L[i]? =some (.row e sz v k xs))(aT:o.dst=some d)(a6:Nat.blt d n=true)(aJ:dp l o=true)(al:dg ops l o=true)(hw:dh ops l o=true)
  (aF:o.op=.call {callee:=.builtin .append,args:=args.toArray,argTypes:=b7.toArray}) (bm:args=[X,Y]) (fp:b7=[t,dP]) (bS:cf l X=v) (du:cf l Y=x) (aM:dN P t e=true) (h6:dN P dP bV=true) (au:hl P e sz=true) (ak:hk P e bytes=true) (hd:0<sz) (aP:Src P sz dP x m news w) (g1:(k+m)*(bytes+1)<=140737488355328)
  (dD:∀bR a' w',Mem w0 O (L.set i (.row e sz bR (k+m) (xs++news))) Φ w'->Env ((d,bR)::l) n a'->wpList P ops Q rest a' w'):wpList P ops Q (o::rest) a w:=by
 obtain⟨bR,w',h,aB,be,bZ⟩:=Wg (P:=P) aF bm fp bS du aM h6 au ak hd (M.dG i dd) aP g1;refine e5 E aT a6 aJ al hw h fun a' dQ=>dD bR a' w' (M.change dd _ ⟨be.os,be.tape,be.output,⟨be.size,fun g al a6=>be.block g al (fun he=>a6 (by simp[az.row,<-he]))⟩⟩ aB fun g al=>?_) dQ;have dq:bR.ownBlock=some g:=by simpa [az.row]using al
 refine⟨?_,(bZ g dq).imp (fun h=>by simp[az.row,h]) id⟩;rcases aB.2 with⟨rfl,_⟩|⟨cF,cap,dz,rfl,_,dZ,_⟩
 ·simp[Value.ownBlock]at dq
 ·simp[Value.ownBlock]at dq;subst dq;exact(Array.getElem?_eq_some_iff.1 dZ).1
end
def fv(w:World)(F:Nat->Prop)(v:Value)(l:List UInt8):Prop:=(Bytes w v l/\∀g,v.ownBlock=some g->¬F g)\/∃a,v=.slice (some a) 0 0/\l=[]
def fw(w:World)(F:Nat->Prop)(v:Value)(l:List Int):Prop:=(Reads 1 w v l.length (fg l)/\∀g,v.ownBlock=some g->¬F g)\/∃a,v=.slice (some a) 0 0/\l=[]
theorem fv.held{w w':World}{F:Nat->Prop}{v:Value}{l:List UInt8}(h:fv w F v l)(H:gI F w w'):fv w' F v l:=h.imp (fun q=>⟨Reads.held q.1 H q.2,q.2⟩) id
theorem fw.held{w w':World}{F:Nat->Prop}{v:Value}{l:List Int}(h:fw w F v l)(H:gI F w w'):fw w' F v l:=h.imp (fun q=>⟨Reads.held q.1 H q.2,q.2⟩) id
theorem fv.less{w:World}{F G:Nat->Prop}{v:Value}{l:List UInt8}(h:fv w F v l)(al:∀g,G g->F g):fv w G v l:=h.imp (fun q=>⟨q.1,fun g aD c=>q.2 g aD (al g c)⟩) id
theorem fw.less{w:World}{F G:Nat->Prop}{v:Value}{l:List Int}(h:fw w F v l)(al:∀g,G g->F g):fw w G v l:=h.imp (fun q=>⟨q.1,fun g aD c=>q.2 g aD (al g c)⟩) id
structure cp where
 k:Int
 n:Int
 m:Int
 r:Rec
 eA:Value
 lv:Value
 eM:List UInt8
 eW:List Int
def cp.cells(o:cp):List Value:=[.int .i64 o.k,.int .i64 o.n,.int .i64 o.m]++(o.r.cells++[o.eA,o.lv])
section
variable{o:cp}
theorem cp.len(h:o.r.Ok):o.cells.length=141:=by simp[cp.cells,Rec.len h]
theorem cp.size(h:o.r.Ok):o.cells.toArray.size=141:=by simp[cp.len h]
theorem cp.ld:o.cells.toArray[0]? =some (.int .i64 o.k):=by simp[cp.cells]
theorem cp.qf:o.cells.toArray[1]? =some (.int .i64 o.n):=by simp[cp.cells]
theorem cp.xa:o.cells.toArray[2]? =some (.int .i64 o.m):=by simp[cp.cells]
theorem cp.EI(h:o.r.Ok):((o.cells.toArray.toList.drop 3).take 136).toArray=o.r.cells.toArray:=by
 show(((o.r.cells++[o.eA,o.lv]):List Value).take 136).toArray=_
 rw[List.take_left' (Rec.len h)]
theorem cp.zT(h:o.r.Ok):o.cells.toArray[139]? =some o.eA:=by
 simp only[List.getElem?_toArray,cp.cells];rw[List.getElem?_append_right (by simp),List.getElem?_append_right (by simp[Rec.len h])];simp[Rec.len h]
theorem cp.zU(h:o.r.Ok):o.cells.toArray[140]? =some o.lv:=by
 simp only[List.getElem?_toArray,cp.cells];rw[List.getElem?_append_right (by simp),List.getElem?_append_right (by simp[Rec.len h])];simp[Rec.len h]
end
theorem Xl{P:Program}{dP bV:TypeId}{a:Addr}{w:World}(h6:dN P dP bV=true):Src P 1 dP (.slice (some a) 0 0) 0 [] w:=Src.ofSlice w (kg h6) a 0 0 [] rfl (fun j u hu=>by cases hu) (fun u hu=>by cases hu)
end
end Go.a2
namespace Go.Proofs
section
open Go.Shelf
def Tryz.Hd:Go.Shelf.Ren:=⟨fun|7=>164|10=>196|n=>n,fun|23=>93|26=>3|3=>22|28=>208|0=>0|27=>207|33=>122|4=>4|n=>n,fun|n=>n⟩
theorem Tryz.Tt:SlLaysZI.n7 Tryz.prog Tryz.Hd:=
 {mixed:=by kernel_rfl,
  f7:=⟨Tryz.f164.name,by decide,Tryz.func164.trans (congrArg some (by kernel_rfl))⟩,
  f10:=⟨Tryz.f196.name,by decide,Tryz.func196.trans (congrArg some (by kernel_rfl))⟩,
  t0:=Tryz.underlying0,
  a0:=Tryz.isAgg0,
  z0:=Tryz.sizeOf0,
  v0:=Tryz.zeroValue0,
  t4:=Tryz.underlying4,
  a4:=Tryz.isAgg4,
  z4:=Tryz.sizeOf4,
  v4:=Tryz.zeroValue4,
  t23:=Tryz.underlying93,
  a23:=Tryz.isAgg93,
  z23:=Tryz.sizeOf93,
  v23:=Tryz.zeroValue93,
  t26:=Tryz.underlying3,
  a26:=Tryz.isAgg3,
  z26:=Tryz.sizeOf3,
  v26:=Tryz.zeroValue3,
  t27:=Tryz.underlying207,
  a27:=Tryz.isAgg207,
  z27:=Tryz.sizeOf207,
  v27:=Tryz.zeroValue207,
  t28:=Tryz.underlying208,
  a28:=Tryz.isAgg208,
  z28:=Tryz.sizeOf208,
  v28:=Tryz.zeroValue208,
  t33:=Tryz.underlying122,
  a33:=Tryz.isAgg122,
  z33:=Tryz.sizeOf122,
  v33:=Tryz.zeroValue122}
def Tryz.Jk:Go.Shelf.Ren:=⟨fun|6=>163|8=>194|9=>195|11=>211|13=>213|12=>212|23=>230|24=>231|14=>221|15=>222|16=>223|17=>224|18=>225|19=>226|20=>227|21=>228|22=>229|25=>234|26=>235|27=>236|28=>237|29=>238|30=>239|31=>242|n=>n,fun|26=>3|28=>208|24=>46|0=>0|3=>3|37=>192|48=>227|50=>214|4=>4|40=>258|39=>257|45=>262|5=>5|9=>9|51=>267|55=>271|57=>273|58=>274|33=>122|n=>n,fun|n=>n⟩
theorem Tryz.Xj:SlLaysZI.n6 Tryz.prog Tryz.Jk:=
 {mixed:=by kernel_rfl,
  f6:=⟨Tryz.f163.name,by decide,Tryz.func163.trans (congrArg some (by kernel_rfl))⟩,
  f8:=⟨Tryz.f194.name,by decide,Tryz.func194.trans (congrArg some (by kernel_rfl))⟩,
  f11:=⟨Tryz.f211.name,by decide,Tryz.func211.trans (congrArg some (by kernel_rfl))⟩,
  t0:=Tryz.underlying0,
  a0:=Tryz.isAgg0,
  z0:=Tryz.sizeOf0,
  v0:=Tryz.zeroValue0,
  t24:=Tryz.underlying46,
  a24:=Tryz.isAgg46,
  z24:=Tryz.sizeOf46,
  v24:=Tryz.zeroValue46,
  t26:=Tryz.underlying3,
  a26:=Tryz.isAgg3,
  z26:=Tryz.sizeOf3,
  v26:=Tryz.zeroValue3,
  t28:=Tryz.underlying208,
  a28:=Tryz.isAgg208,
  z28:=Tryz.sizeOf208,
  v28:=Tryz.zeroValue208,
  i26:=by kernel_rfl}
def Tryz.Xi:Go.Shelf.Ren:=⟨fun|5=>195|8=>213|7=>212|19=>230|20=>231|10=>221|11=>222|12=>223|13=>224|14=>225|15=>226|16=>227|17=>228|18=>229|30=>234|31=>235|32=>236|33=>237|34=>238|35=>239|40=>242|n=>n,fun|23=>46|25=>3|3=>3|32=>192|22=>46|0=>0|44=>227|46=>214|4=>4|36=>258|35=>257|41=>262|5=>5|9=>9|53=>267|57=>271|63=>273|64=>274|n=>n,fun|n=>n⟩
theorem Tryz.Jj:SlLaysM.n5 Tryz.prog Tryz.Xi:=
 {mixed:=by kernel_rfl,
  f5:=⟨Tryz.f195.name,by decide,Tryz.func195.trans (congrArg some (by kernel_rfl))⟩,
  f7:=⟨Tryz.f212.name,by decide,Tryz.func212.trans (congrArg some (by kernel_rfl))⟩,
  f8:=Tryz.func213.trans (congrArg some (by kernel_rfl)),
  f10:=⟨Tryz.f221.name,by decide,Tryz.func221.trans (congrArg some (by kernel_rfl))⟩,
  f11:=⟨Tryz.f222.name,by decide,Tryz.func222.trans (congrArg some (by kernel_rfl))⟩,
  f12:=⟨Tryz.f223.name,by decide,Tryz.func223.trans (congrArg some (by kernel_rfl))⟩,
  f13:=⟨Tryz.f224.name,by decide,Tryz.func224.trans (congrArg some (by kernel_rfl))⟩,
  f14:=⟨Tryz.f225.name,by decide,Tryz.func225.trans (congrArg some (by kernel_rfl))⟩,
  f15:=⟨Tryz.f226.name,by decide,Tryz.func226.trans (congrArg some (by kernel_rfl))⟩,
  f16:=⟨Tryz.f227.name,by decide,Tryz.func227.trans (congrArg some (by kernel_rfl))⟩,
  f17:=⟨Tryz.f228.name,by decide,Tryz.func228.trans (congrArg some (by kernel_rfl))⟩,
  f18:=⟨Tryz.f229.name,by decide,Tryz.func229.trans (congrArg some (by kernel_rfl))⟩,
  f19:=Tryz.func230.trans (congrArg some (by kernel_rfl)),
  f20:=Tryz.func231.trans (congrArg some (by kernel_rfl)),
  f30:=⟨Tryz.f234.name,by decide,Tryz.func234.trans (congrArg some (by kernel_rfl))⟩,
  f31:=Tryz.func235.trans (congrArg some (by kernel_rfl)),
  f32:=Tryz.func236.trans (congrArg some (by kernel_rfl)),
  f33:=⟨Tryz.f237.name,by decide,Tryz.func237.trans (congrArg some (by kernel_rfl))⟩,
  f34:=⟨Tryz.f238.name,by decide,Tryz.func238.trans (congrArg some (by kernel_rfl))⟩,
  f35:=⟨Tryz.f239.name,by decide,Tryz.func239.trans (congrArg some (by kernel_rfl))⟩,
  f40:=⟨Tryz.f242.name,by decide,Tryz.func242.trans (congrArg some (by kernel_rfl))⟩,
  t0:=Tryz.underlying0,
  a0:=Tryz.isAgg0,
  z0:=Tryz.sizeOf0,
  v0:=Tryz.zeroValue0,
  t3:=Tryz.underlying3,
  a3:=Tryz.isAgg3,
  z3:=Tryz.sizeOf3,
  v3:=Tryz.zeroValue3,
  t4:=Tryz.underlying4,
  a4:=Tryz.isAgg4,
  z4:=Tryz.sizeOf4,
  v4:=Tryz.zeroValue4,
  t5:=Tryz.underlying5,
  a5:=Tryz.isAgg5,
  z5:=Tryz.sizeOf5,
  v5:=Tryz.zeroValue5,
  t9:=Tryz.underlying9,
  a9:=Tryz.isAgg9,
  z9:=Tryz.sizeOf9,
  v9:=Tryz.zeroValue9,
  t22:=Tryz.underlying46,
  a22:=Tryz.isAgg46,
  z22:=Tryz.sizeOf46,
  v22:=Tryz.zeroValue46,
  t23:=Tryz.underlying46,
  a23:=Tryz.isAgg46,
  z23:=Tryz.sizeOf46,
  v23:=Tryz.zeroValue46,
  t25:=Tryz.underlying3,
  a25:=Tryz.isAgg3,
  z25:=Tryz.sizeOf3,
  v25:=Tryz.zeroValue3,
  t32:=Tryz.underlying192,
  a32:=Tryz.isAgg192,
  z32:=Tryz.sizeOf192,
  v32:=Tryz.zeroValue192,
  t35:=Tryz.underlying257,
  a35:=Tryz.isAgg257,
  z35:=Tryz.sizeOf257,
  v35:=Tryz.zeroValue257,
  t36:=Tryz.underlying258,
  a36:=Tryz.isAgg258,
  z36:=Tryz.sizeOf258,
  v36:=Tryz.zeroValue258,
  t41:=Tryz.underlying262,
  a41:=Tryz.isAgg262,
  z41:=Tryz.sizeOf262,
  v41:=Tryz.zeroValue262,
  t44:=Tryz.underlying227,
  a44:=Tryz.isAgg227,
  z44:=Tryz.sizeOf227,
  v44:=Tryz.zeroValue227,
  t46:=Tryz.underlying214,
  a46:=Tryz.isAgg214,
  z46:=Tryz.sizeOf214,
  v46:=Tryz.zeroValue214,
  t53:=Tryz.underlying267,
  a53:=Tryz.isAgg267,
  z53:=Tryz.sizeOf267,
  v53:=Tryz.zeroValue267,
  t57:=Tryz.underlying271,
  a57:=Tryz.isAgg271,
  z57:=Tryz.sizeOf271,
  v57:=Tryz.zeroValue271,
  t63:=Tryz.underlying273,
  a63:=Tryz.isAgg273,
  z63:=Tryz.sizeOf273,
  v63:=Tryz.zeroValue273,
  t64:=Tryz.underlying274,
  a64:=Tryz.isAgg274,
  z64:=Tryz.sizeOf274,
  v64:=Tryz.zeroValue274}
end
end Go.Proofs
namespace Go.a2
section
open Go.RowKit Go.ChangeShapes Go.WideShapes
section
variable{H:Type}{enc:TypeId×Value->H}{P:Program}{W:World}{base ml:Nat}{spare:Nat->Bool}{held:Bool}{r:Reach}{t e:TypeId}{v:Value}
theorem Z8{n:Int}(h:(Lit.int .u8 n).wf=true):0<=n/\n<256:=by
 have h:(decide (IntKind.u8.min<=n)&&decide (n<=IntKind.u8.max))=true:=h;have a:IntKind.min .u8=0:=rfl;have b:IntKind.max .u8=255:=rfl;rw[a,b,Bool.and_eq_true,decide_eq_true_eq,decide_eq_true_eq]at h;omega
theorem Dm{n:Int}(h:(Lit.int .u8 n).wf=true):((UInt8.ofNat n.toNat).toNat:Int)=n:=by
 have:=Z8 h;simp only[UInt8.toNat_ofNat'];omega
theorem PA{d:DataW H}{p:List MemPlace}(aM:P.underlying t=some (.slice e))(he:P.underlying e=some (.int .u8))(aJ:P.cellsOf e=1)(kS:Value.okWide P W r ml t v)(h:DataW.Trod enc P W base (fun _=>true) held t v d p):∃l,Bytes W v l:=by
 have mz:=kS;obtain⟨a,len,cap,rfl⟩:=okWide_slice aM kS;obtain⟨fuel,bu⟩:=h;rcases open_ints aM he aJ bu with⟨fo,_⟩|⟨x,l,c,ia,fo,_,aI,hm,au,_,rT,x1⟩
 ·simp[Value.cells]at fo;obtain⟨rfl,rfl,rfl⟩:=fo;exact⟨[],Bytes.nil W⟩
 ·simp[Value.cells]at fo;obtain⟨rfl,rfl,rfl⟩:=fo;have iT:Cell.ok P W r ml t (.slice (some x) len cap):=by
   unfold Value.okWide at mz;rw[aM]at mz;simp only at mz;unfold Cell.okWide at mz;rw[aM]at mz;exact mz
  unfold Cell.ok at iT;rw[aM]at iT;obtain⟨_,_,_,aP,row,cells,m8,_⟩:=iT;obtain⟨g,off,spot⟩:=x;have aP:spot=none:=aP;subst aP;have al:g<W.heap.size:=by
   unfold World.shape? at m8;cases cc:W.heap[g]? with
   |none=>rw[cc]at m8;cases m8
   |some o=>exact(Array.getElem?_eq_some_iff.1 cc).1
  have kT:ia.length=cap:=by simpa using au
  have kP:((ia.take len).map fun n=>UInt8.ofNat n.toNat).length=len:=by simp;omega
  refine⟨(ia.take len).map fun n=>UInt8.ofNat n.toNat,by simp,.inr ⟨g,off,cap,by rw[kP],by omega,hm,al,fun j u hu=>?_⟩⟩;unfold ao at hu;rw[List.map_map,List.getElem?_map]at hu;cases ax:(ia.take len)[j]? with
  |none=>rw[ax]at hu;cases hu
  |some n=>
   rw[ax]at hu;simp only[Option.map_some,Function.comp,Option.some.injEq]at hu;have iD:=(List.getElem?_eq_some_iff.1 ax).1;have vn:j<ia.length:=by simp at iD;omega
   have a6:ia[j]? =some n:=by
    rw[List.getElem?_take]at ax;split at ax
    ·exact ax
    ·cases ax
   have r1:n∈ia:=List.mem_of_getElem? a6;rw[Dm (x1 n r1)]at hu;have:=rT j vn;rw[add_plain,List.getD_eq_getElem?_getD,a6]at this;rw[this,<-hu];rfl
def sI(cs:List Value):Prop:=∀v∈cs,∃k n,v=.int k n/\(Lit.int k n).wf=true
theorem zX{k:Nat}(h:eS P t k=true):P.cellsOf t=k:=by
 obtain⟨i,hi,aP⟩:=uh h;simp[Program.cellsOf,hi,aP]
def pb(P:Program):Nat->TypeId->Bool
 |0,_=>false
 |D+1,t=>match P.underlying t with
  |some (.int _)=>P.cellsOf t==1
  |some (.struct dX)=>dX.toList.all fun f=>pb P D f.type
  |some (.array _ e)=>pb P D e
  |_=>false
theorem Da:∀(D:Nat) (t:TypeId) (ks:List IntKind),er P D t=some ks->pb P D t=true->∀(fuel:Nat) (cs:List Value) (x:DataW H×List MemPlace),DataW.trod enc P W base spare held fuel t cs=some x->Fit ks cs/\sI cs
 |0,t,ks,h=>by simp[er]at h
 |D+1,t,ks,h=>by
  intro gS fuel cs x ad;have PP:∀t ks,er P D t=some ks->pb P D t=true->P.cellsOf t=ks.length:=fun t ks ab gS=>by
   rcases nh ab with⟨aj,an⟩|⟨aj,an⟩
   ·rw[an];cases D with
    |zero=>simp[er]at ab
    |succ kA=>
     have hu:∃k,P.underlying t=some (.int k):=by
      unfold er at ab;cases hu:P.underlying t with
      |none=>rw[hu]at ab;cases ab
      |some kI=>
       rw[hu]at ab;cases kI with
       |int k=>exact⟨k,rfl⟩
       |struct dX=>simp[fb,hu]at aj
       |array n e=>simp[fb,hu]at aj
       |_=>cases ab
     obtain⟨k,hu⟩:=hu;unfold pb at gS;rw[hu]at gS;simpa using gS
   ·exact zX (sD an)
  cases fuel with
  |zero=>simp[DataW.trod]at ad
  |succ fuel=>
   unfold er at h;unfold pb at gS;cases hu:P.underlying t with
   |none=>rw[hu]at h;cases h
   |some kI=>
    rw[hu]at h gS;cases kI with
    |int k=>
     simp only at h;split at h
     ·injection h with h;subst h;obtain⟨n,rfl,_,hw⟩:=DataW.trod_int hu ad;exact⟨U,fun v aD=>by simp at aD;subst aD;exact⟨_,_,U,hw⟩⟩
     ·cases h
    |struct dX=>
     simp only at h;cases bu:iC (er P D) dX.toList 0 with
     |none=>rw[bu]at h;cases h
     |some g2=>
      rw[bu]at h;simp only at h;split at h
      ·rename_i aJ;rw[Bool.and_eq_true]at aJ;injection h with h;subst h;unfold DataW.trod at ad;rw[hu]at ad;simp only at ad;split at ad
       ·rename_i hlen;rw[zX (sD aJ.1)]at hlen;simp only[Option.map_eq_some_iff]at ad;obtain⟨xs,mA,_⟩:=ad;have key:∀(L:List Field) (off:Nat) (dD:List IntKind),(L.all fun f=>pb P D f.type)=true->iC (er P D) L off=some dD->∀(xs:List (DataW H×List MemPlace)),(L.mapM fun f=>DataW.trod enc P W base spare held fuel f.type ((cs.drop f.offset).take (P.cellsOf f.type)))=some xs->off+dD.length<=cs.length->Fit dD ((cs.drop off).take dD.length)/\sI ((cs.drop off).take dD.length):=by
         intro L
         induction L with
         |nil=>
          intro off dD aR h xs mA aI;simp only[iC,Option.some.injEq]at h;subst h;exact⟨by simp[Fit],fun v aD=>by simp at aD⟩
         |cons f L ck=>
          intro off dD aR h xs mA aI;simp only[List.all_cons,Bool.and_eq_true]at aR;unfold iC at h;cases ab:er P D f.type with
          |none=>rw[ab]at h;cases h
          |some gk=>
           rw[ab]at h;simp only at h;split at h
           ·rename_i aJ;simp only[Bool.and_eq_true,Bool.not_eq_true',beq_iff_eq]at aJ;cases ap:iC (er P D) L (off+gk.length)with
            |none=>rw[ap]at h;cases h
            |some hQ=>
             rw[ap]at h;simp only[Option.some.injEq]at h;subst h;simp only[List.mapM_cons,Option.bind_eq_bind,Option.bind_eq_some_iff]at mA;obtain⟨y,bn,ys,Bl,_⟩:=mA;rw[aJ.1,PP _ _ ab aR.1]at bn;obtain⟨gn,fY⟩:=Da D f.type gk ab aR.1 fuel _ _ bn;simp only[List.length_append]at aI;obtain⟨jc,jr⟩:=ck (off+gk.length) hQ aR.2 ap ys Bl (by omega);have e:(cs.drop off).take (gk++hQ).length=(cs.drop off).take gk.length++(cs.drop (off+gk.length)).take hQ.length:=by
              rw[List.length_append,List.take_add,List.drop_drop]
             rw[e];exact⟨gn.app jc,fun v aD=>by
              rcases List.mem_append.1 aD with aD|aD
              ·exact fY v aD
              ·exact jr v aD⟩
           ·cases h
        have:=key dX.toList 0 _ gS bu xs mA (by omega)
        rwa [List.drop_zero,List.take_of_length_le (by omega)]at this
       ·cases ad
      ·cases h
    |array n e=>
     simp only at h;cases bu:er P D e with
     |none=>rw[bu]at h;cases h
     |some g2=>
      rw[bu]at h;simp only at h;split at h
      ·rename_i aJ;simp only[Bool.and_eq_true,beq_iff_eq]at aJ;injection h with h;subst h;unfold DataW.trod at ad;rw[hu]at ad;simp only at ad;split at ad
       ·rename_i hlen;rw[zX (sD aJ.2)]at hlen;simp only[Option.map_eq_some_iff]at ad;obtain⟨xs,mA,_⟩:=ad;rw[List.range_eq_range']at mA;have key:∀(m s:Nat) (xs:List (DataW H×List MemPlace)),((List.range' s m).mapM fun i=>DataW.trod enc P W base spare held fuel e ((cs.drop (i*P.cellsOf e)).take (P.cellsOf e)))=some xs->(s+m)*g2.length<=cs.length->Fit (List.replicate m g2).flatten ((cs.drop (s*g2.length)).take (m*g2.length))/\sI ((cs.drop (s*g2.length)).take (m*g2.length)):=by
         intro m
         induction m with
         |zero=>
          intro s xs mA aI;rw[Nat.zero_mul,List.take_zero];exact⟨by simp[Fit],fun v aD=>by simp at aD⟩
         |succ m ck=>
          intro s xs mA aI;rw[List.range'_succ]at mA;simp only[List.mapM_cons,Option.bind_eq_bind,Option.bind_eq_some_iff]at mA;obtain⟨y,bn,ys,Bl,_⟩:=mA;rw[aJ.1.1]at bn;obtain⟨gn,fY⟩:=Da D e g2 bu gS fuel _ _ bn;obtain⟨jc,jr⟩:=ck (s+1) ys Bl (by rw[show s+1+m=s+(m+1) by omega];exact aI);have cz:(cs.drop (s*g2.length)).take ((m+1)*g2.length)=(cs.drop (s*g2.length)).take g2.length++(cs.drop ((s+1)*g2.length)).take (m*g2.length):=by
           rw[show(m+1)*g2.length=g2.length+m*g2.length by rw[Nat.add_mul];omega,List.take_add,List.drop_drop];rw[show s*g2.length+g2.length=(s+1)*g2.length by rw[Nat.add_mul];omega]
          rw[cz,List.replicate_succ,List.flatten_cons];exact⟨gn.app jc,fun v aD=>by
           rcases List.mem_append.1 aD with aD|aD
           ·exact fY v aD
           ·exact jr v aD⟩
        have:=key n 0 xs mA (by rw[Nat.zero_add];omega)
        rwa [Nat.zero_mul,List.drop_zero,List.take_of_length_le (by omega)]at this
       ·cases ad
      ·cases h
    |_=>cases h
theorem VQ{cs:List Value}(bu:Fit ([.i64]++[.i64]++[.i64]++List.replicate 32 .u8++[.i64]++List.replicate 32 .u8++[.i64]++[.i64]++[.i64]++[.i64]++List.replicate 32 .u8++List.replicate 32 .u8) cs)(hw:sI cs):∃r:Rec,r.Ok/\cs=r.cells:=by
 obtain⟨aa1,d12,rfl,f11,RA⟩:=bu.split;obtain⟨aa0,d11,rfl,f10,Rz⟩:=f11.split;obtain⟨w9,d10,rfl,f9,Ry⟩:=f10.split;obtain⟨uK,d9,rfl,f8,RD⟩:=f9.split;obtain⟨w8,d8,rfl,f7,RC⟩:=f8.split;obtain⟨qe,d7,rfl,f6,RB⟩:=f7.split;obtain⟨od,d6,rfl,f5,xD⟩:=f6.split;obtain⟨oc,d5,rfl,f4,u0⟩:=f5.split;obtain⟨mX,d4,rfl,f3,lF⟩:=f4.split;obtain⟨lD,d3,rfl,f2,gR⟩:=f3.split;obtain⟨d1,d2,rfl,bQ,cF⟩:=f2.split;have one:∀{l:List Value},Fit [.i64] l->∃n,l=[aW n]:=fun{l} h=>by
  obtain⟨v,rfl⟩:∃v,l=[v]:=List.length_eq_one_iff.1 (by rw[h.len];rfl);simp only[Fit,List.map_cons,List.map_nil,List.cons.injEq,and_true]at h;cases v<;>simp only[kindOf,reduceCtorEq,Option.some.injEq]at h;subst h;exact⟨_,U⟩
 have many:∀{n:Nat} {l:List Value},Fit (List.replicate n .u8) l->sI l->∃s:List UInt8,s.length=n/\l=ao s:=by
  intro n
  induction n with
  |zero=>intro l h _;exact⟨[],rfl,List.eq_nil_of_length_eq_zero (by simpa using h.len)⟩
  |succ n ck=>
   intro l h hw;cases l with
   |nil=>have:=h.len;simp at this
   |cons v l=>
    simp only[Fit,List.map_cons,List.replicate_succ,List.cons.injEq]at h;obtain⟨aj,an⟩:=h;obtain⟨s,cz,c6⟩:=ck (l:=l) an fun v aD=>hw v (List.mem_cons_of_mem _ aD);obtain⟨k,m,rfl,hm⟩:=hw v (List.mem_cons_self ..);simp only[kindOf,Option.some.injEq]at aj;subst aj;refine⟨UInt8.ofNat m.toNat::s,by simp[cz],?_⟩;rw[Er,<-c6,Dm hm]
 have W:=hw;unfold sI at W;obtain⟨T7,rfl⟩:=one bQ;obtain⟨HD,rfl⟩:=one cF;obtain⟨T8,rfl⟩:=one gR;obtain⟨sq,kJ,rfl⟩:=many lF fun v aD=>W v (by simp[aD]);obtain⟨n5,rfl⟩:=one u0;obtain⟨Wz,xk,rfl⟩:=many xD fun v aD=>W v (by simp[aD]);obtain⟨n7,rfl⟩:=one RB;obtain⟨n8,rfl⟩:=one RC;obtain⟨n9,rfl⟩:=one RD;obtain⟨n10,rfl⟩:=one Ry;obtain⟨Wx,Ad,rfl⟩:=many Rz fun v aD=>W v (by simp[aD]);obtain⟨Wy,P4,rfl⟩:=many RA fun v aD=>W v (by simp[aD]);exact⟨⟨T7,HD,T8,sq,n5,Wz,n7,n8,n9,n10,Wx,Wy⟩,⟨kJ,xk,Ad,P4⟩,by simp[Rec.cells]⟩
end
end
section
open Go.RowKit Go.ChangeShapes Go.WideShapes
section
variable{H:Type}{enc:TypeId×Value->H}{P:Program}{W:World}{base ml:Nat}{spare:Nat->Bool}{held:Bool}{r:Reach}{t e:TypeId}{v:Value}
theorem EO{α:Type}{p:Nat->α->Prop}:∀(n:Nat),(∀i,i<n->∃x,p i x)->∃l:List α,l.length=n/\∀i (h:i<l.length),p i l[i]
 |0,_=>⟨[],rfl,fun i h=>absurd h (Nat.not_lt_zero _)⟩
 |n+1,h=>by
  obtain⟨l,e,aI⟩:=EO (p:=p) n fun i hi=>h i (by omega);obtain⟨x,ad⟩:=h n (by omega);refine⟨l++[x],by simp[e],fun i hi=>?_⟩;by_cases a6:i<l.length
  ·rw[List.getElem_append_left a6];exact aI i a6
  ·have:i=n:=by simp at hi;omega
   subst this;rw[List.getElem_append_right (by omega)];simpa using ad
def p7(r:Rec):Prop:= -9223372036854775808<=r.cd/\r.cd<=9223372036854775807
theorem S5{n:Int}(h:(Lit.int .i64 n).wf=true): -9223372036854775808<=n/\n<=9223372036854775807:=by
 have h:(decide (IntKind.i64.min<=n)&&decide (n<=IntKind.i64.max))=true:=h;have a:IntKind.min .i64= -9223372036854775808:=by decide
 have b:IntKind.max .i64=9223372036854775807:=by decide
 rw[a,b,Bool.and_eq_true,decide_eq_true_eq,decide_eq_true_eq]at h;exact h
end
end
section
open Go.RowKit
def jh(l:List cp):List Value:=(l.map cp.cells).flatten
def jJ(l:List cp):Prop:=∀r∈l,r.r.Ok
@[simp] theorem abA:jh []=[]:=rfl
theorem HZ(r:cp)(l:List cp):jh (r::l)=r.cells++jh l:=by simp[jh]
theorem UB(a b:List cp):jh (a++b)=jh a++jh b:=by simp[jh]
theorem jJ.take{l:List cp}(h:jJ l)(k:Nat):jJ (l.take k):=fun r ap=>h r (List.mem_of_mem_take ap)
theorem jJ.get{l:List cp}(h:jJ l){k:Nat}(ab:k<l.length):(l[k]).r.Ok:=h _ (List.getElem_mem ab)
theorem BG{l:List cp}(h:jJ l):(jh l).length=l.length*141:=by
 induction l with
 |nil=>rfl
 |cons r l ck=>rw[HZ,List.length_append,cp.len (h r (List.mem_cons_self ..)),ck fun x ad=>h x (List.mem_cons_of_mem _ ad),List.length_cons];omega
theorem UC{l:List cp}(h:jJ l){k:Nat}(ab:k<=l.length):(jh l).drop (k*141)=jh (l.drop k):=by
 have e:jh l=jh (l.take k)++jh (l.drop k):=by rw[<-UB,List.take_append_drop]
 rw[e];exact List.drop_left' (by rw[BG (h.take k),List.length_take,Nat.min_eq_left ab])
theorem BF{l:List cp}(h:jJ l){k:Nat}(ab:k<l.length):((jh l).drop (k*141)).take 141=(l[k]).cells:=by
 rw[UC h (Nat.le_of_lt ab),List.drop_eq_getElem_cons ab,HZ];exact List.take_left' (cp.len (h.get ab))
theorem BD{l:List cp}(h:jJ l){k j:Nat}(ab:k<l.length)(ax:j<141):(jh l)[k*141+j]? =(l[k]).cells[j]? :=by
 rw[<-BF h ab,List.getElem?_take_of_lt ax,List.getElem?_drop]
theorem BE{l:List cp}(h:jJ l){k:Nat}(ab:k<l.length):(jh l)[k*141+139]? =some (l[k]).eA:=by
 rw[BD h ab (by decide)];simpa using cp.zT (h.get ab)
theorem H0{l:List cp}(h:jJ l){k:Nat}(ab:k<l.length):(jh l)[k*141+140]? =some (l[k]).lv:=by
 rw[BD h ab (by decide)];simpa using cp.zU (h.get ab)
def hY(w:World)(F:Nat->Prop)(v:Value)(l:List cp):Prop:=Reads 141 w v l.length (jh l)/\∀o∈l,fv w F o.eA o.eM/\fw w F o.lv o.eW
theorem hY.held{w w':World}{F:Nat->Prop}{v:Value}{l:List cp}(h:hY w F v l)(H:gI F w w')(aD:∀g,v.ownBlock=some g->¬F g):hY w' F v l:=⟨Reads.held h.1 H aD,fun o aF=>⟨(h.2 o aF).1.held H,(h.2 o aF).2.held H⟩⟩
theorem fv.slice{w:World}{F:Nat->Prop}{v:Value}{l:List UInt8}(h:fv w F v l):∃b c,v=.slice b l.length c:=by
 rcases h with⟨h,_⟩|⟨a,rfl,rfl⟩
 ·exact Reads.slice h
 ·exact⟨_,_,U⟩
theorem fw.slice{w:World}{F:Nat->Prop}{v:Value}{l:List Int}(h:fw w F v l):∃b c,v=.slice b l.length c:=by
 rcases h with⟨h,_⟩|⟨a,rfl,rfl⟩
 ·exact Reads.slice h
 ·exact⟨_,_,U⟩
theorem hY.gA{w:World}{v:Value}{l:List cp}(h:Reads 141 w v l.length (jh l))(hi:∀o∈l,(((Bytes w o.eA o.eM/\∀g,o.eA.ownBlock=some g->g<w.heap.size)\/∃a,o.eA=.slice (some a) 0 0/\o.eM=[])/\((Reads 1 w o.lv o.eW.length (fg o.eW)/\∀g,o.lv.ownBlock=some g->g<w.heap.size)\/∃a,o.lv=.slice (some a) 0 0/\o.eW=[]))):hY w (fun g=>w.heap.size<=g) v l:=
 ⟨h,fun o aF=>⟨(hi o aF).1.imp (fun q=>⟨q.1,fun g al c=>Nat.not_le_of_lt (q.2 g al) c⟩) id,(hi o aF).2.imp (fun q=>⟨q.1,fun g al c=>Nat.not_le_of_lt (q.2 g al) c⟩) id⟩⟩
end
end Go.a2
section
end
namespace Go.a2
section
open Go.RowKit Go.ChangeShapes Go.WideShapes
section
variable{H:Type}{enc:TypeId×Value->H}{P:Program}{W:World}{base ml:Nat}{spare:Nat->Bool}{held:Bool}{r:Reach}{t e:TypeId}{v:Value}
theorem EL{w:World}{a:Addr}{v:Value}(h:w.cell? a=some v):a.spot=none/\a.block<w.heap.size:=by
 unfold World.cell? at h;split at h
 ·rename_i c _ _ ak;split at h
  ·cases h
  ·rename_i aP;exact⟨by simpa using aP,(Array.getElem?_eq_some_iff.1 ak).1⟩
 ·cases h
theorem Uf{d:DataW H×List MemPlace}{n:Nat}{v:Value}(aM:P.underlying t=some (.slice e))(he:P.underlying e=some (.int .u8))(aJ:P.cellsOf e=1)(bu:DataW.trod enc P W base (fun _=>true) held n t [v]=some d):
  ∃l:List UInt8,(Bytes W v l/\∀g,v.ownBlock=some g->g<W.heap.size)\/∃a,v=.slice (some a) 0 0/\l=[]:=by
 rcases open_ints aM he aJ bu with⟨fo,_⟩|⟨x,len,cap,ia,fo,_,aI,hm,au,_,rT,x1⟩
 ·simp at fo;subst fo;exact⟨[],.inl ⟨Bytes.nil W,fun g al=>by simp[Value.ownBlock]at al⟩⟩
 ·simp at fo;subst fo;by_cases bG:cap=0
  ·subst bG;obtain rfl:len=0:=by omega
   exact⟨[],.inr ⟨x,U,U⟩⟩
  have Bm:0<ia.length:=by(have:ia.length=cap:=by simpa using au);omega
  obtain⟨aP,al⟩:=EL (rT 0 Bm);obtain⟨g,off,spot⟩:=x;have aP:spot=none:=by simpa [Addr.add]using aP
  subst aP;have al:g<W.heap.size:=by simpa [Addr.add]using al
  have kT:ia.length=cap:=by simpa using au
  have kP:((ia.take len).map fun n=>UInt8.ofNat n.toNat).length=len:=by simp;omega
  refine⟨(ia.take len).map fun n=>UInt8.ofNat n.toNat,.inl ⟨⟨by simp,.inr ⟨g,off,cap,by rw[kP],by omega,hm,al,fun j u hu=>?_⟩⟩,fun tg dq=>by simp[Value.ownBlock]at dq;omega⟩⟩;unfold ao at hu;rw[List.map_map,List.getElem?_map]at hu;cases ax:(ia.take len)[j]? with
  |none=>rw[ax]at hu;cases hu
  |some n=>
   rw[ax]at hu;simp only[Option.map_some,Function.comp,Option.some.injEq]at hu;have iD:=(List.getElem?_eq_some_iff.1 ax).1;have vn:j<ia.length:=by simp at iD;omega
   have a6:ia[j]? =some n:=by
    rw[List.getElem?_take]at ax;split at ax
    ·exact ax
    ·cases ax
   have r1:n∈ia:=List.mem_of_getElem? a6;rw[Dm (x1 n r1)]at hu;have:=rT j vn;rw[add_plain,List.getD_eq_getElem?_getD,a6]at this;rw[this,<-hu];rfl
theorem Ug{d:DataW H×List MemPlace}{n:Nat}{v:Value}(aM:P.underlying t=some (.slice e))(he:P.underlying e=some (.int .i64))(aJ:P.cellsOf e=1)(bu:DataW.trod enc P W base (fun _=>true) held n t [v]=some d):
  ∃l:List Int,(Reads 1 W v l.length (fg l)/\∀g,v.ownBlock=some g->g<W.heap.size)\/∃a,v=.slice (some a) 0 0/\l=[]:=by
 rcases open_ints aM he aJ bu with⟨fo,_⟩|⟨x,len,cap,ia,fo,_,aI,hm,au,_,rT,x1⟩
 ·simp at fo;subst fo;exact⟨[],.inl ⟨Reads.nil _ _,fun g al=>by simp[Value.ownBlock]at al⟩⟩
 ·simp at fo;subst fo;by_cases bG:cap=0
  ·subst bG;obtain rfl:len=0:=by omega
   exact⟨[],.inr ⟨x,U,U⟩⟩
  have Bm:0<ia.length:=by(have:ia.length=cap:=by simpa using au);omega
  obtain⟨aP,al⟩:=EL (rT 0 Bm);obtain⟨g,off,spot⟩:=x;have aP:spot=none:=by simpa [Addr.add]using aP
  subst aP;have al:g<W.heap.size:=by simpa [Addr.add]using al
  have kT:ia.length=cap:=by simpa using au
  have kP:(ia.take len).length=len:=by simp;omega
  refine⟨ia.take len,.inl ⟨⟨by simp[fg],.inr ⟨g,off,cap,by rw[kP],by omega,hm,al,fun j u hu=>?_⟩⟩,fun tg dq=>by simp[Value.ownBlock]at dq;omega⟩⟩;unfold fg at hu;rw[List.getElem?_map]at hu;cases ax:(ia.take len)[j]? with
  |none=>rw[ax]at hu;cases hu
  |some n=>
   rw[ax]at hu;simp only[Option.map_some,Option.some.injEq]at hu;have iD:=(List.getElem?_eq_some_iff.1 ax).1;have vn:j<ia.length:=by simp at iD;omega
   have a6:ia[j]? =some n:=by
    rw[List.getElem?_take]at ax;split at ax
    ·exact ax
    ·cases ax
   have:=rT j vn;rw[add_plain,List.getD_eq_getElem?_getD,a6]at this;rw[this,<-hu];rfl
def cp.In(W:World)(o:cp):Prop:=o.r.Ok/\((Bytes W o.eA o.eM/\∀g,o.eA.ownBlock=some g->g<W.heap.size)\/∃a,o.eA=.slice (some a) 0 0/\o.eM=[])/\((Reads 1 W o.lv o.eW.length (fg o.eW)/\∀g,o.lv.ownBlock=some g->g<W.heap.size)\/∃a,o.lv=.slice (some a) 0 0/\o.eW=[])
theorem UN{dX:Array Field}{ti tr tb tl eb:TypeId}{fuel:Nat}{cs:List Value}{x:DataW H×List MemPlace}(hu:P.underlying e=some (.struct dX))(A7:dX.toList.map (fun f=>(f.type,f.offset))=[(ti,0),(ti,1),(ti,2),(tr,3),(tb,139),(tl,140)])
  (hi:P.underlying ti=some (.int .i64)) (xc:P.cellsOf ti=1) (ab:er P 10000 tr=some ([.i64]++[.i64]++[.i64]++List.replicate 32 .u8++[.i64]++List.replicate 32 .u8++[.i64]++[.i64]++[.i64]++[.i64]++List.replicate 32 .u8++List.replicate 32 .u8)) (gS:pb P 10000 tr=true) (z1:P.cellsOf tr=136)
  (ak:P.underlying tb=some (.slice eb)) (A4:P.underlying eb=some (.int .u8)) (zW:P.cellsOf eb=1) (zV:P.cellsOf tb=1) (aI:P.underlying tl=some (.slice ti)) (cl:P.cellsOf tl=1) (ce:P.cellsOf e=141)
  (h:DataW.trod enc P W base (fun _=>true) held fuel e cs=some x):∃o:cp,(o.In W/\(Lit.int .i64 o.n).wf=true)/\cs=o.cells:=by
 obtain⟨xs,n,_,_,hlen,qO,bu⟩:=DataW.trod_struct hu h;rw[ce]at hlen;have s8:∀(i:Nat) (pW off:Nat),[(ti,0),(ti,1),(ti,2),(tr,3),(tb,139),(tl,140)][i]? =some (pW,off)->∃y,DataW.trod enc P W base (fun _=>true) held n pW ((cs.drop off).take (P.cellsOf pW))=some y:=fun i pW off hi=>by
  rw[<-A7,List.getElem?_map]at hi;cases xQ:dX.toList[i]? with
  |none=>rw[xQ]at hi;cases hi
  |some f=>
   rw[xQ]at hi;simp only[Option.map_some,Option.some.injEq,Prod.mk.injEq]at hi;obtain⟨rfl,rfl⟩:=hi;have aj:=bu i f (by simpa using xQ);have px:i<dX.toList.length:=(List.getElem?_eq_some_iff.1 xQ).1;rw[aj];exact⟨_,List.getElem?_eq_getElem (by simpa [qO]using px)⟩
 obtain⟨abS,bG⟩:=s8 0 ti 0 rfl;obtain⟨abT,aj⟩:=s8 1 ti 1 rfl;obtain⟨abU,an⟩:=s8 2 ti 2 rfl;obtain⟨abV,aB⟩:=s8 3 tr 3 rfl;obtain⟨abW,be⟩:=s8 4 tb 139 rfl;obtain⟨abX,bZ⟩:=s8 5 tl 140 rfl;rw[xc]at bG aj an;rw[z1]at aB;rw[zV]at be;rw[cl]at bZ;obtain⟨k,kj,_⟩:=DataW.trod_int hi bG;obtain⟨Ur,cz,_,wn⟩:=DataW.trod_int hi aj;obtain⟨m,c6,_⟩:=DataW.trod_int hi an;obtain⟨gn,fY⟩:=Da 10000 tr _ ab gS n _ _ aB;obtain⟨r,ap,ih⟩:=VQ gn fY;have one:∀off,off<141->∃u,(cs.drop off).take 1=[u]:=fun off aF=>List.length_eq_one_iff.1 (by simp;omega);obtain⟨eA,kJ⟩:=one 139 (by decide);obtain⟨lv,rC⟩:=one 140 (by decide);rw[kJ]at be;rw[rC]at bZ;obtain⟨eM,aT⟩:=Uf ak A4 zW be;obtain⟨eW,kP⟩:=Ug aI hi xc bZ;refine⟨⟨k,Ur,m,r,eA,lv,eM,eW⟩,⟨⟨ap,aT,kP⟩,wn⟩,?_⟩;have s0:cs=(cs.drop 0).take 1++((cs.drop 1).take 1++((cs.drop 2).take 1++((cs.drop 3).take 136++((cs.drop 139).take 1++(cs.drop 140).take 1)))):=by
  have t:∀a b,(cs.drop a)=(cs.drop a).take b++cs.drop (a+b):=fun a b=>by rw[<-List.drop_drop,List.take_append_drop]
  have z:cs.drop 140=(cs.drop 140).take 1:=(List.take_of_length_le (by simp;omega)).symm
  conv=>lhs;rw[show cs=cs.drop 0 from rfl,t 0 1,t 1 1,t 2 1,t 3 136,t 139 1,z]
 rw[s0,kj,cz,c6,ih,kJ,rC];rfl
theorem UO{dX:Array Field}{ti tr tb tl eb:TypeId}{d:DataW H}{p:List MemPlace}(aM:P.underlying t=some (.slice e))(hu:P.underlying e=some (.struct dX))(A7:dX.toList.map (fun f=>(f.type,f.offset))=[(ti,0),(ti,1),(ti,2),(tr,3),(tb,139),(tl,140)])
  (hi:P.underlying ti=some (.int .i64)) (xc:P.cellsOf ti=1) (ab:er P 10000 tr=some ([.i64]++[.i64]++[.i64]++List.replicate 32 .u8++[.i64]++List.replicate 32 .u8++[.i64]++[.i64]++[.i64]++[.i64]++List.replicate 32 .u8++List.replicate 32 .u8)) (gS:pb P 10000 tr=true) (z1:P.cellsOf tr=136)
  (R9:P.underlying tb=some (.slice eb)) (A4:P.underlying eb=some (.int .u8)) (zW:P.cellsOf eb=1) (zV:P.cellsOf tb=1) (Sw:P.underlying tl=some (.slice ti)) (cl:P.cellsOf tl=1) (ce:P.cellsOf e=141)
  (kS:Value.okWide P W r ml t v) (h:DataW.Trod enc P W base (fun _=>true) held t v d p):∃l:List cp,jJ l/\Reads 141 W v l.length (jh l)/\∀o∈l,o.In W/\(Lit.int .i64 o.n).wf=true:=by
 have mz:=kS;obtain⟨a,len,cap,rfl⟩:=okWide_slice aM kS;obtain⟨fuel,bu⟩:=h;rcases DataW.trod_slice aM bu with⟨fo,_⟩|⟨x,l,c,aa6,rest,n,_,fo,_,ak,aI,hm,hlen,vf,_,_⟩
 ·simp[Value.cells]at fo;obtain⟨rfl,rfl,rfl⟩:=fo;exact⟨[],(fun o aF=>(by cases aF)),Reads.nil _ _,(fun o aF=>(by cases aF))⟩
 ·simp[Value.cells]at fo;obtain⟨rfl,rfl,rfl⟩:=fo;have iT:Cell.ok P W r ml t (.slice (some x) len cap):=by
   unfold Value.okWide at mz;rw[aM]at mz;simp only at mz;unfold Cell.okWide at mz;rw[aM]at mz;exact mz
  unfold Cell.ok at iT;rw[aM]at iT;obtain⟨_,_,_,aP,row,cells,m8,_⟩:=iT;obtain⟨g,off,spot⟩:=x;have aP:spot=none:=aP;subst aP;have al:g<W.heap.size:=by
   unfold World.shape? at m8;cases cc:W.heap[g]? with
   |none=>rw[cc]at m8;cases m8
   |some o=>exact(Array.getElem?_eq_some_iff.1 cc).1
  obtain⟨L,dd,each⟩:=EO (p:=fun i (o:cp)=>(o.In W/\(Lit.int .i64 o.n).wf=true)/\∀j u,o.cells[j]? =some u->W.cell? ⟨g,off+(i*141+j),none⟩=some u) len fun i ln=>by
   have aj:=vf i ln;rw[List.getElem?_eq_getElem (by omega),Option.bind_eq_some_iff]at aj;obtain⟨cs,an,aB⟩:=aj;obtain⟨q,bE,rfl⟩:=UN hu A7 hi xc ab gS z1 R9 A4 zW zV Sw cl ce aB;obtain⟨_,be,bZ⟩:=World.cells?_some an;refine⟨q,bE,fun j u hu=>?_⟩;have ax:j<q.cells.length:=(List.getElem?_eq_some_iff.1 hu).1;have:=bZ j (by omega);rw[hu,ce,add_plain,add_plain]at this;rw[<-this];congr 2;omega
  have m5:jJ L:=fun r ap=>by
   obtain⟨i,hi,rfl⟩:=List.getElem_of_mem ap;exact(each i hi).1.1.1
  refine⟨L,m5,⟨BG m5,.inr ⟨g,off,cap,by rw[dd],by omega,hm,al,fun j u hu=>?_⟩⟩,fun r ap=>?_⟩
  ·have ax:j<L.length*141:=by have:=(List.getElem?_eq_some_iff.1 hu).1;rwa [BG m5]at this
   have ab:j/141<L.length:=Nat.div_lt_of_lt_mul (by omega);have cz:j=j/141*141+j%141:=by omega
   rw[cz]at hu⊢;rw[BD m5 ab (Nat.mod_lt _ (by decide))]at hu;exact(each _ ab).2 _ _ hu
  ·obtain⟨i,hi,rfl⟩:=List.getElem_of_mem ap;exact(each i hi).1
end
end
section
open Go.Proofs.kD.kC Go.RowKit
structure ru where
 mQ:Nat->(Nat->Value)->World->Prop
 R:Nat->(Nat->Value)->World->Value->World->Prop
 I:(Nat->Bool)->(Nat->Value)->World->Prop
structure ru.Ok(D:ru)(N:Nat)(B:List Nat)(Vs:List Spec)(w0:World):Prop where
 begin:D.I (fun _=>false) (fun _=>undef) w0
 pre:∀(b:Nat->Bool) i x w,b i=false->(∀j,j<N->waits B j i=true->b j=false)->(∀j,waits B i j=true->b j=true)->D.I b x w->D.mQ i x w
 step:∀(b:Nat->Bool) i x w v w',b i=false->(∀j,j<N->waits B j i=true->b j=false)->(∀j,waits B i j=true->b j=true)->D.I b x w->D.R i x w v w'->D.I (up b i) (fun j=>if j=i then v else x j) w'
 na:∀i j p,i≠j->(j<N->waits B j i=false)->Vs[j]? =some (.rel p)->∀x w u w' v,D.mQ i x w->D.R i x w u w'->p w v->p w' v
def uw(P:Program)(ops:Array Oper)(B:List Nat)(l:List (Nat×Value))(n:Nat)(Vs:List Spec)(D:ru)(Q:Exit->Act->World->Prop)(i:Nat):Prop:=
 ∀(x:Nat->Value) (a:Act) (w:World),D.mQ i x w->(∀j,waits B i j=true->fq Vs x w j)->Env (cg ops B l Vs x i) n a->
  ∃o s,ops[i]? =some o/\Vs[i]? =some s/\∀K:Act->World->Prop,(∀v w',D.R i x w v w'->s.ok w' v->K (a.put o.dst v) w')->
   if Region.wanted o (yielded ops a.tmps)=true then Oper.wp P o a w K Q else K (a.put o.dst undef) w
section
variable{P:Program}{Q:Exit->Act->World->Prop}{l:List (Nat×Value)}{n:Nat}{a:Act}{w:World}{ops:Array Oper}{B:List Nat}{Vs:List Spec}{id:Nat}
structure DJ(ops:Array Oper)(a0:Act)(n:Nat)(Vs:List Spec)(D:ru)(b:Nat->Bool)(a:Act)(w:World):Prop where
 size:a.tmps.size=n
 defers:a.defers=[]
 rj:∃x:Nat->Value,D.I b x w/\(∀j,b j=true->fq Vs x w j)/\∀t,t<n->a.tmps.getD t undef=match g3 ops b t with
  |some j=>valOf Vs x j
  |none=>a0.tmps.getD t undef
theorem Rr(D:ru)(gK:Bool){a0:Act}(T:Bool×List (List Nat×List Nat))(B:List Nat)(Vs:List Spec)(E:Env l n a0)(hm:P.follows .mixedOrders=true)(fC:hA .any ops=T)(hw:oX T.2 B=true)(ab:lC T.2 (List.range ops.size)=true)
  (bu:uY ops B=true) (aT:((List.range ops.size).all fun i=>fits n (hs ops i))=true) (cb:D.Ok ops.size B Vs w.drew)
  (m:Nat) (ff:m+(if gK then 1 else 0)=ops.size) (pC:gK=true->∀i,i<m->waits B m i=true)
  (aP:∀i∈List.range m,uw P ops B l n Vs D Q i)
  (ij:∀(x:Nat->Value) (a:Act) (w':World),(∃b:Nat->Bool,(∀j,j<m->b j=true)/\D.I b x w')->(∀j,j<m->fq Vs x w' j)->Env (og ops l Vs x m) n a->if gK then j7 P ops Q m a w' else Q .normal a w'):(Code.region id ops true).wp P Q a0 w:=by
 have hlen:T.2.length=ops.size:=by subst fC;simp[hA]
 refine Ds (S:=fun _=>True) (ds:=[]) hm ?_;show rk P .any ops Q (fun _=>True) [] ops.size (Array.replicate ops.size false) a0 w.drew
 have key:∀i,i<ops.size->(∀t∈slotsOf ops i,match jT ops B i t with
   |some j=>∀k,k<ops.size->writes ops t k=true->k<=j\/k=i\/waits B k i=true
   |none=>∀k,k<ops.size->writes ops t k=true->k=i\/waits B k i=true)/\(∀t,hs ops i=some t->∀k,k<ops.size->writes ops t k=true->k<=i\/waits B k i=true):=by
  intro i hi;have aj:=List.all_eq_true.1 bu i (List.mem_range.2 hi);rw[Bool.and_eq_true]at aj;refine⟨fun t aM=>?_,fun t aM k c2 fM=>?_⟩
  ·have an:=List.all_eq_true.1 aj.1 t aM;cases jf:jT ops B i t with
   |some j=>
    rw[jf]at an;intro k c2 fM;have aB:=List.all_eq_true.1 an k (List.mem_range.2 c2);rw[fM]at aB;simp only[Bool.not_true,Bool.false_or,Bool.or_eq_true,Nat.ble_eq,Nat.beq_eq]at aB;rcases aB with(aB|aB)|aB
    ·exact .inl aB
    ·exact .inr (.inl aB)
    ·exact .inr (.inr aB)
   |none=>
    rw[jf]at an;intro k c2 fM;have aB:=List.all_eq_true.1 an k (List.mem_range.2 c2);rw[fM]at aB;simp only[Bool.not_true,Bool.false_or,Bool.or_eq_true,Nat.beq_eq]at aB;exact aB
  ·have an:=aj.2;rw[aM]at an;have aB:=List.all_eq_true.1 an k (List.mem_range.2 c2);rw[fM]at aB;simp only[Bool.not_true,Bool.false_or,Bool.or_eq_true,Nat.ble_eq]at aB;exact aB
 have final:∀b a w',(∀j,j<m->b j=true)->(∀j,j<ops.size->m<=j->b j=false)->DJ ops a0 n Vs D b a w'->if gK then j7 P ops Q m a w' else Q .normal a w':=by
  intro b a w' j1 eB I;obtain⟨x,ap,ad,aD⟩:=I.rj;refine ij x a w' ⟨b,j1,ap⟩ (fun j ax=>ad j (j1 j ax)) ⟨fun t v aM=>?_,I.size,I.defers⟩;unfold og at aM;rw[List.lookup_append]at aM;have vi:∀m,((List.range m).reverse.filterMap fun i=>(hs ops i).map fun t=>(t,valOf Vs x i)).lookup t=((List.range m).reverse.find? fun j=>writes ops t j).map (valOf Vs x):=by
   intro m
   induction m with
   |zero=>rfl
   |succ m ck=>
    rw[List.range_succ,List.reverse_append];simp only[List.reverse_singleton,List.singleton_append,List.filterMap_cons,List.find?_cons];cases qG:hs ops m with
    |none=>simp only[Option.map_none,writes,qG];rw[ck];rfl
    |some d=>
     simp only[Option.map_some,List.lookup_cons,writes,qG];by_cases e:t=d
     ·subst e;simp
     ·have aj:(t==d)=false:=by simpa using e
      have an:(some d==some t)=false:=by simpa using fun c=>e c.symm
      rw[aj,an];exact ck
  rw[vi]at aM;have GD:m<=ops.size:=by omega
  by_cases my:t<n
  ·rw[aD t my];have nH:g3 ops b t=(List.range m).reverse.find? fun j=>writes ops t j:=by
    unfold g3;cases iU:(List.range m).reverse.find? fun j=>writes ops t j with
    |none=>
     refine lE (fun k c2=>?_);by_cases ms:k<m
     ·have:=List.find?_eq_none.1 iU k (by simp;exact ms);simp at this;simp[this]
     ·simp[eB k c2 (by omega)]
    |some j=>
     obtain⟨aj,an,aB⟩:=rD iU;refine pa (by omega) (by simp[an,j1 j aj]) (fun k c2 hp=>?_);simp only[Bool.and_eq_true]at hp;by_cases ms:k<m
     ·exact aB k ms hp.1
     ·rw[eB k c2 (by omega)]at hp;cases hp.2
   rw[nH];cases iU:(List.range m).reverse.find? fun j=>writes ops t j with
   |none=>rw[iU]at aM;simp at aM;exact E.get t v aM
   |some j=>rw[iU]at aM;simp at aM;exact aM
  ·have iU:((List.range m).reverse.find? fun j=>writes ops t j)=none:=by
    refine lE (fun k c2=>?_);cases fM:writes ops t k with
    |false=>rfl
    |true=>
     have be:=List.all_eq_true.1 aT k (List.mem_range.2 (by omega));have bZ:hs ops k=some t:=by simpa [writes]using fM
     rw[bZ]at be;simp[fits]at be;omega
   rw[iU]at aM;simp at aM;have dZ:=E.get t v aM;have bQ:a0.tmps.getD t undef=undef:=by simp[Array.getD_eq_getD_getElem?];rw[Array.getElem?_eq_none (by rw[E.size];omega)];rfl
   have cF:a.tmps.getD t undef=undef:=by simp[Array.getD_eq_getD_getElem?];rw[Array.getElem?_eq_none (by rw[I.size];omega)];rfl
   rw[cF,<-bQ];exact dZ
 refine Bq (List.range ops.size) (fun b a w'=>if(gK&&b m)=true then Q .normal a w' else DJ ops a0 n Vs D b a w') fC hw ab ?_ ?_ ?_ ?_
 ·rw[hlen];simp only[List.length_range,beq_self_eq_true,Bool.and_true,beq_iff_eq];apply List.ext_getElem
  ·simp[iE]
  ·intro j aj an;simp[iE]at aj an⊢;exact aj
 ·show if(gK&&false)=true then _ else _
  rw[Bool.and_false,if_neg (by simp)];refine⟨E.size,E.defers,fun _=>undef,cb.begin,fun j ax=>(by cases ax),fun t _=>?_⟩;have:g3 ops (fun _=>false) t=none:=lE (fun k _=>by simp);rw[this]
 ·intro i hi b a w' I h4 m7 qK;have ln:i<ops.size:=List.mem_range.1 hi;have qF:(gK&&b m)=false:=by
   cases eV:gK with
   |false=>rfl
   |true=>
    rw[eV]at ff;simp only[if_true]at ff;by_cases l1:i=m
    ·subst l1;simp[h4]
    ·have:=qK m (by simp[<-ff];exact pC eV i (by omega));simp[this]
  rw[if_neg (by simp[qF])]at I;by_cases l1:gK=true/\i=m
  ·obtain⟨eV,rfl⟩:=l1;rw[eV]at ff;simp only[if_true]at ff;have iS:∀j,j<i->b j=true:=fun j ax=>m7 j (by simp[<-ff];exact⟨by omega,pC eV j ax⟩);have iV:=final b a w' iS (fun j qI hc=>by(have:j=i:=by omega);rw[this];exact h4) I;rw[eV,if_pos rfl]at iV;obtain⟨o,aF⟩:∃o,ops[i]? =some o:=⟨ops[i],by simp[ln]⟩
   refine⟨o,aF,fun K nE=>?_⟩;have qB:∀a w,Q .normal a w->K a w:=fun a w bE=>nE.out _ _ (by dsimp only;rw[if_pos (by simp[eV,nX])];exact bE);unfold j7 at iV;rw[aF]at iV;simp only at iV;split at iV
   ·rename_i nL;rw[if_pos nL];exact Oper.wp_mono qB iV
   ·rename_i nL;rw[if_neg nL];exact qB _ _ iV
  have px:i<m:=by
   cases eV:gK with
   |false=>rw[eV]at ff;simp at ff;omega
   |true=>rw[eV]at ff;simp at ff;have:i≠m:=fun c=>l1 ⟨eV,c⟩;omega
  obtain⟨x,ap,ad,aD⟩:=I.rj;obtain⟨gk,hQ⟩:=key i ln;have l4:∀j,j<ops.size->waits B i j=true->b j=true:=fun j ax pB=>m7 j (by simp[ax];exact pB);have j4:∀k,k<ops.size->waits B k i=true->b k=false:=fun k c2 fM=>qK k (by simp[c2];exact fM);have nJ:∀j,waits B i j=true->j<ops.size:=by
   intro j ax;have aj:=sm hw (i+1) i (by omega) (by omega) ax;have:∀fuel d,d<T.2.length->jD T.2 j fuel d=true->j<ops.size:=by
    intro fuel
    induction fuel with
    |zero=>intro d _ h;simp[jD]at h
    |succ fuel ck=>
     intro d rU h;unfold jD at h;cases ap:T.2[d]? with
     |none=>rw[ap]at h;simp at h
     |some r=>
      rw[ap]at h;simp only[List.any_eq_true]at h;obtain⟨m,nI,fL⟩:=h;have h5:=(mW ab ap).2 m nI;rw[Bool.or_eq_true]at fL;rcases fL with fL|fL
      ·have:m=j:=by simpa using fL
       omega
      ·exact ck m (by omega) fL
   exact this (i+1) i (by omega) aj
  have qA:Env (cg ops B l Vs x i) n a:=by
   refine⟨fun t v aM=>?_,I.size,I.defers⟩;rw[Ah]at aM;obtain⟨aj,an⟩:=Bv (f:=fun t=>match jT ops B i t with
    |some j=>some (valOf Vs x j)
    |none=>l.lookup t) aM
   have aB:=gk t an;by_cases my:t<n
   ·rw[aD t my];cases jf:jT ops B i t with
    |some j=>
     rw[jf]at aj aB;obtain⟨qI,hc,vm⟩:=CD jf;have va:=l4 j (by omega) vm;have:g3 ops b t=some j:=by
      refine pa (by omega) (by simp[hc,va]) (fun k c2 hp=>?_);simp only[Bool.and_eq_true]at hp;rcases aB k c2 hp.1 with h|h|h
      ·exact h
      ·subst h;rw[h4]at hp;cases hp.2
      ·rw[j4 k c2 h]at hp;cases hp.2
     rw[this];simpa using aj
    |none=>
     rw[jf]at aj aB;have:g3 ops b t=none:=by
      refine lE (fun k c2=>?_);cases fM:writes ops t k with
      |false=>rfl
      |true=>
       rcases aB k c2 fM with h|h
       ·subst h;rw[h4];rfl
       ·rw[j4 k c2 h];rfl
     rw[this];exact E.get t v aj
   ·
    have vr:∀k,k<ops.size->writes ops t k=false:=by
     intro k c2;cases fM:writes ops t k with
     |false=>rfl
     |true=>
      have be:=List.all_eq_true.1 aT k (List.mem_range.2 c2);have bZ:hs ops k=some t:=by simpa [writes]using fM
      rw[bZ]at be;simp[fits]at be;omega
    have vy:jT ops B i t=none:=lE (fun k c2=>by simp[vr k (by omega)]);rw[vy]at aj;have dZ:=E.get t v aj;have bQ:a0.tmps.getD t undef=undef:=by simp[Array.getD_eq_getD_getElem?];rw[Array.getElem?_eq_none (by rw[E.size];omega)];rfl
    have cF:a.tmps.getD t undef=undef:=by simp[Array.getD_eq_getD_getElem?];rw[Array.getElem?_eq_none (by rw[I.size];omega)];rfl
    rw[cF,<-bQ];exact dZ
  obtain⟨o,s,aF,kl,cY⟩:=aP i (List.mem_range.2 px) x a w' (cb.pre b i x w' h4 j4 (fun j ax=>l4 j (nJ j ax) ax) ap) (fun j ax=>ad j (l4 j (nJ j ax) ax)) qA;refine⟨o,aF,fun K nE=>?_⟩;refine cY K (fun v sG qH qM=>?_);refine nE.out _ _ ?_;dsimp only;rw[if_neg (by rw[k5 (by omega)];simp[qF])];refine⟨by cases kQ:o.dst<;>simp[Act.put,I.size],by cases kQ:o.dst<;>simp[Act.put,I.defers],fun j=>if j=i then v else x j,cb.step b i x _ v _ h4 j4 (fun j ax=>l4 j (nJ j ax) ax) ap qH,fun j ax=>?_,fun t aM=>?_⟩
  ·by_cases e:j=i
   ·subst e;unfold fq;rw[kl];cases s with
    |af u=>trivial
    |rel p=>simpa [Spec.ok]using qM
   ·have ak:b j=true:=by rw[k5 e]at ax;exact ax
    have aj:=ad j ak;unfold fq at aj⊢;cases hc:Vs[j]? with
    |none=>trivial
    |some s2=>
     cases s2 with
     |af u=>trivial
     |rel p=>rw[hc]at aj;simp only[if_neg e];exact cb.na i j p (fun c=>e c.symm) (fun A8=>by cases pB:waits B j i with|false=>rfl|true=>rw[j4 j A8 pB]at ak;cases ak) hc x _ v _ _ (cb.pre b i x w' h4 j4 (fun j ax=>l4 j (nJ j ax) ax) ap) qH aj
  ·rw[BW (by rw[I.size];exact aM)];have kQ:o.dst=hs ops i:=by simp[hs,aF]
   have kS:∀j,j≠i->valOf Vs (fun j=>if j=i then v else x j) j=valOf Vs x j:=by
    intro j e;unfold valOf;simp only[if_neg e]
   by_cases e:o.dst=some t
   ·rw[if_pos e];have vz:writes ops t i=true:=by simp[writes,<-kQ,e]
    have:g3 ops (up b i) t=some i:=by
     refine pa ln (by simp[vz,nX]) (fun k c2 hp=>?_);simp only[Bool.and_eq_true]at hp;rcases hQ t (by rw[<-kQ];exact e) k c2 hp.1 with h|h
     ·exact h
     ·have c6:k≠i:=fun c=>by
       subst c;have ap:=sm hw (k+1) k (by omega) (by omega) h;have:∀fuel d,d<T.2.length->d<=k->jD T.2 k fuel d=true->False:=by
        intro fuel
        induction fuel with
        |zero=>intro d _ _ h;simp[jD]at h
        |succ fuel ck=>
         intro d rU Gx h;unfold jD at h;cases ap:T.2[d]? with
         |none=>rw[ap]at h;simp at h
         |some r=>
          rw[ap]at h;simp only[List.any_eq_true]at h;obtain⟨m,nI,fL⟩:=h;have h5:=(mW ab ap).2 m nI;rw[Bool.or_eq_true]at fL;rcases fL with fL|fL
          ·have:m=k:=by simpa using fL
           omega
          ·exact ck m (by omega) (by omega) fL
       exact this _ _ (by omega) (Nat.le_refl _) ap
      rw[k5 c6]at hp;rw[j4 k c2 h]at hp;cases hp.2
    rw[this];show v=valOf Vs _ i
    unfold valOf;rw[kl];cases s with
    |af u=>simpa [Spec.ok]using qM
    |rel p=>simp
   ·rw[if_neg e,aD t aM];have:g3 ops (up b i) t=g3 ops b t:=by
     unfold g3;congr 1;funext k;by_cases qj:k=i
     ·subst qj;have:writes ops t k=false:=by
       cases h:writes ops t k with
       |false=>rfl
       |true=>exact absurd (by simpa [writes,<-kQ]using h) e
      simp[this]
     ·rw[k5 qj]
    rw[this];cases nH:g3 ops b t with
    |none=>rfl
    |some j=>
     have c6:j≠i:=fun c=>by
      subst c;have:=(rD nH).2.1;rw[h4]at this;simp at this
     exact(kS j c6).symm
 ·intro b a w' iS I;have j1:∀j,j<ops.size->b j=true:=fun j ax=>iS j (by simp[ax]);cases eV:gK with
  |false=>
   rw[eV,Bool.false_and,if_neg (by simp)]at I;rw[eV]at ff;simp at ff;have:=final b a w' (fun j ax=>j1 j (by omega)) (fun j aj an=>by omega) I;rw[eV]at this;exact this
  |true=>
   rw[eV]at ff;simp at ff;rw[eV,Bool.true_and,j1 m (by omega),if_pos rfl]at I;exact I
theorem Rs{a0:Act}(D:ru)(is:List Nat)(E:Env l n a0)(hm:P.follows .mixedOrders=true)(fC:cR ops B n=true)(py:is=List.range ops.size)(cb:D.Ok ops.size B Vs w.drew)
  (aP:lS (uw P ops B l n Vs D Q) is)
  (ij:∀(x:Nat->Value) (a:Act) (w':World),(∃b:Nat->Bool,(∀j,j<ops.size->b j=true)/\D.I b x w')->(∀j,j<ops.size->fq Vs x w' j)->Env (og ops l Vs x ops.size) n a->Q .normal a w'):(Code.region id ops true).wp P Q a0 w:=by
 subst py;simp only[cR,Bool.and_eq_true]at fC;exact Rr D false _ B Vs E hm U fC.1.1.1 fC.1.1.2 fC.1.2 fC.2 cb ops.size (by simp) (by simp) (lS.mem aP) fun x a w' aj an aB=>by rw[if_neg (by simp)];exact ij x a w' aj an aB
end
end
end Go.a2
section
end
namespace Go.a2
section
open Go.Proofs.kD.kC Go.RowKit
variable{α:Type}
def rf:List Spec->Prop
 |[]=>True
 | .af _::r=>rf r
 | .rel p::r=>(∀w v,p w v)/\rf r
theorem rf.get:∀{Vs:List Spec} {j:Nat} {p:World->Value->Prop},rf Vs->Vs[j]? =some (.rel p)->∀w v,p w v
 |[],_,_,_,h=>by simp at h
 | .af _::r,0,_,_,h=>by simp at h
 | .rel p::r,0,q,h,ax=>by
  simp only[List.getElem?_cons_zero,Option.some.injEq,Spec.rel.injEq]at ax;subst ax;exact h.1
 | .af _::r,j+1,_,h,ax=>rf.get (j:=j) (show rf r from h) (by simpa using ax)
 | .rel _::r,j+1,_,h,ax=>rf.get (j:=j) h.2 (by simpa using ax)
end
end Go.a2
section
end
namespace Go.a2
section
open Go.Proofs.kD.kC Go.RowKit
def sZ(B:List Nat)(cs:List Nat):Bool:=(List.range cs.length).all fun j=>(List.range j).all fun l6=>match cs[j]?,cs[l6]? with
 |some c,some fm=>waits B c fm&& !Nat.beq c fm
 |_,_=>true
section
variable{P:Program}{X:Exit->Act->World->Prop}{l:List (Nat×Value)}{n N:Nat}{w w0 hW:World}{ops:Array Oper}{B:List Nat}{Vs:List Spec}{i:Nat}{O:Nat->Prop}{I dJ:List az}{Φ:World->Prop}{cs:List Nat}{Q:Nat->World->Prop}{F:Nat->Nat->Prop}
theorem zY(aL:sZ B cs=true){j l6 c fm:Nat}(h:cs[j]? =some c)(m1:cs[l6]? =some fm)(ax:l6<j):waits B c fm=true/\c≠fm:=by
 have aI:j<cs.length:=(List.getElem?_eq_some_iff.1 h).1;have:=List.all_eq_true.1 (List.all_eq_true.1 aL j (List.mem_range.2 aI)) l6 (List.mem_range.2 ax);rw[h,m1]at this;simp only[Bool.and_eq_true,Bool.not_eq_true']at this;exact⟨this.1,Nat.ne_of_beq_eq_false this.2⟩
theorem EN(aL:sZ B cs=true){j l6 c:Nat}(h:cs[j]? =some c)(m1:cs[l6]? =some c):j=l6:=by
 rcases Nat.lt_trichotomy j l6 with ju|ju|ju
 ·exact absurd U (zY aL m1 h ju).2
 ·exact ju
 ·exact absurd U (zY aL h m1 ju).2
theorem EM(aL:sZ B cs=true){b:Nat->Bool}{k j:Nat}(ab:k<=cs.length)(ak:b i=false)(aT:∀j,waits B i j=true->b j=true)(cX:∀j c,cs[j]? =some c->(b c=true↔j<k))(ax:cs[j]? =some i):k=j:=by
 have aj:¬j<k:=fun c=>by
  have:=(cX j i ax).2 c;rw[ak]at this;cases this
 rcases Nat.lt_or_ge k j with h|h
 ·have hI:k<cs.length:=Nat.lt_trans h (List.getElem?_eq_some_iff.1 ax).1;have kO:cs[k]? =some cs[k]:=List.getElem?_eq_getElem hI;have:=(cX k _ kO).1 (aT _ (zY aL ax kO h).1);omega
 ·omega
end
end
section
open Go.Proofs.kD.kC Go.RowKit
def ra(B:List Nat)(cs:List Nat)(Q:Nat->(Nat->Value)->World->Prop):ru where
 mQ i x w:=∃k,k<=cs.length/\(∀j:Nat,cs[j]? =some i->k=j)/\(∀j c:Nat,cs[j]? =some c->waits B i c=true->j<k)/\Q k x w
 R i x w v w':=(∀j:Nat,cs[j]? =some i->Q (j+1) (fun t=>if t=i then v else x t) w')/\((∀j:Nat,cs[j]?≠some i)->bd w w')
 I b x w:=∃k,k<=cs.length/\(∀(j c:Nat),cs[j]? =some c->(b c=true↔j<k))/\Q k x w
section
variable{P:Program}{X:Exit->Act->World->Prop}{l:List (Nat×Value)}{n N:Nat}{w w0 hW:World}{ops:Array Oper}{B:List Nat}{Vs:List Spec}{i:Nat}{O:Nat->Prop}{I dJ:List az}{Φ:World->Prop}{cs:List Nat}{Q:Nat->(Nat->Value)->World->Prop}
theorem Xq(aL:sZ B cs=true)(bG:Q 0 (fun _=>undef) w0)(he:∀k x w w',bd w w'->Q k x w->Q k x w')(ad:∀k x y w,(∀c∈cs,x c=y c)->Q k x w->Q k y w)(u6:rf Vs):(ra B cs Q).Ok N B Vs w0 where
 begin:=⟨0,Nat.zero_le _,fun j c _=>⟨fun h=>Bool.noConfusion (show false=true from h),fun h=>absurd h (Nat.not_lt_zero _)⟩,bG⟩
 pre b i x w ak aP aT cX:=by
  obtain⟨k,ab,cX,jx⟩:=cX;exact⟨k,ab,fun j ax=>EM aL ab ak aT cX ax,fun j c ax hw=>(cX j c ax).1 (aT c hw),jx⟩
 step b i x w v w' ak aP aT cX dU:=by
  obtain⟨k,ab,cX,jx⟩:=cX;by_cases aJ:∃j:Nat,cs[j]? =some i
  ·obtain⟨j,ax⟩:=aJ;obtain rfl:=EM aL ab ak aT cX ax;refine⟨k+1,(List.getElem?_eq_some_iff.1 ax).1,fun l6 fm l2=>?_,dU.1 k ax⟩;by_cases A1:fm=i
   ·subst A1;have:=EN aL ax l2;subst this;rw[nX];exact⟨fun _=>Nat.lt_succ_self _,fun _=>rfl⟩
   ·have hu:up b i fm=b fm:=by unfold up;rw[if_neg A1]
    have eP:l6≠k:=fun e=>by subst e;rw[ax]at l2;injection l2 with e;exact A1 e.symm
    rw[hu,cX l6 fm l2];omega
  ·have eB:∀j:Nat,cs[j]?≠some i:=fun j ax=>aJ ⟨j,ax⟩;refine⟨k,ab,fun j c ax=>?_,ad _ _ _ _ (fun c hy=>?_) (he _ _ _ _ (dU.2 eB) jx)⟩
   ·have eP:¬c=i:=fun e=>eB j (by rw[ax,e]);have hu:up b i c=b c:=by unfold up;rw[if_neg eP]
    rw[hu];exact cX j c ax
   ·obtain⟨j,iD,rfl⟩:=List.getElem_of_mem hy;have eP:¬cs[j]=i:=fun e=>eB j (by rw[List.getElem?_eq_getElem iD,e]);show x cs[j]=if cs[j]=i then v else x cs[j]
    rw[if_neg eP]
 na i j p _ _ ax x w u w' v _ _ _:=u6.get ax w' v
theorem CE(M:Mem hW O (I++dJ) Φ w)(cY:∀k x v,Q k x v->dc (aS I) w.drew v){x:Nat->Value}{w':World}(hp:(ra B cs Q).mQ i x w'):Mem hW O dJ Φ w':=by
 obtain⟨k,_,_,_,jx⟩:=hp;exact M.call (outs:=[]) ((dc.kW (bd.drew w)).trans (cY k _ _ jx)) (Has.nil _) fun g al=>(gQ al).elim
theorem Jn{x:Nat->Value}{pX w':World}{v:Value}(aJ:(cs.all fun c=> !Nat.beq c i)=true)(h:bd pX w'):(ra B cs Q).R i x pX v w':=by
 refine⟨fun j ax=>?_,fun _=>h⟩;have:=List.all_eq_true.1 aJ i (List.mem_of_getElem? ax);rw[Nat.beq_refl]at this;cases this
theorem jk{o:Oper}{s:Spec}(aF:ops[i]? =some o)(aP:Vs[i]? =some s)(aJ:(cs.all fun c=> !Nat.beq c i)=true)(M:Mem hW O (I++dJ) Φ w)(cY:∀k x v,Q k x v->dc (aS I) w.drew v)
  (h:∀(x:Nat->Value) (w':World),Mem hW O dJ Φ w'->(∀j,waits B i j=true->fq Vs x w' j)->∃v,dp (cg ops B l Vs x i) o=true/\dg ops (cg ops B l Vs x i) o=true/\dh ops (cg ops B l Vs x i) o=true/\
   (execOp (cf (cg ops B l Vs x i)) o).run P w'=.ok (.value v) w'/\s.ok w' v):uw P ops B l n Vs (ra B cs Q) X i:=by
 intro x a w' ad ab E;obtain⟨v,aj,an,aB,be,dZ⟩:=h x w' (CE M cY ad) ab;refine⟨o,s,aF,aP,fun K cY=>?_⟩;rw[E.wanted an,if_pos aB];unfold Oper.wp;rw[E.exec aj,be];exact cY v w' (Jn aJ (bd.refl _)) dZ
theorem Xy{o:Oper}{s:Spec}(aF:ops[i]? =some o)(aP:Vs[i]? =some s)(aJ:(cs.all fun c=> !Nat.beq c i)=true)(M:Mem hW O (I++dJ) Φ w)(cY:∀k x v,Q k x v->dc (aS I) w.drew v)
  (h:∀(x:Nat->Value) (w':World),Mem hW O dJ Φ w'->(∃k,k<=cs.length/\(∀j c:Nat,cs[j]? =some c->waits B i c=true->j<k)/\Q k x w')->(∀j,waits B i j=true->fq Vs x w' j)->∃f args,dp (cg ops B l Vs x i) o=true/\dg ops (cg ops B l Vs x i) o=true/\dh ops (cg ops B l Vs x i) o=true/\
   (execOp (cf (cg ops B l Vs x i)) o).run P w'=.ok (.enter f args) w'/\rp P f args w' s):uw P ops B l n Vs (ra B cs Q) X i:=by
 intro x a w' ad ab E;have u5:=CE M cY ad;obtain⟨k,rY,_,kO,jx⟩:=ad;obtain⟨f,args,aj,an,aB,be,bZ⟩:=h x w' u5 ⟨k,rY,kO,jx⟩ ab;refine⟨o,s,aF,aP,fun K cY=>?_⟩;rw[E.wanted an,if_pos aB];unfold Oper.wp;rw[E.exec aj,be,Oper.upon_enter];refine bZ.mono ?_;rintro e dY ⟨v,rfl,jA,aD⟩;exact cY v dY (Jn aJ jA) aD
theorem yX{o:Oper}{s:Spec}{j:Nat}(aL:sZ B cs=true)(aF:ops[i]? =some o)(aP:Vs[i]? =some s)(ax:cs[j]? =some i)(M:Mem hW O (I++dJ) Φ w)(cY:∀k x v,Q k x v->dc (aS I) w.drew v)
  (h:∀(x:Nat->Value) (w':World),Mem hW O dJ Φ w'->Q j x w'->(∀j,waits B i j=true->fq Vs x w' j)->∃f args,dp (cg ops B l Vs x i) o=true/\dg ops (cg ops B l Vs x i) o=true/\dh ops (cg ops B l Vs x i) o=true/\
   (execOp (cf (cg ops B l Vs x i)) o).run P w'=.ok (.enter f args) w'/\Calls P f args w' fun e dY=>∃v,e=.returned v/\Q (j+1) (fun t=>if t=i then v else x t) dY/\s.ok dY v):uw P ops B l n Vs (ra B cs Q) X i:=by
 intro x a w' ad ab E;have u5:=CE M cY ad;obtain⟨k,_,vo,_,jx⟩:=ad;obtain rfl:=vo j ax;obtain⟨f,args,aj,an,aB,be,bZ⟩:=h x w' u5 jx ab;refine⟨o,s,aF,aP,fun K cY=>?_⟩;rw[E.wanted an,if_pos aB];unfold Oper.wp;rw[E.exec aj,be,Oper.upon_enter];refine bZ.mono ?_;rintro e dY ⟨v,rfl,jA,aD⟩;refine cY v dY ⟨fun l6 l2=>?_,fun eB=>absurd ax (eB _)⟩ aD;have:=EN aL ax l2;subst this;exact jA
theorem Xp{x:Nat->Value}{w':World}(aJ:∀c∈cs,c<N)(h:∃b:Nat->Bool,(∀j,j<N->b j=true)/\(ra B cs Q).I b x w'):Q cs.length x w':=by
 obtain⟨b,ak,k,ab,cX,jx⟩:=h;rcases Nat.lt_or_ge k cs.length with h|h
 ·have:=(cX k _ (List.getElem?_eq_getElem h)).1 (ak _ (aJ _ (List.getElem_mem h)));omega
 ·obtain rfl:k=cs.length:=by omega
  exact jx
def k9{α:Type}(I:List az)(w0:World)(outs:α->List az)(p:α->Prop)(w:World):Prop:=∃y,p y/\Has w (outs y)/\(∀q,aS (outs y) q->aS I q\/w0.heap.size<=q)/\dc (aS I) w0 w
section
variable{α β γ:Type}{outs:α->List az}{p:α->Prop}
theorem k9.jM(h:k9 I w0 outs p w):dc (aS I) w0 w:=h.choose_spec.2.2.2
theorem k9.ext{w':World}(h:k9 I w0 outs p w)(ad:bd w w'):k9 I w0 outs p w':=by
 obtain⟨y,a,b,c,d⟩:=h;exact⟨y,a,b.ext ad,c,d.trans (dc.kW ad)⟩
theorem k9.call{f:FuncId}{args:List Value}{ins rest:α->List az}{val:β->Value}{gz:α->β->List az}{q:α->β->Prop}{outs':Value->γ->List az}{p':γ->Prop}{V:Value->Prop}(h:k9 I w0 outs p w)(hp:∀y,(ins y++rest y).Perm (outs y))
  (C:∀y,p y->Has w (ins y)->(∀q,aS (outs y) q->aS I q\/w0.heap.size<=q)->aY P f args w (ins y) val (gz y) (q y)) (aF:∀y z,p y->q y z->V (val z)/\∃zl,p' zl/\(outs' (val z) zl).Perm (gz y z++rest y)):
  Calls P f args.toArray w fun e w'=>∃v,e=.returned v/\k9 I w0 (outs' v) p' w'/\V v:=by
 obtain⟨y,bn,H,bu,aJ⟩:=h;have c4:Has w (ins y++rest y):=H.perm (hp y);have vh:∀g,aS (ins y++rest y) g->aS I g\/w0.heap.size<=g:=fun g ⟨e,he,al⟩=>bu g ⟨e,(hp y).mem_iff.1 he,al⟩;refine(show Calls P f args.toArray w _ from C y bn (c4.sub (List.sublist_append_left _ _)) bu).mono fun e w' ⟨z,aj,an,aB,be,bZ⟩=>?_;obtain⟨u6,zl,pD,GI⟩:=aF y z bn bZ;refine⟨_,aj,⟨zl,pD,((Mem.call (ins:=ins y) c4.mem an aB be).has).perm GI,fun g ⟨e,he,al⟩=>?_,?_⟩,u6⟩
 ·rcases List.mem_append.1 (GI.mem_iff.1 he)with he|he
  ·rcases be g ⟨e,he,al⟩with h|h
   ·exact vh g (hN.2 (.inl h))
   ·exact .inr (Nat.le_trans aJ.held.size h)
  ·exact vh g (hN.2 (.inr ⟨e,he,al⟩))
 ·exact((aJ.mono fun q _ h=>Or.inl h:dc (fun q=>aS I q\/w0.heap.size<=q) w0 w).trans (an.mono fun q _ h=>vh q (hN.2 (.inl h)))).mono fun q h5 h=>h.elim id fun c=>absurd h5 (Nat.not_lt_of_le c)
end
end
end
section
abbrev aa(x:Int):Value:=.int .i64 x
abbrev ag(x:Int):Value:=.int .u8 x
abbrev ab0(x:Int):Value:=.int .u64 x
abbrev Ou(x:Int):Value:=.int .u32 x
abbrev ai(g k:Nat):Value:=.pointer (some ⟨g,k,none⟩)
theorem ae{p:Prop}(h:p:=by omega):p:=h
theorem aN{p:Prop}(h:p:=by decide):p:=h
theorem cT{p:Prop}(h:p:=by kernel_rfl):p:=h
theorem ht{w0:World}{L:List az}(H:Has w0 L):Mem w0 (aS L) L (fun _=>True) w0:=Mem.begin H fun _ _=>trivial
def abY(l:List (Nat×Value)):List Nat->List (Nat×Value)->Option (List (Nat×Value))
 |[],r=>some r
 |t::b7,r=>match l.lookup t with
  |some v=>abY l b7 ((t,v)::r)
  |none=>none
theorem Env.abZ{l:List (Nat×Value)}{n:Nat}{a:Act}(E:Env l n a):∀{b7:List Nat} {r c9:List (Nat×Value)},Env r n a->abY l b7 r=some c9->Env c9 n a
 |[],r,c9,h,e=>by
  cases e;exact h
 |t::b7,r,c9,h,e=>by
  unfold abY at e;split at e
  ·rename_i v aD;exact Env.abZ E (h.add E aD) e
  ·cases e
theorem Env.lL{l c9:List (Nat×Value)}{n:Nat}{a:Act}(E:Env l n a)(b7:List Nat)(h:abY l b7 []=some c9):Env c9 n a:=E.abZ E.nil h
theorem ay:True:=trivial
theorem Mem.aQ{w0 w w':World}{O:Nat->Prop}{L:List az}{Φ:World->Prop}(M:Mem w0 O L Φ w)(h:bd w.drew w'):Mem w0 O L Φ w':=M.ext ((bd.drew _).trans h)
end
end Go.a2
