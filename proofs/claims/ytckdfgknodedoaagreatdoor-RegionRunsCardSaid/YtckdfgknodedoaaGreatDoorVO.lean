/- Texts of this proof. -/
import Derived.Test.YtckdfgknodedoaaGreatDoorRR1
import Derived.Laws.Pointers
import Derived.Laws.Small
import Derived.Laws.StructEq
import Derived.ChangeKeysEq
set_option linter.unusedVariables false
set_option linter.unusedSimpArgs false
section
end
section
end
section
end
section
end
section
end
section
end
section
end
section
end
section
end
section
end
namespace Go.a2.o2
section
open Go.RowKit
noncomputable section
section
variable{P:Program}{o:Oper}{F p q:Nat}{abz:Nat}{x y:Operand}{aaV:Nat->Bool}{t s T e:TypeId}
theorem aaM{w:World}{z:Value}(au:zeroOf P T=some z):(zeroValue T).run P w=.ok z w:=by
 unfold zeroOf at au;cases hi:P.info? T with
 |none=>rw[hi]at au;cases au
 |some i=>rw[hi]at au;simp only[Option.bind_some]at au;simp[zeroValue,typeInfo,hi,au]
end
end
end
end Go.a2.o2
namespace Go.a2.o2.S
section
open Go.RowKit
theorem Jp(a b:ByteArray):(a==b)=decide (a=b):=by
 cases a with
 |mk x=>
  cases b with
  |mk y=>
   have e:((⟨x⟩:ByteArray)==⟨y⟩)=(x==y):=rfl;rw[e];by_cases h:x=y
   ·subst h;simp
   ·simp[h]
inductive iN where
 |int (k:IntKind)
 |str
def iC(K:TypeId->Option (List iN)):List Field->Nat->Option (List iN)
 |[],_=>some []
 |f::dX,off=>match K f.type with
  |none=>none
  |some ks=>if f.offset==off&& !(f.name== "_")then(match iC K dX (off+ks.length)with|some r=>some (ks++r)|none=>none)else none
def er(P:Program):Nat->TypeId->Option (List iN)
 |0,_=>none
 |d+1,t=>match P.underlying t with
  |some (.int k)=>if fb P t then some [.int k]else none
  |some .string=>if fb P t then some [.str]else none
  |some (.struct dX)=>match iC (er P d) dX.toList 0 with
   |some ks=>if hv P t ks.length&& !P.stoodInHeld t then some ks else none
   |none=>none
  |_=>none
def kindOf:Value->Option iN
 | .int k _=>some (.int k)
 | .string _=>some .str
 |_=>none
def Fit(ks:List iN)(L:List Value):Prop:=L.map kindOf=ks.map some
theorem Fit.len{ks:List iN}{L:List Value}(h:Fit ks L):L.length=ks.length:=by
 have:=congrArg List.length h;simpa using this
theorem Fit.split{ks qP:List iN}{L:List Value}(h:Fit (ks++qP) L):∃A B,L=A++B/\Fit ks A/\Fit qP B:=by
 refine⟨L.take ks.length,L.drop ks.length,(List.take_append_drop _ _).symm,?_,?_⟩
 ·unfold Fit at*;rw[List.map_take,h,List.map_append,List.take_left' (by simp)]
 ·unfold Fit at*;rw[List.map_drop,h,List.map_append,List.drop_left' (by simp)]
def fT(P:Program)(t:TypeId)(L:List Value):Value:=if fb P t then L.headD undef else .agg L.toArray
def sK(P:Program)(d:Nat)(t:TypeId)(ks:List iN):Prop:=∀(w:World) (xs ys:List Value),Fit ks xs->Fit ks ys->∃r,(Op.equalIn d t (fT P t xs) (fT P t ys)).run P w=.ok r w/\(r=true↔xs=ys)
theorem q0{P:Program}{w:World}{t:TypeId}{ks:List iN}{pre A post:List Value}{off:Nat}(aP:(fb P t=true/\ks.length=1)\/(fb P t=false/\hv P t ks.length=true))(hp:pre.length=off)(aR:Fit ks A):(part t (pre++A++post).toArray off).run P w=.ok (fT P t A) w:=by
 rcases aP with⟨aj,an⟩|⟨aj,an⟩
 ·obtain⟨v,rfl⟩:∃v,A=[v]:=List.length_eq_one_iff.1 (by rw[aR.len,an]);have hi:(isAgg t).run P w=.ok false w:=Bs aj;have al:(pre++[v]++post).toArray[off]? =some v:=by
   simp[List.getElem?_append,hp]
  simp only[part,Sem.run_bind,hi,Result.andThen_ok,Bool.false_eq_true,if_false,al,Sem.run_pure,fT,aj,if_true,List.headD_cons]
 ·obtain⟨kI,hu,ap⟩:=zb an;have hi:(isAgg t).run P w=.ok true w:=by
   cases kI<;>simp_all [isAgg,run_underlying hu,TypeDesc.isRow]
  have he:(pre++A++post).toArray.extract off (off+ks.length)=A.toArray:=by
   apply Array.toList_inj.1;simp[<-hp,<-aR.len]
  simp only[part,Sem.run_bind,hi,Result.andThen_ok,if_true,kc (w:=w) (sD an),he,Sem.run_pure,fT,aj,Bool.false_eq_true,if_false]
theorem nh{P:Program}{d:Nat}{t:TypeId}{ks:List iN}(h:er P d t=some ks):(fb P t=true/\ks.length=1)\/(fb P t=false/\hv P t ks.length=true):=by
 cases d with
 |zero=>simp[er]at h
 |succ d=>
  unfold er at h;cases hu:P.underlying t with
  |none=>rw[hu]at h;cases h
  |some kI=>
   rw[hu]at h;cases kI with
   |int k=>
    simp only at h;split at h
    ·rename_i aJ;injection h with h;subst h;exact .inl ⟨aJ,rfl⟩
    ·cases h
   |string=>
    simp only at h;split at h
    ·rename_i aJ;injection h with h;subst h;exact .inl ⟨aJ,rfl⟩
    ·cases h
   |struct dX=>
    simp only at h;split at h
    ·split at h
     ·rename_i aJ;rw[Bool.and_eq_true]at aJ;injection h with h;subst h;exact .inr ⟨by simp[fb,hu],aJ.1⟩
     ·cases h
    ·cases h
   |_=>cases h
theorem uO{P:Program}{d:Nat}(K:∀t ks,er P d t=some ks->sK P d t ks):∀(dX:List Field) (off:Nat) (ks:List iN),iC (er P d) dX off=some ks->∀(w:World) (p q xs ys:List Value),p.length=off->q.length=off->Fit ks xs->Fit ks ys->
  ∃r,(Op.eqFields d (p++xs).toArray (q++ys).toArray dX).run P w=.ok r w/\(r=true↔xs=ys)
 |[],off,ks,h,w,p,q,xs,ys,hp,bE,ad,bn=>by
  simp only[iC,Option.some.injEq]at h;subst h;have cz:xs=[]:=List.eq_nil_of_length_eq_zero (by simpa using ad.len);have c6:ys=[]:=List.eq_nil_of_length_eq_zero (by simpa using bn.len);exact⟨true,by simp[Op.eqFields],by simp[cz,c6]⟩
 |f::dX,off,ks,h,w,p,q,xs,ys,hp,bE,ad,bn=>by
  unfold iC at h;cases ab:er P d f.type with
  |none=>rw[ab]at h;cases h
  |some gk=>
   rw[ab]at h;simp only at h;split at h
   ·rename_i aJ;simp only[Bool.and_eq_true,Bool.not_eq_true',beq_iff_eq]at aJ;obtain⟨pA,a6⟩:=aJ;cases ap:iC (er P d) dX (off+gk.length)with
    |none=>rw[ap]at h;cases h
    |some hQ=>
     rw[ap]at h;simp only[Option.some.injEq]at h;subst h;obtain⟨A,xs',rfl,aR,r3⟩:=ad.split;obtain⟨B,nY,rfl,aL,pD⟩:=bn.split;have vp:f.name≠ "_" :=by simpa using a6
     have s1:=q0 (P:=P) (w:=w) (post:=xs') (nh ab) (hp.trans pA.symm) aR;have s2:=q0 (P:=P) (w:=w) (post:=nY) (nh ab) (bE.trans pA.symm) aL;obtain⟨r,vv,jQ⟩:=K _ _ ab w A B aR aL;obtain⟨q1,nK,vw⟩:=uO K dX _ _ ap w (p++A) (q++B) xs' nY (by simp[hp,aR.len]) (by simp[bE,aL.len]) r3 pD;rw[List.append_assoc]at s1 s2 nK;rw[List.append_assoc]at nK;unfold Op.eqFields;simp only[if_pos vp,Sem.run_bind,s1,s2,vv,Result.andThen_ok];cases r with
     |false=>exact⟨false,by simp,by simp;intro e;have:=List.append_inj_left e (by rw[aR.len,aL.len]);exact absurd (jQ.2 this) (by simp)⟩
     |true=>
      have u2:=jQ.1 rfl;refine⟨q1,by simpa using nK,?_⟩;rw[vw,u2];simp
   ·cases h
theorem rE{P:Program}:∀(d:Nat) (t:TypeId) (ks:List iN),er P d t=some ks->sK P d t ks
 |0,t,ks,h=>by simp[er]at h
 |d+1,t,ks,h=>by
  have m8:=nh h;unfold er at h;intro w xs ys ad bn;cases hu:P.underlying t with
  |none=>rw[hu]at h;cases h
  |some kI=>
   rw[hu]at h;cases kI with
   |int k=>
    simp only at h;split at h
    ·rename_i aJ;injection h with h;subst h;obtain⟨x,rfl⟩:∃v,xs=[v]:=List.length_eq_one_iff.1 (by rw[ad.len];rfl);obtain⟨y,rfl⟩:∃v,ys=[v]:=List.length_eq_one_iff.1 (by rw[bn.len];rfl);simp only[Fit,List.map_cons,List.map_nil,List.cons.injEq,and_true]at ad bn;cases x<;>simp only[kindOf,reduceCtorEq,Option.some.injEq,iN.int.injEq]at ad;cases y<;>simp only[kindOf,reduceCtorEq,Option.some.injEq,iN.int.injEq]at bn;subst ad bn;rename_i a _ b;refine⟨a==b,?_,by simp⟩;simp only[fT,aJ,if_true,List.headD_cons];exact run_equalIn_int w d t _ _ a b hu
    ·cases h
   |string=>
    simp only at h;split at h
    ·rename_i aJ;injection h with h;subst h;obtain⟨x,rfl⟩:∃v,xs=[v]:=List.length_eq_one_iff.1 (by rw[ad.len];rfl);obtain⟨y,rfl⟩:∃v,ys=[v]:=List.length_eq_one_iff.1 (by rw[bn.len];rfl);simp only[Fit,List.map_cons,List.map_nil,List.cons.injEq,and_true]at ad bn;cases x<;>simp only[kindOf,reduceCtorEq,Option.some.injEq]at ad;cases y<;>simp only[kindOf,reduceCtorEq,Option.some.injEq]at bn;rename_i a b;refine⟨a==b,?_,by simp[Jp]⟩;simp only[fT,aJ,if_true,List.headD_cons];simp[Op.equalIn,run_underlying hu]
    ·cases h
   |struct dX=>
    simp only at h;cases bu:iC (er P d) dX.toList 0 with
    |none=>rw[bu]at h;cases h
    |some g2=>
     rw[bu]at h;simp only at h;split at h
     ·rename_i aJ;simp only[Bool.and_eq_true,Bool.not_eq_true']at aJ;injection h with h;subst h;have aF:fb P t=false:=by simp[fb,hu]
      have vj:P.fieldsOf t=dX:=by simp[Program.fieldsOf,hu]
      simp only[fT,aF,Bool.false_eq_true,if_false];rw[run_equalIn_struct (P:=P) w d t _ _ (by rw[vj];exact hu) aJ.2,vj];have:=uO (fun t ks h=>rE d t ks h) dX.toList 0 _ bu w [] [] xs ys rfl rfl ad bn;simpa using this
     ·cases h
   |_=>cases h
theorem zZ{P:Program}(em:Bool):∀(d:Nat) (t:TypeId) (ks:List iN),er P d t=some ks->∀(w:World) (xs:List Value),Fit ks xs->(Instr.checkKey em d t (fT P t xs)).run P w=.ok () w
 |0,t,ks,h=>by simp[er]at h
 |d+1,t,ks,h=>by
  have m8:=nh h;unfold er at h;intro w xs ad;cases hu:P.underlying t with
  |none=>rw[hu]at h;cases h
  |some kI=>
   rw[hu]at h;cases kI with
   |int k=>unfold Instr.checkKey;simp[run_underlying hu]
   |string=>unfold Instr.checkKey;simp[run_underlying hu]
   |struct dX=>
    simp only at h;cases bu:iC (er P d) dX.toList 0 with
    |none=>rw[bu]at h;cases h
    |some g2=>
     rw[bu]at h;simp only at h;split at h
     ·rename_i aJ;injection h with h;subst h;have aF:fb P t=false:=by simp[fb,hu]
      simp only[fT,aF,Bool.false_eq_true,if_false];unfold Instr.checkKey;simp only[Sem.run_bind,run_underlying hu,Result.andThen_ok];rw[<-Array.forIn_toList];have key:∀(L:List Field) (off:Nat) (dD:List iN),iC (er P d) L off=some dD->∀(p ys:List Value),p.length=off->Fit dD ys->∀ws:List Value,xs=p++ys->
        (forIn L PUnit.unit fun f _=>do
         if f.name≠ "_" then
          let a<-part f.type xs.toArray f.offset
          Instr.checkKey em d f.type a
          pure (ForInStep.yield PUnit.unit)
         else
          pure (ForInStep.yield PUnit.unit):Sem PUnit).run P w=.ok PUnit.unit w:=by
       intro L
       induction L with
       |nil=>intro off dD h p ys hp bn ws e;simp
       |cons f L ck=>
        intro off dD h p ys hp bn ws e;unfold iC at h;cases ab:er P d f.type with
        |none=>rw[ab]at h;cases h
        |some gk=>
         rw[ab]at h;simp only at h;split at h
         ·rename_i aJ;simp only[Bool.and_eq_true,Bool.not_eq_true',beq_iff_eq]at aJ;obtain⟨pA,a6⟩:=aJ;cases ap:iC (er P d) L (off+gk.length)with
          |none=>rw[ap]at h;cases h
          |some hQ=>
           rw[ap]at h;simp only[Option.some.injEq]at h;subst h;obtain⟨A,nY,rfl,aR,pD⟩:=bn.split;have vp:f.name≠ "_" :=by simpa using a6
           have s1:=q0 (P:=P) (w:=w) (post:=nY) (nh ab) (hp.trans pA.symm) aR;have I1:=zZ em d f.type gk ab w A aR;have sq:=ck _ _ ap (p++A) nY (by simp[hp,aR.len]) pD [] (by rw[e,List.append_assoc]);rw[e];rw[e]at sq;rw[List.append_assoc]at s1;simp only[List.forIn_cons,Sem.run_bind,if_pos vp,s1,I1,Result.andThen_ok,Sem.run_pure];exact sq
         ·cases h
      have:=key dX.toList 0 _ bu [] xs rfl ad [] rfl;rw[this];rfl
     ·cases h
   |_=>cases h
end
end Go.a2.o2.S
namespace Go.a2.o2
section
open Go.RowKit
open S (iN)
noncomputable section
def Fd(P:Program)(fi:TypeId)(ks:List iN)(xs:List Value):List MapEntry->Nat->Option (Nat×Value)->Prop
 |[],_,r=>r=none
 |e::es,i,r=>∃ys,e.key=S.fT P fi ys/\S.Fit ks ys/\((xs=ys/\r=some (i,e.val))\/(xs≠ys/\Fd P fi ks xs es (i+1) r))
section
variable{P:Program}{fi:TypeId}{ks:List iN}{xs:List Value}{w:World}
theorem En(ab:S.er P 10000 fi=some ks)(ad:S.Fit ks xs):∀{es:List MapEntry} {i:Nat} {r:Option (Nat×Value)},Fd P fi ks xs es i r->(Instr.findAsking fi (S.fT P fi xs) es i).run P w=.ok r w
 |[],i,r,h=>by
  have h:r=none:=h;subst h;rfl
 |e::es,i,r,⟨ys,aj,an,aB⟩=>by
  obtain⟨b,ak,h4⟩:=S.rE 10000 fi ks ab w xs ys ad an;have u9:(Op.equal fi (S.fT P fi xs) e.key).run P w=.ok b w:=by rw[aj];exact ak
  unfold Instr.findAsking;simp only[Sem.run_bind,u9,Result.andThen_ok];rcases aB with⟨aB,rfl⟩|⟨aB,be⟩
  ·rw[h4.2 aB];rfl
  ·have:b=false:=by
    cases b with
    |false=>rfl
    |true=>exact absurd (h4.1 rfl) aB
   rw[this];exact En ab ad be
theorem HS(ab:S.er P 10000 fi=some ks)(ad:S.Fit ks xs){d:TypeDesc}(hu:P.underlying fi=some d)(aT:(∃k,d=.int k)\/d=.string):∀{es:List MapEntry} {i:Nat} {r:Option (Nat×Value)},Fd P fi ks xs es i r->Instr.findNow d (S.fT P fi xs) es i=some r
 |[],i,r,h=>by
  have h:r=none:=h;subst h;rfl
 |e::es,i,r,⟨ys,aj,an,aB⟩=>by
  have key:∃b,Instr.sameNow d (S.fT P fi xs) e.key=some b/\(b=true↔xs=ys):=by
   rw[aj];unfold S.er at ab;rw[hu]at ab;rcases aT with⟨k,rfl⟩|rfl
   ·simp only at ab;split at ab
    ·rename_i aJ;injection ab with ab;subst ab;obtain⟨x,rfl⟩:∃v,xs=[v]:=List.length_eq_one_iff.1 (by rw[ad.len];rfl);obtain⟨y,rfl⟩:∃v,ys=[v]:=List.length_eq_one_iff.1 (by rw[an.len];rfl);simp only[S.Fit,List.map_cons,List.map_nil,List.cons.injEq,and_true]at ad an;cases x<;>simp only[S.kindOf,reduceCtorEq,Option.some.injEq,iN.int.injEq]at ad;cases y<;>simp only[S.kindOf,reduceCtorEq,Option.some.injEq,iN.int.injEq]at an;subst ad;rename_i iW a b;subst an;exact⟨iW==b,by simp[S.fT,aJ,Instr.sameNow],by simp⟩
    ·cases ab
   ·simp only at ab;split at ab
    ·rename_i aJ;injection ab with ab;subst ab;obtain⟨x,rfl⟩:∃v,xs=[v]:=List.length_eq_one_iff.1 (by rw[ad.len];rfl);obtain⟨y,rfl⟩:∃v,ys=[v]:=List.length_eq_one_iff.1 (by rw[an.len];rfl);simp only[S.Fit,List.map_cons,List.map_nil,List.cons.injEq,and_true]at ad an;cases x<;>simp only[S.kindOf,reduceCtorEq,Option.some.injEq]at ad;cases y<;>simp only[S.kindOf,reduceCtorEq,Option.some.injEq]at an;rename_i a b;exact⟨a==b,by simp[S.fT,aJ,Instr.sameNow],by simp[S.Jp]⟩
    ·cases ab
  obtain⟨b,key,Hb⟩:=key;unfold Instr.findNow;rw[key];rcases aB with⟨aB,rfl⟩|⟨aB,be⟩
  ·rw[Hb.2 aB]
  ·cases b with
   |true=>exact absurd (Hb.1 rfl) aB
   |false=>exact HS ab ad hu aT be
theorem Qe(ab:S.er P 10000 fi=some ks)(ad:S.Fit ks xs){es:List MapEntry}{r:Option (Nat×Value)}(h:Fd P fi ks xs es 0 r):(Instr.findKey fi (S.fT P fi xs) es).run P w=.ok r w:=by
 cases hu:P.underlying fi with
 |none=>simp[S.er,hu]at ab
 |some d=>
  have ask:Instr.findNow d (S.fT P fi xs) es 0=none\/Instr.findNow d (S.fT P fi xs) es 0=some r:=by
   by_cases aT:(∃k,d=.int k)\/d=.string
   ·exact .inr (HS ab ad hu aT h)
   ·cases es with
    |nil=>
     have h:r=none:=h;subst h;exact .inr rfl
    |cons e es=>
     refine .inl ?_;unfold Instr.findNow;have:Instr.sameNow d (S.fT P fi xs) e.key=none:=by
      unfold S.er at ab;rw[hu]at ab;cases d<;>first|(exact absurd (.inl ⟨_,rfl⟩) aT)|(exact absurd (.inr rfl) aT)|rfl|(cases ab;done)|skip
     rw[this]
  simp only[Instr.findKey,Sem.run_bind,run_underlying hu,Result.andThen_ok];rcases ask with aj|aj
  ·rw[aj];exact En ab ad h
  ·rw[aj];rfl
end
end
end
end Go.a2.o2
