import Derived.OrdersHeld
import Derived.Deep.RegionHeld3
import Derived.Laws.BitsLemmas
import Derived.RowKit
import Derived.Below
import Derived.Deep.Draws
import Derived.Deep.AppendLies
import Derived.Maps.AppendAt
import Derived.OwnWalk
import Derived.Laws.BytesArg
import Derived.Laws.MakeOwn
import Derived.Laws.OwnMore
import Derived.Deep.OwnRows
import Derived.Tactics
import Derived.Lib.ConvBytes
import Derived.Laws.Slices
import Derived.WalkKit
import Derived.KernelRfl
import Derived.RowKit3
import Derived.Deep.LoopGhost
import Derived.Deep.QuietTactic
import Derived.BigQuiet
import Derived.WideLaws
import Derived.Deep.DeepCutAuto
import Derived.Deep.CutBlock
import Derived.Laws.Rows
import Derived.Lib.AppendStr
import Derived.ArgAppend
import Derived.Laws.IdiomCopy
set_option linter.unusedVariables false
set_option linter.unusedSimpArgs false
namespace Go.Proofs.kD.kC
section
section
variable{P:Program}{ops:Array Oper}{Q:Exit->Act->World->Prop}{md:Region.Mode}{S:World->Prop}{ds:List Nat}
def rk(P:Program)(md:Region.Mode)(ops:Array Oper)(Q:Exit->Act->World->Prop)(S:World->Prop)(ds:List Nat):Nat->Array Bool->Act->World->Prop
 |0,listed,a,w=>Region.ready md ops listed=[]/\Q .normal a w
 |fuel+1,listed,a,w=>
  (Region.ready md ops listed=[]->Q .normal a w)/\
  ∀i∈Region.ready md ops listed,wpOp P ops Q i (fun a' w'=>(i∉ds->S w->S w')/\rk P md ops Q S ds fuel (listed.setIfInBounds i true) a' w') a w
theorem Ln:∀(fuel:Nat) (listed:Array Bool) (a:Act) (w:World),rk P md ops Q S ds fuel listed a w->wpAny P md ops Q fuel listed a w
 |0,_,_,_,h=>h
 |fuel+1,_,_,_,h=>⟨h.1,fun i hi=>wpOp_mono (fun a' w' m1=>Ln fuel _ a' w' m1.2) (h.2 i hi)⟩
theorem Ds{id:Nat}{a:Act}{w:World}(hm:P.follows .mixedOrders=true)
  (h:rk P .any ops Q S ds ops.size (Array.replicate ops.size false) a {w with drawn:=w.drawn+1}):(Code.region id ops true).wp P Q a w:=
 wp_region_any hm (Ln _ _ _ _ h)
end
end
end Go.Proofs.kD.kC
section
end
namespace Go.Proofs.kD.kC
section
def yi(md:Region.Mode)(o:Oper):List Nat:=(o.after.toList.filter (fun e=>Region.binds md e)).map (fun e=>e.on)
def EQ(md:Region.Mode)(ops:Array Oper)(i:Nat)(sb:Oper):List Nat:=(List.range ops.size).filter fun j=> !(j==i)&&match ops[j]? with
 |some yo=> !(yo.after.any (fun e=>Region.binds md e&&e.on==i)||sb.apart ops yo)
 |none=>false
def hA(md:Region.Mode)(ops:Array Oper):Bool×List (List Nat×List Nat):=(Region.noSelect ops,(List.range ops.size).map fun i=>match ops[i]? with
 |some o=>(yi md o,EQ md ops i o)
 |none=>([],[]))
def vS(T:List (List Nat×List Nat))(l:List Bool)(i:Nat):Bool:= !l.getD i true&&match T[i]? with
 |some r=>r.1.all (fun j=>l.getD j false)
 |none=>false
def yC(T:List (List Nat×List Nat))(l:List Bool):List Nat:=(List.range T.length).filter (vS T l)
def jD(T:List (List Nat×List Nat))(i:Nat):Nat->Nat->Bool
 |0,_=>false
 |fuel+1,d=>match T[d]? with
  |some r=>r.1.any fun j=>j==i||jD T i fuel j
  |none=>false
section
variable{md:Region.Mode}{ops:Array Oper}{T:Bool×List (List Nat×List Nat)}{l c9 abu abv pG:Array Bool}{ds:List Nat}{i j k:Nat}
theorem av(l:Array Bool)(j:Nat)(b:Bool):l.getD j b=l.toList.getD j b:=by simp[Array.getD_eq_getD_getElem?,List.getD_eq_getElem?_getD]
theorem Ue(o:Oper)(p:Nat->Bool):o.after.all (fun e=> !Region.binds md e||p e.on)=(yi md o).all p:=by
 unfold yi;rw[<-Array.all_toList]
 induction o.after.toList with
 |nil=>rfl
 |cons e r ck=>
  rw[List.all_cons,ck,List.filter_cons];cases h:Region.binds md e<;>simp
theorem IJ:(hA md ops).2.length=ops.size:=by simp[hA]
theorem Wf{o:Oper}(h:ops[i]? =some o):(hA md ops).2[i]? =some (yi md o,EQ md ops i o):=by
 have hi:=(Array.getElem?_eq_some_iff.1 h).1;unfold hA;rw[List.getElem?_map,List.getElem?_range hi,Option.map_some,h]
theorem We(h:ops[i]? =none):(hA md ops).2[i]? =none:=by
 have hi:ops.size<=i:=Array.getElem?_eq_none_iff.1 h;exact List.getElem?_eq_none (by rw[IJ];exact hi)
theorem VP:vS (hA md ops).2 l.toList i=(!l.getD i true&&((ops[i]?).map (·.after.all fun e=> !Region.binds md e||l.getD e.on false)).getD false):=by
 unfold vS;rw[av];cases h:ops[i]? with
 |none=>rw[We h];rfl
 |some o=>
  rw[Wf h];simp only[Option.map_some,Option.getD_some];rw[<-Ue];simp only[av]
theorem IB:Region.ready md ops l=yC (hA md ops).2 l.toList:=by
 unfold Region.ready yC;rw[IJ];refine List.filter_congr (fun i _=>?_);rw[VP]
def nl(B:List Nat)(d:Nat):List Nat->Nat
 |[]=>0
 |n::r=>(2^n |||(if n<d then B.getD n 0 else 0))||| nl B d r
def oX(T:List (List Nat×List Nat))(B:List Nat):Bool:=(List.range T.length).all fun d=>match T[d]? with
 |some r=>(B.getD d 0 ||| nl B d r.1)==nl B d r.1
 |none=>false
theorem sE{B:List Nat}{d i:Nat}:∀{HT:List Nat},(nl B d HT).testBit i=true->∃n∈HT,n=i\/(n<d/\(B.getD n 0).testBit i=true)
 |[],h=>by simp[nl]at h
 |n::r,h=>by
  unfold nl at h;rw[Nat.testBit_or,Nat.testBit_or,Bool.or_eq_true,Bool.or_eq_true]at h;rcases h with(h|h)|h
  ·rw[Nat.testBit_two_pow]at h;exact⟨n,List.mem_cons_self,.inl (by simpa using h)⟩
  ·by_cases a6:n<d
   ·rw[if_pos a6]at h;exact⟨n,List.mem_cons_self,.inr ⟨a6,h⟩⟩
   ·rw[if_neg a6]at h;simp at h
  ·obtain⟨m,hm,an⟩:=sE h;exact⟨m,List.mem_cons_of_mem _ hm,an⟩
theorem sm{T:List (List Nat×List Nat)}{B:List Nat}(aL:oX T B=true):∀(fuel d:Nat),d<fuel->d<T.length->(B.getD d 0).testBit i=true->jD T i fuel d=true
 |0,d,h,_,_=>by omega
 |fuel+1,d,h,aT,ak=>by
  have aj:=List.all_eq_true.1 aL d (List.mem_range.2 aT);cases ap:T[d]? with
  |none=>rw[ap]at aj;simp at aj
  |some r=>
   rw[ap]at aj;simp only[beq_iff_eq]at aj;have an:(nl B d r.1).testBit i=true:=by rw[<-aj,Nat.testBit_or,ak,Bool.true_or]
   obtain⟨n,a6,aB⟩:=sE an;unfold jD;rw[ap];simp only;rw[List.any_eq_true];refine⟨n,a6,?_⟩;rcases aB with rfl|⟨be,bZ⟩
   ·simp
   ·rw[sm aL fuel n (by omega) (by omega) bZ,Bool.or_true]
end
end
section
def up(b:Nat->Bool)(i:Nat):Nat->Bool:=fun j=>if j=i then true else b j
theorem nX(b:Nat->Bool)(i:Nat):up b i i=true:=by simp[up]
theorem k5{b:Nat->Bool}{i j:Nat}(h:j≠i):up b i j=b j:=by simp[up,h]
def iE(n:Nat)(O:List Nat)(b:Nat->Bool):List Bool:=(List.range n).map fun j=>if O.contains j then b j else true
section
variable{P:Program}{ops:Array Oper}{Q:Exit->Act->World->Prop}{md:Region.Mode}{T:Bool×List (List Nat×List Nat)}{B:List Nat}{O:List Nat}{b:Nat->Bool}{i j n:Nat}
theorem TH:(iE n O b).length=n:=by simp[iE]
theorem x8{d:Bool}(ax:j<n):(iE n O b).getD j d=if O.contains j then b j else true:=by
 simp[iE,List.getD_eq_getElem?_getD,ax]
theorem TI(hi:O.contains i=true):(iE n O b).set i true=iE n O (up b i):=by
 apply List.ext_getElem?;intro j;by_cases ax:j<n
 ·by_cases m3:i=j
  ·subst m3;have aI:i<(iE n O b).length:=by rw[TH];exact ax
   rw[List.getElem?_set_self aI];simp only[iE,List.getElem?_map,List.getElem?_range ax,Option.map_some,hi,if_true,nX]
  ·rw[List.getElem?_set_ne m3];simp only[iE,List.getElem?_map,List.getElem?_range ax,Option.map_some];rw[k5 (Ne.symm m3)]
 ·rw[List.getElem?_eq_none (by simp[iE];omega),List.getElem?_eq_none (by simp[iE];omega)]
def D0(P:Program)(ops:Array Oper)(Q:Exit->Act->World->Prop)(B:List Nat)(O:List Nat)(I:(Nat->Bool)->Act->World->Prop)(i:Nat):Prop:=
 ∀b a w,I b a w->b i=false->(∀j,(O.contains j&&(B.getD i 0).testBit j)=true->b j=true)->(∀d,(O.contains d&&(B.getD d 0).testBit i)=true->b d=false)->
  ∃sb,ops[i]? =some sb/\∀K:Act->World->Prop,Shut (∀a' w',I (up b i) a' w'->K a' w')->if Region.wanted sb (yielded ops a.tmps)=true then Oper.wp P sb a w K Q else K (a.put sb.dst undef) w
def lC(T:List (List Nat×List Nat))(O:List Nat):Bool:=
 (List.range T.length).all (fun d=>match T[d]? with
  |some r=>(O.contains d||r.1.all fun n=> !O.contains n)&&r.1.all fun n=>decide (n<d)
  |none=>false)&&O.all (fun i=>decide (i<T.length))&&decide O.Nodup
theorem mW{T:List (List Nat×List Nat)}(h:lC T O=true){d:Nat}{r:List Nat×List Nat}(ap:T[d]? =some r):(O.contains d=false->∀n∈r.1,O.contains n=false)/\∀n∈r.1,n<d:=by
 simp only[lC,Bool.and_eq_true]at h;have aj:=List.all_eq_true.1 h.1.1 d (List.mem_range.2 (List.getElem?_eq_some_iff.1 ap).1);rw[ap]at aj;simp only[Bool.and_eq_true,Bool.or_eq_true,List.all_eq_true,decide_eq_true_eq]at aj;refine⟨fun aT n a6=>?_,aj.2⟩;rcases aj.1 with an|an
 ·rw[aT]at an;cases an
 ·simpa using an n a6
theorem Ep{T:List (List Nat×List Nat)}(h:lC T O=true){i:Nat}(hi:i∈O):i<T.length:=by
 simp only[lC,Bool.and_eq_true]at h;simpa using List.all_eq_true.1 h.1.2 i hi
theorem OR{T:List (List Nat×List Nat)}(h:lC T O=true):O.Nodup:=by
 simp only[lC,Bool.and_eq_true]at h;exact of_decide_eq_true h.2
def DD(T:List (List Nat×List Nat))(O:List Nat)(b:Nat->Bool):Prop:=∀d r,T[d]? =some r->O.contains d=true->b d=true->∀n∈r.1,O.contains n=true->b n=true
theorem Et{T:List (List Nat×List Nat)}(hw:oX T B=true)(ab:lC T O=true):∀(m d:Nat),d<=m->d<T.length->O.contains d=false->∀j,(B.getD d 0).testBit j=true->O.contains j=false:=by
 intro m
 induction m with
 |zero=>
  intro d aT aI gS j ax;have vd:d=0:=by omega
  subst vd;have ap:T[0]? =some T[0]:=List.getElem?_eq_getElem aI;have aj:=List.all_eq_true.1 hw 0 (List.mem_range.2 aI);rw[ap]at aj;simp only[beq_iff_eq]at aj;have an:(nl B 0 T[0].1).testBit j=true:=by rw[<-aj,Nat.testBit_or,ax,Bool.true_or]
  obtain⟨n,a6,aB⟩:=sE an;have:=(mW ab ap).2 n a6;omega
 |succ m ck=>
  intro d aT aI gS j ax;have ap:T[d]? =some T[d]:=List.getElem?_eq_getElem aI;have aj:=List.all_eq_true.1 hw d (List.mem_range.2 aI);rw[ap]at aj;simp only[beq_iff_eq]at aj;have an:(nl B d T[d].1).testBit j=true:=by rw[<-aj,Nat.testBit_or,ax,Bool.true_or]
  obtain⟨n,a6,aB⟩:=sE an;have ov:=(mW ab ap).1 gS n a6;rcases aB with rfl|⟨be,bZ⟩
  ·exact ov
  ·exact ck n (by omega) (by omega) ov j bZ
theorem ER{T:List (List Nat×List Nat)}(hw:oX T B=true)(ab:lC T O=true)(aJ:DD T O b):∀(m d:Nat),d<=m->d<T.length->O.contains d=true->b d=true->∀j,O.contains j=true->(B.getD d 0).testBit j=true->b j=true:=by
 intro m
 induction m with
 |zero=>
  intro d aT aI gS ak j xT ax;have vd:d=0:=by omega
  subst vd;have ap:T[0]? =some T[0]:=List.getElem?_eq_getElem aI;have aj:=List.all_eq_true.1 hw 0 (List.mem_range.2 aI);rw[ap]at aj;simp only[beq_iff_eq]at aj;have an:(nl B 0 T[0].1).testBit j=true:=by rw[<-aj,Nat.testBit_or,ax,Bool.true_or]
  obtain⟨n,a6,aB⟩:=sE an;have:=(mW ab ap).2 n a6;omega
 |succ m ck=>
  intro d aT aI gS ak j xT ax;have ap:T[d]? =some T[d]:=List.getElem?_eq_getElem aI;have aj:=List.all_eq_true.1 hw d (List.mem_range.2 aI);rw[ap]at aj;simp only[beq_iff_eq]at aj;have an:(nl B d T[d].1).testBit j=true:=by rw[<-aj,Nat.testBit_or,ax,Bool.true_or]
  obtain⟨n,a6,aB⟩:=sE an;rcases aB with rfl|⟨be,bZ⟩
  ·exact aJ d _ ap gS ak n a6 xT
  ·cases ov:O.contains n with
   |true=>exact ck n (by omega) (by omega) ov (aJ d _ ap gS ak n a6 ov) j xT bZ
   |false=>
    have:=Et hw ab n n (Nat.le_refl _) (by omega) ov j bZ;rw[xT]at this;cases this
theorem Lb:∀{O:List Nat},O.Nodup->i∈O->b i=false->(O.filter fun j=> !up b i j).length+1=(O.filter fun j=> !b j).length
 |[],_,hi,_=>by cases hi
 |x::r,a6,hi,ak=>by
  rw[List.nodup_cons]at a6;rcases List.mem_cons.1 hi with rfl|hi
  ·have aj:(r.filter fun j=> !up b i j)=r.filter fun j=> !b j:=by
    refine List.filter_congr (fun j ax=>?_);rw[k5 (fun e=>a6.1 (by rw[<-e];exact ax))]
   rw[List.filter_cons,List.filter_cons];simp[nX,ak,aj]
  ·have S0:x≠i:=fun e=>a6.1 (e▸hi);have aj:=Lb a6.2 hi ak;rw[List.filter_cons,List.filter_cons,k5 S0];cases abf:b x
   ·simp only[Bool.not_false,if_true,List.length_cons];omega
   ·simpa using aj
theorem Tg(fC:hA md ops=T)(hw:oX T.2 B=true)(ab:lC T.2 O=true)(I:(Nat->Bool)->Act->World->Prop)(aP:∀i∈O,D0 P ops Q B O I i)
  (ij:∀b a w,(∀j,O.contains j=true->b j=true)->I b a w->Q .normal a w):
  ∀(m:Nat) (b:Nat->Bool) (a:Act) (w:World),(O.filter fun j=> !b j).length=m->DD T.2 O b->I b a w->rk P md ops Q (fun _=>True) [] m (iE T.2.length O b).toArray a w:=by
 subst fC;have Hy:∀{b:Nat->Bool} {i:Nat},i∈Region.ready md ops (iE (hA md ops).2.length O b).toArray->i<(hA md ops).2.length/\O.contains i=true/\b i=false/\∀r,(hA md ops).2[i]? =some r->∀n∈r.1,n<(hA md ops).2.length->O.contains n=true->b n=true:=by
  intro b i hi;rw[IB]at hi;unfold yC at hi;rw[List.mem_filter,List.mem_range]at hi;obtain⟨aI,aj⟩:=hi;unfold vS at aj;rw[Bool.and_eq_true,x8 aI]at aj;obtain⟨an,aB⟩:=aj;have be:O.contains i=true:=by
   cases h:O.contains i with
   |true=>rfl
   |false=>rw[h]at an;simp at an
  rw[be]at an;refine⟨aI,be,by simpa using an,fun r ap n a6 SD gS=>?_⟩;rw[ap]at aB;simp only[List.all_eq_true]at aB;have bZ:=aB n a6;rw[x8 SD,gS]at bZ;simpa using bZ
 intro m
 induction m with
 |zero=>
  intro b a w hm aJ cX;have iS:∀j,O.contains j=true->b j=true:=by
   intro j ax;cases ak:b j with
   |true=>rfl
   |false=>
    have:j∈O.filter fun j=> !b j:=List.mem_filter.2 ⟨List.contains_iff_mem.1 ax,by simp[ak]⟩;rw[List.eq_nil_of_length_eq_zero hm]at this;cases this
  refine⟨?_,ij b a w iS cX⟩;refine List.eq_nil_iff_forall_not_mem.2 (fun i hi=>?_);obtain⟨_,aj,an,_⟩:=Hy hi;rw[iS i aj]at an;cases an
 |succ m ck=>
  intro b a w hm aJ cX;refine⟨fun ap=>?_,fun i hi=>?_⟩
  ·exfalso;have hex:∃i,O.contains i=true/\b i=false:=by
    cases bu:O.filter (fun j=> !b j)with
    |nil=>rw[bu]at hm;simp at hm
    |cons x r=>
     have ad:x∈O.filter (fun j=> !b j):=by rw[bu];exact List.mem_cons_self
     rw[List.mem_filter]at ad;exact⟨x,List.contains_iff_mem.2 ad.1,by simpa using ad.2⟩
   have Sz:∀k,(∃i,i<=k/\O.contains i=true/\b i=false)->∃i,O.contains i=true/\b i=false/\∀j,j<i->O.contains j=true->b j=true:=by
    intro k
    induction k with
    |zero=>
     rintro⟨i,hi,aj,an⟩;exact⟨i,aj,an,fun j ax=>by omega⟩
    |succ k Tb=>
     rintro⟨i,hi,aj,an⟩;by_cases xV:∃j,j<=k/\O.contains j=true/\b j=false
     ·exact Tb xV
     ·refine⟨i,aj,an,fun j ax gS=>?_⟩;cases ak:b j with
      |true=>rfl
      |false=>exact absurd ⟨j,by omega,gS,ak⟩ xV
   obtain⟨i0,aj,an⟩:=hex;obtain⟨i,gS,ak,xV⟩:=Sz i0 ⟨i0,Nat.le_refl _,aj,an⟩;have aI:=Ep ab (List.contains_iff_mem.1 gS);have ox:i∈Region.ready md ops (iE (hA md ops).2.length O b).toArray:=by
    rw[IB];unfold yC;rw[List.mem_filter,List.mem_range];refine⟨aI,?_⟩;unfold vS;rw[x8 aI,gS,ak];have jQ:(hA md ops).2[i]? =some (hA md ops).2[i]:=List.getElem?_eq_getElem aI;rw[jQ];simp only[if_true,Bool.not_false,Bool.true_and,List.all_eq_true];intro n a6;have vq:=(mW ab jQ).2 n a6;rw[x8 (by omega)];cases xL:O.contains n with
    |true=>simpa using xV n vq xL
    |false=>simp
   rw[ap]at ox;cases ox
  ·obtain⟨aI,gS,ak,Be⟩:=Hy hi;have SF:∀j,(O.contains j&&(B.getD i 0).testBit j)=true->b j=true:=by
    intro j ax;rw[Bool.and_eq_true]at ax;have jQ:(hA md ops).2[i]? =some (hA md ops).2[i]:=List.getElem?_eq_getElem aI;have aj:=List.all_eq_true.1 hw i (List.mem_range.2 aI);rw[jQ]at aj;simp only[beq_iff_eq]at aj;have an:(nl B i (hA md ops).2[i].1).testBit j=true:=by rw[<-aj,Nat.testBit_or,ax.2,Bool.true_or]
    obtain⟨n,a6,aB⟩:=sE an;have vq:=(mW ab jQ).2 n a6;rcases aB with rfl|⟨be,bZ⟩
    ·exact Be _ jQ n a6 (by omega) ax.1
    ·cases ov:O.contains n with
     |true=>exact ER hw ab aJ n n (Nat.le_refl _) (by omega) ov (Be _ jQ n a6 (by omega) ov) j ax.1 bZ
     |false=>
      have:=Et hw ab n n (Nat.le_refl _) (by omega) ov j bZ;rw[ax.1]at this;cases this
   have pA:∀d,(O.contains d&&(B.getD d 0).testBit i)=true->b d=false:=by
    intro d aT;rw[Bool.and_eq_true]at aT;cases xN:b d with
    |false=>rfl
    |true=>
     have rU:=Ep ab (List.contains_iff_mem.1 aT.1);have:=ER hw ab aJ d d (Nat.le_refl _) rU aT.1 xN i gS aT.2;rw[ak]at this;cases this
   obtain⟨sb,xX,cY⟩:=aP i (List.contains_iff_mem.1 gS) b a w cX ak SF pA;refine wpOp_step xX (fun Mq RX=>cY Mq (fun a' w' AV=>RX a' w' ⟨fun _ _=>trivial,?_⟩));have SR:(iE (hA md ops).2.length O b).toArray.setIfInBounds i true=(iE (hA md ops).2.length O (up b i)).toArray:=by
    apply Array.ext';rw[Array.toList_setIfInBounds];exact TI gS
   rw[SR];refine ck (up b i) a' w' ?_ ?_ AV
   ·have:=Lb (OR ab) (List.contains_iff_mem.1 gS) ak;omega
   ·intro d r ap RZ xN n a6 xL;by_cases vq:n=i
    ·rw[vq,nX]
    ·rw[k5 vq];by_cases Gv:d=i
     ·subst Gv;exact Be r ap n a6 (by have:=(mW ab ap).2 n a6;omega) xL
     ·rw[k5 Gv]at xN;exact aJ d r ap RZ xN n a6 xL
theorem Bq{l:Array Bool}{fuel:Nat}{a:Act}{w:World}(O:List Nat)(I:(Nat->Bool)->Act->World->Prop)(fC:hA md ops=T)(hw:oX T.2 B=true)(ab:lC T.2 O=true)
  (aI:(iE T.2.length O (fun _=>false)==l.toList&&O.length==fuel)=true) (bG:I (fun _=>false) a w) (aP:∀i∈O,D0 P ops Q B O I i)
  (ij:∀b a w,(∀j,O.contains j=true->b j=true)->I b a w->Q .normal a w):rk P md ops Q (fun _=>True) [] fuel l a w:=by
 rw[Bool.and_eq_true,beq_iff_eq,beq_iff_eq]at aI;have aj:=Tg fC hw ab I aP ij fuel (fun _=>false) a w (by rw[<-aI.2];simp) (fun d r _ _ ak=>by cases ak) bG;have an:(iE T.2.length O (fun _=>false)).toArray=l:=by apply Array.ext';exact aI.1
 rw[an]at aj;exact aj
end
end
end Go.Proofs.kD.kC
