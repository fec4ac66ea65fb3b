/- Texts of this proof. -/
import Derived.Test.YtckdfgknodedoaaGreatDoorKK4
import Derived.Test.YtckdfgknodedoaaGreatDoorKK
import Derived.Test.YtckdfgknodedoaaGreatDoorKK3
import Derived.Test.YtckdfgknodedoaaGreatDoorRR1
import Derived.Test.YtckdfgknodedoaaGreatDoorKK1
set_option linter.unusedVariables false
set_option linter.unusedSimpArgs false
set_option maxRecDepth 100000
namespace Go.Proofs.YtckdfgknodedoaaGreatDoor.K
section
open Go.RowKit Go.a2 Go.Proofs Go.Proofs.Tryz
def m9(s:cu):List cu->List cu
 |[]=>[s]
 |e::r=>if e.1>s.1 then s::e::r else e::m9 s r
def Fm(s:cu)(r:List cu×Bool):List cu:=if r.2=true then r.1 else r.1++[s]
theorem Il(s:cu):∀(l o:List cu),l.foldl (kY s) (o,true)=(o++l,true)
 |[],o=>by simp
 |e::r,o=>by
  rw[List.foldl_cons];have cz:kY s (o,true) e=(o++[e],true):=by unfold kY;simp
  rw[cz,Il s r,List.append_assoc];rfl
theorem Ik(s:cu):∀(l o:List cu),Fm s (l.foldl (kY s) (o,false))=o++m9 s l
 |[],o=>rfl
 |e::r,o=>by
  rw[List.foldl_cons];by_cases h:e.1>s.1
  ·have cz:kY s (o,false) e=(o++[s]++[e],true):=by unfold kY;rw[if_pos ⟨rfl,h⟩]
   rw[cz,Il,m9,if_pos h];simp[Fm]
  ·have cz:kY s (o,false) e=(o++[e],false):=by unfold kY;rw[if_neg fun c=>h c.2]
   rw[cz,Ik s r,m9,if_neg h,List.append_assoc];rfl
theorem IH(l:List cu)(s:cu):ed l s=m9 s (dn l s.1):=Ik s (dn l s.1) []
theorem pg{e:cu}{r:List cu}{k:Int}:fj (e::r) k=if e.1=k then some e else fj r k:=by
 unfold fj;rw[List.find?_cons];by_cases h:e.1=k<;>simp[h]
theorem F2(l:List cu)(i k:Int):fj (dn l i) k=if k=i then none else fj l k:=by
 induction l with
 |nil=>simp[dn,fj]
 |cons e r ck=>
  by_cases h:e.1=i
  ·have cz:dn (e::r) i=dn r i:=by unfold dn;rw[List.filter_cons];simp[h]
   rw[cz,ck,pg];by_cases ab:k=i
   ·rw[if_pos ab,if_pos ab]
   ·rw[if_neg ab,if_neg ab,if_neg (fun c=>ab (c.symm.trans h))]
  ·have cz:dn (e::r) i=e::dn r i:=by unfold dn;rw[List.filter_cons];simp[h]
   rw[cz,pg,ck,pg];by_cases ab:k=i
   ·rw[if_pos ab,if_pos ab,if_neg (fun c=>h (c.trans ab))]
   ·rw[if_neg ab,if_neg ab]
theorem F0{s:cu}{k:Int}:∀{l:List cu},(∀e∈l,e.1≠s.1)->fj (m9 s l) k=if k=s.1 then some s else fj l k
 |[],_=>by
  rw[m9,pg];by_cases h:k=s.1
  ·rw[if_pos h.symm,if_pos h]
  ·rw[if_neg (fun c=>h c.symm),if_neg h]
 |e::r,h=>by
  rw[m9];have he:=h e (List.mem_cons_self ..);split
  ·rw[pg];by_cases ab:k=s.1
   ·rw[if_pos ab.symm,if_pos ab]
   ·rw[if_neg (fun c=>ab c.symm),if_neg ab]
  ·rw[pg,pg,F0 fun x ad=>h x (List.mem_cons_of_mem _ ad)];by_cases ab:k=s.1
   ·rw[if_pos ab,if_pos ab,if_neg (fun c=>he (c.trans ab))]
   ·rw[if_neg ab,if_neg ab]
theorem Li{l:List cu}{k:Int}{e:cu}(h:e∈dn l k):e.1≠k:=by simpa using(List.mem_filter.1 h).2
theorem xA(l:List cu)(s:cu)(k:Int):fj (ed l s) k=if k=s.1 then some s else fj l k:=by
 rw[IH,F0 fun e he=>Li he,F2];by_cases h:k=s.1
 ·rw[if_pos h,if_pos h]
 ·rw[if_neg h,if_neg h,if_neg h]
abbrev mT(l:List cu):Prop:=l.Pairwise fun a b=>a.1<b.1
theorem G5{s e:cu}:∀{l:List cu},e∈m9 s l->e=s\/e∈l
 |[],h=>.inl (List.mem_singleton.1 h)
 |a::r,h=>by
  rw[m9]at h;split at h
  ·rcases List.mem_cons.1 h with h|h
   ·exact .inl h
   ·exact .inr h
  ·rcases List.mem_cons.1 h with h|h
   ·exact .inr (h▸List.mem_cons_self ..)
   ·exact(G5 h).imp id (List.mem_cons_of_mem _)
theorem G6{s:cu}:∀{l:List cu},mT l->(∀e∈l,e.1≠s.1)->mT (m9 s l)
 |[],_,_=>List.pairwise_singleton _ _
 |e::r,h,a6=>by
  have aj:=List.pairwise_cons.1 h;have he:=a6 e (List.mem_cons_self ..);rw[m9];split
  ·rename_i al;exact List.pairwise_cons.2 ⟨fun x ad=>by
    rcases List.mem_cons.1 ad with rfl|ad
    ·exact al
    ·exact Int.lt_trans al (aj.1 x ad),h⟩
  ·rename_i al;exact List.pairwise_cons.2 ⟨fun x ad=>by
    rcases G5 ad with rfl|ad
    ·omega
    ·exact aj.1 x ad,G6 aj.2 fun x ad=>a6 x (List.mem_cons_of_mem _ ad)⟩
theorem Lj{l:List cu}{k:Int}(h:mT l):mT (dn l k):=h.sublist List.filter_sublist
theorem yH{l:List cu}{s:cu}(h:mT l):mT (ed l s):=by
 rw[IH];exact G6 (Lj h) fun e he=>Li he
theorem F5:∀{cs ls:List cu},mT ls->mT (cs.foldl ed ls)
 |[],_,h=>h
 |_::r,_,h=>F5 (cs:=r) (yH h)
theorem F1{l:List cu}{k:Int}{e:cu}(h:fj l k=some e):e∈l/\e.1=k:=⟨List.mem_of_find?_eq_some h,by simpa using List.find?_some h⟩
theorem AP{e:cu}:∀{l:List cu},mT l->e∈l->fj l e.1=some e
 |a::r,h,he=>by
  rw[pg];rcases List.mem_cons.1 he with rfl|he
  ·rw[if_pos rfl]
  ·have aj:=List.pairwise_cons.1 h;have:=aj.1 e he;rw[if_neg ae,AP aj.2 he]
theorem FZ:∀{cs ls:List cu} (k:Int),mT cs->fj (cs.foldl ed ls) k=(fj cs k).or (fj ls k)
 |[],ls,k,_=>rfl
 |e::r,ls,k,h=>by
  have aj:=List.pairwise_cons.1 h;rw[List.foldl_cons,FZ k aj.2,xA,pg];by_cases ab:k=e.1
  ·have ap:fj r k=none:=by
    unfold fj;rw[List.find?_eq_none];intro x ad;have:=aj.1 x ad;simp;omega
   rw[ap,if_pos ab,if_pos ab.symm];rfl
  ·rw[if_neg ab,if_neg (fun c=>ab c.symm)]
theorem xd{S:cC}{il:List Int}(h:mT S.ls):∀j,mT (hq S il j)
 |0=>h
 |j+1=>by
  rw[hq];split
  ·split
   ·exact xd h j
   ·exact yH (xd h j)
  ·exact xd h j
theorem Of{c:List (Int×List UInt8)}{k:Int}(h:k∈c.map (·.1)):∃b,h0 c k=some b:=by
 induction c with
 |nil=>cases h
 |cons p r ck=>
  rw[mU];by_cases ab:k=p.1
  ·rw[if_pos ab];exact⟨_,rfl⟩
  ·rw[if_neg ab];rcases List.mem_cons.1 h with h|h
   ·exact absurd h ab
   ·exact ck h
theorem Og{c:List (Int×List UInt8)}{k:Int}{b:List UInt8}(h:h0 c k=some b):k∈c.map (·.1):=by
 induction c with
 |nil=>cases h
 |cons p r ck=>
  rw[mU]at h;by_cases ab:k=p.1
  ·exact ab▸List.mem_cons_self ..
  ·rw[if_neg ab]at h;exact List.mem_cons_of_mem _ (ck h)
theorem Oe(c:List (Int×List UInt8))(i k:Int):h0 (c.filter fun p=> !(p.1==i)) k=if k=i then none else h0 c k:=by
 induction c with
 |nil=>simp[h0]
 |cons p r ck=>
  rw[List.filter_cons,mU];by_cases h:p.1=i
  ·have:(!(p.1==i))=false:=by simp[h]
   rw[this,if_neg aN,ck];by_cases ab:k=i
   ·rw[if_pos ab,if_pos ab]
   ·rw[if_neg ab,if_neg ab,if_neg (fun c=>ab (c.trans h))]
  ·have:(!(p.1==i))=true:=by simp[h]
   rw[this,if_pos rfl,mU,ck];by_cases ab:k=i
   ·rw[if_pos ab,if_pos ab,if_neg (fun c=>h (c.symm.trans ab))]
   ·rw[if_neg ab,if_neg ab]
structure cZ where
 av:Nat
 lv:Value
 bk:Value
 aq:Value
 S:cC
abbrev jE(R:cZ):List az:=bW R.av R.lv R.bk R.aq R.S
abbrev bB(R:cZ):az:=az.all (jE R)
def nv(x:Option cu):Option (List UInt8):=x.map fun e=>e.2.2
structure cC.Rel(S:cC)(A:bz):Prop where
 ok:S.Ok
 n:S.n=A.n
 len:A.last.length=A.n
 off:S.off=A.off
 left:S.left=if A.dK=true then A.left else -1
 dK:A.dK=true->0<=A.left/\A.left<=9223372036854775807
 last:∀j:Nat,j<A.n->(A.last[j]?).getD []=(nv (fj S.ls (j:Int))).getD []
 cache:∀k:Int,h0 A.cache k=nv (fj S.cs k)
 keys:(A.cache.map (·.1)).Nodup/\∀p∈A.cache,A.there p.1
def cZ.is(R:cZ)(g:Nat)(A:bz):Prop:=R.av=g/\R.S.Rel A
def bz.mK(A:bz):bz:={A with left:=dC (A.left-1),last:=A.last.mapIdx fun j l=>(h0 A.cache (j:Int)).getD l,cache:=[]}
def bz.spoilt(A:bz)(i:Int)(l:List UInt8):bz:={A with last:=A.last.set i.toNat l,cache:=A.cache.filter fun p=> !(p.1==i)}
theorem cC.Rel.new{k:Nat}(h:k<=4096):(cC.new k).Rel (bz.new k) where
 ok:=⟨h,List.length_replicate,.nil,.nil,(fun _ h=>nomatch h),(fun _ h=>nomatch h),(fun _ h=>nomatch h)⟩
 n:=rfl
 len:=List.length_replicate
 off:=rfl
 left:=rfl
 dK h:=nomatch h
 last j ax:=by
  show((List.replicate k [])[j]?).getD []=_
  rw[List.getElem?_replicate];split<;>rfl
 cache k:=rfl
 keys:=⟨List.nodup_nil,(fun p hp=>nomatch hp)⟩
theorem Rel.new{k:Nat}(h:k<=4096):(cC.new k).Rel (bz.new k):=cC.Rel.new h
namespace cC.Rel
variable{S:cC}{A:bz}(h:S.Rel A)
include h
theorem read{j:Nat}(ax:j<A.n):A.read j=S.sd (j:Int):=by
 have aj:=h.cache (j:Int);have an:=h.last j ax;unfold bz.read cC.sd;rw[aj];cases aJ:fj S.cs (j:Int)with
 |some e=>rfl
 |none=>
  simp only[nv,Option.map_none];rw[an];cases aI:fj S.ls (j:Int)<;>rfl
theorem bump(j:Nat):S.Rel (A.bump j):=⟨h.ok,h.n,h.len,h.off,h.left,h.dK,h.last,h.cache,h.keys⟩
theorem counts{c:List Int}(aJ:c.length=S.counts.length):({S with counts:=c}:cC).Rel A:=⟨⟨h.ok.max,aJ.trans h.ok.count,h.ok.oC,h.ok.mY,h.ok.oB,h.ok.cin,h.ok.e7⟩,h.n,h.len,h.off,h.left,h.dK,h.last,h.cache,h.keys⟩
theorem H2:({S with off:=true}:cC).Rel {A with off:=true}:=⟨⟨h.ok.max,h.ok.count,h.ok.oC,h.ok.mY,h.ok.oB,h.ok.cin,h.ok.e7⟩,h.n,h.len,rfl,h.left,h.dK,h.last,h.cache,h.keys⟩
theorem mV(n:Int)(a6:n<=9223372036854775807):({S with left:=if n<0 then -1 else n}:cC).Rel (A.mV n):=⟨⟨h.ok.max,h.ok.count,h.ok.oC,h.ok.mY,h.ok.oB,h.ok.cin,h.ok.e7⟩,h.n,h.len,h.off,by
  show(if n<0 then -1 else n)=if decide (0<=n)=true then n else -1
  by_cases c:n<0
  ·rw[if_pos c,if_neg (by simp;omega)]
  ·rw[if_neg c,if_pos (by simp;omega)],fun c=>⟨by simpa [bz.mV]using c,a6⟩,h.last,h.cache,h.keys⟩
theorem Dt{i:Int}{l:List UInt8}(c:¬A.there i):S.kz i l=7:=by
 unfold cC.kz;unfold bz.there at c;rw[<-h.n]at c;rw[if_pos ae]
theorem Lq{i:Int}{l:List UInt8}(c:A.there i)(aI:1024<l.length):S.kz i l=3:=by
 unfold cC.kz;unfold bz.there at c;rw[<-h.n]at c;rw[if_neg ae,if_pos aI]
theorem Lp{i:Int}{l:List UInt8}(c:A.there i)(aI:¬1024<l.length):S.kz i l=0:=by
 unfold cC.kz;unfold bz.there at c;rw[<-h.n]at c;rw[if_neg ae,if_neg aI]
theorem Hm(c:¬(A.dK=true/\A.left=0)):¬S.left=0:=fun e=>by
 rw[h.left]at e;split at e
 ·rename_i bm;exact c ⟨bm,e⟩
 ·omega
theorem dec(hp:0<S.left):dC (S.left-1)=(if A.dK=true then dC (A.left-1)else -1)/\(A.dK=true->0<=dC (A.left-1)/\dC (A.left-1)<=9223372036854775807):=by
 have aI:=h.left;cases bm:A.dK with
 |false=>rw[bm]at aI;simp at aI;omega
 |true=>
  rw[bm]at aI;have ap:=h.dK bm;simp at aI;have e:dC (A.left-1)=A.left-1:=br ae ae;rw[aI,e];exact⟨U,fun _=>by omega⟩
theorem free(hp:¬0<S.left)(abl:¬S.left=0):S.left=(if A.dK=true then dC (A.left-1)else -1)/\(A.dK=true->0<=dC (A.left-1)/\dC (A.left-1)<=9223372036854775807):=by
 have aI:=h.left;cases bm:A.dK with
 |false=>rw[bm]at aI;exact⟨aI,fun c=>nomatch c⟩
 |true=>
  rw[bm]at aI;have ap:=h.dK bm;simp at aI;omega
theorem wrote{L i:Int}{v:Value}{l:List UInt8}(hi:A.there i)(aI:l.length<=1024)(dd:L=(if A.dK=true then dC (A.left-1)else -1)/\(A.dK=true->0<=dC (A.left-1)/\dC (A.left-1)<=9223372036854775807)):(S.wrote L i v l).Rel (A.put i l) where
 ok:=⟨h.ok.max,h.ok.count,h.ok.oC,yH h.ok.mY,h.ok.oB,fun e he=>(tL he).elim (fun c=>by subst c;have:=hi;unfold bz.there at this;rw[<-h.n]at this;exact this) (h.ok.cin e),fun e he=>by
  rcases List.mem_append.1 he with he|he
  ·exact(h.ok.e7 e (List.mem_append_left _ he)).imp (List.mem_cons_of_mem _) id
  ·rcases tL he with rfl|he
   ·exact⟨List.mem_cons_self ..,aI⟩
   ·exact(h.ok.e7 e (List.mem_append_right _ he)).imp (List.mem_cons_of_mem _) id⟩
 n:=h.n
 len:=h.len
 off:=h.off
 left:=dd.1
 dK:=dd.2
 last:=h.last
 cache k:=by
  show h0 (lb i l A.cache) k=nv (fj (ed S.cs (i,v,l)) k)
  rw[zE,xA];by_cases c:k=i
  ·rw[if_pos c,if_pos c];rfl
  ·rw[if_neg c,if_neg c,h.cache]
 keys:=Em hi h.keys
theorem mK{L:Int}(dd:L=(if A.dK=true then dC (A.left-1)else -1)/\(A.dK=true->0<=dC (A.left-1)/\dC (A.left-1)<=9223372036854775807)):(S.mK L).Rel A.mK where
 ok:=⟨h.ok.max,h.ok.count,F5 h.ok.oC,.nil,fun e he=>by
   rcases List.mem_append.1 (yY he)with he|he
   ·exact h.ok.oB e he
   ·exact h.ok.cin e he,(fun e he=>nomatch he),fun e he=>by
   rcases List.mem_append.1 he with he|he
   ·exact h.ok.e7 e (yY he)
   ·cases he⟩
 n:=h.n
 len:=by show(A.last.mapIdx _).length=A.n;simp[h.len]
 off:=h.off
 left:=dd.1
 dK:=dd.2
 last j ax:=by
  show((A.last.mapIdx fun j l=>(h0 A.cache (j:Int)).getD l)[j]?).getD []=(nv (fj (iL S S.cs.length) (j:Int))).getD []
  have iD:j<A.last.length:=by rw[h.len];exact ax
  have an:=h.last j ax;rw[List.getElem?_eq_getElem iD]at an;rw[List.getElem?_mapIdx,List.getElem?_eq_getElem iD,iL,List.take_length,FZ _ h.ok.mY];simp only[Option.map_some,Option.getD_some];rw[h.cache];cases aJ:fj S.cs (j:Int)with
  |some e=>rfl
  |none=>
   simp only[Option.none_or,nv,Option.map_none,Option.getD_none];simpa [nv]using an
 cache k:=rfl
 keys:=⟨List.nodup_nil,(fun p hp=>nomatch hp)⟩
theorem spoilt{i:Int}{v:Value}{l:List UInt8}(hi:A.there i)(aI:l.length<=1024):(S.spoilt i v l).Rel (A.spoilt i l) where
 ok:=⟨h.ok.max,h.ok.count,yH h.ok.oC,Lj h.ok.mY,fun e he=>(tL he).elim (fun c=>by subst c;have:=hi;unfold bz.there at this;rw[<-h.n]at this;exact this) (h.ok.oB e),fun e he=>h.ok.cin e (zf he),fun e he=>by
  rcases List.mem_append.1 he with he|he
  ·rcases tL he with rfl|he
   ·exact⟨List.mem_cons_self ..,aI⟩
   ·exact(h.ok.e7 e (List.mem_append_left _ he)).imp (List.mem_cons_of_mem _) id
  ·exact(h.ok.e7 e (List.mem_append_right _ (zf he))).imp (List.mem_cons_of_mem _) id⟩
 n:=h.n
 len:=by show(A.last.set _ _).length=A.n;rw[List.length_set];exact h.len
 off:=h.off
 left:=h.left
 dK:=h.dK
 last j ax:=by
  show((A.last.set i.toNat l)[j]?).getD []=(nv (fj (ed S.ls (i,v,l)) (j:Int))).getD []
  have ln:0<=i/\i<(A.n:Int):=hi;rw[List.getElem?_set,xA];by_cases c:i.toNat=j
  ·rw[if_pos c,if_pos (by rw[h.len];omega),if_pos (show(j:Int)=i by omega)];rfl
  ·rw[if_neg c,if_neg (show¬(j:Int)=i by omega),h.last j ax]
 cache k:=by
  show h0 (A.cache.filter fun p=> !(p.1==i)) k=nv (fj (dn S.cs i) k)
  rw[Oe,F2];by_cases c:k=i
  ·rw[if_pos c,if_pos c];rfl
  ·rw[if_neg c,if_neg c,h.cache]
 keys:=⟨(List.filter_sublist.map _).nodup h.keys.1,fun p hp=>h.keys.2 p (List.mem_filter.1 hp).1⟩
theorem E5:(A.cache.map (·.1)).mergeSort leI=S.cs.map (·.1):=by
 have aj:(S.cs.map (·.1)).Pairwise fun a b=>a<b:=List.pairwise_map.2 h.ok.mY;have an:(S.cs.map (·.1)).Nodup:=aj.imp fun tk=>by omega
 have aB:(A.cache.map (·.1)).Perm (S.cs.map (·.1)):=(List.perm_ext_iff_of_nodup h.keys.1 an).2 fun k=>by
  constructor
  ·intro ab;obtain⟨b,ak⟩:=Of ab;rw[h.cache k]at ak;cases bu:fj S.cs k with
   |none=>rw[bu]at ak;cases ak
   |some e=>exact List.mem_map.2 ⟨e,(F1 bu).1,(F1 bu).2⟩
  ·intro ab;obtain⟨e,he,rfl⟩:=List.mem_map.1 ab;have:=h.cache e.1;rw[AP h.ok.mY he]at this;exact Og this
 have be:((A.cache.map (·.1)).mergeSort leI).Perm (S.cs.map (·.1)):=(List.mergeSort_perm _ _).trans aB;have bZ:((A.cache.map (·.1)).mergeSort leI).Pairwise fun a b=>a<=b:=by
  have:=List.pairwise_mergeSort (le:=leI) (fun a b c=>by simp only[leI,decide_eq_true_eq];omega) (fun a b=>by simp only[leI,Bool.or_eq_true,decide_eq_true_eq];omega) (A.cache.map (·.1));exact this.imp fun tk=>by simpa [leI]using tk
 exact be.eq_of_pairwise (le:=fun a b=>a<=b) (fun a b _ _ tk abe=>by omega) bZ (aj.imp fun tk=>by omega)
theorem EX(il:List Int):∀j,j<=S.cs.length->∀q:Nat,q<A.n->((mj A il j)[q]?).getD []=(nv (fj (hq S il j) (q:Int))).getD []
 |0,_,q,bE=>h.last q bE
 |j+1,ax,q,bE=>by
  have ck:=EX il j ae q bE;have aT:=h.E5;have iD:j<S.cs.length:=ax;have cz:((A.cache.map (·.1)).mergeSort leI)[j]? =some (S.cs[j]).1:=by rw[aT,List.getElem?_map,List.getElem?_eq_getElem iD];rfl
  have ap:=h.ok.cin _ (List.getElem_mem iD);have bm:h0 A.cache (S.cs[j]).1=some (S.cs[j]).2.2:=by rw[h.cache,AP h.ok.mY (List.getElem_mem iD)];rfl
  rw[mj,hq,cz,List.getElem?_eq_getElem iD];by_cases c:(il[j]?).getD 0=0
  ·simp only[c,ne_eq,not_true_eq_false,and_false,if_false,if_true];exact ck
  ·have Su:j<il.length:=by
    rcases Nat.lt_or_ge j il.length with aJ|aJ
    ·exact aJ
    ·rw[List.getElem?_eq_none aJ]at c;exact absurd U c
   simp only[c,Su,ne_eq,not_false_eq_true,and_self,if_true,if_false];rw[bm,xA,List.getElem?_set,rv,h.len];rw[h.n]at ap;by_cases d:(S.cs[j]).1.toNat=q
   ·rw[if_pos d,if_pos ae,if_pos (show(q:Int)=(S.cs[j]).1 by omega)];rfl
   ·rw[if_neg d,if_neg (show¬(q:Int)=(S.cs[j]).1 by omega)];exact ck
theorem qh(il:List Int):(S.qh il).Rel (A.lf il) where
 ok:=⟨h.ok.max,h.ok.count,xd h.ok.oC _,.nil,fun e he=>by
   rcases List.mem_append.1 (s4 he)with he|he
   ·exact h.ok.oB e he
   ·exact h.ok.cin e he,(fun e he=>nomatch he),fun e he=>by
   rcases List.mem_append.1 he with he|he
   ·exact h.ok.e7 e (s4 he)
   ·cases he⟩
 n:=h.n
 len:=(rv A il _).trans h.len
 off:=rfl
 left:=rfl
 dK c:=nomatch c
 last j ax:=by
  have e:A.cache.length=S.cs.length:=by
   have:=congrArg List.length h.E5;simpa using this
  show((mj A il A.cache.length)[j]?).getD []=(nv (fj (hq S il S.cs.length) (j:Int))).getD []
  rw[e];exact h.EX il _ (Nat.le_refl _) j ax
 cache k:=rfl
 keys:=⟨List.nodup_nil,(fun p hp=>nomatch hp)⟩
end cC.Rel
theorem MG{k:Nat}{w0:World}(h:1<=k)(an:k<=4096):aY prog 10 [aa (k:Int)] w0 [] (fun R:cZ=>.tuple #[ai R.av 0,aa 0]) (fun R=>[bB R]) (fun R=>R.is R.av (bz.new k)):=
 (MH h an).mono fun oe w' ⟨q,aj,xH,aB,be,_⟩=>⟨⟨q.1,.slice none 0 0,.slice none 0 0,q.2,cC.new k⟩,aj,xH,(Has.pack (R:=[]) (by rw[List.append_nil];exact aB)),fun g al=>be g (xn.1 al),rfl,Rel.new an⟩
theorem MO{R:cZ}{g:Nat}{A:bz}{w0:World}(H:Has w0 [bB R])(dU:R.is g A){j:Nat}(ax:j<A.n):aY prog 20 [ai g 0,aa (j:Int)] w0 [bB R] (fun x:Value×cZ=>x.1) (fun x=>[az.bytes 5 x.1 (A.read j)]++[bB x.2]) (fun x=>x.2.is g A):=by
 obtain⟨av,lv,bk,aq,S⟩:=R;obtain⟨al,aR⟩:=dU;have al:av=g:=al;have aR:S.Rel A:=aR;subst al;rw[aR.read ax];exact aY.packed (B:=fun x:Value×cZ=>[az.bytes 5 x.1 (S.sd (j:Int))]) (C:=fun x=>jE x.2) (fun c4=>DN c4 aR.ok (j:Int)) H fun c _=>⟨(c,⟨av,lv,bk,aq,S⟩),U,U,U,aR⟩
theorem sO{R:cZ}{g:Nat}{A:bz}{w0:World}(H:Has w0 [bB R])(dU:R.is g A){j:Nat}(ax:j<A.n):aY prog 55 [ai g 0,aa (j:Int)] w0 [bB R] (fun x:Value×cZ=>.tuple #[x.1,aa 0]) (fun x=>[az.bytes 5 x.1 (A.read j)]++[bB x.2]) (fun x=>x.2.is g (A.bump j)):=by
 obtain⟨av,lv,bk,aq,S⟩:=R;obtain⟨al,aR⟩:=dU;have al:av=g:=al;have aR:S.Rel A:=aR;subst al;rw[aR.read ax];exact aY.packed (B:=fun x:Value×cZ=>[az.bytes 5 x.1 (S.sd (j:Int))]) (C:=fun x=>jE x.2) (fun c4=>M2 c4 aR.ok (by rw[aR.n];exact ax)) H fun c _=>⟨(c,⟨av,lv,bk,aq,_⟩),U,U,U,(aR.counts (List.length_set)).bump j⟩
theorem M4{R:cZ}{g:Nat}{A:bz}{w0:World}(H:Has w0 [bB R])(dU:R.is g A){i:Int}(h:¬A.there i):aY prog 55 [ai g 0,aa i] w0 [bB R] (fun _:cZ=>.tuple #[.slice none 0 0,aa 7]) (fun x=>[bB x]) (fun x=>x.is g A):=by
 obtain⟨av,lv,bk,aq,S⟩:=R;obtain⟨al,aR⟩:=dU;have al:av=g:=al;have aR:S.Rel A:=aR;subst al;have an:¬(0<=i/\i<(S.n:Int)):=by rw[aR.n];exact h
 by_cases a6:i<0
 ·exact aY.packed (B:=fun _:cZ=>[]) (C:=fun x=>jE x) (fun c4=>M3 c4 aR.ok a6) H fun _ _=>⟨⟨av,lv,bk,aq,S⟩,U,U,U,aR⟩
 ·exact aY.packed (B:=fun _:cZ=>[]) (C:=fun x=>jE x) (fun c4=>M1 c4 aR.ok a6 (by show(S.n:Int)<=i;omega)) H fun _ _=>⟨⟨av,lv,bk,aq,S⟩,U,U,U,aR⟩
theorem LF{R:cZ}{g:Nat}{A:bz}{w0:World}(H:Has w0 [bB R])(dU:R.is g A){n:Int}(a6:n<=9223372036854775807):aY prog 58 [ai g 0,aa n] w0 [bB R] (fun _:cZ=>.tuple #[]) (fun x=>[bB x]) (fun x=>x.is g (A.mV n)):=by
 obtain⟨av,lv,bk,aq,S⟩:=R;obtain⟨al,aR⟩:=dU;have al:av=g:=al;have aR:S.Rel A:=aR;subst al;by_cases h:n<0
 ·exact aY.packed (B:=fun _:cZ=>[]) (C:=fun x=>jE x) (fun c4=>LG c4 aR.ok h) H fun _ _=>⟨⟨av,lv,bk,aq,{S with left:= -1}⟩,U,U,U,by have:=aR.mV n a6;rwa [if_pos h]at this⟩
 ·exact aY.packed (B:=fun _:cZ=>[]) (C:=fun x=>jE x) (fun c4=>LH c4 aR.ok h) H fun _ _=>⟨⟨av,lv,bk,aq,{S with left:=n}⟩,U,U,U,by have:=aR.mV n a6;rwa [if_neg h]at this⟩
theorem NX{R:cZ}{g:Nat}{A:bz}{w0:World}(H:Has w0 [bB R])(dU:R.is g A){i:Int}{b:Value}{l:List UInt8}(ak:Bytes w0 b l)(cK:∀g,b.ownBlock=some g->g∉(bB R).et):aY prog 105 [ai g 0,aa i,b] w0 [bB R] (fun _:cZ=>aa (A.write i l).1) (fun x=>[bB x]) (fun x=>x.is g (A.write i l).2):=by
 obtain⟨av,lv,bk,aq,S⟩:=R;obtain⟨al,aR⟩:=dU;have al:av=g:=al;have aR:S.Rel A:=aR;subst al;have j2:∀g,b.ownBlock=some g->¬aS (bW av lv bk aq S) g:=fun g al c=>cK g al (az.kq.2 c);have same:∀{r:Int} {lV:cC},aY prog 105 [ai av 0,aa i,b] w0 (bW av lv bk aq S) (fun _:Unit=>aa r) (fun _=>bW av lv bk aq lV) (fun _=>True)->(A.write i l).1=r->lV.Rel (A.write i l).2->aY prog 105 [ai av 0,aa i,b] w0 [bB ⟨av,lv,bk,aq,S⟩] (fun _:cZ=>aa (A.write i l).1) (fun x=>[bB x]) (fun x=>x.is av (A.write i l).2):=fun{r lV} h e ap=>by
  rw[e];exact aY.packed (B:=fun _:cZ=>[]) (C:=fun x=>jE x) (fun _=>h) H fun _ _=>⟨⟨av,lv,bk,aq,lV⟩,U,U,U,ap⟩
 by_cases bG:A.off=true
 ·have e:A.write i l=(12,A):=by unfold bz.write;rw[if_pos bG]
  exact same (N1 H.hL aR.ok ak j2 (aR.off.trans bG)) (by rw[e]) (by rw[e];exact aR)
 have hO:S.off=false:=by rw[aR.off];simpa using bG
 by_cases aj:A.there i
 ·by_cases an:1024<l.length
  ·have e:A.write i l=(3,A):=by unfold bz.write;rw[if_neg bG,if_neg (fun c=>c aj),if_pos an]
   exact same (D6 H.hL aR.ok ak j2 hO (aR.Lq aj an) aN) (by rw[e]) (by rw[e];exact aR)
  ·have hw:=aR.Lp aj an;by_cases aB:A.dK=true/\A.left=0
   ·have e:A.write i l=(12,{A with off:=true}):=by unfold bz.write;rw[if_neg bG,if_neg (fun c=>c aj),if_neg an,if_pos aB]
    exact same (NZ H.hL aR.ok ak j2 hO hw (by rw[aR.left,if_pos aB.1];exact aB.2)) (by rw[e]) (by rw[e];exact aR.H2)
   ·have e:A.write i l=(0,A.put i l):=by unfold bz.write;rw[if_neg bG,if_neg (fun c=>c aj),if_neg an,if_neg aB];rfl
    rw[e];have aI:=aR.Hm aB;by_cases hp:0<S.left
    ·exact aY.packed (B:=fun _:cZ=>[]) (C:=fun x=>jE x) (fun _=>NY H.hL aR.ok ak j2 hO hw ae aI hp) H fun q _=>⟨⟨av,lv,q.1,aq,_⟩,U,U,U,aR.wrote aj ae (aR.dec hp)⟩
    ·exact aY.packed (B:=fun _:cZ=>[]) (C:=fun x=>jE x) (fun _=>N0 H.hL aR.ok ak j2 hO hw ae aI hp) H fun q _=>⟨⟨av,lv,q.1,aq,_⟩,U,U,U,aR.wrote aj ae (aR.free hp aI)⟩
 ·have e:A.write i l=(7,A):=by unfold bz.write;rw[if_neg bG,if_pos aj]
  exact same (D6 H.hL aR.ok ak j2 hO (aR.Dt aj) aN) (by rw[e]) (by rw[e];exact aR)
theorem Nx{R:cZ}{g:Nat}{A:bz}{w0:World}(H:Has w0 [bB R])(dU:R.is g A):aY prog 56 [ai g 0] w0 [bB R] (fun _:cZ=>aa A.sync.1) (fun x=>[bB x]) (fun x=>x.is g A.sync.2):=by
 obtain⟨av,lv,bk,aq,S⟩:=R;obtain⟨al,aR⟩:=dU;have al:av=g:=al;have aR:S.Rel A:=aR;subst al;by_cases bG:A.off=true
 ·have e:A.sync=(12,A):=by unfold bz.sync;rw[if_pos bG]
  rw[e];exact aY.packed (B:=fun _:cZ=>[]) (C:=fun x=>jE x) (fun c4=>NB c4 aR.ok (aR.off.trans bG)) H fun _ _=>⟨⟨av,lv,bk,aq,S⟩,U,U,U,aR⟩
 have hO:S.off=false:=by rw[aR.off];simpa using bG
 by_cases aB:A.dK=true/\A.left=0
 ·have e:A.sync=(12,{A with off:=true}):=by unfold bz.sync;rw[if_neg bG,if_pos aB]
  rw[e];exact aY.packed (B:=fun _:cZ=>[]) (C:=fun x=>jE x) (fun c4=>Nz c4 aR.ok hO (by rw[aR.left,if_pos aB.1];exact aB.2)) H fun _ _=>⟨⟨av,lv,bk,aq,{S with off:=true}⟩,U,U,U,aR.H2⟩
 ·have e:A.sync=(0,A.mK):=by unfold bz.sync;rw[if_neg bG,if_neg aB];rfl
  rw[e];have aI:=aR.Hm aB;by_cases hp:0<S.left
  ·exact aY.packed (B:=fun _:cZ=>[]) (C:=fun x=>jE x) (fun c4=>Ny c4 aR.ok hO aI hp) H fun q _=>⟨⟨av,q,.slice none 0 0,aq,_⟩,U,U,U,aR.mK (aR.dec hp)⟩
  ·exact aY.packed (B:=fun _:cZ=>[]) (C:=fun x=>jE x) (fun c4=>NA c4 aR.ok hO aI hp) H fun q _=>⟨⟨av,q,.slice none 0 0,aq,_⟩,U,U,U,aR.mK (aR.free hp aI)⟩
theorem LV{R:cZ}{g:Nat}{A:bz}{w0:World}(H:Has w0 [bB R])(dU:R.is g A){b:Value}{l:List Int}(ak:fw w0 (fun g=>g∈(bB R).et) b l):aY prog 57 [ai g 0,b] w0 [bB R] (fun _:cZ=>.tuple #[]) (fun x=>[bB x]) (fun x=>x.is g (A.lf l)):=by
 rcases ak with⟨ak,cK⟩|⟨a,rfl,rfl⟩
 ·obtain⟨av,lv,bk,aq,S⟩:=R;obtain⟨al,aR⟩:=dU;have al:av=g:=al;have aR:S.Rel A:=aR;subst al;exact aY.packed (B:=fun _:cZ=>[]) (C:=fun x=>jE x) (fun c4=>LW c4 aR.ok ak fun g al c=>cK g al (az.kq.2 c)) H fun q _=>⟨⟨av,q,.slice none 0 0,aq,_⟩,U,U,U,aR.qh l⟩
 ·obtain⟨av,lv,bk,aq,S⟩:=R;obtain⟨al,aR⟩:=dU;have al:av=g:=al;have aR:S.Rel A:=aR;subst al;exact aY.packed (B:=fun _:cZ=>[]) (C:=fun x=>jE x) (fun c4=>LX c4 aR.ok) H fun q _=>⟨⟨av,q,.slice none 0 0,aq,_⟩,U,U,U,aR.qh []⟩
theorem D2{R:cZ}{g:Nat}{A:bz}{w0:World}(H:Has w0 [bB R])(dU:R.is g A){i:Int}{b:Value}{l:List UInt8}(ak:fv w0 (fun g=>g∈(bB R).et) b l):aY prog 54 [ai g 0,aa i,b] w0 [bB R] (fun _:cZ=>aa (A.gf i l).1) (fun x=>[bB x]) (fun x=>x.is g (A.gf i l).2):=by
 obtain⟨av,lv,bk,aq,S⟩:=R;obtain⟨al,aR⟩:=dU;have al:av=g:=al;have aR:S.Rel A:=aR;subst al;by_cases aj:A.there i
 ·by_cases an:1024<l.length
  ·have e:A.gf i l=(3,A):=by unfold bz.gf;rw[if_neg (fun c=>c aj),if_pos an]
   rw[e];rcases ak with⟨ak,cK⟩|⟨a,rfl,rfl⟩
   ·exact aY.packed (B:=fun _:cZ=>[]) (C:=fun x=>jE x) (fun c4=>D3 c4 aR.ok ak (fun g al c=>cK g al (az.kq.2 c)) (aR.Lq aj an) aN) H fun _ _=>⟨⟨av,lv,bk,aq,S⟩,U,U,U,aR⟩
   ·exact absurd an aN
  ·have e:A.gf i l=(0,A.spoilt i l):=by unfold bz.gf;rw[if_neg (fun c=>c aj),if_neg an];rfl
   rw[e];have hw:=aR.Lp aj an;rcases ak with⟨ak,cK⟩|⟨a,rfl,rfl⟩
   ·exact aY.packed (B:=fun _:cZ=>[]) (C:=fun x=>jE x) (fun c4=>NJ c4 aR.ok ak (fun g al c=>cK g al (az.kq.2 c)) hw ae) H fun q _=>⟨⟨av,q.1,q.2.1,aq,_⟩,U,U,U,aR.spoilt aj ae⟩
   ·exact aY.packed (B:=fun _:cZ=>[]) (C:=fun x=>jE x) (fun c4=>NK c4 aR.ok hw) H fun q _=>⟨⟨av,q.1,q.2.1,aq,_⟩,U,U,U,aR.spoilt aj ae⟩
 ·have e:A.gf i l=(7,A):=by unfold bz.gf;rw[if_pos aj]
  rw[e];rcases ak with⟨ak,cK⟩|⟨a,rfl,rfl⟩
  ·exact aY.packed (B:=fun _:cZ=>[]) (C:=fun x=>jE x) (fun c4=>D3 c4 aR.ok ak (fun g al c=>cK g al (az.kq.2 c)) (aR.Dt aj) aN) H fun _ _=>⟨⟨av,lv,bk,aq,S⟩,U,U,U,aR⟩
  ·exact aY.packed (B:=fun _:cZ=>[]) (C:=fun x=>jE x) (fun c4=>NL c4 aR.ok (aR.Dt aj) aN) H fun _ _=>⟨⟨av,lv,bk,aq,S⟩,U,U,U,aR⟩
end
section
open Go.RowKit Go.a2 Go.Proofs Go.Proofs.Tryz
theorem oS(l:List UInt8):((l.drop 1).take (17-1)).length<=35184372088832:=by simp;omega
theorem He{l:List UInt8}{kd:Int}(aj:¬l.length<17)(h:1<=kd/\kd<=5):kindOf l=kd↔((l[0]'ae).toNat:Int)=kd:=by
 unfold kindOf;rw[dif_pos ae];split
 ·omega
 ·split
  ·omega
  ·exact Iff.rfl
theorem Tz{l:List UInt8}{kd:Int}(bG:¬kd=0)(h:kindOf l=kd):1<=kd/\kd<=5:=by
 unfold kindOf at h;split at h
 ·split at h
  ·omega
  ·split at h<;>omega
 ·omega
theorem Tw{n:Int}{w0:World}(h:¬1<=n):bH prog 111 [aa n] w0 (.bool false):=by
 refine enter (n:=9) func111 U U U ?_;intro fr E;have M:=ht (Has.nil w0);refine aV E<|bs 2 U U h<|ah (v:=.bool _) 3 U U<|aU 1 U fun fr E=>?_;refine bi E U U ?_;exact bX M
theorem Tx{n:Int}{w0:World}(h:1<=n):bH prog 111 [aa n] w0 (.bool (decide (n<=5))):=by
 refine enter (n:=9) func111 U U U ?_;intro fr E;have M:=ht (Has.nil w0);refine aV E<|bD 2 U U h<|ah (v:=.bool _) 2 U U<|ah (v:=.bool _) 0 U U<|aU 1 U fun fr E=>?_;refine bi E U U ?_;exact bX M
theorem nM{n:Int}{r:Bool}{w0:World}(h:decide (1<=n/\n<=5)=r):bH prog 111 [aa n] w0 (.bool r):=by
 subst h;by_cases h:1<=n
 ·rw[show decide (1<=n/\n<=5)=decide (n<=5)from decide_eq_decide.2 ⟨fun c=>c.2,fun c=>⟨h,c⟩⟩];exact Tx h
 ·rw[decide_eq_false (fun c=>h c.1)];exact Tw h
theorem Ut{n:Int}{w0:World}(h:¬0<=n):bH prog 114 [aa n] w0 (.bool false):=by
 refine enter (n:=9) func114 U U U ?_;intro fr E;have M:=ht (Has.nil w0);refine aV E<|bs 2 U U h<|ah (v:=.bool _) 3 U U<|aU 1 U fun fr E=>?_;refine bi E U U ?_;exact bX M
theorem Uu{n:Int}{w0:World}(h:0<=n):bH prog 114 [aa n] w0 (.bool (decide (n<=1099511627776))):=by
 refine enter (n:=9) func114 U U U ?_;intro fr E;have M:=ht (Has.nil w0);refine aV E<|bD 2 U U h<|ah (v:=.bool _) 2 U U<|ah (v:=.bool _) 0 U U<|aU 1 U fun fr E=>?_;refine bi E U U ?_;exact bX M
theorem lr{n:Int}{r:Bool}{w0:World}(h:decide (0<=n/\n<=1099511627776)=r):bH prog 114 [aa n] w0 (.bool r):=by
 subst h;by_cases h:0<=n
 ·rw[show decide (0<=n/\n<=1099511627776)=decide (n<=1099511627776)from decide_eq_decide.2 ⟨fun c=>c.2,fun c=>⟨h,c⟩⟩];exact Uu h
 ·rw[decide_eq_false (fun c=>h c.1)];exact Ut h
theorem U4{n:Int}{w0:World}(h:¬0<=n):bH prog 115 [aa n] w0 (.bool false):=by
 refine enter (n:=9) func115 U U U ?_;intro fr E;have M:=ht (Has.nil w0);refine aV E<|bs 2 U U h<|ah (v:=.bool _) 3 U U<|aU 1 U fun fr E=>?_;refine bi E U U ?_;exact bX M
theorem U5{n:Int}{w0:World}(h:0<=n):bH prog 115 [aa n] w0 (.bool (decide (n<4096))):=by
 refine enter (n:=9) func115 U U U ?_;intro fr E;have M:=ht (Has.nil w0);refine aV E<|bD 2 U U h<|ah (v:=.bool _) 2 U U<|ah (v:=.bool _) 0 U U<|aU 1 U fun fr E=>?_;refine bi E U U ?_;exact bX M
theorem vP{n:Int}{r:Bool}{w0:World}(h:decide (0<=n/\n<4096)=r):bH prog 115 [aa n] w0 (.bool r):=by
 subst h;by_cases h:0<=n
 ·rw[show decide (0<=n/\n<4096)=decide (n<4096)from decide_eq_decide.2 ⟨fun c=>c.2,fun c=>⟨h,c⟩⟩];exact U5 h
 ·rw[decide_eq_false (fun c=>h c.1)];exact U4 h
theorem A3(k n:Int)(w0:World):aY prog 117 [aa k,aa n] w0 [] (fun s:Value=>s) (fun s=>[.bytes 5 s (dA k n)]) (fun _=>True):=by
 refine enter (n:=10) func117 U U U ?_;intro fr E;have M:=ht (Has.nil w0);refine aV E<|a1 (y:=((UInt8.ofInt k).toNat:Int)) 2 U U ((iH k).symm)<|cv 0 U fun fr E=>?_;refine dM (sz:=1) (xs:=ao [UInt8.ofInt k]) E M U U U U U (ev (us:=[_]) (vs:=[_]) U U U T.aG T.bf T.gO U U U U U) (rfl) (Nat.le_refl _) aN (rfl) fun t fr w M E=>?_;refine cw E<|cP M 1 U (ar U U T.qo) (p3 n (M.reads 0 U:Bytes _ _ [UInt8.ofInt k]) (by simp)) U fun r w _ M=>aU 1 U fun fr E=>?_;refine bi E U U ?_;exact⟨_,U,M.fin (ni (i:=0) U) trivial⟩
theorem Vg{gc:Nat}{kd e n at':Int}{p:Value}{pl:List UInt8}{w0:World}(hp:Bytes w0 p pl)(aj:1<=kd/\kd<=5)(an:¬(0<=e/\e<=1099511627776)):bH prog 104 [ai gc 0,.agg #[aa kd,aa e,aa n,aa at',p]] w0 (.tuple #[.slice none 0 0,aa 7]):=by
 refine enter (n:=56) func104 U U U ?_;intro fr E;have M:=Mem.begin (Φ:=fun w'=>Bytes w' p pl) (Has.nil w0) (fun w' h=>hp.bU h);refine aV E<|bh (ob:=.cells (#[aa kd,aa e,aa n,aa at',p]) 116) (fun g=>ai g 0) M 0 U (cS (cs:=(#[aa kd,aa e,aa n,aa at',p])) U U) fun aZ w M=>ah (v:=aa _) 3 U (aE U U T.bc (M.row (i:=0) U) U)<|bo M 0 U (ar U U T.nA) (nM (decide_eq_true aj)) fun w M=>ah (v:=.bool _) 0 U U<|ah (v:=aa _) 2 U (aE U U T.bc (M.row (i:=0) U) U)<|bo M 0 U (ar U U T.li) (lr (decide_eq_false an)) fun w M=>ah (v:=.bool _) 0 U U<|ah (v:=.bool _) 5 U U<|ah (v:=.bool _) 5 U U<|aU 3 U fun fr E=>?_;refine fN E U U U ?_;exact bX M
theorem Vh{gc:Nat}{kd e n at':Int}{p:Value}{pl:List UInt8}{w0:World}(hp:Bytes w0 p pl)(aj:1<=kd/\kd<=5)(an:(0<=e/\e<=1099511627776))(aB:¬(0<=n/\n<=1099511627776)):bH prog 104 [ai gc 0,.agg #[aa kd,aa e,aa n,aa at',p]] w0 (.tuple #[.slice none 0 0,aa 7]):=by
 refine enter (n:=56) func104 U U U ?_;intro fr E;have M:=Mem.begin (Φ:=fun w'=>Bytes w' p pl) (Has.nil w0) (fun w' h=>hp.bU h);refine aV E<|bh (ob:=.cells (#[aa kd,aa e,aa n,aa at',p]) 116) (fun g=>ai g 0) M 0 U (cS (cs:=(#[aa kd,aa e,aa n,aa at',p])) U U) fun aZ w M=>ah (v:=aa _) 3 U (aE U U T.bc (M.row (i:=0) U) U)<|bo M 0 U (ar U U T.nA) (nM (decide_eq_true aj)) fun w M=>ah (v:=.bool _) 0 U U<|ah (v:=aa _) 2 U (aE U U T.bc (M.row (i:=0) U) U)<|bo M 0 U (ar U U T.li) (lr (decide_eq_true an)) fun w M=>ah (v:=.bool _) 0 U U<|ah (v:=aa _) 2 U (aE U U T.bc (M.row (i:=0) U) U)<|bo M 0 U (ar U U T.li) (lr (decide_eq_false aB)) fun w M=>ah (v:=.bool _) 0 U U<|ah (v:=.bool _) 0 U U<|ah (v:=.bool _) 5 U U<|aU 3 U fun fr E=>?_;refine fN E U U U ?_;exact bX M
theorem Vf{gc:Nat}{kd e n at':Int}{p:Value}{pl:List UInt8}{w0:World}(hp:Bytes w0 p pl)(aj:1<=kd/\kd<=5)(an:(0<=e/\e<=1099511627776))(aB:(0<=n/\n<=1099511627776))(be:¬(0<=at'/\at'<4096)):bH prog 104 [ai gc 0,.agg #[aa kd,aa e,aa n,aa at',p]] w0 (.tuple #[.slice none 0 0,aa 7]):=by
 refine enter (n:=56) func104 U U U ?_;intro fr E;have M:=Mem.begin (Φ:=fun w'=>Bytes w' p pl) (Has.nil w0) (fun w' h=>hp.bU h);refine aV E<|bh (ob:=.cells (#[aa kd,aa e,aa n,aa at',p]) 116) (fun g=>ai g 0) M 0 U (cS (cs:=(#[aa kd,aa e,aa n,aa at',p])) U U) fun aZ w M=>ah (v:=aa _) 3 U (aE U U T.bc (M.row (i:=0) U) U)<|bo M 0 U (ar U U T.nA) (nM (decide_eq_true aj)) fun w M=>ah (v:=.bool _) 0 U U<|ah (v:=aa _) 2 U (aE U U T.bc (M.row (i:=0) U) U)<|bo M 0 U (ar U U T.li) (lr (decide_eq_true an)) fun w M=>ah (v:=.bool _) 0 U U<|ah (v:=aa _) 2 U (aE U U T.bc (M.row (i:=0) U) U)<|bo M 0 U (ar U U T.li) (lr (decide_eq_true aB)) fun w M=>ah (v:=.bool _) 0 U U<|ah (v:=.bool _) 0 U U<|ah (v:=aa _) 2 U (aE U U T.bc (M.row (i:=0) U) U)<|bo M 0 U (ar U U T.uR) (vP (decide_eq_false be)) fun w M=>ah (v:=.bool _) 0 U U<|ah (v:=.bool _) 0 U U<|aU 3 U fun fr E=>?_;refine fN E U U U ?_;exact bX M
theorem Vi{gc:Nat}{X:fB}{key:List UInt8}{w0:World}(ad:(bI gc X key).ok w0)(ab:w0.heap[1]? =some (.cells (a7 bt).toArray 243)){kd e n at':Int}{p:Value}{pl:List UInt8}(hp:Bytes w0 p pl)(aj:1<=kd/\kd<=5)(an:(0<=e/\e<=1099511627776))(aB:(0<=n/\n<=1099511627776))(be:(0<=at'/\at'<4096))(bZ:¬975<pl.length):aY prog 104 [ai gc 0,.agg #[aa kd,aa e,aa n,aa at',p]] w0 [] (fun v:Value=>.tuple #[v,aa 0]) (fun v=>[az.bytes 5 v (iK key kd e n at' pl)]) (fun _=>True):=by
 refine enter (n:=56) func104 U U U ?_;intro fr E;have M:=Mem.begin (Φ:=fun w'=>(bI gc X key).ok w'/\w'.heap[1]? =some (.cells (a7 bt).toArray 243)/\Bytes w' p pl) (Has.nil w0) (fun w' h=>⟨s5 ad h,fc ab h,hp.bU h⟩);refine aV E<|bh (ob:=.cells (#[aa kd,aa e,aa n,aa at',p]) 116) (fun g=>ai g 0) M 0 U (cS (cs:=(#[aa kd,aa e,aa n,aa at',p])) U U) fun aZ w M=>ah (v:=aa _) 3 U (aE U U T.bc (M.row (i:=0) U) U)<|bo M 0 U (ar U U T.nA) (nM (decide_eq_true aj)) fun w M=>ah (v:=.bool _) 0 U U<|ah (v:=aa _) 2 U (aE U U T.bc (M.row (i:=0) U) U)<|bo M 0 U (ar U U T.li) (lr (decide_eq_true an)) fun w M=>ah (v:=.bool _) 0 U U<|ah (v:=aa _) 2 U (aE U U T.bc (M.row (i:=0) U) U)<|bo M 0 U (ar U U T.li) (lr (decide_eq_true aB)) fun w M=>ah (v:=.bool _) 0 U U<|ah (v:=.bool _) 0 U U<|ah (v:=aa _) 2 U (aE U U T.bc (M.row (i:=0) U) U)<|bo M 0 U (ar U U T.uR) (vP (decide_eq_true be)) fun w M=>ah (v:=.bool _) 0 U U<|ah (v:=.bool _) 0 U U<|ah 2 U (aE U U T.ec (M.row (i:=0) U) U)<|ah 0 U (bx U U U U T.aG M.fact.2.2)<|bs 0 U U ae<|bw 1 U fun fr E=>?_;refine(dR (B:=T.Jx) (Vs:=(.af (ai _ 0):: .af (aa _):: .af (.int _ (((UInt8.ofInt kd).toNat:Int)))::(.rel fun w v=>Bytes w v [UInt8.ofInt kd]/\∀g,v.ownBlock=some g->0<=g):: .af (ai _ 1):: .af (aa _)::cV w.heap.size (fun v=>[az.bytes 5 v ([UInt8.ofInt kd]++aO e)]) (fun _=>True):: .af (ai _ 2):: .af (aa _)::cV w.heap.size (fun v=>[az.bytes 5 v ([UInt8.ofInt kd]++aO e++aO n)]) (fun _=>True)::cV w.heap.size (fun v=>[az.bytes 5 v ([UInt8.ofInt kd]++aO e++aO n)]) (fun _=>True)::[])) T.XF E T.mixed T.XE U (fH.dF ⟨ay,ay,ay,(fun w w' v ad h=>⟨Reads.ext h.1 ad,h.2⟩),ay,ay,cn.df,ay,ay,cn.df,cn.df,ay⟩) ⟨aw U U,
   aC U U (fun x w ad ab=>aE U U T.bc ((M.aQ ad).row (i:=0) U) U),
   aC U U (fun x w ad ab=>num U ((iH kd).symm)),
   h3 U U (fun x w ad ab=>⟨U,U,U,zS (Nat.zero_le _) U U T.aG T.bf T.gO U⟩),
   aw U U,
   aC U U (fun x w ad ab=>aE U U T.bc ((M.aQ ad).row (i:=0) U) U),
   cE U U (fun x w ad ab=>⟨_,_,U,U,U,ar U U T.qo,(p3 e (ab 3 U).1 (by simp)).eN ad.size⟩),
   aw U U,
   aC U U (fun x w ad ab=>aE U U T.bc ((M.aQ ad).row (i:=0) U) U),
   cE U U (fun x w ad ab=>⟨_,_,U,U,U,ar U U T.qo,(p3 n ((ab 6 U).1.reads 0 U) (by simp[aO])).eN ad.size⟩),
   jd U U (fun x w ad ab=>⟨_,_,U,U,U,run_assign U U,bd.refl _,ab 9 U⟩),ay⟩ ?_)
 intro x fr w ad ab E;have M:=M.jb ad (ab 10 aN).1 (ab 10 aN).2.1;obtain⟨ie,qE⟩:∃ie,ie=x 10:=⟨_,rfl⟩
 have E:=Env.gD (t:=6) (v:=ie) E rfl qE.symm;rw[<-qE]at M;have M:Mem _ _ ([az.bytes 5 ie ([UInt8.ofInt kd]++aO e++aO n)]++_) _ _:=M;refine cm E<|bw 0 U fun fr E=>?_;refine(iQ (B:=T.Jy) (Vs:=(.af _:: .af _:: .af (ai _ 1):: .af (aa _):: .af (ai _ 2):: .af (aa _):: .af (ai _ 0):: .af (aa _):: .af (ai _ 3):: .af (aa _)::cV w.heap.size (fun v=>[az.bytes 5 v (dA kd at')]) (fun _=>True):: .af (ai _ 4):: .af _::cV w.heap.size (fun v=>[az.bytes 5 v (hB key e n (dA kd at') pl)]) (fun _=>True)::cL w.heap.size ([az.bytes 5 ie ([UInt8.ofInt kd]++aO e++aO n)]) (fun v:Value=>v) (fun bR:Value=>[az.row 5 1 bR (([UInt8.ofInt kd]++aO e++aO n).length+(hB key e n (dA kd at') pl).length) (ao ([UInt8.ofInt kd]++aO e++aO n)++ao (hB key e n (dA kd at') pl))]) (fun _=>True)::cL w.heap.size ([az.bytes 5 ie ([UInt8.ofInt kd]++aO e++aO n)]) (fun v:Value=>v) ((fun bR:Value=>[az.row 5 1 bR (([UInt8.ofInt kd]++aO e++aO n).length+(hB key e n (dA kd at') pl).length) (ao ([UInt8.ofInt kd]++aO e++aO n)++ao (hB key e n (dA kd at') pl))])) (fun _=>True):: .af _::[])) (fs (ga 14 ([az.bytes 5 ie ([UInt8.ofInt kd]++aO e++aO n)])) w.drew) T.XH E T.mixed T.XG U ?_ ⟨b5 U U M (fun i g h=>h.2),
   b5 U U M (fun i g h=>h.2),
   b5 U U M (fun i g h=>h.2),
   bY U U M (fun i g h=>h.2) (fun x w' aA aL ab=>aE U U T.bc (aA.row (i:=0) U) U),
   b5 U U M (fun i g h=>h.2),
   bY U U M (fun i g h=>h.2) (fun x w' aA aL ab=>aE U U T.bc (aA.row (i:=0) U) U),
   b5 U U M (fun i g h=>h.2),
   bY U U M (fun i g h=>h.2) (fun x w' aA aL ab=>aE U U T.bc (aA.row (i:=0) U) U),
   b5 U U M (fun i g h=>h.2),
   bY U U M (fun i g h=>h.2) (fun x w' aA aL ab=>aE U U T.bc (aA.row (i:=0) U) U),
   nC U U M (fun i g h=>h.2) (fun x w' aA aL ab=>⟨_,_,U,U,U,ar U U T.Aq,(A3 kd at' _).eN aL⟩),
   b5 U U M (fun i g h=>h.2),
   bY U U M (fun i g h=>h.2) (fun x w' aA aL ab=>aE U U T.ec (aA.row (i:=0) U) U),
   nC U U M (fun i g h=>h.2) (fun x w' aA aL ab=>⟨_,_,U,U,U,ar U U T.QC,(PI (e:=e) (n:=n) aA.fact.1 aA.fact.2.1 ((ab 10 U).1.reads 0 U) aA.fact.2.2 (by simp[dA,aO]) ae).eN aL⟩),
   m0 (y:=undef) U U M U U U T.aG T.aG T.eh T.ef aN (c0 _) (by have:=I3 key e n (dA kd at') pl;simp[aO];omega) (fun x w' ab=>⟨U,U,U,U,_,U,(ab 13 U).1.reads 0 U⟩),
   lZ (j:=14) U U U U (fun x w y bn=>⟨U,U,U,ku U bn⟩),
   b5 U U M (fun i g h=>h.2),ay⟩ ?_)
 ·exact hJ U ((aK (aK (aK (aK (aK (aK (aK (aK (aK (aK (jq (cJ.df (fun g h=>M.gA g h)) (aK (aK (jq (cJ.df (fun g h=>M.gA g h)) (fK U cJ.fJ (fK U cJ.fJ (aK hH))))))))))))))))))
 intro x fr w ⟨b,ak,cX⟩ ab E;obtain⟨r,bn, -,M⟩:=M.behind (val:=fun v:Value=>v) (outs:=(fun bR:Value=>[az.row 5 1 bR (([UInt8.ofInt kd]++aO e++aO n).length+(hB key e n (dA kd at') pl).length) (ao ([UInt8.ofInt kd]++aO e++aO n)++ao (hB key e n (dA kd at') pl))])) (p:=fun _=>True) cX (ab 15 aN);have E:=Env.gD (t:=4) E rfl bn;refine cm E<|aU 0 U fun fr E=>?_;refine fN E U U U ?_;have M:=M.as (L':=.bytes 5 r (iK key kd e n at' pl)::_) (congrArg (fun q=>q::_) yF);exact⟨r,U,M.fin (.cons_cons _ (List.nil_sublist _)) trivial⟩
theorem Vj{gc:Nat}{kd e n at':Int}{p:Value}{pl:List UInt8}{w0:World}(hp:Bytes w0 p pl)(aj:1<=kd/\kd<=5)(an:¬gZ e n at'):bH prog 104 [ai gc 0,.agg #[aa kd,aa e,aa n,aa at',p]] w0 (.tuple #[.slice none 0 0,aa 7]):=by
 by_cases a:(0<=e/\e<=1099511627776)
 ·by_cases b:(0<=n/\n<=1099511627776)
  ·by_cases c:(0<=at'/\at'<4096)
   ·exact absurd ⟨⟨a.1,b.1,c.1⟩,⟨a.2,b.2⟩,c.2⟩ an
   ·exact Vf hp aj a b c
  ·exact Vh hp aj a b
 ·exact Vg hp aj a
theorem RO{gc:Nat}{kd at':Int}{b:Value}{l:List UInt8}{w0:World}(ak:Bytes w0 b l)(aj:l.length<17):bH prog 60 [ai gc 0,aa kd,aa at',b] w0 (.tuple #[.agg #[aa 0,aa 0,aa 0,aa 0,.slice none 0 0],aa 2]):=by
 refine enter (n:=77) func60 U U U ?_;intro fr E;have M:=Mem.begin (Φ:=fun w'=>Bytes w' b l) (Has.nil w0) (fun w' h=>ak.bU h);refine aV E<|bh (ob:=.cells #[_,_,_,_,_] 116) (fun g=>ai g 0) M 0 U (bT U T.fG) fun aZ w M=>ah 2 U (bx U U U U T.aG M.fact)<|bD 0 U U ae<|ah (v:=.agg ([aa 0,aa 0,aa 0,aa 0,.slice none 0 0]).toArray) 1 U (dl (vs:=[]) (us:=[aa 0,aa 0,aa 0,aa 0,.slice none 0 0]) U U T.g5 T.g6 U U U U)<|bj (i:=0) (cs':= #[_,_,_,_,_]) M 0 U U (dr (vs:= #[_,_,_,_,_]) U U U T.fE U (M.row (i:=0) U) U U U) U fun w M=>aU 1 U fun fr E=>?_;refine fW E U U U T.ib (M.row (i:=0) U) (rfl) ?_;exact bX M
theorem RK{gc:Nat}{kd at':Int}{b:Value}{l:List UInt8}{w0:World}(ak:Bytes w0 b l)(aj:¬l.length<17)(an:1024<l.length):bH prog 60 [ai gc 0,aa kd,aa at',b] w0 (.tuple #[.agg #[aa 0,aa 0,aa 0,aa 0,.slice none 0 0],aa 3]):=by
 refine enter (n:=77) func60 U U U ?_;intro fr E;have M:=Mem.begin (Φ:=fun w'=>Bytes w' b l) (Has.nil w0) (fun w' h=>ak.bU h);refine aV E<|bh (ob:=.cells #[_,_,_,_,_] 116) (fun g=>ai g 0) M 0 U (bT U T.fG) fun aZ w M=>ah 2 U (bx U U U U T.aG M.fact)<|bs 0 U U ae<|ah 2 U (bx U U U U T.aG M.fact)<|bD 0 U U ae<|ah (v:=.agg ([aa 0,aa 0,aa 0,aa 0,.slice none 0 0]).toArray) 1 U (dl (vs:=[]) (us:=[aa 0,aa 0,aa 0,aa 0,.slice none 0 0]) U U T.g5 T.g6 U U U U)<|bj (i:=0) (cs':= #[_,_,_,_,_]) M 0 U U (dr (vs:= #[_,_,_,_,_]) U U U T.fE U (M.row (i:=0) U) U U U) U fun w M=>aU 1 U fun fr E=>?_;refine fW E U U U T.ib (M.row (i:=0) U) (rfl) ?_;exact bX M
theorem RJ{gc:Nat}{kd at':Int}{b:Value}{l:List UInt8}{w0:World}(ak:Bytes w0 b l)(aj:¬l.length<17)(an:¬1024<l.length)(aB:¬(1<=kd/\kd<=5)):bH prog 60 [ai gc 0,aa kd,aa at',b] w0 (.tuple #[.agg #[aa 0,aa 0,aa 0,aa 0,.slice none 0 0],aa 5]):=by
 refine enter (n:=77) func60 U U U ?_;intro fr E;have M:=Mem.begin (Φ:=fun w'=>Bytes w' b l) (Has.nil w0) (fun w' h=>ak.bU h);refine aV E<|bh (ob:=.cells #[_,_,_,_,_] 116) (fun g=>ai g 0) M 0 U (bT U T.fG) fun aZ w M=>ah 2 U (bx U U U U T.aG M.fact)<|bs 0 U U ae<|ah 2 U (bx U U U U T.aG M.fact)<|bs 0 U U ae<|bo M 2 U (ar U U T.nA) (nM (decide_eq_false aB)) fun w M=>ah (v:=.bool _) 0 U U<|ah (v:=.bool _) 7 U U<|ah (v:=.agg ([aa 0,aa 0,aa 0,aa 0,.slice none 0 0]).toArray) 1 U (dl (vs:=[]) (us:=[aa 0,aa 0,aa 0,aa 0,.slice none 0 0]) U U T.g5 T.g6 U U U U)<|bj (i:=0) (cs':= #[_,_,_,_,_]) M 0 U U (dr (vs:= #[_,_,_,_,_]) U U U T.fE U (M.row (i:=0) U) U U U) U fun w M=>aU 1 U fun fr E=>?_;refine fW E U U U T.ib (M.row (i:=0) U) (rfl) ?_;exact bX M
theorem RI{gc:Nat}{kd at':Int}{b:Value}{l:List UInt8}{w0:World}(ak:Bytes w0 b l)(aj:¬l.length<17)(an:¬1024<l.length)(aB:1<=kd/\kd<=5)(be:¬((l[0]'ae).toNat:Int)=kd):bH prog 60 [ai gc 0,aa kd,aa at',b] w0 (.tuple #[.agg #[aa 0,aa 0,aa 0,aa 0,.slice none 0 0],aa 5]):=by
 refine enter (n:=77) func60 U U U ?_;intro fr E;have M:=Mem.begin (Φ:=fun w'=>Bytes w' b l) (Has.nil w0) (fun w' h=>ak.bU h);refine aV E<|bh (ob:=.cells #[_,_,_,_,_] 116) (fun g=>ai g 0) M 0 U (bT U T.fG) fun aZ w M=>ah 2 U (bx U U U U T.aG M.fact)<|bs 0 U U ae<|ah 2 U (bx U U U U T.aG M.fact)<|bs 0 U U ae<|bo M 2 U (ar U U T.nA) (nM (decide_eq_true aB)) fun w M=>ah (v:=.bool _) 0 U U<|ah 2 U (bL (i:=0) U M.fact U U (rfl) ae T.aG T.bf)<|ah (v:=ag ((l[0]'ae).toNat:Int)) 0 U (b2 U M.fact U T.cq (by rw[Nat.mul_one];exact gx ae))<|a1 (y:=((l[0]'ae).toNat:Int)) 0 U U (br ae (by have:=(l[0]'ae).toNat_lt;omega))<|ei 1 U U (by simp;exact be)<|ah (v:=.bool _) 0 U U<|ah (v:=.agg ([aa 0,aa 0,aa 0,aa 0,.slice none 0 0]).toArray) 1 U (dl (vs:=[]) (us:=[aa 0,aa 0,aa 0,aa 0,.slice none 0 0]) U U T.g5 T.g6 U U U U)<|bj (i:=0) (cs':= #[_,_,_,_,_]) M 0 U U (dr (vs:= #[_,_,_,_,_]) U U U T.fE U (M.row (i:=0) U) U U U) U fun w M=>aU 1 U fun fr E=>?_;refine fW E U U U T.ib (M.row (i:=0) U) (rfl) ?_;exact bX M
theorem RG{gc:Nat}{kd at':Int}{b:Value}{l:List UInt8}{w0:World}(ak:Bytes w0 b l)(aj:¬l.length<17)(an:¬1024<l.length)(aB:1<=kd/\kd<=5)(be:((l[0]'ae).toNat:Int)=kd)(bZ:¬(0<=ey l/\ey l<=1099511627776)):bH prog 60 [ai gc 0,aa kd,aa at',b] w0 (.tuple #[.agg #[aa 0,aa 0,aa 0,aa 0,.slice none 0 0],aa 7]):=by
 refine enter (n:=77) func60 U U U ?_;intro fr E;have M:=Mem.begin (Φ:=fun w'=>Bytes w' b l) (Has.nil w0) (fun w' h=>ak.bU h);refine aV E<|bh (ob:=.cells #[_,_,_,_,_] 116) (fun g=>ai g 0) M 0 U (bT U T.fG) fun aZ w M=>ah 2 U (bx U U U U T.aG M.fact)<|bs 0 U U ae<|ah 2 U (bx U U U U T.aG M.fact)<|bs 0 U U ae<|bo M 2 U (ar U U T.nA) (nM (decide_eq_true aB)) fun w M=>ah (v:=.bool _) 0 U U<|ah 2 U (bL (i:=0) U M.fact U U (rfl) ae T.aG T.bf)<|ah (v:=ag ((l[0]'ae).toNat:Int)) 0 U (b2 U M.fact U T.cq (by rw[Nat.mul_one];exact gx ae))<|a1 (y:=((l[0]'ae).toNat:Int)) 0 U U (br ae (by have:=(l[0]'ae).toNat_lt;omega))<|ch 1 U U (by simp;exact be)<|ah (v:=.bool _) 0 U U<|ah 2 U (ew (lo:=1) (hi:=17) U M.fact U T.aG T.bf (⟨_,_,rfl,rfl⟩) (⟨_,_,rfl,rfl⟩) aN ae)<|cP M 0 U (ar U U T.qn) (p5 (Bytes.cut 1 17 M.fact aN ae) (by simp;omega)) U fun⟨g,aq⟩ w _ M=>bC (b8 g aq ((l.drop 1).take (17-1)) (b9 ((l.drop 1).take (17-1)) 0).1 (b9 ((l.drop 1).take (17-1)) 0).2) M 2 U (ar U U T.ha) U (fun H=>hn 0 H (oS l)) fun _ w _ M=>bC (b8 g aq ((l.drop 1).take (17-1)) (b9 ((l.drop 1).take (17-1)) 1).1 (b9 ((l.drop 1).take (17-1)) 1).2) M 2 U (ar U U T.ha) U (fun H=>hn 1 H (oS l)) fun _ w _ M=>bo M 2 U (ar U U T.li) (lr (decide_eq_false bZ)) fun w M=>ah (v:=.bool _) 0 U U<|ah (v:=.bool _) 4 U U<|ah (v:=.bool _) 4 U U<|ah (v:=.agg ([aa 0,aa 0,aa 0,aa 0,.slice none 0 0]).toArray) 1 U (dl (vs:=[]) (us:=[aa 0,aa 0,aa 0,aa 0,.slice none 0 0]) U U T.g5 T.g6 U U U U)<|bj (i:=2) (cs':= #[_,_,_,_,_]) M 0 U U (dr (vs:= #[_,_,_,_,_]) U U U T.fE U (M.row (i:=2) U) U U U) U fun w M=>aU 1 U fun fr E=>?_;refine fW E U U U T.ib (M.row (i:=2) U) (rfl) ?_;exact bX M
theorem RL{gc:Nat}{kd at':Int}{b:Value}{l:List UInt8}{w0:World}(ak:Bytes w0 b l)(aj:¬l.length<17)(an:¬1024<l.length)(aB:1<=kd/\kd<=5)(be:((l[0]'ae).toNat:Int)=kd)(bZ:(0<=ey l/\ey l<=1099511627776))(dZ:¬(0<=eJ l/\eJ l<=1099511627776)):bH prog 60 [ai gc 0,aa kd,aa at',b] w0 (.tuple #[.agg #[aa 0,aa 0,aa 0,aa 0,.slice none 0 0],aa 7]):=by
 refine enter (n:=77) func60 U U U ?_;intro fr E;have M:=Mem.begin (Φ:=fun w'=>Bytes w' b l) (Has.nil w0) (fun w' h=>ak.bU h);refine aV E<|bh (ob:=.cells #[_,_,_,_,_] 116) (fun g=>ai g 0) M 0 U (bT U T.fG) fun aZ w M=>ah 2 U (bx U U U U T.aG M.fact)<|bs 0 U U ae<|ah 2 U (bx U U U U T.aG M.fact)<|bs 0 U U ae<|bo M 2 U (ar U U T.nA) (nM (decide_eq_true aB)) fun w M=>ah (v:=.bool _) 0 U U<|ah 2 U (bL (i:=0) U M.fact U U (rfl) ae T.aG T.bf)<|ah (v:=ag ((l[0]'ae).toNat:Int)) 0 U (b2 U M.fact U T.cq (by rw[Nat.mul_one];exact gx ae))<|a1 (y:=((l[0]'ae).toNat:Int)) 0 U U (br ae (by have:=(l[0]'ae).toNat_lt;omega))<|ch 1 U U (by simp;exact be)<|ah (v:=.bool _) 0 U U<|ah 2 U (ew (lo:=1) (hi:=17) U M.fact U T.aG T.bf (⟨_,_,rfl,rfl⟩) (⟨_,_,rfl,rfl⟩) aN ae)<|cP M 0 U (ar U U T.qn) (p5 (Bytes.cut 1 17 M.fact aN ae) (by simp;omega)) U fun⟨g,aq⟩ w _ M=>bC (b8 g aq ((l.drop 1).take (17-1)) (b9 ((l.drop 1).take (17-1)) 0).1 (b9 ((l.drop 1).take (17-1)) 0).2) M 2 U (ar U U T.ha) U (fun H=>hn 0 H (oS l)) fun _ w _ M=>bC (b8 g aq ((l.drop 1).take (17-1)) (b9 ((l.drop 1).take (17-1)) 1).1 (b9 ((l.drop 1).take (17-1)) 1).2) M 2 U (ar U U T.ha) U (fun H=>hn 1 H (oS l)) fun _ w _ M=>bo M 2 U (ar U U T.li) (lr (decide_eq_true bZ)) fun w M=>ah (v:=.bool _) 0 U U<|bo M 2 U (ar U U T.li) (lr (decide_eq_false dZ)) fun w M=>ah (v:=.bool _) 0 U U<|ah (v:=.bool _) 0 U U<|ah (v:=.bool _) 4 U U<|ah (v:=.agg ([aa 0,aa 0,aa 0,aa 0,.slice none 0 0]).toArray) 1 U (dl (vs:=[]) (us:=[aa 0,aa 0,aa 0,aa 0,.slice none 0 0]) U U T.g5 T.g6 U U U U)<|bj (i:=2) (cs':= #[_,_,_,_,_]) M 0 U U (dr (vs:= #[_,_,_,_,_]) U U U T.fE U (M.row (i:=2) U) U U U) U fun w M=>aU 1 U fun fr E=>?_;refine fW E U U U T.ib (M.row (i:=2) U) (rfl) ?_;exact bX M
theorem RF{gc:Nat}{kd at':Int}{b:Value}{l:List UInt8}{w0:World}(ak:Bytes w0 b l)(aj:¬l.length<17)(an:¬1024<l.length)(aB:1<=kd/\kd<=5)(be:((l[0]'ae).toNat:Int)=kd)(bZ:(0<=ey l/\ey l<=1099511627776))(dZ:(0<=eJ l/\eJ l<=1099511627776))(jO:¬(0<=at'/\at'<4096)):bH prog 60 [ai gc 0,aa kd,aa at',b] w0 (.tuple #[.agg #[aa 0,aa 0,aa 0,aa 0,.slice none 0 0],aa 7]):=by
 refine enter (n:=77) func60 U U U ?_;intro fr E;have M:=Mem.begin (Φ:=fun w'=>Bytes w' b l) (Has.nil w0) (fun w' h=>ak.bU h);refine aV E<|bh (ob:=.cells #[_,_,_,_,_] 116) (fun g=>ai g 0) M 0 U (bT U T.fG) fun aZ w M=>ah 2 U (bx U U U U T.aG M.fact)<|bs 0 U U ae<|ah 2 U (bx U U U U T.aG M.fact)<|bs 0 U U ae<|bo M 2 U (ar U U T.nA) (nM (decide_eq_true aB)) fun w M=>ah (v:=.bool _) 0 U U<|ah 2 U (bL (i:=0) U M.fact U U (rfl) ae T.aG T.bf)<|ah (v:=ag ((l[0]'ae).toNat:Int)) 0 U (b2 U M.fact U T.cq (by rw[Nat.mul_one];exact gx ae))<|a1 (y:=((l[0]'ae).toNat:Int)) 0 U U (br ae (by have:=(l[0]'ae).toNat_lt;omega))<|ch 1 U U (by simp;exact be)<|ah (v:=.bool _) 0 U U<|ah 2 U (ew (lo:=1) (hi:=17) U M.fact U T.aG T.bf (⟨_,_,rfl,rfl⟩) (⟨_,_,rfl,rfl⟩) aN ae)<|cP M 0 U (ar U U T.qn) (p5 (Bytes.cut 1 17 M.fact aN ae) (by simp;omega)) U fun⟨g,aq⟩ w _ M=>bC (b8 g aq ((l.drop 1).take (17-1)) (b9 ((l.drop 1).take (17-1)) 0).1 (b9 ((l.drop 1).take (17-1)) 0).2) M 2 U (ar U U T.ha) U (fun H=>hn 0 H (oS l)) fun _ w _ M=>bC (b8 g aq ((l.drop 1).take (17-1)) (b9 ((l.drop 1).take (17-1)) 1).1 (b9 ((l.drop 1).take (17-1)) 1).2) M 2 U (ar U U T.ha) U (fun H=>hn 1 H (oS l)) fun _ w _ M=>bo M 2 U (ar U U T.li) (lr (decide_eq_true bZ)) fun w M=>ah (v:=.bool _) 0 U U<|bo M 2 U (ar U U T.li) (lr (decide_eq_true dZ)) fun w M=>ah (v:=.bool _) 0 U U<|ah (v:=.bool _) 0 U U<|bo M 2 U (ar U U T.uR) (vP (decide_eq_false jO)) fun w M=>ah (v:=.bool _) 0 U U<|ah (v:=.bool _) 0 U U<|ah (v:=.agg ([aa 0,aa 0,aa 0,aa 0,.slice none 0 0]).toArray) 1 U (dl (vs:=[]) (us:=[aa 0,aa 0,aa 0,aa 0,.slice none 0 0]) U U T.g5 T.g6 U U U U)<|bj (i:=2) (cs':= #[_,_,_,_,_]) M 0 U U (dr (vs:= #[_,_,_,_,_]) U U U T.fE U (M.row (i:=2) U) U U U) U fun w M=>aU 1 U fun fr E=>?_;refine fW E U U U T.ib (M.row (i:=2) U) (rfl) ?_;exact bX M
theorem RN{gc:Nat}{X:fB}{key:List UInt8}{w0:World}(ad:(bI gc X key).ok w0)(ab:w0.heap[1]? =some (.cells (a7 bt).toArray 243)){kd at':Int}{b:Value}{l:List UInt8}(ak:Bytes w0 b l)(aj:¬l.length<17)(an:¬1024<l.length)(aB:1<=kd/\kd<=5)(be:((l[0]'ae).toNat:Int)=kd)(bZ:(0<=ey l/\ey l<=1099511627776))(dZ:(0<=eJ l/\eJ l<=1099511627776))(jO:(0<=at'/\at'<4096))(aF:kr key (ey l) (eJ l) (dA kd at') (l.drop 17)=none):bH prog 60 [ai gc 0,aa kd,aa at',b] w0 (.tuple #[.agg #[aa 0,aa 0,aa 0,aa 0,.slice none 0 0],aa 19]):=by
 refine enter (n:=77) func60 U U U ?_;intro fr E;have M:=Mem.begin (Φ:=fun w'=>(bI gc X key).ok w'/\w'.heap[1]? =some (.cells (a7 bt).toArray 243)/\Bytes w' b l) (Has.nil w0) (fun w' h=>⟨s5 ad h,fc ab h,ak.bU h⟩);refine aV E<|bh (ob:=.cells #[_,_,_,_,_] 116) (fun g=>ai g 0) M 0 U (bT U T.fG) fun aZ w M=>ah 2 U (bx U U U U T.aG M.fact.2.2)<|bs 0 U U ae<|ah 2 U (bx U U U U T.aG M.fact.2.2)<|bs 0 U U ae<|bo M 2 U (ar U U T.nA) (nM (decide_eq_true aB)) fun w M=>ah (v:=.bool _) 0 U U<|ah 2 U (bL (i:=0) U M.fact.2.2 U U (rfl) ae T.aG T.bf)<|ah (v:=ag ((l[0]'ae).toNat:Int)) 0 U (b2 U M.fact.2.2 U T.cq (by rw[Nat.mul_one];exact gx ae))<|a1 (y:=((l[0]'ae).toNat:Int)) 0 U U (br ae (by have:=(l[0]'ae).toNat_lt;omega))<|ch 1 U U (by simp;exact be)<|ah (v:=.bool _) 0 U U<|ah 2 U (ew (lo:=1) (hi:=17) U M.fact.2.2 U T.aG T.bf (⟨_,_,rfl,rfl⟩) (⟨_,_,rfl,rfl⟩) aN ae)<|cP M 0 U (ar U U T.qn) (p5 (Bytes.cut 1 17 M.fact.2.2 aN ae) (by simp;omega)) U fun⟨g,aq⟩ w _ M=>bC (b8 g aq ((l.drop 1).take (17-1)) (b9 ((l.drop 1).take (17-1)) 0).1 (b9 ((l.drop 1).take (17-1)) 0).2) M 2 U (ar U U T.ha) U (fun H=>hn 0 H (oS l)) fun _ w _ M=>bC (b8 g aq ((l.drop 1).take (17-1)) (b9 ((l.drop 1).take (17-1)) 1).1 (b9 ((l.drop 1).take (17-1)) 1).2) M 2 U (ar U U T.ha) U (fun H=>hn 1 H (oS l)) fun _ w _ M=>bo M 2 U (ar U U T.li) (lr (decide_eq_true bZ)) fun w M=>ah (v:=.bool _) 0 U U<|bo M 2 U (ar U U T.li) (lr (decide_eq_true dZ)) fun w M=>ah (v:=.bool _) 0 U U<|ah (v:=.bool _) 0 U U<|bo M 2 U (ar U U T.uR) (vP (decide_eq_true jO)) fun w M=>ah (v:=.bool _) 0 U U<|ah (v:=.bool _) 0 U U<|bw 1 U fun fr E=>?_;refine(dR (B:=T.C3) (Vs:=(.af _:: .af _:: .af _:: .af _:: .af _::cV w.heap.size (fun v=>[az.bytes 5 v (dA kd at')]) (fun _=>True):: .af _:: .af _:: .af (.tuple #[.slice none 0 0,.bool false]):: .af _:: .af (.slice none 0 0):: .af (.bool false):: .af (.slice none 0 0):: .af (.bool false)::[])) T.KL E T.mixed T.KK U (fH.dF ⟨ay,ay,ay,ay,ay,cn.df,ay,ay,ay,ay,ay,ay,ay,ay,ay⟩) ⟨aw U U,
   aw U U,
   aw U U,
   aw U U,
   aw U U,
   cE U U (fun x w ad ab=>⟨_,_,U,U,U,ar U U T.Aq,(A3 kd at' _).eN ad.size⟩),
   aw U U,
   aC U U (fun x w ad ab=>ew (lo:=17) (hi:=l.length) U (M.aQ ad).fact.2.2 U T.aG T.bf (⟨_,_,U,U⟩) (rfl) ae (Nat.le_refl _)),
   cE U U (fun x w ad ab=>⟨_,_,U,U,U,ar U U T.Fy,(PG (e:=ey l) (n:=eJ l) (M.aQ ad).fact.1 (M.aQ ad).fact.2.1 ((ab 5 U).1.reads 0 U) (Bytes.oT (k:=17) (M.aQ ad).fact.2.2 ae) (by simp[dA,aO]) (by simp;omega) aF).ext⟩),
   aw U U,
   aw U U,
   aw U U,
   aw U U,
   aw U U,ay⟩ ?_)
 intro x fr w ad ab E;have M:=M.ext ad;refine cm E<|ah (v:=.bool _) 1 U U<|ah (v:=.agg ([aa 0,aa 0,aa 0,aa 0,.slice none 0 0]).toArray) 1 U (dl (vs:=[]) (us:=[aa 0,aa 0,aa 0,aa 0,.slice none 0 0]) U U T.g5 T.g6 U U U U)<|bj (i:=2) (cs':= #[_,_,_,_,_]) M 0 U U (dr (vs:= #[_,_,_,_,_]) U U U T.fE U (M.row (i:=2) U) U U U) U fun w M=>aU 1 U fun fr E=>?_;refine fW E U U U T.ib (M.row (i:=2) U) (rfl) ?_;exact bX M
theorem RM{gc:Nat}{X:fB}{key:List UInt8}{w0:World}(ad:(bI gc X key).ok w0)(ab:w0.heap[1]? =some (.cells (a7 bt).toArray 243)){kd at':Int}{b:Value}{l:List UInt8}(ak:Bytes w0 b l)(aj:¬l.length<17)(an:¬1024<l.length)(aB:1<=kd/\kd<=5)(be:((l[0]'ae).toNat:Int)=kd){q:List UInt8}(bZ:(0<=ey l/\ey l<=1099511627776))(dZ:(0<=eJ l/\eJ l<=1099511627776))(jO:(0<=at'/\at'<4096))(aF:kr key (ey l) (eJ l) (dA kd at') (l.drop 17)=some q):aY prog 60 [ai gc 0,aa kd,aa at',b] w0 [] (fun c:Value=>.tuple #[.agg #[aa kd,aa (ey l),aa (eJ l),aa at',c],aa 0]) (fun c=>[.bytes 5 c q]) (fun _=>True):=by
 refine enter (n:=77) func60 U U U ?_;intro fr E;have M:=Mem.begin (Φ:=fun w'=>(bI gc X key).ok w'/\w'.heap[1]? =some (.cells (a7 bt).toArray 243)/\Bytes w' b l) (Has.nil w0) (fun w' h=>⟨s5 ad h,fc ab h,ak.bU h⟩);refine aV E<|bh (ob:=.cells #[_,_,_,_,_] 116) (fun g=>ai g 0) M 0 U (bT U T.fG) fun aZ w M=>ah 2 U (bx U U U U T.aG M.fact.2.2)<|bs 0 U U ae<|ah 2 U (bx U U U U T.aG M.fact.2.2)<|bs 0 U U ae<|bo M 2 U (ar U U T.nA) (nM (decide_eq_true aB)) fun w M=>ah (v:=.bool _) 0 U U<|ah 2 U (bL (i:=0) U M.fact.2.2 U U (rfl) ae T.aG T.bf)<|ah (v:=ag ((l[0]'ae).toNat:Int)) 0 U (b2 U M.fact.2.2 U T.cq (by rw[Nat.mul_one];exact gx ae))<|a1 (y:=((l[0]'ae).toNat:Int)) 0 U U (br ae (by have:=(l[0]'ae).toNat_lt;omega))<|ch 1 U U (by simp;exact be)<|ah (v:=.bool _) 0 U U<|ah 2 U (ew (lo:=1) (hi:=17) U M.fact.2.2 U T.aG T.bf (⟨_,_,rfl,rfl⟩) (⟨_,_,rfl,rfl⟩) aN ae)<|cP M 0 U (ar U U T.qn) (p5 (Bytes.cut 1 17 M.fact.2.2 aN ae) (by simp;omega)) U fun⟨g,aq⟩ w _ M=>bC (b8 g aq ((l.drop 1).take (17-1)) (b9 ((l.drop 1).take (17-1)) 0).1 (b9 ((l.drop 1).take (17-1)) 0).2) M 2 U (ar U U T.ha) U (fun H=>hn 0 H (oS l)) fun _ w _ M=>bC (b8 g aq ((l.drop 1).take (17-1)) (b9 ((l.drop 1).take (17-1)) 1).1 (b9 ((l.drop 1).take (17-1)) 1).2) M 2 U (ar U U T.ha) U (fun H=>hn 1 H (oS l)) fun _ w _ M=>bo M 2 U (ar U U T.li) (lr (decide_eq_true bZ)) fun w M=>ah (v:=.bool _) 0 U U<|bo M 2 U (ar U U T.li) (lr (decide_eq_true dZ)) fun w M=>ah (v:=.bool _) 0 U U<|ah (v:=.bool _) 0 U U<|bo M 2 U (ar U U T.uR) (vP (decide_eq_true jO)) fun w M=>ah (v:=.bool _) 0 U U<|ah (v:=.bool _) 0 U U<|bw 1 U fun fr E=>?_;refine(dR (B:=T.C3) (Vs:=(.af _:: .af _:: .af _:: .af _:: .af _::cV w.heap.size (fun v=>[az.bytes 5 v (dA kd at')]) (fun _=>True):: .af _:: .af _::cL w.heap.size ([]) (fun c:Value=>.tuple #[c,.bool true]) (fun c=>[az.bytes 5 c q]) (fun _=>True)::cL w.heap.size ([]) (fun c:Value=>.tuple #[c,.bool true]) (fun c=>[az.bytes 5 c q]) (fun _=>True)::cL w.heap.size ([]) (fun c:Value=>c) (fun c=>[az.bytes 5 c q]) (fun _=>True):: .af (.bool true)::cL w.heap.size ([]) (fun c:Value=>c) (fun c=>[az.bytes 5 c q]) (fun _=>True):: .af _::[])) T.KL E T.mixed T.KK U (fH.dF ⟨ay,ay,ay,ay,ay,cn.df,ay,ay,cn.hx,cn.hx,cn.hx,ay,cn.hx,ay,ay⟩) ⟨aw U U,
   aw U U,
   aw U U,
   aw U U,
   aw U U,
   cE U U (fun x w ad ab=>⟨_,_,U,U,U,ar U U T.Aq,(A3 kd at' _).eN ad.size⟩),
   aw U U,
   aC U U (fun x w ad ab=>ew (lo:=17) (hi:=l.length) U (M.aQ ad).fact.2.2 U T.aG T.bf (⟨_,_,U,U⟩) (rfl) ae (Nat.le_refl _)),
   cE U U (fun x w ad ab=>⟨_,_,U,U,U,ar U U T.Fy,(PH (e:=ey l) (n:=eJ l) (M.aQ ad).fact.1 (M.aQ ad).fact.2.1 ((ab 5 U).1.reads 0 U) (Bytes.oT (k:=17) (M.aQ ad).fact.2.2 ae) (by simp[dA,aO]) (by simp;omega) aF).qk ad.size⟩),
   lk (j:=8) U U U U (fun x w y bn=>⟨U,U,U,tO U bn⟩),
   lk (j:=9) U U U U (fun x w y bn=>⟨U,U,U,nf U bn U⟩),
   uZ (j:=9) U U U U (fun x w y bn=>⟨U,U,U,nf U bn U⟩),
   lk (j:=10) U U U U (fun x w y bn=>⟨U,U,U,ku U bn⟩),
   aw U U,ay⟩ ?_)
 intro x fr w ad ab E;obtain⟨c,bn, -,M⟩:=M.kG (val:=fun c:Value=>c) (outs:=fun c=>[az.bytes 5 c q]) (p:=fun _=>True) ad (ab 12 aN);have E:=Env.gD (t:=13) E rfl bn;refine cm E<|ah (v:=.bool _) 1 rfl rfl<|ah (v:=.agg ([aa kd,aa (ey l),aa (eJ l),aa at',c]).toArray) 6 rfl (dl (vs:=[aa kd,aa (ey l),aa (eJ l),aa at',c]) (us:=[aa kd,aa (ey l),aa (eJ l),aa at',c]) rfl rfl T.g5 T.g6 (by obtain⟨fI,fm,bV⟩:=Reads.slice (M.bytes 0 rfl);rw[bV];simp[Value.cells]) rfl rfl (by obtain⟨fI,fm,bV⟩:=Reads.slice (M.bytes 0 rfl);rw[bV];simp[Value.cells]))<|bj (i:=3) (cs':= #[aa kd,aa (ey l),aa (eJ l),aa at',c]) M 0 rfl rfl (dr (vs:= #[aa kd,aa (ey l),aa (eJ l),aa at',c]) rfl rfl rfl T.fE rfl (M.row (i:=3) rfl) rfl (by obtain⟨fI,fm,bV⟩:=Reads.slice (M.reads 0 rfl);rw[bV];rfl) rfl) rfl fun w M=>aU 1 rfl fun fr E=>?_;refine fW E U U U T.ib (M.row (i:=3) U) (rfl) ?_;exact⟨c,U,Mem.fin (L:=[.bytes 5 c q]++_) M (List.sublist_append_left _ _) trivial⟩
theorem RH{key:List UInt8}{kd at':Int}{l:List UInt8}(h:k2 key kd at' l=none):∃err:Int,err≠0/\∀(w0:World) (gc:Nat) (X:fB) (b:Value),Bytes w0 b l->(bI gc X key).ok w0->w0.heap[1]? =some (.cells (a7 bt).toArray 243)->bH prog 60 [ai gc 0,aa kd,aa at',b] w0 (.tuple #[.agg #[aa 0,aa 0,aa 0,aa 0,.slice none 0 0],aa err]):=by
 by_cases aj:l.length<17
 ·exact⟨2,by decide,fun w0 gc X b ak H ab=>RO ak aj⟩
 by_cases an:1024<l.length
 ·exact⟨3,by decide,fun w0 gc X b ak H ab=>RK ak aj an⟩
 by_cases aB:1<=kd/\kd<=5
 ·by_cases be:((l[0]'ae).toNat:Int)=kd
  ·by_cases bZ:(0<=ey l/\ey l<=1099511627776)
   ·by_cases dZ:(0<=eJ l/\eJ l<=1099511627776)
    ·by_cases jO:(0<=at'/\at'<4096)
     ·have aF:kr key (ey l) (eJ l) (dA kd at') (l.drop 17)=none:=by
       unfold k2 at h;rw[if_pos ⟨aj,an,by omega,(He aj aB).2 be,⟨bZ.1,dZ.1,jO.1⟩,⟨bZ.2,dZ.2⟩,jO.2⟩]at h;simpa using h
      exact⟨19,by decide,fun w0 gc X b ak H ab=>RN H ab ak aj an aB be bZ dZ jO aF⟩
     ·exact⟨7,by decide,fun w0 gc X b ak H ab=>RF ak aj an aB be bZ dZ jO⟩
    ·exact⟨7,by decide,fun w0 gc X b ak H ab=>RL ak aj an aB be bZ dZ⟩
   ·exact⟨7,by decide,fun w0 gc X b ak H ab=>RG ak aj an aB be bZ⟩
  ·exact⟨5,by decide,fun w0 gc X b ak H ab=>RI ak aj an aB be⟩
 ·exact⟨5,by decide,fun w0 gc X b ak H ab=>RJ ak aj an aB⟩
theorem xF{gc:Nat}{X:fB}{key:List UInt8}{w0:World}(ad:(bI gc X key).ok w0)(ab:w0.heap[1]? =some (.cells (a7 bt).toArray 243)){kd at' e n:Int}{b:Value}{l q:List UInt8}(ak:Bytes w0 b l)(h:k2 key kd at' l=some (e,n,q)):aY prog 60 [ai gc 0,aa kd,aa at',b] w0 [] (fun c:Value=>.tuple #[.agg #[aa kd,aa e,aa n,aa at',c],aa 0]) (fun c=>[.bytes 5 c q]) (fun _=>True):=by
 unfold k2 at h;split at h
 ·rename_i aJ;rw[Option.map_eq_some_iff]at h;obtain⟨fV,aj,an⟩:=h;simp only[Prod.mk.injEq]at an;obtain⟨rfl,rfl,rfl⟩:=an;have GB:=Tz aJ.2.2.1 aJ.2.2.2.1;have aP:=aJ.2.2.2.2;exact RM ad ab ak aJ.1 aJ.2.1 GB ((He aJ.1 GB).1 aJ.2.2.2.1) ⟨aP.1.1,aP.2.1.1⟩ ⟨aP.1.2.1,aP.2.1.2⟩ ⟨aP.1.2.2,aP.2.2⟩ aj
 ·cases h
end
section
open Go.RowKit Go.a2 Go.Proofs Go.Proofs.Tryz
theorem Ga{q:List UInt8}(h:(b4 q).2=0):(b4 q).1.fA:=by
 unfold b4 at h⊢;split at h
 ·rename_i aJ;exact absurd h aJ
 ·rename_i aJ;rw[if_neg aJ];split at h
  ·rename_i hm;rw[if_pos hm];exact hm
  ·cases h
theorem Nb{r:Rec}{w0:World}(ap:r.Ok)(h:r.bq.tmod 2=0):bH prog 62 [r.val] w0 (aa 1):=by
 refine enter (n:=7) func62 U U U ?_;intro fr E;have M:=ht (Has.nil w0);refine aV E<|bh (ob:=.cells (r.cells.toArray) 45) (fun g=>ai g 0) M 0 U (cS (cs:=(r.cells.toArray)) U U) fun aZ w M=>ah (v:=aa r.bq) 2 U (aE U U T.bc (M.row (i:=0) U) Rec.jv)<|a1 (y:=r.bq.tmod 2) 0 U U (rfl)<|bD 0 U U h<|aU 2 U fun fr E=>?_;refine bi E U U ?_;exact bX M
theorem Nc{r:Rec}{w0:World}(ap:r.Ok)(h:¬r.bq.tmod 2=0):bH prog 62 [r.val] w0 (aa 2):=by
 refine enter (n:=7) func62 U U U ?_;intro fr E;have M:=ht (Has.nil w0);refine aV E<|bh (ob:=.cells (r.cells.toArray) 45) (fun g=>ai g 0) M 0 U (cS (cs:=(r.cells.toArray)) U U) fun aZ w M=>ah (v:=aa r.bq) 2 U (aE U U T.bc (M.row (i:=0) U) Rec.jv)<|a1 (y:=r.bq.tmod 2) 0 U U (rfl)<|bs 0 U U h<|aU 2 U fun fr E=>?_;refine bi E U U ?_;exact bX M
theorem uB{r:Rec}{w0:World}(ap:r.Ok)(hm:r.fA):bH prog 62 [r.val] w0 (aa (1+r.bq.tmod 2)):=by
 have aj:=hm.1.1;unfold fP at aj;have an:=Int.tmod_eq_emod_of_nonneg (a:=r.bq) (b:=2) ae;by_cases h:r.bq.tmod 2=0
 ·rw[h];exact Nb ap h
 ·rw[show r.bq.tmod 2=1 by omega];exact Nc ap h
theorem NT{R:cZ}{gc:Nat}{X:fB}{key:List UInt8}{g:Nat}{A:bz}{w0:World}(H:Has w0 [bB R,bI gc X key])(dU:R.is g A)(ab:w0.heap[1]? =some (.cells (a7 bt).toArray 243))(cj:¬aS [bB R,bI gc X key] 1){r:Rec}{num:Int}(ap:r.Ok)(hm:¬r.fA):aY prog 53 [ai g 0,ai gc 0,r.val,aa num] w0 [bB R,bI gc X key] (fun _:cZ=>aa 7) (fun x=>[bB x,bI gc X key]) (fun x=>x.is g A):=by
 refine enter (n:=41) func53 U U U ?_;intro fr E;have M:=Mem.begin (Φ:=fun w'=>w'.heap[1]? =some (.cells (a7 bt).toArray 243)/\True) H (fun w' h=>⟨(h.block 1 (Array.getElem?_eq_some_iff.1 ab).1 cj).trans ab,ay⟩);refine aV E<|bh (ob:=.cells (r.cells.toArray) 45) (fun g=>ai g 0) M 0 U (cS (cs:=(r.cells.toArray)) U U) fun aZ w M=>ah (v:=.agg r.cells.toArray) 1 U (cW U U T.da (M.row (i:=0) U) (Rec.size ap))<|bo M 0 U (ar U U T.AM) (MS ap hm) fun w M=>ah (v:=.bool _) 6 U U<|aU 3 U fun fr E=>?_;refine bi E U U ?_;have M:=M.aH 2 rfl;have M:=M.aH 2 rfl;exact⟨R,U,Mem.fin (L:=[bB R,bI gc X key]++_) M (List.sublist_append_left _ _) dU⟩
theorem NV{R:cZ}{gc:Nat}{X:fB}{key:List UInt8}{g:Nat}{A:bz}{w0:World}(H:Has w0 [bB R,bI gc X key])(dU:R.is g A)(ab:w0.heap[1]? =some (.cells (a7 bt).toArray 243))(cj:¬aS [bB R,bI gc X key] 1){r:Rec}{num:Int}(ap:r.Ok)(hm:r.fA)(aP:¬gZ r.bF num (1+r.bq.tmod 2)):aY prog 53 [ai g 0,ai gc 0,r.val,aa num] w0 [bB R,bI gc X key] (fun _:cZ=>aa 7) (fun x=>[bB x,bI gc X key]) (fun x=>x.is g A):=by
 refine enter (n:=41) func53 U U U ?_;intro fr E;have M:=Mem.begin (Φ:=fun w'=>w'.heap[1]? =some (.cells (a7 bt).toArray 243)/\True) H (fun w' h=>⟨(h.block 1 (Array.getElem?_eq_some_iff.1 ab).1 cj).trans ab,ay⟩);refine aV E<|bh (ob:=.cells (r.cells.toArray) 45) (fun g=>ai g 0) M 0 U (cS (cs:=(r.cells.toArray)) U U) fun aZ w M=>ah (v:=.agg r.cells.toArray) 1 U (cW U U T.da (M.row (i:=0) U) (Rec.size ap))<|cP M 0 U (ar U U T.AM) (DO ap hm) U fun pl w _ M=>ah (v:=.bool _) 6 U U<|bw 1 U fun fr E=>?_;refine(dR (B:=T.C0) (Vs:=(.af _:: .af (ai _ 2):: .af (aa r.bF):: .af _:: .af (.agg r.cells.toArray):: .af (aa _):: .af _:: .af (.agg ([aa 2,aa r.bF,aa num,aa (1+r.bq.tmod 2),pl]).toArray):: .af (.tuple #[.slice none 0 0,aa 7]):: .af _:: .af (.slice none 0 0):: .af (aa 7):: .af (.slice none 0 0):: .af (aa 7)::[])) T.KD E T.mixed T.KC U (ej.e6 U) ⟨aw U U,
   aw U U,
   aC U U (fun x w ad ab=>aE U U T.bc ((M.aQ ad).row (i:=1) U) Rec.ho),
   aw U U,
   aC U U (fun x w ad ab=>cW U U T.da ((M.aQ ad).row (i:=1) U) (Rec.size ap)),
   cE U U (fun x w ad ab=>⟨_,_,U,U,U,ar U U T.uW,(uB ap hm).ext⟩),
   aw U U,
   aC rfl rfl (fun x w ad ab=>dl (vs:=[aa 2,aa r.bF,aa num,aa (1+r.bq.tmod 2),pl]) (us:=[aa 2,aa r.bF,aa num,aa (1+r.bq.tmod 2),pl]) rfl rfl T.g5 T.g6 (by obtain⟨fI,fm,bV⟩:=Reads.slice ((M.aQ ad).bytes 0 rfl);rw[bV];simp[Value.cells]) rfl rfl (by obtain⟨fI,fm,bV⟩:=Reads.slice ((M.aQ ad).bytes 0 rfl);rw[bV];simp[Value.cells])),
   cE rfl rfl (fun x w ad ab=>⟨_,_,rfl,rfl,rfl,ar rfl rfl T.Fx,(Vj (kd:=2) ((M.aQ ad).bytes 0 rfl) aN aP).ext⟩),
   aw rfl rfl,
   aw rfl rfl,
   aw rfl rfl,
   aw rfl rfl,
   aw rfl rfl,ay⟩ ?_)
 intro x fr w ad ab E;have M:=M.ext ad;refine cm E<|ah (v:=.bool _) 1 U U<|aU 3 U fun fr E=>?_;refine bi E U U ?_;have M:=M.aH 3 rfl;have M:=M.aH 3 rfl;exact⟨R,U,Mem.fin (L:=[bB R,bI gc X key]++_) M (List.sublist_append_left _ _) dU⟩
theorem NU{R:cZ}{gc:Nat}{X:fB}{key:List UInt8}{g:Nat}{A:bz}{w0:World}(H:Has w0 [bB R,bI gc X key])(dU:R.is g A)(ab:w0.heap[1]? =some (.cells (a7 bt).toArray 243))(cj:¬aS [bB R,bI gc X key] 1){r:Rec}{num:Int}(ap:r.Ok)(hm:r.fA)(aP:gZ r.bF num (1+r.bq.tmod 2)):aY prog 53 [ai g 0,ai gc 0,r.val,aa num] w0 [bB R,bI gc X key] (fun _:cZ=>aa (A.write (1+r.bq.tmod 2) (iK key 2 r.bF num (1+r.bq.tmod 2) r.bytes)).1) (fun x=>[bB x,bI gc X key]) (fun x=>x.is g (A.write (1+r.bq.tmod 2) (iK key 2 r.bF num (1+r.bq.tmod 2) r.bytes)).2):=by
 refine enter (n:=41) func53 U U U ?_;intro fr E;have M:=Mem.begin (Φ:=fun w'=>w'.heap[1]? =some (.cells (a7 bt).toArray 243)/\True) H (fun w' h=>⟨(h.block 1 (Array.getElem?_eq_some_iff.1 ab).1 cj).trans ab,ay⟩);refine aV E<|bh (ob:=.cells (r.cells.toArray) 45) (fun g=>ai g 0) M 0 U (cS (cs:=(r.cells.toArray)) U U) fun aZ w M=>ah (v:=.agg r.cells.toArray) 1 U (cW U U T.da (M.row (i:=0) U) (Rec.size ap))<|cP M 0 U (ar U U T.AM) (DO ap hm) U fun pl w _ M=>ah (v:=.bool _) 6 U U<|bw 1 U fun fr E=>?_;refine(dR (B:=T.C0) (Vs:=(.af _:: .af (ai _ 2):: .af (aa r.bF):: .af _:: .af (.agg r.cells.toArray):: .af (aa _):: .af _:: .af (.agg ([aa 2,aa r.bF,aa num,aa (1+r.bq.tmod 2),pl]).toArray)::cL w.heap.size ([]) (fun v:Value=>.tuple #[v,aa 0]) (fun v=>[az.bytes 5 v (iK key 2 r.bF num (1+r.bq.tmod 2) r.bytes)]) (fun _=>True)::cL w.heap.size ([]) (fun v:Value=>.tuple #[v,aa 0]) (fun v=>[az.bytes 5 v (iK key 2 r.bF num (1+r.bq.tmod 2) r.bytes)]) (fun _=>True)::cL w.heap.size ([]) (fun v:Value=>v) (fun v=>[az.bytes 5 v (iK key 2 r.bF num (1+r.bq.tmod 2) r.bytes)]) (fun _=>True):: .af (aa 0)::cL w.heap.size ([]) (fun v:Value=>v) (fun v=>[az.bytes 5 v (iK key 2 r.bF num (1+r.bq.tmod 2) r.bytes)]) (fun _=>True):: .af _::[])) T.KD E T.mixed T.KC U (fH.dF ⟨ay,ay,ay,ay,ay,ay,ay,ay,cn.hx,cn.hx,cn.hx,ay,cn.hx,ay,ay⟩) ⟨aw U U,
   aw U U,
   aC U U (fun x w ad ab=>aE U U T.bc ((M.aQ ad).row (i:=1) U) Rec.ho),
   aw U U,
   aC U U (fun x w ad ab=>cW U U T.da ((M.aQ ad).row (i:=1) U) (Rec.size ap)),
   cE U U (fun x w ad ab=>⟨_,_,U,U,U,ar U U T.uW,(uB ap hm).ext⟩),
   aw U U,
   aC rfl rfl (fun x w ad ab=>dl (vs:=[aa 2,aa r.bF,aa num,aa (1+r.bq.tmod 2),pl]) (us:=[aa 2,aa r.bF,aa num,aa (1+r.bq.tmod 2),pl]) rfl rfl T.g5 T.g6 (by obtain⟨fI,fm,bV⟩:=Reads.slice ((M.aQ ad).bytes 0 rfl);rw[bV];simp[Value.cells]) rfl rfl (by obtain⟨fI,fm,bV⟩:=Reads.slice ((M.aQ ad).bytes 0 rfl);rw[bV];simp[Value.cells])),
   cE rfl rfl (fun x w ad ab=>⟨_,_,rfl,rfl,rfl,ar rfl rfl T.Fx,(Vi (kd:=2) (e:=r.bF) (n:=num) (at':=(1+r.bq.tmod 2)) ((M.aQ ad).dG (e:=bI gc X key) 3 rfl) (M.aQ ad).fact.1 ((M.aQ ad).bytes 0 rfl) aN ⟨aP.1.1,aP.2.1.1⟩ ⟨aP.1.2.1,aP.2.1.2⟩ ⟨aP.1.2.2,aP.2.2⟩ (by rw[Rec.sY ap];decide)).qk ad.size⟩),
   lk (j:=8) rfl rfl rfl rfl (fun x w y bn=>⟨rfl,rfl,rfl,tO rfl bn⟩),
   lk (j:=9) rfl rfl rfl rfl (fun x w y bn=>⟨rfl,rfl,rfl,nf rfl bn rfl⟩),
   uZ (j:=9) rfl rfl rfl rfl (fun x w y bn=>⟨rfl,rfl,rfl,nf rfl bn rfl⟩),
   lk (j:=10) rfl rfl rfl rfl (fun x w y bn=>⟨rfl,rfl,rfl,ku rfl bn⟩),
   aw rfl rfl,ay⟩ ?_)
 intro x fr w ad ab E;obtain⟨b,bn, -,M⟩:=M.kG (val:=fun v:Value=>v) (outs:=fun v=>[az.bytes 5 v (iK key 2 r.bF num (1+r.bq.tmod 2) r.bytes)]) (p:=fun _=>True) ad (ab 12 aN);have E:=Env.gD (t:=11) E rfl bn;refine cm E<|ah (v:=.bool _) 1 U U<|ah (v:=.agg r.cells.toArray) 2 U (cW U U T.da (M.row (i:=2) U) (Rec.size ap))<|bo M 0 U (ar U U T.uW) (uB ap hm) fun w M=>fun fr E=>?_;have M:=M.aH 3 rfl;refine bN E<|bC ([bB R]) M 1 U (ar U U T.Qr) U (fun H=>NX H dU (M.bytes 1 U) (M.off (i:=0) (j:=1) U U U)) fun gX w mo M=>aU 1 U fun fr E=>?_;refine bi E U U ?_;have M:=M.aH 4 rfl;have M:=M.aH 1 rfl;exact⟨gX,U,Mem.fin (L:=[bB gX,bI gc X key]++_) M (List.sublist_append_left _ _) mo⟩
theorem NW{R:cZ}{gc:Nat}{X:fB}{key:List UInt8}{g:Nat}{A:bz}{w0:World}(H:Has w0 [bB R,bI gc X key])(dU:R.is g A)(ab:w0.heap[1]? =some (.cells (a7 bt).toArray 243))(cj:¬aS [bB R,bI gc X key] 1){r:Rec}{num:Int}(ap:r.Ok):aY prog 53 [ai g 0,ai gc 0,r.val,aa num] w0 [bB R,bI gc X key] (fun _:cZ=>aa (iw A key r num).1) (fun x=>[bB x,bI gc X key]) (fun x=>x.is g (iw A key r num).2):=by
 by_cases hm:r.fA
 ·by_cases aP:gZ r.bF num (1+r.bq.tmod 2)
  ·have e:iw A key r num=((A.write (1+r.bq.tmod 2) (iK key 2 r.bF num (1+r.bq.tmod 2) r.bytes)).1,(A.write (1+r.bq.tmod 2) (iK key 2 r.bF num (1+r.bq.tmod 2) r.bytes)).2):=by unfold iw;rw[if_pos ⟨hm,aP⟩]
   rw[e];exact NU H dU ab cj ap hm aP
  ·have e:iw A key r num=(7,A):=by unfold iw;rw[if_neg fun c=>aP c.2]
   rw[e];exact NV H dU ab cj ap hm aP
 ·have e:iw A key r num=(7,A):=by unfold iw;rw[if_neg fun c=>hm c.1]
  rw[e];exact NT H dU ab cj ap hm
theorem xE{b:Value}{l:List UInt8}{w0:World}(ak:Bytes w0 b l)(au:l.length<=35184372088832):bH prog 61 [b] w0 (.tuple #[(b4 l).1.val,aa (b4 l).2]):=by
 unfold b4;by_cases he:ka (bK l 11)=0
 ·rw[if_neg (by simpa using he)];by_cases hm:(Rec.read l).fA
  ·rw[if_pos hm];exact Mg ak au he hm
  ·rw[if_neg hm];exact Mf ak au he hm
 ·rw[if_pos he];exact Me ak au he
set_option maxHeartbeats 1000000 in
theorem LB{R:cZ}{gc:Nat}{X:fB}{key:List UInt8}{g:Nat}{A:bz}{w0:World}(H:Has w0 [bB R,bI gc X key])(dU:R.is g A)(ab:w0.heap[1]? =some (.cells (a7 bt).toArray 243))(cj:¬aS [bB R,bI gc X key] 1)(a6:2<A.n):aY prog 17 [ai g 0,ai gc 0] w0 [bB R,bI gc X key] (fun x:Value×cZ=>x.1) (fun x=>[.eI 45 x.1 (fQ A key 2),bB x.2,bI gc X key]) (fun x=>x.2.is g (dy A 2)):=by
 refine enter (n:=60) func17 U U U ?_;intro fr E;have M:=Mem.begin (Φ:=fun w'=>w'.heap[1]? =some (.cells (a7 bt).toArray 243)/\True) H (fun w' h=>⟨(h.block 1 (Array.getElem?_eq_some_iff.1 ab).1 cj).trans ab,ay⟩);refine aV E<|bw 3 U fun fr E=>?_;refine cI (fun d fr w=>∃(i:Nat) (v:Value) (nr:cZ),d=2-i/\i<=2/\nr.is g (dy A i)/\¬aS [bB nr,bI gc X key] 1/\Env [(6,aa ((i+1:Nat):Int)),(5,v),(1,ai gc 0),(0,ai g 0)] 60 fr/\Mem w0 (aS [bB R,bI gc X key]) [.eI 45 v (fQ A key i),bB nr,bI gc X key] (fun w'=>w'.heap[1]? =some (.cells (a7 bt).toArray 243)/\True) w) (2) ?_ ?_
 ·have M:=M.yk 45;refine⟨0,_,R,U,by decide,dU,cj,E.lL [0,1,5,6] rfl,M⟩
 ·clear E M;rintro d fr w ⟨i,v,nr,rfl,hle,tj,bu,E,M⟩;by_cases hi:i<2
  ·have ax:i+1<(dy A i).n:=by rw[uJ];omega
   cases al:k2 key 2 ((i+1:Nat):Int) ((dy A i).read (i+1))with
   |none=>
    obtain⟨err,pq,pr⟩:=RH al;have eP:(gT (dy A i) key (i+1)).2=false:=by unfold gT;rw[al]
    refine bA E<|bD 1 U U ae<|fun fr E=>?_;have M:=M.aH 1 rfl;refine bN E<|bC ([bB nr]) M 3 U (ar U U T.rM) U (fun H=>sO H tj ax) fun⟨c,gX⟩ w mo M=>ah (v:=.bool _) 6 U U<|bo M 4 U (ar U U T.uV) (pr _ _ _ _ (M.bytes 0 U) (M.dG (e:=bI gc X key) 3 U) M.fact.1) fun w M=>bh (ob:=.cells #[_,_,_,_,_] 116) (fun g=>ai g 0) M 3 U (bT U T.fG) fun aZ w M=>bj (i:=0) (cs':= #[aa 0,aa 0,aa 0,aa 0,.slice none 0 0]) M 0 U U (dr (vs:= #[_,_,_,_,_]) U U U T.fE U (M.row (i:=0) U) U U U) U fun w M=>ei 2 U U (by simp;exact pq)<|a1 (y:=((i+1+1:Nat):Int)) 2 U U ((br ae ae).trans ae)<|ct 1 U fun fr E=>?_;have M:=M.aH 4 rfl;have M:=M.aH 3 rfl;have M:=M.aH 4 rfl;have mq:¬aS [bB gX,bI gc X key] 1:=fun⟨e,he,al⟩=>(M.own e (List.mem_cons_of_mem _ ((List.sublist_append_left [bB gX,bI gc X key] _).subset he)) _ al).elim (fun h=>Nat.not_le_of_lt (Array.getElem?_eq_some_iff.1 ab).1 h) cj;refine⟨2-(i+1),by omega,i+1,_,gX,U,by omega,by rw[dy];exact mo,mq,E.lL [0,1,5,6] rfl,Mem.take (L:=[.eI 45 _ (fQ A key (i+1)),bB gX,bI gc X key]) (M.as (by rw[uD eP];rfl))⟩
   |some y=>
    obtain⟨e,n,q⟩:=y;have bE:q.length<=35184372088832:=by have:=I8 al;omega
    by_cases aj:(b4 q).2=0
    ·by_cases an:(b4 q).1.bF=e
     ·by_cases aB:1+(b4 q).1.bq.tmod 2=((i+1:Nat):Int)
      ·have eP:gT (dy A i) key (i+1)=((b4 q).1,true):=by unfold gT;rw[al];exact congrArg (Prod.mk _) (decide_eq_true ⟨aj,an,aB⟩)
       have Bb:(b4 q).1.fA:=Ga aj;refine bA E<|bD 1 U U ae<|fun fr E=>?_;have M:=M.aH 1 rfl;refine bN E<|bC ([bB nr]) M 3 rfl (ar rfl rfl T.rM) rfl (fun H=>sO H tj ax) fun⟨c,gX⟩ w mo M=>ah (v:=.bool _) 6 rfl rfl<|cP M 4 rfl (ar rfl rfl T.uV) (xF (M.dG (e:=bI gc X key) 3 rfl) M.fact.1 (M.bytes 0 rfl) al) rfl fun fV w _ M=>bh (ob:=.cells #[_,_,_,_,_] 116) (fun g=>ai g 0) M 3 rfl (bT rfl T.fG) fun aZ w M=>bj (i:=0) (cs':= #[aa 2,aa e,aa n,aa ((i+1:Nat):Int),fV]) M 0 rfl rfl (dr (vs:= #[aa 2,aa e,aa n,aa ((i+1:Nat):Int),fV]) rfl rfl rfl T.fE rfl (M.row (i:=0) rfl) rfl (by obtain⟨fI,fm,bV⟩:=Reads.slice (M.reads 1 rfl);rw[bV];rfl) rfl) rfl fun w M=>ch 2 rfl rfl (rfl)<|ah 2 rfl (aE rfl rfl T.ec (M.row (i:=0) rfl) rfl)<|bo M 0 rfl (ar rfl rfl T.xv) (xE (M.bytes 1 rfl) bE) fun w M=>bh (ob:=.cells _ 45) (fun g=>ai g 0) M 3 rfl (bT rfl T.fu) fun bQ w M=>bj (i:=0) (cs':=(b4 q).1.cells.toArray) M 0 rfl rfl (cB (vs:=(b4 q).1.cells.toArray) rfl rfl rfl T.dV (Rec.size (eO q)) (M.row (i:=0) rfl) (rfl) (fun v aD=>Rec.eX _ v aD)) rfl fun w M=>bD 2 rfl rfl aj<|ah (v:=aa (b4 q).1.bF) 2 rfl (aE rfl rfl T.bc (M.row (i:=0) rfl) Rec.ho)<|ah (v:=aa e) 1 rfl (aE rfl rfl T.bc (M.row (i:=1) rfl) rfl)<|bD 0 rfl rfl an<|ah (v:=.bool _) 0 rfl rfl<|ah (v:=.agg (b4 q).1.cells.toArray) 1 rfl (cW rfl rfl T.da (M.row (i:=0) rfl) (Rec.size (eO q)))<|bo M 0 rfl (ar rfl rfl T.uW) (uB (eO q) Bb) fun w M=>bD 1 rfl rfl aB<|ah (v:=.bool _) 0 rfl rfl<|ah (v:=.agg (b4 q).1.cells.toArray) 2 rfl (cW rfl rfl T.da (M.row (i:=0) rfl) (Rec.size (eO q)))<|cv 0 rfl fun fr E=>?_;refine dM (sz:=136) (xs:=(b4 q).1.cells) E M U U U U U (ev (us:=(b4 q).1.cells) (vs:=[.agg (b4 q).1.cells.toArray]) U U U T.gd T.dV T.DB U (by simp[Value.cells,Rec.len (eO q)]) U U (by simp[Value.cells])) (by simp[Rec.len (eO q)]) (Nat.le_refl _) aN (by simp[List.take_of_length_le,Rec.len (eO q)]) fun one fr w M E=>?_;refine Cs (i:=6) (xs:=fQ A key i) (news:=[(b4 q).1]) E M U U U U U U U U U U U T.gd T.gd T.zr T.w7 (B8 (M.reads 0 U)) (by have:=wU A key i;simp;omega) fun v fr w M E=>?_;refine cw E<|a1 (y:=((i+1+1:Nat):Int)) 2 U U ((br ae ae).trans ae)<|ct 1 U fun fr E=>?_;have M:=M.aH 7 rfl;have M:=M.aH 6 rfl;have M:=M.aH 7 rfl;have mq:¬aS [bB gX,bI gc X key] 1:=fun⟨e,he,al⟩=>(M.own e (List.mem_cons_of_mem _ ((List.sublist_append_left [bB gX,bI gc X key] _).subset he)) _ al).elim (fun h=>Nat.not_le_of_lt (Array.getElem?_eq_some_iff.1 ab).1 h) cj;refine⟨2-(i+1),by omega,i+1,_,gX,U,by omega,by rw[dy];exact mo,mq,E.lL [0,1,5,6] rfl,Mem.take (L:=[.eI 45 _ (fQ A key (i+1)),bB gX,bI gc X key]) (M.as (by rw[Eg (congrArg Prod.snd eP),eP];rfl))⟩
      ·have eP:gT (dy A i) key (i+1)=((b4 q).1,false):=by unfold gT;rw[al];exact congrArg (Prod.mk _) (decide_eq_false (fun c=>aB c.2.2))
       have Bb:(b4 q).1.fA:=Ga aj;refine bA E<|bD 1 U U ae<|fun fr E=>?_;have M:=M.aH 1 rfl;refine bN E<|bC ([bB nr]) M 3 rfl (ar rfl rfl T.rM) rfl (fun H=>sO H tj ax) fun⟨c,gX⟩ w mo M=>ah (v:=.bool _) 6 rfl rfl<|cP M 4 rfl (ar rfl rfl T.uV) (xF (M.dG (e:=bI gc X key) 3 rfl) M.fact.1 (M.bytes 0 rfl) al) rfl fun fV w _ M=>bh (ob:=.cells #[_,_,_,_,_] 116) (fun g=>ai g 0) M 3 rfl (bT rfl T.fG) fun aZ w M=>bj (i:=0) (cs':= #[aa 2,aa e,aa n,aa ((i+1:Nat):Int),fV]) M 0 rfl rfl (dr (vs:= #[aa 2,aa e,aa n,aa ((i+1:Nat):Int),fV]) rfl rfl rfl T.fE rfl (M.row (i:=0) rfl) rfl (by obtain⟨fI,fm,bV⟩:=Reads.slice (M.reads 1 rfl);rw[bV];rfl) rfl) rfl fun w M=>ch 2 rfl rfl (rfl)<|ah 2 rfl (aE rfl rfl T.ec (M.row (i:=0) rfl) rfl)<|bo M 0 rfl (ar rfl rfl T.xv) (xE (M.bytes 1 rfl) bE) fun w M=>bh (ob:=.cells _ 45) (fun g=>ai g 0) M 3 rfl (bT rfl T.fu) fun bQ w M=>bj (i:=0) (cs':=(b4 q).1.cells.toArray) M 0 rfl rfl (cB (vs:=(b4 q).1.cells.toArray) rfl rfl rfl T.dV (Rec.size (eO q)) (M.row (i:=0) rfl) (rfl) (fun v aD=>Rec.eX _ v aD)) rfl fun w M=>bD 2 rfl rfl aj<|ah (v:=aa (b4 q).1.bF) 2 rfl (aE rfl rfl T.bc (M.row (i:=0) rfl) Rec.ho)<|ah (v:=aa e) 1 rfl (aE rfl rfl T.bc (M.row (i:=1) rfl) rfl)<|bD 0 rfl rfl an<|ah (v:=.bool _) 0 rfl rfl<|ah (v:=.agg (b4 q).1.cells.toArray) 1 rfl (cW rfl rfl T.da (M.row (i:=0) rfl) (Rec.size (eO q)))<|bo M 0 rfl (ar rfl rfl T.uW) (uB (eO q) Bb) fun w M=>bs 1 rfl rfl aB<|ah (v:=.bool _) 0 rfl rfl<|a1 (y:=((i+1+1:Nat):Int)) 2 rfl rfl ((br ae ae).trans ae)<|ct 1 rfl fun fr E=>?_;have M:=M.aH 6 rfl;have M:=M.aH 5 rfl;have M:=M.aH 6 rfl;have mq:¬aS [bB gX,bI gc X key] 1:=fun⟨e,he,al⟩=>(M.own e (List.mem_cons_of_mem _ ((List.sublist_append_left [bB gX,bI gc X key] _).subset he)) _ al).elim (fun h=>Nat.not_le_of_lt (Array.getElem?_eq_some_iff.1 ab).1 h) cj;refine⟨2-(i+1),by omega,i+1,_,gX,U,by omega,by rw[dy];exact mo,mq,E.lL [0,1,5,6] rfl,Mem.take (L:=[.eI 45 _ (fQ A key (i+1)),bB gX,bI gc X key]) (M.as (by rw[uD (congrArg Prod.snd eP)];rfl))⟩
     ·have eP:gT (dy A i) key (i+1)=((b4 q).1,false):=by unfold gT;rw[al];exact congrArg (Prod.mk _) (decide_eq_false (fun c=>an c.2.1))
      refine bA E<|bD 1 U U ae<|fun fr E=>?_;have M:=M.aH 1 rfl;refine bN E<|bC ([bB nr]) M 3 rfl (ar rfl rfl T.rM) rfl (fun H=>sO H tj ax) fun⟨c,gX⟩ w mo M=>ah (v:=.bool _) 6 rfl rfl<|cP M 4 rfl (ar rfl rfl T.uV) (xF (M.dG (e:=bI gc X key) 3 rfl) M.fact.1 (M.bytes 0 rfl) al) rfl fun fV w _ M=>bh (ob:=.cells #[_,_,_,_,_] 116) (fun g=>ai g 0) M 3 rfl (bT rfl T.fG) fun aZ w M=>bj (i:=0) (cs':= #[aa 2,aa e,aa n,aa ((i+1:Nat):Int),fV]) M 0 rfl rfl (dr (vs:= #[aa 2,aa e,aa n,aa ((i+1:Nat):Int),fV]) rfl rfl rfl T.fE rfl (M.row (i:=0) rfl) rfl (by obtain⟨fI,fm,bV⟩:=Reads.slice (M.reads 1 rfl);rw[bV];rfl) rfl) rfl fun w M=>ch 2 rfl rfl (rfl)<|ah 2 rfl (aE rfl rfl T.ec (M.row (i:=0) rfl) rfl)<|bo M 0 rfl (ar rfl rfl T.xv) (xE (M.bytes 1 rfl) bE) fun w M=>bh (ob:=.cells _ 45) (fun g=>ai g 0) M 3 rfl (bT rfl T.fu) fun bQ w M=>bj (i:=0) (cs':=(b4 q).1.cells.toArray) M 0 rfl rfl (cB (vs:=(b4 q).1.cells.toArray) rfl rfl rfl T.dV (Rec.size (eO q)) (M.row (i:=0) rfl) (rfl) (fun v aD=>Rec.eX _ v aD)) rfl fun w M=>bD 2 rfl rfl aj<|ah (v:=aa (b4 q).1.bF) 2 rfl (aE rfl rfl T.bc (M.row (i:=0) rfl) Rec.ho)<|ah (v:=aa e) 1 rfl (aE rfl rfl T.bc (M.row (i:=1) rfl) rfl)<|bs 0 rfl rfl an<|ah (v:=.bool _) 0 rfl rfl<|ah (v:=.bool _) 5 rfl rfl<|a1 (y:=((i+1+1:Nat):Int)) 2 rfl rfl ((br ae ae).trans ae)<|ct 1 rfl fun fr E=>?_;have M:=M.aH 6 rfl;have M:=M.aH 5 rfl;have M:=M.aH 6 rfl;have mq:¬aS [bB gX,bI gc X key] 1:=fun⟨e,he,al⟩=>(M.own e (List.mem_cons_of_mem _ ((List.sublist_append_left [bB gX,bI gc X key] _).subset he)) _ al).elim (fun h=>Nat.not_le_of_lt (Array.getElem?_eq_some_iff.1 ab).1 h) cj;refine⟨2-(i+1),by omega,i+1,_,gX,U,by omega,by rw[dy];exact mo,mq,E.lL [0,1,5,6] rfl,Mem.take (L:=[.eI 45 _ (fQ A key (i+1)),bB gX,bI gc X key]) (M.as (by rw[uD (congrArg Prod.snd eP)];rfl))⟩
    ·have eP:gT (dy A i) key (i+1)=((b4 q).1,false):=by unfold gT;rw[al];exact congrArg (Prod.mk _) (decide_eq_false (fun c=>aj c.1))
     refine bA E<|bD 1 U U ae<|fun fr E=>?_;have M:=M.aH 1 rfl;refine bN E<|bC ([bB nr]) M 3 rfl (ar rfl rfl T.rM) rfl (fun H=>sO H tj ax) fun⟨c,gX⟩ w mo M=>ah (v:=.bool _) 6 rfl rfl<|cP M 4 rfl (ar rfl rfl T.uV) (xF (M.dG (e:=bI gc X key) 3 rfl) M.fact.1 (M.bytes 0 rfl) al) rfl fun fV w _ M=>bh (ob:=.cells #[_,_,_,_,_] 116) (fun g=>ai g 0) M 3 rfl (bT rfl T.fG) fun aZ w M=>bj (i:=0) (cs':= #[aa 2,aa e,aa n,aa ((i+1:Nat):Int),fV]) M 0 rfl rfl (dr (vs:= #[aa 2,aa e,aa n,aa ((i+1:Nat):Int),fV]) rfl rfl rfl T.fE rfl (M.row (i:=0) rfl) rfl (by obtain⟨fI,fm,bV⟩:=Reads.slice (M.reads 1 rfl);rw[bV];rfl) rfl) rfl fun w M=>ch 2 rfl rfl (rfl)<|ah 2 rfl (aE rfl rfl T.ec (M.row (i:=0) rfl) rfl)<|bo M 0 rfl (ar rfl rfl T.xv) (xE (M.bytes 1 rfl) bE) fun w M=>bh (ob:=.cells _ 45) (fun g=>ai g 0) M 3 rfl (bT rfl T.fu) fun bQ w M=>bj (i:=0) (cs':=(b4 q).1.cells.toArray) M 0 rfl rfl (cB (vs:=(b4 q).1.cells.toArray) rfl rfl rfl T.dV (Rec.size (eO q)) (M.row (i:=0) rfl) (rfl) (fun v aD=>Rec.eX _ v aD)) rfl fun w M=>bs 2 rfl rfl aj<|ah (v:=.bool _) 6 rfl rfl<|ah (v:=.bool _) 5 rfl rfl<|a1 (y:=((i+1+1:Nat):Int)) 2 rfl rfl ((br ae ae).trans ae)<|ct 1 rfl fun fr E=>?_;have M:=M.aH 6 rfl;have M:=M.aH 5 rfl;have M:=M.aH 6 rfl;have mq:¬aS [bB gX,bI gc X key] 1:=fun⟨e,he,al⟩=>(M.own e (List.mem_cons_of_mem _ ((List.sublist_append_left [bB gX,bI gc X key] _).subset he)) _ al).elim (fun h=>Nat.not_le_of_lt (Array.getElem?_eq_some_iff.1 ab).1 h) cj;refine⟨2-(i+1),by omega,i+1,_,gX,U,by omega,by rw[dy];exact mo,mq,E.lL [0,1,5,6] rfl,Mem.take (L:=[.eI 45 _ (fQ A key (i+1)),bB gX,bI gc X key]) (M.as (by rw[uD (congrArg Prod.snd eP)];rfl))⟩
  ·obtain rfl:i=2:=by omega
   refine bA E<|ch 1 U U aN<|aU 3 U fun fr E=>?_;refine bi E U U ?_;have M:=M.aH 2 rfl;have M:=M.aH 2 rfl;have M:=M.aH 2 rfl;exact⟨(v,nr),U,Mem.fin (L:=[.eI 45 v (fQ A key 2),bB nr,bI gc X key]++_) M (List.sublist_append_left _ _) tj⟩
end
section
open Go.RowKit Go.a2 Go.Proofs Go.Proofs.Tryz
def late(lv:Int)(r:Rec):Bool:=decide (lv+1<r.cd)
def r4(q:Rec->Bool)(l:List Rec):Int:=match l.findIdx? q with|some i=>i|none=> -1
theorem G1{q:Rec->Bool}{l:List Rec}(h:∀j,∀ax:j<l.length,q l[j]=false):r4 q l= -1:=by
 have:l.findIdx? q=none:=by
  rw[List.findIdx?_eq_none_iff];intro x ad;obtain⟨j,ax,rfl⟩:=List.getElem_of_mem ad;simp[h j ax]
 simp[r4,this]
theorem G2{q:Rec->Bool}{l:List Rec}{i:Nat}(hi:i<l.length)(h:q l[i]=true)(eB:∀j,j<i->∀ax:j<l.length,q l[j]=false):r4 q l=(i:Int):=by
 have:l.findIdx? q=some i:=by
  rw[List.findIdx?_eq_some_iff_getElem];exact⟨hi,h,fun j ax=>by simp[eB j ax ae]⟩
 simp[r4,this]
theorem Qf{lv:Int}{l:List Rec}(h:¬∀j,∀ax:j<l.length,late lv l[j]=false):∃i,∃hi:i<l.length,late lv l[i]=true/\∀j,j<i->∀ax:j<l.length,late lv l[j]=false:=by
 cases bu:l.findIdx? (late lv)with
 |none=>
  rw[List.findIdx?_eq_none_iff]at bu;exact absurd (fun j ax=>by simpa using bu _ (List.getElem_mem ax)) h
 |some i=>
  rw[List.findIdx?_eq_some_iff_getElem]at bu;obtain⟨hi,aj,an⟩:=bu;exact⟨i,hi,aj,fun j ax hc=>by simpa using an j ax⟩
theorem filter_all{lv:Int}{l:List Rec}(h:∀j,∀ax:j<l.length,late lv l[j]=false):(l.filter fun r=> !late lv r)=l:=by
 rw[List.filter_eq_self];intro x ad;obtain⟨j,ax,rfl⟩:=List.getElem_of_mem ad;simp[h j ax]
theorem Fl{lv:Int}{l:List Rec}{j:Nat}(ax:j<l.length):((l.take (j+1)).filter fun r=> !late lv r)=((l.take j).filter fun r=> !late lv r)++(if late lv l[j]then []else [l[j]]):=by
 rw[List.take_succ_eq_append_getElem ax,List.filter_append];cases h:late lv l[j]<;>simp[h]
theorem Fk{lv:Int}{l:List Rec}{j:Nat}(ax:j<l.length)(h:late lv l[j]=true):((l.take (j+1)).filter fun r=> !late lv r)=((l.take j).filter fun r=> !late lv r):=by
 rw[Fl ax,h];simp
theorem Qg{lv:Int}{l:List Rec}{i:Nat}(hi:i<l.length)(h:late lv l[i]=true)(eB:∀j,j<i->∀ax:j<l.length,late lv l[j]=false):l.take i=((l.take (i+1)).filter fun r=> !late lv r):=by
 rw[Fk hi h,filter_all];intro j ax;rw[List.getElem_take];exact eB j (by simp at ax;omega) _
theorem P3{a b:List Rec}{j:Nat}(h:a.drop j=b.drop j)(bm:j<a.length)(ak:j<b.length):a[j]=b[j]:=by
 have:=congrArg (fun l=>l[0]?) h;simpa [List.getElem?_drop,bm,ak]using this
theorem E9{a b:List Rec}{j:Nat}(h:a.drop j=b.drop j):a.drop (j+1)=b.drop (j+1):=by
 have:=congrArg (fun l=>l.drop 1) h;simpa [List.drop_drop]using this
theorem Tp{a b:List Rec}{j k:Nat}{r:Rec}(h:a.drop j=b.drop j)(ab:k<j):(a.set k r).drop (j+1)=b.drop (j+1):=by
 rw[List.drop_set_of_lt ae];exact E9 h
theorem Tq{lv:Int}{l dz:List Rec}{j k:Nat}(ab:k<dz.length)(h:dz.take k=((l.take j).filter fun r=> !late lv r))(ax:j<l.length)(bE:late lv l[j]=false):(dz.set k l[j]).take (k+1)=((l.take (j+1)).filter fun r=> !late lv r):=by
 rw[Fl ax,bE,<-h,List.take_succ_eq_append_getElem (by simpa using ab),List.take_set_of_le (Nat.le_refl k),List.getElem_set_self];rfl
def kX(b:Rec)(l:List Rec):Rec:=l.foldl (fun b r=>if b.cd<r.cd then r else b) b
theorem Ie{b:Rec}{l:List Rec}(ak:b.Ok)(aI:hG l):(kX b l).Ok:=by
 induction l generalizing b with
 |nil=>exact ak
 |cons r l ck=>
  refine ck (b:=if b.cd<r.cd then r else b) ?_ fun x ad=>aI x (List.mem_cons_of_mem _ ad);split
  ·exact aI r (List.mem_cons_self ..)
  ·exact ak
theorem U3(b:Rec)(l:List Rec)(r:Rec):kX b (l++[r])=if(kX b l).cd<r.cd then r else kX b l:=by
 unfold kX;rw[List.foldl_append];rfl
theorem If{b:Rec}{l:List Rec}{i:Nat}(hi:i<l.length):kX b (l.take (i+1))=if(kX b (l.take i)).cd<(l[i]).cd then l[i]else kX b (l.take i):=by
 rw[List.take_succ_eq_append_getElem hi,U3]
def choice(lv:Int)(l:List Rec):Option Rec:=match l.filter fun r=> !late lv r with|[]=>none|r::k=>some (kX r (r::k))
theorem PS{lv:Int}{l:List Rec}{r:Rec}(h:choice lv l=some r):∃cG:0<(l.filter fun r=> !late lv r).length,kX ((l.filter fun r=> !late lv r)[0]) (l.filter fun r=> !late lv r)=r:=by
 unfold choice at h;split at h
 ·cases h
 ·rename_i x k ab;injection h with h;simp only[ab];exact⟨by simp,h⟩
theorem TE{r:Rec}{lv:Int}{g:Nat}{w0:World}(ap:r.Ok)(GQ: -9223372036854775808<=r.cd)(GR:r.cd<=9223372036854775807)(jP: -9223372036854775808<=lv)(al:w0.heap[g]? =some (.cells #[aa lv] 3))(aj:lv<r.cd)(an:¬r.cd-1=lv):bH prog 93 [r.val,ai g 0] w0 (.bool true):=by
 refine enter (n:=15) func93 U U U ?_;intro fr E;have M:=Mem.begin (Φ:=fun w'=>w'.heap[g]? =some (.cells #[aa lv] 3)) (Has.nil w0) (fun w' h=>xP al h);refine aV E<|bh (ob:=.cells (r.cells.toArray) 45) (fun g=>ai g 0) M 0 U (cS (cs:=(r.cells.toArray)) U U) fun aZ w M=>ah (v:=aa _) 2 U (aE U U T.bc (M.row (i:=0) U) Rec.h1)<|ah (v:=aa lv) 0 U (aE U U T.bc (M.fact) U)<|bD 0 U U ae<|ah (v:=aa _) 2 U (aE U U T.bc (M.row (i:=0) U) Rec.h1)<|a1 (y:=r.cd-1) 0 U U (br ae ae)<|ah (v:=aa lv) 0 U (aE U U T.bc (M.fact) U)<|ei 0 U U (by simp;omega)<|ah (v:=.bool _) 0 U U<|aU 1 U fun fr E=>?_;refine bi E U U ?_;exact bX M
theorem TF{r:Rec}{lv:Int}{g:Nat}{w0:World}(ap:r.Ok)(GQ: -9223372036854775808<=r.cd)(GR:r.cd<=9223372036854775807)(jP: -9223372036854775808<=lv)(al:w0.heap[g]? =some (.cells #[aa lv] 3))(aj:lv<r.cd)(an:r.cd-1=lv):bH prog 93 [r.val,ai g 0] w0 (.bool false):=by
 refine enter (n:=15) func93 U U U ?_;intro fr E;have M:=Mem.begin (Φ:=fun w'=>w'.heap[g]? =some (.cells #[aa lv] 3)) (Has.nil w0) (fun w' h=>xP al h);refine aV E<|bh (ob:=.cells (r.cells.toArray) 45) (fun g=>ai g 0) M 0 U (cS (cs:=(r.cells.toArray)) U U) fun aZ w M=>ah (v:=aa _) 2 U (aE U U T.bc (M.row (i:=0) U) Rec.h1)<|ah (v:=aa lv) 0 U (aE U U T.bc (M.fact) U)<|bD 0 U U ae<|ah (v:=aa _) 2 U (aE U U T.bc (M.row (i:=0) U) Rec.h1)<|a1 (y:=r.cd-1) 0 U U (br ae ae)<|ah (v:=aa lv) 0 U (aE U U T.bc (M.fact) U)<|ch 0 U U (by simp;omega)<|ah (v:=.bool _) 0 U U<|aU 1 U fun fr E=>?_;refine bi E U U ?_;exact bX M
theorem TG{r:Rec}{lv:Int}{g:Nat}{w0:World}(ap:r.Ok)(GQ: -9223372036854775808<=r.cd)(GR:r.cd<=9223372036854775807)(jP: -9223372036854775808<=lv)(al:w0.heap[g]? =some (.cells #[aa lv] 3))(aj:¬lv<r.cd):bH prog 93 [r.val,ai g 0] w0 (.bool false):=by
 refine enter (n:=15) func93 U U U ?_;intro fr E;have M:=Mem.begin (Φ:=fun w'=>w'.heap[g]? =some (.cells #[aa lv] 3)) (Has.nil w0) (fun w' h=>xP al h);refine aV E<|bh (ob:=.cells (r.cells.toArray) 45) (fun g=>ai g 0) M 0 U (cS (cs:=(r.cells.toArray)) U U) fun aZ w M=>ah (v:=aa _) 2 U (aE U U T.bc (M.row (i:=0) U) Rec.h1)<|ah (v:=aa lv) 0 U (aE U U T.bc (M.fact) U)<|bs 0 U U ae<|ah (v:=.bool _) 6 U U<|aU 1 U fun fr E=>?_;refine bi E U U ?_;exact bX M
theorem x7{r:Rec}{lv:Int}{g:Nat}{w0:World}(ap:r.Ok)(aP:p7 r)(jP: -9223372036854775808<=lv)(al:w0.heap[g]? =some (.cells #[aa lv] 3)):bH prog 93 [r.val,ai g 0] w0 (.bool (late lv r)):=by
 by_cases aj:lv<r.cd
 ·by_cases an:r.cd-1=lv
  ·rw[show late lv r=false from decide_eq_false ae];exact TF ap aP.1 aP.2 jP al aj an
  ·rw[show late lv r=true from decide_eq_true ae];exact TE ap aP.1 aP.2 jP al aj an
 ·rw[show late lv r=false from decide_eq_false ae];exact TG ap aP.1 aP.2 jP al aj
theorem DH{b:Value}{l:List Rec}{lv:Int}{g:Nat}{w0:World}(ak:jn w0 b l)(al:w0.heap[g]? =some (.cells #[aa lv] 3))(aF:hG l)(aP:∀r∈l,p7 r)(jP: -9223372036854775808<=lv)(au:l.length<=300):bH prog 155 [b,(.func (.func 93) #[] #[ai g 0])] w0 (aa (r4 (late lv) l)):=by
 refine enter (n:=19) func155 U U U ?_;intro fr E;have M:=Mem.begin (Φ:=fun w'=>jn w' b l/\w'.heap[g]? =some (.cells #[aa lv] 3)) (Has.nil w0) (fun w' h=>⟨ak.bU h,xP al h⟩);refine aV E<|ah 2 U (bx U U U U T.gd M.fact.1)<|bw 1 U fun fr E=>?_;refine cI (fun d fr w=>∃i:Nat,d=l.length-i/\i<=l.length/\(∀j,j<i->∀ax:j<l.length,late lv l[j]=false)/\Env [(8,aa i),(7,aa l.length),(6,b),(1,(.func (.func 93) #[] #[ai g 0])),(0,b)] 19 fr/\Mem w0 (aS []) [] (fun w'=>jn w' b l/\w'.heap[g]? =some (.cells #[aa lv] 3)) w) (l.length) ?_ ?_
 ·refine⟨0,U,Nat.zero_le _,fun j ax=>absurd ax ae,E.lL [0,1,6,7,8] rfl,M⟩
 ·clear E M;rintro d fr w ⟨i,rfl,hle,eB,E,M⟩;by_cases hi:i<l.length
  ·cases l5:late lv l[i]with
   |false=>
    refine bA E<|bD 0 U U ae<|ah 6 U (bL (i:=i) U M.fact.1 U U (rfl) (hi) T.gd T.dV)<|ah (v:=.agg (l[i]).cells.toArray) 0 U (hU U M.fact.1 U T.da ae ae (pP aF hi))<|bo M 0 U (yK (cs:=[ai g 0]) U U T.xz) (x7 (aF.get hi) (aP _ (List.getElem_mem hi)) jP M.fact.2) fun w M=>fun fr E=>?_;rw[l5]at E;refine bN E<|a1 (y:=((i+1:Nat):Int)) 1 U U ((br ae ae).trans ae)<|ct 1 U fun fr E=>?_;refine⟨l.length-(i+1),by omega,i+1,U,by omega,fun j ax hc=>?_,E.lL [0,1,6,7,8] rfl,M⟩;rcases Nat.lt_or_eq_of_le (Nat.le_of_lt_succ ax)with h|rfl
    ·exact eB j h hc
    ·exact l5
   |true=>
    refine bA E<|bD 0 U U ae<|ah 6 U (bL (i:=i) U M.fact.1 U U (rfl) (hi) T.gd T.dV)<|ah (v:=.agg (l[i]).cells.toArray) 0 U (hU U M.fact.1 U T.da ae ae (pP aF hi))<|bo M 0 U (yK (cs:=[ai g 0]) U U T.xz) (x7 (aF.get hi) (aP _ (List.getElem_mem hi)) jP M.fact.2) fun w M=>fun fr E=>?_;rw[l5]at E;refine bN E<|aU 3 U fun fr E=>?_;refine bi E U U ?_;have e:r4 (late lv) l=(i:Int):=G2 hi l5 eB;rw[e];exact bX M
  ·refine bA E<|bs 0 U U ae<|aU 2 U fun fr E=>?_;refine bi E U U ?_;have e:r4 (late lv) l= -1:=G1 fun j ax=>eB j ae ax;rw[e];exact bX M
theorem L2{v:Value}{l:List Rec}{lv:Int}{g:Nat}{w0:World}(H:Has w0 [.eI 45 v l,.bb g (.cells #[aa lv] 3)])(aF:hG l)(aP:∀r∈l,p7 r)(jP: -9223372036854775808<=lv)(au:l.length<=300)(a6:∀j,∀ax:j<l.length,late lv l[j]=false):aY prog 94 [v,(.func (.func 93) #[] #[ai g 0])] w0 [.eI 45 v l,.bb g (.cells #[aa lv] 3)] (fun x:Value=>x) (fun x=>[.sx x (l.filter fun r=> !late lv r),.bb g (.cells #[aa lv] 3)]) (fun _=>True):=by
 refine enter (n:=42) func94 U U U ?_;intro fr E;have M:=ht H;refine aV E<|bo M 3 U (ar U U T.Fz) (DH (M.reads 0 U) (M.row (i:=1) U) aF aP jP au) fun w M=>fun fr E=>?_;rw[G1 a6]at E;refine bN E<|ei 2 U U (rfl)<|aU 3 U fun fr E=>?_;refine bi E U U ?_;have M:=(M.Ot 0 rfl).as (L':=[.sx v (l.filter fun r=> !late lv r),.bb g (.cells #[aa lv] 3)]) (by rw[filter_all a6];rfl);exact⟨_,U,M.fin (.refl _) trivial⟩
theorem L3{v:Value}{l:List Rec}{lv:Int}{g:Nat}{w0:World}(H:Has w0 [.eI 45 v l,.bb g (.cells #[aa lv] 3)])(aF:hG l)(aP:∀r∈l,p7 r)(jP: -9223372036854775808<=lv)(au:l.length<=300){i:Nat}(hi:i<l.length)(aI:late lv l[i]=true)(eB:∀j,j<i->∀ax:j<l.length,late lv l[j]=false):aY prog 94 [v,(.func (.func 93) #[] #[ai g 0])] w0 [.eI 45 v l,.bb g (.cells #[aa lv] 3)] (fun x:Value=>x) (fun x=>[.sx x (l.filter fun r=> !late lv r),.bb g (.cells #[aa lv] 3)]) (fun _=>True):=by
 refine enter (n:=42) func94 U U U ?_;intro fr E;have M:=ht H;refine aV E<|bo M 3 U (ar U U T.Fz) (DH (M.reads 0 U) (M.row (i:=1) U) aF aP jP au) fun w M=>fun fr E=>?_;rw[G2 hi aI eB]at E;refine bN E<|bs 2 U U ae<|a1 (y:=((i+1:Nat):Int)) 2 U U ((br ae ae).trans ae)<|bw 1 U fun fr E=>?_;refine cI (fun d fr w=>∃(j k:Nat) (dz:List Rec),d=l.length-j/\j<=l.length/\k<j/\hG dz/\dz.length=l.length/\dz.take k=((l.take j).filter fun r=> !late lv r)/\dz.drop j=l.drop j/\Env [(6,aa j),(5,aa k),(1,(.func (.func 93) #[] #[ai g 0])),(0,v)] 42 fr/\Mem w0 (aS [.eI 45 v l,.bb g (.cells #[aa lv] 3)]) [.eI 45 v dz,.bb g (.cells #[aa lv] 3)] (fun _=>True) w) (l.length-(i+1)) ?_ ?_
 ·refine⟨i+1,i,l,U,by omega,by omega,aF,U,Qg hi aI eB,U,E.lL [0,1,5,6] rfl,M⟩
 ·clear E M;rintro d fr w ⟨j,k,dz,rfl,hle,vo,tp,iT,mw,ve,E,M⟩;by_cases ax:j<l.length
  ·have Gs:dz[j]'ae=l[j]:=P3 ve ae ax;cases l5:late lv l[j]with
   |false=>
    refine bA E<|ah 2 U (bx U U U U T.gd (M.reads 0 U))<|bD 0 U U ae<|ah 3 U (bL (i:=j) U (M.reads 0 U) U U (rfl) (ae) T.gd T.dV)<|ah (v:=.agg (l[j]).cells.toArray) 0 U (hU U (M.reads 0 U) U T.da ae ae ((pP tp ae).trans (congrArg Rec.cells Gs)))<|bh (ob:=.cells _ 45) (fun g=>ai g 0) M 0 U (bT U T.fu) fun aZ w M=>bj (i:=0) (cs':=(l[j]).cells.toArray) M 0 U U (cB (vs:=(l[j]).cells.toArray) U U U T.dV (Rec.size (aF.get ax)) (M.row (i:=0) U) (rfl) (fun v aD=>Rec.eX _ v aD)) U fun w M=>ah (v:=.agg (l[j]).cells.toArray) 1 U (cW U U T.da (M.row (i:=0) U) (Rec.size (aF.get ax)))<|bo M 0 U (yK (cs:=[ai g 0]) U U T.xz) (x7 (aF.get ax) (aP _ (List.getElem_mem ax)) jP (M.row (i:=2) U)) fun w M=>fun fr E=>?_;rw[l5]at E;refine bN E<|ei 0 U U (rfl)<|ah (v:=.agg (l[j]).cells.toArray) 3 U (cW U U T.da (M.row (i:=0) U) (Rec.size (aF.get ax)))<|ah 0 U (bL (i:=k) U (M.reads 1 U) U U (rfl) (ae) T.gd T.dV)<|cv 0 U fun fr E=>?_;refine Xn (i:=1) (k:=k) (r:=l[j]) E M U U U U U U U U T.dV ae (aF.get ax) (tp) fun fr w M E=>?_;refine cw E<|a1 (y:=((k+1:Nat):Int)) 1 U U ((br ae ae).trans ae)<|a1 (y:=((j+1:Nat):Int)) 2 U U ((br ae ae).trans ae)<|ct 1 U fun fr E=>?_;refine⟨l.length-(j+1),by omega,j+1,k+1,dz.set k l[j],U,by omega,by omega,tp.set (aF.get ax),(List.length_set ..).trans iT,Tq ae mw ax l5,Tp ve vo,E.lL [0,1,5,6] rfl,M.sub (.cons _ (.refl _))⟩
   |true=>
    refine bA E<|ah 2 U (bx U U U U T.gd (M.reads 0 U))<|bD 0 U U ae<|ah 3 U (bL (i:=j) U (M.reads 0 U) U U (rfl) (ae) T.gd T.dV)<|ah (v:=.agg (l[j]).cells.toArray) 0 U (hU U (M.reads 0 U) U T.da ae ae ((pP tp ae).trans (congrArg Rec.cells Gs)))<|bh (ob:=.cells _ 45) (fun g=>ai g 0) M 0 U (bT U T.fu) fun bQ w M=>bj (i:=0) (cs':=(l[j]).cells.toArray) M 0 U U (cB (vs:=(l[j]).cells.toArray) U U U T.dV (Rec.size (aF.get ax)) (M.row (i:=0) U) (rfl) (fun v aD=>Rec.eX _ v aD)) U fun w M=>ah (v:=.agg (l[j]).cells.toArray) 1 U (cW U U T.da (M.row (i:=0) U) (Rec.size (aF.get ax)))<|bo M 0 U (yK (cs:=[ai g 0]) U U T.xz) (x7 (aF.get ax) (aP _ (List.getElem_mem ax)) jP (M.row (i:=2) U)) fun w M=>fun fr E=>?_;rw[l5]at E;refine bN E<|ch 0 U U (rfl)<|a1 (y:=((j+1:Nat):Int)) 2 U U ((br ae ae).trans ae)<|ct 1 U fun fr E=>?_;refine⟨l.length-(j+1),by omega,j+1,k,dz,U,by omega,by omega,tp,iT,mw.trans (Fk ax l5).symm,E9 ve,E.lL [0,1,5,6] rfl,M.sub (.cons _ (.refl _))⟩
  ·obtain rfl:j=l.length:=by omega
   refine bA E<|ah 2 U (bx U U U U T.gd (M.reads 0 U))<|bs 0 U U ae<|ah 3 U (ew (lo:=k) (hi:=dz.length) U (M.reads 0 U) U T.gd T.dV (⟨_,_,U,U⟩) (rfl) ae (Nat.le_refl _))<|cv 0 U fun fr E=>?_;refine W7 (i:=0) (k:=k) (m:=dz.length) E M U U U U U U U U U ae T.gd T.aaT (Rec.size Rec.e0) aN (Rec.eX _) fun EV fr w rS m6 M E=>?_;refine cw E<|ah 2 U (ew (lo:=0) (hi:=k) U (M.reads 0 U) U T.gd T.dV (rfl) (⟨_,_,U,U⟩) (Nat.zero_le _) ae)<|aU 1 U fun fr E=>?_;refine bi E U U ?_;have kO:k=((l.filter fun r=> !late lv r)).length:=by rw[List.take_length]at mw;rw[<-mw,List.length_take];omega
   have M:=(M.Oq 0 k rfl ae).as (L':=[.sx (e2 136 v 0 k) (l.filter fun r=> !late lv r),.bb g (.cells #[aa lv] 3)]) (by rw[m6,IA tp ae,mw,List.take_length];unfold az.sx;rw[<-kO];rfl);exact⟨_,U,M.fin (.refl _) trivial⟩
theorem L4{v:Value}{l:List Rec}{lv:Int}{g:Nat}{w0:World}(H:Has w0 [.eI 45 v l,.bb g (.cells #[aa lv] 3)])(aF:hG l)(aP:∀r∈l,p7 r)(jP: -9223372036854775808<=lv)(au:l.length<=300):aY prog 94 [v,(.func (.func 93) #[] #[ai g 0])] w0 [.eI 45 v l,.bb g (.cells #[aa lv] 3)] (fun x:Value=>x) (fun x=>[.sx x (l.filter fun r=> !late lv r),.bb g (.cells #[aa lv] 3)]) (fun _=>True):=by
 by_cases a6:∀j,∀ax:j<l.length,late lv l[j]=false
 ·exact L2 H aF aP jP au a6
 ·obtain⟨i,hi,aI,eB⟩:=Qf a6;exact L3 H aF aP jP au hi aI eB
theorem LM(w0:World):aY prog 95 [.slice none 0 0] w0 [] (fun s:Value=>s) (fun s=>[.eI 45 s []]) (fun _=>True):=by
 refine enter (n:=8) func95 U U U ?_;intro fr E;have M:=ht (Has.nil w0);refine aV E<|ah (v:=.bool true) 2 U (wb U U U T.gd U)<|aU 2 U fun fr E=>?_;refine bi E U U ?_;have M:=M.yk 45;exact⟨_,U,M.fin (.refl _) trivial⟩
theorem LN{g off c:Nat}{l:List Rec}{w0:World}(ak:jn w0 (.slice (some ⟨g,off,none⟩) l.length c) l)(au:l.length<=300):aY prog 95 [.slice (some ⟨g,off,none⟩) l.length c] w0 [] (fun s:Value=>s) (fun s=>[.eI 45 s l]) (fun _=>True):=by
 refine enter (n:=8) func95 U U U ?_;intro fr E;have M:=Mem.begin (Φ:=fun w'=>jn w' (.slice (some ⟨g,off,none⟩) l.length c) l) (Has.nil w0) (fun w' h=>ak.bU h);refine aV E<|ah (v:=.bool false) 2 U (wb U U U T.gd U)<|cv 1 U fun fr E=>?_;refine dM (sz:=136) (xs:=hh []) E M U U U U U (lP U T.gd U) (rfl) (Nat.le_refl _) aN (rfl) fun o fr w M E=>?_;refine cw E<|cv 1 U fun fr E=>?_;refine oM (i:=0) E M U U U U U U U U U U U T.gd T.gd T.zr T.w7 aN M.fact (VL l) ae fun o fr w M E=>?_;refine cw E<|aU 1 U fun fr E=>?_;refine bi E U U ?_;have M:=M.as (L':=[.eI 45 o l]) (by simp);exact⟨_,U,M.fin (.refl _) trivial⟩
theorem LO{b:Value}{l:List Rec}{w0:World}(ak:jn w0 b l)(au:l.length<=300):aY prog 95 [b] w0 [] (fun s:Value=>s) (fun s=>[.eI 45 s l]) (fun _=>True):=by
 rcases ak.2 with⟨rfl,h⟩|⟨g,off,c,rfl,_⟩
 ·have e:l=[]:=List.eq_nil_of_length_eq_zero h;subst e;exact LM w0
 ·exact LN ak au
theorem LL{a:Value}{l:List Rec}{lv:Int}{w0:World}(bm:jn w0 a l)(aF:hG l)(aP:∀r∈l,p7 r)(jP: -9223372036854775808<=lv)(au:l.length<=300){r:Rec}(aJ:choice lv l=some r):bH prog 45 [a,aa lv] w0 (.tuple #[r.val,.bool true]):=by
 refine enter (n:=36) func45 U U U ?_;intro fr E;have M:=Mem.begin (Φ:=fun w'=>jn w' a l) (Has.nil w0) (fun w' h=>bm.bU h);obtain⟨cG,ap⟩:=PS aJ;subst ap;have m2:hG (l.filter fun r=> !late lv r):=aF.sub fun r ap=>(List.mem_filter.1 ap).1;have abc:((l.filter fun r=> !late lv r)).length<=300:=Nat.le_trans (List.length_filter_le _ _) au;generalize RW:(l.filter fun r=> !late lv r)=F at*;refine aV E<|bh (ob:=.cells #[_] 3) (fun g=>ai g 0) M 0 U (Ca (v:=_) U U U) fun aZ w M=>bh (ob:=.cells _ 45) (fun g=>ai g 0) M 0 U (bT U T.fu) fun bQ w M=>ah (v:=.func (.func 93) #[] #[ai aZ 0]) 1 U (Wr U U)<|cP M 2 U (ar U U T.Rf) (LO M.fact au) U fun bk w _ M=>fun fr E=>?_;have M:=M.aH 2 rfl;have M:=M.aH 1 rfl;refine bN E<|bC ([.eI 45 bk l,.bb aZ (.cells #[aa lv] 3)]) M 1 U (ar U U T.Re) U (fun H=>L4 (lv:=lv) (g:=aZ) H aF aP jP au) fun eA w _ M=>fun fr E=>?_;rw[RW]at M;refine bN E<|ah 2 U (bx U U U U T.gd (M.parts 0 U))<|bs 0 U U ae<|ah 2 U (bL (i:=0) U (M.parts 0 U) U U (rfl) (cG) T.gd T.dV)<|ah (v:=.agg (F[0]).cells.toArray) 0 U (hU U (M.parts 0 U) U T.da ae ae (pP m2 cG))<|bh (ob:=.cells _ 45) (fun g=>ai g 0) M 0 U (bT U T.fu) fun cF w M=>bj (i:=0) (cs':=(F[0]).cells.toArray) M 0 U U (cB (vs:=(F[0]).cells.toArray) U U U T.dV (Rec.size (m2.get cG)) (M.row (i:=0) U) (rfl) (fun v aD=>Rec.eX _ v aD)) U fun w M=>ah 1 U (bx U U U U T.gd (M.parts 1 U))<|bw 1 U fun fr E=>?_;refine cI (fun d fr w=>∃i:Nat,d=F.length-i/\i<=F.length/\Env [(24,aa i),(23,aa F.length),(22,eA),(7,ai cF 0),(4,ai bQ 0)] 36 fr/\Mem w0 (aS []) [.bb cF (.cells (kX F[0] (F.take i)).cells.toArray 45),.sx eA F,.bb aZ (.cells #[aa lv] 3),.bb bQ (.cells Rec.zero.cells.toArray 45)] (fun w'=>jn w' a l) w) (F.length) ?_ ?_
 ·refine⟨0,U,Nat.zero_le _,E.lL [4,7,22,23,24] rfl,M⟩
 ·clear E M;rintro d fr w ⟨i,rfl,hle,E,M⟩;by_cases hi:i<F.length
  ·have jy:(kX F[0] (F.take i)).Ok:=Ie (m2.get cG) (m2.take i);by_cases rS:(kX F[0] (F.take i)).cd<(F[i]).cd
   ·refine bA E<|bD 0 U U ae<|ah 1 U (bL (i:=i) U (M.parts 1 U) U U (rfl) (hi) T.gd T.dV)<|ah (v:=.agg (F[i]).cells.toArray) 0 U (hU U (M.parts 1 U) U T.da ae ae (pP m2 hi))<|bh (ob:=.cells _ 45) (fun g=>ai g 0) M 0 U (bT U T.fu) fun gR w M=>bj (i:=0) (cs':=(F[i]).cells.toArray) M 0 U U (cB (vs:=(F[i]).cells.toArray) U U U T.dV (Rec.size (m2.get hi)) (M.row (i:=0) U) (rfl) (fun v aD=>Rec.eX _ v aD)) U fun w M=>ah (v:=aa _) 1 U (aE U U T.bc (M.row (i:=0) U) Rec.h1)<|ah (v:=aa _) 1 U (aE U U T.bc (M.row (i:=1) U) Rec.h1)<|bD 0 U U ae<|ah (v:=.agg (F[i]).cells.toArray) 1 U (cW U U T.da (M.row (i:=0) U) (Rec.size (m2.get hi)))<|bj (i:=1) (cs':=(F[i]).cells.toArray) M 0 U U (cB (vs:=(F[i]).cells.toArray) U U U T.dV (Rec.size (m2.get hi)) (M.row (i:=1) U) (Rec.size jy) (fun v aD=>Rec.eX _ v aD)) U fun w M=>a1 (y:=((i+1:Nat):Int)) 0 U U ((br ae ae).trans ae)<|ct 1 U fun fr E=>?_;refine⟨F.length-(i+1),by omega,i+1,U,by omega,E.lL [4,7,22,23,24] rfl,(M.sub (.cons _ (.refl _))).as ?_⟩;rw[If hi,if_pos rS];rfl
   ·refine bA E<|bD 0 U U ae<|ah 1 U (bL (i:=i) U (M.parts 1 U) U U (rfl) (hi) T.gd T.dV)<|ah (v:=.agg (F[i]).cells.toArray) 0 U (hU U (M.parts 1 U) U T.da ae ae (pP m2 hi))<|bh (ob:=.cells _ 45) (fun g=>ai g 0) M 0 U (bT U T.fu) fun lF w M=>bj (i:=0) (cs':=(F[i]).cells.toArray) M 0 U U (cB (vs:=(F[i]).cells.toArray) U U U T.dV (Rec.size (m2.get hi)) (M.row (i:=0) U) (rfl) (fun v aD=>Rec.eX _ v aD)) U fun w M=>ah (v:=aa _) 1 U (aE U U T.bc (M.row (i:=0) U) Rec.h1)<|ah (v:=aa _) 1 U (aE U U T.bc (M.row (i:=1) U) Rec.h1)<|bs 0 U U ae<|a1 (y:=((i+1:Nat):Int)) 1 U U ((br ae ae).trans ae)<|ct 1 U fun fr E=>?_;refine⟨F.length-(i+1),by omega,i+1,U,by omega,E.lL [4,7,22,23,24] rfl,(M.sub (.cons _ (.refl _))).as ?_⟩;rw[If hi,if_neg rS]
  ·obtain rfl:i=F.length:=by omega
   rw[List.take_length]at M;have jy:(kX F[0] F).Ok:=Ie (m2.get cG) m2;refine bA E<|bs 0 U U ae<|ah (v:=.agg (kX F[0] F).cells.toArray) 1 U (cW U U T.da (M.row (i:=0) U) (Rec.size jy))<|bj (i:=3) (cs':=(kX F[0] F).cells.toArray) M 0 U U (cB (vs:=(kX F[0] F).cells.toArray) U U U T.dV (Rec.size jy) (M.row (i:=3) U) (Rec.size Rec.e0) (fun v aD=>Rec.eX _ v aD)) U fun w M=>aU 1 U fun fr E=>?_;refine fW E U U U T.da (M.row (i:=3) U) (Rec.size jy) ?_;exact bX M
end
section
open Go.RowKit Go.a2 Go.Proofs Go.Proofs.Tryz
theorem vG{a b:Int}(bm:fP a)(ak:fP b):(Rec.eR a b).fA:=⟨⟨bm,ak,(by decide:fP 2)⟩,.inl ⟨rfl,rfl⟩,(by decide:gh 0 0),(by decide:gh 0 0)⟩
abbrev zB:bz:=(bz.new 4).put (Rec.eR 1 2).at' (hD [] 2 (Rec.eR 1 2).bF 1 (Rec.eR 1 2).at' (Rec.eR 1 2).bytes)
abbrev sQ:bz:=zB.put (Rec.eR 2 3).at' (hD (iJ [] ((Rec.eR 1 2).key 1)) 2 (Rec.eR 2 3).bF 5 (Rec.eR 2 3).at' (Rec.eR 2 3).bytes)
theorem aai:ki sQ (iJ (iJ [] ((Rec.eR 1 2).key 1)) ((Rec.eR 2 3).key 5)) 2=[Rec.eR 2 3,Rec.eR 1 2]:=by
 obtain⟨abw,gn,jc⟩:=I5 [] ((Rec.eR 1 2).key 1);obtain⟨abx,fY,jr⟩:=I5 (iJ [] ((Rec.eR 1 2).key 1)) ((Rec.eR 2 3).key 5);obtain⟨r,ap⟩:=W8 (iJ [] ((Rec.eR 1 2).key 1)) ((Rec.eR 2 3).key 5);have cz:hS sQ (iJ (iJ [] ((Rec.eR 1 2).key 1)) ((Rec.eR 2 3).key 5)) 1=(Rec.eR 2 3,true):=H6 (Rec.j8 2 3) (vG aN aN) aN aN rfl (by rw[BX,if_pos aN]) fY jr;have c6:hS sQ (iJ (iJ [] ((Rec.eR 1 2).key 1)) ((Rec.eR 2 3).key 5)) 2=(Rec.eR 1 2,true):=H6 (Rec.j8 1 2) (vG aN aN) aN aN rfl (by rw[BX,if_neg aN,BX,if_pos aN]) (by rw[ap];exact HE gn) jc;rw[zF (by rw[yp,c6]),zF (by rw[yp,cz]),yp,yp,cz,c6];rfl
theorem UG{a b:Rec}(bm:a.Ok)(ak:b.Ok):hG [a,b]:=fun r ap=>by
 simp only[List.mem_cons,List.not_mem_nil,or_false]at ap;rcases ap with rfl|rfl<;>assumption
theorem Xr:∀r∈[Rec.eR 2 3,Rec.eR 1 2],p7 r:=fun r ap=>by
 simp only[List.mem_cons,List.not_mem_nil,or_false]at ap;rcases ap with rfl|rfl<;>(unfold p7 Rec.eR;decide)
theorem Dr(w0:World):bH prog 8 [] w0 (.bool true):=by
 refine enter (n:=77) func8 U U U ?_;intro fr E;have M:=ht (Has.nil w0);refine aV E<|cP M 1 U (ar U U T.FV) (EZ (k:=4) aN aN) U fun nZ w xI M=>ch 6 U U (rfl)<|cP M 1 U (ar U U T.Q1) (Ub _) U fun MF w ⟨cj,GU⟩ M=>ah 3 U U<|bo M 0 U (ar U U T.uT) (vT 1 2 _) fun w M=>fun fr E=>?_;have M:=M.aH 1 rfl;refine bN E<|bC ([ba nZ,cA MF]) M 0 U (ar U U T.AL) U (fun H=>Iu (g:=nZ.av) (A:=bz.new 4) (r:=Rec.eR 1 2) (num:=1) H xI (Rec.j8 1 2) (by rw[cj];decide) U) fun⟨ja,DM⟩ w ⟨xJ,rW,rY,GV⟩ M=>fun fr E=>?_;rw[cj,IC (Rec.j8 1 2) (vG aN aN) aN aN rfl rfl (by show 2<4;decide)]at xJ rY E;replace rY:DM.ks=iJ [] ((Rec.eR 1 2).key 1):=rY;replace xJ:ja.is nZ.av zB:=xJ;refine bN E<|ah 3 U U<|bo M 0 U (ar U U T.uT) (vT 2 3 _) fun w M=>bC ([ba ja,cA DM]) M 0 U (ar U U T.AL) U (fun H=>Iu (g:=nZ.av) (A:=zB) (r:=Rec.eR 2 3) (num:=5) H xJ (Rec.j8 2 3) (by rw[rY];exact Nat.le_trans (Ct _ _) aN) rW) fun⟨ez,n0⟩ w ⟨gj,vk,kO,abq⟩ M=>fun fr E=>?_;rw[rY,IC (Rec.j8 2 3) (vG aN aN) aN aN rfl rfl (by show 2<4;decide)]at gj kO E;replace kO:n0.ks=iJ (iJ [] ((Rec.eR 1 2).key 1)) ((Rec.eR 2 3).key 5):=kO;replace gj:ez.is nZ.av sQ:=gj;refine bN E<|ah 3 U U<|bC ([ba ez,cA n0]) M 0 U (ar U U T.FB) U (fun H=>LD (A:=sQ) (N:=n0) (g:=nZ.av) H gj (by rw[kO];exact Nat.le_trans (Ct _ _) (Nat.le_trans (Nat.succ_le_succ (Ct _ _)) aN)) (by show 2<4;decide) vk) fun⟨lv,wK⟩ w xK M=>fun fr E=>?_;have R2:ki sQ n0.ks 2=[Rec.eR 2 3,Rec.eR 1 2]:=by rw[kO];exact aai
 rw[R2]at M;refine bN E<|bo M 1 U (ar U U T.uT) (vT 1 2 _) fun w M=>cP M 0 U (ar U U T.rK) (uA (Rec.j8 1 2) (vG aN aN)) U fun abC w _ M=>bo M 6 U (ar U U T.Q2) (LL (l:=[Rec.eR 2 3,Rec.eR 1 2]) (lv:=1) (r:=Rec.eR 1 2) (M.reads 1 U) (UG (Rec.j8 2 3) (Rec.j8 1 2)) Xr aN aN (by rfl)) fun w M=>bh (ob:=.cells _ 45) (fun g=>ai g 0) M 3 U (bT U T.fu) fun aZ w M=>bj (i:=0) (cs':=(Rec.eR 1 2).cells.toArray) M 0 U U (cB (vs:=(Rec.eR 1 2).cells.toArray) U U U T.dV (Rec.size (Rec.j8 1 2)) (M.row (i:=0) U) (rfl) (fun v aD=>Rec.eX _ v aD)) U fun w M=>bw 1 U fun fr E=>?_;refine(dR (B:=T.KO) (Vs:=(.af _:: .af (.bool true):: .af _:: .af _:: .af (.bool true):: .af (.bool _):: .af _:: .af _:: .af (.bool true):: .af (.bool _):: .af _:: .af _:: .af (aa _):: .af (.bool true):: .af (.bool _):: .af _:: .af _:: .af (aa _):: .af (.bool true):: .af (.bool _):: .af _:: .af _:: .af _:: .af (.agg (Rec.eR 2 3).cells.toArray):: .af ((Rec.eR 2 3).val):: .af (.bool true):: .af (.bool _):: .af _:: .af _:: .af (.bool _):: .af _:: .af (.agg (Rec.eR 1 2).cells.toArray):: .af ((Rec.eR 1 2).val):: .af (.bool true):: .af (.bool _):: .af _::[])) T.Zr E T.mixed T.Zq U (ej.e6 U) ⟨aw U U,
   aC U U (fun x w ad ab=>eZ U (rfl)),
   aw U U,
   aw U U,
   aC U U (fun x w ad ab=>eZ U (rfl)),
   aC U U (fun x w ad ab=>rfl),
   aw U U,
   aw U U,
   aC U U (fun x w ad ab=>eZ U (rfl)),
   aC U U (fun x w ad ab=>rfl),
   aw U U,
   aw U U,
   aC U U (fun x w ad ab=>bx U U U U T.aG ((M.aQ ad).reads 1 U)),
   aC U U (fun x w ad ab=>eZ U (by rw[Rec.sY (Rec.j8 1 2)];rfl)),
   aC U U (fun x w ad ab=>rfl),
   aw U U,
   aw U U,
   aC U U (fun x w ad ab=>bx U U U U T.gd ((M.aQ ad).reads 2 U)),
   aC U U (fun x w ad ab=>eZ U (rfl)),
   aC U U (fun x w ad ab=>rfl),
   aw U U,
   aw U U,
   aC U U (fun x w ad ab=>bL (i:=0) U ((M.aQ ad).reads 2 U) U U (rfl) (by simp) T.gd T.dV),
   aC U U (fun x w ad ab=>hU (k:=0*136) U ((M.aQ ad).reads 2 U) U T.da (by simp) aN (by simp[hh,List.take_left' (Rec.len (Rec.j8 2 3))])),
   cE U U (fun x w ad ab=>⟨_,_,U,U,U,ar U U T.uT,(vT 2 3 _).ext⟩),
   aC U U (fun x w ad ab=>oL (b:=true) (xs:=(Rec.eR 2 3).cells) (ys:=(Rec.eR 2 3).cells) U U U T.An (Rec.fit (Rec.j8 2 3)) (Rec.fit (Rec.j8 2 3)) (by simp)),
   aC U U (fun x w ad ab=>rfl),
   aw U U,
   aw U U,
   aC U U (fun x w ad ab=>rfl),
   aw U U,
   aC U U (fun x w ad ab=>cW U U T.da ((M.aQ ad).row (i:=0) U) (Rec.size (Rec.j8 1 2))),
   cE U U (fun x w ad ab=>⟨_,_,U,U,U,ar U U T.uT,(vT 1 2 _).ext⟩),
   aC U U (fun x w ad ab=>oL (b:=true) (xs:=(Rec.eR 1 2).cells) (ys:=(Rec.eR 1 2).cells) U U U T.An (Rec.fit (Rec.j8 1 2)) (Rec.fit (Rec.j8 1 2)) (by simp)),
   aC U U (fun x w ad ab=>rfl),
   aw U U,ay⟩ ?_)
 intro x fr w ad ab E;have M:=M.ext ad;refine cm E<|aU 0 U fun fr E=>?_;refine bi E U U ?_;exact bX M
end
end Go.Proofs.YtckdfgknodedoaaGreatDoor.K
section
end
section
end
section
end
namespace Go.Proofs.YtckdfgknodedoaaGreatDoor.K
section
open Go.RowKit Go.a2 Go.Proofs Go.Proofs.Tryz
theorem LR{fR:Addr}(w0:World):aY prog 64 [.slice (some fR) 0 0] w0 [] (fun s:Value=>s) (fun s=>[.bytes 5 s []]) (fun _=>True):=by
 refine enter (n:=8) func64 U U U ?_;intro fr E;have M:=ht (Has.nil w0);refine aV E<|ah (v:=.bool false) 2 U (wb U U U T.aG U)<|cv 1 U fun fr E=>?_;refine dM (sz:=1) (xs:=ao []) E M U U U U U (lP U T.aG U) (rfl) (Nat.le_refl _) aN (rfl) fun o fr w M E=>?_;refine cw E<|cv 1 U fun fr E=>?_;refine W0 (i:=0) (sz:=1) (k:=0) (m:=0) (xs:=[]) (news:=[]) (bytes:=1) E M U U U U U U U U U U U T.aG T.aG T.eh T.ef aN (Xl T.aG) aN fun o fr w M E=>?_;refine cw E<|aU 1 U fun fr E=>?_;refine bi E U U ?_;exact⟨_,U,Mem.fin (L:=[.bytes 5 o []]) M (.refl _) trivial⟩
theorem aas{av bg:Nat}{lv aq:Value}{S:di}{w0:World}(H:Has w0 (bP av bg lv aq S))(bJ:S.Ok){i:Int}{fR:Addr}(h:¬(0<=i/\i<(S.n:Int))):aY prog 101 [ai av 0,aa i,.slice (some fR) 0 0] w0 (bP av bg lv aq S) (fun _:Unit=>aa 7) (fun _=>bP av bg lv aq S) (fun _=>True):=by
 refine enter (n:=16) func101 U U U ?_;intro fr E;have M:=ht H;refine aV E<|bC (bP av bg lv aq S) M 3 U (ar U U T.qv) U (fun H=>re H bJ i) fun _ w _ M=>fun fr E=>?_;rw[decide_eq_false h]at E;refine bN E<|ah (v:=.bool _) 0 U U<|aU 3 U fun fr E=>?_;refine bi E U U ?_;exact⟨(),U,M.fin (List.Sublist.refl _) trivial⟩
theorem aar{av bg:Nat}{lv aq:Value}{S:di}{w0:World}(H:Has w0 (bP av bg lv aq S))(bJ:S.Ok){i:Int}{fR:Addr}(h:0<=i/\i<(S.n:Int)):aY prog 101 [ai av 0,aa i,.slice (some fR) 0 0] w0 (bP av bg lv aq S) (fun _:Unit=>aa 0) (fun _=>bP av bg lv aq S) (fun _=>True):=by
 refine enter (n:=16) func101 U U U ?_;intro fr E;have M:=ht H;refine aV E<|bC (bP av bg lv aq S) M 3 U (ar U U T.qv) U (fun H=>re H bJ i) fun _ w _ M=>fun fr E=>?_;rw[decide_eq_true h]at E;refine bN E<|ah (v:=.bool _) 0 U U<|ah (v:=aa _) 3 U (mb U U U U T.aG)<|ch 0 U U aN<|aU 3 U fun fr E=>?_;refine bi E U U ?_;exact⟨(),U,M.fin (List.Sublist.refl _) trivial⟩
theorem NR{av bg:Nat}{lv aq:Value}{S:di}{w0:World}(H:Has w0 (bP av bg lv aq S))(bJ:S.Ok){i:Int}{fR:Addr}(h:¬(0<=i/\i<(S.n:Int))):aY prog 49 [ai av 0,aa i,.slice (some fR) 0 0] w0 (bP av bg lv aq S) (fun _:Unit=>aa 7) (fun _=>bP av bg lv aq S) (fun _=>True):=by
 refine enter (n:=28) func49 U U U ?_;intro fr E;have M:=ht H;refine aV E<|bC (bP av bg lv aq S) M 4 U (ar U U T.oh) U (fun H=>aas H bJ h) fun _ w _ M=>ah (v:=.bool _) 2 U U<|aU 3 U fun fr E=>?_;refine bi E U U ?_;exact⟨(),U,M.fin (List.Sublist.refl _) trivial⟩
theorem NQ{av bg:Nat}{lv aq:Value}{S:di}{w0:World}(H:Has w0 (bP av bg lv aq S))(bJ:S.Ok){j:Nat}{fR:Addr}(ax:j<S.n)(h:0<=(j:Int)/\(j:Int)<(S.n:Int)):aY prog 49 [ai av 0,aa (j:Int),.slice (some fR) 0 0] w0 (bP av bg lv aq S) (fun _:Value=>aa 0) (fun v=>bP av bg lv aq (S.ub j v [])) (fun _=>True):=by
 refine enter (n:=28) func49 U U U ?_;intro fr E;have M:=ht H;refine aV E<|bC (bP av bg lv aq S) M 4 U (ar U U T.oh) U (fun H=>aar H bJ h) fun _ w _ M=>ah (v:=.bool _) 2 U U<|bw 1 U fun fr E=>?_;refine(ii (B:=T.CZ) (Vs:=(.af _:: .af _:: .af (ai _ 0):: .af _:: .af _:: .af _::cV w.heap.size (fun v=>[.bytes 5 v []]) (fun _=>True):: .af _::[])) T.KA 8 E T.mixed T.Kz U U U (fH.dF ⟨ay,ay,ay,ay,ay,ay,cn.df,ay,ay⟩) ⟨aw U U,
   aw U U,
   aw U U,
   aC U U (fun x w ad ab=>aE U U T.lu ((M.aQ ad).row (i:=0) U) U),
   aw U U,
   aw U U,
   cE U U (fun x w ad ab=>⟨_,_,U,U,U,ar U U T.rN,(LR _).eN ad.size⟩),
   aC U U (fun x w ad ab=>bL (i:=j) U ((M.aQ ad).reads 1 U) U U (rfl) (ax) T.gN T.gM),ay⟩ ?_)
 intro x fr w ad ab E;have M:=M.jb ad (ab 6 aN).1 (ab 6 aN).2.1;refine x6 (i:=2) (k:=j*1) (u:=x 6) (xs':=S.dF.set j (x 6)) E M rfl rfl rfl rfl rfl rfl rfl rfl rfl T.gM ae (by obtain⟨fI,fm,bV⟩:=Reads.slice (M.bytes 0 rfl);rw[bV];rfl) (by rw[Nat.mul_one]) fun fr w M E=>?_;refine cm E<|ah (v:=.map _) 3 U (aE U U T.l7 (M.row (i:=1) U) U)<|cv 1 U fun fr E=>?_;refine Jg (i:=3) E M U U U U U U U U U U T.mC fun fr w M E=>?_;refine cw E<|aU 1 U fun fr E=>?_;refine bi E U U ?_;have M:=(M.aH 5 rfl).aH 1 rfl;have M:=M.nT.perm (L':=bP av bg lv aq (S.ub j _ [])) (yu _ _ _ _ _);exact⟨_,U,M.fin (List.Sublist.refl _) trivial⟩
theorem L1{av bg:Nat}{lv aq:Value}{S:di}{w0:World}(H:Has w0 (bP av bg lv aq S))(bJ:S.Ok){fR:Addr}(c2:(S.cache.map (·.key)).Nodup)(ik:∀e∈S.cache,0<=e.key/\e.key<4096)(nF:(S.cache.map (·.born)).Nodup)(jy:∀e∈S.cache,e.born<S.clock)(hlen:S.cache.length<=4096):aY prog 51 [ai av 0,.slice (some fR) 0 0] w0 (bP av bg lv aq S) (fun _:Unit=>.tuple #[]) (fun _=>bP av bg lv aq (S.lf [])) (fun _=>True):=by
 refine enter (n:=48) func51 U U U ?_;intro fr E;have M:=ht H;refine aV E<|bC (bP av bg lv aq S) M 1 U (ar U U T.Fw) U (fun H=>DF H bJ c2 ik nF jy hlen) fun eA w _ M=>ah 0 U (bx U U U U T.en (M.reads 0 U))<|bw 1 U fun fr E=>?_;refine cI (fun d fr w=>∃j:Nat,d=S.cache.length-j/\j<=S.cache.length/\Env [(0,ai av 0),(1,.slice (some fR) 0 0),(7,eA),(8,aa ((S.cache.length:Nat):Int)),(9,aa (j:Int))] 48 fr/\Mem w0 (aS (bP av bg lv aq S)) (.row 3 1 eA S.cache.length (fg (hr S.cache))::bP av bg lv aq {S with dF:=ig S [] j}) (fun _=>True) w) (S.cache.length) ?_ ?_
 ·exact⟨0,U,Nat.zero_le _,E.lL [9,8,7,1,0] rfl,M⟩
 ·clear E M;rintro d fr w ⟨j,rfl,hle,E,M⟩;by_cases hi:j<S.cache.length
  ·have rX:j<(hr S.cache).length:=by rw[E6];exact hi
   refine bA E<|bD 0 U U ae<|ah 2 U (bL (i:=j) U (M.reads 0 U) U U (rfl) (hi) T.en T.c3)<|ah (v:=aa ((hr S.cache)[j])) 0 U (b2 U (M.reads 0 U) U T.bc (by rw[Nat.mul_one];exact kU rX))<|ah (v:=aa _) 4 U (mb U U U U T.en)<|bs 0 U U ae<|ah (v:=.bool _) 6 U U<|a1 (y:=((j+1:Nat):Int)) 1 U U ((br ae ae).trans ae)<|ct 1 U fun fr E=>?_;have em:ig S [] (j+1)=ig S [] j:=z2 (fun c=>absurd c.1 (Nat.not_lt_zero _));exact⟨S.cache.length-(j+1),by omega,j+1,U,by omega,E.lL [9,8,7,1,0] rfl,M.as (by first|(rw[em];rfl)|rw[em])⟩
  ·obtain rfl:j=S.cache.length:=by omega
   refine bA E<|bs 0 U U ae<|ah (v:=.map _) 4 U (aE U U T.l7 (M.row (i:=1) U) U)<|cv 0 U fun fr E=>?_;refine yV (i:=3) E M U U U U U U U U U T.mC fun fr w M E=>?_;refine cw E<|bj (i:=1) (cs':= #[_,_,_,_,_,_,_]) M 4 U U (cy (v:=_) U U U T.kf (M.row (i:=1) U) (rfl) (rfl) (rfl)) U fun w M=>bj (i:=1) (cs':= #[_,_,_,_,_,_,_]) M 2 U U (cy (v:=_) U U U T.kf (M.row (i:=1) U) (rfl) (rfl) (rfl)) U fun w M=>aU 0 U fun fr E=>?_;refine pQ E U ?_;exact⟨(),U,Mem.fin (L:=_::bP av bg lv aq (S.lf [])) M (List.sublist_cons_self _ _) trivial⟩
theorem di.g7.uL{S:di}{A:bz}(aR:S.g7 A):S.cache.length<=4096:=by
 have ap:=aR.vF;have g1:=aR.max;have GH:=aR.n;have:=zG S.n (S.cache.map (·.key)) aR.tv (fun x ad=>by obtain⟨e,he,rfl⟩:=List.mem_map.1 ad;exact ap e he);rw[List.length_map]at this;omega
theorem LZ{D:b6}{g:Nat}{A:bz}{w0:World}(H:Has w0 [ba D])(cb:D.is g A){b:Value}{l:List Int}(ak:fw w0 (fun g=>g∈(ba D).et) b l):aY prog 51 [ai g 0,b] w0 [ba D] (fun _:b6=>.tuple #[]) (fun x=>[ba x]) (fun x=>x.is g (A.lf l)):=by
 rcases ak with⟨ak,cK⟩|⟨a,rfl,rfl⟩
 ·exact LY H cb ak cK
 obtain⟨av,bg,lv,aq,S⟩:=D;obtain⟨al,aR⟩:=cb;have al:av=g:=al;have aR:S.g7 A:=aR;subst al;have ap:=aR.vF;have g1:=aR.max;have GH:=aR.n;exact aY.packed (B:=fun _:b6=>[]) (C:=fun x=>iP x) (fun _=>L1 H.hL aR.ok aR.tv (fun e he=>⟨(ap e he).1,by have:=(ap e he).2;omega⟩) aR.born.1 aR.born.2 aR.uL) H fun _ _=>⟨⟨av,bg,lv,aq,S.lf []⟩,U,U,U,⟨aR.n,aR.max,(rv A [] _).trans aR.len,aR.iI,by show k8 S.ps (ig S [] S.cache.length) (mj A [] A.cache.length);rw[<-z8 aR.cache];exact aR.uM [] _,ay,⟨List.nodup_nil,fun p hp=>nomatch hp⟩,⟨List.nodup_nil,fun e he=>nomatch he⟩,U,aR.left,U,aR.writes,aR.reads⟩⟩
theorem NM{D:b6}{g:Nat}{A:bz}{w0:World}(H:Has w0 [ba D])(cb:D.is g A){i:Int}{b:Value}{l:List UInt8}(ak:fv w0 (fun g=>g∈(ba D).et) b l):aY prog 49 [ai g 0,aa i,b] w0 [ba D] (fun _:b6=>aa (A.gf i l).1) (fun x=>[ba x]) (fun x=>x.is g (A.gf i l).2):=by
 rcases ak with⟨ak,cK⟩|⟨a,rfl,rfl⟩
 ·exact D4 H cb ak cK
 obtain⟨av,bg,lv,aq,S⟩:=D;obtain⟨al,aR⟩:=cb;have al:av=g:=al;have aR:S.g7 A:=aR;subst al;by_cases aj:A.there i
 ·have kL:0<=i/\i<(S.n:Int):=by rw[aR.n];exact aj
  have e:A.gf i []=(0,{A with last:=A.last.set i.toNat [],cache:=A.cache.filter fun p=> !(p.1==i)}):=by unfold bz.gf;rw[if_neg (by simpa using aj),if_neg (by simp)]
  obtain⟨j,rfl⟩:∃j:Nat,i=(j:Int):=⟨i.toNat,by omega⟩
  have ax:j<S.n:=by omega
  refine aY.packed (B:=fun _:b6=>[]) (C:=fun x=>iP x) (fun _=>NQ (j:=j) H.hL aR.ok ax kL) H fun v _=>⟨⟨av,bg,lv,aq,S.ub j v []⟩,by rw[e],U,U,?_⟩
  rw[e];refine⟨aR.n,aR.max,by simp[aR.len],aR.iI,yb ⟨List.mem_cons_self ..,by simp⟩ (ya aR.last),z7 aR.keys.1 (xf aR.cache),⟨?_,fun p hp=>aR.keys.2 p (List.mem_filter.1 hp).1⟩,⟨((vA _ _).map _).nodup aR.born.1,fun x ad=>aR.born.2 x ((vA _ _).mem ad)⟩,aR.dK,aR.left,aR.off,aR.writes,aR.reads⟩;exact(List.filter_sublist.map _).nodup aR.keys.1
 ·have kL:¬(0<=i/\i<(S.n:Int)):=by rw[aR.n];exact aj
  have e:A.gf i []=(7,A):=by unfold bz.gf;rw[if_pos aj]
  exact aY.packed (B:=fun _:b6=>[]) (C:=fun x=>iP x) (fun _=>NR H.hL aR.ok kL) H fun _ _=>⟨⟨av,bg,lv,aq,S⟩,by rw[e],U,U,by rw[e];exact aR⟩
end
section
open Go.RowKit Go.a2 Go.Proofs Go.Proofs.Tryz
theorem M8{av bg:Nat}{lv aq:Value}{S:di}{w0:World}(H:Has w0 (bP av bg lv aq S))(bJ:S.Ok){i:Int}(h:¬(0<=i/\i<(S.n:Int))):aY prog 18 [ai av 0,aa i] w0 (bP av bg lv aq S) (fun _:Unit=>.tuple #[.slice none 0 0,aa 7]) (fun _=>bP av bg lv aq S) (fun _=>True):=by
 refine enter (n:=41) func18 U U U ?_;intro fr E;have M:=ht H;refine aV E<|bC (bP av bg lv aq S) M 4 U (ar U U T.qv) U (fun H=>re H bJ i) fun _ w _ M=>fun fr E=>?_;rw[decide_eq_false h]at E;refine bN E<|ah (v:=.bool _) 0 U U<|aU 3 U fun fr E=>?_;refine fN E U U U ?_;exact⟨(),U,M.fin (List.Sublist.refl _) trivial⟩
theorem M7{D:b6}{g:Nat}{A:bz}{w0:World}(H:Has w0 [ba D])(cb:D.is g A){i:Int}(h:¬A.there i):aY prog 18 [ai g 0,aa i] w0 [ba D] (fun _:b6=>.tuple #[.slice none 0 0,aa 7]) (fun x=>[ba x]) (fun x=>x.is g A):=by
 obtain⟨av,bg,lv,aq,S⟩:=D;obtain⟨al,aR⟩:=cb;have al:av=g:=al;have aR:S.g7 A:=aR;subst al;exact aY.packed (B:=fun _:b6=>[]) (C:=fun x=>iP x) (fun _=>M8 H.hL aR.ok (by rw[aR.n];exact h)) H fun _ _=>⟨⟨av,bg,lv,aq,S⟩,U,U,U,aR⟩
end
section
open Go.RowKit Go.a2 Go.Proofs Go.Proofs.Tryz
def dH(A:bz)(key:List UInt8)(o:cp):Int×bz:=
 if o.k=0 then iw A key o.r o.n else if o.k=1 then A.gf o.n o.eM
 else if o.k=2 then(if A.there o.m then(A.bump o.m.toNat).gf o.n (A.read o.m.toNat)else(7,A))
 else if o.k=3 then A.sync else if o.k=4 then(0,A.lf o.eW)else if o.k=5 then(0,A.mV o.n)else(0,A)
theorem Pc{D:b6}{B:fz}{key:List UInt8}{g:Nat}{A:bz}{o:cp}{w0:World}(H:Has w0 [ba D,bp B key])(cb:D.is g A)(cj:w0.heap[0]? =some (.cells (a7 bt).toArray 243))(e3:¬aS [ba D,bp B key] 0)(e9:fv w0 (aS [ba D,bp B key]) o.eA o.eM)(fa:fw w0 (aS [ba D,bp B key]) o.lv o.eW)(ap:o.r.Ok)(ab:o.k=0):aY prog 13 [ai g 0,.iface 33 (ai B.eE 0),.agg o.cells.toArray] w0 [ba D,bp B key] (fun _:b6=>aa (iw A key o.r o.n).1) (fun x=>[ba x,bp B key]) (fun x=>x.is g (iw A key o.r o.n).2):=by
 refine enter (n:=61) func13 U U U ?_;intro fr E;have M:=Mem.begin (Φ:=fun w'=>w'.heap[0]? =some (.cells (a7 bt).toArray 243)/\fv w' (aS [ba D,bp B key]) o.eA o.eM/\fw w' (aS [ba D,bp B key]) o.lv o.eW) H (fun w' h=>⟨(h.block 0 (Array.getElem?_eq_some_iff.1 cj).1 e3).trans cj,e9.held h,fa.held h⟩);refine aV E<|bh (ob:=.cells (o.cells.toArray) 48) (fun g=>ai g 0) M 0 U (cS (cs:=(o.cells.toArray)) U U) fun aZ w M=>ah (v:=aa _) 2 U (aE U U T.bc (M.row (i:=0) U) cp.ld)<|bD 0 U U ab<|ah (v:=.agg o.r.cells.toArray) 5 U (gb U U T.da (M.row (i:=0) U) (by rw[cp.size ap];rfl) (cp.EI ap))<|ah (v:=aa _) 1 U (aE U U T.bc (M.row (i:=0) U) cp.qf)<|fun fr E=>?_;have M:=M.aH 2 rfl;have M:=M.aH 2 rfl;refine bN E<|bC ([ba D,bp B key]) M 0 U (ar U U T.AL) U (fun H=>OQ H cb M.fact.1 e3 ap) fun ja w aj M=>aU 1 U fun fr E=>?_;refine bi E U U ?_;have M:=M.aH 1 rfl;have M:=M.aH 1 rfl;exact⟨ja,U,Mem.fin (L:=[ba ja,bp B key]++_) M (List.sublist_append_left _ _) aj⟩
theorem Pd{D:b6}{B:fz}{key:List UInt8}{g:Nat}{A:bz}{o:cp}{w0:World}(H:Has w0 [ba D,bp B key])(cb:D.is g A)(cj:w0.heap[0]? =some (.cells (a7 bt).toArray 243))(e3:¬aS [ba D,bp B key] 0)(e9:fv w0 (aS [ba D,bp B key]) o.eA o.eM)(fa:fw w0 (aS [ba D,bp B key]) o.lv o.eW)(ap:o.r.Ok)(ab:o.k=1):aY prog 13 [ai g 0,.iface 33 (ai B.eE 0),.agg o.cells.toArray] w0 [ba D,bp B key] (fun _:b6=>aa (A.gf o.n o.eM).1) (fun x=>[ba x,bp B key]) (fun x=>x.is g (A.gf o.n o.eM).2):=by
 refine enter (n:=61) func13 U U U ?_;intro fr E;have M:=Mem.begin (Φ:=fun w'=>w'.heap[0]? =some (.cells (a7 bt).toArray 243)/\fv w' (aS [ba D,bp B key]) o.eA o.eM/\fw w' (aS [ba D,bp B key]) o.lv o.eW) H (fun w' h=>⟨(h.block 0 (Array.getElem?_eq_some_iff.1 cj).1 e3).trans cj,e9.held h,fa.held h⟩);refine aV E<|bh (ob:=.cells (o.cells.toArray) 48) (fun g=>ai g 0) M 0 U (cS (cs:=(o.cells.toArray)) U U) fun aZ w M=>ah (v:=aa _) 2 U (aE U U T.bc (M.row (i:=0) U) cp.ld)<|bs 0 U U ae<|bD 2 U U ab<|ah (v:=aa _) 4 U (aE U U T.bc (M.row (i:=0) U) cp.qf)<|ah 1 U (aE U U T.ec (M.row (i:=0) U) (cp.zT ap))<|fun fr E=>?_;have M:=M.aH 1 rfl;refine bN E<|bC ([ba D]) M 0 U (ar U U T.FR) U (fun H=>NM H cb ((M.fact.2.1).less (fun g al=>⟨ba D,List.mem_cons_self ..,al⟩))) fun ja w aj M=>aU 1 U fun fr E=>?_;refine bi E U U ?_;have M:=M.aH 2 rfl;have M:=M.aH 1 rfl;exact⟨ja,U,Mem.fin (L:=[ba ja,bp B key]++_) M (List.sublist_append_left _ _) aj⟩
theorem Pg{D:b6}{B:fz}{key:List UInt8}{g:Nat}{A:bz}{o:cp}{w0:World}(H:Has w0 [ba D,bp B key])(cb:D.is g A)(cj:w0.heap[0]? =some (.cells (a7 bt).toArray 243))(e3:¬aS [ba D,bp B key] 0)(e9:fv w0 (aS [ba D,bp B key]) o.eA o.eM)(fa:fw w0 (aS [ba D,bp B key]) o.lv o.eW)(ap:o.r.Ok)(ab:o.k=3):aY prog 13 [ai g 0,.iface 33 (ai B.eE 0),.agg o.cells.toArray] w0 [ba D,bp B key] (fun _:b6=>aa A.sync.1) (fun x=>[ba x,bp B key]) (fun x=>x.is g A.sync.2):=by
 refine enter (n:=61) func13 U U U ?_;intro fr E;have M:=Mem.begin (Φ:=fun w'=>w'.heap[0]? =some (.cells (a7 bt).toArray 243)/\fv w' (aS [ba D,bp B key]) o.eA o.eM/\fw w' (aS [ba D,bp B key]) o.lv o.eW) H (fun w' h=>⟨(h.block 0 (Array.getElem?_eq_some_iff.1 cj).1 e3).trans cj,e9.held h,fa.held h⟩);refine aV E<|bh (ob:=.cells (o.cells.toArray) 48) (fun g=>ai g 0) M 0 U (cS (cs:=(o.cells.toArray)) U U) fun aZ w M=>ah (v:=aa _) 2 U (aE U U T.bc (M.row (i:=0) U) cp.ld)<|bs 0 U U ae<|bs 2 U U ae<|bs 2 U U ae<|bD 2 U U ab<|fun fr E=>?_;have M:=M.aH 1 rfl;refine bN E<|bC ([ba D]) M 3 U (ar U U T.Q5) U (fun H=>NC H cb) fun ja w aj M=>aU 1 U fun fr E=>?_;refine bi E U U ?_;have M:=M.aH 2 rfl;have M:=M.aH 1 rfl;exact⟨ja,U,Mem.fin (L:=[ba ja,bp B key]++_) M (List.sublist_append_left _ _) aj⟩
theorem Ph{D:b6}{B:fz}{key:List UInt8}{g:Nat}{A:bz}{o:cp}{w0:World}(H:Has w0 [ba D,bp B key])(cb:D.is g A)(cj:w0.heap[0]? =some (.cells (a7 bt).toArray 243))(e3:¬aS [ba D,bp B key] 0)(e9:fv w0 (aS [ba D,bp B key]) o.eA o.eM)(fa:fw w0 (aS [ba D,bp B key]) o.lv o.eW)(ap:o.r.Ok)(ab:o.k=4):aY prog 13 [ai g 0,.iface 33 (ai B.eE 0),.agg o.cells.toArray] w0 [ba D,bp B key] (fun _:b6=>aa 0) (fun x=>[ba x,bp B key]) (fun x=>x.is g (A.lf o.eW)):=by
 refine enter (n:=61) func13 U U U ?_;intro fr E;have M:=Mem.begin (Φ:=fun w'=>w'.heap[0]? =some (.cells (a7 bt).toArray 243)/\fv w' (aS [ba D,bp B key]) o.eA o.eM/\fw w' (aS [ba D,bp B key]) o.lv o.eW) H (fun w' h=>⟨(h.block 0 (Array.getElem?_eq_some_iff.1 cj).1 e3).trans cj,e9.held h,fa.held h⟩);refine aV E<|bh (ob:=.cells (o.cells.toArray) 48) (fun g=>ai g 0) M 0 U (cS (cs:=(o.cells.toArray)) U U) fun aZ w M=>ah (v:=aa _) 2 U (aE U U T.bc (M.row (i:=0) U) cp.ld)<|bs 0 U U ae<|bs 2 U U ae<|bs 2 U U ae<|bs 2 U U ae<|bD 2 U U ab<|ah 4 U (aE U U T.qY (M.row (i:=0) U) (cp.zU ap))<|fun fr E=>?_;have M:=M.aH 1 rfl;refine bN E<|bC ([ba D]) M 0 U (ar U U T.Q6) U (fun H=>LZ H cb ((M.fact.2.2).less (fun g al=>⟨ba D,List.mem_cons_self ..,al⟩))) fun ja w aj M=>aU 1 U fun fr E=>?_;refine bi E U U ?_;have M:=M.aH 2 rfl;have M:=M.aH 1 rfl;exact⟨ja,U,Mem.fin (L:=[ba ja,bp B key]++_) M (List.sublist_append_left _ _) aj⟩
theorem Pj{D:b6}{B:fz}{key:List UInt8}{g:Nat}{A:bz}{o:cp}{w0:World}(H:Has w0 [ba D,bp B key])(cb:D.is g A)(cj:w0.heap[0]? =some (.cells (a7 bt).toArray 243))(e3:¬aS [ba D,bp B key] 0)(e9:fv w0 (aS [ba D,bp B key]) o.eA o.eM)(fa:fw w0 (aS [ba D,bp B key]) o.lv o.eW)(ap:o.r.Ok)(ab:o.k=5):aY prog 13 [ai g 0,.iface 33 (ai B.eE 0),.agg o.cells.toArray] w0 [ba D,bp B key] (fun _:b6=>aa 0) (fun x=>[ba x,bp B key]) (fun x=>x.is g (A.mV o.n)):=by
 refine enter (n:=61) func13 U U U ?_;intro fr E;have M:=Mem.begin (Φ:=fun w'=>w'.heap[0]? =some (.cells (a7 bt).toArray 243)/\fv w' (aS [ba D,bp B key]) o.eA o.eM/\fw w' (aS [ba D,bp B key]) o.lv o.eW) H (fun w' h=>⟨(h.block 0 (Array.getElem?_eq_some_iff.1 cj).1 e3).trans cj,e9.held h,fa.held h⟩);refine aV E<|bh (ob:=.cells (o.cells.toArray) 48) (fun g=>ai g 0) M 0 U (cS (cs:=(o.cells.toArray)) U U) fun aZ w M=>ah (v:=aa _) 2 U (aE U U T.bc (M.row (i:=0) U) cp.ld)<|bs 0 U U ae<|bs 2 U U ae<|bs 2 U U ae<|bs 2 U U ae<|bs 2 U U ae<|bD 2 U U ab<|ah (v:=aa _) 4 U (aE U U T.bc (M.row (i:=0) U) cp.qf)<|fun fr E=>?_;have M:=M.aH 1 rfl;refine bN E<|bC ([ba D]) M 0 U (ar U U T.Q7) U (fun H=>LI H cb o.n) fun ja w aj M=>aU 1 U fun fr E=>?_;refine bi E U U ?_;have M:=M.aH 2 rfl;have M:=M.aH 1 rfl;exact⟨ja,U,Mem.fin (L:=[ba ja,bp B key]++_) M (List.sublist_append_left _ _) aj⟩
theorem Pk{D:b6}{B:fz}{key:List UInt8}{g:Nat}{A:bz}{o:cp}{w0:World}(H:Has w0 [ba D,bp B key])(cb:D.is g A)(cj:w0.heap[0]? =some (.cells (a7 bt).toArray 243))(e3:¬aS [ba D,bp B key] 0)(e9:fv w0 (aS [ba D,bp B key]) o.eA o.eM)(fa:fw w0 (aS [ba D,bp B key]) o.lv o.eW)(ap:o.r.Ok)(ab:¬(0<=o.k/\o.k<=5)):aY prog 13 [ai g 0,.iface 33 (ai B.eE 0),.agg o.cells.toArray] w0 [ba D,bp B key] (fun _:b6=>aa 0) (fun x=>[ba x,bp B key]) (fun x=>x.is g A):=by
 refine enter (n:=61) func13 U U U ?_;intro fr E;have M:=Mem.begin (Φ:=fun w'=>w'.heap[0]? =some (.cells (a7 bt).toArray 243)/\fv w' (aS [ba D,bp B key]) o.eA o.eM/\fw w' (aS [ba D,bp B key]) o.lv o.eW) H (fun w' h=>⟨(h.block 0 (Array.getElem?_eq_some_iff.1 cj).1 e3).trans cj,e9.held h,fa.held h⟩);refine aV E<|bh (ob:=.cells (o.cells.toArray) 48) (fun g=>ai g 0) M 0 U (cS (cs:=(o.cells.toArray)) U U) fun aZ w M=>ah (v:=aa _) 2 U (aE U U T.bc (M.row (i:=0) U) cp.ld)<|bs 0 U U ae<|bs 2 U U ae<|bs 2 U U ae<|bs 2 U U ae<|bs 2 U U ae<|bs 2 U U ae<|aU 3 U fun fr E=>?_;refine bi E U U ?_;have M:=M.aH 2 rfl;have M:=M.aH 2 rfl;exact⟨D,U,Mem.fin (L:=[ba D,bp B key]++_) M (List.sublist_append_left _ _) cb⟩
theorem Pf{D:b6}{B:fz}{key:List UInt8}{g:Nat}{A:bz}{o:cp}{w0:World}(H:Has w0 [ba D,bp B key])(cb:D.is g A)(cj:w0.heap[0]? =some (.cells (a7 bt).toArray 243))(e3:¬aS [ba D,bp B key] 0)(e9:fv w0 (aS [ba D,bp B key]) o.eA o.eM)(fa:fw w0 (aS [ba D,bp B key]) o.lv o.eW)(ap:o.r.Ok)(ab:o.k=2)(h:¬A.there o.m):aY prog 13 [ai g 0,.iface 33 (ai B.eE 0),.agg o.cells.toArray] w0 [ba D,bp B key] (fun _:b6=>aa 7) (fun x=>[ba x,bp B key]) (fun x=>x.is g A):=by
 refine enter (n:=61) func13 U U U ?_;intro fr E;have M:=Mem.begin (Φ:=fun w'=>w'.heap[0]? =some (.cells (a7 bt).toArray 243)/\fv w' (aS [ba D,bp B key]) o.eA o.eM/\fw w' (aS [ba D,bp B key]) o.lv o.eW) H (fun w' h=>⟨(h.block 0 (Array.getElem?_eq_some_iff.1 cj).1 e3).trans cj,e9.held h,fa.held h⟩);refine aV E<|bh (ob:=.cells (o.cells.toArray) 48) (fun g=>ai g 0) M 0 U (cS (cs:=(o.cells.toArray)) U U) fun aZ w M=>ah (v:=aa _) 2 U (aE U U T.bc (M.row (i:=0) U) cp.ld)<|bs 0 U U ae<|bs 2 U U ae<|bD 2 U U ab<|ah (v:=aa _) 4 U (aE U U T.bc (M.row (i:=0) U) cp.xa)<|fun fr E=>?_;have M:=M.aH 1 rfl;refine bN E<|bC ([ba D]) M 0 U (ar U U T.mn) U (fun H=>M7 H cb h) fun ja w aj M=>ei 6 U U (rfl)<|aU 3 U fun fr E=>?_;refine bi E U U ?_;have M:=M.aH 2 rfl;have M:=M.aH 1 rfl;exact⟨ja,U,Mem.fin (L:=[ba ja,bp B key]++_) M (List.sublist_append_left _ _) aj⟩
theorem Pe{D:b6}{B:fz}{key:List UInt8}{g:Nat}{A:bz}{o:cp}{w0:World}(H:Has w0 [ba D,bp B key])(cb:D.is g A)(cj:w0.heap[0]? =some (.cells (a7 bt).toArray 243))(e3:¬aS [ba D,bp B key] 0)(e9:fv w0 (aS [ba D,bp B key]) o.eA o.eM)(fa:fw w0 (aS [ba D,bp B key]) o.lv o.eW)(ap:o.r.Ok){j:Nat}(ab:o.k=2)(hm:o.m=(j:Int))(ax:j<A.n):aY prog 13 [ai g 0,.iface 33 (ai B.eE 0),.agg o.cells.toArray] w0 [ba D,bp B key] (fun _:b6=>aa ((A.bump j).gf o.n (A.read j)).1) (fun x=>[ba x,bp B key]) (fun x=>x.is g ((A.bump j).gf o.n (A.read j)).2):=by
 refine enter (n:=61) func13 U U U ?_;intro fr E;have M:=Mem.begin (Φ:=fun w'=>w'.heap[0]? =some (.cells (a7 bt).toArray 243)/\fv w' (aS [ba D,bp B key]) o.eA o.eM/\fw w' (aS [ba D,bp B key]) o.lv o.eW) H (fun w' h=>⟨(h.block 0 (Array.getElem?_eq_some_iff.1 cj).1 e3).trans cj,e9.held h,fa.held h⟩);refine aV E<|bh (ob:=.cells (o.cells.toArray) 48) (fun g=>ai g 0) M 0 U (cS (cs:=(o.cells.toArray)) U U) fun aZ w M=>ah (v:=aa _) 2 U (aE U U T.bc (M.row (i:=0) U) cp.ld)<|bs 0 U U ae<|bs 2 U U ae<|bD 2 U U ab<|ah (v:=aa (j:Int)) 4 U (aE U U T.bc (M.row (i:=0) U) (by rw[<-hm];exact cp.xa))<|fun fr E=>?_;have M:=M.aH 1 rfl;refine bN E<|bC ([ba D]) M 0 U (ar U U T.mn) U (fun H=>mR H cb ax) fun⟨c,ja⟩ w aj M=>ch 6 U U (rfl)<|ah (v:=aa _) 3 U (aE U U T.bc (M.row (i:=2) U) cp.qf)<|fun fr E=>?_;have M:=M.aH 1 rfl;refine bN E<|bC ([ba ja]) M 1 U (ar U U T.FR) U (fun H=>D4 H aj (M.bytes 1 U) (M.off (i:=0) (j:=1) U U U)) fun ez w an M=>aU 1 U fun fr E=>?_;refine bi E U U ?_;have M:=M.aH 3 rfl;have M:=M.aH 1 rfl;exact⟨ez,U,Mem.fin (L:=[ba ez,bp B key]++_) M (List.sublist_append_left _ _) an⟩
theorem Pl{D:b6}{B:fz}{key:List UInt8}{g:Nat}{A:bz}{o:cp}{w0:World}(H:Has w0 [ba D,bp B key])(cb:D.is g A)(cj:w0.heap[0]? =some (.cells (a7 bt).toArray 243))(e3:¬aS [ba D,bp B key] 0)(e9:fv w0 (aS [ba D,bp B key]) o.eA o.eM)(fa:fw w0 (aS [ba D,bp B key]) o.lv o.eW)(ap:o.r.Ok):aY prog 13 [ai g 0,.iface 33 (ai B.eE 0),.agg o.cells.toArray] w0 [ba D,bp B key] (fun _:b6=>aa (dH A key o).1) (fun x=>[ba x,bp B key]) (fun x=>x.is g (dH A key o).2):=by
 by_cases bG:o.k=0
 ·have e:dH A key o=iw A key o.r o.n:=by unfold dH;rw[if_pos bG]
  rw[e];exact Pc H cb cj e3 e9 fa ap bG
 by_cases aj:o.k=1
 ·have e:dH A key o=A.gf o.n o.eM:=by unfold dH;rw[if_neg bG,if_pos aj]
  rw[e];exact Pd H cb cj e3 e9 fa ap aj
 by_cases an:o.k=2
 ·by_cases aM:A.there o.m
  ·have e:dH A key o=(A.bump o.m.toNat).gf o.n (A.read o.m.toNat):=by unfold dH;rw[if_neg bG,if_neg aj,if_pos an,if_pos aM]
   have SS:0<=o.m/\o.m<(A.n:Int):=aM;rw[e];exact Pe H cb cj e3 e9 fa ap an ae ae
  ·have e:dH A key o=(7,A):=by unfold dH;rw[if_neg bG,if_neg aj,if_pos an,if_neg aM]
   rw[e];exact Pf H cb cj e3 e9 fa ap an aM
 by_cases aB:o.k=3
 ·have e:dH A key o=A.sync:=by unfold dH;rw[if_neg bG,if_neg aj,if_neg an,if_pos aB]
  rw[e];exact Pg H cb cj e3 e9 fa ap aB
 by_cases be:o.k=4
 ·have e:dH A key o=(0,A.lf o.eW):=by unfold dH;rw[if_neg bG,if_neg aj,if_neg an,if_neg aB,if_pos be]
  rw[e];exact Ph H cb cj e3 e9 fa ap be
 by_cases bZ:o.k=5
 ·have e:dH A key o=(0,A.mV o.n):=by unfold dH;rw[if_neg bG,if_neg aj,if_neg an,if_neg aB,if_neg be,if_pos bZ]
  rw[e];exact Pj H cb cj e3 e9 fa ap bZ
 have e:dH A key o=(0,A):=by unfold dH;rw[if_neg bG,if_neg aj,if_neg an,if_neg aB,if_neg be,if_neg bZ]
 rw[e];exact Pk H cb cj e3 e9 fa ap ae
theorem WO{R:cZ}{gc:Nat}{X:fB}{key:List UInt8}{g:Nat}{A:bz}{o:cp}{w0:World}(H:Has w0 [bB R,bI gc X key])(dU:R.is g A)(cj:w0.heap[1]? =some (.cells (a7 bt).toArray 243))(e3:¬aS [bB R,bI gc X key] 1)(e9:fv w0 (aS [bB R,bI gc X key]) o.eA o.eM)(fa:fw w0 (aS [bB R,bI gc X key]) o.lv o.eW)(ap:o.r.Ok)(ab:o.k=0):aY prog 14 [ai g 0,ai gc 0,.agg o.cells.toArray] w0 [bB R,bI gc X key] (fun _:cZ=>aa (iw A key o.r o.n).1) (fun x=>[bB x,bI gc X key]) (fun x=>x.is g (iw A key o.r o.n).2):=by
 refine enter (n:=61) func14 U U U ?_;intro fr E;have M:=Mem.begin (Φ:=fun w'=>w'.heap[1]? =some (.cells (a7 bt).toArray 243)/\fv w' (aS [bB R,bI gc X key]) o.eA o.eM/\fw w' (aS [bB R,bI gc X key]) o.lv o.eW) H (fun w' h=>⟨(h.block 1 (Array.getElem?_eq_some_iff.1 cj).1 e3).trans cj,e9.held h,fa.held h⟩);refine aV E<|bh (ob:=.cells (o.cells.toArray) 48) (fun g=>ai g 0) M 0 U (cS (cs:=(o.cells.toArray)) U U) fun aZ w M=>ah (v:=aa _) 2 U (aE U U T.bc (M.row (i:=0) U) cp.ld)<|bD 0 U U ab<|ah (v:=.agg o.r.cells.toArray) 5 U (gb U U T.da (M.row (i:=0) U) (by rw[cp.size ap];rfl) (cp.EI ap))<|ah (v:=aa _) 1 U (aE U U T.bc (M.row (i:=0) U) cp.qf)<|fun fr E=>?_;have M:=M.aH 2 rfl;have M:=M.aH 2 rfl;refine bN E<|bC ([bB R,bI gc X key]) M 0 U (ar U U T.Q8) U (fun H=>NW H dU M.fact.1 e3 ap) fun jZ w aj M=>aU 1 U fun fr E=>?_;refine bi E U U ?_;have M:=M.aH 1 rfl;have M:=M.aH 1 rfl;exact⟨jZ,U,Mem.fin (L:=[bB jZ,bI gc X key]++_) M (List.sublist_append_left _ _) aj⟩
theorem WQ{R:cZ}{gc:Nat}{X:fB}{key:List UInt8}{g:Nat}{A:bz}{o:cp}{w0:World}(H:Has w0 [bB R,bI gc X key])(dU:R.is g A)(cj:w0.heap[1]? =some (.cells (a7 bt).toArray 243))(e3:¬aS [bB R,bI gc X key] 1)(e9:fv w0 (aS [bB R,bI gc X key]) o.eA o.eM)(fa:fw w0 (aS [bB R,bI gc X key]) o.lv o.eW)(ap:o.r.Ok)(ab:o.k=1):aY prog 14 [ai g 0,ai gc 0,.agg o.cells.toArray] w0 [bB R,bI gc X key] (fun _:cZ=>aa (A.gf o.n o.eM).1) (fun x=>[bB x,bI gc X key]) (fun x=>x.is g (A.gf o.n o.eM).2):=by
 refine enter (n:=61) func14 U U U ?_;intro fr E;have M:=Mem.begin (Φ:=fun w'=>w'.heap[1]? =some (.cells (a7 bt).toArray 243)/\fv w' (aS [bB R,bI gc X key]) o.eA o.eM/\fw w' (aS [bB R,bI gc X key]) o.lv o.eW) H (fun w' h=>⟨(h.block 1 (Array.getElem?_eq_some_iff.1 cj).1 e3).trans cj,e9.held h,fa.held h⟩);refine aV E<|bh (ob:=.cells (o.cells.toArray) 48) (fun g=>ai g 0) M 0 U (cS (cs:=(o.cells.toArray)) U U) fun aZ w M=>ah (v:=aa _) 2 U (aE U U T.bc (M.row (i:=0) U) cp.ld)<|bs 0 U U ae<|bD 2 U U ab<|ah (v:=aa _) 4 U (aE U U T.bc (M.row (i:=0) U) cp.qf)<|ah 1 U (aE U U T.ec (M.row (i:=0) U) (cp.zT ap))<|fun fr E=>?_;have M:=M.aH 1 rfl;refine bN E<|bC ([bB R]) M 0 U (ar U U T.FT) U (fun H=>D2 H dU ((M.fact.2.1).less (fun g al=>⟨bB R,List.mem_cons_self ..,al⟩))) fun jZ w aj M=>aU 1 U fun fr E=>?_;refine bi E U U ?_;have M:=M.aH 2 rfl;have M:=M.aH 1 rfl;exact⟨jZ,U,Mem.fin (L:=[bB jZ,bI gc X key]++_) M (List.sublist_append_left _ _) aj⟩
theorem WT{R:cZ}{gc:Nat}{X:fB}{key:List UInt8}{g:Nat}{A:bz}{o:cp}{w0:World}(H:Has w0 [bB R,bI gc X key])(dU:R.is g A)(cj:w0.heap[1]? =some (.cells (a7 bt).toArray 243))(e3:¬aS [bB R,bI gc X key] 1)(e9:fv w0 (aS [bB R,bI gc X key]) o.eA o.eM)(fa:fw w0 (aS [bB R,bI gc X key]) o.lv o.eW)(ap:o.r.Ok)(ab:o.k=3):aY prog 14 [ai g 0,ai gc 0,.agg o.cells.toArray] w0 [bB R,bI gc X key] (fun _:cZ=>aa A.sync.1) (fun x=>[bB x,bI gc X key]) (fun x=>x.is g A.sync.2):=by
 refine enter (n:=61) func14 U U U ?_;intro fr E;have M:=Mem.begin (Φ:=fun w'=>w'.heap[1]? =some (.cells (a7 bt).toArray 243)/\fv w' (aS [bB R,bI gc X key]) o.eA o.eM/\fw w' (aS [bB R,bI gc X key]) o.lv o.eW) H (fun w' h=>⟨(h.block 1 (Array.getElem?_eq_some_iff.1 cj).1 e3).trans cj,e9.held h,fa.held h⟩);refine aV E<|bh (ob:=.cells (o.cells.toArray) 48) (fun g=>ai g 0) M 0 U (cS (cs:=(o.cells.toArray)) U U) fun aZ w M=>ah (v:=aa _) 2 U (aE U U T.bc (M.row (i:=0) U) cp.ld)<|bs 0 U U ae<|bs 2 U U ae<|bs 2 U U ae<|bD 2 U U ab<|fun fr E=>?_;have M:=M.aH 1 rfl;refine bN E<|bC ([bB R]) M 3 U (ar U U T.Q9) U (fun H=>Nx H dU) fun jZ w aj M=>aU 1 U fun fr E=>?_;refine bi E U U ?_;have M:=M.aH 2 rfl;have M:=M.aH 1 rfl;exact⟨jZ,U,Mem.fin (L:=[bB jZ,bI gc X key]++_) M (List.sublist_append_left _ _) aj⟩
theorem WU{R:cZ}{gc:Nat}{X:fB}{key:List UInt8}{g:Nat}{A:bz}{o:cp}{w0:World}(H:Has w0 [bB R,bI gc X key])(dU:R.is g A)(cj:w0.heap[1]? =some (.cells (a7 bt).toArray 243))(e3:¬aS [bB R,bI gc X key] 1)(e9:fv w0 (aS [bB R,bI gc X key]) o.eA o.eM)(fa:fw w0 (aS [bB R,bI gc X key]) o.lv o.eW)(ap:o.r.Ok)(ab:o.k=4):aY prog 14 [ai g 0,ai gc 0,.agg o.cells.toArray] w0 [bB R,bI gc X key] (fun _:cZ=>aa 0) (fun x=>[bB x,bI gc X key]) (fun x=>x.is g (A.lf o.eW)):=by
 refine enter (n:=61) func14 U U U ?_;intro fr E;have M:=Mem.begin (Φ:=fun w'=>w'.heap[1]? =some (.cells (a7 bt).toArray 243)/\fv w' (aS [bB R,bI gc X key]) o.eA o.eM/\fw w' (aS [bB R,bI gc X key]) o.lv o.eW) H (fun w' h=>⟨(h.block 1 (Array.getElem?_eq_some_iff.1 cj).1 e3).trans cj,e9.held h,fa.held h⟩);refine aV E<|bh (ob:=.cells (o.cells.toArray) 48) (fun g=>ai g 0) M 0 U (cS (cs:=(o.cells.toArray)) U U) fun aZ w M=>ah (v:=aa _) 2 U (aE U U T.bc (M.row (i:=0) U) cp.ld)<|bs 0 U U ae<|bs 2 U U ae<|bs 2 U U ae<|bs 2 U U ae<|bD 2 U U ab<|ah 4 U (aE U U T.qY (M.row (i:=0) U) (cp.zU ap))<|fun fr E=>?_;have M:=M.aH 1 rfl;refine bN E<|bC ([bB R]) M 0 U (ar U U T.Ra) U (fun H=>LV H dU ((M.fact.2.2).less (fun g al=>⟨bB R,List.mem_cons_self ..,al⟩))) fun jZ w aj M=>aU 1 U fun fr E=>?_;refine bi E U U ?_;have M:=M.aH 2 rfl;have M:=M.aH 1 rfl;exact⟨jZ,U,Mem.fin (L:=[bB jZ,bI gc X key]++_) M (List.sublist_append_left _ _) aj⟩
theorem WV{R:cZ}{gc:Nat}{X:fB}{key:List UInt8}{g:Nat}{A:bz}{o:cp}{w0:World}(H:Has w0 [bB R,bI gc X key])(dU:R.is g A)(cj:w0.heap[1]? =some (.cells (a7 bt).toArray 243))(e3:¬aS [bB R,bI gc X key] 1)(e9:fv w0 (aS [bB R,bI gc X key]) o.eA o.eM)(fa:fw w0 (aS [bB R,bI gc X key]) o.lv o.eW)(ap:o.r.Ok)(ab:o.k=5)(Bd:o.n<=9223372036854775807):aY prog 14 [ai g 0,ai gc 0,.agg o.cells.toArray] w0 [bB R,bI gc X key] (fun _:cZ=>aa 0) (fun x=>[bB x,bI gc X key]) (fun x=>x.is g (A.mV o.n)):=by
 refine enter (n:=61) func14 U U U ?_;intro fr E;have M:=Mem.begin (Φ:=fun w'=>w'.heap[1]? =some (.cells (a7 bt).toArray 243)/\fv w' (aS [bB R,bI gc X key]) o.eA o.eM/\fw w' (aS [bB R,bI gc X key]) o.lv o.eW) H (fun w' h=>⟨(h.block 1 (Array.getElem?_eq_some_iff.1 cj).1 e3).trans cj,e9.held h,fa.held h⟩);refine aV E<|bh (ob:=.cells (o.cells.toArray) 48) (fun g=>ai g 0) M 0 U (cS (cs:=(o.cells.toArray)) U U) fun aZ w M=>ah (v:=aa _) 2 U (aE U U T.bc (M.row (i:=0) U) cp.ld)<|bs 0 U U ae<|bs 2 U U ae<|bs 2 U U ae<|bs 2 U U ae<|bs 2 U U ae<|bD 2 U U ab<|ah (v:=aa _) 4 U (aE U U T.bc (M.row (i:=0) U) cp.qf)<|fun fr E=>?_;have M:=M.aH 1 rfl;refine bN E<|bC ([bB R]) M 0 U (ar U U T.Rb) U (fun H=>LF H dU (n:=o.n) Bd) fun jZ w aj M=>aU 1 U fun fr E=>?_;refine bi E U U ?_;have M:=M.aH 2 rfl;have M:=M.aH 1 rfl;exact⟨jZ,U,Mem.fin (L:=[bB jZ,bI gc X key]++_) M (List.sublist_append_left _ _) aj⟩
theorem WW{R:cZ}{gc:Nat}{X:fB}{key:List UInt8}{g:Nat}{A:bz}{o:cp}{w0:World}(H:Has w0 [bB R,bI gc X key])(dU:R.is g A)(cj:w0.heap[1]? =some (.cells (a7 bt).toArray 243))(e3:¬aS [bB R,bI gc X key] 1)(e9:fv w0 (aS [bB R,bI gc X key]) o.eA o.eM)(fa:fw w0 (aS [bB R,bI gc X key]) o.lv o.eW)(ap:o.r.Ok)(ab:¬(0<=o.k/\o.k<=5)):aY prog 14 [ai g 0,ai gc 0,.agg o.cells.toArray] w0 [bB R,bI gc X key] (fun _:cZ=>aa 0) (fun x=>[bB x,bI gc X key]) (fun x=>x.is g A):=by
 refine enter (n:=61) func14 U U U ?_;intro fr E;have M:=Mem.begin (Φ:=fun w'=>w'.heap[1]? =some (.cells (a7 bt).toArray 243)/\fv w' (aS [bB R,bI gc X key]) o.eA o.eM/\fw w' (aS [bB R,bI gc X key]) o.lv o.eW) H (fun w' h=>⟨(h.block 1 (Array.getElem?_eq_some_iff.1 cj).1 e3).trans cj,e9.held h,fa.held h⟩);refine aV E<|bh (ob:=.cells (o.cells.toArray) 48) (fun g=>ai g 0) M 0 U (cS (cs:=(o.cells.toArray)) U U) fun aZ w M=>ah (v:=aa _) 2 U (aE U U T.bc (M.row (i:=0) U) cp.ld)<|bs 0 U U ae<|bs 2 U U ae<|bs 2 U U ae<|bs 2 U U ae<|bs 2 U U ae<|bs 2 U U ae<|aU 3 U fun fr E=>?_;refine bi E U U ?_;have M:=M.aH 2 rfl;have M:=M.aH 2 rfl;exact⟨R,U,Mem.fin (L:=[bB R,bI gc X key]++_) M (List.sublist_append_left _ _) dU⟩
theorem WS{R:cZ}{gc:Nat}{X:fB}{key:List UInt8}{g:Nat}{A:bz}{o:cp}{w0:World}(H:Has w0 [bB R,bI gc X key])(dU:R.is g A)(cj:w0.heap[1]? =some (.cells (a7 bt).toArray 243))(e3:¬aS [bB R,bI gc X key] 1)(e9:fv w0 (aS [bB R,bI gc X key]) o.eA o.eM)(fa:fw w0 (aS [bB R,bI gc X key]) o.lv o.eW)(ap:o.r.Ok)(ab:o.k=2)(h:¬A.there o.m):aY prog 14 [ai g 0,ai gc 0,.agg o.cells.toArray] w0 [bB R,bI gc X key] (fun _:cZ=>aa 7) (fun x=>[bB x,bI gc X key]) (fun x=>x.is g A):=by
 refine enter (n:=61) func14 U U U ?_;intro fr E;have M:=Mem.begin (Φ:=fun w'=>w'.heap[1]? =some (.cells (a7 bt).toArray 243)/\fv w' (aS [bB R,bI gc X key]) o.eA o.eM/\fw w' (aS [bB R,bI gc X key]) o.lv o.eW) H (fun w' h=>⟨(h.block 1 (Array.getElem?_eq_some_iff.1 cj).1 e3).trans cj,e9.held h,fa.held h⟩);refine aV E<|bh (ob:=.cells (o.cells.toArray) 48) (fun g=>ai g 0) M 0 U (cS (cs:=(o.cells.toArray)) U U) fun aZ w M=>ah (v:=aa _) 2 U (aE U U T.bc (M.row (i:=0) U) cp.ld)<|bs 0 U U ae<|bs 2 U U ae<|bD 2 U U ab<|ah (v:=aa _) 4 U (aE U U T.bc (M.row (i:=0) U) cp.xa)<|fun fr E=>?_;have M:=M.aH 1 rfl;refine bN E<|bC ([bB R]) M 0 U (ar U U T.rM) U (fun H=>M4 H dU h) fun jZ w aj M=>ei 6 U U (rfl)<|aU 3 U fun fr E=>?_;refine bi E U U ?_;have M:=M.aH 2 rfl;have M:=M.aH 1 rfl;exact⟨jZ,U,Mem.fin (L:=[bB jZ,bI gc X key]++_) M (List.sublist_append_left _ _) aj⟩
theorem WR{R:cZ}{gc:Nat}{X:fB}{key:List UInt8}{g:Nat}{A:bz}{o:cp}{w0:World}(H:Has w0 [bB R,bI gc X key])(dU:R.is g A)(cj:w0.heap[1]? =some (.cells (a7 bt).toArray 243))(e3:¬aS [bB R,bI gc X key] 1)(e9:fv w0 (aS [bB R,bI gc X key]) o.eA o.eM)(fa:fw w0 (aS [bB R,bI gc X key]) o.lv o.eW)(ap:o.r.Ok){j:Nat}(ab:o.k=2)(hm:o.m=(j:Int))(ax:j<A.n):aY prog 14 [ai g 0,ai gc 0,.agg o.cells.toArray] w0 [bB R,bI gc X key] (fun _:cZ=>aa ((A.bump j).gf o.n (A.read j)).1) (fun x=>[bB x,bI gc X key]) (fun x=>x.is g ((A.bump j).gf o.n (A.read j)).2):=by
 refine enter (n:=61) func14 U U U ?_;intro fr E;have M:=Mem.begin (Φ:=fun w'=>w'.heap[1]? =some (.cells (a7 bt).toArray 243)/\fv w' (aS [bB R,bI gc X key]) o.eA o.eM/\fw w' (aS [bB R,bI gc X key]) o.lv o.eW) H (fun w' h=>⟨(h.block 1 (Array.getElem?_eq_some_iff.1 cj).1 e3).trans cj,e9.held h,fa.held h⟩);refine aV E<|bh (ob:=.cells (o.cells.toArray) 48) (fun g=>ai g 0) M 0 U (cS (cs:=(o.cells.toArray)) U U) fun aZ w M=>ah (v:=aa _) 2 U (aE U U T.bc (M.row (i:=0) U) cp.ld)<|bs 0 U U ae<|bs 2 U U ae<|bD 2 U U ab<|ah (v:=aa (j:Int)) 4 U (aE U U T.bc (M.row (i:=0) U) (by rw[<-hm];exact cp.xa))<|fun fr E=>?_;have M:=M.aH 1 rfl;refine bN E<|bC ([bB R]) M 0 U (ar U U T.rM) U (fun H=>sO H dU ax) fun⟨c,jZ⟩ w aj M=>ch 6 U U (rfl)<|ah (v:=aa _) 3 U (aE U U T.bc (M.row (i:=2) U) cp.qf)<|fun fr E=>?_;have M:=M.aH 1 rfl;refine bN E<|bC ([bB jZ]) M 1 U (ar U U T.FT) U (fun H=>D2 H aj (.inl ⟨M.bytes 1 U,M.off (i:=0) (j:=1) U U U⟩)) fun gX w an M=>aU 1 U fun fr E=>?_;refine bi E U U ?_;have M:=M.aH 3 rfl;have M:=M.aH 1 rfl;exact⟨gX,U,Mem.fin (L:=[bB gX,bI gc X key]++_) M (List.sublist_append_left _ _) an⟩
theorem WX{R:cZ}{gc:Nat}{X:fB}{key:List UInt8}{g:Nat}{A:bz}{o:cp}{w0:World}(H:Has w0 [bB R,bI gc X key])(dU:R.is g A)(cj:w0.heap[1]? =some (.cells (a7 bt).toArray 243))(e3:¬aS [bB R,bI gc X key] 1)(e9:fv w0 (aS [bB R,bI gc X key]) o.eA o.eM)(fa:fw w0 (aS [bB R,bI gc X key]) o.lv o.eW)(ap:o.r.Ok)(Bd:o.n<=9223372036854775807):aY prog 14 [ai g 0,ai gc 0,.agg o.cells.toArray] w0 [bB R,bI gc X key] (fun _:cZ=>aa (dH A key o).1) (fun x=>[bB x,bI gc X key]) (fun x=>x.is g (dH A key o).2):=by
 by_cases bG:o.k=0
 ·have e:dH A key o=iw A key o.r o.n:=by unfold dH;rw[if_pos bG]
  rw[e];exact WO H dU cj e3 e9 fa ap bG
 by_cases aj:o.k=1
 ·have e:dH A key o=A.gf o.n o.eM:=by unfold dH;rw[if_neg bG,if_pos aj]
  rw[e];exact WQ H dU cj e3 e9 fa ap aj
 by_cases an:o.k=2
 ·by_cases aM:A.there o.m
  ·have e:dH A key o=(A.bump o.m.toNat).gf o.n (A.read o.m.toNat):=by unfold dH;rw[if_neg bG,if_neg aj,if_pos an,if_pos aM]
   have SS:0<=o.m/\o.m<(A.n:Int):=aM;rw[e];exact WR H dU cj e3 e9 fa ap an ae ae
  ·have e:dH A key o=(7,A):=by unfold dH;rw[if_neg bG,if_neg aj,if_pos an,if_neg aM]
   rw[e];exact WS H dU cj e3 e9 fa ap an aM
 by_cases aB:o.k=3
 ·have e:dH A key o=A.sync:=by unfold dH;rw[if_neg bG,if_neg aj,if_neg an,if_pos aB]
  rw[e];exact WT H dU cj e3 e9 fa ap aB
 by_cases be:o.k=4
 ·have e:dH A key o=(0,A.lf o.eW):=by unfold dH;rw[if_neg bG,if_neg aj,if_neg an,if_neg aB,if_pos be]
  rw[e];exact WU H dU cj e3 e9 fa ap be
 by_cases bZ:o.k=5
 ·have e:dH A key o=(0,A.mV o.n):=by unfold dH;rw[if_neg bG,if_neg aj,if_neg an,if_neg aB,if_neg be,if_pos bZ]
  rw[e];exact WV H dU cj e3 e9 fa ap bZ Bd
 have e:dH A key o=(0,A):=by unfold dH;rw[if_neg bG,if_neg aj,if_neg an,if_neg aB,if_neg be,if_neg bZ]
 rw[e];exact WW H dU cj e3 e9 fa ap ae
end
end Go.Proofs.YtckdfgknodedoaaGreatDoor.K
section
end
namespace Go.Proofs.YtckdfgknodedoaaGreatDoor.K
section
open Go.RowKit Go.a2 Go.Proofs Go.Proofs.Tryz
theorem bz.K2(A:bz)(i:Int)(l:List UInt8):(A.gf i l).2.n=A.n:=by
 unfold bz.gf;split
 ·rfl
 ·split<;>rfl
theorem bz.aaj(A:bz)(i:Int)(l:List UInt8):(A.write i l).2.n=A.n:=by
 unfold bz.write;split
 ·rfl
 ·split
  ·rfl
  ·split
   ·rfl
   ·split<;>rfl
theorem bz.Xz(A:bz):A.sync.2.n=A.n:=by
 unfold bz.sync;split
 ·rfl
 ·split<;>rfl
end
section
open Go.RowKit Go.a2 Go.Proofs Go.Proofs.Tryz
def mi(l:List cp):Prop:=60<l.length\/∃o∈l,1024<o.eM.length\/100<o.eW.length
instance(l:List cp):Decidable (mi l):=by unfold mi;infer_instance
theorem TJ{a:Value}{l:List cp}{F:Nat->Prop}{w0:World}(bm:hY w0 F a l)(aF:jJ l)(j3:∀g,a.ownBlock=some g->¬F g)(h:60<l.length):bH prog 7 [a] w0 (.bool (decide (mi l))):=by
 refine enter (n:=29) func7 U U U ?_;intro fr E;have M:=Mem.begin (Φ:=fun w'=>hY w' F a l) (Has.nil w0) (fun w' h=>hY.held bm ⟨h.size,fun g al _=>h.block g al gQ⟩ j3);refine aV E<|ah 2 U (bx U U U U T.lR (M.fact).1)<|bD 0 U U ae<|aU 2 U fun fr E=>?_;refine bi E U U ?_;rw[decide_eq_true (show mi l from .inl h)];exact bX M
theorem TK{a:Value}{l:List cp}{F:Nat->Prop}{w0:World}(bm:hY w0 F a l)(aF:jJ l)(j3:∀g,a.ownBlock=some g->¬F g)(h:¬60<l.length):bH prog 7 [a] w0 (.bool (decide (mi l))):=by
 refine enter (n:=29) func7 U U U ?_;intro fr E;have M:=Mem.begin (Φ:=fun w'=>hY w' F a l) (Has.nil w0) (fun w' h=>hY.held bm ⟨h.size,fun g al _=>h.block g al gQ⟩ j3);refine aV E<|ah 2 U (bx U U U U T.lR (M.fact).1)<|bs 0 U U ae<|bw 2 U fun fr E=>?_;refine cI (fun d fr w=>∃i:Nat,d=l.length-i/\i<=l.length/\(∀j,j<i->∀ax:j<l.length,¬(1024<(l[j]).eM.length\/100<(l[j]).eW.length))/\Env [(3,aa i),(0,a)] 29 fr/\Mem w0 (aS []) [] (fun w'=>hY w' F a l) w) (l.length) ?_ ?_
 ·exact⟨0,U,Nat.zero_le _,fun j ax=>absurd ax ae,E.lL [0,3] rfl,M⟩
 ·clear E M;rintro d fr w ⟨i,rfl,hle,eB,E,M⟩;by_cases hi:i<l.length
  ·obtain⟨jc,ju,cz⟩:=(M.fact.2 _ (List.getElem_mem hi)).1.slice;obtain⟨jr,lD,c6⟩:=(M.fact.2 _ (List.getElem_mem hi)).2.slice;by_cases aj:1024<(l[i]).eM.length
   ·refine bA E<|ah 2 U (bx U U U U T.lR (M.fact).1)<|bD 0 U U ae<|ah (v:=cellAt a (i*141)) 3 U (bL (i:=i) U (M.fact).1 U U (rfl) (hi) T.lR T.su)<|ah 0 U (mI U (M.fact).1 U T.Ao ae)<|ah (v:=.slice jc (l[i]).eM.length ju) 0 U (b2 U (M.fact).1 U T.ec (by rw[BE aF hi,cz]))<|ah (v:=aa _) 0 U (mb U U U U T.aG)<|bD 0 U U ae<|ah (v:=.bool _) 8 U U<|aU 2 U fun fr E=>?_;refine bi E U U ?_;rw[decide_eq_true (show mi l from .inr ⟨l[i],List.getElem_mem hi,by omega⟩)];exact bX M
   ·by_cases an:100<(l[i]).eW.length
    ·refine bA E<|ah 2 U (bx U U U U T.lR (M.fact).1)<|bD 0 U U ae<|ah (v:=cellAt a (i*141)) 3 U (bL (i:=i) U (M.fact).1 U U (rfl) (hi) T.lR T.su)<|ah 0 U (mI U (M.fact).1 U T.Ao ae)<|ah (v:=.slice jc (l[i]).eM.length ju) 0 U (b2 U (M.fact).1 U T.ec (by rw[BE aF hi,cz]))<|ah (v:=aa _) 0 U (mb U U U U T.aG)<|bs 0 U U ae<|ah (v:=cellAt a (i*141)) 3 U (bL (i:=i) U (M.fact).1 U U (rfl) (hi) T.lR T.su)<|ah 0 U (mI U (M.fact).1 U T.Fv ae)<|ah (v:=.slice jr (l[i]).eW.length lD) 0 U (b2 U (M.fact).1 U T.qY (by rw[H0 aF hi,c6]))<|ah (v:=aa _) 0 U (mb U U U U T.en)<|bD 0 U U ae<|ah (v:=.bool _) 0 U U<|aU 2 U fun fr E=>?_;refine bi E U U ?_;rw[decide_eq_true (show mi l from .inr ⟨l[i],List.getElem_mem hi,by omega⟩)];exact bX M
    ·refine bA E<|ah 2 U (bx U U U U T.lR (M.fact).1)<|bD 0 U U ae<|ah (v:=cellAt a (i*141)) 3 U (bL (i:=i) U (M.fact).1 U U (rfl) (hi) T.lR T.su)<|ah 0 U (mI U (M.fact).1 U T.Ao ae)<|ah (v:=.slice jc (l[i]).eM.length ju) 0 U (b2 U (M.fact).1 U T.ec (by rw[BE aF hi,cz]))<|ah (v:=aa _) 0 U (mb U U U U T.aG)<|bs 0 U U ae<|ah (v:=cellAt a (i*141)) 3 U (bL (i:=i) U (M.fact).1 U U (rfl) (hi) T.lR T.su)<|ah 0 U (mI U (M.fact).1 U T.Fv ae)<|ah (v:=.slice jr (l[i]).eW.length lD) 0 U (b2 U (M.fact).1 U T.qY (by rw[H0 aF hi,c6]))<|ah (v:=aa _) 0 U (mb U U U U T.en)<|bs 0 U U ae<|ah (v:=.bool _) 0 U U<|a1 (y:=((i+1:Nat):Int)) 2 U U ((br ae ae).trans ae)<|ct 1 U fun fr E=>?_;refine⟨l.length-(i+1),by omega,i+1,U,by omega,fun j ax hc=>?_,E.lL [0,3] rfl,M⟩;rcases Nat.lt_or_eq_of_le (Nat.le_of_lt_succ ax)with h|rfl
     ·exact eB j h hc
     ·omega
  ·obtain rfl:i=l.length:=by omega
   refine bA E<|ah 2 U (bx U U U U T.lR (M.fact).1)<|bs 0 U U ae<|aU 2 U fun fr E=>?_;refine bi E U U ?_;rw[decide_eq_false (show¬mi l from fun c=>c.elim (fun c=>by omega) fun⟨o,hm,aJ⟩=>by obtain⟨j,ax,rfl⟩:=List.getElem_of_mem hm;exact eB j ax ax aJ)];exact bX M
theorem Bu{a:Value}{l:List cp}{F:Nat->Prop}{w0:World}(bm:hY w0 F a l)(aF:jJ l)(j3:∀g,a.ownBlock=some g->¬F g):bH prog 7 [a] w0 (.bool (decide (mi l))):=by
 by_cases h:60<l.length
 ·exact TJ bm aF j3 h
 ·exact TK bm aF j3 h
end
section
open Go.RowKit Go.a2 Go.Proofs Go.Proofs.Tryz
theorem VT(A:bz)(key:List UInt8)(r:Rec)(num:Int):(iw A key r num).2.n=A.n:=by
 unfold iw;split
 ·exact bz.aaj _ _ _
 ·rfl
theorem IK(A:bz)(key:List UInt8)(o:cp):(dH A key o).2.n=A.n:=by
 unfold dH;split
 ·exact VT _ _ _ _
 split
 ·exact bz.K2 _ _ _
 split
 ·split
  ·exact bz.K2 _ _ _
  ·rfl
 split
 ·exact bz.Xz _
 split
 ·rfl
 split
 ·rfl
 ·rfl
theorem Ef(A:bz)(key:List UInt8):∀i,hG (fQ A key i)
 |0=>fun r ap=>(by cases ap)
 |i+1=>fun r ap=>by
  rw[fQ]at ap;rcases List.mem_append.1 ap with h|h
  ·exact Ef A key i r h
  ·split at h
   ·rw[List.mem_singleton.1 h];exact sc _ _ _
   ·cases h
def yI(T:TypeId)(lX:List Rec):Nat->(Nat->Value)->List az
 |3,x=>[.eI T (x 20) lX]
 |4,x=>[.eI T (x 23) lX,.eI T (x 20) lX]
 |_,_=>[]
def UT(A lB:bz):Nat->bz
 |0=>A
 |1=>lB
 |2=>lB
 |_=>dy lB 2
def VJ(A lB:bz):Nat->bz
 |0=>A
 |1=>A
 |2=>lB
 |3=>lB
 |_=>dy lB 2
def rs(B:fz)(key:List UInt8)(gc:Nat)(X:fB)(g iR:Nat)(T:TypeId)(A lB:bz)(lX:List Rec)(I:List az)(w0:World)(k:Nat)(x:Nat->Value)(w:World):Prop:=
 k9 I w0 (fun y:b6×cZ=>yI T lX k x++[ba y.1,bp B key,bB y.2,bI gc X key]) (fun y=>y.1.is g (UT A lB k)/\y.2.is iR (VJ A lB k)) w
theorem MT{B:fz}{key:List UInt8}{gc:Nat}{X:fB}{g iR:Nat}{T:TypeId}{A lB:bz}{lX:List Rec}{I:List az}{w0 w:World}{k:Nat}{x y:Nat->Value}(aj:x 20=y 20)(an:x 23=y 23)(h:rs B key gc X g iR T A lB lX I w0 k x w):rs B key gc X g iR T A lB lX I w0 k y w:=by
 have e:yI T lX k x=yI T lX k y:=by unfold yI;split<;>simp[aj,an]
 unfold rs at h⊢;rw[<-e];exact h
theorem WY{B:fz}{key:List UInt8}{gc:Nat}{X:fB}{g iR:Nat}{T:TypeId}{A lB:bz}{lX:List Rec}{I:List az}{w0 w:World}{x:Nat->Value}{m:Nat}{r:Nat->Prop}{C:Prop}(h:∃k,k<=m/\r k/\rs B key gc X g iR T A lB lX I w0 k x w)(ab:∀k,k<=m->r k->k=4)(c:(∀{D:b6} {R:cZ},Has w [.eI T (x 23) lX,.eI T (x 20) lX,ba D,bp B key,bB R,bI gc X key]->C)):C:=by
 obtain⟨k,a,b,bE⟩:=h;obtain rfl:=ab k a b;obtain⟨y,_,H,_⟩:=bE;exact c H
theorem Ng{a kv:Value}{l:List cp}{key:List UInt8}{F:Nat->Prop}{w0:World}(bm:hY w0 F a l)(lp:Bytes w0 kv key)(nG:w0.heap[0]? =some (.cells (a7 bt).toArray 243))(ik:w0.heap[1]? =some (.cells (a7 bt).toArray 243))(aF:jJ l)(a6:∀o∈l,o.n<=9223372036854775807)(cG:∀g,w0.heap.size<=g->F g)(j3:∀g,a.ownBlock=some g->¬F g)(aI:mi l):bH prog 3 [kv,a] w0 (.bool true):=by
 refine enter (n:=91) func3 U U U ?_;intro fr E;have M:=Mem.begin (Φ:=fun w'=>hY w' F a l/\Bytes w' kv key/\w'.heap[0]? =some (.cells (a7 bt).toArray 243)/\w'.heap[1]? =some (.cells (a7 bt).toArray 243)) (Has.nil w0) (fun w' h=>⟨hY.held bm ⟨h.size,fun g al _=>h.block g al gQ⟩ j3,lp.bU h,fc nG h,fc ik h⟩);refine aV E<|bo M 2 U (ar U U T.AN) (Bu M.fact.1 aF j3) fun w M=>fun fr E=>?_;rw[decide_eq_true aI]at E;refine bN E<|ah (v:=.bool _) 4 U U<|bo M 1 U (ar U U T.AO) (Dr _) fun w M=>aU 1 U fun fr E=>?_;refine bi E U U ?_;exact bX M
theorem Nd{a kv:Value}{l:List cp}{key:List UInt8}{F:Nat->Prop}{w0:World}(bm:hY w0 F a l)(lp:Bytes w0 kv key)(nG:w0.heap[0]? =some (.cells (a7 bt).toArray 243))(ik:w0.heap[1]? =some (.cells (a7 bt).toArray 243))(aF:jJ l)(a6:∀o∈l,o.n<=9223372036854775807)(cG:∀g,w0.heap.size<=g->F g)(j3:∀g,a.ownBlock=some g->¬F g)(aI:¬mi l)(ak:1024<key.length):bH prog 3 [kv,a] w0 (.bool true):=by
 refine enter (n:=91) func3 U U U ?_;intro fr E;have M:=Mem.begin (Φ:=fun w'=>hY w' F a l/\Bytes w' kv key/\w'.heap[0]? =some (.cells (a7 bt).toArray 243)/\w'.heap[1]? =some (.cells (a7 bt).toArray 243)) (Has.nil w0) (fun w' h=>⟨hY.held bm ⟨h.size,fun g al _=>h.block g al gQ⟩ j3,lp.bU h,fc nG h,fc ik h⟩);refine aV E<|bo M 2 U (ar U U T.AN) (Bu M.fact.1 aF j3) fun w M=>fun fr E=>?_;rw[decide_eq_false aI]at E;refine bN E<|ah 2 U (bx U U U U T.aG (M.fact.2.1))<|bD 0 U U ae<|ah (v:=.bool _) 0 U U<|bo M 1 U (ar U U T.AO) (Dr _) fun w M=>aU 1 U fun fr E=>?_;refine bi E U U ?_;exact bX M
set_option maxHeartbeats 2000000 in
theorem Nf{a kv:Value}{l:List cp}{key:List UInt8}{F:Nat->Prop}{w0:World}(bm:hY w0 F a l)(lp:Bytes w0 kv key)(nG:w0.heap[0]? =some (.cells (a7 bt).toArray 243))(ik:w0.heap[1]? =some (.cells (a7 bt).toArray 243))(aF:jJ l)(a6:∀o∈l,o.n<=9223372036854775807)(cG:∀g,w0.heap.size<=g->F g)(j3:∀g,a.ownBlock=some g->¬F g)(aI:¬mi l)(ak:¬1024<key.length):bH prog 3 [kv,a] w0 (.bool true):=by
 refine enter (n:=91) func3 U U U ?_;intro fr E;have M:=Mem.begin (Φ:=fun w'=>hY w' F a l/\Bytes w' kv key/\w'.heap[0]? =some (.cells (a7 bt).toArray 243)/\w'.heap[1]? =some (.cells (a7 bt).toArray 243)) (Has.nil w0) (fun w' h=>⟨hY.held bm ⟨h.size,fun g al _=>h.block g al gQ⟩ j3,lp.bU h,fc nG h,fc ik h⟩);refine aV E<|bo M 2 U (ar U U T.AN) (Bu M.fact.1 aF j3) fun w M=>fun fr E=>?_;rw[decide_eq_false aI]at E;refine bN E<|ah 2 U (bx U U U U T.aG (M.fact.2.1))<|bs 0 U U ae<|ah (v:=.bool _) 0 U U<|cP M 1 U (ar U U T.FV) (EZ (k:=4) aN aN) U fun nZ w xI M=>cP M 5 U (ar U U T.Qp) (MG (k:=4) aN aN) U fun dJ w Gh M=>fun fr E=>?_;obtain⟨g,kk⟩:∃g,g=nZ.av:=⟨_,rfl⟩
 rw[<-kk]at xI E;obtain⟨iR,pw⟩:∃g,g=dJ.av:=⟨_,rfl⟩
 rw[<-pw]at Gh E;refine bN E<|ch 6 U U (by simp)<|ch 2 U U (by simp)<|ah (v:=.bool _) 0 U U<|cP M 2 U (ar U U T.Qs) (OD M.fact.2.1 M.fact.2.2.1 ae) U fun B w _ M=>cP M 2 U (ar U U T.Qt) (LK M.fact.2.1 M.fact.2.2.2 ae) U fun⟨gc,X⟩ w _ M=>bw 2 U fun fr E=>?_;refine cI (fun d fr w=>∃(i:Nat) (D:b6) (R:cZ) (A:bz),d=l.length-i/\i<=l.length/\D.is g A/\R.is iR A/\A.n=4/\Env [(11,aa (i:Int)),(10,ai gc 0),(9,ai B.eE 0),(7,ai iR 0),(5,ai g 0),(1,a)] 91 fr/\Mem w0 (aS []) [ba D,bp B key,bB R,bI gc X key] (fun w'=>hY w' F a l/\Bytes w' kv key/\w'.heap[0]? =some (.cells (a7 bt).toArray 243)/\w'.heap[1]? =some (.cells (a7 bt).toArray 243)) w) (l.length) ?_ ?_
 ·have M:=M.aH 2 rfl;have M:=M.aH 2 rfl;have M:=M.aH 3 rfl;exact⟨0,nZ,dJ,_,U,Nat.zero_le _,xI,Gh,U,E.lL [1,5,7,9,10,11] rfl,Mem.take (L:=[ba nZ,bp B key,bB dJ,bI gc X key]) M⟩
 ·clear E M;rintro d fr w ⟨i,D,R,A,rfl,hle,cb,dU,Ge,E,M⟩;by_cases hi:i<l.length
  ·have xX:(l[i]'hi).r.Ok:=aF _ (List.getElem_mem hi);have GF:2<(dH A key (l[i]'hi)).2.n:=by rw[IK,Ge];decide
   have abb:¬60<l.length:=fun c=>aI (.inl c);refine bA E<|ah 2 U (bx U U U U T.lR (M.fact.1).1)<|bD 0 U U ae<|fun fr E=>?_;have M:=M.aH 3 rfl;have M:=M.aH 3 rfl;have M:=M.aH 3 rfl;have M:=M.aH 3 rfl;have M:Mem _ _ ([ba D,bp B key,bB R,bI gc X key]++_) _ w:=M;have cY:∀k x v,(rs B key gc X g iR 45 A (dH A key (l[i]'hi)).2 (fQ (dH A key (l[i]'hi)).2 key 2) [ba D,bp B key,bB R,bI gc X key] w.drew) k x v->dc (aS [ba D,bp B key,bB R,bI gc X key]) w.drew v:=fun k x v h=>k9.jM h;have bG:(rs B key gc X g iR 45 A (dH A key (l[i]'hi)).2 (fQ (dH A key (l[i]'hi)).2 key 2) [ba D,bp B key,bB R,bI gc X key] w.drew) 0 (fun _=>undef) w.drew:=⟨(D,R),⟨cb,dU⟩,(M.has.sub (List.sublist_append_left _ _)).ext (bd.drew w),fun q h=>.inl h,dc.refl _ _⟩
   have aL:sZ T.y5 [7,14,20,23]=true:=by decide
   have ak:∀q,aS [ba D,bp B key,bB R,bI gc X key] q\/w.drew.heap.size<=q->w0.heap.size<=q:=fun q h=>h.elim (fun⟨e,he,al⟩=>(M.own e (List.mem_append_left _ he) q al).resolve_right gQ) fun h=>Nat.le_trans M.jM.held.size h;have xU:∀k o,w0.heap[k]? =some o->¬w0.heap.size<=k:=fun k o h=>Nat.not_le_of_lt (Array.getElem?_eq_some_iff.1 h).1;refine bN E<|bw 1 U fun fr E=>?_;refine(Rs (B:=T.y5) (Vs:=(.af (ai g 0):: .af (ai B.eE 0):: .af (.iface 33 (ai B.eE 0)):: .af (a):: .af (aa i):: .af (cellAt a (i*141)):: .af (.agg (l[i]'hi).cells.toArray):: .af (aa (dH A key (l[i]'hi)).1):: .af (ai iR 0):: .af (ai gc 0):: .af (a):: .af (aa i):: .af (cellAt a (i*141)):: .af (.agg (l[i]'hi).cells.toArray):: .af (aa (dH A key (l[i]'hi)).1):: .af (.bool false):: .af (.bool false):: .af (ai g 0):: .af (ai B.eE 0):: .af (.iface 33 (ai B.eE 0)):: .rel (fun _ _=>True):: .af (ai iR 0):: .af (ai gc 0):: .rel (fun _ _=>True):: .af (.bool true):: .af (.bool false):: .af (.bool false)::[])) (ra T.y5 [7,14,20,23] (rs B key gc X g iR 45 A (dH A key (l[i]'hi)).2 (fQ (dH A key (l[i]'hi)).2 key 2) [ba D,bp B key,bB R,bI gc X key] w.drew)) T.Zb E T.mixed T.Za U ?_ ⟨jk U U U M cY (fun x w' aA ab=>⟨_,U,U,U,run_move U U,U⟩),
   jk U U U M cY (fun x w' aA ab=>⟨_,U,U,U,run_move U U,U⟩),
   jk U U U M cY (fun x w' aA ab=>⟨_,U,U,U,U,U⟩),
   jk U U U M cY (fun x w' aA ab=>⟨_,U,U,U,run_move U U,U⟩),
   jk U U U M cY (fun x w' aA ab=>⟨_,U,U,U,run_move U U,U⟩),
   jk U U U M cY (fun x w' aA ab=>⟨_,U,U,U,bL (i:=i) U (aA.fact.1).1 U U U hi T.lR T.su,U⟩),
   jk U U U M cY (fun x w' aA ab=>⟨_,U,U,U,hU (k:=i*141) U (aA.fact.1).1 U T.Ed ae aN (BF aF hi),U⟩),
   yX (j:=0) aL U U U M cY (fun x w' aA jx ab=>⟨_,_,U,U,U,ar U U T.Qv,
    k9.call (γ:=b6×cZ) (I:=[ba D,bp B key,bB R,bI gc X key]) (w0:=w.drew) (outs:=fun y:b6×cZ=>[ba y.1,bp B key,bB y.2,bI gc X key]) (ins:=fun y=>[ba y.1,bp B key]) (rest:=fun y=>[bB y.2,bI gc X key]) (outs':=fun v y=>[ba y.1,bp B key,bB y.2,bI gc X key]) (p':=fun y=>y.1.is g (dH A key (l[i]'hi)).2/\y.2.is iR A) (V:=fun v=>v=aa (dH A key (l[i]'hi)).1) jx (fun y=>List.Perm.refl _)
     (fun y bn H bu=>Pl H bn.1 aA.fact.2.2.1 (fun bE=>xU 0 _ nG (ak _ (bu _ (show aS ([ba y.1,bp B key]++[bB y.2,bI gc X key]) _ from hN.2 (.inl bE))))) ((aA.fact.1.2 _ (List.getElem_mem hi)).1.less (fun q bE=>cG q (ak q (bu q (show aS ([ba y.1,bp B key]++[bB y.2,bI gc X key]) _ from hN.2 (.inl bE)))))) ((aA.fact.1.2 _ (List.getElem_mem hi)).2.less (fun q bE=>cG q (ak q (bu q (show aS ([ba y.1,bp B key]++[bB y.2,bI gc X key]) _ from hN.2 (.inl bE)))))) xX)
     (fun y z bn au=>⟨U,(z,y.2),⟨au,bn.2⟩,List.Perm.refl _⟩)⟩),
   jk U U U M cY (fun x w' aA ab=>⟨_,U,U,U,run_move U U,U⟩),
   jk U U U M cY (fun x w' aA ab=>⟨_,U,U,U,run_move U U,U⟩),
   jk U U U M cY (fun x w' aA ab=>⟨_,U,U,U,run_move U U,U⟩),
   jk U U U M cY (fun x w' aA ab=>⟨_,U,U,U,run_move U U,U⟩),
   jk U U U M cY (fun x w' aA ab=>⟨_,U,U,U,bL (i:=i) U (aA.fact.1).1 U U U hi T.lR T.su,U⟩),
   jk U U U M cY (fun x w' aA ab=>⟨_,U,U,U,hU (k:=i*141) U (aA.fact.1).1 U T.Ed ae aN (BF aF hi),U⟩),
   yX (j:=1) aL U U U M cY (fun x w' aA jx ab=>⟨_,_,U,U,U,ar U U T.Qx,
    k9.call (γ:=b6×cZ) (I:=[ba D,bp B key,bB R,bI gc X key]) (w0:=w.drew) (outs:=fun y:b6×cZ=>[ba y.1,bp B key,bB y.2,bI gc X key]) (ins:=fun y=>[bB y.2,bI gc X key]) (rest:=fun y=>[ba y.1,bp B key]) (outs':=fun v y=>[ba y.1,bp B key,bB y.2,bI gc X key]) (p':=fun y=>y.1.is g (dH A key (l[i]'hi)).2/\y.2.is iR (dH A key (l[i]'hi)).2) (V:=fun v=>v=aa (dH A key (l[i]'hi)).1) jx (fun y=>List.perm_append_comm)
     (fun y bn H bu=>WX H bn.2 aA.fact.2.2.2 (fun bE=>xU 1 _ ik (ak _ (bu _ (show aS ([ba y.1,bp B key]++[bB y.2,bI gc X key]) _ from hN.2 (.inr bE))))) ((aA.fact.1.2 _ (List.getElem_mem hi)).1.less (fun q bE=>cG q (ak q (bu q (show aS ([ba y.1,bp B key]++[bB y.2,bI gc X key]) _ from hN.2 (.inr bE)))))) ((aA.fact.1.2 _ (List.getElem_mem hi)).2.less (fun q bE=>cG q (ak q (bu q (show aS ([ba y.1,bp B key]++[bB y.2,bI gc X key]) _ from hN.2 (.inr bE)))))) xX (a6 _ (List.getElem_mem hi)))
     (fun y z bn au=>⟨U,(y.1,z),⟨bn.1,au⟩,List.perm_append_comm (l₁:=[ba y.1,bp B key])⟩)⟩),
   jk U U U M cY (fun x w' aA ab=>⟨_,U,U,U,eZ U (by simp),U⟩),
   jk U U U M cY (fun x w' aA ab=>⟨_,U,U,U,run_move U U,U⟩),
   jk U U U M cY (fun x w' aA ab=>⟨_,U,U,U,run_move U U,U⟩),
   jk U U U M cY (fun x w' aA ab=>⟨_,U,U,U,run_move U U,U⟩),
   jk U U U M cY (fun x w' aA ab=>⟨_,U,U,U,U,U⟩),
   yX (j:=2) aL U U U M cY (fun x w' aA jx ab=>⟨_,_,U,U,U,ar U U T.FB,
    k9.call (γ:=b6×cZ) (I:=[ba D,bp B key,bB R,bI gc X key]) (w0:=w.drew) (outs:=fun y:b6×cZ=>[ba y.1,bp B key,bB y.2,bI gc X key]) (ins:=fun y=>[ba y.1,bp B key]) (rest:=fun y=>[bB y.2,bI gc X key]) (outs':=fun v y=>(.eI 45 v (fQ (dH A key (l[i]'hi)).2 key 2)::[ba y.1,bp B key,bB y.2,bI gc X key])) (p':=fun y=>y.1.is g (dy (dH A key (l[i]'hi)).2 2)/\y.2.is iR (dH A key (l[i]'hi)).2) (V:=fun v=>True) jx (fun y=>List.Perm.refl _)
     (fun y bn H bu=>OB H bn.1 aA.fact.2.2.1 (fun bE=>xU 0 _ nG (ak _ (bu _ (show aS ([ba y.1,bp B key]++[bB y.2,bI gc X key]) _ from hN.2 (.inl bE))))) GF)
     (fun y z bn au=>⟨ay,(z.2,y.2),⟨au,bn.2⟩,List.Perm.refl _⟩)⟩),
   jk U U U M cY (fun x w' aA ab=>⟨_,U,U,U,run_move U U,U⟩),
   jk U U U M cY (fun x w' aA ab=>⟨_,U,U,U,run_move U U,U⟩),
   yX (j:=3) aL U U U M cY (fun x w' aA jx ab=>⟨_,_,U,U,U,ar U U T.QD,
    k9.call (γ:=b6×cZ) (I:=[ba D,bp B key,bB R,bI gc X key]) (w0:=w.drew) (outs:=fun y:b6×cZ=>((az.eI 45 (x 20) (fQ (dH A key (l[i]'hi)).2 key 2))::[ba y.1,bp B key,bB y.2,bI gc X key])) (ins:=fun y=>[bB y.2,bI gc X key]) (rest:=fun y=>((az.eI 45 (x 20) (fQ (dH A key (l[i]'hi)).2 key 2))::[ba y.1,bp B key])) (outs':=fun v y=>(.eI 45 v (fQ (dH A key (l[i]'hi)).2 key 2)::(az.eI 45 (x 20) (fQ (dH A key (l[i]'hi)).2 key 2))::[ba y.1,bp B key,bB y.2,bI gc X key])) (p':=fun y=>y.1.is g (dy (dH A key (l[i]'hi)).2 2)/\y.2.is iR (dy (dH A key (l[i]'hi)).2 2)) (V:=fun v=>True) jx (fun y=>List.perm_append_comm)
     (fun y bn H bu=>LB H bn.2 aA.fact.2.2.2 (fun bE=>xU 1 _ ik (ak _ (bu _ (show aS (((az.eI 45 (x 20) (fQ (dH A key (l[i]'hi)).2 key 2))::[ba y.1,bp B key])++[bB y.2,bI gc X key]) _ from hN.2 (.inr bE))))) GF)
     (fun y z bn au=>⟨ay,(y.1,z.2),⟨bn.1,au⟩,List.Perm.cons _ (List.perm_append_comm (l₁:=[(az.eI 45 (x 20) (fQ (dH A key (l[i]'hi)).2 key 2)),ba y.1,bp B key]) (l₂:=[bB z.2,bI gc X key]))⟩)⟩),
   Xy U U U M cY (fun x w' aA jx ab=>WY jx (fun k pz vo=>by have:=vo 3 23 U U;simp at pz;omega) fun H=>⟨_,_,U,U,U,ar U U T.Qy,bH.ext (Nm (nS (H.dG (e:=(az.eI 45 (x 20) (fQ (dH A key (l[i]'hi)).2 key 2))) 1 U)) (nS (H.dG (e:=.eI 45 (x 23) (fQ (dH A key (l[i]'hi)).2 key 2)) 0 U)) (Ef _ _ _) (Nat.le_trans (wU _ _ _) aN))⟩),
   jk U U U M cY (fun x w' aA ab=>⟨_,U,U,U,U,U⟩),
   jk U U U M cY (fun x w' aA ab=>⟨_,U,U,U,U,U⟩),ay⟩ ?_)
   ·exact Xq aL bG (fun k x v bR ad h=>k9.ext h ad) (fun k x y v h bE=>MT (h 20 aN) (h 23 aN) bE) ⟨fun _ _=>trivial,fun _ _=>trivial,ay⟩
   intro x fr sG cX ab E;obtain⟨⟨ez,gX⟩,⟨gj,mo⟩,Mn,bu,Sc⟩:k9 [ba D,bp B key,bB R,bI gc X key] w.drew (fun y:b6×cZ=>.eI 45 (x 23) (fQ (dH A key (l[i]'hi)).2 key 2)::(az.eI 45 (x 20) (fQ (dH A key (l[i]'hi)).2 key 2))::[ba y.1,bp B key,bB y.2,bI gc X key]) (fun y=>y.1.is g (dy (dH A key (l[i]'hi)).2 2)/\y.2.is iR (dy (dH A key (l[i]'hi)).2 2)) sG:=Xp (N:=27) aN cX;have M:=Mem.call (ins:=[ba D,bp B key,bB R,bI gc X key]) M ((dc.kW (bd.drew _)).trans Sc) Mn (fun q bE=>bu q bE);refine cm E<|bw 2 U fun fr E=>?_;refine cI (fun d fr w=>∃(k:Nat) (D:b6) (R:cZ) (A:bz),d=4-k/\k<=4/\D.is g A/\R.is iR A/\A.n=4/\Env [(12,aa (k:Int)),(11,aa (i:Int)),(10,ai gc 0),(9,ai B.eE 0),(7,ai iR 0),(5,ai g 0),(1,a)] 91 fr/\Mem w0 (aS []) [ba D,bp B key,bB R,bI gc X key] (fun w'=>hY w' F a l/\Bytes w' kv key/\w'.heap[0]? =some (.cells (a7 bt).toArray 243)/\w'.heap[1]? =some (.cells (a7 bt).toArray 243)) w) (4) ?_ ?_
   ·have M:=M.aH 5 rfl;have M:=M.aH 5 rfl;have M:=M.aH 5 rfl;have M:=M.aH 5 rfl;exact⟨0,ez,gX,_,U,by decide,gj,mo,by rw[uJ,IK,Ge],E.lL [1,5,7,9,10,11,12] rfl,Mem.take (L:=[ba ez,bp B key,bB gX,bI gc X key]) M⟩
   ·clear E M;rintro d fr w ⟨k,wK,zw,zs,rfl,abm,xK,AX,Gd,E,M⟩;by_cases ab:k<4
    ·have ax:k<zs.n:=by omega
     refine bA E<|bD 1 U U ae<|bC ([ba wK]) M 3 U (ar U U T.mn) U (fun H=>mR H xK ax) fun⟨c,DE⟩ w RV M=>fun fr E=>?_;have M:=M.aH 3 rfl;refine bN E<|bC ([bB zw]) M 8 U (ar U U T.FI) U (fun H=>MO (A:=zs.bump k) H ⟨AX.1,AX.2.bump k⟩ ax) fun⟨q,DQ⟩ w R0 M=>bo M 0 U (ar U U T.AA) (zz (M.bytes 2 U) (M.bytes 0 U) (Nat.le_trans (xK.2.B7 k) aN) (decide_eq_true U)) fun w M=>ah (v:=.bool _) 0 U U<|a1 (y:=((k+1:Nat):Int)) 2 U U ((br ae ae).trans ae)<|ct 1 U fun fr E=>?_;have M:=M.aH 5 rfl;have M:=M.aH 2 rfl;have M:=M.aH 5 rfl;have M:=M.aH 5 rfl;exact⟨4-(k+1),by omega,k+1,DE,DQ,_,U,by omega,RV,R0,Gd,E.lL [1,5,7,9,10,11,12] rfl,Mem.take (L:=[ba DE,bp B key,bB DQ,bI gc X key]) M⟩
    ·obtain rfl:k=4:=by omega
     refine bA E<|bs 1 U U ae<|a1 (y:=((i+1:Nat):Int)) 2 U U ((br ae ae).trans ae)<|ct 1 U fun fr E=>?_;have M:=M.aH 3 rfl;have M:=M.aH 3 rfl;have M:=M.aH 3 rfl;have M:=M.aH 3 rfl;exact⟨l.length-(i+1),by omega,i+1,wK,zw,zs,U,by omega,xK,AX,Gd,E.lL [1,5,7,9,10,11] rfl,Mem.take (L:=[ba wK,bp B key,bB zw,bI gc X key]) M⟩
  ·obtain rfl:i=l.length:=by omega
   refine bA E<|ah 2 U (bx U U U U T.lR (M.fact.1).1)<|bs 0 U U ae<|bo M 1 U (ar U U T.AO) (Dr _) fun w M=>aU 1 U fun fr E=>?_;refine bi E U U ?_;exact bX M
theorem Nh{a kv:Value}{l:List cp}{key:List UInt8}{w0:World}(lp:Bytes w0 kv key)(aF:jJ l)(ak:Reads 141 w0 a l.length (jh l))(aP:∀o∈l,o.In w0/\(Lit.int .i64 o.n).wf=true)(nG:w0.heap[0]? =some (.cells (a7 bt).toArray 243))(ik:w0.heap[1]? =some (.cells (a7 bt).toArray 243)):bH prog 3 [kv,a] w0 (.bool true):=by
 have bm:hY w0 (fun g=>w0.heap.size<=g) a l:=hY.gA ak fun o h=>(aP o h).1.2;have j3:∀g,a.ownBlock=some g->¬w0.heap.size<=g:=fun g al aJ=>by
  rcases ak.2 with⟨rfl,_⟩|⟨tg,off,cap,rfl,_,_,bZ,_⟩
  ·cases al
  ·have e:tg=g:=by simpa [Value.ownBlock]using al
   omega
 have a6:∀o∈l,o.n<=9223372036854775807:=fun o h=>(S5 (aP o h).2).2;by_cases aI:mi l
 ·exact Ng bm lp nG ik aF a6 (fun _ h=>h) j3 aI
 ·by_cases ak:1024<key.length
  ·exact Nd bm lp nG ik aF a6 (fun _ h=>h) j3 aI ak
  ·exact Nf bm lp nG ik aF a6 (fun _ h=>h) j3 aI ak
end
end Go.Proofs.YtckdfgknodedoaaGreatDoor.K
