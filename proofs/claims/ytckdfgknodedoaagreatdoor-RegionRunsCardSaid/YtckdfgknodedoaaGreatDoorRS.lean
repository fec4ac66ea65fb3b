/- Texts of this proof. -/
import Derived.Test.YtckdfgknodedoaaGreatDoorRR1
import Derived.Test.YtckdfgknodedoaaGreatDoorVO
set_option linter.unusedVariables false
set_option linter.unusedSimpArgs false
namespace Go.a2
open Go.RowKit Go.a2.o2
open Go.a2.o2.S (iN)
structure sL(K:Type) where
 cells:K->List Value
 val:K->Value
 uQ:List iN
 inj:∀{a b:K},cells a=cells b->a=b
 fit:∀k,S.Fit uQ (cells k)
structure ux{K:Type}(V:sL K)(P:Program)(t fi lg:TypeId):Prop where
 K9:P.underlying t=some (.map fi lg)
 flat:S.er P 10000 fi=some V.uQ
 fT:∀k,S.fT P fi (V.cells k)=V.val k
theorem Mem.Uo{w0 w:World}{O:Nat->Prop}{L:List az}{Φ:World->Prop}(M:Mem w0 O L Φ w)(e:TypeId)(sz:Nat):Mem w0 O (.row e sz (.slice none 0 0) 0 []::L) Φ w:=
 M.jo (bd.refl w) _ (World.ownsRow_nil w 0 e sz) fun g al=>by simp[az.row,Value.ownBlock]at al
section
variable{K:Type}(V:sL K)
def vI(k:K)(j:Nat):MapEntry:={key:=V.val k,val:=.int .i64 ((j+1:Nat):Int),born:=j}
def qU:List K->Nat->List MapEntry
 |[],_=>[]
 |k::r,j=>vI V k j::qU r (j+1)
def mD(ks:List K):Array MapEntry:=(qU V ks 0).toArray
theorem HI(k:K):∀(ks:List K) (j:Nat),qU V (ks++[k]) j=qU V ks j++[vI V k (j+ks.length)]
 |[],j=>rfl
 |q::r,j=>by
  show vI V q j::qU V (r++[k]) (j+1)=_
  rw[HI k r (j+1)];show _=vI V q j::(qU V r (j+1)++[vI V k (j+(r.length+1))])
  rw[show j+1+r.length=j+(r.length+1) by omega]
theorem Uq(ks:List K)(k:K):mD V (ks++[k])=(mD V ks).push {key:=V.val k,val:=.int .i64 ((ks.length+1:Nat):Int),born:=ks.length}:=by
 apply Array.toList_inj.1;show qU V (ks++[k]) 0=_
 rw[HI,Array.toList_push,Nat.zero_add];rfl
end
section
variable{K:Type} [DecidableEq K]
def gy(k:K):List K->Nat->Option Nat
 |[],_=>none
 |q::r,i=>if k=q then some i else gy k r (i+1)
theorem vH{k:K}:∀{ks:List K} {i:Nat},k∉ks->gy k ks i=none
 |[],_,_=>rfl
 |q::r,i,h=>by
  unfold gy;rw[if_neg (fun e:k=q=>h (by rw[e];exact List.mem_cons_self ..)),vH fun hm=>h (List.mem_cons_of_mem _ hm)]
theorem HH(k:K):∀(r:List K) (m:Nat),gy k r (m+1)=(gy k r m).map (·+1):=by
 intro r
 induction r with
 |nil=>intro m;rfl
 |cons a r ck=>intro m;unfold gy;split<;>first|rfl|exact ck (m+1)
theorem HG{k:K}{ks:List K}(h:k∈ks):∃m,gy k ks 0=some m:=by
 induction ks with
 |nil=>cases h
 |cons q r ck=>
  unfold gy;split
  ·exact⟨0,U⟩
  ·rename_i e;rcases List.mem_cons.1 h with rfl|h
   ·exact absurd U e
   ·obtain⟨m,hm⟩:=ck h;exact⟨m+1,by rw[HH,hm];rfl⟩
end
section
variable{K:Type} [DecidableEq K]{V:sL K}{P:Program}{ρ:Operand->Value}{o:Oper}{w:World}{t fi lg:TypeId}{g:Nat}{ks:List K}{k:K}
theorem Fi(aD:∀k,S.fT P fi (V.cells k)=V.val k)(k:K):∀(ks:List K) (i j:Nat),o2.Fd P fi V.uQ (V.cells k) (qU V ks j) i ((gy k ks 0).map fun m=>(i+m,.int .i64 ((j+m+1:Nat):Int)))
 |[],i,j=>rfl
 |q::r,i,j=>by
  refine⟨V.cells q,(aD q).symm,V.fit q,?_⟩;by_cases e:k=q
  ·subst e;refine .inl ⟨U,?_⟩;unfold gy;rw[if_pos rfl];rfl
  ·refine .inr ⟨fun aJ=>e (V.inj aJ),?_⟩;have ck:=Fi aD k r (i+1) (j+1);have c6:gy k (q::r) 0=(gy k r 0).map (·+1):=by
    show(if k=q then some 0 else gy k r 1)=_
    rw[if_neg e,HH k r 0]
   rw[c6,Option.map_map];have ih:((fun m=>(i+m,Value.int .i64 ((j+m+1:Nat):Int)))∘fun x=>x+1)=fun m=>(i+1+m,Value.int .i64 ((j+1+m+1:Nat):Int)):=by
    funext m;simp only[Function.comp,Prod.mk.injEq,Value.int.injEq,true_and];exact⟨by omega,by congr 1;omega⟩
   rw[ih];exact ck
theorem Fp(H:ux V P t fi lg):(Instr.findKey fi (V.val k) (mD V ks).toList).run P w=.ok ((gy k ks 0).map fun m=>(m,.int .i64 ((m+1:Nat):Int))) w:=by
 have bu:=Fi (P:=P) H.fT k ks 0 0;have e:((gy k ks 0).map fun m=>(0+m,Value.int .i64 ((0+m+1:Nat):Int)))=((gy k ks 0).map fun m=>(m,.int .i64 ((m+1:Nat):Int))):=by simp
 rw[e]at bu;have:=Qe (w:=w) H.flat (V.fit k) bu
 rwa [H.fT k]at this
theorem v7{X Y:Operand}{z v:Value}{b:Bool}{clock:Nat}(aF:o.op=.lookup t X Y true)(bS:ρ X=.map (some g))(du:ρ Y=V.val k)(aM:ux V P t fi lg)(au:zeroOf P lg=some z)(al:w.heap[g]? =some (.map (mD V ks) clock))
  (ap:(match gy k ks 0 with|some m=>(.int .i64 ((m+1:Nat):Int),true)|none=>(z,false))=(v,b)):(execOp ρ o).run P w=.ok (.value (.tuple #[v,.bool b])) w:=by
 have l0:(getObj g).run P w=.ok (.map (mD V ks) clock) w:=by simp[getObj,Sem.run,al]
 have vc:=S.zZ (P:=P) (mD V ks).isEmpty 10000 fi V.uQ aM.flat w (V.cells k) (V.fit k);rw[aM.fT k]at vc;have xR:=Fp (w:=w) (k:=k) (ks:=ks) aM;simp only[execOp,aF,bS,du,Instr.lookup,Sem.run_bind,run_underlying aM.K9,Result.andThen_ok,l0,Sem.run_pure,vc,xR];cases a6:gy k ks 0 with
 |none=>
  rw[a6]at ap;simp only[Prod.mk.injEq]at ap;obtain⟨rfl,rfl⟩:=ap;simp[o2.aaM au]
 |some m=>
  rw[a6]at ap;simp only[Prod.mk.injEq]at ap;obtain⟨rfl,rfl⟩:=ap;simp
theorem Wq{X Y Z:Operand}(aF:o.op=.mapUpdate t X Y Z)(bS:ρ X=.map (some g))(du:ρ Y=V.val k)(po:ρ Z=.int .i64 ((ks.length+1:Nat):Int))(aM:ux V P t fi lg)(al:w.heap[g]? =some (.map (mD V ks) ks.length))(a6:k∉ks):
  (execOp ρ o).run P w=.ok .skip {w with heap:=w.heap.setIfInBounds g (.map (mD V (ks++[k])) (ks++[k]).length)}:=by
 have l0:(getObj g).run P w=.ok (.map (mD V ks) ks.length) w:=by simp[getObj,Sem.run,al]
 have kl:∀gz,(setObj g gz).run P w=.ok () {w with heap:=w.heap.setIfInBounds g gz}:=fun gz=>by simp[setObj,Sem.run,al]
 have vc:=S.zZ (P:=P) false 10000 fi V.uQ aM.flat w (V.cells k) (V.fit k);rw[aM.fT k]at vc;have xR:=Fp (w:=w) (k:=k) (ks:=ks) aM;rw[vH a6]at xR;simp only[execOp,aF,bS,du,po,Instr.mapUpdate,Sem.run_bind,run_underlying aM.K9,Result.andThen_ok,l0,vc,xR,Option.map_none,kl];rw[Uq,List.length_append];rfl
omit [DecidableEq K]in
end
section
variable{K:Type} [DecidableEq K]{V:sL K}{P:Program}{ops:Array Oper}{Q:Exit->Act->World->Prop}{l:List (Nat×Value)}{n:Nat}{t fi lg:TypeId}{k:K}{ks:List K}
theorem TD{a:Act}{w hW:World}{m i g:Nat}{o:Oper}{O:Nat->Prop}{L L':List az}{Φ:World->Prop}{X Y Z:Operand}(E:Env l n a)(M:Mem hW O L Φ w)(aF:ops[m]? =some o)(dd:L[i]? =some (.bb g (.map (mD V ks) ks.length)))(aT:o.dst=none)(aJ:dp l o=true)(al:dg ops l o=true)(hw:dh ops l o=true)
  (lH:o.op=.mapUpdate t X Y Z) (bS:cf l X=.map (some g)) (du:cf l Y=V.val k) (po:cf l Z=.int .i64 ((ks.length+1:Nat):Int)) (aM:ux V P t fi lg) (a6:k∉ks) (pn:L.set i (.bb g (.map (mD V (ks++[k])) (ks++[k]).length))=L')
  (dD:∀a' w',Mem hW O L' Φ w'->Env l n a'->Q .normal a' w'):j7 P ops Q m a w:=by
 subst pn;have ap:=Wq lH bS du po aM (M.dG i dd) a6;unfold j7;rw[aF];simp only;rw[E.wanted al,if_pos hw];unfold Oper.wp;rw[E.exec aJ,ap];have nn:=E.put (d:=o.dst) (by rw[aT];rfl) undef;rw[aT]at nn;rw[Oper.upon_skip,aT];exact dD _ _ (M.setObj dd) nn
end
structure cQ where
 e:Int
 n:Int
 h:List UInt8
 p:List UInt8
deriving DecidableEq
def cQ.cells(k:cQ):List Value:=[.int .i64 k.e,.int .i64 k.n,.string ⟨k.h.toArray⟩,.string ⟨k.p.toArray⟩]
def cQ.val(k:cQ):Value:=.agg k.cells.toArray
theorem cQ.eX(k:cQ):∀u∈k.cells,u.oneCell'=true:=fun u hu=>by
 simp only[cQ.cells,List.mem_cons,List.not_mem_nil,or_false]at hu;rcases hu with rfl|rfl|rfl|rfl<;>rfl
theorem cQ.inj{k q:cQ}(h:k.cells=q.cells):k=q:=by
 obtain⟨a,b,c,d⟩:=k;obtain⟨a',fI,fm,ny⟩:=q;simp only[cQ.cells,List.cons.injEq,Value.int.injEq,Value.string.injEq,ByteArray.mk.injEq,and_true,true_and]at h;obtain⟨rfl,rfl,aB,be⟩:=h;have ih:=congrArg Array.toList aB;have kJ:=congrArg Array.toList be;simp only at ih kJ;subst ih kJ;rfl
def q7:sL cQ:=⟨cQ.cells,cQ.val,[.int .i64,.int .i64,.str,.str],cQ.inj,fun k=>rfl⟩
def iY(l:List UInt8):Value:=.string ⟨l.toArray⟩
theorem Xu{a b:List UInt8}(h:iY a=iY b):a=b:=by
 simp only[iY,Value.string.injEq,ByteArray.mk.injEq]at h;simpa using congrArg Array.toList h
def ZL:sL (List UInt8):=⟨fun l=>[iY l],iY,[.str],fun h=>Xu (by simpa using h),fun k=>rfl⟩
def Di(P:Program)(t fi lg:TypeId):Bool:=(match P.underlying t with|some (.map k e)=>k==fi&&e==lg|_=>false)&&(match S.er P 10000 fi with|some [.int .i64,.int .i64,.str,.str]=>true|_=>false)&& !fb P fi
theorem TQ{P:Program}{t fi lg:TypeId}(aj:(match P.underlying t with|some (.map k e)=>k==fi&&e==lg|_=>false)=true):P.underlying t=some (.map fi lg):=by
 split at aj
 ·rename_i k e hu;simp only[Bool.and_eq_true,beq_iff_eq]at aj;obtain⟨rfl,rfl⟩:=aj;exact hu
 ·cases aj
theorem tA{P:Program}{t fi lg:TypeId}(h:Di P t fi lg=true):ux q7 P t fi lg:=by
 simp only[Di,Bool.and_eq_true,Bool.not_eq_true']at h;obtain⟨⟨aj,an⟩,aB⟩:=h;refine⟨TQ aj,(by split at an;assumption;cases an),fun k=>?_⟩;unfold S.fT;rw[aB];rfl
structure dO where
 cO:Nat
 gs:Nat
 gt:Nat
 nu:Value
 ks:List cQ
 b7:List (List UInt8)
abbrev gm(NH wP:TypeId)(N:dO):List az:=[.bb N.cO (.cells #[.map (some N.gs),N.nu,.map (some N.gt)] NH (0,0)),.row wP 4 N.nu N.ks.length (N.ks.map cQ.cells).flatten,.bb N.gs (.map (mD q7 N.ks) N.ks.length),.bb N.gt (.map (mD ZL N.b7) N.b7.length)]
end Go.a2
