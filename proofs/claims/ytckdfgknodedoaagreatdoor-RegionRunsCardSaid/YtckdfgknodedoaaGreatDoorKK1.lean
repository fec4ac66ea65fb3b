/- Texts of this proof. -/
import Derived.Test.YtckdfgknodedoaaGreatDoorKK
import Derived.Test.YtckdfgknodedoaaGreatDoorRR1
import Derived.Test.YtckdfgknodedoaaGreatDoorRS
import Derived.Test.YtckdfgknodedoaaGreatDoorRR
import Derived.RangeFuncNested
import Derived.RangeFuncBound
import Derived.RangeFuncCalls
import Derived.RangeFuncLeaves
import Derived.Shelf.Abstract
import Derived.Shelf.RegionOpen
import Derived.WalkKit
import Derived.OwnWalkIn
import Derived.TacticsInMore
import Derived.LoopNIn
import Derived.LoopIn
set_option linter.unusedVariables false
set_option linter.unusedSimpArgs false
set_option maxRecDepth 100000
namespace Go.Proofs.YtckdfgknodedoaaGreatDoor.K
section
open Go.RowKit Go.a2 Go.Proofs Go.Proofs.Tryz
def n9(n:Nat)(l:List UInt8)(a:Nat)(b:Bool):Nat×Bool:=if b=true\/l.length-a<n then(a,true)else(a+n,false)
def b9(l:List UInt8):Nat->Nat×Bool
 |0=>(0,false)
 |k+1=>n9 (match k with|3=>32|4=>40|9=>32|10=>32|_=>8) l (b9 l k).1 (b9 l k).2
theorem T9(n:Nat){l:List UInt8}{a:Nat}(b:Bool)(h:a<=l.length):(n9 n l a b).1<=l.length:=by
 unfold n9;split
 ·exact h
 ·rename_i aJ;simp only[not_or]at aJ;show a+n<=_
  omega
theorem wv(l:List UInt8):∀k,(b9 l k).1<=l.length
 |0=>Nat.zero_le _
 |k+1=>T9 _ _ (wv l k)
theorem Ua(n:Nat)(l:List UInt8)(a:Nat)(b:Bool):eg n (l.drop a,b)=(l.drop (n9 n l a b).1,(n9 n l a b).2):=by
 unfold eg n9;rw[List.length_drop];split<;>simp
theorem vV(l:List UInt8):∀k,bK l k=(l.drop (b9 l k).1,(b9 l k).2)
 |0=>rfl
 |k+1=>by
  show eg _ (bK l k)=_
  rw[vV l k,Ua];rfl
def Rec.q(l:List UInt8):Nat->Rec
 |0=>Rec.zero
 |1=>{Rec.zero with bq:=db (bK l 0)}
 |2=>{Rec.zero with bq:=db (bK l 0),cd:=db (bK l 1)}
 |3=>{Rec.zero with bq:=db (bK l 0),cd:=db (bK l 1),bF:=db (bK l 2)}
 |4=>{Rec.zero with bq:=db (bK l 0),cd:=db (bK l 1),bF:=db (bK l 2),cD:=eD (bK l 3)}
 |5=>Rec.j9 l
 |6=>{Rec.j9 l with c1:=db (bK l 5)}
 |7=>Rec.q2 l
 |8=>{Rec.q2 l with dw:=db (bK l 7)}
 |9=>Rec.sk l
 |10=>Rec.sh l
 |_=>Rec.read l
theorem Rec.eu(l:List UInt8)(k:Nat):(Rec.q l k).Ok:=by
 unfold Rec.q;split
 ·exact Rec.e0
 ·exact⟨Rec.e0.cD,Rec.e0.b3,Rec.e0.dt,Rec.e0.dI⟩
 ·exact⟨Rec.e0.cD,Rec.e0.b3,Rec.e0.dt,Rec.e0.dI⟩
 ·exact⟨Rec.e0.cD,Rec.e0.b3,Rec.e0.dt,Rec.e0.dI⟩
 ·exact⟨gB _,Rec.e0.b3,Rec.e0.dt,Rec.e0.dI⟩
 ·exact Rec.oG l
 ·exact⟨gB _,h9 _,Rec.e0.dt,Rec.e0.dI⟩
 ·exact Rec.sj l
 ·exact⟨gB _,h9 _,Rec.e0.dt,Rec.e0.dI⟩
 ·exact Rec.sl l
 ·exact Rec.si l
 ·exact Rec.ly l
theorem jt{n m k:Nat}(h:m=k)(a6:Nat.blt n k=true):Nat.blt n m=true:=by rw[h];exact a6
theorem VR{l:List UInt8}:(l.take 40).take 8=l.take 8/\(l.take 40).drop 8=(l.drop 8).take 32:=⟨by rw[List.take_take];rfl,by rw[List.drop_take]⟩
theorem MW{g:Nat}{bv:Value}{l:List UInt8}{at_:Nat}{bad:Bool}{w0:World}(H:Has w0 (b8 g bv l at_ bad))(au:l.length<=35184372088832)(fe:at_<=l.length)(ak:bad=true):aY prog 119 [ai g 0] w0 (b8 g bv l at_ bad) (fun _:Unit=>.agg (aW 0::ao (List.replicate 32 0)).toArray) (fun _=>b8 g bv l at_ true) (fun _=>True):=by
 refine enter (n:=17) func119 U U U ?_;intro fr E;have M:=ht H;subst ak;refine aV E<|bh (ob:=.cells _ 41) (fun g=>ai g 0) M 0 U (bT U T.oY) fun aZ w M=>fun fr E=>?_;have M:=M.aH 2 rfl;have M:=M.aH 2 rfl;refine bN E<|bC (b8 g bv l at_ true) M 1 rfl (ar rfl rfl T.qu) rfl (fun H=>DK H au fe rfl) fun _ w _ M=>ei 0 rfl rfl (rfl)<|bj (i:=0) (cs':= #[_,_,_]) M 4 rfl rfl (cy (v:=_) rfl rfl rfl T.kf (M.row (i:=0) rfl) (rfl) (rfl) (rfl)) rfl fun w M=>ah (v:=.agg (aW 0::ao (List.replicate 32 0)).toArray) 0 rfl (dl (vs:=[]) (us:=aW 0::ao (List.replicate 32 0)) rfl rfl T.nj T.nm (rfl) rfl rfl (rfl))<|bj (i:=2) (cs':=(aW 0::ao (List.replicate 32 0)).toArray) M 0 rfl rfl (cB (vs:=(aW 0::ao (List.replicate 32 0)).toArray) rfl rfl rfl T.nV (by simp) (M.row (i:=2) rfl) (rfl) ((fun v aD=>by rcases List.mem_cons.1 aD with rfl|aD;rfl;exact c0 _ v aD))) rfl fun w M=>aU 0 rfl fun fr E=>?_;refine gC E U U T.jL (M.row (i:=2) U) (by simp) ?_;exact⟨(),U,M.fin (.cons_cons _ (.cons_cons _ (.cons _ .slnil))) trivial⟩
theorem MY{g:Nat}{bv:Value}{l:List UInt8}{at_:Nat}{bad:Bool}{w0:World}(H:Has w0 (b8 g bv l at_ bad))(au:l.length<=35184372088832)(fe:at_<=l.length)(ak:bad=false)(a6:l.length-at_<40):aY prog 119 [ai g 0] w0 (b8 g bv l at_ bad) (fun _:Unit=>.agg (aW 0::ao (List.replicate 32 0)).toArray) (fun _=>b8 g bv l at_ true) (fun _=>True):=by
 refine enter (n:=17) func119 U U U ?_;intro fr E;have M:=ht H;subst ak;refine aV E<|bh (ob:=.cells _ 41) (fun g=>ai g 0) M 0 U (bT U T.oY) fun aZ w M=>fun fr E=>?_;have M:=M.aH 2 rfl;have M:=M.aH 2 rfl;refine bN E<|bC (b8 g bv l at_ false) M 1 rfl (ar rfl rfl T.qu) rfl (fun H=>sM H au fe rfl) fun _ w _ M=>bD 0 rfl rfl ae<|bj (i:=0) (cs':= #[_,_,_]) M 4 rfl rfl (cy (v:=_) rfl rfl rfl T.kf (M.row (i:=0) rfl) (rfl) (rfl) (rfl)) rfl fun w M=>ah (v:=.agg (aW 0::ao (List.replicate 32 0)).toArray) 0 rfl (dl (vs:=[]) (us:=aW 0::ao (List.replicate 32 0)) rfl rfl T.nj T.nm (rfl) rfl rfl (rfl))<|bj (i:=2) (cs':=(aW 0::ao (List.replicate 32 0)).toArray) M 0 rfl rfl (cB (vs:=(aW 0::ao (List.replicate 32 0)).toArray) rfl rfl rfl T.nV (by simp) (M.row (i:=2) rfl) (rfl) ((fun v aD=>by rcases List.mem_cons.1 aD with rfl|aD;rfl;exact c0 _ v aD))) rfl fun w M=>aU 0 rfl fun fr E=>?_;refine gC E U U T.jL (M.row (i:=2) U) (by simp) ?_;exact⟨(),U,M.fin (.cons_cons _ (.cons_cons _ (.cons _ .slnil))) trivial⟩
theorem MX{g:Nat}{bv:Value}{l:List UInt8}{at_:Nat}{bad:Bool}{w0:World}(H:Has w0 (b8 g bv l at_ bad))(au:l.length<=35184372088832)(fe:at_<=l.length)(ak:bad=false)(a6:at_+40<=l.length):aY prog 119 [ai g 0] w0 (b8 g bv l at_ bad) (fun _:Unit=>.agg (aW (iG ((l.drop at_).take 8))::ao ((l.drop (at_+8)).take 32)).toArray) (fun _=>b8 g bv l (at_+40) false) (fun _=>True):=by
 refine enter (n:=17) func119 U U U ?_;intro fr E;have M:=ht H;subst ak;refine aV E<|bh (ob:=.cells _ 41) (fun g=>ai g 0) M 0 U (bT U T.oY) fun aZ w M=>fun fr E=>?_;have M:=M.aH 2 rfl;have M:=M.aH 2 rfl;refine bN E<|bC (b8 g bv l at_ false) M 1 rfl (ar rfl rfl T.qu) rfl (fun H=>sM H au fe rfl) fun _ w _ M=>bs 0 rfl rfl ae<|bC (b8 g bv l at_ false) M 2 rfl (ar rfl rfl T.ha) rfl (fun H=>DR H au fe rfl ae) fun _ w _ M=>bC (b8 g bv l (at_+8) false) M 3 rfl (ar rfl rfl T.oj) rfl (fun H=>DS H au ae rfl ae) fun _ w _ M=>ah (v:=.agg (aW (iG ((l.drop at_).take 8))::ao ((l.drop (at_+8)).take 32)).toArray) 0 rfl (dl (vs:=[aW (iG ((l.drop at_).take 8)),.agg (ao ((l.drop (at_+8)).take 32)).toArray]) (us:=aW (iG ((l.drop at_).take 8))::ao ((l.drop (at_+8)).take 32)) rfl rfl T.nj T.nm (by simp[aW,Value.cells];omega) rfl rfl (by simp[aW,Value.cells]))<|bj (i:=2) (cs':=(aW (iG ((l.drop at_).take 8))::ao ((l.drop (at_+8)).take 32)).toArray) M 0 rfl rfl (cB (vs:=(aW (iG ((l.drop at_).take 8))::ao ((l.drop (at_+8)).take 32)).toArray) rfl rfl rfl T.nV (by simp;omega) (M.row (i:=2) rfl) (rfl) ((fun v aD=>by rcases List.mem_cons.1 aD with rfl|aD;rfl;exact c0 _ v aD))) rfl fun w M=>aU 0 rfl fun fr E=>?_;refine gC E U U T.jL (M.row (i:=2) U) (by simp;omega) ?_;exact⟨(),U,M.fin (.cons_cons _ (.cons_cons _ (.cons _ .slnil))) trivial⟩
theorem L5{g:Nat}{bv:Value}{l:List UInt8}{at_:Nat}{bad:Bool}{w0:World}(H:Has w0 (b8 g bv l at_ bad))(au:l.length<=35184372088832)(fe:at_<=l.length)(ak:bad=true):aY prog 120 [ai g 0] w0 (b8 g bv l at_ bad) (fun _:Unit=>aa 4) (fun _=>b8 g bv l at_ bad) (fun _=>True):=by
 refine enter (n:=10) func120 U U U ?_;intro fr E;have M:=ht H;subst ak;refine aV E<|ah (v:=.bool _) 4 U (aE U U T.fZ (M.row (i:=0) U) U)<|aU 2 U fun fr E=>?_;refine bi E U U ?_;exact⟨(),U,M.fin (List.Sublist.refl _) trivial⟩
theorem L6{g:Nat}{bv:Value}{l:List UInt8}{at_:Nat}{bad:Bool}{w0:World}(H:Has w0 (b8 g bv l at_ bad))(au:l.length<=35184372088832)(fe:at_<=l.length)(ak:bad=false)(aI:at_<l.length):aY prog 120 [ai g 0] w0 (b8 g bv l at_ bad) (fun _:Unit=>aa 3) (fun _=>b8 g bv l at_ bad) (fun _=>True):=by
 refine enter (n:=10) func120 U U U ?_;intro fr E;have M:=ht H;subst ak;refine aV E<|ah (v:=.bool _) 4 U (aE U U T.fZ (M.row (i:=0) U) U)<|bC (b8 g bv l at_ false) M 2 U (ar U U T.qu) U (fun H=>sM H au fe U) fun _ w _ M=>bD 0 U U ae<|aU 2 U fun fr E=>?_;refine bi E U U ?_;exact⟨(),U,M.fin (List.Sublist.refl _) trivial⟩
theorem L7{g:Nat}{bv:Value}{l:List UInt8}{at_:Nat}{bad:Bool}{w0:World}(H:Has w0 (b8 g bv l at_ bad))(au:l.length<=35184372088832)(fe:at_<=l.length)(ak:bad=false)(aI:¬at_<l.length):aY prog 120 [ai g 0] w0 (b8 g bv l at_ bad) (fun _:Unit=>aa 0) (fun _=>b8 g bv l at_ bad) (fun _=>True):=by
 refine enter (n:=10) func120 U U U ?_;intro fr E;have M:=ht H;subst ak;refine aV E<|ah (v:=.bool _) 4 U (aE U U T.fZ (M.row (i:=0) U) U)<|bC (b8 g bv l at_ false) M 2 U (ar U U T.qu) U (fun H=>sM H au fe U) fun _ w _ M=>bs 0 U U ae<|aU 2 U fun fr E=>?_;refine bi E U U ?_;exact⟨(),U,M.fin (List.Sublist.refl _) trivial⟩
theorem p5{b:Value}{l:List UInt8}{w0:World}(ak:Bytes w0 b l)(au:l.length<=35184372088832):aY prog 112 [b] w0 [] (fun x:Nat×Value=>ai x.1 0) (fun x=>b8 x.1 x.2 l 0 false) (fun _=>True):=by
 refine enter (n:=8) func112 U U U ?_;intro fr E;have M:=Mem.begin (Φ:=fun w'=>Bytes w' b l) (Has.nil w0) (fun w' h=>ak.bU h);refine aV E<|cv 1 U fun fr E=>?_;refine dM (sz:=1) (xs:=ao []) E M U U U U U (lP U T.aG U) (rfl) (Nat.le_refl _) aN (rfl) fun o fr w M E=>?_;refine cw E<|cv 1 U fun fr E=>?_;refine fX (i:=0) E M U U U U U U U U U U U T.aG T.aG T.eh T.ef M.fact (by simp;omega) fun o fr w M E=>?_;have M:=M.as (L':=[.bytes 5 o l]) (by simp);obtain⟨ob,qX,aF⟩:=Reads.slice (M.bytes 0 rfl);subst aF;refine cw E<|ah (v:=.agg ([Value.slice ob l.length qX,aa 0,.bool false]).toArray) 0 U (dl (vs:=[.slice ob l.length qX]) (us:=[Value.slice ob l.length qX,aa 0,.bool false]) U U T.ZV T.aaH (rfl) U U (rfl))<|bh (ob:=.cells (#[.slice ob l.length qX,aa 0,.bool false]) 212) (fun g=>ai g 0) M 0 U (cS (cs:=(#[.slice ob l.length qX,aa 0,.bool false])) U U) fun aZ w M=>aU 1 U fun fr E=>?_;refine bi E U U ?_;have M:=M.wW 1 rfl;exact⟨(_,_),U,M.fin (List.Sublist.refl _) trivial⟩
theorem hn{g:Nat}{bv:Value}{l:List UInt8}{w0:World}(k:Nat)(H:Has w0 (b8 g bv l (b9 l k).1 (b9 l k).2))(au:l.length<=35184372088832):aY prog 113 [ai g 0] w0 (b8 g bv l (b9 l k).1 (b9 l k).2) (fun _:Unit=>aW (db (bK l k))) (fun _=>b8 g bv l (n9 8 l (b9 l k).1 (b9 l k).2).1 (n9 8 l (b9 l k).1 (b9 l k).2).2) (fun _=>True):=by
 have fe:=wv l k;rw[vV];generalize(b9 l k).1=at_ at*;generalize(b9 l k).2=bad at*;have hlen:(l.drop at_).length=l.length-at_:=List.length_drop;cases bad with
 |true=>simp only[n9,db,eD,e8,eq_self,true_or,if_true];exact MU H au fe rfl
 |false=>
  by_cases a6:l.length-at_<8
  ·simp only[n9,db,eD,e8,hlen,a6,or_true,if_true];exact MV H au fe rfl a6
  ·have aJ:¬(false=true\/l.length-at_<8):=by simp;omega
   simp only[n9,db,eD,e8,hlen,aJ,if_false];exact DR H au fe rfl ae
theorem oZ{g:Nat}{bv:Value}{l:List UInt8}{w0:World}(k:Nat)(H:Has w0 (b8 g bv l (b9 l k).1 (b9 l k).2))(au:l.length<=35184372088832):aY prog 118 [ai g 0] w0 (b8 g bv l (b9 l k).1 (b9 l k).2) (fun _:Unit=>.agg (ao (eD (bK l k))).toArray) (fun _=>b8 g bv l (n9 32 l (b9 l k).1 (b9 l k).2).1 (n9 32 l (b9 l k).1 (b9 l k).2).2) (fun _=>True):=by
 have fe:=wv l k;rw[vV];generalize(b9 l k).1=at_ at*;generalize(b9 l k).2=bad at*;have hlen:(l.drop at_).length=l.length-at_:=List.length_drop;cases bad with
 |true=>simp only[n9,db,eD,e8,eq_self,true_or,if_true];exact MZ H au fe rfl
 |false=>
  by_cases a6:l.length-at_<32
  ·simp only[n9,db,eD,e8,hlen,a6,or_true,if_true];exact M0 H au fe rfl a6
  ·have aJ:¬(false=true\/l.length-at_<32):=by simp;omega
   simp only[n9,db,eD,e8,hlen,aJ,if_false];exact DS H au fe rfl ae
theorem zx{g:Nat}{bv:Value}{l:List UInt8}{w0:World}(k:Nat)(H:Has w0 (b8 g bv l (b9 l k).1 (b9 l k).2))(au:l.length<=35184372088832):aY prog 119 [ai g 0] w0 (b8 g bv l (b9 l k).1 (b9 l k).2) (fun _:Unit=>.agg (aW (e8 (bK l k)).1::ao (e8 (bK l k)).2).toArray) (fun _=>b8 g bv l (n9 40 l (b9 l k).1 (b9 l k).2).1 (n9 40 l (b9 l k).1 (b9 l k).2).2) (fun _=>True):=by
 have fe:=wv l k;rw[vV];generalize(b9 l k).1=at_ at*;generalize(b9 l k).2=bad at*;have hlen:(l.drop at_).length=l.length-at_:=List.length_drop;cases bad with
 |true=>simp only[n9,db,eD,e8,eq_self,true_or,if_true];exact MW H au fe rfl
 |false=>
  by_cases a6:l.length-at_<40
  ·simp only[n9,db,eD,e8,hlen,a6,or_true,if_true];exact MY H au fe rfl a6
  ·have aJ:¬(false=true\/l.length-at_<40):=by simp;omega
   simp only[n9,db,eD,e8,hlen,aJ,if_false,VR,List.drop_drop];exact MX H au fe rfl ae
theorem zt{g:Nat}{bv:Value}{l:List UInt8}{w0:World}(k:Nat)(H:Has w0 (b8 g bv l (b9 l k).1 (b9 l k).2))(au:l.length<=35184372088832):aY prog 120 [ai g 0] w0 (b8 g bv l (b9 l k).1 (b9 l k).2) (fun _:Unit=>aa (ka (bK l k))) (fun _=>b8 g bv l (b9 l k).1 (b9 l k).2) (fun _=>True):=by
 have fe:=wv l k;rw[vV];generalize(b9 l k).1=at_ at*;generalize(b9 l k).2=bad at*;have hlen:0<(l.drop at_).length↔at_<l.length:=by rw[List.length_drop];omega
 cases bad with
 |true=>exact L5 H au fe rfl
 |false=>
  by_cases aI:at_<l.length
  ·simp only[ka,hlen,aI,if_true,Bool.false_eq_true,if_false];exact L6 H au fe rfl aI
  ·simp only[ka,hlen,aI,Bool.false_eq_true,if_false];exact L7 H au fe rfl aI
theorem Me{b:Value}{l:List UInt8}{w0:World}(ak:Bytes w0 b l)(au:l.length<=35184372088832)(he:ka (bK l 11)≠0):bH prog 61 [b] w0 (.tuple #[Rec.zero.val,aa (ka (bK l 11))]):=by
 refine enter (n:=58) func61 U U U ?_;intro fr E;have M:=Mem.begin (Φ:=fun w'=>Bytes w' b l) (Has.nil w0) (fun w' h=>ak.bU h);refine aV E<|bh (ob:=.cells _ 45) (fun g=>ai g 0) M 0 U (bT U T.fu) fun aZ w M=>cP M 2 U (ar U U T.qn) (p5 M.fact au) U fun⟨g,aq⟩ w _ M=>ah (v:=.agg (Rec.zero.cells).toArray) 1 U (dl (vs:=[]) (us:=Rec.zero.cells) U U T.mL T.mN (rfl) U U (rfl))<|bh (ob:=.cells _ 45) (fun g=>ai g 0) M 0 U (bT U T.fu) fun bQ w M=>bj (i:=0) (cs':=Rec.zero.cells.toArray) M 0 U U (cB (vs:=Rec.zero.cells.toArray) U U U T.dV (Rec.size Rec.e0) (M.row (i:=0) U) (rfl) (fun v aD=>Rec.eX _ v aD)) U fun w M=>fun fr E=>?_;have M:=M.aH 2 rfl;have M:=M.aH 2 rfl;refine bN E<|bC (b8 g aq l (b9 l 0).1 (b9 l 0).2) M 1 rfl (ar rfl rfl T.ha) rfl (fun H=>hn 0 H au) fun _ w _ M=>bj (i:=2) (cs':=(Rec.q l 1).cells.toArray) M 1 rfl rfl (cy (v:=_) rfl rfl rfl T.c3 (M.row (i:=2) rfl) (jt (Rec.size (Rec.eu l 0)) rfl) (rfl) (rfl)) rfl fun w M=>bC (b8 g aq l (b9 l 1).1 (b9 l 1).2) M 1 rfl (ar rfl rfl T.ha) rfl (fun H=>hn 1 H au) fun _ w _ M=>bj (i:=2) (cs':=(Rec.q l 2).cells.toArray) M 1 rfl rfl (cy (v:=_) rfl rfl rfl T.c3 (M.row (i:=2) rfl) (jt (Rec.size (Rec.eu l 1)) rfl) (rfl) (rfl)) rfl fun w M=>bC (b8 g aq l (b9 l 2).1 (b9 l 2).2) M 1 rfl (ar rfl rfl T.ha) rfl (fun H=>hn 2 H au) fun _ w _ M=>bj (i:=2) (cs':=(Rec.q l 3).cells.toArray) M 1 rfl rfl (cy (v:=_) rfl rfl rfl T.c3 (M.row (i:=2) rfl) (jt (Rec.size (Rec.eu l 2)) rfl) (rfl) (rfl)) rfl fun w M=>bC (b8 g aq l (b9 l 3).1 (b9 l 3).2) M 1 rfl (ar rfl rfl T.oj) rfl (fun H=>oZ 3 H au) fun _ w _ M=>bj (i:=2) (cs':=(Rec.q l 4).cells.toArray) M 1 rfl rfl (dr (vs:=(ao (eD (bK l 3))).toArray) rfl rfl rfl T.fF (by simp[gB,h9]) (M.row (i:=2) rfl) (by simp[Rec.len (Rec.eu l 3)]) (List.all_eq_true.2 (fun v aD=>c0 _ v aD)) (congrArg List.toArray (Rec.Co (Rec.eu l 3) _))) rfl fun w M=>bC (b8 g aq l (b9 l 4).1 (b9 l 4).2) M 1 rfl (ar rfl rfl T.Ar) rfl (fun H=>zx 4 H au) fun _ w _ M=>bj (i:=2) (cs':=(Rec.q l 5).cells.toArray) M 1 rfl rfl (dr (vs:=(aW (e8 (bK l 4)).1::ao (e8 (bK l 4)).2).toArray) rfl rfl rfl T.nV (by simp[gB,h9]) (M.row (i:=2) rfl) (by simp[Rec.len (Rec.eu l 4)]) (List.all_eq_true.2 (fun v aD=>by rcases List.mem_cons.1 aD with rfl|aD;rfl;exact c0 _ v aD)) (congrArg List.toArray (Rec.Cn (Rec.eu l 4) _ _))) rfl fun w M=>bC (b8 g aq l (b9 l 5).1 (b9 l 5).2) M 1 rfl (ar rfl rfl T.ha) rfl (fun H=>hn 5 H au) fun _ w _ M=>bj (i:=2) (cs':=(Rec.q l 6).cells.toArray) M 2 rfl rfl (cy (v:=_) rfl rfl rfl T.c3 (M.row (i:=2) rfl) (jt (Rec.size (Rec.eu l 5)) rfl) (rfl) (congrArg List.toArray (Rec.Cl (Rec.eu l 5) _))) rfl fun w M=>bC (b8 g aq l (b9 l 6).1 (b9 l 6).2) M 1 rfl (ar rfl rfl T.ha) rfl (fun H=>hn 6 H au) fun _ w _ M=>bj (i:=2) (cs':=(Rec.q l 7).cells.toArray) M 2 rfl rfl (cy (v:=_) rfl rfl rfl T.c3 (M.row (i:=2) rfl) (jt (Rec.size (Rec.eu l 6)) rfl) (rfl) (congrArg List.toArray (Rec.Cm (Rec.eu l 6) _))) rfl fun w M=>bC (b8 g aq l (b9 l 7).1 (b9 l 7).2) M 1 rfl (ar rfl rfl T.ha) rfl (fun H=>hn 7 H au) fun _ w _ M=>bj (i:=2) (cs':=(Rec.q l 8).cells.toArray) M 2 rfl rfl (cy (v:=_) rfl rfl rfl T.c3 (M.row (i:=2) rfl) (jt (Rec.size (Rec.eu l 7)) rfl) (rfl) (congrArg List.toArray (Rec.Cq (Rec.eu l 7) _))) rfl fun w M=>bC (b8 g aq l (b9 l 8).1 (b9 l 8).2) M 1 rfl (ar rfl rfl T.ha) rfl (fun H=>hn 8 H au) fun _ w _ M=>bj (i:=2) (cs':=(Rec.q l 9).cells.toArray) M 2 rfl rfl (cy (v:=_) rfl rfl rfl T.c3 (M.row (i:=2) rfl) (jt (Rec.size (Rec.eu l 8)) rfl) (rfl) (congrArg List.toArray (Rec.Cr (Rec.eu l 8) _))) rfl fun w M=>bC (b8 g aq l (b9 l 9).1 (b9 l 9).2) M 1 rfl (ar rfl rfl T.oj) rfl (fun H=>oZ 9 H au) fun _ w _ M=>bj (i:=2) (cs':=(Rec.q l 10).cells.toArray) M 1 rfl rfl (dr (vs:=(ao (eD (bK l 9))).toArray) rfl rfl rfl T.fF (by simp[gB,h9]) (M.row (i:=2) rfl) (by simp[Rec.len (Rec.eu l 9)]) (List.all_eq_true.2 (fun v aD=>c0 _ v aD)) (congrArg List.toArray (Rec.tS (Rec.eu l 9) _))) rfl fun w M=>bC (b8 g aq l (b9 l 10).1 (b9 l 10).2) M 1 rfl (ar rfl rfl T.oj) rfl (fun H=>oZ 10 H au) fun _ w _ M=>bj (i:=2) (cs':=(Rec.q l 11).cells.toArray) M 1 rfl rfl (dr (vs:=(ao (eD (bK l 10))).toArray) rfl rfl rfl T.fF (by simp[gB,h9]) (M.row (i:=2) rfl) (by simp[Rec.len (Rec.eu l 10)]) (List.all_eq_true.2 (fun v aD=>c0 _ v aD)) (congrArg List.toArray (Rec.tT (Rec.eu l 10) _))) rfl fun w M=>bC (b8 g aq l (b9 l 11).1 (b9 l 11).2) M 1 rfl (ar rfl rfl T.As) rfl (fun H=>zt 11 H au) fun _ w _ M=>ei 2 rfl rfl (by simp;exact he)<|ah (v:=.agg (Rec.zero.cells).toArray) 1 rfl (dl (vs:=[]) (us:=Rec.zero.cells) rfl rfl T.mL T.mN (rfl) rfl rfl (rfl))<|bj (i:=3) (cs':=Rec.zero.cells.toArray) M 1 rfl rfl (cB (vs:=Rec.zero.cells.toArray) rfl rfl rfl T.dV (Rec.size Rec.e0) (M.row (i:=3) rfl) (rfl) (fun v aD=>Rec.eX _ v aD)) rfl fun w M=>aU 1 rfl fun fr E=>?_;refine fW E U U U T.da (M.row (i:=3) U) (Rec.size (Rec.e0)) ?_;exact bX M
theorem Mg{b:Value}{l:List UInt8}{w0:World}(ak:Bytes w0 b l)(au:l.length<=35184372088832)(he:ka (bK l 11)=0)(hm:(Rec.read l).fA):bH prog 61 [b] w0 (.tuple #[(Rec.read l).val,aa 0]):=by
 refine enter (n:=58) func61 U U U ?_;intro fr E;have M:=Mem.begin (Φ:=fun w'=>Bytes w' b l) (Has.nil w0) (fun w' h=>ak.bU h);refine aV E<|bh (ob:=.cells _ 45) (fun g=>ai g 0) M 0 U (bT U T.fu) fun aZ w M=>cP M 2 U (ar U U T.qn) (p5 M.fact au) U fun⟨g,aq⟩ w _ M=>ah (v:=.agg (Rec.zero.cells).toArray) 1 U (dl (vs:=[]) (us:=Rec.zero.cells) U U T.mL T.mN (rfl) U U (rfl))<|bh (ob:=.cells _ 45) (fun g=>ai g 0) M 0 U (bT U T.fu) fun bQ w M=>bj (i:=0) (cs':=Rec.zero.cells.toArray) M 0 U U (cB (vs:=Rec.zero.cells.toArray) U U U T.dV (Rec.size Rec.e0) (M.row (i:=0) U) (rfl) (fun v aD=>Rec.eX _ v aD)) U fun w M=>fun fr E=>?_;have M:=M.aH 2 rfl;have M:=M.aH 2 rfl;refine bN E<|bC (b8 g aq l (b9 l 0).1 (b9 l 0).2) M 1 rfl (ar rfl rfl T.ha) rfl (fun H=>hn 0 H au) fun _ w _ M=>bj (i:=2) (cs':=(Rec.q l 1).cells.toArray) M 1 rfl rfl (cy (v:=_) rfl rfl rfl T.c3 (M.row (i:=2) rfl) (jt (Rec.size (Rec.eu l 0)) rfl) (rfl) (rfl)) rfl fun w M=>bC (b8 g aq l (b9 l 1).1 (b9 l 1).2) M 1 rfl (ar rfl rfl T.ha) rfl (fun H=>hn 1 H au) fun _ w _ M=>bj (i:=2) (cs':=(Rec.q l 2).cells.toArray) M 1 rfl rfl (cy (v:=_) rfl rfl rfl T.c3 (M.row (i:=2) rfl) (jt (Rec.size (Rec.eu l 1)) rfl) (rfl) (rfl)) rfl fun w M=>bC (b8 g aq l (b9 l 2).1 (b9 l 2).2) M 1 rfl (ar rfl rfl T.ha) rfl (fun H=>hn 2 H au) fun _ w _ M=>bj (i:=2) (cs':=(Rec.q l 3).cells.toArray) M 1 rfl rfl (cy (v:=_) rfl rfl rfl T.c3 (M.row (i:=2) rfl) (jt (Rec.size (Rec.eu l 2)) rfl) (rfl) (rfl)) rfl fun w M=>bC (b8 g aq l (b9 l 3).1 (b9 l 3).2) M 1 rfl (ar rfl rfl T.oj) rfl (fun H=>oZ 3 H au) fun _ w _ M=>bj (i:=2) (cs':=(Rec.q l 4).cells.toArray) M 1 rfl rfl (dr (vs:=(ao (eD (bK l 3))).toArray) rfl rfl rfl T.fF (by simp[gB,h9]) (M.row (i:=2) rfl) (by simp[Rec.len (Rec.eu l 3)]) (List.all_eq_true.2 (fun v aD=>c0 _ v aD)) (congrArg List.toArray (Rec.Co (Rec.eu l 3) _))) rfl fun w M=>bC (b8 g aq l (b9 l 4).1 (b9 l 4).2) M 1 rfl (ar rfl rfl T.Ar) rfl (fun H=>zx 4 H au) fun _ w _ M=>bj (i:=2) (cs':=(Rec.q l 5).cells.toArray) M 1 rfl rfl (dr (vs:=(aW (e8 (bK l 4)).1::ao (e8 (bK l 4)).2).toArray) rfl rfl rfl T.nV (by simp[gB,h9]) (M.row (i:=2) rfl) (by simp[Rec.len (Rec.eu l 4)]) (List.all_eq_true.2 (fun v aD=>by rcases List.mem_cons.1 aD with rfl|aD;rfl;exact c0 _ v aD)) (congrArg List.toArray (Rec.Cn (Rec.eu l 4) _ _))) rfl fun w M=>bC (b8 g aq l (b9 l 5).1 (b9 l 5).2) M 1 rfl (ar rfl rfl T.ha) rfl (fun H=>hn 5 H au) fun _ w _ M=>bj (i:=2) (cs':=(Rec.q l 6).cells.toArray) M 2 rfl rfl (cy (v:=_) rfl rfl rfl T.c3 (M.row (i:=2) rfl) (jt (Rec.size (Rec.eu l 5)) rfl) (rfl) (congrArg List.toArray (Rec.Cl (Rec.eu l 5) _))) rfl fun w M=>bC (b8 g aq l (b9 l 6).1 (b9 l 6).2) M 1 rfl (ar rfl rfl T.ha) rfl (fun H=>hn 6 H au) fun _ w _ M=>bj (i:=2) (cs':=(Rec.q l 7).cells.toArray) M 2 rfl rfl (cy (v:=_) rfl rfl rfl T.c3 (M.row (i:=2) rfl) (jt (Rec.size (Rec.eu l 6)) rfl) (rfl) (congrArg List.toArray (Rec.Cm (Rec.eu l 6) _))) rfl fun w M=>bC (b8 g aq l (b9 l 7).1 (b9 l 7).2) M 1 rfl (ar rfl rfl T.ha) rfl (fun H=>hn 7 H au) fun _ w _ M=>bj (i:=2) (cs':=(Rec.q l 8).cells.toArray) M 2 rfl rfl (cy (v:=_) rfl rfl rfl T.c3 (M.row (i:=2) rfl) (jt (Rec.size (Rec.eu l 7)) rfl) (rfl) (congrArg List.toArray (Rec.Cq (Rec.eu l 7) _))) rfl fun w M=>bC (b8 g aq l (b9 l 8).1 (b9 l 8).2) M 1 rfl (ar rfl rfl T.ha) rfl (fun H=>hn 8 H au) fun _ w _ M=>bj (i:=2) (cs':=(Rec.q l 9).cells.toArray) M 2 rfl rfl (cy (v:=_) rfl rfl rfl T.c3 (M.row (i:=2) rfl) (jt (Rec.size (Rec.eu l 8)) rfl) (rfl) (congrArg List.toArray (Rec.Cr (Rec.eu l 8) _))) rfl fun w M=>bC (b8 g aq l (b9 l 9).1 (b9 l 9).2) M 1 rfl (ar rfl rfl T.oj) rfl (fun H=>oZ 9 H au) fun _ w _ M=>bj (i:=2) (cs':=(Rec.q l 10).cells.toArray) M 1 rfl rfl (dr (vs:=(ao (eD (bK l 9))).toArray) rfl rfl rfl T.fF (by simp[gB,h9]) (M.row (i:=2) rfl) (by simp[Rec.len (Rec.eu l 9)]) (List.all_eq_true.2 (fun v aD=>c0 _ v aD)) (congrArg List.toArray (Rec.tS (Rec.eu l 9) _))) rfl fun w M=>bC (b8 g aq l (b9 l 10).1 (b9 l 10).2) M 1 rfl (ar rfl rfl T.oj) rfl (fun H=>oZ 10 H au) fun _ w _ M=>bj (i:=2) (cs':=(Rec.q l 11).cells.toArray) M 1 rfl rfl (dr (vs:=(ao (eD (bK l 10))).toArray) rfl rfl rfl T.fF (by simp[gB,h9]) (M.row (i:=2) rfl) (by simp[Rec.len (Rec.eu l 10)]) (List.all_eq_true.2 (fun v aD=>c0 _ v aD)) (congrArg List.toArray (Rec.tT (Rec.eu l 10) _))) rfl fun w M=>bC (b8 g aq l (b9 l 11).1 (b9 l 11).2) M 1 rfl (ar rfl rfl T.As) rfl (fun H=>zt 11 H au) fun _ w _ M=>ch 2 rfl rfl (by simp;exact he)<|ah (v:=.agg (Rec.read l).cells.toArray) 1 rfl (cW rfl rfl T.da (M.row (i:=2) rfl) (Rec.size (Rec.ly l)))<|bo M 0 rfl (ar rfl rfl T.xp) (wM (Rec.ly l) _) fun w M=>fun fr E=>?_;rw[decide_eq_true hm]at E;refine bN E<|ah (v:=.bool _) 0 U U<|ah (v:=.agg (Rec.read l).cells.toArray) 1 U (cW U U T.da (M.row (i:=2) U) (Rec.size (Rec.ly l)))<|bj (i:=3) (cs':=(Rec.read l).cells.toArray) M 0 U U (cB (vs:=(Rec.read l).cells.toArray) U U U T.dV (Rec.size (Rec.ly l)) (M.row (i:=3) U) (rfl) (fun v aD=>Rec.eX _ v aD)) U fun w M=>aU 1 U fun fr E=>?_;refine fW E U U U T.da (M.row (i:=3) U) (Rec.size (Rec.ly l)) ?_;exact bX M
theorem Mf{b:Value}{l:List UInt8}{w0:World}(ak:Bytes w0 b l)(au:l.length<=35184372088832)(he:ka (bK l 11)=0)(hm:¬(Rec.read l).fA):bH prog 61 [b] w0 (.tuple #[Rec.zero.val,aa 7]):=by
 refine enter (n:=58) func61 U U U ?_;intro fr E;have M:=Mem.begin (Φ:=fun w'=>Bytes w' b l) (Has.nil w0) (fun w' h=>ak.bU h);refine aV E<|bh (ob:=.cells _ 45) (fun g=>ai g 0) M 0 U (bT U T.fu) fun aZ w M=>cP M 2 U (ar U U T.qn) (p5 M.fact au) U fun⟨g,aq⟩ w _ M=>ah (v:=.agg (Rec.zero.cells).toArray) 1 U (dl (vs:=[]) (us:=Rec.zero.cells) U U T.mL T.mN (rfl) U U (rfl))<|bh (ob:=.cells _ 45) (fun g=>ai g 0) M 0 U (bT U T.fu) fun bQ w M=>bj (i:=0) (cs':=Rec.zero.cells.toArray) M 0 U U (cB (vs:=Rec.zero.cells.toArray) U U U T.dV (Rec.size Rec.e0) (M.row (i:=0) U) (rfl) (fun v aD=>Rec.eX _ v aD)) U fun w M=>fun fr E=>?_;have M:=M.aH 2 rfl;have M:=M.aH 2 rfl;refine bN E<|bC (b8 g aq l (b9 l 0).1 (b9 l 0).2) M 1 rfl (ar rfl rfl T.ha) rfl (fun H=>hn 0 H au) fun _ w _ M=>bj (i:=2) (cs':=(Rec.q l 1).cells.toArray) M 1 rfl rfl (cy (v:=_) rfl rfl rfl T.c3 (M.row (i:=2) rfl) (jt (Rec.size (Rec.eu l 0)) rfl) (rfl) (rfl)) rfl fun w M=>bC (b8 g aq l (b9 l 1).1 (b9 l 1).2) M 1 rfl (ar rfl rfl T.ha) rfl (fun H=>hn 1 H au) fun _ w _ M=>bj (i:=2) (cs':=(Rec.q l 2).cells.toArray) M 1 rfl rfl (cy (v:=_) rfl rfl rfl T.c3 (M.row (i:=2) rfl) (jt (Rec.size (Rec.eu l 1)) rfl) (rfl) (rfl)) rfl fun w M=>bC (b8 g aq l (b9 l 2).1 (b9 l 2).2) M 1 rfl (ar rfl rfl T.ha) rfl (fun H=>hn 2 H au) fun _ w _ M=>bj (i:=2) (cs':=(Rec.q l 3).cells.toArray) M 1 rfl rfl (cy (v:=_) rfl rfl rfl T.c3 (M.row (i:=2) rfl) (jt (Rec.size (Rec.eu l 2)) rfl) (rfl) (rfl)) rfl fun w M=>bC (b8 g aq l (b9 l 3).1 (b9 l 3).2) M 1 rfl (ar rfl rfl T.oj) rfl (fun H=>oZ 3 H au) fun _ w _ M=>bj (i:=2) (cs':=(Rec.q l 4).cells.toArray) M 1 rfl rfl (dr (vs:=(ao (eD (bK l 3))).toArray) rfl rfl rfl T.fF (by simp[gB,h9]) (M.row (i:=2) rfl) (by simp[Rec.len (Rec.eu l 3)]) (List.all_eq_true.2 (fun v aD=>c0 _ v aD)) (congrArg List.toArray (Rec.Co (Rec.eu l 3) _))) rfl fun w M=>bC (b8 g aq l (b9 l 4).1 (b9 l 4).2) M 1 rfl (ar rfl rfl T.Ar) rfl (fun H=>zx 4 H au) fun _ w _ M=>bj (i:=2) (cs':=(Rec.q l 5).cells.toArray) M 1 rfl rfl (dr (vs:=(aW (e8 (bK l 4)).1::ao (e8 (bK l 4)).2).toArray) rfl rfl rfl T.nV (by simp[gB,h9]) (M.row (i:=2) rfl) (by simp[Rec.len (Rec.eu l 4)]) (List.all_eq_true.2 (fun v aD=>by rcases List.mem_cons.1 aD with rfl|aD;rfl;exact c0 _ v aD)) (congrArg List.toArray (Rec.Cn (Rec.eu l 4) _ _))) rfl fun w M=>bC (b8 g aq l (b9 l 5).1 (b9 l 5).2) M 1 rfl (ar rfl rfl T.ha) rfl (fun H=>hn 5 H au) fun _ w _ M=>bj (i:=2) (cs':=(Rec.q l 6).cells.toArray) M 2 rfl rfl (cy (v:=_) rfl rfl rfl T.c3 (M.row (i:=2) rfl) (jt (Rec.size (Rec.eu l 5)) rfl) (rfl) (congrArg List.toArray (Rec.Cl (Rec.eu l 5) _))) rfl fun w M=>bC (b8 g aq l (b9 l 6).1 (b9 l 6).2) M 1 rfl (ar rfl rfl T.ha) rfl (fun H=>hn 6 H au) fun _ w _ M=>bj (i:=2) (cs':=(Rec.q l 7).cells.toArray) M 2 rfl rfl (cy (v:=_) rfl rfl rfl T.c3 (M.row (i:=2) rfl) (jt (Rec.size (Rec.eu l 6)) rfl) (rfl) (congrArg List.toArray (Rec.Cm (Rec.eu l 6) _))) rfl fun w M=>bC (b8 g aq l (b9 l 7).1 (b9 l 7).2) M 1 rfl (ar rfl rfl T.ha) rfl (fun H=>hn 7 H au) fun _ w _ M=>bj (i:=2) (cs':=(Rec.q l 8).cells.toArray) M 2 rfl rfl (cy (v:=_) rfl rfl rfl T.c3 (M.row (i:=2) rfl) (jt (Rec.size (Rec.eu l 7)) rfl) (rfl) (congrArg List.toArray (Rec.Cq (Rec.eu l 7) _))) rfl fun w M=>bC (b8 g aq l (b9 l 8).1 (b9 l 8).2) M 1 rfl (ar rfl rfl T.ha) rfl (fun H=>hn 8 H au) fun _ w _ M=>bj (i:=2) (cs':=(Rec.q l 9).cells.toArray) M 2 rfl rfl (cy (v:=_) rfl rfl rfl T.c3 (M.row (i:=2) rfl) (jt (Rec.size (Rec.eu l 8)) rfl) (rfl) (congrArg List.toArray (Rec.Cr (Rec.eu l 8) _))) rfl fun w M=>bC (b8 g aq l (b9 l 9).1 (b9 l 9).2) M 1 rfl (ar rfl rfl T.oj) rfl (fun H=>oZ 9 H au) fun _ w _ M=>bj (i:=2) (cs':=(Rec.q l 10).cells.toArray) M 1 rfl rfl (dr (vs:=(ao (eD (bK l 9))).toArray) rfl rfl rfl T.fF (by simp[gB,h9]) (M.row (i:=2) rfl) (by simp[Rec.len (Rec.eu l 9)]) (List.all_eq_true.2 (fun v aD=>c0 _ v aD)) (congrArg List.toArray (Rec.tS (Rec.eu l 9) _))) rfl fun w M=>bC (b8 g aq l (b9 l 10).1 (b9 l 10).2) M 1 rfl (ar rfl rfl T.oj) rfl (fun H=>oZ 10 H au) fun _ w _ M=>bj (i:=2) (cs':=(Rec.q l 11).cells.toArray) M 1 rfl rfl (dr (vs:=(ao (eD (bK l 10))).toArray) rfl rfl rfl T.fF (by simp[gB,h9]) (M.row (i:=2) rfl) (by simp[Rec.len (Rec.eu l 10)]) (List.all_eq_true.2 (fun v aD=>c0 _ v aD)) (congrArg List.toArray (Rec.tT (Rec.eu l 10) _))) rfl fun w M=>bC (b8 g aq l (b9 l 11).1 (b9 l 11).2) M 1 rfl (ar rfl rfl T.As) rfl (fun H=>zt 11 H au) fun _ w _ M=>ch 2 rfl rfl (by simp;exact he)<|ah (v:=.agg (Rec.read l).cells.toArray) 1 rfl (cW rfl rfl T.da (M.row (i:=2) rfl) (Rec.size (Rec.ly l)))<|bo M 0 rfl (ar rfl rfl T.xp) (wM (Rec.ly l) _) fun w M=>fun fr E=>?_;rw[decide_eq_false hm]at E;refine bN E<|ah (v:=.bool _) 0 U U<|ah (v:=.agg (Rec.zero.cells).toArray) 1 U (dl (vs:=[]) (us:=Rec.zero.cells) U U T.mL T.mN (rfl) U U (rfl))<|bj (i:=3) (cs':=Rec.zero.cells.toArray) M 0 U U (cB (vs:=Rec.zero.cells.toArray) U U U T.dV (Rec.size Rec.e0) (M.row (i:=3) U) (rfl) (fun v aD=>Rec.eX _ v aD)) U fun w M=>aU 1 U fun fr E=>?_;refine fW E U U U T.da (M.row (i:=3) U) (Rec.size (Rec.e0)) ?_;exact bX M
end
section
open Go.RowKit Go.a2 Go.Proofs Go.Proofs.Tryz
theorem Qd{F:List UInt8}{i n:Nat}{c:UInt8}(hi:i<n)(cG:F.length=n)(aJ:F[i]'ae=c):(F.take i++List.replicate (n-i) 0).set i c=F.take (i+1)++List.replicate (n-(i+1)) 0:=by
 subst aJ;have e:n-i=(n-(i+1))+1:=by omega
 rw[List.take_succ_eq_append_getElem ae,e,List.replicate_succ,List.set_append_right _ _ (by simp;omega)];have c6:i-(F.take i).length=0:=by simp;omega
 rw[c6,List.set_cons_zero];simp only[List.append_assoc,List.singleton_append]
end
section
open Go.RowKit Go.a2 Go.Proofs Go.Proofs.Tryz
def Rec.eR(a b:Int):Rec:={Rec.zero with bq:=a,cd:=b,bF:=2}
theorem Rec.j8(a b:Int):(Rec.eR a b).Ok:=⟨Rec.e0.cD,Rec.e0.b3,Rec.e0.dt,Rec.e0.dI⟩
theorem ZO(x:Int): -2<x.tmod 2:=by
 have:=Int.tmod_lt_of_pos (-x) (show(0:Int)<2 by decide);rw[Int.neg_tmod]at this;omega
theorem Ux{n:Int}{w0:World}(h:0<=n):bH prog 279 [aa n] w0 (.bool (decide (n<=1099511627776))):=by
 refine enter (n:=9) func279 U U U ?_;intro fr E;have M:=ht (Has.nil w0);refine aV E<|bD 2 U U h<|ah (v:=.bool _) 2 U U<|ah (v:=.bool _) 0 U U<|aU 1 U fun fr E=>?_;refine bi E U U ?_;exact bX M
theorem Uy{n:Int}{w0:World}(h:¬0<=n):bH prog 279 [aa n] w0 (.bool false):=by
 refine enter (n:=9) func279 U U U ?_;intro fr E;have M:=ht (Has.nil w0);refine aV E<|bs 2 U U h<|ah (v:=.bool _) 3 U U<|aU 1 U fun fr E=>?_;refine bi E U U ?_;exact bX M
theorem sa(n:Int)(w0:World):bH prog 279 [aa n] w0 (.bool (decide (0<=n/\n<=1099511627776))):=by
 by_cases h:0<=n
 ·have e:decide (0<=n/\n<=1099511627776)=decide (n<=1099511627776):=by simp[h]
  rw[e];exact Ux h
 ·have e:decide (0<=n/\n<=1099511627776)=false:=by simp[h]
  rw[e];exact Uy h
theorem vT(a b:Int)(w0:World):bH prog 24 [aa a,aa b] w0 (Rec.eR a b).val:=by
 refine enter (n:=8) func24 U U U ?_;intro fr E;have M:=ht (Has.nil w0);refine aV E<|bh (ob:=.cells _ 45) (fun g=>ai g 0) M 0 U (bT U T.fu) fun aZ w M=>ah (v:=.agg ((Rec.eR a b).cells).toArray) 2 U (dl (vs:=[aW a,aW b,aW 2]) (us:=(Rec.eR a b).cells) U U T.mL T.mN (rfl) U U (rfl))<|bj (i:=0) (cs':=(Rec.eR a b).cells.toArray) M 0 U U (cB (vs:=(Rec.eR a b).cells.toArray) U U U T.dV (Rec.size (Rec.j8 a b)) (M.row (i:=0) U) (rfl) (fun v aD=>Rec.eX _ v aD)) U fun w M=>aU 0 U fun fr E=>?_;refine gC E U U T.da (M.row (i:=0) U) (Rec.size (Rec.j8 a b)) ?_;exact bX M
theorem n4{r:Rec}(ap:r.Ok)(w0:World):bH prog 91 [r.val] w0 (aa (1+r.bq.tmod 2)):=by
 refine enter (n:=7) func91 U U U ?_;intro fr E;have M:=ht (Has.nil w0);refine aV E<|bh (ob:=.cells (r.cells.toArray) 45) (fun g=>ai g 0) M 0 U (cS (cs:=(r.cells.toArray)) U U) fun aZ w M=>ah (v:=aa _) 2 U (aE U U T.bc (M.row (i:=0) U) Rec.jv)<|a1 (y:=r.bq.tmod 2) 0 U U (rfl)<|a1 (y:=1+r.bq.tmod 2) 0 U U (br (by have:=Int.tmod_lt_of_pos r.bq (show(0:Int)<2 by decide);have:=ZO r.bq;omega) (by have:=Int.tmod_lt_of_pos r.bq (show(0:Int)<2 by decide);omega))<|aU 1 U fun fr E=>?_;refine bi E U U ?_;exact bX M
theorem yl(v:Int)(w0:World):aY prog 278 [aa v] w0 [] (fun s:Value=>s) (fun s=>[.bytes 5 s (aO v)]) (fun _=>True):=by
 refine enter (n:=23) func278 U U U ?_;intro fr E;have M:=ht (Has.nil w0);refine aV E<|cv 1 U fun fr E=>?_;refine CA (k:=8) (c:=8) E M U U U U U U U U (rfl) (rfl) T.aG T.eh T.rn T.ef (Nat.le_refl _) aN fun o fr w M E=>?_;refine cw E<|ah 2 U (bx U U U U T.aG (M.reads 0 U))<|bw 1 U fun fr E=>?_;refine cI (fun d fr w=>∃i:Nat,d=8-i/\i<=8/\Env [(8,aa i),(7,aa 8),(6,o),(3,o),(0,aa v)] 23 fr/\Mem w0 (aS []) [.bytes 5 o ((aO v).take i++List.replicate (8-i) 0)] (fun _=>True) w) (8) ?_ ?_
 ·refine⟨0,U,by omega,E.lL [0,3,6,7,8] rfl,M.as (by simp)⟩
 ·clear E M;rintro d fr w ⟨i,aT,hle,E,M⟩;have bS:((aO v).take i++List.replicate (8-i) 0).length=8:=by rw[List.length_append,List.length_take,List.length_replicate,eo];omega
  by_cases hi:i<8
  ·refine bA E<|bD 0 U U ae<|a1 (y:=IntKind.u64.wrap v) 6 U U (rfl)<|a1 (y:=((8-i:Nat):Int)-1) 1 U U ((br ae ae).trans ae)<|a1 (y:=8*(((8-i:Nat):Int)-1)) 0 U U (br ae ae)<|ah (v:=ab0 _) 0 U (q6 U U U ae U)<|a1 (y:=(((aO v)[8-(8-i)]'(by rw[eo];omega)).toNat:Int)) 0 U U (tJ v ae ae)<|ah 0 U (bL (i:=i) U (M.reads 0 U) U U (rfl) (ae) T.aG T.bf)<|cv 0 U fun fr E=>?_;refine yW (i:=0) (k:=i) (b:=(aO v)[8-(8-i)]'(by rw[eo];omega)) E M U U U U U U U U (rfl) T.bf ae fun fr w M E=>?_;refine cw E<|a1 (y:=((i+1:Nat):Int)) 0 U U ((br ae ae).trans ae)<|ct 1 U fun fr E=>?_;refine⟨8-(i+1),by omega,i+1,U,by omega,E.lL [0,3,6,7,8] rfl,M.as ?_⟩;refine congrArg (fun x=>[az.bytes 5 o x]) ?_;exact Qd (F:=aO v) hi (eo v) (by congr 1;omega)
  ·obtain rfl:i=8:=by omega
   refine bA E<|ch 0 U U (rfl)<|aU 3 U fun fr E=>?_;refine bi E U U ?_;exact⟨_,U,M.fin (.refl _) trivial⟩
theorem LP(w0:World):aY prog 64 [.slice none 0 0] w0 [] (fun s:Value=>s) (fun s=>[.bytes 5 s []]) (fun _=>True):=by
 refine enter (n:=8) func64 U U U ?_;intro fr E;have M:=ht (Has.nil w0);refine aV E<|ah (v:=.bool true) 2 U (wb U U U T.aG U)<|aU 2 U fun fr E=>?_;refine bi E U U ?_;have M:=M.jg 5;exact⟨_,U,M.fin (.refl _) trivial⟩
theorem LQ{g off c:Nat}{l:List UInt8}{w0:World}(ak:Bytes w0 (.slice (some ⟨g,off,none⟩) l.length c) l)(au:l.length<=35184372088832):aY prog 64 [.slice (some ⟨g,off,none⟩) l.length c] w0 [] (fun s:Value=>s) (fun s=>[.bytes 5 s l]) (fun _=>True):=by
 refine enter (n:=8) func64 U U U ?_;intro fr E;have M:=Mem.begin (Φ:=fun w'=>Bytes w' (.slice (some ⟨g,off,none⟩) l.length c) l) (Has.nil w0) (fun w' h=>ak.bU h);refine aV E<|ah (v:=.bool false) 2 U (wb U U U T.aG U)<|cv 1 U fun fr E=>?_;refine dM (sz:=1) (xs:=ao []) E M U U U U U (lP U T.aG U) (rfl) (Nat.le_refl _) aN (rfl) fun o fr w M E=>?_;refine cw E<|cv 1 U fun fr E=>?_;refine fX (i:=0) E M U U U U U U U U U U U T.aG T.aG T.eh T.ef M.fact (by simp;omega) fun o fr w M E=>?_;refine cw E<|aU 1 U fun fr E=>?_;refine bi E U U ?_;have M:=M.as (L':=[.bytes 5 o l]) (by simp);exact⟨_,U,M.fin (.refl _) trivial⟩
theorem sJ{b:Value}{l:List UInt8}{w0:World}(ak:Bytes w0 b l)(au:l.length<=35184372088832):aY prog 64 [b] w0 [] (fun s:Value=>s) (fun s=>[.bytes 5 s l]) (fun _=>True):=by
 rcases ak.2 with⟨rfl,h⟩|⟨g,off,c,rfl,_⟩
 ·have e:l=[]:=List.eq_nil_of_length_eq_zero h;subst e;exact LP w0
 ·exact LQ ak au
end
section
open Go.RowKit Go.a2 Go.Proofs Go.Proofs.Tryz
def ty(x y z:Int):Int:=if z<(if y<x then y else x)then z else(if y<x then y else x)
def yh(x y:Int):Int:=if y>x then y else x
theorem Mc{a b:Value}{l k:List UInt8}{w0:World}(bm:Bytes w0 a l)(ak:Bytes w0 b k)(a6:l.length≠k.length):bH prog 276 [a,b] w0 (.bool false):=by
 refine enter (n:=26) func276 U U U ?_;intro fr E;have M:=Mem.begin (Φ:=fun w'=>Bytes w' a l/\Bytes w' b k) (Has.nil w0) (fun w' h=>⟨bm.bU h,ak.bU h⟩);refine aV E<|ah 2 U (bx U U U U T.aG M.fact.1)<|ah 1 U (bx U U U U T.aG M.fact.2)<|ei 0 U U (by simp<;>omega)<|aU 2 U fun fr E=>?_;refine bi E U U ?_;exact bX M
theorem Mb{a b:Value}{l k:List UInt8}{w0:World}(bm:Bytes w0 a l)(ak:Bytes w0 b k)(aI:l.length=k.length)(au:l.length<=35184372088832):bH prog 276 [a,b] w0 (.bool (decide (l=k))):=by
 refine enter (n:=26) func276 U U U ?_;intro fr E;have M:=Mem.begin (Φ:=fun w'=>Bytes w' a l/\Bytes w' b k) (Has.nil w0) (fun w' h=>⟨bm.bU h,ak.bU h⟩);refine aV E<|ah 2 U (bx U U U U T.aG M.fact.1)<|ah 1 U (bx U U U U T.aG M.fact.2)<|ch 0 U U (by simp<;>omega)<|ah 2 U (bx U U U U T.aG M.fact.1)<|bw 1 U fun fr E=>?_;refine cI (fun d fr w=>∃i:Nat,d=l.length-i/\i<=l.length/\(∀j,j<i->l[j]? =k[j]?)/\Env [(13,aa i),(12,aa l.length),(1,b),(0,a)] 26 fr/\Mem w0 (aS []) [] (fun w'=>Bytes w' a l/\Bytes w' b k) w) (l.length) ?_ ?_
 ·refine⟨0,U,Nat.zero_le _,fun j ax=>absurd ax ae,E.lL [0,1,12,13] rfl,M⟩
 ·clear E M;rintro d fr w ⟨i,rfl,hle,vg,E,M⟩;by_cases hi:i<l.length
  ·by_cases aJ:l[i]=k[i]'(aI▸hi)
   ·refine bA E<|bD 0 U U ae<|bw 3 U fun fr E=>?_;refine(dR (B:=T.CY) (Vs:=(.af _:: .af _:: .af (cellAt a (i*1)):: .af (ag ((l[i]).toNat:Int)):: .af _:: .af _:: .af (cellAt b (i*1)):: .af (ag ((k[i]'(aI▸hi)).toNat:Int)):: .af (.bool false)::[])) T.Ku E T.mixed T.Kt U (ej.e6 U) ⟨aw U U,
   aw U U,
   aC U U (fun x w ad ab=>bL (i:=i) U (M.aQ ad).fact.1 U U (rfl) (hi) T.aG T.bf),
   aC U U (fun x w ad ab=>b2 U (M.aQ ad).fact.1 U T.cq (by rw[Nat.mul_one];exact gx hi)),
   aw U U,
   aw U U,
   aC U U (fun x w ad ab=>bL (i:=i) U (M.aQ ad).fact.2 U U (rfl) (ae) T.aG T.bf),
   aC U U (fun x w ad ab=>b2 U (M.aQ ad).fact.2 U T.cq (by rw[Nat.mul_one];exact gx (l:=k) ae)),
   aC U U (fun x w ad ab=>eZ U (by simp[aJ])),ay⟩ ?_)
    intro x fr w ad ab E;have M:=M.ext ad;refine cm E<|a1 (y:=((i+1:Nat):Int)) 1 U U ((br ae ae).trans ae)<|ct 1 U fun fr E=>?_;refine⟨l.length-(i+1),by omega,i+1,U,by omega,fun j ax=>?_,E.lL [0,1,12,13] rfl,M⟩;rcases Nat.lt_or_eq_of_le (Nat.le_of_lt_succ ax)with h|rfl
    ·exact vg j h
    ·rw[List.getElem?_eq_getElem hi,List.getElem?_eq_getElem (aI▸hi),aJ]
   ·refine bA E<|bD 0 U U ae<|bw 3 U fun fr E=>?_;refine(dR (B:=T.CY) (Vs:=(.af _:: .af _:: .af (cellAt a (i*1)):: .af (ag ((l[i]).toNat:Int)):: .af _:: .af _:: .af (cellAt b (i*1)):: .af (ag ((k[i]'(aI▸hi)).toNat:Int)):: .af (.bool true)::[])) T.Ku E T.mixed T.Kt U (ej.e6 U) ⟨aw U U,
   aw U U,
   aC U U (fun x w ad ab=>bL (i:=i) U (M.aQ ad).fact.1 U U (rfl) (hi) T.aG T.bf),
   aC U U (fun x w ad ab=>b2 U (M.aQ ad).fact.1 U T.cq (by rw[Nat.mul_one];exact gx hi)),
   aw U U,
   aw U U,
   aC U U (fun x w ad ab=>bL (i:=i) U (M.aQ ad).fact.2 U U (rfl) (ae) T.aG T.bf),
   aC U U (fun x w ad ab=>b2 U (M.aQ ad).fact.2 U T.cq (by rw[Nat.mul_one];exact gx (l:=k) ae)),
   aC U U (fun x w ad ab=>eZ U (by simp;exact fun h=>aJ (UInt8.toNat_inj.1 (Int.ofNat_inj.1 h)))),ay⟩ ?_)
    intro x fr w ad ab E;have M:=M.ext ad;refine cm E<|aU 2 U fun fr E=>?_;refine bi E U U ?_;have e:decide (l=k)=false:=decide_eq_false (fun h=>aJ (by subst h;rfl));rw[e];exact bX M
  ·refine bA E<|bs 0 U U ae<|aU 2 U fun fr E=>?_;refine bi E U U ?_;have e:decide (l=k)=true:=decide_eq_true (List.ext_getElem? fun j=>by by_cases ax:j<i;exact vg j ax;rw[List.getElem?_eq_none ae,List.getElem?_eq_none ae]);rw[e];exact bX M
theorem Md{a b:Value}{l k:List UInt8}{w0:World}(bm:Bytes w0 a l)(ak:Bytes w0 b k)(au:l.length<=35184372088832):bH prog 276 [a,b] w0 (.bool (decide (l=k))):=by
 by_cases aI:l.length=k.length
 ·exact Mb bm ak aI au
 ·rw[decide_eq_false (fun h=>aI (by rw[h]))];exact Mc bm ak aI
theorem tq(k n:Int)(w0:World):aY prog 154 [aa k,aa n] w0 [] (fun s:Value=>s) (fun s=>[.bytes 5 s ([UInt8.ofInt k]++aO n)]) (fun _=>True):=by
 refine enter (n:=10) func154 U U U ?_;intro fr E;have M:=ht (Has.nil w0);refine aV E<|a1 (y:=((UInt8.ofInt k).toNat:Int)) 2 U U ((iH k).symm)<|cv 0 U fun fr E=>?_;refine dM (sz:=1) (xs:=ao [UInt8.ofInt k]) E M U U U U U (ev (us:=[_]) (vs:=[_]) U U U T.aG T.bf T.gO U U U U U) (rfl) (Nat.le_refl _) aN (rfl) fun t fr w M E=>?_;refine cw E<|cP M 1 U (ar U U T.nB) (np n (M.reads 0 U:Bytes _ _ [UInt8.ofInt k]) (by simp)) U fun r w _ M=>aU 1 U fun fr E=>?_;refine bi E U U ?_;exact⟨_,U,M.fin (ni (i:=0) U) trivial⟩
theorem Mv{b:Value}{l:List UInt8}{w0:World}(ak:Bytes w0 b l)(au:l.length<=35184372088832)(aj:l.length<17):bH prog 166 [b] w0 (aa 0):=by
 refine enter (n:=22) func166 U U U ?_;intro fr E;have M:=Mem.begin (Φ:=fun w'=>Bytes w' b l) (Has.nil w0) (fun w' h=>ak.bU h);refine aV E<|ah 2 U (bx U U U U T.aG M.fact)<|bD 0 U U ae<|ah (v:=.bool _) 5 U U<|ah (v:=.bool _) 5 U U<|aU 2 U fun fr E=>?_;refine bi E U U ?_;exact bX M
theorem Mt{b:Value}{l:List UInt8}{w0:World}(ak:Bytes w0 b l)(au:l.length<=35184372088832)(aj:17<=l.length)(an:(l[0]'ae).toNat<1):bH prog 166 [b] w0 (aa 0):=by
 refine enter (n:=22) func166 U U U ?_;intro fr E;have M:=Mem.begin (Φ:=fun w'=>Bytes w' b l) (Has.nil w0) (fun w' h=>ak.bU h);refine aV E<|ah 2 U (bx U U U U T.aG M.fact)<|bs 0 U U ae<|ah 2 U (bL (i:=0) U M.fact U U (rfl) (ae) T.aG T.bf)<|ah (v:=ag ((l[0]'ae).toNat:Int)) 0 U (b2 U M.fact U T.cq (by rw[Nat.mul_one];exact gx ae))<|bD 0 U U ae<|ah (v:=.bool _) 0 U U<|ah (v:=.bool _) 5 U U<|aU 2 U fun fr E=>?_;refine bi E U U ?_;exact bX M
theorem Ms{b:Value}{l:List UInt8}{w0:World}(ak:Bytes w0 b l)(au:l.length<=35184372088832)(aj:17<=l.length)(an:¬(l[0]'ae).toNat<1)(aB:5<(l[0]'ae).toNat):bH prog 166 [b] w0 (aa 0):=by
 refine enter (n:=22) func166 U U U ?_;intro fr E;have M:=Mem.begin (Φ:=fun w'=>Bytes w' b l) (Has.nil w0) (fun w' h=>ak.bU h);refine aV E<|ah 2 U (bx U U U U T.aG M.fact)<|bs 0 U U ae<|ah 2 U (bL (i:=0) U M.fact U U (rfl) (ae) T.aG T.bf)<|ah (v:=ag ((l[0]'ae).toNat:Int)) 0 U (b2 U M.fact U T.cq (by rw[Nat.mul_one];exact gx ae))<|bs 0 U U ae<|ah (v:=.bool _) 0 U U<|ah 2 U (bL (i:=0) U M.fact U U (rfl) (ae) T.aG T.bf)<|ah (v:=ag ((l[0]'ae).toNat:Int)) 0 U (b2 U M.fact U T.cq (by rw[Nat.mul_one];exact gx ae))<|bD 0 U U ae<|ah (v:=.bool _) 0 U U<|aU 2 U fun fr E=>?_;refine bi E U U ?_;exact bX M
theorem Mu{b:Value}{l:List UInt8}{w0:World}(ak:Bytes w0 b l)(au:l.length<=35184372088832)(aj:17<=l.length)(an:¬(l[0]'ae).toNat<1)(aB:¬5<(l[0]'ae).toNat):bH prog 166 [b] w0 (aa ((l[0]'ae).toNat:Int)):=by
 refine enter (n:=22) func166 U U U ?_;intro fr E;have M:=Mem.begin (Φ:=fun w'=>Bytes w' b l) (Has.nil w0) (fun w' h=>ak.bU h);refine aV E<|ah 2 U (bx U U U U T.aG M.fact)<|bs 0 U U ae<|ah 2 U (bL (i:=0) U M.fact U U (rfl) (ae) T.aG T.bf)<|ah (v:=ag ((l[0]'ae).toNat:Int)) 0 U (b2 U M.fact U T.cq (by rw[Nat.mul_one];exact gx ae))<|bs 0 U U ae<|ah (v:=.bool _) 0 U U<|ah 2 U (bL (i:=0) U M.fact U U (rfl) (ae) T.aG T.bf)<|ah (v:=ag ((l[0]'ae).toNat:Int)) 0 U (b2 U M.fact U T.cq (by rw[Nat.mul_one];exact gx ae))<|bs 0 U U ae<|ah (v:=.bool _) 0 U U<|ah 2 U (bL (i:=0) U M.fact U U (rfl) (ae) T.aG T.bf)<|ah (v:=ag ((l[0]'ae).toNat:Int)) 0 U (b2 U M.fact U T.cq (by rw[Nat.mul_one];exact gx ae))<|a1 (y:=((l[0]'ae).toNat:Int)) 0 U U (br ae (by have:=(l[0]'ae).toNat_lt;omega))<|aU 1 U fun fr E=>?_;refine bi E U U ?_;exact bX M
theorem V0{e n a:Int}{w0:World}(aj:¬(0<=e/\0<=n/\0<=a)):bH prog 153 [aa e,aa n,aa a] w0 (.bool false):=by
 refine enter (n:=22) func153 U U U ?_;intro fr E;have M:=ht (Has.nil w0);refine aV E<|ah (v:=aa (ty e n a)) 4 U (num (Cg U U U U U) U)<|ch 0 U U (decide_eq_false (by unfold ty;(repeat' split)<;>omega))<|ah (v:=.bool _) 5 U U<|ah (v:=.bool _) 3 U U<|aU 1 U fun fr E=>?_;refine bi E U U ?_;exact bX M
theorem VZ{e n a:Int}{w0:World}(aj:0<=e/\0<=n/\0<=a)(an:¬(e<=1099511627776/\n<=1099511627776)):bH prog 153 [aa e,aa n,aa a] w0 (.bool false):=by
 refine enter (n:=22) func153 U U U ?_;intro fr E;have M:=ht (Has.nil w0);refine aV E<|ah (v:=aa (ty e n a)) 4 U (num (Cg U U U U U) U)<|ei 0 U U (decide_eq_true (by unfold ty;(repeat' split)<;>omega))<|ah (v:=aa (yh e n)) 3 U (num (IX U U U U) U)<|ch 0 U U (decide_eq_false (by unfold yh;(repeat' split)<;>omega))<|ah (v:=.bool _) 0 U U<|ah (v:=.bool _) 3 U U<|aU 1 U fun fr E=>?_;refine bi E U U ?_;exact bX M
theorem V1{e n a:Int}{w0:World}(aj:0<=e/\0<=n/\0<=a)(an:e<=1099511627776/\n<=1099511627776):bH prog 153 [aa e,aa n,aa a] w0 (.bool (decide (a<4096))):=by
 refine enter (n:=22) func153 U U U ?_;intro fr E;have M:=ht (Has.nil w0);refine aV E<|ah (v:=aa (ty e n a)) 4 U (num (Cg U U U U U) U)<|ei 0 U U (decide_eq_true (by unfold ty;(repeat' split)<;>omega))<|ah (v:=aa (yh e n)) 3 U (num (IX U U U U) U)<|ei 0 U U (decide_eq_true (by unfold yh;(repeat' split)<;>omega))<|ah (v:=.bool _) 0 U U<|ah (v:=.bool _) 2 U U<|ah (v:=.bool _) 0 U U<|aU 1 U fun fr E=>?_;refine bi E U U ?_;exact bX M
def gZ(e n a:Int):Prop:=(0<=e/\0<=n/\0<=a)/\(e<=1099511627776/\n<=1099511627776)/\a<4096
instance(e n a:Int):Decidable (gZ e n a):=by unfold gZ;infer_instance
theorem V2(e n a:Int)(w0:World):bH prog 153 [aa e,aa n,aa a] w0 (.bool (decide (gZ e n a))):=by
 by_cases aj:0<=e/\0<=n/\0<=a
 ·by_cases an:e<=1099511627776/\n<=1099511627776
  ·have cz:decide (gZ e n a)=decide (a<4096):=decide_eq_decide.2 ⟨fun h=>h.2.2,fun h=>⟨aj,an,h⟩⟩;rw[cz];exact V1 aj an
  ·rw[decide_eq_false (fun h=>an h.2.1)];exact VZ aj an
 ·rw[decide_eq_false (fun h=>aj h.1)];exact V0 aj
end
section
open Go.RowKit Go.a2 Go.Proofs Go.Proofs.Tryz
structure di where
 n:Nat
 dF:List Value
 cache:List eT
 clock:Nat
 dK:Bool
 left:Int
 off:Bool
 writes:Int
 reads:List Int
 ps:List (Value×List UInt8)
def dC(x:Int):Int:=IntKind.i64.wrap x
def di.wrote(S:di)(i:Int)(v:Value)(l:List UInt8):di:={S with left:=dC (S.left-1),cache:=(io i v S.clock S.cache).1,clock:=(io i v S.clock S.cache).2,writes:=dC (S.writes+1),ps:=(v,l)::S.ps}
theorem Bo(l:List Int)(j:Nat)(x:Int):(fg l).set (j*1) (aa x)=fg (l.set j x):=by
 rw[Nat.mul_one];simp only[fg,List.map_set]
theorem yu{α:Type}(a b c d e:α): [a,b,c,d,e].Perm [e,a,b,c,d]:=by
 have:=List.perm_append_comm (l₁:=[a,b,c,d]) (l₂:=[e]);exact this
structure di.Ok(S:di):Prop where
 len:S.dF.length=S.n
 iI:S.reads.length=S.n
 max:S.n<=4096
 dF:∀v∈S.dF,∃l,(v,l)∈S.ps/\l.length<=1024
 cache:∀e∈S.cache,∃l,(e.val,l)∈S.ps/\l.length<=1024
abbrev bP(av bg:Nat)(lv aq:Value)(S:di):List az:=[.bb av (.cells #[lv,.map (some bg),.bool S.dK,aa S.left,.bool S.off,aa S.writes,aq] 95 (0,0)),.row 22 1 lv S.n S.dF,.bb bg (.map (dv S.cache) S.clock),.row 3 1 aq S.n (fg S.reads),.e7 S.ps]
theorem ZM{av bg:Nat}{lv aq:Value}{S:di}{w0:World}(H:Has w0 (bP av bg lv aq S))(bJ:S.Ok){i:Int}(h:0<=i):aY prog 63 [ai av 0,aa i] w0 (bP av bg lv aq S) (fun _:Unit=>.bool (decide (i<(S.n:Int)))) (fun _=>bP av bg lv aq S) (fun _=>True):=by
 refine enter (n:=16) func63 U U U ?_;intro fr E;have M:=ht H;refine aV E<|bD 2 U U h<|ah 5 U (aE U U T.lu (M.row (i:=0) U) U)<|ah 0 U (bx U U U U T.gN (M.reads 1 U))<|ah (v:=.bool _) 0 U U<|ah (v:=.bool _) 0 U U<|aU 1 U fun fr E=>?_;refine bi E U U ?_;exact⟨(),U,M.fin (List.Sublist.refl _) trivial⟩
theorem ZN{av bg:Nat}{lv aq:Value}{S:di}{w0:World}(H:Has w0 (bP av bg lv aq S))(bJ:S.Ok){i:Int}(h:¬0<=i):aY prog 63 [ai av 0,aa i] w0 (bP av bg lv aq S) (fun _:Unit=>.bool false) (fun _=>bP av bg lv aq S) (fun _=>True):=by
 refine enter (n:=16) func63 U U U ?_;intro fr E;have M:=ht H;refine aV E<|bs 2 U U h<|ah (v:=.bool _) 8 U U<|aU 1 U fun fr E=>?_;refine bi E U U ?_;exact⟨(),U,M.fin (List.Sublist.refl _) trivial⟩
theorem re{av bg:Nat}{lv aq:Value}{S:di}{w0:World}(H:Has w0 (bP av bg lv aq S))(bJ:S.Ok)(i:Int):aY prog 63 [ai av 0,aa i] w0 (bP av bg lv aq S) (fun _:Unit=>.bool (decide (0<=i/\i<(S.n:Int)))) (fun _=>bP av bg lv aq S) (fun _=>True):=by
 by_cases h:0<=i
 ·have e:decide (0<=i/\i<(S.n:Int))=decide (i<(S.n:Int)):=by simp[h]
  rw[e];exact ZM H bJ h
 ·have e:decide (0<=i/\i<(S.n:Int))=false:=by simp[h]
  rw[e];exact ZN H bJ h
theorem Lt{av bg:Nat}{lv aq:Value}{S:di}{w0:World}(H:Has w0 (bP av bg lv aq S))(bJ:S.Ok){i:Int}{b:Value}{l:List UInt8}(ak:Bytes w0 b l)(cK:∀g,b.ownBlock=some g->¬aS (bP av bg lv aq S) g)(h:¬(0<=i/\i<(S.n:Int))):aY prog 101 [ai av 0,aa i,b] w0 (bP av bg lv aq S) (fun _:Unit=>aa 7) (fun _=>bP av bg lv aq S) (fun _=>True):=by
 refine enter (n:=16) func101 U U U ?_;intro fr E;have M:=Mem.begin (Φ:=fun w'=>Bytes w' b l) H (fun w' h=>Reads.held ak h cK);refine aV E<|bC (bP av bg lv aq S) M 3 U (ar U U T.qv) U (fun H=>re H bJ i) fun _ w _ M=>fun fr E=>?_;rw[decide_eq_false h]at E;refine bN E<|ah (v:=.bool _) 0 U U<|aU 3 U fun fr E=>?_;refine bi E U U ?_;exact⟨(),U,M.fin (List.Sublist.refl _) trivial⟩
theorem Ls{av bg:Nat}{lv aq:Value}{S:di}{w0:World}(H:Has w0 (bP av bg lv aq S))(bJ:S.Ok){i:Int}{b:Value}{l:List UInt8}(ak:Bytes w0 b l)(cK:∀g,b.ownBlock=some g->¬aS (bP av bg lv aq S) g)(h:0<=i/\i<(S.n:Int))(aI:1024<l.length):aY prog 101 [ai av 0,aa i,b] w0 (bP av bg lv aq S) (fun _:Unit=>aa 3) (fun _=>bP av bg lv aq S) (fun _=>True):=by
 refine enter (n:=16) func101 U U U ?_;intro fr E;have M:=Mem.begin (Φ:=fun w'=>Bytes w' b l) H (fun w' h=>Reads.held ak h cK);refine aV E<|bC (bP av bg lv aq S) M 3 U (ar U U T.qv) U (fun H=>re H bJ i) fun _ w _ M=>fun fr E=>?_;rw[decide_eq_true h]at E;refine bN E<|ah (v:=.bool _) 0 U U<|ah 3 U (bx U U U U T.aG M.fact)<|bD 0 U U ae<|aU 3 U fun fr E=>?_;refine bi E U U ?_;exact⟨(),U,M.fin (List.Sublist.refl _) trivial⟩
theorem zi{av bg:Nat}{lv aq:Value}{S:di}{w0:World}(H:Has w0 (bP av bg lv aq S))(bJ:S.Ok){i:Int}{b:Value}{l:List UInt8}(ak:Bytes w0 b l)(cK:∀g,b.ownBlock=some g->¬aS (bP av bg lv aq S) g)(h:0<=i/\i<(S.n:Int))(aI:¬1024<l.length):aY prog 101 [ai av 0,aa i,b] w0 (bP av bg lv aq S) (fun _:Unit=>aa 0) (fun _=>bP av bg lv aq S) (fun _=>True):=by
 refine enter (n:=16) func101 U U U ?_;intro fr E;have M:=Mem.begin (Φ:=fun w'=>Bytes w' b l) H (fun w' h=>Reads.held ak h cK);refine aV E<|bC (bP av bg lv aq S) M 3 U (ar U U T.qv) U (fun H=>re H bJ i) fun _ w _ M=>fun fr E=>?_;rw[decide_eq_true h]at E;refine bN E<|ah (v:=.bool _) 0 U U<|ah 3 U (bx U U U U T.aG M.fact)<|bs 0 U U ae<|aU 3 U fun fr E=>?_;refine bi E U U ?_;exact⟨(),U,M.fin (List.Sublist.refl _) trivial⟩
theorem Nw{av bg:Nat}{lv aq:Value}{S:di}{w0:World}(H:Has w0 (bP av bg lv aq S))(bJ:S.Ok)(h:S.off=true):aY prog 102 [ai av 0] w0 (bP av bg lv aq S) (fun _:Unit=>aa 12) (fun _=>bP av bg lv aq S) (fun _=>True):=by
 refine enter (n:=30) func102 U U U ?_;intro fr E;obtain⟨n,dF,cache,clock,dK,left,off,writes,reads,ps⟩:=S;simp only at h;subst h;have M:=ht H;refine aV E<|ah (v:=.bool _) 4 U (aE U U T.fZ (M.row (i:=0) U) U)<|aU 3 U fun fr E=>?_;refine bi E U U ?_;exact⟨(),U,M.fin (List.Sublist.refl _) trivial⟩
theorem DY{av bg:Nat}{lv aq:Value}{S:di}{w0:World}(H:Has w0 (bP av bg lv aq S))(bJ:S.Ok)(h:S.off=false)(bm:S.dK=true)(aI:S.left=0):aY prog 102 [ai av 0] w0 (bP av bg lv aq S) (fun _:Unit=>aa 12) (fun _=>bP av bg lv aq {S with off:=true}) (fun _=>True):=by
 refine enter (n:=30) func102 U U U ?_;intro fr E;obtain⟨n,dF,cache,clock,dK,left,off,writes,reads,ps⟩:=S;simp only at h bm aI;subst h;subst bm;have M:=ht H;refine aV E<|ah (v:=.bool _) 4 U (aE U U T.fZ (M.row (i:=0) U) U)<|ah (v:=.bool _) 5 U (aE U U T.fZ (M.row (i:=0) U) U)<|ah (v:=aa _) 4 U (aE U U T.bc (M.row (i:=0) U) U)<|bD 0 U U aI<|ah (v:=.bool _) 0 U U<|bj (i:=0) (cs':= #[_,_,_,_,_,_,_]) M 5 U U (cy (v:=_) U U U T.kf (M.row (i:=0) U) (rfl) (rfl) (rfl)) U fun w M=>aU 1 U fun fr E=>?_;refine bi E U U ?_;exact⟨(),U,M.fin (List.Sublist.refl _) trivial⟩
theorem DX{av bg:Nat}{lv aq:Value}{S:di}{w0:World}(H:Has w0 (bP av bg lv aq S))(bJ:S.Ok)(h:S.off=false)(bm:S.dK=true)(aI:¬S.left=0):aY prog 102 [ai av 0] w0 (bP av bg lv aq S) (fun _:Unit=>aa 0) (fun _=>bP av bg lv aq {S with left:=dC (S.left-1)}) (fun _=>True):=by
 refine enter (n:=30) func102 U U U ?_;intro fr E;obtain⟨n,dF,cache,clock,dK,left,off,writes,reads,ps⟩:=S;simp only at h bm aI;subst h;subst bm;have M:=ht H;refine aV E<|ah (v:=.bool _) 4 U (aE U U T.fZ (M.row (i:=0) U) U)<|ah (v:=.bool _) 5 U (aE U U T.fZ (M.row (i:=0) U) U)<|ah (v:=aa _) 4 U (aE U U T.bc (M.row (i:=0) U) U)<|bs 0 U U aI<|ah (v:=.bool _) 0 U U<|ah (v:=aa _) 5 U (aE U U T.bc (M.row (i:=0) U) U)<|a1 (y:=dC (left-1)) 0 U U (rfl)<|bj (i:=0) (cs':= #[_,_,_,_,_,_,_]) M 2 U U (cy (v:=_) U U U T.c3 (M.row (i:=0) U) (rfl) (rfl) (rfl)) U fun w M=>aU 1 U fun fr E=>?_;refine bi E U U ?_;exact⟨(),U,M.fin (List.Sublist.refl _) trivial⟩
theorem DZ{av bg:Nat}{lv aq:Value}{S:di}{w0:World}(H:Has w0 (bP av bg lv aq S))(bJ:S.Ok)(h:S.off=false)(bm:S.dK=false):aY prog 102 [ai av 0] w0 (bP av bg lv aq S) (fun _:Unit=>aa 0) (fun _=>bP av bg lv aq {S with left:=dC (S.left-1)}) (fun _=>True):=by
 refine enter (n:=30) func102 U U U ?_;intro fr E;obtain⟨n,dF,cache,clock,dK,left,off,writes,reads,ps⟩:=S;simp only at h bm;subst h;subst bm;have M:=ht H;refine aV E<|ah (v:=.bool _) 4 U (aE U U T.fZ (M.row (i:=0) U) U)<|ah (v:=.bool _) 5 U (aE U U T.fZ (M.row (i:=0) U) U)<|ah (v:=.bool _) 6 U U<|ah (v:=aa _) 5 U (aE U U T.bc (M.row (i:=0) U) U)<|a1 (y:=dC (left-1)) 0 U U (rfl)<|bj (i:=0) (cs':= #[_,_,_,_,_,_,_]) M 2 U U (cy (v:=_) U U U T.c3 (M.row (i:=0) U) (rfl) (rfl) (rfl)) U fun w M=>aU 1 U fun fr E=>?_;refine bi E U U ?_;exact⟨(),U,M.fin (List.Sublist.refl _) trivial⟩
theorem N4{av bg:Nat}{lv aq:Value}{S:di}{w0:World}(H:Has w0 (bP av bg lv aq S))(bJ:S.Ok){i:Int}{b:Value}{l:List UInt8}(ak:Bytes w0 b l)(cK:∀g,b.ownBlock=some g->¬aS (bP av bg lv aq S) g)(bG:S.off=true):aY prog 92 [ai av 0,aa i,b] w0 (bP av bg lv aq S) (fun _:Unit=>aa 12) (fun _=>bP av bg lv aq S) (fun _=>True):=by
 refine enter (n:=39) func92 U U U ?_;intro fr E;have M:=Mem.begin (Φ:=fun w'=>Bytes w' b l) H (fun w' h=>Reads.held ak h cK);refine aV E<|ah (v:=.bool _) 4 U (aE U U T.fZ (M.row (i:=0) U) U)<|bw 0 U fun fr E=>?_;refine cond_true E U (bG) ?_;refine dT E<|aU 1 U fun fr E=>?_;refine bi E U U ?_;exact⟨(),U,M.fin (List.Sublist.refl _) trivial⟩
theorem N7{av bg:Nat}{lv aq:Value}{S:di}{w0:World}(H:Has w0 (bP av bg lv aq S))(bJ:S.Ok){i:Int}{b:Value}{l:List UInt8}(ak:Bytes w0 b l)(cK:∀g,b.ownBlock=some g->¬aS (bP av bg lv aq S) g)(bG:S.off=false)(h:¬(0<=i/\i<(S.n:Int))):aY prog 92 [ai av 0,aa i,b] w0 (bP av bg lv aq S) (fun _:Unit=>aa 7) (fun _=>bP av bg lv aq S) (fun _=>True):=by
 refine enter (n:=39) func92 U U U ?_;intro fr E;have M:=Mem.begin (Φ:=fun w'=>Bytes w' b l) H (fun w' h=>Reads.held ak h cK);refine aV E<|ah (v:=.bool _) 4 U (aE U U T.fZ (M.row (i:=0) U) U)<|bw 0 U fun fr E=>?_;refine cond_false E U (bG) ?_;refine dT E<|bC (bP av bg lv aq S) M 3 U (ar U U T.oh) U (fun H=>Lt H bJ M.fact cK h) fun _ w _ M=>ah (v:=.bool _) 2 U U<|aU 3 U fun fr E=>?_;refine bi E U U ?_;exact⟨(),U,M.fin (List.Sublist.refl _) trivial⟩
theorem N3{av bg:Nat}{lv aq:Value}{S:di}{w0:World}(H:Has w0 (bP av bg lv aq S))(bJ:S.Ok){i:Int}{b:Value}{l:List UInt8}(ak:Bytes w0 b l)(cK:∀g,b.ownBlock=some g->¬aS (bP av bg lv aq S) g)(bG:S.off=false)(h:0<=i/\i<(S.n:Int))(aI:1024<l.length):aY prog 92 [ai av 0,aa i,b] w0 (bP av bg lv aq S) (fun _:Unit=>aa 3) (fun _=>bP av bg lv aq S) (fun _=>True):=by
 refine enter (n:=39) func92 U U U ?_;intro fr E;have M:=Mem.begin (Φ:=fun w'=>Bytes w' b l) H (fun w' h=>Reads.held ak h cK);refine aV E<|ah (v:=.bool _) 4 U (aE U U T.fZ (M.row (i:=0) U) U)<|bw 0 U fun fr E=>?_;refine cond_false E U (bG) ?_;refine dT E<|bC (bP av bg lv aq S) M 3 U (ar U U T.oh) U (fun H=>Ls H bJ M.fact cK h aI) fun _ w _ M=>ah (v:=.bool _) 2 U U<|aU 3 U fun fr E=>?_;refine bi E U U ?_;exact⟨(),U,M.fin (List.Sublist.refl _) trivial⟩
theorem N2{av bg:Nat}{lv aq:Value}{S:di}{w0:World}(H:Has w0 (bP av bg lv aq S))(bJ:S.Ok){i:Int}{b:Value}{l:List UInt8}(ak:Bytes w0 b l)(cK:∀g,b.ownBlock=some g->¬aS (bP av bg lv aq S) g)(bG:S.off=false)(h:0<=i/\i<(S.n:Int))(aI:¬1024<l.length)(bm:S.dK=true)(rZ:S.left=0):aY prog 92 [ai av 0,aa i,b] w0 (bP av bg lv aq S) (fun _:Unit=>aa 12) (fun _=>bP av bg lv aq {S with off:=true}) (fun _=>True):=by
 refine enter (n:=39) func92 U U U ?_;intro fr E;have M:=Mem.begin (Φ:=fun w'=>Bytes w' b l) H (fun w' h=>Reads.held ak h cK);refine aV E<|ah (v:=.bool _) 4 U (aE U U T.fZ (M.row (i:=0) U) U)<|bw 0 U fun fr E=>?_;refine cond_false E U (bG) ?_;refine dT E<|bC (bP av bg lv aq S) M 3 U (ar U U T.oh) U (fun H=>zi H bJ M.fact cK h aI) fun _ w _ M=>ah (v:=.bool _) 2 U U<|bC (bP av bg lv aq S) M 2 U (ar U U T.rH) U (fun H=>DY H bJ bG bm rZ) fun _ w _ M=>ah (v:=.bool _) 2 U U<|aU 3 U fun fr E=>?_;refine bi E U U ?_;exact⟨(),U,M.fin (List.Sublist.refl _) trivial⟩
theorem N5{av bg:Nat}{lv aq:Value}{S:di}{w0:World}(H:Has w0 (bP av bg lv aq S))(bJ:S.Ok){i:Int}{b:Value}{l:List UInt8}(ak:Bytes w0 b l)(cK:∀g,b.ownBlock=some g->¬aS (bP av bg lv aq S) g)(bG:S.off=false)(h:0<=i/\i<(S.n:Int))(aI:¬1024<l.length)(bm:S.dK=true)(rZ:¬S.left=0):aY prog 92 [ai av 0,aa i,b] w0 (bP av bg lv aq S) (fun _:Value=>aa 0) (fun v=>bP av bg lv aq (S.wrote i v l)) (fun _=>True):=by
 refine enter (n:=39) func92 U U U ?_;intro fr E;have M:=Mem.begin (Φ:=fun w'=>Bytes w' b l) H (fun w' h=>Reads.held ak h cK);refine aV E<|ah (v:=.bool _) 4 U (aE U U T.fZ (M.row (i:=0) U) U)<|bw 0 U fun fr E=>?_;refine cond_false E U (bG) ?_;refine dT E<|bC (bP av bg lv aq S) M 3 U (ar U U T.oh) U (fun H=>zi H bJ M.fact cK h aI) fun _ w _ M=>ah (v:=.bool _) 2 U U<|bC (bP av bg lv aq S) M 2 U (ar U U T.rH) U (fun H=>DX H bJ bG bm rZ) fun _ w _ M=>ah (v:=.bool _) 2 U U<|bw 1 U fun fr E=>?_;refine(ii (B:=T.C6) (Vs:=(.af (ai av 0):: .af (ai av 0):: .af (ai av 1):: .af (.map (some bg)):: .af (aa i):: .af (b)::cV w.heap.size (fun v=>[.bytes 5 v l]) (fun _=>True)::[])) T.KU 7 E T.mixed T.KT U U U (fH.dF ⟨ay,ay,ay,ay,ay,ay,cn.df,ay⟩) ⟨aw U U,
   aw U U,
   aw U U,
   aC U U (fun x w ad ab=>aE U U T.l7 ((M.aQ ad).row (i:=0) U) U),
   aw U U,
   aw U U,
   cE U U (fun x w ad ab=>⟨_,_,U,U,U,ar U U T.rN,(sJ (M.aQ ad).fact ae).eN ad.size⟩),ay⟩ ?_)
 intro x fr w ad ab E;have M:=M.jb ad (ab 6 aN).1 (ab 6 aN).2.1;refine Hk (i:=3) E M U U U U U U U U U U T.mC fun fr w M E=>?_;refine cm E<|ah (v:=aa _) 3 U (aE U U T.bc (M.row (i:=1) U) U)<|a1 (y:=dC (S.writes+1)) 0 U U (rfl)<|bj (i:=1) (cs':= #[_,_,_,_,_,_,_]) M 2 U U (cy (v:=_) U U U T.c3 (M.row (i:=1) U) (rfl) (rfl) (rfl)) U fun w M=>aU 1 U fun fr E=>?_;refine bi E U U ?_;have M:=(M.aH 5 rfl).aH 1 rfl;have M:=M.nT.perm (L':=bP av bg lv aq (S.wrote i _ l)) (yu _ _ _ _ _);exact⟨_,U,M.fin (List.Sublist.refl _) trivial⟩
theorem N6{av bg:Nat}{lv aq:Value}{S:di}{w0:World}(H:Has w0 (bP av bg lv aq S))(bJ:S.Ok){i:Int}{b:Value}{l:List UInt8}(ak:Bytes w0 b l)(cK:∀g,b.ownBlock=some g->¬aS (bP av bg lv aq S) g)(bG:S.off=false)(h:0<=i/\i<(S.n:Int))(aI:¬1024<l.length)(bm:S.dK=false):aY prog 92 [ai av 0,aa i,b] w0 (bP av bg lv aq S) (fun _:Value=>aa 0) (fun v=>bP av bg lv aq (S.wrote i v l)) (fun _=>True):=by
 refine enter (n:=39) func92 U U U ?_;intro fr E;have M:=Mem.begin (Φ:=fun w'=>Bytes w' b l) H (fun w' h=>Reads.held ak h cK);refine aV E<|ah (v:=.bool _) 4 U (aE U U T.fZ (M.row (i:=0) U) U)<|bw 0 U fun fr E=>?_;refine cond_false E U (bG) ?_;refine dT E<|bC (bP av bg lv aq S) M 3 U (ar U U T.oh) U (fun H=>zi H bJ M.fact cK h aI) fun _ w _ M=>ah (v:=.bool _) 2 U U<|bC (bP av bg lv aq S) M 2 U (ar U U T.rH) U (fun H=>DZ H bJ bG bm) fun _ w _ M=>ah (v:=.bool _) 2 U U<|bw 1 U fun fr E=>?_;refine(ii (B:=T.C6) (Vs:=(.af (ai av 0):: .af (ai av 0):: .af (ai av 1):: .af (.map (some bg)):: .af (aa i):: .af (b)::cV w.heap.size (fun v=>[.bytes 5 v l]) (fun _=>True)::[])) T.KU 7 E T.mixed T.KT U U U (fH.dF ⟨ay,ay,ay,ay,ay,ay,cn.df,ay⟩) ⟨aw U U,
   aw U U,
   aw U U,
   aC U U (fun x w ad ab=>aE U U T.l7 ((M.aQ ad).row (i:=0) U) U),
   aw U U,
   aw U U,
   cE U U (fun x w ad ab=>⟨_,_,U,U,U,ar U U T.rN,(sJ (M.aQ ad).fact ae).eN ad.size⟩),ay⟩ ?_)
 intro x fr w ad ab E;have M:=M.jb ad (ab 6 aN).1 (ab 6 aN).2.1;refine Hk (i:=3) E M U U U U U U U U U U T.mC fun fr w M E=>?_;refine cm E<|ah (v:=aa _) 3 U (aE U U T.bc (M.row (i:=1) U) U)<|a1 (y:=dC (S.writes+1)) 0 U U (rfl)<|bj (i:=1) (cs':= #[_,_,_,_,_,_,_]) M 2 U U (cy (v:=_) U U U T.c3 (M.row (i:=1) U) (rfl) (rfl) (rfl)) U fun w M=>aU 1 U fun fr E=>?_;refine bi E U U ?_;have M:=(M.aH 5 rfl).aH 1 rfl;have M:=M.nT.perm (L':=bP av bg lv aq (S.wrote i _ l)) (yu _ _ _ _ _);exact⟨_,U,M.fin (List.Sublist.refl _) trivial⟩
theorem M5{av bg:Nat}{lv aq:Value}{S:di}{w0:World}(H:Has w0 (bP av bg lv aq S))(bJ:S.Ok){j:Nat}{v:Value}{l:List UInt8}(ax:j<S.n)(hp:(v,l)∈S.ps)(aI:l.length<=1024)(aJ:hz S.cache (j:Int)=some v):aY prog 18 [ai av 0,aa (j:Int)] w0 (bP av bg lv aq S) (fun c:Value=>.tuple #[c,aa 0]) (fun c=>.bytes 5 c l::bP av bg lv aq {S with reads:=S.reads.set j (dC ((S.reads[j]'(by rw[bJ.iI];exact ax))+1))}) (fun _=>True):=by
 refine enter (n:=41) func18 U U U ?_;intro fr E;have M:=ht H;refine aV E<|bC (bP av bg lv aq S) M 4 U (ar U U T.qv) U (fun H=>re H bJ j) fun _ w _ M=>fun fr E=>?_;rw[decide_eq_true ae]at E;refine bN E<|ah (v:=.bool _) 0 U U<|ah 4 U (aE U U T.qY (M.row (i:=0) U) U)<|ah 1 U (bL (i:=j) U (M.reads 3 U) U U (rfl) (ax) T.en T.c3)<|ah (v:=aa (S.reads[j]'(by rw[bJ.iI];exact ax))) 0 U (b2 U (M.reads 3 U) U T.bc (by rw[Nat.mul_one];exact kU (by rw[bJ.iI];exact ax)))<|a1 (y:=dC ((S.reads[j]'(by rw[bJ.iI];exact ax))+1)) 0 U U (rfl)<|ah 0 U (bL (i:=j) U (M.reads 3 U) U U (rfl) (ax) T.en T.c3)<|cv 0 U fun fr E=>?_;refine wu (i:=3) (k:=(j*1)) (xs':=fg (S.reads.set j (dC ((S.reads[j]'(by rw[bJ.iI];exact ax))+1)))) E M U U U U U U U U T.c3 ae U (Bo _ _ _) fun fr w M E=>?_;refine cw E<|ah (v:=.map _) 3 U (aE U U T.l7 (M.row (i:=0) U) U)<|ah (v:=.tuple #[v,.bool true]) 1 U (IW (v:=v) (b:=true) U U U T.mC T.DA (M.row (i:=2) U) (by rw[aJ]))<|cP M 8 U (ar U U T.rN) (sJ (b:=v) (l:=l) (M.gr (i:=4) U hp) ae) U fun cl w _ M=>aU 2 U fun fr E=>?_;refine fN E U U U ?_;exact⟨_,U,M.fin (List.Sublist.refl _) trivial⟩
theorem M6{av bg:Nat}{lv aq:Value}{S:di}{w0:World}(H:Has w0 (bP av bg lv aq S))(bJ:S.Ok){j:Nat}{v:Value}{l:List UInt8}(ax:j<S.n)(hp:(v,l)∈S.ps)(aI:l.length<=1024)(aJ:hz S.cache (j:Int)=none)(aD:S.dF[j]? =some v):aY prog 18 [ai av 0,aa (j:Int)] w0 (bP av bg lv aq S) (fun c:Value=>.tuple #[c,aa 0]) (fun c=>.bytes 5 c l::bP av bg lv aq {S with reads:=S.reads.set j (dC ((S.reads[j]'(by rw[bJ.iI];exact ax))+1))}) (fun _=>True):=by
 refine enter (n:=41) func18 U U U ?_;intro fr E;have M:=ht H;refine aV E<|bC (bP av bg lv aq S) M 4 U (ar U U T.qv) U (fun H=>re H bJ j) fun _ w _ M=>fun fr E=>?_;rw[decide_eq_true ae]at E;refine bN E<|ah (v:=.bool _) 0 U U<|ah 4 U (aE U U T.qY (M.row (i:=0) U) U)<|ah 1 U (bL (i:=j) U (M.reads 3 U) U U (rfl) (ax) T.en T.c3)<|ah (v:=aa (S.reads[j]'(by rw[bJ.iI];exact ax))) 0 U (b2 U (M.reads 3 U) U T.bc (by rw[Nat.mul_one];exact kU (by rw[bJ.iI];exact ax)))<|a1 (y:=dC ((S.reads[j]'(by rw[bJ.iI];exact ax))+1)) 0 U U (rfl)<|ah 0 U (bL (i:=j) U (M.reads 3 U) U U (rfl) (ax) T.en T.c3)<|cv 0 U fun fr E=>?_;refine wu (i:=3) (k:=(j*1)) (xs':=fg (S.reads.set j (dC ((S.reads[j]'(by rw[bJ.iI];exact ax))+1)))) E M U U U U U U U U T.c3 ae U (Bo _ _ _) fun fr w M E=>?_;refine cw E<|ah (v:=.map _) 3 U (aE U U T.l7 (M.row (i:=0) U) U)<|ah (v:=.tuple #[.slice none 0 0,.bool false]) 1 U (IW (v:=.slice none 0 0) (b:=false) U U U T.mC T.DA (M.row (i:=2) U) (by rw[aJ]))<|ah 10 U (aE U U T.lu (M.row (i:=0) U) U)<|ah 1 U (bL (i:=j) U (M.reads 1 U) U U (rfl) (ax) T.gN T.gM)<|ah (v:=v) 0 U (b2 U (M.reads 1 U) U T.ec (by rw[Nat.mul_one];exact aD))<|cP M 0 U (ar U U T.rN) (sJ (b:=v) (l:=l) (M.gr (i:=4) U hp) ae) U fun cl w _ M=>aU 2 U fun fr E=>?_;refine fN E U U U ?_;exact⟨_,U,M.fin (List.Sublist.refl _) trivial⟩
end
section
open Go.RowKit Go.a2 Go.Proofs Go.Proofs.Tryz
def pl(ps:List (Value×List UInt8))(i:Nat):List UInt8:=((ps.take i).map (·.2)).flatten
theorem BO{ps:List (Value×List UInt8)}{i:Nat}(h:i<ps.length):pl ps (i+1)=pl ps i++(ps[i]).2:=by
 unfold pl;rw[List.take_succ_eq_append_getElem h,List.map_append,List.flatten_append];simp
theorem tG{ps:List (Value×List UInt8)}{i:Nat}(h:i<ps.length):(pl ps (i+1)).length=(pl ps i).length+(ps[i]).2.length:=by rw[BO h,List.length_append]
theorem Ih{ps:List (Value×List UInt8)}:∀(j i:Nat),i+j<=ps.length->(pl ps i).length<=(pl ps (i+j)).length
 |0,i,_=>Nat.le_refl _
 |j+1,i,h=>Nat.le_trans (Ih j i ae) (by rw[show i+(j+1)=i+j+1 by omega,tG ae];omega)
theorem BN{ps:List (Value×List UInt8)}{i:Nat}(h:i<ps.length):(pl ps (i+1)).length<=(pl ps ps.length).length:=by
 have:=Ih (ps:=ps) (ps.length-(i+1)) (i+1) ae
 rwa [show i+1+(ps.length-(i+1))=ps.length by omega]at this
theorem Mk(w0:World):aY prog 280 [.slice none 0 0,aa 0] w0 [] (fun s:Value=>s) (fun s=>[.bytes 5 s []]) (fun _=>True):=by
 refine enter (n:=27) func280 U U U ?_;intro fr E;have M:=ht (Has.nil w0);refine aV E<|bs 2 U U ae<|ah (v:=aa 0) 3 U (Cc U U U U T.aG)<|ah 1 U (bx U U U U T.aG (Bytes.nil _))<|a1 (y:=0) 0 U U (rfl)<|a1 (y:=0) 0 U U (rfl)<|bs 2 U U ae<|aU 3 U fun fr E=>?_;refine bi E U U ?_;have M:=M.jg 5;exact⟨_,U,M.fin (.refl _) trivial⟩
theorem Ml{m:Nat}{w0:World}(bG:0<m)(au:m<=35184372088832):aY prog 280 [.slice none 0 0,aa (m:Int)] w0 [] (fun s:Value=>s) (fun s=>[.bytes 5 s []]) (fun _=>True):=by
 refine enter (n:=27) func280 U U U ?_;intro fr E;have M:=ht (Has.nil w0);refine aV E<|bs 2 U U ae<|ah (v:=aa 0) 3 U (Cc U U U U T.aG)<|ah 1 U (bx U U U U T.aG (Bytes.nil _))<|a1 (y:=0) 0 U U (rfl)<|a1 (y:=(m:Int)) 0 U U (br (x:=(m:Int)-0) ae ae |>.trans ae)<|bD 2 U U ae<|ah (v:=aa 0) 3 U (Cc U U U U T.aG)<|ah 0 U (ew (lo:=0) (hi:=0) U (Bytes.nil _) U T.aG T.bf (rfl) (⟨_,_,U,U⟩) (Nat.le_refl _) (Nat.le_refl _))<|cv 1 U fun fr E=>?_;refine W1 (m:=m) E M U U U U U U U U U U U T.aG T.Tf T.eh T.rn T.ef bG ae fun z fr w M E=>?_;refine cw E<|ah 1 U (bx U U U U T.aG (Bytes.nil _))<|ah 0 U (ew (lo:=0) (hi:=0) U (M.reads 0 U) U T.aG T.bf U ⟨_,_,U,U⟩ (Nat.le_refl _) (Nat.zero_le _))<|aU 3 U fun fr E=>?_;refine bi E U U ?_;have M:=(M.P0 0 0 rfl (Nat.zero_le _)).as (L':=[.bytes 5 (e2 1 z 0 0) []]) rfl;exact⟨_,U,M.fin (.refl _) trivial⟩
theorem Mm(m:Nat)(w0:World)(au:m<=35184372088832):aY prog 280 [.slice none 0 0,aa (m:Int)] w0 [] (fun s:Value=>s) (fun s=>[.bytes 5 s []]) (fun _=>True):=by
 rcases Nat.eq_zero_or_pos m with rfl|h
 ·exact Mk w0
 ·exact Ml h au
theorem LS{b:Value}{ps:List (Value×List UInt8)}{w0:World}(ap:Reads 1 w0 b ps.length (ps.map (·.1)))(ak:∀p∈ps,Bytes w0 p.1 p.2)(a6:ps.length<=1000)(au:(pl ps ps.length).length<=35184372088832):aY prog 277 [b] w0 [] (fun s:Value=>s) (fun s=>[.bytes 5 s (pl ps ps.length)]) (fun _=>True):=by
 refine enter (n:=36) func277 U U U ?_;intro fr E;have M:=Mem.begin (Φ:=fun w'=>Reads 1 w' b ps.length (ps.map (·.1))/\∀p∈ps,Bytes w' p.1 p.2) (Has.nil w0) (fun w' h=>⟨ap.bU h,fun p hp=>(ak p hp).bU h⟩);refine aV E<|ah 3 U (bx U U U U T.gN M.fact.1)<|bw 1 U fun fr E=>?_;refine cI (fun d fr w=>∃i:Nat,d=ps.length-i/\i<=ps.length/\Env [(11,aa i),(10,aa ps.length),(9,b),(3,aa ((pl ps i).length:Int)),(0,b)] 36 fr/\Mem w0 (aS []) [] (fun w'=>Reads 1 w' b ps.length (ps.map (·.1))/\∀p∈ps,Bytes w' p.1 p.2) w) (ps.length) ?_ ?_
 ·refine⟨0,U,Nat.zero_le _,E.lL [0,3,9,10,11] rfl,M⟩
 ·clear E M;rintro d fr w ⟨i,rfl,hle,E,M⟩;by_cases hi:i<ps.length
  ·have hm:=BN (ps:=ps) hi;refine bA E<|bD 0 U U ae<|ah 1 U (bL (i:=i) U M.fact.1 U U (rfl) (hi) T.gN T.gM)<|ah (v:=(ps[i]).1) 0 U (b2 U M.fact.1 U T.ec (by rw[Nat.mul_one,List.getElem?_map,List.getElem?_eq_getElem hi];rfl))<|ah 3 U (bx U U U U T.aG (M.fact.2 _ (List.getElem_mem hi)))<|a1 (y:=((pl ps (i+1)).length:Int)) 0 U U ((br (by have:=tG hi;omega) (by have:=tG hi;omega)).trans (by have:=tG hi;omega))<|bs 2 U U ae<|a1 (y:=((i+1:Nat):Int)) 1 U U ((br ae ae).trans ae)<|ct 1 U fun fr E=>?_;refine⟨ps.length-(i+1),by omega,i+1,U,by omega,E.lL [0,3,9,10,11] rfl,M⟩
  ·obtain rfl:i=ps.length:=by omega
   refine bA E<|bs 0 U U ae<|cP M 2 U (ar U U T.Q0) (Mm _ _ au) U fun qy w _ M=>ah 2 U (bx U U U U T.gN M.fact.1)<|bw 1 U fun fr E=>?_;refine cI (fun d fr w=>∃(i:Nat) (v:Value),d=ps.length-i/\i<=ps.length/\Env [(27,aa i),(26,aa ps.length),(25,b),(6,v),(0,b)] 36 fr/\Mem w0 (aS []) [.bytes 5 v (pl ps i)] (fun w'=>Reads 1 w' b ps.length (ps.map (·.1))/\∀p∈ps,Bytes w' p.1 p.2) w) (ps.length) ?_ ?_
   ·refine⟨0,qy,U,Nat.zero_le _,E.lL [0,6,25,26,27] rfl,M⟩
   ·clear E M;rintro d fr w ⟨i,v,rfl,hle,E,M⟩;by_cases hi:i<ps.length
    ·have hm:=BN (ps:=ps) hi;have hlen:=tG hi;refine bA E<|bD 0 U U ae<|ah 1 U (bL (i:=i) U M.fact.1 U U (rfl) (hi) T.gN T.gM)<|ah (v:=(ps[i]).1) 0 U (b2 U M.fact.1 U T.ec (by rw[Nat.mul_one,List.getElem?_map,List.getElem?_eq_getElem hi];rfl))<|cv 3 U fun fr E=>?_;refine fX (i:=0) E M U U U U U U U U U U U T.aG T.aG T.eh T.ef (M.fact.2 _ (List.getElem_mem hi)) ae fun v fr w M E=>?_;refine cw E<|a1 (y:=((i+1:Nat):Int)) 1 U U ((br ae ae).trans ae)<|ct 1 U fun fr E=>?_;refine⟨ps.length-(i+1),by omega,i+1,_,U,by omega,E.lL [0,6,25,26,27] rfl,M.as (by rw[BO hi];rfl)⟩
    ·obtain rfl:i=ps.length:=by omega
     refine bA E<|bs 0 U U ae<|aU 3 U fun fr E=>?_;refine bi E U U ?_;exact⟨_,U,M.fin (.refl _) trivial⟩
theorem wJ{b:Value}{l:List UInt8}{w0:World}(ak:Bytes w0 b l)(au:l.length<=35184372088832):aY prog 27 [b] w0 [] (fun s:Value=>s) (fun s=>[.bytes 5 s l]) (fun _=>True):=by
 refine enter (n:=19) func27 U U U ?_;intro fr E;have M:=Mem.begin (Φ:=fun w'=>Bytes w' b l) (Has.nil w0) (fun w' h=>ak.bU h);refine aV E<|bw 3 U fun fr E=>?_;refine cI (fun d fr w=>∃(i:Nat) (o:Value),d=l.length-i/\i<=l.length/\Env [(4,aa i),(3,o),(0,b)] 19 fr/\Mem w0 (aS []) [.bytes 5 o (l.take i)] (fun w'=>Bytes w' b l) w) (l.length) ?_ ?_
 ·have M:=M.jg 5;refine⟨0,_,U,Nat.zero_le _,E.lL [0,3,4] rfl,M⟩
 ·clear E M;rintro d fr w ⟨i,o,rfl,hle,E,M⟩;by_cases hi:i<l.length
  ·refine bA E<|ah 2 U (bx U U U U T.aG M.fact)<|bD 0 U U ae<|ah 4 U (bL (i:=i) U M.fact U U (rfl) (hi) T.aG T.bf)<|ah (v:=ag ((l[i]).toNat:Int)) 0 U (b2 U M.fact U T.cq (by rw[Nat.mul_one];exact gx hi))<|cv 0 U fun fr E=>?_;refine dM (sz:=1) (xs:=ao [l[i]]) E M U U U U U (ev (us:=[_]) (vs:=[_]) U U U T.aG T.bf T.gO U U U U U) (rfl) (Nat.le_refl _) aN (rfl) fun one fr w M E=>?_;refine fX (i:=1) E M U U U U U U U U U U U T.aG T.aG T.eh T.ef (M.reads 0 U) (by simp;omega) fun o fr w M E=>?_;refine cw E<|a1 (y:=((i+1:Nat):Int)) 2 U U ((br ae ae).trans ae)<|ct 1 U fun fr E=>?_;refine⟨l.length-(i+1),by omega,i+1,_,U,by omega,E.lL [0,3,4] rfl,(M.sub (L':=[_]) (.cons _ (.refl _))).as (by rw[List.take_succ_eq_append_getElem hi])⟩
  ·obtain rfl:i=l.length:=by omega
   refine bA E<|ah 2 U (bx U U U U T.aG M.fact)<|bs 0 U U ae<|aU 3 U fun fr E=>?_;refine bi E U U ?_;rw[List.take_length]at M;exact⟨_,U,M.fin (.refl _) trivial⟩
end
section
open Go.RowKit Go.a2 Go.Proofs Go.Proofs.Tryz
abbrev cA(N:dO):az:=az.all (gm 151 299 N)
def j6(n:Int):Prop:=0<=n/\n<=1099511627776
instance(n:Int):Decidable (j6 n):=by unfold j6;infer_instance
def iJ(ks:List cQ)(k:cQ):List cQ:=if k∈ks then ks else ks++[k]
def nU(ks:List cQ)(k:cQ):Nat:=match gy k ks 0 with|some m=>m+1|none=>ks.length+1
def k4(j:Nat):List UInt8:=List.replicate 24 0++aO (j:Int)
def kx(ks:List cQ)(e n:Int)(h p:List UInt8):List UInt8:=if j6 e/\j6 n then p++k4 (nU ks ⟨e,n,h,p⟩)else []
def jS(ks:List cQ)(e n:Int)(h p:List UInt8):List cQ:=if j6 e/\j6 n then iJ ks ⟨e,n,h,p⟩else ks
def nR(ks:List cQ)(e n:Int)(h b:List UInt8):Option (List UInt8):=
 if b.length<32 then none else match gy (⟨e,n,h,b.take (b.length-32)⟩:cQ) ks 0 with
  |none=>none
  |some m=>if b.drop (b.length-32)=k4 (m+1)then some (b.take (b.length-32))else none
theorem DG{a b:Value}{l k:List UInt8}{w0:World}{r:Bool}(bm:Bytes w0 a l)(ak:Bytes w0 b k)(au:l.length<=35184372088832)(h:decide (l=k)=r):bH prog 276 [a,b] w0 (.bool r):=h▸Md bm ak au
theorem wI{b:Value}{ls:List (List UInt8)}{l:List UInt8}{w0:World}(h:mS w0 b ls)(aI:ls.flatten=l)(a6:ls.length<=1000)(au:l.length<=35184372088832):aY prog 277 [b] w0 [] (fun s:Value=>s) (fun s=>[.bytes 5 s l]) (fun _=>True):=by
 subst aI;obtain⟨ps,rfl,an,aB⟩:=h;have e:pl ps ps.length=(ps.map (·.2)).flatten:=by unfold pl;rw[List.take_length]
 have:=LS an aB (by simpa using a6) (by rw[e];exact au)
 rwa [e]at this
theorem TA(ks:List cQ)(k:cQ):((ks++[k]).map cQ.cells).flatten=(ks.map cQ.cells).flatten++k.cells:=by simp
theorem V6(wP:TypeId)(nu:Value)(ks:List cQ)(k:cQ):az.row wP 4 nu (ks.length+1) ((ks.map cQ.cells).flatten++k.cells)=az.row wP 4 nu (ks++[k]).length ((ks++[k]).map cQ.cells).flatten:=by rw[TA,List.length_append];rfl
theorem Ub(w0:World):aY prog 43 [] w0 [] (fun N:dO=>ai N.cO 0) (fun N=>[cA N]) (fun N=>N.ks=[]/\N.b7=[]):=by
 refine enter (n:=5) func43 U U U ?_;intro fr E;have M:=ht (Has.nil w0);refine aV E<|bh (ob:=.map #[] 0) (fun g=>.map (some g)) M 1 U (run_makeMap U) fun gs w M=>bh (ob:=.map #[] 0) (fun g=>.map (some g)) M 0 U (run_makeMap U) fun gt w M=>ah (v:=.agg #[.map (some gs),.slice none 0 0,.map (some gt)]) 0 U (yJ (us:= #[.map (some gs),.slice none 0 0,.map (some gt)]) U U T.ZR T.aaD U)<|bh (ob:=.cells (#[.map (some gs),.slice none 0 0,.map (some gt)]) 151) (fun g=>ai g 0) M 0 U (cS (cs:=(#[.map (some gs),.slice none 0 0,.map (some gt)])) U U) fun aZ w M=>aU 1 U fun fr E=>?_;refine bi E U U ?_;have M:=M.Uo 299 4;have M:=((((M.aH 2 rfl).aH 3 rfl).aH 2 rfl).aH 3 rfl)
 have M:Mem w0 (aS []) (gm 151 299 ⟨aZ,gs,gt,.slice none 0 0,[],[]⟩++[]) (fun _=>True) w:=M;exact⟨⟨aZ,gs,gt,.slice none 0 0,[],[]⟩,U,M.pack.fin (List.Sublist.refl _) ⟨U,U⟩⟩
theorem Np{N:dO}{e n:Int}{h p:Value}{aI pl:List UInt8}{w0:World}(H:Has w0 (gm 151 299 N))(cc:Bytes w0 h aI)(hp:Bytes w0 p pl)(lW:∀g,h.ownBlock=some g->¬aS (gm 151 299 N) g)(kF:∀g,p.ownBlock=some g->¬aS (gm 151 299 N) g)(aj:¬j6 e):aY prog 274 [ai N.cO 0,aa e,aa n,h,p] w0 (gm 151 299 N) (fun x:Value×dO=>x.1) (fun x=>.bytes 5 x.1 []::gm 151 299 x.2) (fun x=>x.2.cO=N.cO/\x.2.ks=N.ks/\x.2.b7=N.b7):=by
 refine enter (n:=67) func274 U U U ?_;intro fr E;have M:=Mem.begin (Φ:=fun w'=>Bytes w' h aI/\Bytes w' p pl) H (fun w' k=>⟨Reads.held cc k lW,Reads.held hp k kF⟩);refine aV E<|bo M 2 U (ar U U T.rL) (sa e _) fun w M=>ah (v:=.bool true) 0 U (by rw[show decide (0<=e/\e<=1099511627776)=false from decide_eq_false aj];rfl)<|ah (v:=.bool _) 4 U U<|aU 2 U fun fr E=>?_;refine bi E U U ?_;have M:=M.jg 5;exact⟨(.slice none 0 0,N),U,M.fin (List.Sublist.refl _) ⟨U,U,U⟩⟩
theorem Nq{N:dO}{e n:Int}{h p:Value}{aI pl:List UInt8}{w0:World}(H:Has w0 (gm 151 299 N))(cc:Bytes w0 h aI)(hp:Bytes w0 p pl)(lW:∀g,h.ownBlock=some g->¬aS (gm 151 299 N) g)(kF:∀g,p.ownBlock=some g->¬aS (gm 151 299 N) g)(aj:j6 e)(an:¬j6 n):aY prog 274 [ai N.cO 0,aa e,aa n,h,p] w0 (gm 151 299 N) (fun x:Value×dO=>x.1) (fun x=>.bytes 5 x.1 []::gm 151 299 x.2) (fun x=>x.2.cO=N.cO/\x.2.ks=N.ks/\x.2.b7=N.b7):=by
 refine enter (n:=67) func274 U U U ?_;intro fr E;have M:=Mem.begin (Φ:=fun w'=>Bytes w' h aI/\Bytes w' p pl) H (fun w' k=>⟨Reads.held cc k lW,Reads.held hp k kF⟩);refine aV E<|bo M 2 U (ar U U T.rL) (sa e _) fun w M=>ah (v:=.bool false) 0 U (by rw[show decide (0<=e/\e<=1099511627776)=true from decide_eq_true aj];rfl)<|bo M 2 U (ar U U T.rL) (sa n _) fun w M=>ah (v:=.bool true) 0 U (by rw[show decide (0<=n/\n<=1099511627776)=false from decide_eq_false an];rfl)<|ah (v:=.bool _) 0 U U<|aU 2 U fun fr E=>?_;refine bi E U U ?_;have M:=M.jg 5;exact⟨(.slice none 0 0,N),U,M.fin (List.Sublist.refl _) ⟨U,U,U⟩⟩
theorem Nr{N:dO}{e n:Int}{h p:Value}{aI pl:List UInt8}{w0:World}(H:Has w0 (gm 151 299 N))(cc:Bytes w0 h aI)(hp:Bytes w0 p pl)(lW:∀g,h.ownBlock=some g->¬aS (gm 151 299 N) g)(kF:∀g,p.ownBlock=some g->¬aS (gm 151 299 N) g)(aj:j6 e)(an:j6 n)(au:pl.length<=1099511627776)(eF:N.ks.length<=1099511627776){m:Nat}(hm:gy (⟨e,n,aI,pl⟩:cQ) N.ks 0=some m):aY prog 274 [ai N.cO 0,aa e,aa n,h,p] w0 (gm 151 299 N) (fun x:Value×dO=>x.1) (fun x=>.bytes 5 x.1 (pl++(List.replicate 24 0++aO ((m+1:Nat):Int)))::gm 151 299 x.2) (fun x=>x.2.cO=N.cO/\x.2.ks=N.ks/\x.2.b7=N.b7):=by
 refine enter (n:=67) func274 U U U ?_;intro fr E;have M:=Mem.begin (Φ:=fun w'=>Bytes w' h aI/\Bytes w' p pl) H (fun w' k=>⟨Reads.held cc k lW,Reads.held hp k kF⟩);refine aV E<|bo M 2 U (ar U U T.rL) (sa e _) fun w M=>ah (v:=.bool false) 0 U (by rw[show decide (0<=e/\e<=1099511627776)=true from decide_eq_true aj];rfl)<|bo M 2 U (ar U U T.rL) (sa n _) fun w M=>ah (v:=.bool false) 0 U (by rw[show decide (0<=n/\n<=1099511627776)=true from decide_eq_true an];rfl)<|ah (v:=.bool _) 0 U U<|ah (v:=iY aI) 4 U (oK U U M.fact.1 T.aG T.oW T.oR)<|ah (v:=iY pl) 1 U (oK U U M.fact.2 T.aG T.oW T.oR)<|ah (v:=.agg ([_,_,_,_]).toArray) 0 U (dl (vs:=[_,_,_,_]) (us:=[_,_,_,_]) U U T.wA T.wF U U U U)<|bh (ob:=.cells #[_,_,_,_] 299) (fun g=>ai g 0) M 0 U (bT U T.Lz) fun aZ w M=>bj (i:=0) (cs':= #[aa e,aa n,iY aI,iY pl]) M 0 U U (dr (vs:= #[_,_,_,_]) U U U T.Cy U (M.row (i:=0) U) U U U) U fun w M=>bw 0 U fun fr E=>?_;refine(dR (B:=T.CW) (Vs:=(.af _:: .af _:: .af (ai _ 0):: .af (.map _):: .af (.agg #[_,_,_,_]):: .af (.tuple #[(aa ((m+1:Nat):Int)),.bool true]):: .af _:: .af ((aa ((m+1:Nat):Int))):: .af (.bool true):: .af ((aa ((m+1:Nat):Int))):: .af (.bool true)::[])) T.Ko E T.mixed T.Kn U (ej.e6 U) ⟨aw U U,
   aw U U,
   aw U U,
   aC U U (fun x w ad ab=>aE U U T.tC ((M.aQ ad).row (i:=1) U) U),
   aC U U (fun x w ad ab=>cW U U T.wT ((M.aQ ad).row (i:=0) U) U),
   aC U U (fun x w ad ab=>v7 (V:=q7) (ks:=N.ks) (k:=(⟨e,n,aI,pl⟩:cQ)) (v:=(aa ((m+1:Nat):Int))) (b:=true) U U U (tA T.tz) T.um ((M.aQ ad).row (i:=3) U) (by rw[hm])),
   aw U U,
   aw U U,
   aw U U,
   aw U U,
   aw U U,ay⟩ ?_)
 intro x fr w ad ab E;have M:=M.ext ad;refine cm E<|ah (v:=.bool _) 1 U U<|bw 1 U fun fr E=>?_;refine(dR (B:=T.CX) (Vs:=(.af _::(.rel fun w v=>Bytes w v (List.replicate 24 0)):: .af _::cV w.heap.size (fun v=>[.bytes 5 v (aO ((m+1:Nat):Int))]) (fun _=>True)::(.rel fun w v=>mS w v [pl,List.replicate 24 0,aO ((m+1:Nat):Int)])::cV w.heap.size (fun v=>[.bytes 5 v (pl++(List.replicate 24 0++aO ((m+1:Nat):Int)))]) (fun _=>True)::cV w.heap.size (fun v=>[.bytes 5 v (pl++(List.replicate 24 0++aO ((m+1:Nat):Int)))]) (fun _=>True)::[])) T.Ks E T.mixed T.Kr U (fH.dF ⟨ay,(fun w w' v ad h=>Reads.ext h ad),ay,cn.df,(fun w w' v ad h=>h.ext ad),cn.df,cn.df,ay⟩) ⟨aw U U,
   h3 U U (fun x w ad ab=>⟨U,U,U,yc (k:=24) U U U U U T.aG T.eh T.rn T.ef aN⟩),
   aw U U,
   cE U U (fun x w ad ab=>⟨_,_,U,U,U,ar U U T.xt,(yl ((m+1:Nat):Int) _).eN ad.size⟩),
   h3 U U (fun x w ad ab=>⟨U,U,U,vU [(p,pl),(x 1,List.replicate 24 0),(x 3,aO ((m+1:Nat):Int))] rfl U U U T.gN T.gM T.p0 U (IF (M.aQ ad).fact.2 (ab 1 U) ((ab 3 U).1.reads 0 U)) U U⟩),
   cE U U (fun x w ad ab=>⟨_,_,U,U,U,ar U U T.xr,(wI (ls:=[pl,List.replicate 24 0,aO ((m+1:Nat):Int)]) (ab 4 U) (by simp) (by simp) (by simp[aO];omega)).eN ad.size⟩),
   jd U U (fun x w ad ab=>⟨_,_,U,U,U,run_assign U U,bd.refl _,ab 5 U⟩),ay⟩ ?_)
 intro x fr w ad ab E;have M:=M.jb ad (ab 6 aN).1 (ab 6 aN).2.1;refine cm E<|aU 0 U fun fr E=>?_;refine bi E U U ?_;have M:=M.aH 5 rfl;have M:=M.aH 5 rfl;have M:=M.aH 5 rfl;have M:=M.aH 5 rfl;have M:=M.aH 4 rfl;exact⟨(_,(⟨N.cO,N.gs,N.gt,N.nu,N.ks,N.b7⟩:dO)),U,Mem.fin (L:=.bytes 5 _ (pl++(List.replicate 24 0++aO ((m+1:Nat):Int)))::gm 151 299 (⟨N.cO,N.gs,N.gt,N.nu,N.ks,N.b7⟩:dO)++_) M (List.sublist_append_left _ _) ⟨U,U,U⟩⟩
theorem No{N:dO}{e n:Int}{h p:Value}{aI pl:List UInt8}{w0:World}(H:Has w0 (gm 151 299 N))(cc:Bytes w0 h aI)(hp:Bytes w0 p pl)(lW:∀g,h.ownBlock=some g->¬aS (gm 151 299 N) g)(kF:∀g,p.ownBlock=some g->¬aS (gm 151 299 N) g)(aj:j6 e)(an:j6 n)(au:pl.length<=1099511627776)(eF:N.ks.length<=1099511627776)(a6:(⟨e,n,aI,pl⟩:cQ)∉N.ks):aY prog 274 [ai N.cO 0,aa e,aa n,h,p] w0 (gm 151 299 N) (fun x:Value×dO=>x.1) (fun x=>.bytes 5 x.1 (pl++(List.replicate 24 0++aO ((N.ks.length+1:Nat):Int)))::gm 151 299 x.2) (fun x=>x.2.cO=N.cO/\x.2.ks=N.ks++[(⟨e,n,aI,pl⟩:cQ)]/\x.2.b7=N.b7):=by
 refine enter (n:=67) func274 U U U ?_;intro fr E;have M:=Mem.begin (Φ:=fun w'=>Bytes w' h aI/\Bytes w' p pl) H (fun w' k=>⟨Reads.held cc k lW,Reads.held hp k kF⟩);refine eU ?_;refine ca E (hT U) fun fr E=>?_;refine eY ?_;refine wp_seq ?_;refine eU ?_;refine cM E fun fr E=>?_;refine yR E M U U U U U (ar U U T.rL) (sa e _) fun fr w M E=>?_;refine ca (v:=.bool false) E (by rw[show decide (0<=e/\e<=1099511627776)=true from decide_eq_true aj];rfl) fun fr E=>?_;refine cM E fun fr E=>?_;refine cM E fun fr E=>?_;refine yR E M U U U U U (ar U U T.rL) (sa n _) fun fr w M E=>?_;refine ca (v:=.bool false) E (by rw[show decide (0<=n/\n<=1099511627776)=true from decide_eq_true an];rfl) fun fr E=>?_;refine ca (v:=.bool _) E (rfl) fun fr E=>?_;refine eY ?_;refine cond_false E U (rfl) ?_;refine wp_skip ?_;refine gV ?_;refine eU ?_;refine cM E fun fr E=>?_;refine cM E fun fr E=>?_;refine cM E fun fr E=>?_;refine ca (v:=iY aI) E (oK U U M.fact.1 T.aG T.oW T.oR) fun fr E=>?_;refine cM E fun fr E=>?_;refine ca (v:=iY pl) E (oK U U M.fact.2 T.aG T.oW T.oR) fun fr E=>?_;refine ca (v:=.agg ([_,_,_,_]).toArray) E (dl (vs:=[_,_,_,_]) (us:=[_,_,_,_]) U U T.wA T.wF U U U U) fun fr E=>?_;refine q9 (ob:=.cells #[_,_,_,_] 299) (fun g=>ai g 0) E M U U U U U (bT U T.Lz) fun aZ fr w M E=>?_;refine sw (i:=0) (cs':= #[aa e,aa n,iY aI,iY pl]) E M U U U U U (dr (vs:= #[_,_,_,_]) U U U T.Cy U (M.row (i:=0) U) U U U) U fun fr w M E=>?_;refine eY ?_;refine wp_seq (dR (B:=T.CW) (Vs:=(.af _:: .af _:: .af (ai _ 0):: .af (.map _):: .af (.agg #[_,_,_,_]):: .af (.tuple #[(aa 0),.bool false]):: .af _:: .af ((aa 0)):: .af (.bool false):: .af ((aa 0)):: .af (.bool false)::[])) T.Ko E T.mixed T.Kn U (ej.e6 U) ⟨aw U U,
   aw U U,
   aw U U,
   aC U U (fun x w ad ab=>aE U U T.tC ((M.aQ ad).row (i:=1) U) U),
   aC U U (fun x w ad ab=>cW U U T.wT ((M.aQ ad).row (i:=0) U) U),
   aC U U (fun x w ad ab=>v7 (V:=q7) (ks:=N.ks) (k:=(⟨e,n,aI,pl⟩:cQ)) (v:=(aa 0)) (b:=false) U U U (tA T.tz) T.um ((M.aQ ad).row (i:=3) U) (by rw[vH a6])),
   aw U U,
   aw U U,
   aw U U,
   aw U U,
   aw U U,ay⟩ ?_)
 intro x fr w ad ab E;have M:=M.ext ad;refine gV ?_;refine wp_seq ?_;refine eU ?_;refine cM E fun fr E=>?_;refine ca (v:=.bool _) E (rfl) fun fr E=>?_;refine eY ?_;refine cond_true E U (rfl) ?_;have M:=M.aH 2 rfl;have M:Mem _ _ ([.row 299 4 N.nu N.ks.length (N.ks.map cQ.cells).flatten]++_) _ _:=M;refine wp_seq (rO (B:=T.Kp) (Vs:=(.af _:: .af _:: .af _:: .af (ai _ 1):: .af _:: .af (.agg #[_,_,_,_])::nq w.heap.size 4 1 (⟨e,n,aI,pl⟩:cQ).cells::cL w.heap.size ([.row 299 4 N.nu N.ks.length (N.ks.map cQ.cells).flatten]) (fun v:Value=>v) ((fun bR:Value=>[az.row 299 4 bR (N.ks++[(⟨e,n,aI,pl⟩:cQ)]).length ((N.ks++[(⟨e,n,aI,pl⟩:cQ)]).map cQ.cells).flatten])) (fun _=>True):: .af _:: .af (ai _ 1)::[])) (fs (ga 7 ([.row 299 4 N.nu N.ks.length (N.ks.map cQ.cells).flatten])) w.drew) T.Y7 10 E T.mixed T.Y6 U U U ?_ ⟨b5 U U M (fun i g h=>h.2),
   b5 U U M (fun i g h=>h.2),
   b5 U U M (fun i g h=>h.2),
   b5 U U M (fun i g h=>h.2),
   bY U U M (fun i g h=>h.2) (fun x w' aA aL ab=>aE U U T.H3 (aA.row (i:=1) U) U),
   bY U U M (fun i g h=>h.2) (fun x w' aA aL ab=>cW U U T.wT (aA.row (i:=0) U) U),
   kK U U M (fun i g h=>h.2) (fun x w' aA aL ab=>⟨U,U,U,Ey (cs:=(⟨e,n,aI,pl⟩:cQ).cells) aL U U U T.yU T.Cy T.aaQ U U U⟩),
   m0 (y:=undef) U (by rw[show(fun bR:Value=>[az.row 299 4 bR (N.ks.length+1) ((N.ks.map cQ.cells).flatten++(⟨e,n,aI,pl⟩:cQ).cells)])=(fun bR:Value=>[az.row 299 4 bR (N.ks++[(⟨e,n,aI,pl⟩:cQ)]).length ((N.ks++[(⟨e,n,aI,pl⟩:cQ)]).map cQ.cells).flatten])from funext fun bR=>by rw[V6]];rfl) M U U U T.yU T.yU T.aaS T.Pz aN (cQ.eX _) ae (fun x w' ab=>⟨U,U,U,U,_,U,(ab 6 U).1⟩),
   b5 U U M (fun i g h=>h.2),
   b5 U U M (fun i g h=>h.2),ay⟩ ?_)
 ·exact hJ U ((aK (aK (aK (aK (aK (aK (jq (cJ.oD (fun g h=>M.gA g h)) (fK U cJ.fJ (aK (aK hH)))))))))))
 intro x fr w ⟨b,ak,cX⟩ ab E;obtain⟨zJ,bn, -,M⟩:=M.behind (val:=fun v:Value=>v) (outs:=(fun bR:Value=>[az.row 299 4 bR (N.ks++[(⟨e,n,aI,pl⟩:cQ)]).length ((N.ks++[(⟨e,n,aI,pl⟩:cQ)]).map cQ.cells).flatten])) (p:=fun _=>True) cX (ab 7 aN);have E:=Env.gD (t:=47) E rfl bn;refine iq (i:=2) (cs':= #[.map (some N.gs),zJ,.map (some N.gt)]) E M U U U U U U (cy (v:=_) U U U T.Xg (M.row (i:=2) U) (rfl) (Reads.one (M.reads 0 U)) (rfl)) U fun fr w M E=>?_;refine gV ?_
 skip
 refine eU ?_;refine cM E fun fr E=>?_;refine ca E (ng U U) fun fr E=>?_;refine ca (v:=ai _ 1) E (mH U U T.Qj) fun fr E=>?_;refine ca E (aE U U T.H3 (M.row (i:=2) U) U) fun fr E=>?_;refine ca (v:=aa ((N.ks.length+1:Nat):Int)) E ((bx U U U U T.yU (M.reads 0 U)).trans (by rw[List.length_append];rfl)) fun fr E=>?_;refine iF E fun fr E=>?_;refine eY ?_;refine(ii (B:=T.Kq) (Vs:=(.af _:: .af _:: .af (ai _ 0):: .af (.map _):: .af (.agg #[_,_,_,_]):: .af _::[])) T.Y9 6 E T.mixed T.Y8 U U U (ej.e6 U) ⟨aw U U,
   aw U U,
   aw U U,
   aC U U (fun x w ad ab=>aE U U T.tC ((M.aQ ad).row (i:=2) U) U),
   aC U U (fun x w ad ab=>cW U U T.wT ((M.aQ ad).row (i:=1) U) U),
   aw U U,ay⟩ ?_)
 intro x fr w ad ab E;have M:=M.ext ad;refine TD (i:=3) (V:=q7) (k:=(⟨e,n,aI,pl⟩:cQ)) E M U U U U U U U U U U (tA T.tz) a6 U fun fr w M E=>?_;refine gV ?_;refine wp_seq (dR (B:=T.CX) (Vs:=(.af _::(.rel fun w v=>Bytes w v (List.replicate 24 0)):: .af _::cV w.heap.size (fun v=>[.bytes 5 v (aO ((N.ks.length+1:Nat):Int))]) (fun _=>True)::(.rel fun w v=>mS w v [pl,List.replicate 24 0,aO ((N.ks.length+1:Nat):Int)])::cV w.heap.size (fun v=>[.bytes 5 v (pl++(List.replicate 24 0++aO ((N.ks.length+1:Nat):Int)))]) (fun _=>True)::cV w.heap.size (fun v=>[.bytes 5 v (pl++(List.replicate 24 0++aO ((N.ks.length+1:Nat):Int)))]) (fun _=>True)::[])) T.Ks E T.mixed T.Kr U (fH.dF ⟨ay,(fun w w' v ad h=>Reads.ext h ad),ay,cn.df,(fun w w' v ad h=>h.ext ad),cn.df,cn.df,ay⟩) ⟨aw U U,
   h3 U U (fun x w ad ab=>⟨U,U,U,yc (k:=24) U U U U U T.aG T.eh T.rn T.ef aN⟩),
   aw U U,
   cE U U (fun x w ad ab=>⟨_,_,U,U,U,ar U U T.xt,(yl ((N.ks.length+1:Nat):Int) _).eN ad.size⟩),
   h3 U U (fun x w ad ab=>⟨U,U,U,vU [(p,pl),(x 1,List.replicate 24 0),(x 3,aO ((N.ks.length+1:Nat):Int))] rfl U U U T.gN T.gM T.p0 U (IF (M.aQ ad).fact.2 (ab 1 U) ((ab 3 U).1.reads 0 U)) U U⟩),
   cE U U (fun x w ad ab=>⟨_,_,U,U,U,ar U U T.xr,(wI (ls:=[pl,List.replicate 24 0,aO ((N.ks.length+1:Nat):Int)]) (ab 4 U) (by simp) (by simp) (by simp[aO];omega)).eN ad.size⟩),
   jd U U (fun x w ad ab=>⟨_,_,U,U,U,run_assign U U,bd.refl _,ab 5 U⟩),ay⟩ ?_)
 intro x fr w ad ab E;have M:=M.jb ad (ab 6 aN).1 (ab 6 aN).2.1;refine gV ?_;refine wp_ret ?_;refine bi E U U ?_;have M:=M.aH 5 rfl;have M:=M.aH 5 rfl;have M:=M.aH 3 rfl;have M:=M.aH 5 rfl;have M:=M.aH 4 rfl;exact⟨(_,(⟨N.cO,N.gs,N.gt,zJ,N.ks++[(⟨e,n,aI,pl⟩:cQ)],N.b7⟩:dO)),U,Mem.fin (L:=.bytes 5 _ (pl++(List.replicate 24 0++aO ((N.ks.length+1:Nat):Int)))::gm 151 299 (⟨N.cO,N.gs,N.gt,zJ,N.ks++[(⟨e,n,aI,pl⟩:cQ)],N.b7⟩:dO)++_) M (List.sublist_append_left _ _) ⟨U,U,U⟩⟩
theorem Nt{N:dO}{e n:Int}{h p:Value}{aI pl:List UInt8}{w0:World}(H:Has w0 (gm 151 299 N))(cc:Bytes w0 h aI)(hp:Bytes w0 p pl)(lW:∀g,h.ownBlock=some g->¬aS (gm 151 299 N) g)(kF:∀g,p.ownBlock=some g->¬aS (gm 151 299 N) g)(au:pl.length<=1099511627776)(eF:N.ks.length<=1099511627776):aY prog 274 [ai N.cO 0,aa e,aa n,h,p] w0 (gm 151 299 N) (fun x:Value×dO=>x.1) (fun x=>.bytes 5 x.1 (kx N.ks e n aI pl)::gm 151 299 x.2) (fun x=>x.2.cO=N.cO/\x.2.ks=jS N.ks e n aI pl/\x.2.b7=N.b7):=by
 by_cases aj:j6 e
 ·by_cases an:j6 n
  ·have cz:jS N.ks e n aI pl=iJ N.ks ⟨e,n,aI,pl⟩:=if_pos ⟨aj,an⟩;have c6:kx N.ks e n aI pl=pl++k4 (nU N.ks ⟨e,n,aI,pl⟩):=if_pos ⟨aj,an⟩;rw[cz,c6];by_cases ab:(⟨e,n,aI,pl⟩:cQ)∈N.ks
   ·obtain⟨m,hm⟩:=HG ab;have ih:iJ N.ks ⟨e,n,aI,pl⟩=N.ks:=if_pos ab;have kJ:nU N.ks ⟨e,n,aI,pl⟩=m+1:=by unfold nU;rw[hm]
    rw[ih,kJ];exact Nr H cc hp lW kF aj an au eF hm
   ·have ih:iJ N.ks ⟨e,n,aI,pl⟩=N.ks++[⟨e,n,aI,pl⟩]:=if_neg ab;have kJ:nU N.ks ⟨e,n,aI,pl⟩=N.ks.length+1:=by unfold nU;rw[vH ab]
    rw[ih,kJ];exact No H cc hp lW kF aj an au eF ab
  ·have cz:jS N.ks e n aI pl=N.ks:=if_neg fun c=>an c.2;have c6:kx N.ks e n aI pl=[]:=if_neg fun c=>an c.2;rw[cz,c6];exact Nq H cc hp lW kF aj an
 ·have cz:jS N.ks e n aI pl=N.ks:=if_neg fun c=>aj c.1;have c6:kx N.ks e n aI pl=[]:=if_neg fun c=>aj c.1;rw[cz,c6];exact Np H cc hp lW kF aj
theorem Ns{N:dO}{e n:Int}{h p:Value}{aI pl:List UInt8}{w0:World}(H:Has w0 [cA N])(cc:Bytes w0 h aI)(hp:Bytes w0 p pl)(lW:∀g,h.ownBlock=some g->g∉(cA N).et)(kF:∀g,p.ownBlock=some g->g∉(cA N).et)(au:pl.length<=1099511627776)(eF:N.ks.length<=1099511627776):
  aY prog 274 [ai N.cO 0,aa e,aa n,h,p] w0 [cA N] (fun x:Value×dO=>x.1) (fun x=>[.bytes 5 x.1 (kx N.ks e n aI pl)]++[cA x.2]) (fun x=>x.2.cO=N.cO/\x.2.ks=jS N.ks e n aI pl/\x.2.b7=N.b7):=
 aY.packed (B:=fun x:Value×dO=>[.bytes 5 x.1 (kx N.ks e n aI pl)]) (C:=fun x=>gm 151 299 x.2) (fun c4=>Nt c4 cc hp (fun g al c=>lW g al (az.kq.2 c)) (fun g al c=>kF g al (az.kq.2 c)) au eF) H fun x ad=>⟨x,rfl,rfl,ad⟩
theorem MM{N:dO}{e n:Int}{h b:Value}{aI bl:List UInt8}{w0:World}(H:Has w0 (gm 151 299 N))(cc:Bytes w0 h aI)(ak:Bytes w0 b bl)(au:bl.length<=1099511627776)(aP:bl.length<32):bH prog 273 [ai N.cO 0,aa e,aa n,h,b] w0 (.tuple #[.slice none 0 0,.bool false]):=by
 refine enter (n:=58) func273 U U U ?_;intro fr E;have M:=Mem.begin (Φ:=fun w'=>Has w' (gm 151 299 N)/\Bytes w' h aI/\Bytes w' b bl) (Has.nil w0) (fun w' hw=>⟨H.held hw fun g al c=>gQ c,cc.bU hw,ak.bU hw⟩);refine aV E<|ah 3 U (bx U U U U T.aG M.fact.2.2)<|bD 0 U U ae<|aU 3 U fun fr E=>?_;refine fN E U U U ?_;exact bX M
theorem MK{N:dO}{e n:Int}{h b:Value}{aI bl:List UInt8}{w0:World}(H:Has w0 (gm 151 299 N))(cc:Bytes w0 h aI)(ak:Bytes w0 b bl)(au:bl.length<=1099511627776)(aP:¬bl.length<32)(hm:gy (⟨e,n,aI,bl.take (bl.length-32)⟩:cQ) N.ks 0=none):bH prog 273 [ai N.cO 0,aa e,aa n,h,b] w0 (.tuple #[.slice none 0 0,.bool false]):=by
 refine enter (n:=58) func273 U U U ?_;intro fr E;have M:=Mem.begin (Φ:=fun w'=>Has w' (gm 151 299 N)/\Bytes w' h aI/\Bytes w' b bl) (Has.nil w0) (fun w' hw=>⟨H.held hw fun g al c=>gQ c,cc.bU hw,ak.bU hw⟩);refine aV E<|ah 3 U (bx U U U U T.aG M.fact.2.2)<|bs 0 U U ae<|bw 1 U fun fr E=>?_;refine(dR (B:=T.y2) (Vs:=(.af _:: .af _:: .af (aa _):: .af (.int _ (((bl.length-32:Nat):Int))):: .af _:: .af _:: .af _:: .af (aa _):: .af (.int _ (((bl.length-32:Nat):Int))):: .af _:: .af _:: .af _::[])) T.CR E T.mixed T.CQ U (ej.e6 U) ⟨aw U U,
   aw U U,
   aC U U (fun x w ad ab=>bx U U U U T.aG (M.aQ ad).fact.2.2),
   aC U U (fun x w ad ab=>num U ((br ae ae).trans ae)),
   aC U U (fun x w ad ab=>ew (lo:=0) (hi:=(bl.length-32)) U (M.aQ ad).fact.2.2 U T.aG T.bf (rfl) (⟨_,_,U,U⟩) (Nat.zero_le _) (Nat.sub_le _ _)),
   aw U U,
   aw U U,
   aC U U (fun x w ad ab=>bx U U U U T.aG (M.aQ ad).fact.2.2),
   aC U U (fun x w ad ab=>num U ((br ae ae).trans ae)),
   aC U U (fun x w ad ab=>ew (lo:=(bl.length-32)) (hi:=bl.length) U (M.aQ ad).fact.2.2 U T.aG T.bf (⟨_,_,U,U⟩) (rfl) (Nat.sub_le _ _) (Nat.le_refl _)),
   aw U U,
   aw U U,ay⟩ ?_)
 intro x fr w ad ab E;have M:=M.ext ad;refine cm E<|bw 0 U fun fr E=>?_;refine(dR (B:=T.y3) (Vs:=(.af _:: .af _:: .af (ai _ 0):: .af (.map _):: .af _:: .af _:: .af _:: .af (iY aI):: .af _:: .af (iY (bl.take (bl.length-32))):: .af (.agg ([_,_,_,_]).toArray):: .af (.tuple #[(aa 0),.bool false]):: .af _:: .af ((aa 0)):: .af (.bool false):: .af ((aa 0)):: .af (.bool false)::[])) T.CT E T.mixed T.CS U (ej.e6 U) ⟨aw U U,
   aw U U,
   aw U U,
   aC U U (fun x w ad ab=>aE U U T.tC ((M.aQ ad).fact.1.dG 0 U) U),
   aw U U,
   aw U U,
   aw U U,
   aC U U (fun x w ad ab=>oK U U (M.aQ ad).fact.2.1 T.aG T.oW T.oR),
   aw U U,
   aC U U (fun x w ad ab=>oK U U (Bytes.pre (k:=bl.length-32) (M.aQ ad).fact.2.2 (Nat.sub_le _ _)) T.aG T.oW T.oR),
   aC U U (fun x w ad ab=>dl (vs:=[_,_,_,_]) (us:=[_,_,_,_]) U U T.wA T.wF U U U U),
   aC U U (fun x w ad ab=>v7 (V:=q7) (ks:=N.ks) (k:=(⟨e,n,aI,bl.take (bl.length-32)⟩:cQ)) (v:=(aa 0)) (b:=false) U U U (tA T.tz) T.um ((M.aQ ad).fact.1.dG 2 U) (by rw[hm])),
   aw U U,
   aw U U,
   aw U U,
   aw U U,
   aw U U,ay⟩ ?_)
 intro x fr w ad ab E;have M:=M.ext ad;refine cm E<|bw 0 U fun fr E=>?_;refine(dR (B:=T.y4) (Vs:=(.af _:: .af (.bool _):: .af _:: .af undef:: .af undef:: .af undef:: .af undef:: .af undef:: .af undef:: .af undef:: .af undef:: .af (.bool _)::[])) T.CV E T.mixed T.CU U (ej.e6 U) ⟨aw U U,
   aC U U (fun x w ad ab=>rfl),
   aw U U,
   lj U U (fun x=>⟨U,U⟩),
   lj U U (fun x=>⟨U,U⟩),
   lj U U (fun x=>⟨U,U⟩),
   lj U U (fun x=>⟨U,U⟩),
   lj U U (fun x=>⟨U,U⟩),
   lj U U (fun x=>⟨U,U⟩),
   lj U U (fun x=>⟨U,U⟩),
   lj U U (fun x=>⟨U,U⟩),
   aC U U (fun x w ad ab=>rfl),ay⟩ ?_)
 intro x fr w ad ab E;have M:=M.ext ad;refine cm E<|aU 3 U fun fr E=>?_;refine fN E U U U ?_;exact bX M
theorem MI{N:dO}{e n:Int}{h b:Value}{aI bl:List UInt8}{w0:World}(H:Has w0 (gm 151 299 N))(cc:Bytes w0 h aI)(ak:Bytes w0 b bl)(au:bl.length<=1099511627776)(aP:¬bl.length<32){m:Nat}(hm:gy (⟨e,n,aI,bl.take (bl.length-32)⟩:cQ) N.ks 0=some m)(eF:N.ks.length<=1099511627776)(aM:¬bl.drop (bl.length-32)=(k4 (m+1))):bH prog 273 [ai N.cO 0,aa e,aa n,h,b] w0 (.tuple #[.slice none 0 0,.bool false]):=by
 refine enter (n:=58) func273 U U U ?_;intro fr E;have M:=Mem.begin (Φ:=fun w'=>Has w' (gm 151 299 N)/\Bytes w' h aI/\Bytes w' b bl) (Has.nil w0) (fun w' hw=>⟨H.held hw fun g al c=>gQ c,cc.bU hw,ak.bU hw⟩);refine aV E<|ah 3 U (bx U U U U T.aG M.fact.2.2)<|bs 0 U U ae<|bw 1 U fun fr E=>?_;refine(dR (B:=T.y2) (Vs:=(.af _:: .af _:: .af (aa _):: .af (.int _ (((bl.length-32:Nat):Int))):: .af _:: .af _:: .af _:: .af (aa _):: .af (.int _ (((bl.length-32:Nat):Int))):: .af _:: .af _:: .af _::[])) T.CR E T.mixed T.CQ U (ej.e6 U) ⟨aw U U,
   aw U U,
   aC U U (fun x w ad ab=>bx U U U U T.aG (M.aQ ad).fact.2.2),
   aC U U (fun x w ad ab=>num U ((br ae ae).trans ae)),
   aC U U (fun x w ad ab=>ew (lo:=0) (hi:=(bl.length-32)) U (M.aQ ad).fact.2.2 U T.aG T.bf (rfl) (⟨_,_,U,U⟩) (Nat.zero_le _) (Nat.sub_le _ _)),
   aw U U,
   aw U U,
   aC U U (fun x w ad ab=>bx U U U U T.aG (M.aQ ad).fact.2.2),
   aC U U (fun x w ad ab=>num U ((br ae ae).trans ae)),
   aC U U (fun x w ad ab=>ew (lo:=(bl.length-32)) (hi:=bl.length) U (M.aQ ad).fact.2.2 U T.aG T.bf (⟨_,_,U,U⟩) (rfl) (Nat.sub_le _ _) (Nat.le_refl _)),
   aw U U,
   aw U U,ay⟩ ?_)
 intro x fr w ad ab E;have M:=M.ext ad;refine cm E<|bw 0 U fun fr E=>?_;refine(dR (B:=T.y3) (Vs:=(.af _:: .af _:: .af (ai _ 0):: .af (.map _):: .af _:: .af _:: .af _:: .af (iY aI):: .af _:: .af (iY (bl.take (bl.length-32))):: .af (.agg ([_,_,_,_]).toArray):: .af (.tuple #[(aa ((m+1:Nat):Int)),.bool true]):: .af _:: .af ((aa ((m+1:Nat):Int))):: .af (.bool true):: .af ((aa ((m+1:Nat):Int))):: .af (.bool true)::[])) T.CT E T.mixed T.CS U (ej.e6 U) ⟨aw U U,
   aw U U,
   aw U U,
   aC U U (fun x w ad ab=>aE U U T.tC ((M.aQ ad).fact.1.dG 0 U) U),
   aw U U,
   aw U U,
   aw U U,
   aC U U (fun x w ad ab=>oK U U (M.aQ ad).fact.2.1 T.aG T.oW T.oR),
   aw U U,
   aC U U (fun x w ad ab=>oK U U (Bytes.pre (k:=bl.length-32) (M.aQ ad).fact.2.2 (Nat.sub_le _ _)) T.aG T.oW T.oR),
   aC U U (fun x w ad ab=>dl (vs:=[_,_,_,_]) (us:=[_,_,_,_]) U U T.wA T.wF U U U U),
   aC U U (fun x w ad ab=>v7 (V:=q7) (ks:=N.ks) (k:=(⟨e,n,aI,bl.take (bl.length-32)⟩:cQ)) (v:=(aa ((m+1:Nat):Int))) (b:=true) U U U (tA T.tz) T.um ((M.aQ ad).fact.1.dG 2 U) (by rw[hm])),
   aw U U,
   aw U U,
   aw U U,
   aw U U,
   aw U U,ay⟩ ?_)
 intro x fr w ad ab E;have M:=M.ext ad;refine cm E<|bw 0 U fun fr E=>?_;refine(dR (B:=T.y4) (Vs:=(.af _:: .af (.bool _):: .af _:: .af _::(.rel fun w v=>Bytes w v (List.replicate 24 0)):: .af _::cV w.heap.size (fun v=>[.bytes 5 v (aO ((m+1:Nat):Int))]) (fun _=>True)::(.rel fun w v=>mS w v [List.replicate 24 0,aO ((m+1:Nat):Int)])::cV w.heap.size (fun v=>[.bytes 5 v (k4 (m+1))]) (fun _=>True):: .af (.bool false):: .af (.bool _):: .af (.bool _)::[])) T.CV E T.mixed T.CU U (fH.dF ⟨ay,ay,ay,ay,(fun w w' v ad h=>Reads.ext h ad),ay,cn.df,(fun w w' v ad h=>h.ext ad),cn.df,ay,ay,ay,ay⟩) ⟨aw U U,
   aC U U (fun x w ad ab=>rfl),
   aw U U,
   aw U U,
   h3 U U (fun x w ad ab=>⟨U,U,U,yc (k:=24) U U U U U T.aG T.eh T.rn T.ef aN⟩),
   aw U U,
   cE U U (fun x w ad ab=>⟨_,_,U,U,U,ar U U T.xt,(yl ((m+1:Nat):Int) _).eN ad.size⟩),
   h3 U U (fun x w ad ab=>⟨U,U,U,vU [(x 4,List.replicate 24 0),(x 6,aO ((m+1:Nat):Int))] rfl U U U T.gN T.gM T.p0 U (B9 (ab 4 U) ((ab 6 U).1.reads 0 U)) U U⟩),
   cE U U (fun x w ad ab=>⟨_,_,U,U,U,ar U U T.xr,(wI (ls:=[List.replicate 24 0,aO ((m+1:Nat):Int)]) (ab 7 U) (by simp[k4]) (by simp) (by simp[k4,aO])).eN ad.size⟩),
   cE U U (fun x w ad ab=>⟨_,_,U,U,U,ar U U T.FP,(DG (r:=false) (Bytes.oT (k:=bl.length-32) (M.aQ ad).fact.2.2 (Nat.sub_le _ _)) ((ab 8 U).1.reads 0 U) (by simp;omega) (decide_eq_false aM)).ext⟩),
   aC U U (fun x w ad ab=>rfl),
   aC U U (fun x w ad ab=>rfl),ay⟩ ?_)
 intro x fr w ad ab E;have M:=M.ext ad;refine cm E<|aU 3 U fun fr E=>?_;refine fN E U U U ?_;exact bX M
theorem ML{N:dO}{e n:Int}{h b:Value}{aI bl:List UInt8}{w0:World}(H:Has w0 (gm 151 299 N))(cc:Bytes w0 h aI)(ak:Bytes w0 b bl)(au:bl.length<=1099511627776)(aP:¬bl.length<32){m:Nat}(hm:gy (⟨e,n,aI,bl.take (bl.length-32)⟩:cQ) N.ks 0=some m)(eF:N.ks.length<=1099511627776)(aM:bl.drop (bl.length-32)=(k4 (m+1))):aY prog 273 [ai N.cO 0,aa e,aa n,h,b] w0 [] (fun c:Value=>.tuple #[c,.bool true]) (fun c=>[.bytes 5 c (bl.take (bl.length-32))]) (fun _=>True):=by
 refine enter (n:=58) func273 U U U ?_;intro fr E;have M:=Mem.begin (Φ:=fun w'=>Has w' (gm 151 299 N)/\Bytes w' h aI/\Bytes w' b bl) (Has.nil w0) (fun w' hw=>⟨H.held hw fun g al c=>gQ c,cc.bU hw,ak.bU hw⟩);refine aV E<|ah 3 U (bx U U U U T.aG M.fact.2.2)<|bs 0 U U ae<|bw 1 U fun fr E=>?_;refine(dR (B:=T.y2) (Vs:=(.af _:: .af _:: .af (aa _):: .af (.int _ (((bl.length-32:Nat):Int))):: .af _:: .af _:: .af _:: .af (aa _):: .af (.int _ (((bl.length-32:Nat):Int))):: .af _:: .af _:: .af _::[])) T.CR E T.mixed T.CQ U (ej.e6 U) ⟨aw U U,
   aw U U,
   aC U U (fun x w ad ab=>bx U U U U T.aG (M.aQ ad).fact.2.2),
   aC U U (fun x w ad ab=>num U ((br ae ae).trans ae)),
   aC U U (fun x w ad ab=>ew (lo:=0) (hi:=(bl.length-32)) U (M.aQ ad).fact.2.2 U T.aG T.bf (rfl) (⟨_,_,U,U⟩) (Nat.zero_le _) (Nat.sub_le _ _)),
   aw U U,
   aw U U,
   aC U U (fun x w ad ab=>bx U U U U T.aG (M.aQ ad).fact.2.2),
   aC U U (fun x w ad ab=>num U ((br ae ae).trans ae)),
   aC U U (fun x w ad ab=>ew (lo:=(bl.length-32)) (hi:=bl.length) U (M.aQ ad).fact.2.2 U T.aG T.bf (⟨_,_,U,U⟩) (rfl) (Nat.sub_le _ _) (Nat.le_refl _)),
   aw U U,
   aw U U,ay⟩ ?_)
 intro x fr w ad ab E;have M:=M.ext ad;refine cm E<|bw 0 U fun fr E=>?_;refine(dR (B:=T.y3) (Vs:=(.af _:: .af _:: .af (ai _ 0):: .af (.map _):: .af _:: .af _:: .af _:: .af (iY aI):: .af _:: .af (iY (bl.take (bl.length-32))):: .af (.agg ([_,_,_,_]).toArray):: .af (.tuple #[(aa ((m+1:Nat):Int)),.bool true]):: .af _:: .af ((aa ((m+1:Nat):Int))):: .af (.bool true):: .af ((aa ((m+1:Nat):Int))):: .af (.bool true)::[])) T.CT E T.mixed T.CS U (ej.e6 U) ⟨aw U U,
   aw U U,
   aw U U,
   aC U U (fun x w ad ab=>aE U U T.tC ((M.aQ ad).fact.1.dG 0 U) U),
   aw U U,
   aw U U,
   aw U U,
   aC U U (fun x w ad ab=>oK U U (M.aQ ad).fact.2.1 T.aG T.oW T.oR),
   aw U U,
   aC U U (fun x w ad ab=>oK U U (Bytes.pre (k:=bl.length-32) (M.aQ ad).fact.2.2 (Nat.sub_le _ _)) T.aG T.oW T.oR),
   aC U U (fun x w ad ab=>dl (vs:=[_,_,_,_]) (us:=[_,_,_,_]) U U T.wA T.wF U U U U),
   aC U U (fun x w ad ab=>v7 (V:=q7) (ks:=N.ks) (k:=(⟨e,n,aI,bl.take (bl.length-32)⟩:cQ)) (v:=(aa ((m+1:Nat):Int))) (b:=true) U U U (tA T.tz) T.um ((M.aQ ad).fact.1.dG 2 U) (by rw[hm])),
   aw U U,
   aw U U,
   aw U U,
   aw U U,
   aw U U,ay⟩ ?_)
 intro x fr w ad ab E;have M:=M.ext ad;refine cm E<|bw 0 U fun fr E=>?_;refine(dR (B:=T.y4) (Vs:=(.af _:: .af (.bool _):: .af _:: .af _::(.rel fun w v=>Bytes w v (List.replicate 24 0)):: .af _::cV w.heap.size (fun v=>[.bytes 5 v (aO ((m+1:Nat):Int))]) (fun _=>True)::(.rel fun w v=>mS w v [List.replicate 24 0,aO ((m+1:Nat):Int)])::cV w.heap.size (fun v=>[.bytes 5 v (k4 (m+1))]) (fun _=>True):: .af (.bool true):: .af (.bool _):: .af (.bool _)::[])) T.CV E T.mixed T.CU U (fH.dF ⟨ay,ay,ay,ay,(fun w w' v ad h=>Reads.ext h ad),ay,cn.df,(fun w w' v ad h=>h.ext ad),cn.df,ay,ay,ay,ay⟩) ⟨aw U U,
   aC U U (fun x w ad ab=>rfl),
   aw U U,
   aw U U,
   h3 U U (fun x w ad ab=>⟨U,U,U,yc (k:=24) U U U U U T.aG T.eh T.rn T.ef aN⟩),
   aw U U,
   cE U U (fun x w ad ab=>⟨_,_,U,U,U,ar U U T.xt,(yl ((m+1:Nat):Int) _).eN ad.size⟩),
   h3 U U (fun x w ad ab=>⟨U,U,U,vU [(x 4,List.replicate 24 0),(x 6,aO ((m+1:Nat):Int))] rfl U U U T.gN T.gM T.p0 U (B9 (ab 4 U) ((ab 6 U).1.reads 0 U)) U U⟩),
   cE U U (fun x w ad ab=>⟨_,_,U,U,U,ar U U T.xr,(wI (ls:=[List.replicate 24 0,aO ((m+1:Nat):Int)]) (ab 7 U) (by simp[k4]) (by simp) (by simp[k4,aO])).eN ad.size⟩),
   cE U U (fun x w ad ab=>⟨_,_,U,U,U,ar U U T.FP,(DG (r:=true) (Bytes.oT (k:=bl.length-32) (M.aQ ad).fact.2.2 (Nat.sub_le _ _)) ((ab 8 U).1.reads 0 U) (by simp;omega) (decide_eq_true aM)).ext⟩),
   aC U U (fun x w ad ab=>rfl),
   aC U U (fun x w ad ab=>rfl),ay⟩ ?_)
 intro x fr w ad ab E;have M:=M.ext ad;refine cm E<|cP M 2 U (ar U U T.rN) (sJ (Bytes.pre (k:=bl.length-32) M.fact.2.2 (Nat.sub_le _ _)) (by simp;omega)) U fun c w _ M=>aU 2 U fun fr E=>?_;refine fN E U U U ?_;exact⟨_,U,M.fin (.refl _) trivial⟩
theorem MJ{N:dO}{e n:Int}{h b:Value}{aI bl:List UInt8}{w0:World}(H:Has w0 [cA N])(cc:Bytes w0 h aI)(ak:Bytes w0 b bl)(au:bl.length<=1099511627776)(eF:N.ks.length<=1099511627776)(aF:nR N.ks e n aI bl=none):bH prog 273 [ai N.cO 0,aa e,aa n,h,b] w0 (.tuple #[.slice none 0 0,.bool false]):=by
 have H:=H.hL;by_cases aP:bl.length<32
 ·exact MM H cc ak au aP
 ·unfold nR at aF;rw[if_neg aP]at aF;cases hm:gy (⟨e,n,aI,bl.take (bl.length-32)⟩:cQ) N.ks 0 with
  |none=>exact MK H cc ak au aP hm
  |some m=>
   rw[hm]at aF;simp only at aF;split at aF
   ·cases aF
   ·rename_i aM;exact MI H cc ak au aP hm eF aM
theorem MN{N:dO}{e n:Int}{h b:Value}{aI bl q:List UInt8}{w0:World}(H:Has w0 [cA N])(cc:Bytes w0 h aI)(ak:Bytes w0 b bl)(au:bl.length<=1099511627776)(eF:N.ks.length<=1099511627776)(aF:nR N.ks e n aI bl=some q):aY prog 273 [ai N.cO 0,aa e,aa n,h,b] w0 [] (fun c:Value=>.tuple #[c,.bool true]) (fun c=>[.bytes 5 c q]) (fun _=>True):=by
 have H:=H.hL;by_cases aP:bl.length<32
 ·unfold nR at aF;rw[if_pos aP]at aF;cases aF
 ·unfold nR at aF;rw[if_neg aP]at aF;cases hm:gy (⟨e,n,aI,bl.take (bl.length-32)⟩:cQ) N.ks 0 with
  |none=>rw[hm]at aF;cases aF
  |some m=>
   rw[hm]at aF;simp only at aF;split at aF
   ·rename_i aM;injection aF with aF;subst aF;exact ML H cc ak au aP hm eF aM
   ·cases aF
end
section
open Go.RowKit Go.a2 Go.Proofs Go.Proofs.Tryz
def dA(kd at':Int):List UInt8:=[UInt8.ofInt kd]++aO at'
def hD(ks:List cQ)(kd e n at':Int)(pl:List UInt8):List UInt8:=[UInt8.ofInt kd]++aO e++aO n++kx ks e n (dA kd at') pl
theorem I2(ks:List cQ)(e n:Int)(h p:List UInt8):(kx ks e n h p).length<=p.length+32:=by
 unfold kx;split
 ·simp[k4,aO]
 ·simp
theorem oI{e n a:Int}{w0:World}(r:Bool)(h:decide (gZ e n a)=r):bH prog 153 [aa e,aa n,aa a] w0 (.bool r):=h▸V2 e n a w0
theorem WL{N:dO}{kd e n at':Int}{p:Value}{pl:List UInt8}{w0:World}(hp:Bytes w0 p pl)(aj:¬kd<1)(an:¬5<kd)(aB:¬gZ e n at'):bH prog 90 [.iface 87 (ai N.cO 0),.agg #[aa kd,aa e,aa n,aa at',p]] w0 (.tuple #[.slice none 0 0,aa 7]):=by
 refine enter (n:=56) func90 U U U ?_;intro fr E;have M:=Mem.begin (Φ:=fun w'=>Bytes w' p pl) (Has.nil w0) (fun w' h=>hp.bU h);refine aV E<|bh (ob:=.cells (#[aa kd,aa e,aa n,aa at',p]) 116) (fun g=>ai g 0) M 0 U (cS (cs:=(#[aa kd,aa e,aa n,aa at',p])) U U) fun aZ w M=>ah (v:=aa _) 3 U (aE U U T.bc (M.row (i:=0) U) U)<|bs 0 U U aj<|ah (v:=aa _) 3 U (aE U U T.bc (M.row (i:=0) U) U)<|bs 0 U U an<|ah (v:=aa _) 3 U (aE U U T.bc (M.row (i:=0) U) U)<|ah (v:=aa _) 1 U (aE U U T.bc (M.row (i:=0) U) U)<|ah (v:=aa _) 1 U (aE U U T.bc (M.row (i:=0) U) U)<|bo M 0 U (ar U U T.ol) (oI false (decide_eq_false aB)) fun w M=>ah (v:=.bool _) 0 U U<|aU 4 U fun fr E=>?_;refine fN E U U U ?_;exact bX M
theorem WK{N:dO}{kd e n at':Int}{p:Value}{pl:List UInt8}{w0:World}(hp:Bytes w0 p pl)(H:Has w0 [cA N])(kF:∀g,p.ownBlock=some g->g∉(cA N).et)(eF:N.ks.length<=1099511627776)(aj:¬kd<1)(an:¬5<kd)(aB:gZ e n at')(be:¬975<pl.length):aY prog 90 [.iface 87 (ai N.cO 0),.agg #[aa kd,aa e,aa n,aa at',p]] w0 [cA N] (fun x:Value×dO=>.tuple #[x.1,aa 0]) (fun x=>[az.bytes 5 x.1 (hD N.ks kd e n at' pl),cA x.2]) (fun x=>x.2.cO=N.cO/\x.2.ks=jS N.ks e n (dA kd at') pl/\x.2.b7=N.b7):=by
 refine enter (n:=56) func90 U U U ?_;intro fr E;have M:=Mem.begin (Φ:=fun w'=>Bytes w' p pl) H (fun w' k=>Reads.held hp k fun g al c=>kF g al (g9.1 c));refine aV E<|bh (ob:=.cells (#[aa kd,aa e,aa n,aa at',p]) 116) (fun g=>ai g 0) M 0 U (cS (cs:=(#[aa kd,aa e,aa n,aa at',p])) U U) fun aZ w M=>ah (v:=aa _) 3 U (aE U U T.bc (M.row (i:=0) U) U)<|bs 0 U U aj<|ah (v:=aa _) 3 U (aE U U T.bc (M.row (i:=0) U) U)<|bs 0 U U an<|ah (v:=aa _) 3 U (aE U U T.bc (M.row (i:=0) U) U)<|ah (v:=aa _) 1 U (aE U U T.bc (M.row (i:=0) U) U)<|ah (v:=aa _) 1 U (aE U U T.bc (M.row (i:=0) U) U)<|bo M 0 U (ar U U T.ol) (oI true (decide_eq_true aB)) fun w M=>ah (v:=.bool _) 0 U U<|ah 3 U (aE U U T.ec (M.row (i:=0) U) U)<|ah 0 U (bx U U U U T.aG M.fact)<|bs 0 U U ae<|bw 2 U fun fr E=>?_;refine(dR (B:=T.C4) (Vs:=(.af (ai _ 0):: .af (aa _):: .af (.int _ (((UInt8.ofInt kd).toNat:Int)))::(.rel fun w v=>Bytes w v [UInt8.ofInt kd]/\∀g,v.ownBlock=some g->0<=g):: .af (ai _ 1):: .af (aa _)::cV w.heap.size (fun v=>[az.bytes 5 v ([UInt8.ofInt kd]++aO e)]) (fun _=>True):: .af (ai _ 2):: .af (aa _)::cV w.heap.size (fun v=>[az.bytes 5 v ([UInt8.ofInt kd]++aO e++aO n)]) (fun _=>True)::cV w.heap.size (fun v=>[az.bytes 5 v ([UInt8.ofInt kd]++aO e++aO n)]) (fun _=>True)::[])) T.KQ E T.mixed T.KP U (fH.dF ⟨ay,ay,ay,(fun w w' v ad h=>⟨Reads.ext h.1 ad,h.2⟩),ay,ay,cn.df,ay,ay,cn.df,cn.df,ay⟩) ⟨aw U U,
   aC U U (fun x w ad ab=>aE U U T.bc ((M.aQ ad).row (i:=0) U) U),
   aC U U (fun x w ad ab=>num U ((iH kd).symm)),
   h3 U U (fun x w ad ab=>⟨U,U,U,zS (Nat.zero_le _) U U T.aG T.bf T.gO U⟩),
   aw U U,
   aC U U (fun x w ad ab=>aE U U T.bc ((M.aQ ad).row (i:=0) U) U),
   cE U U (fun x w ad ab=>⟨_,_,U,U,U,ar U U T.nB,(np e (ab 3 U).1 (by simp)).eN ad.size⟩),
   aw U U,
   aC U U (fun x w ad ab=>aE U U T.bc ((M.aQ ad).row (i:=0) U) U),
   cE U U (fun x w ad ab=>⟨_,_,U,U,U,ar U U T.nB,(np n ((ab 6 U).1.reads 0 U) (by simp[aO])).eN ad.size⟩),
   jd U U (fun x w ad ab=>⟨_,_,U,U,U,run_assign U U,bd.refl _,ab 9 U⟩),ay⟩ ?_)
 intro x fr w ad ab E;have M:=M.jb ad (ab 10 aN).1 (ab 10 aN).2.1;obtain⟨ie,qE⟩:∃ie,ie=x 10:=⟨_,rfl⟩
 have E:=Env.gD (t:=6) (v:=ie) E rfl qE.symm;rw[<-qE]at M;have M:=M.aH 2 rfl;have M:Mem _ _ (([cA N]++[az.bytes 5 ie ([UInt8.ofInt kd]++aO e++aO n)])++_) _ _:=M;refine cm E<|bw 0 U fun fr E=>?_;refine(iQ (B:=T.C5) (Vs:=(.af _:: .af _:: .af (ai _ 1):: .af (aa _):: .af (ai _ 2):: .af (aa _):: .af (ai _ 0):: .af (aa _):: .af (ai _ 3):: .af (aa _)::cV w.heap.size (fun v=>[az.bytes 5 v (dA kd at')]) (fun _=>True):: .af (ai _ 4):: .af _:: .af (.func (.method "Seal") #[.iface 87 (ai N.cO 0)] #[]):: .af (.func (.method "Seal") #[.iface 87 (ai N.cO 0)] #[]):: .af _::cL w.heap.size ([cA N]) (fun x:Value×dO=>x.1) (fun x=>[az.bytes 5 x.1 (kx N.ks e n (dA kd at') pl)]++[cA x.2]) (fun x=>x.2.cO=N.cO/\x.2.ks=jS N.ks e n (dA kd at') pl/\x.2.b7=N.b7)::cL w.heap.size ([cA N]++[az.bytes 5 ie ([UInt8.ofInt kd]++aO e++aO n)]) (fun y:Value×(Value×dO)=>y.1) (fun y=>[az.bytes 5 y.1 ([UInt8.ofInt kd]++aO e++aO n++kx N.ks e n (dA kd at') pl)]++[cA y.2.2]) (fun y=>y.2.2.cO=N.cO/\y.2.2.ks=jS N.ks e n (dA kd at') pl/\y.2.2.b7=N.b7)::cL w.heap.size ([cA N]++[az.bytes 5 ie ([UInt8.ofInt kd]++aO e++aO n)]) (fun y:Value×(Value×dO)=>y.1) (fun y=>[az.bytes 5 y.1 ([UInt8.ofInt kd]++aO e++aO n++kx N.ks e n (dA kd at') pl)]++[cA y.2.2]) (fun y=>y.2.2.cO=N.cO/\y.2.2.ks=jS N.ks e n (dA kd at') pl/\y.2.2.b7=N.b7):: .af _::[])) (fs (sC 16 17 ([cA N]) ([az.bytes 5 ie ([UInt8.ofInt kd]++aO e++aO n)])) w.drew) T.KS E T.mixed T.KR U ?_ ⟨b5 U U M (fun i g h=>jW h),
   b5 U U M (fun i g h=>jW h),
   b5 U U M (fun i g h=>jW h),
   bY U U M (fun i g h=>jW h) (fun x w' aA aL ab=>aE U U T.bc (aA.row (i:=0) U) U),
   b5 U U M (fun i g h=>jW h),
   bY U U M (fun i g h=>jW h) (fun x w' aA aL ab=>aE U U T.bc (aA.row (i:=0) U) U),
   b5 U U M (fun i g h=>jW h),
   bY U U M (fun i g h=>jW h) (fun x w' aA aL ab=>aE U U T.bc (aA.row (i:=0) U) U),
   b5 U U M (fun i g h=>jW h),
   bY U U M (fun i g h=>jW h) (fun x w' aA aL ab=>aE U U T.bc (aA.row (i:=0) U) U),
   nC U U M (fun i g h=>jW h) (fun x w' aA aL ab=>⟨_,_,U,U,U,ar U U T.ta,(tq kd at' _).eN aL⟩),
   b5 U U M (fun i g h=>jW h),
   bY U U M (fun i g h=>jW h) (fun x w' aA aL ab=>aE U U T.ec (aA.row (i:=0) U) U),
   bY U U M (fun i g h=>jW h) (fun x w' aA aL ab=>tN U U),
   bY U U M (fun i g h=>jW h) (fun x w' aA aL ab=>tP U U T.HA),
   b5 U U M (fun i g h=>jW h),
   AR (J:=[cA N]) U U M (fun i g h=>jW h) (M.has.sub ((List.sublist_append_left _ _).trans (List.sublist_append_left _ _))) (fun j ax g al aJ=>al.elim (fun h=>ax h.1) fun h=>M.part g aJ h.2) (fun x w' aA c4 aL ab=>⟨_,_,U,U,U,tM U U T.HA T.QZ,(Ns (e:=e) (n:=n) c4 ((ab 10 U).1.reads 0 U) aA.fact (fun g al aJ=>Nat.not_le_of_lt (M.gA g ⟨_,by simp,aJ⟩) ((ab 10 U).2.1 g (g9.2 (by simp[az.row,al])))) kF ae eF).own (Fs:=sC 16 17 ([cA N]) ([az.bytes 5 ie ([UInt8.ofInt kd]++aO e++aO n)])) (i:=16) aL (fun g al=>Or.inl ⟨U,al⟩)⟩),
   Rn (j:=16) (c:=fun x:Value×dO=>x.1) (rest:=fun x=>[cA x.2]) (p1:=fun x=>x.2.cO=N.cO/\x.2.ks=jS N.ks e n (dA kd at') pl/\x.2.b7=N.b7) U U U U M U U U T.aG T.aG T.eh T.ef (by have:=I2 N.ks e n (dA kd at') pl;simp[aO];omega) (fun x y bn=>⟨U,U,U,U,bn⟩),
   lZ (j:=17) U U U U (fun x w y bn=>⟨U,U,U,ku U bn⟩),
   b5 U U M (fun i g h=>jW h),ay⟩ ?_)
 ·exact Z6 U ((la (la (la (la (la (la (la (la (la (la (Oi (cJ.df (fun g h=>M.gA g (hN.2 h))) (la (la (la (la (la (Oj U (cJ.kG (fun g h=>M.gA g (hN.2 (.inr h))) (fun g h aJ=>M.part g aJ h)) (Ei U U cJ.fJ (Ei U U cJ.fJ (la Ol)))))))))))))))))))))
 intro x fr w ⟨b,ak,cX⟩ ab E;obtain⟨⟨r,EG,n0⟩,bn,ll,M⟩:=M.OT (J:=([cA N]++[az.bytes 5 ie ([UInt8.ofInt kd]++aO e++aO n)])) (val:=fun y:Value×(Value×dO)=>y.1) (outs:=fun y=>[az.bytes 5 y.1 ([UInt8.ofInt kd]++aO e++aO n++kx N.ks e n (dA kd at') pl)]++[cA y.2.2]) (p:=fun y=>y.2.2.cO=N.cO/\y.2.2.ks=jS N.ks e n (dA kd at') pl/\y.2.2.b7=N.b7) (fun i g h=>jW h) cX (ab 18 aN);have E:=Env.gD (t:=4) E rfl bn;refine cm E<|aU 0 U fun fr E=>?_;refine fN E U U U ?_;have M:=M.aH 1 rfl;have M:=M.aH 1 rfl;exact⟨(r,n0),U,Mem.fin (L:=[az.bytes 5 r ([UInt8.ofInt kd]++aO e++aO n++kx N.ks e n (dA kd at') pl),cA n0]++_) M (List.sublist_append_left _ _) ll⟩
def kindOf(l:List UInt8):Int:=if h:17<=l.length then(if(l[0]'ae).toNat<1 then 0 else if 5<(l[0]'ae).toNat then 0 else((l[0]'ae).toNat:Int))else 0
theorem p4{b:Value}{l:List UInt8}{w0:World}(ak:Bytes w0 b l)(au:l.length<=35184372088832):bH prog 166 [b] w0 (aa (kindOf l)):=by
 unfold kindOf;split
 ·rename_i h;split
  ·exact Mt ak au h ‹_›
  ·split
   ·exact Ms ak au h ‹_› ‹_›
   ·exact Mu ak au h ‹_› ‹_›
 ·exact Mv ak au ae
def ey(l:List UInt8):Int:=db ((l.drop 1).take 16,false)
def eJ(l:List UInt8):Int:=db (eg 8 ((l.drop 1).take 16,false))
theorem WJ{N:dO}{kd at':Int}{b:Value}{l:List UInt8}{w0:World}(ak:Bytes w0 b l)(aj:l.length<17):bH prog 110 [.iface 87 (ai N.cO 0),aa kd,aa at',b] w0 (.tuple #[.agg #[aa 0,aa 0,aa 0,aa 0,.slice none 0 0],aa 2]):=by
 refine enter (n:=75) func110 U U U ?_;intro fr E;have M:=Mem.begin (Φ:=fun w'=>Bytes w' b l) (Has.nil w0) (fun w' h=>ak.bU h);refine aV E<|bh (ob:=.cells #[_,_,_,_,_] 116) (fun g=>ai g 0) M 0 U (bT U T.fG) fun aZ w M=>ah 2 U (bx U U U U T.aG M.fact)<|bD 0 U U ae<|ah (v:=.agg ([aa 0,aa 0,aa 0,aa 0,.slice none 0 0]).toArray) 2 U (dl (vs:=[]) (us:=[aa 0,aa 0,aa 0,aa 0,.slice none 0 0]) U U T.g5 T.g6 U U U U)<|bj (i:=0) (cs':= #[_,_,_,_,_]) M 0 U U (dr (vs:= #[_,_,_,_,_]) U U U T.fE U (M.row (i:=0) U) U U U) U fun w M=>aU 1 U fun fr E=>?_;refine fW E U U U T.ib (M.row (i:=0) U) (rfl) ?_;exact bX M
theorem WE{N:dO}{kd at':Int}{b:Value}{l:List UInt8}{w0:World}(ak:Bytes w0 b l)(aj:¬l.length<17)(an:1024<l.length):bH prog 110 [.iface 87 (ai N.cO 0),aa kd,aa at',b] w0 (.tuple #[.agg #[aa 0,aa 0,aa 0,aa 0,.slice none 0 0],aa 3]):=by
 refine enter (n:=75) func110 U U U ?_;intro fr E;have M:=Mem.begin (Φ:=fun w'=>Bytes w' b l) (Has.nil w0) (fun w' h=>ak.bU h);refine aV E<|bh (ob:=.cells #[_,_,_,_,_] 116) (fun g=>ai g 0) M 0 U (bT U T.fG) fun aZ w M=>ah 2 U (bx U U U U T.aG M.fact)<|bs 0 U U ae<|ah 3 U (bx U U U U T.aG M.fact)<|bD 0 U U ae<|ah (v:=.agg ([aa 0,aa 0,aa 0,aa 0,.slice none 0 0]).toArray) 2 U (dl (vs:=[]) (us:=[aa 0,aa 0,aa 0,aa 0,.slice none 0 0]) U U T.g5 T.g6 U U U U)<|bj (i:=0) (cs':= #[_,_,_,_,_]) M 0 U U (dr (vs:= #[_,_,_,_,_]) U U U T.fE U (M.row (i:=0) U) U U U) U fun w M=>aU 1 U fun fr E=>?_;refine fW E U U U T.ib (M.row (i:=0) U) (rfl) ?_;exact bX M
theorem WD{N:dO}{kd at':Int}{b:Value}{l:List UInt8}{w0:World}(ak:Bytes w0 b l)(aj:¬l.length<17)(an:¬1024<l.length)(aB:kd=0):bH prog 110 [.iface 87 (ai N.cO 0),aa kd,aa at',b] w0 (.tuple #[.agg #[aa 0,aa 0,aa 0,aa 0,.slice none 0 0],aa 5]):=by
 refine enter (n:=75) func110 U U U ?_;intro fr E;have M:=Mem.begin (Φ:=fun w'=>Bytes w' b l) (Has.nil w0) (fun w' h=>ak.bU h);refine aV E<|bh (ob:=.cells #[_,_,_,_,_] 116) (fun g=>ai g 0) M 0 U (bT U T.fG) fun aZ w M=>ah 2 U (bx U U U U T.aG M.fact)<|bs 0 U U ae<|ah 3 U (bx U U U U T.aG M.fact)<|bs 0 U U ae<|ei 3 U U (decide_eq_true (aB))<|ah (v:=.bool _) 5 U U<|ah (v:=.agg ([aa 0,aa 0,aa 0,aa 0,.slice none 0 0]).toArray) 2 U (dl (vs:=[]) (us:=[aa 0,aa 0,aa 0,aa 0,.slice none 0 0]) U U T.g5 T.g6 U U U U)<|bj (i:=0) (cs':= #[_,_,_,_,_]) M 0 U U (dr (vs:= #[_,_,_,_,_]) U U U T.fE U (M.row (i:=0) U) U U U) U fun w M=>aU 1 U fun fr E=>?_;refine fW E U U U T.ib (M.row (i:=0) U) (rfl) ?_;exact bX M
theorem WC{N:dO}{kd at':Int}{b:Value}{l:List UInt8}{w0:World}(ak:Bytes w0 b l)(aj:¬l.length<17)(an:¬1024<l.length)(aB:¬kd=0)(be:¬kindOf l=kd):bH prog 110 [.iface 87 (ai N.cO 0),aa kd,aa at',b] w0 (.tuple #[.agg #[aa 0,aa 0,aa 0,aa 0,.slice none 0 0],aa 5]):=by
 refine enter (n:=75) func110 U U U ?_;intro fr E;have M:=Mem.begin (Φ:=fun w'=>Bytes w' b l) (Has.nil w0) (fun w' h=>ak.bU h);refine aV E<|bh (ob:=.cells #[_,_,_,_,_] 116) (fun g=>ai g 0) M 0 U (bT U T.fG) fun aZ w M=>ah 2 U (bx U U U U T.aG M.fact)<|bs 0 U U ae<|ah 3 U (bx U U U U T.aG M.fact)<|bs 0 U U ae<|ch 3 U U (decide_eq_false (aB))<|bo M 2 U (ar U U T.qt) (p4 M.fact ae) fun w M=>ei 1 U U (by simp;exact be)<|ah (v:=.bool _) 0 U U<|ah (v:=.agg ([aa 0,aa 0,aa 0,aa 0,.slice none 0 0]).toArray) 2 U (dl (vs:=[]) (us:=[aa 0,aa 0,aa 0,aa 0,.slice none 0 0]) U U T.g5 T.g6 U U U U)<|bj (i:=0) (cs':= #[_,_,_,_,_]) M 0 U U (dr (vs:= #[_,_,_,_,_]) U U U T.fE U (M.row (i:=0) U) U U U) U fun w M=>aU 1 U fun fr E=>?_;refine fW E U U U T.ib (M.row (i:=0) U) (rfl) ?_;exact bX M
theorem WH{N:dO}{kd at':Int}{b:Value}{l:List UInt8}{w0:World}(ak:Bytes w0 b l)(aj:¬l.length<17)(an:¬1024<l.length)(aB:¬kd=0)(be:kindOf l=kd)(bZ:¬gZ (ey l) (eJ l) at'):bH prog 110 [.iface 87 (ai N.cO 0),aa kd,aa at',b] w0 (.tuple #[.agg #[aa 0,aa 0,aa 0,aa 0,.slice none 0 0],aa 7]):=by
 refine enter (n:=75) func110 U U U ?_;intro fr E;have M:=Mem.begin (Φ:=fun w'=>Bytes w' b l) (Has.nil w0) (fun w' h=>ak.bU h);refine aV E<|bh (ob:=.cells #[_,_,_,_,_] 116) (fun g=>ai g 0) M 0 U (bT U T.fG) fun aZ w M=>ah 2 U (bx U U U U T.aG M.fact)<|bs 0 U U ae<|ah 3 U (bx U U U U T.aG M.fact)<|bs 0 U U ae<|ch 3 U U (decide_eq_false (aB))<|bo M 2 U (ar U U T.qt) (p4 M.fact ae) fun w M=>ch 1 U U (by simp;exact be)<|ah (v:=.bool _) 0 U U<|ah 3 U (ew (lo:=1) (hi:=17) U M.fact U T.aG T.bf (⟨_,_,rfl,rfl⟩) (⟨_,_,rfl,rfl⟩) aN ae)<|cP M 0 U (ar U U T.pc) (o0 (Bytes.cut 1 17 M.fact aN ae) (by simp;omega)) U fun⟨g,k1⟩ w _ M=>bC (cr g k1 ((l.drop 1).take (17-1)) false) M 3 U (ar U U T.g0) U (fun H=>gY H (by simp;omega)) fun ke w _ M=>bC (cr g ke (eg 8 ((l.drop 1).take (17-1),false)).1 (eg 8 ((l.drop 1).take (17-1),false)).2) M 1 U (ar U U T.g0) U (fun H=>gY H (by simp[eg];split<;>simp<;>omega)) fun jF w _ M=>ah (v:=.agg ([_,_,_,_,.slice none 0 0]).toArray) 1 U (dl (vs:=[_,_,_,_]) (us:=[_,_,_,_,.slice none 0 0]) U U T.g5 T.g6 U U U U)<|bh (ob:=.cells #[_,_,_,_,_] 116) (fun g=>ai g 0) M 0 U (bT U T.fG) fun bQ w M=>bj (i:=0) (cs':= #[_,_,_,_,_]) M 0 U U (dr (vs:= #[_,_,_,_,_]) U U U T.fE U (M.row (i:=0) U) U U U) U fun w M=>ah (v:=aa _) 1 U (aE U U T.bc (M.row (i:=0) U) U)<|ah (v:=aa _) 1 U (aE U U T.bc (M.row (i:=0) U) U)<|bo M 1 U (ar U U T.ol) (oI false (decide_eq_false bZ)) fun w M=>ah (v:=.bool _) 0 U U<|ah (v:=.agg ([aa 0,aa 0,aa 0,aa 0,.slice none 0 0]).toArray) 1 U (dl (vs:=[]) (us:=[aa 0,aa 0,aa 0,aa 0,.slice none 0 0]) U U T.g5 T.g6 U U U U)<|bj (i:=3) (cs':= #[_,_,_,_,_]) M 0 U U (dr (vs:= #[_,_,_,_,_]) U U U T.fE U (M.row (i:=3) U) U U U) U fun w M=>aU 1 U fun fr E=>?_;refine fW E U U U T.ib (M.row (i:=3) U) (rfl) ?_;exact bX M
theorem WI{N:dO}{kd at':Int}{b:Value}{l:List UInt8}{w0:World}(ak:Bytes w0 b l)(H:Has w0 [cA N])(eF:N.ks.length<=1099511627776)(aj:¬l.length<17)(an:¬1024<l.length)(aB:¬kd=0)(be:kindOf l=kd)(bZ:gZ (ey l) (eJ l) at')(aF:nR N.ks (ey l) (eJ l) (dA kd at') (l.drop 17)=none):bH prog 110 [.iface 87 (ai N.cO 0),aa kd,aa at',b] w0 (.tuple #[.agg #[aa 0,aa 0,aa 0,aa 0,.slice none 0 0],aa 19]):=by
 refine enter (n:=75) func110 U U U ?_;intro fr E;have M:=Mem.begin (Φ:=fun w'=>Has w' [cA N]/\Bytes w' b l) (Has.nil w0) (fun w' hw=>⟨H.held hw fun g al c=>gQ c,ak.bU hw⟩);refine aV E<|bh (ob:=.cells #[_,_,_,_,_] 116) (fun g=>ai g 0) M 0 U (bT U T.fG) fun aZ w M=>ah 2 U (bx U U U U T.aG M.fact.2)<|bs 0 U U ae<|ah 3 U (bx U U U U T.aG M.fact.2)<|bs 0 U U ae<|ch 3 U U (decide_eq_false (aB))<|bo M 2 U (ar U U T.qt) (p4 M.fact.2 ae) fun w M=>ch 1 U U (by simp;exact be)<|ah (v:=.bool _) 0 U U<|ah 3 U (ew (lo:=1) (hi:=17) U M.fact.2 U T.aG T.bf (⟨_,_,rfl,rfl⟩) (⟨_,_,rfl,rfl⟩) aN ae)<|cP M 0 U (ar U U T.pc) (o0 (Bytes.cut 1 17 M.fact.2 aN ae) (by simp;omega)) U fun⟨g,k1⟩ w _ M=>bC (cr g k1 ((l.drop 1).take (17-1)) false) M 3 U (ar U U T.g0) U (fun H=>gY H (by simp;omega)) fun ke w _ M=>bC (cr g ke (eg 8 ((l.drop 1).take (17-1),false)).1 (eg 8 ((l.drop 1).take (17-1),false)).2) M 1 U (ar U U T.g0) U (fun H=>gY H (by simp[eg];split<;>simp<;>omega)) fun jF w _ M=>ah (v:=.agg ([_,_,_,_,.slice none 0 0]).toArray) 1 U (dl (vs:=[_,_,_,_]) (us:=[_,_,_,_,.slice none 0 0]) U U T.g5 T.g6 U U U U)<|bh (ob:=.cells #[_,_,_,_,_] 116) (fun g=>ai g 0) M 0 U (bT U T.fG) fun bQ w M=>bj (i:=0) (cs':= #[_,_,_,_,_]) M 0 U U (dr (vs:= #[_,_,_,_,_]) U U U T.fE U (M.row (i:=0) U) U U U) U fun w M=>ah (v:=aa _) 1 U (aE U U T.bc (M.row (i:=0) U) U)<|ah (v:=aa _) 1 U (aE U U T.bc (M.row (i:=0) U) U)<|bo M 1 U (ar U U T.ol) (oI true (decide_eq_true bZ)) fun w M=>ah (v:=.bool _) 0 U U<|bw 1 U fun fr E=>?_;refine(dR (B:=T.wx) (Vs:=(.af _:: .af (ai _ 1):: .af (aa _):: .af (ai _ 2):: .af (aa _):: .af _:: .af _::cV w.heap.size (fun v=>[az.bytes 5 v (dA kd at')]) (fun _=>True):: .af _:: .af _:: .af (.func (.method "Open") #[.iface 87 (ai N.cO 0)] #[]):: .af (.func (.method "Open") #[.iface 87 (ai N.cO 0)] #[]):: .af _:: .af (.tuple #[.slice none 0 0,.bool false]):: .af _:: .af (.slice none 0 0):: .af (.bool false):: .af (.slice none 0 0):: .af (.bool false)::[])) T.y1 E T.mixed T.y0 U (fH.dF ⟨ay,ay,ay,ay,ay,ay,ay,cn.df,ay,ay,ay,ay,ay,ay,ay,ay,ay,ay,ay,ay⟩) ⟨aw U U,
   aw U U,
   aC U U (fun x w ad ab=>aE U U T.bc ((M.aQ ad).row (i:=0) U) U),
   aw U U,
   aC U U (fun x w ad ab=>aE U U T.bc ((M.aQ ad).row (i:=0) U) U),
   aw U U,
   aw U U,
   cE U U (fun x w ad ab=>⟨_,_,U,U,U,ar U U T.ta,(tq kd at' _).eN ad.size⟩),
   aw U U,
   aC U U (fun x w ad ab=>ew (lo:=17) (hi:=l.length) U (M.aQ ad).fact.2 U T.aG T.bf (⟨_,_,U,U⟩) (rfl) ae (Nat.le_refl _)),
   aC U U (fun x w ad ab=>tN U U),
   aC U U (fun x w ad ab=>tP U U T.yf),
   aw U U,
   cE U U (fun x w ad ab=>⟨_,_,U,U,U,tM U U T.yf T.FO,(MJ (N:=N) (e:=ey l) (n:=eJ l) (M.aQ ad).fact.1 ((ab 7 U).1.reads 0 U) (Bytes.oT (k:=17) (M.aQ ad).fact.2 ae) (by simp;omega) eF aF).ext⟩),
   aw U U,
   aw U U,
   aw U U,
   aw U U,
   aw U U,ay⟩ ?_)
 intro x fr w ad ab E;have M:=M.ext ad;refine cm E<|ah (v:=.bool _) 1 U U<|ah (v:=.agg ([aa 0,aa 0,aa 0,aa 0,.slice none 0 0]).toArray) 1 U (dl (vs:=[]) (us:=[aa 0,aa 0,aa 0,aa 0,.slice none 0 0]) U U T.g5 T.g6 U U U U)<|bj (i:=3) (cs':= #[_,_,_,_,_]) M 0 U U (dr (vs:= #[_,_,_,_,_]) U U U T.fE U (M.row (i:=3) U) U U U) U fun w M=>aU 1 U fun fr E=>?_;refine fW E U U U T.ib (M.row (i:=3) U) (rfl) ?_;exact bX M
theorem WG{N:dO}{kd at':Int}{b:Value}{l:List UInt8}{w0:World}(ak:Bytes w0 b l){q:List UInt8}(H:Has w0 [cA N])(eF:N.ks.length<=1099511627776)(aj:¬l.length<17)(an:¬1024<l.length)(aB:¬kd=0)(be:kindOf l=kd)(bZ:gZ (ey l) (eJ l) at')(aF:nR N.ks (ey l) (eJ l) (dA kd at') (l.drop 17)=some q):aY prog 110 [.iface 87 (ai N.cO 0),aa kd,aa at',b] w0 [] (fun c:Value=>.tuple #[.agg #[aa kd,aa (ey l),aa (eJ l),aa at',c],aa 0]) (fun c=>[.bytes 5 c q]) (fun _=>True):=by
 refine enter (n:=75) func110 U U U ?_;intro fr E;have M:=Mem.begin (Φ:=fun w'=>Has w' [cA N]/\Bytes w' b l) (Has.nil w0) (fun w' hw=>⟨H.held hw fun g al c=>gQ c,ak.bU hw⟩);refine aV E<|bh (ob:=.cells #[_,_,_,_,_] 116) (fun g=>ai g 0) M 0 U (bT U T.fG) fun aZ w M=>ah 2 U (bx U U U U T.aG M.fact.2)<|bs 0 U U ae<|ah 3 U (bx U U U U T.aG M.fact.2)<|bs 0 U U ae<|ch 3 U U (decide_eq_false (aB))<|bo M 2 U (ar U U T.qt) (p4 M.fact.2 ae) fun w M=>ch 1 U U (by simp;exact be)<|ah (v:=.bool _) 0 U U<|ah 3 U (ew (lo:=1) (hi:=17) U M.fact.2 U T.aG T.bf (⟨_,_,rfl,rfl⟩) (⟨_,_,rfl,rfl⟩) aN ae)<|cP M 0 U (ar U U T.pc) (o0 (Bytes.cut 1 17 M.fact.2 aN ae) (by simp;omega)) U fun⟨g,k1⟩ w _ M=>bC (cr g k1 ((l.drop 1).take (17-1)) false) M 3 U (ar U U T.g0) U (fun H=>gY H (by simp;omega)) fun ke w _ M=>bC (cr g ke (eg 8 ((l.drop 1).take (17-1),false)).1 (eg 8 ((l.drop 1).take (17-1),false)).2) M 1 U (ar U U T.g0) U (fun H=>gY H (by simp[eg];split<;>simp<;>omega)) fun jF w _ M=>ah (v:=.agg ([_,_,_,_,.slice none 0 0]).toArray) 1 U (dl (vs:=[_,_,_,_]) (us:=[_,_,_,_,.slice none 0 0]) U U T.g5 T.g6 U U U U)<|bh (ob:=.cells #[_,_,_,_,_] 116) (fun g=>ai g 0) M 0 U (bT U T.fG) fun bQ w M=>bj (i:=0) (cs':= #[_,_,_,_,_]) M 0 U U (dr (vs:= #[_,_,_,_,_]) U U U T.fE U (M.row (i:=0) U) U U U) U fun w M=>ah (v:=aa _) 1 U (aE U U T.bc (M.row (i:=0) U) U)<|ah (v:=aa _) 1 U (aE U U T.bc (M.row (i:=0) U) U)<|bo M 1 U (ar U U T.ol) (oI true (decide_eq_true bZ)) fun w M=>ah (v:=.bool _) 0 U U<|bw 1 U fun fr E=>?_;refine(dR (B:=T.wx) (Vs:=(.af _:: .af (ai _ 1):: .af (aa _):: .af (ai _ 2):: .af (aa _):: .af _:: .af _::cV w.heap.size (fun v=>[az.bytes 5 v (dA kd at')]) (fun _=>True):: .af _:: .af _:: .af (.func (.method "Open") #[.iface 87 (ai N.cO 0)] #[]):: .af (.func (.method "Open") #[.iface 87 (ai N.cO 0)] #[]):: .af _::cL w.heap.size ([]) (fun c:Value=>.tuple #[c,.bool true]) (fun c=>[az.bytes 5 c q]) (fun _=>True)::cL w.heap.size ([]) (fun c:Value=>.tuple #[c,.bool true]) (fun c=>[az.bytes 5 c q]) (fun _=>True)::cL w.heap.size ([]) (fun c:Value=>c) (fun c=>[az.bytes 5 c q]) (fun _=>True):: .af (.bool true)::cL w.heap.size ([]) (fun c:Value=>c) (fun c=>[az.bytes 5 c q]) (fun _=>True):: .af _::[])) T.y1 E T.mixed T.y0 U (fH.dF ⟨ay,ay,ay,ay,ay,ay,ay,cn.df,ay,ay,ay,ay,ay,cn.hx,cn.hx,cn.hx,ay,cn.hx,ay,ay⟩) ⟨aw U U,
   aw U U,
   aC U U (fun x w ad ab=>aE U U T.bc ((M.aQ ad).row (i:=0) U) U),
   aw U U,
   aC U U (fun x w ad ab=>aE U U T.bc ((M.aQ ad).row (i:=0) U) U),
   aw U U,
   aw U U,
   cE U U (fun x w ad ab=>⟨_,_,U,U,U,ar U U T.ta,(tq kd at' _).eN ad.size⟩),
   aw U U,
   aC U U (fun x w ad ab=>ew (lo:=17) (hi:=l.length) U (M.aQ ad).fact.2 U T.aG T.bf (⟨_,_,U,U⟩) (rfl) ae (Nat.le_refl _)),
   aC U U (fun x w ad ab=>tN U U),
   aC U U (fun x w ad ab=>tP U U T.yf),
   aw U U,
   cE U U (fun x w ad ab=>⟨_,_,U,U,U,tM U U T.yf T.FO,(MN (N:=N) (e:=ey l) (n:=eJ l) (M.aQ ad).fact.1 ((ab 7 U).1.reads 0 U) (Bytes.oT (k:=17) (M.aQ ad).fact.2 ae) (by simp;omega) eF aF).qk ad.size⟩),
   lk (j:=13) U U U U (fun x w y bn=>⟨U,U,U,tO U bn⟩),
   lk (j:=14) U U U U (fun x w y bn=>⟨U,U,U,nf U bn U⟩),
   uZ (j:=14) U U U U (fun x w y bn=>⟨U,U,U,nf U bn U⟩),
   lk (j:=15) U U U U (fun x w y bn=>⟨U,U,U,ku U bn⟩),
   aw U U,ay⟩ ?_)
 intro x fr w ad ab E;obtain⟨c,bn, -,M⟩:=M.kG (val:=fun c:Value=>c) (outs:=fun c=>[az.bytes 5 c q]) (p:=fun _=>True) ad (ab 17 aN);have E:=Env.gD (t:=12) E rfl bn;refine cm E<|ah (v:=.bool _) 1 rfl rfl<|bj (i:=1) (cs':= #[aa kd,aa (ey l),aa (eJ l),aa at',c]) M 3 rfl rfl (cy (v:=_) rfl rfl rfl T.gM (M.row (i:=1) rfl) (rfl) (Reads.one (M.reads 0 rfl)) (rfl)) rfl fun w M=>ah (v:=.agg #[_,_,_,_,_]) 0 rfl (cW rfl rfl T.ib (M.row (i:=1) rfl) rfl)<|bj (i:=4) (cs':= #[aa kd,aa (ey l),aa (eJ l),aa at',c]) M 0 rfl rfl (dr (vs:= #[aa kd,aa (ey l),aa (eJ l),aa at',c]) rfl rfl rfl T.fE rfl (M.row (i:=4) rfl) rfl (by obtain⟨fI,fm,bV⟩:=Reads.slice (M.reads 0 rfl);rw[bV];rfl) rfl) rfl fun w M=>aU 1 rfl fun fr E=>?_;refine fW E U U U T.ib (M.row (i:=4) U) (rfl) ?_;exact⟨c,U,Mem.fin (L:=[.bytes 5 c q]++_) M (List.sublist_append_left _ _) trivial⟩
end
section
open Go.RowKit Go.a2 Go.Proofs Go.Proofs.Tryz
structure bz where
 n:Nat
 last:List (List UInt8)
 cache:List (Int×List UInt8)
 dK:Bool
 left:Int
 off:Bool
 writes:Int
 reads:List Int
def bz.new(k:Nat):bz:=⟨k,List.replicate k [],[],false,0,false,0,List.replicate k 0⟩
def h0(c:List (Int×List UInt8))(k:Int):Option (List UInt8):=(c.find? fun p=>p.1==k).map (·.2)
def lb(k:Int)(l:List UInt8):List (Int×List UInt8)->List (Int×List UInt8)
 |[]=>[(k,l)]
 |p::r=>if k=p.1 then(k,l)::r else p::lb k l r
def bz.read(A:bz)(j:Nat):List UInt8:=match h0 A.cache j with|some l=>l|none=>(A.last[j]?).getD []
def bz.bump(A:bz)(j:Nat):bz:={A with reads:=A.reads.modify j fun r=>dC (r+1)}
def bz.there(A:bz)(i:Int):Prop:=0<=i/\i<(A.n:Int)
instance(A:bz)(i:Int):Decidable (A.there i):=by unfold bz.there;infer_instance
def bz.write(A:bz)(i:Int)(l:List UInt8):Int×bz:=
 if A.off=true then(12,A)else if¬A.there i then(7,A)else if 1024<l.length then(3,A)else if A.dK=true/\A.left=0 then(12,{A with off:=true})
 else(0,{A with left:=dC (A.left-1),cache:=lb i l A.cache,writes:=dC (A.writes+1)})
def mP(ps:List (Value×List UInt8)):List eT->List (Int×List UInt8)->Prop
 |[],[]=>True
 |e::r,p::q=>(e.key=p.1/\(e.val,p.2)∈ps/\p.2.length<=1024)/\mP ps r q
 |_,_=>False
def k8(ps:List (Value×List UInt8)):List Value->List (List UInt8)->Prop
 |[],[]=>True
 |v::r,l::q=>((v,l)∈ps/\l.length<=1024)/\k8 ps r q
 |_,_=>False
structure di.g7(S:di)(A:bz):Prop where
 n:S.n=A.n
 max:A.n<=4096
 len:A.last.length=A.n
 iI:A.reads.length=A.n
 last:k8 S.ps S.dF A.last
 cache:mP S.ps S.cache A.cache
 keys:(A.cache.map (·.1)).Nodup/\∀p∈A.cache,A.there p.1
 born:(S.cache.map (·.born)).Nodup/\∀e∈S.cache,e.born<S.clock
 dK:S.dK=A.dK
 left:S.left=A.left
 off:S.off=A.off
 writes:S.writes=A.writes
 reads:S.reads=A.reads
structure b6 where
 av:Nat
 bg:Nat
 lv:Value
 aq:Value
 S:di
abbrev iP(D:b6):List az:=bP D.av D.bg D.lv D.aq D.S
abbrev ba(D:b6):az:=az.all (iP D)
def b6.is(D:b6)(g:Nat)(A:bz):Prop:=D.av=g/\D.S.g7 A
def b6.new(k:Nat)(q:Nat×Nat×Nat×Nat):b6:=⟨q.1,q.2.1,.slice (some ⟨q.2.2.1,0,none⟩) k k,.slice (some ⟨q.2.2.2,0,none⟩) k k,⟨k,List.replicate k (.slice none 0 0),[],0,false,0,false,0,List.replicate k 0,[(.slice none 0 0,[])]⟩⟩
theorem Hq(ps:List (Value×List UInt8))(h:(.slice none 0 0,[])∈ps):∀k,k8 ps (List.replicate k (.slice none 0 0)) (List.replicate k [])
 |0=>trivial
 |k+1=>⟨⟨h,by decide⟩,Hq ps h k⟩
theorem b6.Uj(k:Nat)(q:Nat×Nat×Nat×Nat)(h:k<=4096):(b6.new k q).is (b6.new k q).av (bz.new k):=
 ⟨rfl,⟨rfl,h,List.length_replicate,List.length_replicate,Hq _ (List.mem_singleton.2 rfl) k,ay,⟨List.nodup_nil,fun p hp=>nomatch hp⟩,⟨List.nodup_nil,fun e he=>nomatch he⟩,rfl,rfl,rfl,rfl,rfl⟩⟩
theorem ya{x:Value×List UInt8}{ps:List (Value×List UInt8)}:∀{vs:List Value} {ls:List (List UInt8)},k8 ps vs ls->k8 (x::ps) vs ls
 |[],[],_=>trivial
 |[],_::_,h=>h.elim
 |_::_,[],h=>h.elim
 |v::vs,l::ls,h=>⟨⟨List.mem_cons_of_mem _ h.1.1,h.1.2⟩,ya h.2⟩
theorem x9{ps:List (Value×List UInt8)}:∀{vs:List Value} {ls:List (List UInt8)} {j:Nat} {v:Value},k8 ps vs ls->vs[j]? =some v->∃l,ls[j]? =some l/\(v,l)∈ps/\l.length<=1024
 |[],_,_,_,_,h=>by simp at h
 |_::_,[],_,_,h,_=>h.elim
 |u::vs,l::ls,0,v,h,aD=>by
  simp only[List.getElem?_cons_zero,Option.some.injEq]at aD;subst aD;exact⟨l,U,h.1.1,h.1.2⟩
 |u::vs,l::ls,j+1,v,h,aD=>by
  obtain⟨m,aj,an⟩:=x9 (j:=j) h.2 (by simpa using aD);exact⟨m,by simpa using aj,an⟩
theorem Bx{ps:List (Value×List UInt8)}:∀{vs:List Value} {ls:List (List UInt8)},k8 ps vs ls->vs.length=ls.length
 |[],[],_=>rfl
 |[],_::_,h=>h.elim
 |_::_,[],h=>h.elim
 |v::vs,l::ls,h=>by simp[Bx h.2]
theorem xf{x:Value×List UInt8}{ps:List (Value×List UInt8)}:∀{es:List eT} {c:List (Int×List UInt8)},mP ps es c->mP (x::ps) es c
 |[],[],_=>trivial
 |[],_::_,h=>h.elim
 |_::_,[],h=>h.elim
 |v::vs,l::ls,h=>⟨⟨h.1.1,List.mem_cons_of_mem _ h.1.2.1,h.1.2.2⟩,xf h.2⟩
theorem x2(k:Int):∀(es:List eT) (i:Nat),(im k es i).map (·.2)=hz es k
 |[],i=>rfl
 |e::r,i=>by
  unfold hz im;split
  ·rfl
  ·have aj:=x2 k r (i+1);have an:=x2 k r (0+1);rw[aj,an]
theorem G3(k:Int)(e:eT)(r:List eT):hz (e::r) k=if k=e.key then some e.val else hz r k:=by
 rw[<-x2 k (e::r) 0];unfold im;split
 ·rfl
 ·exact x2 k r 1
theorem mU(k:Int)(p:Int×List UInt8)(r:List (Int×List UInt8)):h0 (p::r) k=if k=p.1 then some p.2 else h0 r k:=by
 unfold h0;rw[List.find?_cons];by_cases h:k=p.1
 ·rw[if_pos h];simp[h]
 ·rw[if_neg h];have:(p.1==k)=false:=by simpa using fun c=>h c.symm
  rw[this]
theorem xg{ps:List (Value×List UInt8)}{k:Int}{v:Value}:∀{es:List eT} {c:List (Int×List UInt8)},mP ps es c->hz es k=some v->∃l,h0 c k=some l/\(v,l)∈ps/\l.length<=1024
 |[],_,_,h=>by cases h
 |_::_,[],h,_=>h.elim
 |e::r,p::q,h,aD=>by
  rw[G3]at aD;rw[mU];split at aD
  ·rename_i ab;injection aD with aD;subst aD;rw[if_pos (ab.trans h.1.1)];exact⟨_,U,h.1.2⟩
  ·rename_i ab;rw[if_neg (fun c=>ab (c.trans h.1.1.symm))];exact xg h.2 aD
theorem Aa{ps:List (Value×List UInt8)}{k:Int}:∀{es:List eT} {c:List (Int×List UInt8)},mP ps es c->hz es k=none->h0 c k=none
 |[],[],_,_=>rfl
 |[],_::_,h,_=>h.elim
 |_::_,[],h,_=>h.elim
 |e::r,p::q,h,aD=>by
  rw[G3]at aD;rw[mU];split at aD
  ·cases aD
  ·rename_i ab;rw[if_neg (fun c=>ab (c.trans h.1.1.symm))];exact Aa h.2 aD
theorem EU{ps:List (Value×List UInt8)}{k:Int}{v:Value}{l:List UInt8}{cl:Nat}(aI:l.length<=1024):∀{es:List eT} {c:List (Int×List UInt8)},mP ps es c->mP ((v,l)::ps) (io k v cl es).1 (lb k l c)
 |[],[],_=>⟨⟨rfl,List.mem_cons_self ..,aI⟩,ay⟩
 |[],_::_,h=>h.elim
 |_::_,[],h=>h.elim
 |e::r,p::q,h=>by
  unfold io lb;by_cases ab:k=e.key
  ·rw[if_pos ab,if_pos (ab.trans h.1.1)];exact⟨⟨U,List.mem_cons_self ..,aI⟩,xf h.2⟩
  ·rw[if_neg ab,if_neg (fun c=>ab (c.trans h.1.1.symm))];exact⟨⟨h.1.1,List.mem_cons_of_mem _ h.1.2.1,h.1.2.2⟩,EU aI h.2⟩
theorem zH{k:Int}{l:List UInt8}{p:Int×List UInt8}:∀{c:List (Int×List UInt8)},p∈lb k l c->p=(k,l)\/p∈c
 |[],h=>by simp[lb]at h;exact .inl h
 |q::r,h=>by
  unfold lb at h;split at h
  ·rcases List.mem_cons.1 h with h|h
   ·exact .inl h
   ·exact .inr (List.mem_cons_of_mem _ h)
  ·rcases List.mem_cons.1 h with h|h
   ·exact .inr (h▸List.mem_cons_self ..)
   ·exact(zH h).imp id (List.mem_cons_of_mem _)
theorem Em{A:bz}{k:Int}{l:List UInt8}(ab:A.there k)(h:(A.cache.map (·.1)).Nodup/\∀p∈A.cache,A.there p.1):((lb k l A.cache).map (·.1)).Nodup/\∀p∈lb k l A.cache,A.there p.1:=by
 refine⟨?_,fun p hp=>(zH hp).elim (fun e=>e▸ab) (h.2 p)⟩;have h:=h.1;generalize A.cache=c at h
 induction c with
 |nil=>simp[lb]
 |cons p r ck=>
  rw[List.map_cons,List.nodup_cons]at h;unfold lb;split
  ·rename_i e;rw[List.map_cons,List.nodup_cons];exact⟨by rw[e];exact h.1,h.2⟩
  ·rename_i e;rw[List.map_cons,List.nodup_cons];refine⟨fun hm=>?_,ck h.2⟩;obtain⟨q,bE,GO⟩:=List.mem_map.1 hm;rcases zH bE with rfl|bE
   ·exact e GO
   ·exact h.1 (List.mem_map.2 ⟨q,bE,GO⟩)
theorem Br{k:Int}{v:Value}{cl:Nat}:∀{es:List eT},cl<=(io k v cl es).2/\∀e∈(io k v cl es).1,e.born=cl/\(io k v cl es).2=cl+1\/∃bV∈es,bV.born=e.born
 |[]=>⟨Nat.le_succ _,fun e he=>by simp[io]at he;subst he;exact .inl ⟨rfl,rfl⟩⟩
 |a::r=>by
  unfold io;split
  ·exact⟨Nat.le_refl _,fun e he=>by
    rcases List.mem_cons.1 he with rfl|he
    ·exact .inr ⟨a,List.mem_cons_self ..,rfl⟩
    ·exact .inr ⟨e,List.mem_cons_of_mem _ he,rfl⟩⟩
  ·have ck:=Br (k:=k) (v:=v) (cl:=cl) (es:=r);refine⟨ck.1,fun e he=>?_⟩;rcases List.mem_cons.1 he with rfl|he
   ·exact .inr ⟨e,List.mem_cons_self ..,U⟩
   ·rcases ck.2 e he with h|⟨bV,aj,an⟩
    ·exact .inl h
    ·exact .inr ⟨bV,List.mem_cons_of_mem _ aj,an⟩
theorem Tl{k:Int}{v:Value}{cl:Nat}{es:List eT}(h:(es.map (·.born)).Nodup/\∀e∈es,e.born<cl):((io k v cl es).1.map (·.born)).Nodup/\∀e∈(io k v cl es).1,e.born<(io k v cl es).2:=by
 have hle:=Br (k:=k) (v:=v) (cl:=cl) (es:=es);refine⟨?_,fun e he=>?_⟩
 ·obtain⟨aj,an⟩:=h;clear hle
  induction es with
  |nil=>simp[io]
  |cons a r ck=>
   rw[List.map_cons,List.nodup_cons]at aj;unfold io;split
   ·rw[List.map_cons,List.nodup_cons];exact aj
   ·rw[List.map_cons,List.nodup_cons];refine⟨fun hm=>?_,ck aj.2 fun e he=>an e (List.mem_cons_of_mem _ he)⟩;obtain⟨e,he,ak⟩:=List.mem_map.1 hm;rcases(Br (k:=k) (v:=v) (cl:=cl) (es:=r)).2 e he with⟨aB,_⟩|⟨bV,aB,be⟩
    ·have:=an a (List.mem_cons_self ..);omega
    ·exact aj.1 (List.mem_map.2 ⟨bV,aB,be.trans ak⟩)
 ·rcases hle.2 e he with⟨aj,an⟩|⟨bV,aj,an⟩
  ·omega
  ·have:=h.2 bV aj;have:=hle.1;omega
theorem di.g7.ok{S:di}{A:bz}(h:S.g7 A):S.Ok where
 len:=by rw[Bx h.last,h.len,h.n]
 iI:=by rw[h.reads,h.iI,h.n]
 max:=by rw[h.n];exact h.max
 dF v aD:=by
  obtain⟨j,ax,rfl⟩:=List.getElem_of_mem aD;obtain⟨l,aj,an,aB⟩:=x9 h.last (List.getElem?_eq_getElem ax);exact⟨l,an,aB⟩
 cache e he:=by
  have:=h.cache;revert he this;generalize S.cache=es;generalize A.cache=c
  induction es generalizing c with
  |nil=>intro he;cases he
  |cons a r ck=>
   intro he aJ;cases c with
   |nil=>exact aJ.elim
   |cons p q=>
    rcases List.mem_cons.1 he with rfl|he
    ·exact⟨p.2,aJ.1.2⟩
    ·exact ck q he aJ.2
def sN(B0 k:Nat)(w:World)(v:Value):Prop:=∃lv cM aq,v=.agg #[lv,cM,.bool false,aa 0,.bool false,aa 0,aq]/\n1 B0 22 k (.slice none 0 0) w lv/\rr B0 w cM/\n1 B0 3 k (aa 0) w aq
theorem sN.ext{B0 k:Nat}{w w':World}{v:Value}(h:sN B0 k w v)(ad:bd w w'):sN B0 k w' v:=by
 obtain⟨lv,cM,aq,bG,aj,an,aB⟩:=h;exact⟨lv,cM,aq,bG,aj.ext ad,an.ext ad,aB.ext ad⟩
theorem Ui{ρ:Operand->Value}{o:Oper}{w:World}{k B0:Nat}{X Y Z:Operand}{lv cM aq:Value}(aj:n1 B0 22 k (.slice none 0 0) w lv)(an:rr B0 w cM)(aB:n1 B0 3 k (aa 0) w aq)(aF:o.op=.build 95 #[(0,X),(1,Y),(6,Z)])(bS:ρ X=lv)(du:ρ Y=cM)(po:ρ Z=aq)
  (aM:iy prog 95 [1,1,1,1,1,1,1] [.slice none 0 0,.map none,.bool false,aa 0,.bool false,aa 0,.slice none 0 0]=true) (au:zeroOf prog 95=some (.agg [.slice none 0 0,.map none,.bool false,aa 0,.bool false,aa 0,.slice none 0 0].toArray)):
  ∃v w',(execOp ρ o).run prog w=.ok (.value v) w'/\bd w w'/\sN B0 k w' v:=by
 obtain⟨bQ,rfl,gn,jc⟩:=aj;obtain⟨cF,rfl,fY,jr⟩:=an;obtain⟨gR,rfl,a3,uG⟩:=aB;have ap:=yJ (P:=prog) (ρ:=ρ) (w:=w) (ps:=[(0,X),(1,Y),(6,Z)]) (qs:=[(0,.slice (some ⟨bQ,0,none⟩) k k),(1,.map (some cF)),(6,.slice (some ⟨gR,0,none⟩) k k)]) (us:= #[.slice (some ⟨bQ,0,none⟩) k k,.map (some cF),.bool false,aa 0,.bool false,aa 0,.slice (some ⟨gR,0,none⟩) k k]) aF (by simp[bS,du,po]) aM au rfl;exact⟨_,_,ap,bd.refl _,_,_,_,U,⟨bQ,U,gn,jc⟩,⟨cF,U,fY,jr⟩,⟨gR,U,a3,uG⟩⟩
theorem Uh{ρ:Operand->Value}{o:Oper}{w:World}{k B0:Nat}{X:Operand}{v:Value}(ab:1<=k)(kO:k<=4096)(aL:B0<=w.heap.size)(h:sN B0 k w v)(aF:o.op=.box 95 X)(bS:ρ X=v):
  ∃u w',(execOp ρ o).run prog w=.ok (.value u) w'/\bd w w'/\∃q:Nat×Nat×Nat×Nat,u=ai q.1 0/\Has w' (iP (b6.new k q))/\(∀g,aS (iP (b6.new k q)) g->aS [] g\/B0<=g)/\True:=by
 obtain⟨lv,cM,aq,rfl,⟨bQ,rfl,gn,jc⟩,⟨cF,rfl,fY,jr⟩,⟨gR,rfl,a3,uG⟩⟩:=h;have ap:=cS (P:=prog) (w:=w) aF bS;have lt:∀{g:Nat} {ob:Obj},w.heap[g]? =some ob->g<w.heap.size:=fun h=>(Array.getElem?_eq_some_iff.1 h).1;have ad:=bd.alloc w (.cells #[.slice (some ⟨bQ,0,none⟩) k k,.map (some cF),.bool false,aa 0,.bool false,aa 0,.slice (some ⟨gR,0,none⟩) k k] 95);have Hg:=lt gn;have mB:=lt fY;have TC:=lt a3;have n12:bQ≠cF:=fun e=>by subst e;rw[gn]at fY;cases fY
 have n13:bQ≠gR:=fun e=>by subst e;rw[gn]at a3;simp at a3
 have n23:cF≠gR:=fun e=>by subst e;rw[fY]at a3;cases a3
 have ju:=(ad.block bQ Hg).trans gn;have lD:=(ad.block cF mB).trans fY;have mX:=(ad.block gR TC).trans a3;have EG:=Bz w (.cells #[.slice (some ⟨bQ,0,none⟩) k k,.map (some cF),.bool false,aa 0,.bool false,aa 0,.slice (some ⟨gR,0,none⟩) k k] 95);have S6:fg (List.replicate k 0)=List.replicate k (aa 0):=by simp[fg]
 have BC:=so (g:=bQ) (k:=k) (c:=k) (sz:=1) (e:=22) ju (by simp) (Nat.le_refl _) (by simp only[maxLen];omega);have UA:=so (g:=gR) (k:=k) (c:=k) (sz:=1) (e:=3) mX (by simp) (Nat.le_refl _) (by simp only[maxLen];omega);have bu:∀e∈iP (b6.new k (w.heap.size,cF,bQ,gR)),∀g∈e.et,g=w.heap.size\/g=bQ\/g=cF\/g=gR:=fun e he g al=>by
  simp only[iP,bP,b6.new,List.mem_cons,List.not_mem_nil,or_false]at he;rcases he with rfl|rfl|rfl|rfl|rfl<;>simp[az.bb,az.row,az.e7,Value.ownBlock]at al<;>simp[al]
 refine⟨_,_,ap,ad,(w.heap.size,cF,bQ,gR),U,⟨fun e he=>?_,fun e he g al=>?_,?_⟩,fun g ⟨e,he,al⟩=>.inr ?_,ay⟩
 ·simp only[iP,bP,b6.new,List.mem_cons,List.not_mem_nil,or_false]at he;rcases he with rfl|rfl|rfl|rfl|rfl
  ·exact EG
  ·have:=BC;simp only[Nat.mul_one]at this;rw[List.take_of_length_le (by simp)]at this;exact this
  ·exact lD
  ·have:=UA;simp only[Nat.mul_one]at this;rw[List.take_of_length_le (by simp)]at this;rw[<-S6]at this;exact this
  ·intro q bE;simp only[List.mem_singleton]at bE;subst bE;exact Bytes.nil _
 ·have:=ad.size;rcases bu e he g al with rfl|rfl|rfl|rfl
  ·simp
  ·omega
  ·omega
  ·omega
 ·refine Ek ?_;show [w.heap.size,bQ,cF,gR].Nodup
  simp only[List.nodup_cons,List.mem_cons,List.not_mem_nil,or_false,not_or,List.nodup_nil,and_true,not_false_eq_true];exact⟨⟨by omega,by omega,by omega⟩,⟨n12,n13⟩,n23⟩
 ·rcases bu e he g al with rfl|rfl|rfl|rfl
  ·exact aL
  ·exact jc
  ·exact jr
  ·exact uG
theorem EZ{k:Nat}{w0:World}(h:1<=k)(an:k<=4096):aY prog 9 [aa (k:Int)] w0 [] (fun D:b6=>.tuple #[ai D.av 0,aa 0]) (fun D=>[ba D]) (fun D=>D.is D.av (bz.new k)):=by
 refine enter (n:=17) func9 U U U ?_;intro fr E;have M:=ht (Has.nil w0);refine aV E<|bs 3 U U ae<|bs 2 U U ae<|ah (v:=.bool _) 0 U U<|fun fr E=>?_;let w:World:=w0
 refine bN E<|bw 1 U fun fr E=>?_;refine(dR (B:=T.KV) (Vs:=(.af _::(.rel fun w' v=>n1 w.heap.size 22 k (.slice none 0 0) w' v)::(.rel fun w' v=>rr w.heap.size w' v):: .af _::(.rel fun w' v=>n1 w.heap.size 3 k (aa 0) w' v)::(.rel fun w' v=>sN w.heap.size k w' v)::cL w.heap.size [] (fun q:Nat×Nat×Nat×Nat=>ai q.1 0) (fun q=>iP (b6.new k q)) (fun _=>True)::cL w.heap.size ([]) (fun q:Nat×Nat×Nat×Nat=>ai q.1 0) (fun q=>iP (b6.new k q)) (fun _=>True):: .af _::[])) T.Zt E T.mixed T.Zs U (fH.dF ⟨ay,(fun w w' v ad h=>h.ext ad),(fun w w' v ad h=>h.ext ad),ay,(fun w w' v ad h=>h.ext ad),(fun w w' v ad h=>h.ext ad),cn.hx,cn.hx,ay,ay⟩) ⟨aw U U,
   h3 U U (fun x w ad ab=>⟨U,U,U,Hw ad.size U U U U U T.gN T.zp T.aay T.w5 ae⟩),
   h3 U U (fun x w ad ab=>⟨U,U,U,TP ad.size U⟩),
   aw U U,
   h3 U U (fun x w ad ab=>⟨U,U,U,Hw ad.size U U U U U T.en T.LA T.Lx T.ED ae⟩),
   h3 U U (fun x w ad ab=>⟨U,U,U,Ui (ab 1 U) (ab 2 U) (ab 4 U) U U U U T.ZZ T.aaL⟩),
   h3 U U (fun x w ad ab=>⟨U,U,U,Uh ae ae ad.size (ab 5 U) U U⟩),
   lk (j:=6) U U U U (fun x w y bn=>⟨U,U,U,ku U bn⟩),
   aw U U,ay⟩ ?_)
 intro x fr w ad ab E;obtain⟨q,bn, -,M⟩:=M.kG (val:=fun q:Nat×Nat×Nat×Nat=>ai q.1 0) (outs:=fun q=>iP (b6.new k q)) (p:=fun _=>True) ad (ab 7 aN);have E:=Env.gD (t:=2) E rfl bn;refine cm E<|aU 0 U fun fr E=>?_;refine fN E U U U ?_;have M:Mem w0 (aS []) (iP (b6.new k q)++[]) (fun _=>True) w:=M;exact⟨b6.new k q,U,M.pack.fin (List.Sublist.refl _) (b6.Uj k q ae)⟩
theorem mR{D:b6}{g:Nat}{A:bz}{w0:World}(H:Has w0 [ba D])(cb:D.is g A){j:Nat}(ax:j<A.n):aY prog 18 [ai g 0,aa (j:Int)] w0 [ba D] (fun x:Value×b6=>.tuple #[x.1,aa 0]) (fun x=>[az.bytes 5 x.1 (A.read j)]++[ba x.2]) (fun x=>x.2.is g (A.bump j)):=by
 obtain⟨av,bg,lv,aq,S⟩:=D;obtain⟨al,aR⟩:=cb;have al:av=g:=al;have aR:S.g7 A:=aR;subst al;have l2:j<S.n:=by rw[aR.n];exact ax
 have kR:j<S.reads.length:=by rw[aR.reads,aR.iI];exact ax
 have ak:({S with reads:=S.reads.set j (dC (S.reads[j]+1))}:di).g7 (A.bump j):=by
  refine⟨aR.n,aR.max,aR.len,?_,aR.last,aR.cache,aR.keys,aR.born,aR.dK,aR.left,aR.off,aR.writes,?_⟩
  ·show(A.reads.modify j _).length=_;simp[aR.iI,bz.bump]
  ·show S.reads.set j _=A.reads.modify j _
   have e:=aR.reads;rw[<-e];apply List.ext_getElem?;intro m;rw[List.getElem?_modify,List.getElem?_set];by_cases c:j=m
   ·subst c;simp[kR]
   ·simp[c]
 cases aJ:hz S.cache (j:Int)with
 |some v=>
  obtain⟨l,aj,an,aB⟩:=xg aR.cache aJ;have e:A.read j=l:=by unfold bz.read;rw[aj]
  rw[e];exact aY.packed (B:=fun x:Value×b6=>[az.bytes 5 x.1 l]) (C:=fun x=>iP x.2) (fun c4=>M5 c4 aR.ok l2 an aB aJ) H fun c _=>⟨(c,⟨av,bg,lv,aq,_⟩),U,U,U,ak⟩
 |none=>
  have aj:=Aa aR.cache aJ;obtain⟨v,aD⟩:∃v,S.dF[j]? =some v:=⟨_,List.getElem?_eq_getElem (by rw[aR.ok.len];exact l2)⟩
  obtain⟨l,an,aB,be⟩:=x9 aR.last aD;have e:A.read j=l:=by unfold bz.read;rw[aj,an];rfl
  rw[e];exact aY.packed (B:=fun x:Value×b6=>[az.bytes 5 x.1 l]) (C:=fun x=>iP x.2) (fun c4=>M6 c4 aR.ok l2 aB be aJ aD) H fun c _=>⟨(c,⟨av,bg,lv,aq,_⟩),U,U,U,ak⟩
theorem D7{D:b6}{g:Nat}{A:bz}{w0:World}(H:Has w0 [ba D])(cb:D.is g A){i:Int}{b:Value}{l:List UInt8}(ak:Bytes w0 b l)(cK:∀g,b.ownBlock=some g->g∉(ba D).et):aY prog 92 [ai g 0,aa i,b] w0 [ba D] (fun _:b6=>aa (A.write i l).1) (fun x=>[ba x]) (fun x=>x.is g (A.write i l).2):=by
 obtain⟨av,bg,lv,aq,S⟩:=D;obtain⟨al,aR⟩:=cb;have al:av=g:=al;have aR:S.g7 A:=aR;subst al;have j2:∀g,b.ownBlock=some g->¬aS (bP av bg lv aq S) g:=fun g al c=>cK g al (az.kq.2 c);have same:∀(lV:di) (r:Int),lV.g7 (A.write i l).2->(A.write i l).1=r->aY prog 92 [ai av 0,aa i,b] w0 (bP av bg lv aq S) (fun _:Unit=>aa r) (fun _=>bP av bg lv aq lV) (fun _=>True)->aY prog 92 [ai av 0,aa i,b] w0 [ba ⟨av,bg,lv,aq,S⟩] (fun _:b6=>aa (A.write i l).1) (fun x=>[ba x]) (fun x=>x.is av (A.write i l).2):=fun lV r aj an h=>
  aY.packed (B:=fun _:b6=>[]) (C:=fun x=>iP x) (fun _=>h) H fun _ _=>⟨⟨av,bg,lv,aq,lV⟩,by rw[an],rfl,rfl,aj⟩
 by_cases bG:A.off=true
 ·have e:A.write i l=(12,A):=by unfold bz.write;rw[if_pos bG]
  exact same S 12 (by rw[e];exact aR) (by rw[e]) (N4 H.hL aR.ok ak j2 (by rw[aR.off];exact bG))
 have hO:S.off=false:=by rw[aR.off];simpa using bG
 by_cases aj:A.there i
 ·have kL:0<=i/\i<(S.n:Int):=by rw[aR.n];exact aj
  by_cases an:1024<l.length
  ·have e:A.write i l=(3,A):=by unfold bz.write;rw[if_neg bG,if_neg (by simpa using aj),if_pos an]
   exact same S 3 (by rw[e];exact aR) (by rw[e]) (N3 H.hL aR.ok ak j2 hO kL an)
  ·by_cases aB:A.dK=true/\A.left=0
   ·have e:A.write i l=(12,{A with off:=true}):=by unfold bz.write;rw[if_neg bG,if_neg (by simpa using aj),if_neg an,if_pos aB]
    exact same {S with off:=true} 12 (by rw[e];exact⟨aR.n,aR.max,aR.len,aR.iI,aR.last,aR.cache,aR.keys,aR.born,aR.dK,aR.left,U,aR.writes,aR.reads⟩) (by rw[e]) (N2 H.hL aR.ok ak j2 hO kL an (by rw[aR.dK];exact aB.1) (by rw[aR.left];exact aB.2))
   ·have e:A.write i l=(0,{A with left:=dC (A.left-1),cache:=lb i l A.cache,writes:=dC (A.writes+1)}):=by unfold bz.write;rw[if_neg bG,if_neg (by simpa using aj),if_neg an,if_neg aB]
    have hw:∀v,(S.wrote i v l).g7 (A.write i l).2:=fun v=>by
     rw[e];refine⟨aR.n,aR.max,aR.len,aR.iI,ya aR.last,EU ae aR.cache,Em aj aR.keys,Tl aR.born,aR.dK,?_,aR.off,?_,aR.reads⟩
     ·show dC (S.left-1)=dC (A.left-1);rw[aR.left]
     ·show dC (S.writes+1)=dC (A.writes+1);rw[aR.writes]
    have fin:aY prog 92 [ai av 0,aa i,b] w0 (bP av bg lv aq S) (fun _:Value=>aa 0) (fun v=>bP av bg lv aq (S.wrote i v l)) (fun _=>True):=by
     cases bm:S.dK with
     |true=>exact N5 H.hL aR.ok ak j2 hO kL an bm (fun c=>aB ⟨by rw[<-aR.dK];exact bm,by rw[<-aR.left];exact c⟩)
     |false=>exact N6 H.hL aR.ok ak j2 hO kL an bm
    exact aY.packed (B:=fun _:b6=>[]) (C:=fun x=>iP x) (fun _=>fin) H fun v _=>⟨⟨av,bg,lv,aq,_⟩,by rw[e],U,U,hw v⟩
 ·have kL:¬(0<=i/\i<(S.n:Int)):=by rw[aR.n];exact aj
  have e:A.write i l=(7,A):=by unfold bz.write;rw[if_neg bG,if_pos aj]
  exact same S 7 (by rw[e];exact aR) (by rw[e]) (N7 H.hL aR.ok ak j2 hO kL)
end
section
open Go.RowKit Go.a2 Go.Proofs Go.Proofs.Tryz
def di.sync(S:di):di:={S with left:=dC (S.left-1),dF:=S.dF.mapIdx fun j v=>(hz S.cache (j:Int)).getD v,cache:=[]}
theorem NG{av bg:Nat}{lv aq:Value}{S:di}{w0:World}(H:Has w0 (bP av bg lv aq S))(bJ:S.Ok)(h:S.off=true):aY prog 50 [ai av 0] w0 (bP av bg lv aq S) (fun _:Unit=>aa 12) (fun _=>bP av bg lv aq S) (fun _=>True):=by
 refine enter (n:=32) func50 U U U ?_;intro fr E;have M:=ht H;refine aV E<|bC (bP av bg lv aq S) M 2 U (ar U U T.rH) U (fun H=>Nw H bJ h) fun _ w _ M=>ah (v:=.bool _) 2 U U<|aU 3 U fun fr E=>?_;refine bi E U U ?_;exact⟨(),U,M.fin (List.Sublist.refl _) trivial⟩
theorem NE{av bg:Nat}{lv aq:Value}{S:di}{w0:World}(H:Has w0 (bP av bg lv aq S))(bJ:S.Ok)(h:S.off=false)(bm:S.dK=true)(aI:S.left=0):aY prog 50 [ai av 0] w0 (bP av bg lv aq S) (fun _:Unit=>aa 12) (fun _=>bP av bg lv aq {S with off:=true}) (fun _=>True):=by
 refine enter (n:=32) func50 U U U ?_;intro fr E;have M:=ht H;refine aV E<|bC (bP av bg lv aq S) M 2 U (ar U U T.rH) U (fun H=>DY H bJ h bm aI) fun _ w _ M=>ah (v:=.bool _) 2 U U<|aU 3 U fun fr E=>?_;refine bi E U U ?_;exact⟨(),U,M.fin (List.Sublist.refl _) trivial⟩
theorem ND{av bg:Nat}{lv aq:Value}{S:di}{w0:World}(H:Has w0 (bP av bg lv aq S))(bJ:S.Ok)(h:S.off=false)(bm:S.dK=true)(aI:¬S.left=0)(c2:(S.cache.map (·.key)).Nodup)(ik:∀e∈S.cache,0<=e.key/\e.key<(S.n:Int))(nF:(S.cache.map (·.born)).Nodup)(jy:∀e∈S.cache,e.born<S.clock):aY prog 50 [ai av 0] w0 (bP av bg lv aq S) (fun _:Unit=>aa 0) (fun _=>bP av bg lv aq S.sync) (fun _=>True):=by
 refine enter (n:=32) func50 U U U ?_;intro fr E;have M:=ht H;refine aV E<|bC (bP av bg lv aq S) M 2 U (ar U U T.rH) U (fun H=>DX H bJ h bm aI) fun _ w _ M=>ah (v:=.bool _) 2 U U<|ah (v:=.map _) 4 U (aE U U T.l7 (M.row (i:=0) U) U)<|bh (ob:=.mapIter (some bg) S.clock #[] S.clock) (fun g=>ai g 0) M 0 U (IZ U U T.mC (M.dG 2 U)) fun jN w M=>bw 0 U fun fr E=>?_;refine cI (fun d fr w=>∃seen:Array Nat,d=(leftOf (dv S.cache) seen).size/\Env [(0,ai av 0),(2,aa 0),(15,ai jN 0)] 32 fr/\Mem w0 (aS (bP av bg lv aq S)) (.bb jN (.mapIter (some bg) S.clock seen S.clock)::bP av bg lv aq {S with left:=dC (S.left-1),dF:=nW S.cache seen S.dF}) (fun _=>True) w) ((leftOf (dv S.cache) #[]).size) ?_ ?_
 ·refine⟨#[],U,E.lL [15,2,0] rfl,?_⟩;rw[Js];exact M
 ·clear E M;rintro d fr w ⟨seen,aT,E,M⟩;by_cases bG:(leftOf (dv S.cache) seen).size=0
  ·have iS:∀e∈S.cache,seen.contains e.born=true:=fun e he=>all_seen _ _ bG _ (Bp he);refine bA E<|ah (v:=.tuple #[.bool false]) 0 U (IY U U (M.dG 0 U) (M.dG 3 U) jy bG)<|ah (v:=.map _) 5 U (aE U U T.l7 (M.row (i:=1) U) U)<|cv 0 U fun fr E=>?_;refine yV (i:=3) E M U U U U U U U U U T.mC fun fr w M E=>?_;refine cw E<|aU 1 U fun fr E=>?_;refine bi E U U ?_;rw[Jr iS]at M;exact⟨(),U,Mem.fin (L:=_::bP av bg lv aq S.sync) M (List.sublist_cons_self _ _) trivial⟩
  ·refine bA E<|cv 0 U fun fr E=>?_;refine Ji (i:=0) (j:=3) E M U U U U U U U U U jy bG fun e he SP Bh fr w M E=>?_;obtain⟨i,hi,ox⟩:∃i:Nat,e.key=(i:Int)/\i<S.n:=⟨e.key.toNat,by have:=ik e he;omega,by have:=ik e he;omega⟩
   obtain⟨l,aI,rZ⟩:=bJ.cache e he;refine cw E<|ah (v:=.tuple #[_,_]) 2 U (IR U U (M.dG 0 U) (M.dG 3 U) he nF)<|ah 7 U (aE U U T.lu (M.row (i:=1) U) U)<|ah 2 U (bL (i:=i) U (M.reads 2 U) U U (hi) (ox) T.gN T.gM)<|cv 0 U fun fr E=>?_;refine wu (i:=2) (k:=i*1) (xs':=nW S.cache (seen.push e.born) S.dF) E M rfl rfl rfl rfl rfl rfl rfl rfl T.gM (by show i*1<S.n*1;omega) (by obtain⟨fI,fm,bV⟩:=Reads.slice (M.gr (i:=5) rfl aI);rw[show e.val=_ from bV];rfl) (by rw[Nat.mul_one];exact Jt he c2 nF hi) fun fr w M E=>?_;refine cw E<|ct 0 U fun fr E=>?_;exact⟨_,by rw[aT];exact Bh,seen.push e.born,U,E.lL [15,2,0] rfl,M⟩
theorem NF{av bg:Nat}{lv aq:Value}{S:di}{w0:World}(H:Has w0 (bP av bg lv aq S))(bJ:S.Ok)(h:S.off=false)(bm:S.dK=false)(c2:(S.cache.map (·.key)).Nodup)(ik:∀e∈S.cache,0<=e.key/\e.key<(S.n:Int))(nF:(S.cache.map (·.born)).Nodup)(jy:∀e∈S.cache,e.born<S.clock):aY prog 50 [ai av 0] w0 (bP av bg lv aq S) (fun _:Unit=>aa 0) (fun _=>bP av bg lv aq S.sync) (fun _=>True):=by
 refine enter (n:=32) func50 U U U ?_;intro fr E;have M:=ht H;refine aV E<|bC (bP av bg lv aq S) M 2 U (ar U U T.rH) U (fun H=>DZ H bJ h bm) fun _ w _ M=>ah (v:=.bool _) 2 U U<|ah (v:=.map _) 4 U (aE U U T.l7 (M.row (i:=0) U) U)<|bh (ob:=.mapIter (some bg) S.clock #[] S.clock) (fun g=>ai g 0) M 0 U (IZ U U T.mC (M.dG 2 U)) fun jN w M=>bw 0 U fun fr E=>?_;refine cI (fun d fr w=>∃seen:Array Nat,d=(leftOf (dv S.cache) seen).size/\Env [(0,ai av 0),(2,aa 0),(15,ai jN 0)] 32 fr/\Mem w0 (aS (bP av bg lv aq S)) (.bb jN (.mapIter (some bg) S.clock seen S.clock)::bP av bg lv aq {S with left:=dC (S.left-1),dF:=nW S.cache seen S.dF}) (fun _=>True) w) ((leftOf (dv S.cache) #[]).size) ?_ ?_
 ·refine⟨#[],U,E.lL [15,2,0] rfl,?_⟩;rw[Js];exact M
 ·clear E M;rintro d fr w ⟨seen,aT,E,M⟩;by_cases bG:(leftOf (dv S.cache) seen).size=0
  ·have iS:∀e∈S.cache,seen.contains e.born=true:=fun e he=>all_seen _ _ bG _ (Bp he);refine bA E<|ah (v:=.tuple #[.bool false]) 0 U (IY U U (M.dG 0 U) (M.dG 3 U) jy bG)<|ah (v:=.map _) 5 U (aE U U T.l7 (M.row (i:=1) U) U)<|cv 0 U fun fr E=>?_;refine yV (i:=3) E M U U U U U U U U U T.mC fun fr w M E=>?_;refine cw E<|aU 1 U fun fr E=>?_;refine bi E U U ?_;rw[Jr iS]at M;exact⟨(),U,Mem.fin (L:=_::bP av bg lv aq S.sync) M (List.sublist_cons_self _ _) trivial⟩
  ·refine bA E<|cv 0 U fun fr E=>?_;refine Ji (i:=0) (j:=3) E M U U U U U U U U U jy bG fun e he SP Bh fr w M E=>?_;obtain⟨i,hi,ox⟩:∃i:Nat,e.key=(i:Int)/\i<S.n:=⟨e.key.toNat,by have:=ik e he;omega,by have:=ik e he;omega⟩
   obtain⟨l,aI,rZ⟩:=bJ.cache e he;refine cw E<|ah (v:=.tuple #[_,_]) 2 U (IR U U (M.dG 0 U) (M.dG 3 U) he nF)<|ah 7 U (aE U U T.lu (M.row (i:=1) U) U)<|ah 2 U (bL (i:=i) U (M.reads 2 U) U U (hi) (ox) T.gN T.gM)<|cv 0 U fun fr E=>?_;refine wu (i:=2) (k:=i*1) (xs':=nW S.cache (seen.push e.born) S.dF) E M rfl rfl rfl rfl rfl rfl rfl rfl T.gM (by show i*1<S.n*1;omega) (by obtain⟨fI,fm,bV⟩:=Reads.slice (M.gr (i:=5) rfl aI);rw[show e.val=_ from bV];rfl) (by rw[Nat.mul_one];exact Jt he c2 nF hi) fun fr w M E=>?_;refine cw E<|ct 0 U fun fr E=>?_;exact⟨_,by rw[aT];exact Bh,seen.push e.born,U,E.lL [15,2,0] rfl,M⟩
end
section
open Go.RowKit Go.a2 Go.Proofs Go.Proofs.Tryz
def bz.sync(A:bz):Int×bz:=if A.off=true then(12,A)else if A.dK=true/\A.left=0 then(12,{A with off:=true})else(0,{A with left:=dC (A.left-1),last:=A.last.mapIdx fun j l=>(h0 A.cache (j:Int)).getD l,cache:=[]})
theorem Hp{ps:List (Value×List UInt8)}:∀{vs:List Value} {ls:List (List UInt8)} {f:Nat->Value->Value} {g:Nat->List UInt8->List UInt8},(∀j v l,(v,l)∈ps->l.length<=1024->(f j v,g j l)∈ps/\(g j l).length<=1024)->k8 ps vs ls->k8 ps (vs.mapIdx f) (ls.mapIdx g)
 |[],[],_,_,_,_=>by simp[k8]
 |[],_::_,_,_,_,h=>h.elim
 |_::_,[],_,_,_,h=>h.elim
 |v::vs,l::ls,f,g,bu,h=>by
  rw[List.mapIdx_cons,List.mapIdx_cons];exact⟨bu 0 v l h.1.1 h.1.2,Hp (fun j v l aj an=>bu (j+1) v l aj an) h.2⟩
theorem xe{ps:List (Value×List UInt8)}:∀{es:List eT} {c:List (Int×List UInt8)},mP ps es c->es.map (·.key)=c.map (·.1)
 |[],[],_=>rfl
 |[],_::_,h=>h.elim
 |_::_,[],h=>h.elim
 |e::r,p::q,h=>by rw[List.map_cons,List.map_cons,h.1.1,xe h.2]
theorem di.g7.vF{S:di}{A:bz}(h:S.g7 A):∀e∈S.cache,0<=e.key/\e.key<(S.n:Int):=fun e he=>by
 have aj:e.key∈A.cache.map (·.1):=by rw[<-xe h.cache];exact List.mem_map.2 ⟨e,he,rfl⟩
 obtain⟨p,hp,SG⟩:=List.mem_map.1 aj;have:=h.keys.2 p hp;unfold bz.there at this;rw[SG]at this;rw[h.n];exact this
theorem di.g7.tv{S:di}{A:bz}(h:S.g7 A):(S.cache.map (·.key)).Nodup:=by rw[xe h.cache];exact h.keys.1
theorem di.g7.mK{S:di}{A:bz}(h:S.g7 A):S.sync.g7 {A with left:=dC (A.left-1),last:=A.last.mapIdx fun j l=>(h0 A.cache (j:Int)).getD l,cache:=[]}:=by
 refine⟨h.n,h.max,by simp[h.len],h.iI,Hp (fun j v l aj an=>?_) h.last,ay,⟨List.nodup_nil,fun p hp=>nomatch hp⟩,⟨List.nodup_nil,fun e he=>nomatch he⟩,h.dK,?_,h.off,h.writes,h.reads⟩
 ·cases aJ:hz S.cache (j:Int)with
  |none=>rw[Aa h.cache aJ];exact⟨aj,an⟩
  |some u=>obtain⟨m,aB,be,bZ⟩:=xg h.cache aJ;rw[aB];exact⟨be,bZ⟩
 ·show dC (S.left-1)=dC (A.left-1);rw[h.left]
theorem NC{D:b6}{g:Nat}{A:bz}{w0:World}(H:Has w0 [ba D])(cb:D.is g A):aY prog 50 [ai g 0] w0 [ba D] (fun _:b6=>aa A.sync.1) (fun x=>[ba x]) (fun x=>x.is g A.sync.2):=by
 obtain⟨av,bg,lv,aq,S⟩:=D;obtain⟨al,aR⟩:=cb;have al:av=g:=al;have aR:S.g7 A:=aR;subst al;have same:∀(lV:di) (r:Int),lV.g7 A.sync.2->A.sync.1=r->aY prog 50 [ai av 0] w0 (bP av bg lv aq S) (fun _:Unit=>aa r) (fun _=>bP av bg lv aq lV) (fun _=>True)->aY prog 50 [ai av 0] w0 [ba ⟨av,bg,lv,aq,S⟩] (fun _:b6=>aa A.sync.1) (fun x=>[ba x]) (fun x=>x.is av A.sync.2):=fun lV r aj an h=>
  aY.packed (B:=fun _:b6=>[]) (C:=fun x=>iP x) (fun _=>h) H fun _ _=>⟨⟨av,bg,lv,aq,lV⟩,by rw[an],rfl,rfl,aj⟩
 by_cases bG:A.off=true
 ·have e:A.sync=(12,A):=by unfold bz.sync;rw[if_pos bG]
  exact same S 12 (by rw[e];exact aR) (by rw[e]) (NG H.hL aR.ok (by rw[aR.off];exact bG))
 have hO:S.off=false:=by rw[aR.off];simpa using bG
 by_cases aB:A.dK=true/\A.left=0
 ·have e:A.sync=(12,{A with off:=true}):=by unfold bz.sync;rw[if_neg bG,if_pos aB]
  exact same {S with off:=true} 12 (by rw[e];exact⟨aR.n,aR.max,aR.len,aR.iI,aR.last,aR.cache,aR.keys,aR.born,aR.dK,aR.left,U,aR.writes,aR.reads⟩) (by rw[e]) (NE H.hL aR.ok hO (by rw[aR.dK];exact aB.1) (by rw[aR.left];exact aB.2))
 ·have e:A.sync=(0,{A with left:=dC (A.left-1),last:=A.last.mapIdx fun j l=>(h0 A.cache (j:Int)).getD l,cache:=[]}):=by unfold bz.sync;rw[if_neg bG,if_neg aB]
  refine same S.sync 0 (by rw[e];exact aR.mK) (by rw[e]) ?_;cases bm:S.dK with
  |true=>exact ND H.hL aR.ok hO bm (fun c=>aB ⟨by rw[<-aR.dK];exact bm,by rw[<-aR.left];exact c⟩) aR.tv aR.vF aR.born.1 aR.born.2
  |false=>exact NF H.hL aR.ok hO bm aR.tv aR.vF aR.born.1 aR.born.2
end
section
open Go.RowKit Go.a2 Go.Proofs Go.Proofs.Tryz
theorem Mr{bg:Nat}{w0:World}:aY prog 164 [.map (some bg)] w0 [] (fun g=>.func (.func 196) #[] #[ai g 0]) (fun g:Nat=>[.bb g (.cells #[.map (some bg)] 93)]) (fun _=>True):=by
 refine enter (n:=4) func164 U U U ?_;intro fr E;have M:=ht (Has.nil w0);refine aV E<|bh (ob:=.cells (#[.map (some bg)]) 93) (fun g=>ai g 0) M 0 U (Ca (v:=_) U U U) fun aZ w M=>ah (v:=.func (.func 196) #[] #[ai aZ 0]) 1 U (Wn U U)<|aU 1 U fun fr E=>?_;refine bi E U U ?_;exact⟨aZ,U,Mem.fin (L:=[.bb aZ (.cells #[.map (some bg)] 93)]) M (List.Sublist.refl _) trivial⟩
end
section
open Go.RowKit Go.a2 Go.Proofs Go.Shelf Go.Proofs.Tryz
attribute [local go_sem] Oper.semAt_some
end
end Go.Proofs.YtckdfgknodedoaaGreatDoor.K
section
end
namespace Go.Proofs.YtckdfgknodedoaaGreatDoor.K
section
open Go.RowKit Go.a2 Go.Proofs Go.Proofs.Tryz
def di.ub(S:di)(j:Nat)(v:Value)(l:List UInt8):di:={S with dF:=S.dF.set j v,cache:=lK (j:Int) S.cache,ps:=(v,l)::S.ps}
theorem NP{av bg:Nat}{lv aq:Value}{S:di}{w0:World}(H:Has w0 (bP av bg lv aq S))(bJ:S.Ok){i:Int}{b:Value}{l:List UInt8}(ak:Bytes w0 b l)(cK:∀g,b.ownBlock=some g->¬aS (bP av bg lv aq S) g)(h:¬(0<=i/\i<(S.n:Int))):aY prog 49 [ai av 0,aa i,b] w0 (bP av bg lv aq S) (fun _:Unit=>aa 7) (fun _=>bP av bg lv aq S) (fun _=>True):=by
 refine enter (n:=28) func49 U U U ?_;intro fr E;have M:=Mem.begin (Φ:=fun w'=>Bytes w' b l) H (fun w' h=>Reads.held ak h cK);refine aV E<|bC (bP av bg lv aq S) M 4 U (ar U U T.oh) U (fun H=>Lt H bJ M.fact cK h) fun _ w _ M=>ah (v:=.bool _) 2 U U<|aU 3 U fun fr E=>?_;refine bi E U U ?_;exact⟨(),U,M.fin (List.Sublist.refl _) trivial⟩
theorem NN{av bg:Nat}{lv aq:Value}{S:di}{w0:World}(H:Has w0 (bP av bg lv aq S))(bJ:S.Ok){i:Int}{b:Value}{l:List UInt8}(ak:Bytes w0 b l)(cK:∀g,b.ownBlock=some g->¬aS (bP av bg lv aq S) g)(h:0<=i/\i<(S.n:Int))(aI:1024<l.length):aY prog 49 [ai av 0,aa i,b] w0 (bP av bg lv aq S) (fun _:Unit=>aa 3) (fun _=>bP av bg lv aq S) (fun _=>True):=by
 refine enter (n:=28) func49 U U U ?_;intro fr E;have M:=Mem.begin (Φ:=fun w'=>Bytes w' b l) H (fun w' h=>Reads.held ak h cK);refine aV E<|bC (bP av bg lv aq S) M 4 U (ar U U T.oh) U (fun H=>Ls H bJ M.fact cK h aI) fun _ w _ M=>ah (v:=.bool _) 2 U U<|aU 3 U fun fr E=>?_;refine bi E U U ?_;exact⟨(),U,M.fin (List.Sublist.refl _) trivial⟩
theorem NO{av bg:Nat}{lv aq:Value}{S:di}{w0:World}(H:Has w0 (bP av bg lv aq S))(bJ:S.Ok){j:Nat}{b:Value}{l:List UInt8}(ak:Bytes w0 b l)(cK:∀g,b.ownBlock=some g->¬aS (bP av bg lv aq S) g)(ax:j<S.n)(h:0<=(j:Int)/\(j:Int)<(S.n:Int))(aI:¬1024<l.length):aY prog 49 [ai av 0,aa (j:Int),b] w0 (bP av bg lv aq S) (fun _:Value=>aa 0) (fun v=>bP av bg lv aq (S.ub j v l)) (fun _=>True):=by
 refine enter (n:=28) func49 U U U ?_;intro fr E;have M:=Mem.begin (Φ:=fun w'=>Bytes w' b l) H (fun w' h=>Reads.held ak h cK);refine aV E<|bC (bP av bg lv aq S) M 4 U (ar U U T.oh) U (fun H=>zi H bJ M.fact cK h aI) fun _ w _ M=>ah (v:=.bool _) 2 U U<|bw 1 U fun fr E=>?_;refine(ii (B:=T.CZ) (Vs:=(.af _:: .af _:: .af (ai _ 0):: .af _:: .af _:: .af _::cV w.heap.size (fun v=>[.bytes 5 v l]) (fun _=>True):: .af _::[])) T.KA 8 E T.mixed T.Kz U U U (fH.dF ⟨ay,ay,ay,ay,ay,ay,cn.df,ay,ay⟩) ⟨aw U U,
   aw U U,
   aw U U,
   aC U U (fun x w ad ab=>aE U U T.lu ((M.aQ ad).row (i:=0) U) U),
   aw U U,
   aw U U,
   cE U U (fun x w ad ab=>⟨_,_,U,U,U,ar U U T.rN,(sJ (M.aQ ad).fact ae).eN ad.size⟩),
   aC U U (fun x w ad ab=>bL (i:=j) U ((M.aQ ad).reads 1 U) U U (rfl) (ax) T.gN T.gM),ay⟩ ?_)
 intro x fr w ad ab E;have M:=M.jb ad (ab 6 aN).1 (ab 6 aN).2.1;refine x6 (i:=2) (k:=j*1) (u:=x 6) (xs':=S.dF.set j (x 6)) E M rfl rfl rfl rfl rfl rfl rfl rfl rfl T.gM ae (by obtain⟨fI,fm,bV⟩:=Reads.slice (M.bytes 0 rfl);rw[bV];rfl) (by rw[Nat.mul_one]) fun fr w M E=>?_;refine cm E<|ah (v:=.map _) 3 U (aE U U T.l7 (M.row (i:=1) U) U)<|cv 1 U fun fr E=>?_;refine Jg (i:=3) E M U U U U U U U U U U T.mC fun fr w M E=>?_;refine cw E<|aU 1 U fun fr E=>?_;refine bi E U U ?_;have M:=(M.aH 5 rfl).aH 1 rfl;have M:=M.nT.perm (L':=bP av bg lv aq (S.ub j _ l)) (yu _ _ _ _ _);exact⟨_,U,M.fin (List.Sublist.refl _) trivial⟩
theorem LJ{av bg:Nat}{lv aq:Value}{S:di}{w0:World}(H:Has w0 (bP av bg lv aq S))(bJ:S.Ok)(n:Int):aY prog 52 [ai av 0,aa n] w0 (bP av bg lv aq S) (fun _:Unit=>.tuple #[]) (fun _=>bP av bg lv aq {S with dK:=decide (0<=n),left:=n}) (fun _=>True):=by
 refine enter (n:=13) func52 U U U ?_;intro fr E;have M:=ht H;refine aV E<|ah (v:=.bool (decide (0<=n))) 3 U U<|bj (i:=0) (cs':= #[_,_,_,_,_,_,_]) M 3 U U (cy (v:=_) U U U T.kf (M.row (i:=0) U) (rfl) (rfl) (rfl)) U fun w M=>bj (i:=0) (cs':= #[_,_,_,_,_,_,_]) M 2 U U (cy (v:=_) U U U T.c3 (M.row (i:=0) U) (rfl) (rfl) (rfl)) U fun w M=>aU 0 U fun fr E=>?_;refine pQ E U ?_;exact⟨(),U,M.fin (List.Sublist.refl _) trivial⟩
def bz.gf(A:bz)(i:Int)(l:List UInt8):Int×bz:=if¬A.there i then(7,A)else if 1024<l.length then(3,A)else(0,{A with last:=A.last.set i.toNat l,cache:=A.cache.filter fun p=> !(p.1==i)})
def bz.mV(A:bz)(n:Int):bz:={A with dK:=decide (0<=n),left:=n}
theorem LI{D:b6}{g:Nat}{A:bz}{w0:World}(H:Has w0 [ba D])(cb:D.is g A)(n:Int):aY prog 52 [ai g 0,aa n] w0 [ba D] (fun _:b6=>.tuple #[]) (fun x=>[ba x]) (fun x=>x.is g (A.mV n)):=by
 obtain⟨av,bg,lv,aq,S⟩:=D;obtain⟨al,aR⟩:=cb;have al:av=g:=al;have aR:S.g7 A:=aR;subst al;exact aY.packed (B:=fun _:b6=>[]) (C:=fun x=>iP x) (fun _=>LJ H.hL aR.ok n) H fun _ _=>⟨⟨av,bg,lv,aq,{S with dK:=decide (0<=n),left:=n}⟩,U,U,U,⟨aR.n,aR.max,aR.len,aR.iI,aR.last,aR.cache,aR.keys,aR.born,U,U,aR.off,aR.writes,aR.reads⟩⟩
theorem yb{ps:List (Value×List UInt8)}{u:Value}{k:List UInt8}(hu:(u,k)∈ps/\k.length<=1024):∀{vs:List Value} {ls:List (List UInt8)} {j:Nat},k8 ps vs ls->k8 ps (vs.set j u) (ls.set j k)
 |[],[],_,_=>trivial
 |[],_::_,_,h=>h.elim
 |_::_,[],_,h=>h.elim
 |v::vs,l::ls,0,h=>⟨hu,h.2⟩
 |v::vs,l::ls,j+1,h=>⟨h.1,yb hu h.2⟩
theorem z7{ps:List (Value×List UInt8)}{q:Int}:∀{es:List eT} {c:List (Int×List UInt8)},(c.map (·.1)).Nodup->mP ps es c->mP ps (lK q es) (c.filter fun p=> !(p.1==q))
 |[],[],_,_=>trivial
 |[],_::_,_,h=>h.elim
 |_::_,[],_,h=>h.elim
 |e::r,p::s,a6,h=>by
  rw[List.map_cons,List.nodup_cons]at a6;rw[List.filter_cons];unfold lK;by_cases bE:q=e.key
  ·have hp:p.1=q:=by rw[bE];exact h.1.1.symm
   rw[if_pos bE,if_neg (by simp[hp])];rw[List.filter_eq_self.2 fun x ad=>by
    simp only[Bool.not_eq_true',beq_eq_false_iff_ne];exact fun c=>a6.1 (List.mem_map.2 ⟨x,ad,c.trans hp.symm⟩)]
   exact h.2
  ·have hp:¬p.1=q:=fun c=>bE (c.symm.trans h.1.1.symm);rw[if_neg bE,if_pos (by simpa using hp)];exact⟨h.1,z7 a6.2 h.2⟩
theorem vA(q:Int):∀es:List eT,(lK q es).Sublist es
 |[]=>.slnil
 |e::r=>by
  unfold lK;split
  ·exact List.sublist_cons_self _ _
  ·exact(vA q r).cons_cons _
theorem D4{D:b6}{g:Nat}{A:bz}{w0:World}(H:Has w0 [ba D])(cb:D.is g A){i:Int}{b:Value}{l:List UInt8}(ak:Bytes w0 b l)(cK:∀g,b.ownBlock=some g->g∉(ba D).et):aY prog 49 [ai g 0,aa i,b] w0 [ba D] (fun _:b6=>aa (A.gf i l).1) (fun x=>[ba x]) (fun x=>x.is g (A.gf i l).2):=by
 obtain⟨av,bg,lv,aq,S⟩:=D;obtain⟨al,aR⟩:=cb;have al:av=g:=al;have aR:S.g7 A:=aR;subst al;have j2:∀g,b.ownBlock=some g->¬aS (bP av bg lv aq S) g:=fun g al c=>cK g al (az.kq.2 c);have same:∀(r:Int),A.gf i l=(r,A)->aY prog 49 [ai av 0,aa i,b] w0 (bP av bg lv aq S) (fun _:Unit=>aa r) (fun _=>bP av bg lv aq S) (fun _=>True)->aY prog 49 [ai av 0,aa i,b] w0 [ba ⟨av,bg,lv,aq,S⟩] (fun _:b6=>aa (A.gf i l).1) (fun x=>[ba x]) (fun x=>x.is av (A.gf i l).2):=fun r e h=>
  aY.packed (B:=fun _:b6=>[]) (C:=fun x=>iP x) (fun _=>h) H fun _ _=>⟨⟨av,bg,lv,aq,S⟩,by rw[e],rfl,rfl,by rw[e];exact aR⟩
 by_cases aj:A.there i
 ·have kL:0<=i/\i<(S.n:Int):=by rw[aR.n];exact aj
  by_cases an:1024<l.length
  ·exact same 3 (by unfold bz.gf;rw[if_neg (by simpa using aj),if_pos an]) (NN H.hL aR.ok ak j2 kL an)
  ·have e:A.gf i l=(0,{A with last:=A.last.set i.toNat l,cache:=A.cache.filter fun p=> !(p.1==i)}):=by unfold bz.gf;rw[if_neg (by simpa using aj),if_neg an]
   obtain⟨j,rfl⟩:∃j:Nat,i=(j:Int):=⟨i.toNat,by omega⟩
   have ax:j<S.n:=by omega
   refine aY.packed (B:=fun _:b6=>[]) (C:=fun x=>iP x) (fun _=>NO (j:=j) H.hL aR.ok ak j2 ax kL an) H fun v _=>⟨⟨av,bg,lv,aq,S.ub j v l⟩,by rw[e],U,U,?_⟩
   rw[e];refine⟨aR.n,aR.max,by simp[aR.len],aR.iI,yb ⟨List.mem_cons_self ..,by omega⟩ (ya aR.last),z7 aR.keys.1 (xf aR.cache),⟨?_,fun p hp=>aR.keys.2 p (List.mem_filter.1 hp).1⟩,⟨((vA _ _).map _).nodup aR.born.1,fun x ad=>aR.born.2 x ((vA _ _).mem ad)⟩,aR.dK,aR.left,aR.off,aR.writes,aR.reads⟩;exact(List.filter_sublist.map _).nodup aR.keys.1
 ·have kL:¬(0<=i/\i<(S.n:Int)):=by rw[aR.n];exact aj
  exact same 7 (by unfold bz.gf;rw[if_pos aj]) (NP H.hL aR.ok ak j2 kL)
end
section
open Go.RowKit Go.a2 Go.Proofs Go.Proofs.Tryz
theorem fc{w w':World}{g:Nat}{o:Obj}(h:w.heap[g]? =some o)(H:gI (aS []) w w'):w'.heap[g]? =some o:=(H.block g (Array.getElem?_eq_some_iff.1 h).1 (fun c=>gQ c)).trans h
abbrev g8:=BitVec 32
def cN(x:g8)(n:Nat):g8:=x >>> n ||| x <<<(32-n)
def bt:List g8:=[
 0x428a2f98#32,0x71374491#32,0xb5c0fbcf#32,0xe9b5dba5#32,0x3956c25b#32,0x59f111f1#32,0x923f82a4#32,0xab1c5ed5#32,
 0xd807aa98#32,0x12835b01#32,0x243185be#32,0x550c7dc3#32,0x72be5d74#32,0x80deb1fe#32,0x9bdc06a7#32,0xc19bf174#32,
 0xe49b69c1#32,0xefbe4786#32,0x0fc19dc6#32,0x240ca1cc#32,0x2de92c6f#32,0x4a7484aa#32,0x5cb0a9dc#32,0x76f988da#32,
 0x983e5152#32,0xa831c66d#32,0xb00327c8#32,0xbf597fc7#32,0xc6e00bf3#32,0xd5a79147#32,0x06ca6351#32,0x14292967#32,
 0x27b70a85#32,0x2e1b2138#32,0x4d2c6dfc#32,0x53380d13#32,0x650a7354#32,0x766a0abb#32,0x81c2c92e#32,0x92722c85#32,
 0xa2bfe8a1#32,0xa81a664b#32,0xc24b8b70#32,0xc76c51a3#32,0xd192e819#32,0xd6990624#32,0xf40e3585#32,0x106aa070#32,
 0x19a4c116#32,0x1e376c08#32,0x2748774c#32,0x34b0bcb5#32,0x391c0cb3#32,0x4ed8aa4a#32,0x5b9cca4f#32,0x682e6ff3#32,
 0x748f82ee#32,0x78a5636f#32,0x84c87814#32,0x8cc70208#32,0x90befffa#32,0xa4506ceb#32,0xbef9a3f7#32,0xc67178f2#32]
def wX(l:List UInt8)(i:Nat):g8:=(l.getD i 0).toBitVec.setWidth 32
def qc(l:List UInt8)(t:Nat):g8:=wX l (4*t)<<< 24 ||| wX l (4*t+1)<<< 16 ||| wX l (4*t+2)<<< 8 ||| wX l (4*t+3)
def Jb(y:g8):g8:=cN y 7 ^^^ cN y 18 ^^^ y >>> 3
def Jc(x:g8):g8:=cN x 17 ^^^ cN x 19 ^^^ x >>> 10
def yj(l:List g8):g8:=Jc (l.getD (l.length-2) 0)+l.getD (l.length-7) 0+Jb (l.getD (l.length-15) 0)+l.getD (l.length-16) 0
def b0(b:List UInt8):Nat->List g8
 |0=>[]
 |t+1=>b0 b t++[if t<16 then qc b t else yj (b0 b t)]
theorem tW(b:List UInt8):∀n,(b0 b n).length=n
 |0=>rfl
 |n+1=>by rw[b0,List.length_append,tW b n];rfl
structure dW where
 a:g8
 b:g8
 c:g8
 d:g8
 e:g8
 f:g8
 g:g8
 h:g8
def dW.list(s:dW):List g8:=[s.a,s.b,s.c,s.d,s.e,s.f,s.g,s.h]
def dW.t1(s:dW)(k w:g8):g8:=s.h+(cN s.e 6 ^^^ cN s.e 11 ^^^ cN s.e 25)+(s.e &&& s.f ^^^ ~~~s.e &&& s.g)+k+w
def dW.t2(s:dW):g8:=(cN s.a 2 ^^^ cN s.a 13 ^^^ cN s.a 22)+(s.a &&& s.b ^^^ s.a &&& s.c ^^^ s.b &&& s.c)
def dW.step(s:dW)(k w:g8):dW:=⟨s.t1 k w+s.t2,s.a,s.b,s.c,s.d+s.t1 k w,s.e,s.f,s.g⟩
def dW.rounds(b:List UInt8)(s:dW):Nat->dW
 |0=>s
 |t+1=>(dW.rounds b s t).step (bt.getD t 0) ((b0 b 64).getD t 0)
def dW.add(s t:dW):dW:=⟨s.a+t.a,s.b+t.b,s.c+t.c,s.d+t.d,s.e+t.e,s.f+t.f,s.g+t.g,s.h+t.h⟩
def dW.take(s:dW)(b:List UInt8):dW:=s.add (s.rounds b 64)
def dW.first:dW:=⟨0x6a09e667#32,0xbb67ae85#32,0x3c6ef372#32,0xa54ff53a#32,0x510e527f#32,0x9b05688c#32,0x1f83d9ab#32,0x5be0cd19#32⟩
def fD:Nat->dW->List UInt8->dW
 |0,s,_=>s
 |n+1,s,l=>fD n (s.take (l.take 64)) (l.drop 64)
def fU(n:Nat):Nat:=(119-n%64)%64
def jH(l:List UInt8):List UInt8:=l++(128::(List.replicate (fU l.length) 0++aO ((l.length*8:Nat):Int)))
def H8(s:dW)(i:Nat):BitVec 8:=(s.list.getD (i/4) 0 >>>(24-8*(i%4))).setWidth 8
def iu(s:dW):List UInt8:=(List.range 32).map fun i=>⟨H8 s i⟩
def fy(l:List UInt8):List UInt8:=iu (fD ((jH l).length/64) dW.first (jH l))
theorem Ja(l:List UInt8):(jH l).length=l.length+1+fU l.length+8:=by simp[jH,eo];omega
theorem IG{m:Nat}:∀{n:Nat} {s:dW} {a b:List UInt8},a.length=64*n->fD (n+m) s (a++b)=fD m (fD n s a) b
 |0,s,a,b,h=>by
  obtain rfl:a=[]:=List.eq_nil_of_length_eq_zero ae;rw[Nat.zero_add];rfl
 |n+1,s,a,b,h=>by
  rw[show n+1+m=(n+m)+1 by omega,fD,fD,List.take_append_of_le_length ae,List.drop_append_of_le_length ae];exact IG (by simp;omega)
def mf(b:List UInt8)(t:Nat):List Value:=a7 (b0 b t++List.replicate (64-t) 0)
section
variable{b:List UInt8}{t i:Nat}
theorem Le(h:t<=64):(mf b t).length=64:=by simp[mf,a7,tW];omega
theorem wC(h:i<t):(mf b t).toArray[i]? =some (v32 ((b0 b t).getD i 0)):=by
 have aI:i<(b0 b t).length:=by rw[tW];exact h
 simp only[mf,a7,List.getElem?_toArray,List.getElem?_map];rw[List.getElem?_append_left aI,List.getD_eq_getElem?_getD,List.getElem?_eq_getElem aI];rfl
theorem Lf(h:t<64){x:g8}(ad:x=if t<16 then qc b t else yj (b0 b t)):(mf b t).set t (v32 x)=mf b (t+1):=by
 subst ad;have cz:(b0 b t).length=t:=tW b t;have c6:64-t=(64-(t+1))+1:=by omega
 unfold mf a7;rw[c6,List.replicate_succ,b0,List.map_append,List.map_append,List.set_append_right _ _ (by simp[cz]),List.length_map,cz,Nat.sub_self,List.map_append,List.append_assoc];rfl
theorem HP(h:16<=t):yj (b0 b t)=(cN ((b0 b t).getD (t-2) 0) 17 ^^^ cN ((b0 b t).getD (t-2) 0) 19 ^^^(b0 b t).getD (t-2) 0 >>> 10)+(b0 b t).getD (t-7) 0+(cN ((b0 b t).getD (t-15) 0) 7 ^^^ cN ((b0 b t).getD (t-15) 0) 18 ^^^(b0 b t).getD (t-15) 0 >>> 3)+(b0 b t).getD (t-16) 0:=by
 unfold yj Jb Jc;rw[tW]
theorem Ha(h:t<64):(a7 bt).toArray[t]? =some (v32 (bt.getD t 0)):=by
 have aI:t<bt.length:=h;simp only[a7,List.getElem?_toArray,List.getElem?_map,List.getD_eq_getElem?_getD,List.getElem?_eq_getElem aI];rfl
theorem fS{l:List UInt8}{i:Nat}(h:i<l.length):(ao l)[i*1]? =some (b1 (l.getD i 0).toBitVec):=by
 rw[Nat.mul_one];simp only[ao,List.getElem?_map,List.getElem?_eq_getElem h,List.getD_eq_getElem?_getD];rfl
end
theorem Fj(a b c d e f g h:g8):Instr.fill (fun i=>some (i,1)) (List.replicate 8 (v32 0)).toArray [(0,v32 a),(1,v32 b),(2,v32 c),(3,v32 d),(4,v32 e),(5,v32 f),(6,v32 g),(7,v32 h)]=some (a7 [a,b,c,d,e,f,g,h]).toArray:=by
 have kj:∀x:g8,(v32 x).cells= #[v32 x]:=fun _=>rfl;rw[mZ (kj _) aN,mZ (kj _) (by simp),mZ (kj _) (by simp),mZ (kj _) (by simp),mZ (kj _) (by simp),mZ (kj _) (by simp),mZ (kj _) (by simp),mZ (kj _) (by simp)];rfl
theorem oV{x:g8}{n:Nat}{w0:World}(h:n<=32):bH prog 206 [v32 x,ab0 (n:Int)] w0 (v32 (cN x n)):=by
 refine enter (n:=13) func206 U U U ?_;intro fr E;have M:=ht (Has.nil w0);refine aV E<|ah (v:=v32 (0#32)) 0 U (hT U)<|ah 2 U (hV (q:=n) U U U h)<|a1 (y:=((32-n:Nat):Int)) 2 U U ((Lo _).trans ae)<|ah 0 U (fO (q:=32-n) U U U (show 32-n<=32 by omega) (q8 _ _))<|a1 0 U U (qZ _ _)<|aU 1 U fun fr E=>?_;refine bi E U U ?_;exact bX M
set_option maxHeartbeats 1000000 in
theorem K1{s:dW}{bv:Value}{bl:List UInt8}{w0:World}(ak:Bytes w0 bv bl)(aI:bl.length=64)(ab:w0.heap[0]? =some (.cells (a7 bt).toArray 243)):bH prog 190 [.agg (a7 s.list).toArray,bv] w0 (.agg (a7 (s.take bl).list).toArray):=by
 refine enter (n:=213) func190 U U U ?_;intro fr E;have M:=Mem.begin (Φ:=fun w'=>Bytes w' bv bl/\w'.heap[0]? =some (.cells (a7 bt).toArray 243)) (Has.nil w0) (fun w' h=>⟨ak.bU h,fc ab h⟩);refine aV E<|bh (ob:=.cells ((a7 s.list).toArray) 229) (fun g=>ai g 0) M 0 U (cS (cs:=((a7 s.list).toArray)) U U) fun aZ w M=>bh (ob:=.cells #[_,_,_,_,_,_,_,_] 229) (fun g=>ai g 0) M 0 U (bT U T.zn) fun bQ w M=>bh (ob:=.cells _ 243) (fun g=>ai g 0) M 0 U (bT U T.aaA) fun cF w M=>bw 1 U fun fr E=>?_;refine cI (fun d fr w=>∃t:Nat,d=16-t/\t<=16/\Env [(21,aa (t:Int)),(5,ai cF 0),(4,ai bQ 0),(2,ai aZ 0),(1,bv)] 213 fr/\Mem w0 (aS []) [.bb cF (.cells (mf bl t).toArray 243),.bb bQ (.cells (List.replicate 8 (v32 0)).toArray 229),.bb aZ (.cells (a7 s.list).toArray 229)] (fun w'=>Bytes w' bv bl/\w'.heap[0]? =some (.cells (a7 bt).toArray 243)) w) (16) ?_ ?_
 ·exact⟨0,U,by decide,E.lL [1,2,4,5,21] rfl,M⟩
 ·clear E M;rintro d fr w ⟨t,rfl,hle,E,M⟩;by_cases aM:t<16
  ·refine bA E<|bD 0 U U ae<|bw 3 U fun fr E=>?_;refine(ii (B:=T.JQ) (Vs:=(.af _:: .af _:: .af _:: .af (.int _ (((4*t:Nat):Int))):: .af (cellAt bv ((4*t)*1)):: .af (b1 (bl.getD (4*t) 0).toBitVec):: .af (v32 (((bl.getD (4*t) 0).toBitVec).setWidth 32)):: .af (v32 ((((bl.getD (4*t) 0).toBitVec).setWidth 32)<<< 24)):: .af _:: .af _:: .af (.int _ (((4*t:Nat):Int))):: .af (.int _ (((4*t+1:Nat):Int))):: .af (cellAt bv ((4*t+1)*1)):: .af (b1 (bl.getD (4*t+1) 0).toBitVec):: .af (v32 (((bl.getD (4*t+1) 0).toBitVec).setWidth 32)):: .af (v32 ((((bl.getD (4*t+1) 0).toBitVec).setWidth 32)<<< 16)):: .af (v32 (((((bl.getD (4*t) 0).toBitVec).setWidth 32)<<< 24)|||((((bl.getD (4*t+1) 0).toBitVec).setWidth 32)<<< 16))):: .af _:: .af _:: .af (.int _ (((4*t:Nat):Int))):: .af (.int _ (((4*t+2:Nat):Int))):: .af (cellAt bv ((4*t+2)*1)):: .af (b1 (bl.getD (4*t+2) 0).toBitVec):: .af (v32 (((bl.getD (4*t+2) 0).toBitVec).setWidth 32)):: .af (v32 ((((bl.getD (4*t+2) 0).toBitVec).setWidth 32)<<< 8)):: .af (v32 ((((((bl.getD (4*t) 0).toBitVec).setWidth 32)<<< 24)|||((((bl.getD (4*t+1) 0).toBitVec).setWidth 32)<<< 16))|||((((bl.getD (4*t+2) 0).toBitVec).setWidth 32)<<< 8))):: .af _:: .af _:: .af (.int _ (((4*t:Nat):Int))):: .af (.int _ (((4*t+3:Nat):Int))):: .af (cellAt bv ((4*t+3)*1)):: .af (b1 (bl.getD (4*t+3) 0).toBitVec):: .af (v32 (((bl.getD (4*t+3) 0).toBitVec).setWidth 32)):: .af (v32 (((((((bl.getD (4*t) 0).toBitVec).setWidth 32)<<< 24)|||((((bl.getD (4*t+1) 0).toBitVec).setWidth 32)<<< 16))|||((((bl.getD (4*t+2) 0).toBitVec).setWidth 32)<<< 8))|||(((bl.getD (4*t+3) 0).toBitVec).setWidth 32))):: .af (ai _ (0+t*1))::[])) T.X9 35 E T.mixed T.X8 U U U (ej.e6 U) ⟨aw U U,
   aw U U,
   aw U U,
   aC U U (fun x w ad ab=>num U ((br ae ae).trans ae)),
   aC U U (fun x w ad ab=>bL (i:=(4*t)) U ((M.aQ ad).fact.1) U U (rfl) ae T.aG T.bf),
   aC U U (fun x w ad ab=>b2 U ((M.aQ ad).fact.1) U T.cq (fS ae)),
   aC U U (fun x w ad ab=>num U (qi _)),
   aC U U (fun x w ad ab=>fO (q:=24) U U U aN (q8 _ 24)),
   aw U U,
   aw U U,
   aC U U (fun x w ad ab=>num U ((br ae ae).trans ae)),
   aC U U (fun x w ad ab=>num U ((br ae ae).trans ae)),
   aC U U (fun x w ad ab=>bL (i:=(4*t+1)) U ((M.aQ ad).fact.1) U U (rfl) ae T.aG T.bf),
   aC U U (fun x w ad ab=>b2 U ((M.aQ ad).fact.1) U T.cq (fS ae)),
   aC U U (fun x w ad ab=>num U (qi _)),
   aC U U (fun x w ad ab=>fO (q:=16) U U U aN (q8 _ 16)),
   aC U U (fun x w ad ab=>num U (qZ _ _)),
   aw U U,
   aw U U,
   aC U U (fun x w ad ab=>num U ((br ae ae).trans ae)),
   aC U U (fun x w ad ab=>num U ((br ae ae).trans ae)),
   aC U U (fun x w ad ab=>bL (i:=(4*t+2)) U ((M.aQ ad).fact.1) U U (rfl) ae T.aG T.bf),
   aC U U (fun x w ad ab=>b2 U ((M.aQ ad).fact.1) U T.cq (fS ae)),
   aC U U (fun x w ad ab=>num U (qi _)),
   aC U U (fun x w ad ab=>fO (q:=8) U U U aN (q8 _ 8)),
   aC U U (fun x w ad ab=>num U (qZ _ _)),
   aw U U,
   aw U U,
   aC U U (fun x w ad ab=>num U ((br ae ae).trans ae)),
   aC U U (fun x w ad ab=>num U ((br ae ae).trans ae)),
   aC U U (fun x w ad ab=>bL (i:=(4*t+3)) U ((M.aQ ad).fact.1) U U (rfl) ae T.aG T.bf),
   aC U U (fun x w ad ab=>b2 U ((M.aQ ad).fact.1) U T.cq (fS ae)),
   aC U U (fun x w ad ab=>num U (qi _)),
   aC U U (fun x w ad ab=>num U (qZ _ _)),
   aC U U (fun x w ad ab=>dm (i:=t) U U U (rfl) ae T.o5 T.dL),ay⟩ ?_)
   intro x fr w ad ab E;have M:=M.ext ad;refine iq (i:=0) (cs':=(mf bl (t+1)).toArray) E M U U U U U U (cy (v:=_) U U U T.dL (M.row (i:=0) U) (by rw[List.size_toArray,Le ae];simp;omega) (rfl) (congrArg List.toArray ((congrArg (fun k=>(mf bl t).set k _) (show 0+t*1=t by omega)).trans (Lf ae (by rw[if_pos aM];rfl))))) U fun fr w M E=>?_;refine cm E<|a1 (y:=((t+1:Nat):Int)) 0 U U ((br ae ae).trans ae)<|ct 1 U fun fr E=>?_;exact⟨16-(t+1),by omega,t+1,U,by omega,E.lL [1,2,4,5,21] rfl,M⟩
  ·obtain rfl:t=16:=by omega
   refine bA E<|ch 0 U U aN<|bw 2 U fun fr E=>?_;refine cI (fun d fr w=>∃t:Nat,d=64-t/\16<=t/\t<=64/\Env [(7,aa (t:Int)),(5,ai cF 0),(4,ai bQ 0),(2,ai aZ 0),(1,bv)] 213 fr/\Mem w0 (aS []) [.bb cF (.cells (mf bl t).toArray 243),.bb bQ (.cells (List.replicate 8 (v32 0)).toArray 229),.bb aZ (.cells (a7 s.list).toArray 229)] (fun w'=>Bytes w' bv bl/\w'.heap[0]? =some (.cells (a7 bt).toArray 243)) w) (48) ?_ ?_
   ·exact⟨16,U,by decide,by decide,E.lL [1,2,4,5,7] rfl,M⟩
   ·clear E M;rintro d fr w ⟨t,rfl,rP,hle,E,M⟩;by_cases aM:t<64
    ·refine bA E<|bD 1 U U ae<|bw 1 U fun fr E=>?_;refine(dR (B:=T.JM) (Vs:=(.af _:: .af (.int _ (((t-2:Nat):Int))):: .af (ai _ (0+(t-2)*1)):: .af (v32 ((b0 bl t).getD (t-2) 0)):: .af _:: .af (.int _ (((t-15:Nat):Int))):: .af (ai _ (0+(t-15)*1)):: .af (v32 ((b0 bl t).getD (t-15) 0)):: .af (v32 ((b0 bl t).getD (t-2) 0)):: .af (v32 ((b0 bl t).getD (t-15) 0))::[])) T.X1 E T.mixed T.X0 U (ej.e6 U) ⟨aw U U,
   aC U U (fun x w ad ab=>num U ((br ae ae).trans ae)),
   aC U U (fun x w ad ab=>dm (i:=(t-2)) U U U (rfl) ae T.o5 T.dL),
   aC U U (fun x w ad ab=>aE U U T.eC ((M.aQ ad).row (i:=0) U) (by rw[Nat.zero_add,Nat.mul_one];exact wC ae)),
   aw U U,
   aC U U (fun x w ad ab=>num U ((br ae ae).trans ae)),
   aC U U (fun x w ad ab=>dm (i:=(t-15)) U U U (rfl) ae T.o5 T.dL),
   aC U U (fun x w ad ab=>aE U U T.eC ((M.aQ ad).row (i:=0) U) (by rw[Nat.zero_add,Nat.mul_one];exact wC ae)),
   aw U U,
   aw U U,ay⟩ ?_)
     intro x fr w ad ab E;have M:=M.ext ad;refine cm E<|bw 0 U fun fr E=>?_;refine(ii (B:=T.JN) (Vs:=(.af _:: .af (v32 ((b0 bl t).getD (t-2) 0)):: .af (v32 (cN ((b0 bl t).getD (t-2) 0) 17)):: .af (v32 ((b0 bl t).getD (t-2) 0)):: .af (v32 (cN ((b0 bl t).getD (t-2) 0) 19)):: .af (v32 ((cN ((b0 bl t).getD (t-2) 0) 17)^^^(cN ((b0 bl t).getD (t-2) 0) 19))):: .af (v32 ((b0 bl t).getD (t-2) 0)):: .af (v32 (((b0 bl t).getD (t-2) 0)>>> 10)):: .af (v32 (((cN ((b0 bl t).getD (t-2) 0) 17)^^^(cN ((b0 bl t).getD (t-2) 0) 19))^^^(((b0 bl t).getD (t-2) 0)>>> 10))):: .af _:: .af (.int _ (((t-7:Nat):Int))):: .af (ai _ (0+(t-7)*1)):: .af (v32 ((b0 bl t).getD (t-7) 0)):: .af (v32 ((((cN ((b0 bl t).getD (t-2) 0) 17)^^^(cN ((b0 bl t).getD (t-2) 0) 19))^^^(((b0 bl t).getD (t-2) 0)>>> 10))+((b0 bl t).getD (t-7) 0))):: .af (v32 ((b0 bl t).getD (t-15) 0)):: .af (v32 (cN ((b0 bl t).getD (t-15) 0) 7)):: .af (v32 ((b0 bl t).getD (t-15) 0)):: .af (v32 (cN ((b0 bl t).getD (t-15) 0) 18)):: .af (v32 ((cN ((b0 bl t).getD (t-15) 0) 7)^^^(cN ((b0 bl t).getD (t-15) 0) 18))):: .af (v32 ((b0 bl t).getD (t-15) 0)):: .af (v32 (((b0 bl t).getD (t-15) 0)>>> 3)):: .af (v32 (((cN ((b0 bl t).getD (t-15) 0) 7)^^^(cN ((b0 bl t).getD (t-15) 0) 18))^^^(((b0 bl t).getD (t-15) 0)>>> 3))):: .af (v32 (((((cN ((b0 bl t).getD (t-2) 0) 17)^^^(cN ((b0 bl t).getD (t-2) 0) 19))^^^(((b0 bl t).getD (t-2) 0)>>> 10))+((b0 bl t).getD (t-7) 0))+(((cN ((b0 bl t).getD (t-15) 0) 7)^^^(cN ((b0 bl t).getD (t-15) 0) 18))^^^(((b0 bl t).getD (t-15) 0)>>> 3)))):: .af _:: .af (.int _ (((t-16:Nat):Int))):: .af (ai _ (0+(t-16)*1)):: .af (v32 ((b0 bl t).getD (t-16) 0)):: .af (v32 ((((((cN ((b0 bl t).getD (t-2) 0) 17)^^^(cN ((b0 bl t).getD (t-2) 0) 19))^^^(((b0 bl t).getD (t-2) 0)>>> 10))+((b0 bl t).getD (t-7) 0))+(((cN ((b0 bl t).getD (t-15) 0) 7)^^^(cN ((b0 bl t).getD (t-15) 0) 18))^^^(((b0 bl t).getD (t-15) 0)>>> 3)))+((b0 bl t).getD (t-16) 0))):: .af (ai _ (0+t*1))::[])) T.X3 29 E T.mixed T.X2 U U U (ej.e6 U) ⟨aw U U,
   aw U U,
   cE U U (fun x w ad ab=>⟨_,_,U,U,U,ar U U T.om,(oV (n:=17) aN).ext⟩),
   aw U U,
   cE U U (fun x w ad ab=>⟨_,_,U,U,U,ar U U T.om,(oV (n:=19) aN).ext⟩),
   aC U U (fun x w ad ab=>num U (jl _ _)),
   aw U U,
   aC U U (fun x w ad ab=>hV (q:=10) U U U aN),
   aC U U (fun x w ad ab=>num U (jl _ _)),
   aw U U,
   aC U U (fun x w ad ab=>num U ((br ae ae).trans ae)),
   aC U U (fun x w ad ab=>dm (i:=(t-7)) U U U (rfl) ae T.o5 T.dL),
   aC U U (fun x w ad ab=>aE U U T.eC ((M.aQ ad).row (i:=0) U) (by rw[Nat.zero_add,Nat.mul_one];exact wC ae)),
   aC U U (fun x w ad ab=>num U (hF _ _)),
   aw U U,
   cE U U (fun x w ad ab=>⟨_,_,U,U,U,ar U U T.om,(oV (n:=7) aN).ext⟩),
   aw U U,
   cE U U (fun x w ad ab=>⟨_,_,U,U,U,ar U U T.om,(oV (n:=18) aN).ext⟩),
   aC U U (fun x w ad ab=>num U (jl _ _)),
   aw U U,
   aC U U (fun x w ad ab=>hV (q:=3) U U U aN),
   aC U U (fun x w ad ab=>num U (jl _ _)),
   aC U U (fun x w ad ab=>num U (hF _ _)),
   aw U U,
   aC U U (fun x w ad ab=>num U ((br ae ae).trans ae)),
   aC U U (fun x w ad ab=>dm (i:=(t-16)) U U U (rfl) ae T.o5 T.dL),
   aC U U (fun x w ad ab=>aE U U T.eC ((M.aQ ad).row (i:=0) U) (by rw[Nat.zero_add,Nat.mul_one];exact wC ae)),
   aC U U (fun x w ad ab=>num U (hF _ _)),
   aC U U (fun x w ad ab=>dm (i:=t) U U U (rfl) ae T.o5 T.dL),ay⟩ ?_)
     intro x fr w ad ab E;have M:=M.ext ad;refine iq (i:=0) (cs':=(mf bl (t+1)).toArray) E M U U U U U U (cy (v:=_) U U U T.dL (M.row (i:=0) U) (by rw[List.size_toArray,Le ae];simp;omega) (rfl) (congrArg List.toArray ((congrArg (fun k=>(mf bl t).set k _) (show 0+t*1=t by omega)).trans (Lf ae (by rw[if_neg ae,HP ae]))))) U fun fr w M E=>?_;refine cm E<|a1 (y:=((t+1:Nat):Int)) 1 U U ((br ae ae).trans ae)<|ct 1 U fun fr E=>?_;exact⟨64-(t+1),by omega,t+1,U,by omega,by omega,E.lL [1,2,4,5,7] rfl,M⟩
    ·obtain rfl:t=64:=by omega
     refine bA E<|ch 1 U U aN<|bw 1 U fun fr E=>?_;refine(dR (B:=T.JO) (Vs:=(.af (ai _ (0+0*1)):: .af (v32 s.a):: .af (ai _ (0+1*1)):: .af (v32 s.b):: .af (ai _ (0+2*1)):: .af (v32 s.c):: .af (ai _ (0+3*1)):: .af (v32 s.d):: .af (ai _ (0+4*1)):: .af (v32 s.e):: .af (ai _ (0+5*1)):: .af (v32 s.f):: .af (ai _ (0+6*1)):: .af (v32 s.g):: .af (ai _ (0+7*1)):: .af (v32 s.h):: .af (v32 s.a):: .af (v32 s.b):: .af (v32 s.c):: .af (v32 s.d):: .af (v32 s.e):: .af (v32 s.f):: .af (v32 s.g):: .af (v32 s.h)::[])) T.X5 E T.mixed T.X4 U (ej.e6 U) ⟨aC U U (fun x w ad ab=>dm (i:=0) U U U (rfl) aN T.j0 T.dL),
   aC U U (fun x w ad ab=>aE U U T.eC ((M.aQ ad).row (i:=2) U) U),
   aC U U (fun x w ad ab=>dm (i:=1) U U U (rfl) aN T.j0 T.dL),
   aC U U (fun x w ad ab=>aE U U T.eC ((M.aQ ad).row (i:=2) U) U),
   aC U U (fun x w ad ab=>dm (i:=2) U U U (rfl) aN T.j0 T.dL),
   aC U U (fun x w ad ab=>aE U U T.eC ((M.aQ ad).row (i:=2) U) U),
   aC U U (fun x w ad ab=>dm (i:=3) U U U (rfl) aN T.j0 T.dL),
   aC U U (fun x w ad ab=>aE U U T.eC ((M.aQ ad).row (i:=2) U) U),
   aC U U (fun x w ad ab=>dm (i:=4) U U U (rfl) aN T.j0 T.dL),
   aC U U (fun x w ad ab=>aE U U T.eC ((M.aQ ad).row (i:=2) U) U),
   aC U U (fun x w ad ab=>dm (i:=5) U U U (rfl) aN T.j0 T.dL),
   aC U U (fun x w ad ab=>aE U U T.eC ((M.aQ ad).row (i:=2) U) U),
   aC U U (fun x w ad ab=>dm (i:=6) U U U (rfl) aN T.j0 T.dL),
   aC U U (fun x w ad ab=>aE U U T.eC ((M.aQ ad).row (i:=2) U) U),
   aC U U (fun x w ad ab=>dm (i:=7) U U U (rfl) aN T.j0 T.dL),
   aC U U (fun x w ad ab=>aE U U T.eC ((M.aQ ad).row (i:=2) U) U),
   aw U U,
   aw U U,
   aw U U,
   aw U U,
   aw U U,
   aw U U,
   aw U U,
   aw U U,ay⟩ ?_)
     intro x fr w ad ab E;have M:=M.ext ad;refine cm E<|bw 1 U fun fr E=>?_;refine cI (fun d fr w=>∃t:Nat,d=64-t/\t<=64/\Env [(117,aa (t:Int)),(17,v32 (s.rounds bl t).h),(16,v32 (s.rounds bl t).g),(15,v32 (s.rounds bl t).f),(14,v32 (s.rounds bl t).e),(13,v32 (s.rounds bl t).d),(12,v32 (s.rounds bl t).c),(11,v32 (s.rounds bl t).b),(10,v32 (s.rounds bl t).a),(5,ai cF 0),(4,ai bQ 0),(2,ai aZ 0)] 213 fr/\Mem w0 (aS []) [.bb cF (.cells (mf bl 64).toArray 243),.bb bQ (.cells (List.replicate 8 (v32 0)).toArray 229),.bb aZ (.cells (a7 s.list).toArray 229)] (fun w'=>Bytes w' bv bl/\w'.heap[0]? =some (.cells (a7 bt).toArray 243)) w) (64) ?_ ?_
     ·exact⟨0,U,by decide,E.lL [2,4,5,10,11,12,13,14,15,16,17,117] rfl,M⟩
     ·clear E M;rintro d fr w ⟨t,rfl,hle,E,M⟩;by_cases aM:t<64
      ·refine bA E<|bD 0 U U ae<|bw 3 U fun fr E=>?_;refine(dR (B:=T.JP) (Vs:=(.af (v32 (s.rounds bl t).h):: .af (v32 (s.rounds bl t).e):: .af (v32 (cN (s.rounds bl t).e 6)):: .af (v32 (s.rounds bl t).e):: .af (v32 (cN (s.rounds bl t).e 11)):: .af (v32 ((cN (s.rounds bl t).e 6)^^^(cN (s.rounds bl t).e 11))):: .af (v32 (s.rounds bl t).e):: .af (v32 (cN (s.rounds bl t).e 25)):: .af (v32 (((cN (s.rounds bl t).e 6)^^^(cN (s.rounds bl t).e 11))^^^(cN (s.rounds bl t).e 25))):: .af (v32 ((s.rounds bl t).h+(((cN (s.rounds bl t).e 6)^^^(cN (s.rounds bl t).e 11))^^^(cN (s.rounds bl t).e 25)))):: .af (v32 (s.rounds bl t).e):: .af (v32 (s.rounds bl t).f):: .af (v32 ((s.rounds bl t).e &&&(s.rounds bl t).f)):: .af (v32 (s.rounds bl t).e):: .af (v32 (~~~(s.rounds bl t).e)):: .af (v32 (s.rounds bl t).g):: .af (v32 ((~~~(s.rounds bl t).e)&&&(s.rounds bl t).g)):: .af (v32 (((s.rounds bl t).e &&&(s.rounds bl t).f)^^^((~~~(s.rounds bl t).e)&&&(s.rounds bl t).g))):: .af (v32 (((s.rounds bl t).h+(((cN (s.rounds bl t).e 6)^^^(cN (s.rounds bl t).e 11))^^^(cN (s.rounds bl t).e 25)))+(((s.rounds bl t).e &&&(s.rounds bl t).f)^^^((~~~(s.rounds bl t).e)&&&(s.rounds bl t).g)))):: .af _:: .af (ai _ (0+t*1)):: .af (v32 (bt.getD t 0)):: .af (v32 ((((s.rounds bl t).h+(((cN (s.rounds bl t).e 6)^^^(cN (s.rounds bl t).e 11))^^^(cN (s.rounds bl t).e 25)))+(((s.rounds bl t).e &&&(s.rounds bl t).f)^^^((~~~(s.rounds bl t).e)&&&(s.rounds bl t).g)))+(bt.getD t 0))):: .af _:: .af (ai _ (0+t*1)):: .af (v32 ((b0 bl 64).getD t 0)):: .af (v32 (((((s.rounds bl t).h+(((cN (s.rounds bl t).e 6)^^^(cN (s.rounds bl t).e 11))^^^(cN (s.rounds bl t).e 25)))+(((s.rounds bl t).e &&&(s.rounds bl t).f)^^^((~~~(s.rounds bl t).e)&&&(s.rounds bl t).g)))+(bt.getD t 0))+((b0 bl 64).getD t 0))):: .af (v32 (((((s.rounds bl t).h+(((cN (s.rounds bl t).e 6)^^^(cN (s.rounds bl t).e 11))^^^(cN (s.rounds bl t).e 25)))+(((s.rounds bl t).e &&&(s.rounds bl t).f)^^^((~~~(s.rounds bl t).e)&&&(s.rounds bl t).g)))+(bt.getD t 0))+((b0 bl 64).getD t 0)))::[])) T.X7 E T.mixed T.X6 U (ej.e6 U) ⟨aw U U,
   aw U U,
   cE U U (fun x w ad ab=>⟨_,_,U,U,U,ar U U T.om,(oV (n:=6) aN).ext⟩),
   aw U U,
   cE U U (fun x w ad ab=>⟨_,_,U,U,U,ar U U T.om,(oV (n:=11) aN).ext⟩),
   aC U U (fun x w ad ab=>num U (jl _ _)),
   aw U U,
   cE U U (fun x w ad ab=>⟨_,_,U,U,U,ar U U T.om,(oV (n:=25) aN).ext⟩),
   aC U U (fun x w ad ab=>num U (jl _ _)),
   aC U U (fun x w ad ab=>num U (hF _ _)),
   aw U U,
   aw U U,
   aC U U (fun x w ad ab=>num U (n3 _ _)),
   aw U U,
   aC U U (fun x w ad ab=>num U (HR _)),
   aw U U,
   aC U U (fun x w ad ab=>num U (n3 _ _)),
   aC U U (fun x w ad ab=>num U (jl _ _)),
   aC U U (fun x w ad ab=>num U (hF _ _)),
   aw U U,
   aC U U (fun x w ad ab=>dm (i:=t) U U U (rfl) ae T.o5 T.dL),
   aC U U (fun x w ad ab=>aE U U T.eC (M.aQ ad).fact.2 (by rw[Nat.zero_add,Nat.mul_one];exact Ha aM)),
   aC U U (fun x w ad ab=>num U (hF _ _)),
   aw U U,
   aC U U (fun x w ad ab=>dm (i:=t) U U U (rfl) ae T.o5 T.dL),
   aC U U (fun x w ad ab=>aE U U T.eC ((M.aQ ad).row (i:=0) U) (by rw[Nat.zero_add,Nat.mul_one];exact wC ae)),
   aC U U (fun x w ad ab=>num U (hF _ _)),
   aw U U,ay⟩ ?_)
       intro x fr w ad ab E;have M:=M.ext ad;refine cm E<|bo M 1 U (ar U U T.om) (oV (n:=2) aN) fun w M=>bo M 1 U (ar U U T.om) (oV (n:=13) aN) fun w M=>a1 0 U U (jl _ _)<|bo M 1 U (ar U U T.om) (oV (n:=22) aN) fun w M=>a1 0 U U (jl _ _)<|a1 2 U U (n3 _ _)<|a1 2 U U (n3 _ _)<|a1 0 U U (jl _ _)<|a1 2 U U (n3 _ _)<|a1 0 U U (jl _ _)<|a1 0 U U (hF _ _)<|a1 6 U U (hF _ _)<|a1 5 U U (hF _ _)<|a1 (y:=((t+1:Nat):Int)) 8 U U ((br ae ae).trans ae)<|ct 1 U fun fr E=>?_;exact⟨64-(t+1),by omega,t+1,U,by omega,E.lL [2,4,5,10,11,12,13,14,15,16,17,117] rfl,M⟩
      ·obtain rfl:t=64:=by omega
       obtain⟨R,dU⟩:∃R,R=s.rounds bl 64:=⟨_,rfl⟩
       rw[<-dU]at E;refine bA E<|ch 0 U U aN<|ah (v:=ai _ (0+0*1)) 1 U (dm (i:=0) U U U (rfl) aN T.j0 T.dL)<|ah (v:=v32 s.a) 0 U (aE U U T.eC (M.row (i:=2) U) U)<|a1 1 U U (hF _ _)<|ah (v:=ai _ (0+1*1)) 0 U (dm (i:=1) U U U (rfl) aN T.j0 T.dL)<|ah (v:=v32 s.b) 0 U (aE U U T.eC (M.row (i:=2) U) U)<|a1 1 U U (hF _ _)<|ah (v:=ai _ (0+2*1)) 0 U (dm (i:=2) U U U (rfl) aN T.j0 T.dL)<|ah (v:=v32 s.c) 0 U (aE U U T.eC (M.row (i:=2) U) U)<|a1 1 U U (hF _ _)<|ah (v:=ai _ (0+3*1)) 0 U (dm (i:=3) U U U (rfl) aN T.j0 T.dL)<|ah (v:=v32 s.d) 0 U (aE U U T.eC (M.row (i:=2) U) U)<|a1 1 U U (hF _ _)<|ah (v:=ai _ (0+4*1)) 0 U (dm (i:=4) U U U (rfl) aN T.j0 T.dL)<|ah (v:=v32 s.e) 0 U (aE U U T.eC (M.row (i:=2) U) U)<|a1 1 U U (hF _ _)<|ah (v:=ai _ (0+5*1)) 0 U (dm (i:=5) U U U (rfl) aN T.j0 T.dL)<|ah (v:=v32 s.f) 0 U (aE U U T.eC (M.row (i:=2) U) U)<|a1 1 U U (hF _ _)<|ah (v:=ai _ (0+6*1)) 0 U (dm (i:=6) U U U (rfl) aN T.j0 T.dL)<|ah (v:=v32 s.g) 0 U (aE U U T.eC (M.row (i:=2) U) U)<|a1 1 U U (hF _ _)<|ah (v:=ai _ (0+7*1)) 0 U (dm (i:=7) U U U (rfl) aN T.j0 T.dL)<|ah (v:=v32 s.h) 0 U (aE U U T.eC (M.row (i:=2) U) U)<|a1 1 U U (hF _ _)<|ah (v:=.agg (a7 (s.add R).list).toArray) 0 U (Cb (qs:=[(0,v32 (s.a+R.a)),(1,v32 (s.b+R.b)),(2,v32 (s.c+R.c)),(3,v32 (s.d+R.d)),(4,v32 (s.e+R.e)),(5,v32 (s.f+R.f)),(6,v32 (s.g+R.g)),(7,v32 (s.h+R.h))]) (us':=(a7 (s.add R).list).toArray) U U T.j0 T.dL T.zn (Fj _ _ _ _ _ _ _ _))<|bj (i:=1) (cs':=(a7 (s.add R).list).toArray) M 0 U U (cB (vs:=(a7 (s.add R).list).toArray) U U U T.yT (rfl) (M.row (i:=1) U) (rfl) (by simp[a7,dW.list,Value.oneCell'])) U fun w M=>aU 0 U fun fr E=>?_;refine gC E U U T.wS (M.row (i:=1) U) (rfl) ?_;rw[show s.take bl=s.add R by rw[dU];rfl];exact bX M
end
end Go.Proofs.YtckdfgknodedoaaGreatDoor.K
