/- Texts of this proof. -/
import Derived.Test.YtckdfgknodedoaaGreatDoorKK
import Derived.Test.YtckdfgknodedoaaGreatDoorKK2
import Derived.Test.YtckdfgknodedoaaGreatDoorRR1
import Derived.Test.YtckdfgknodedoaaGreatDoorKK1
set_option linter.unusedVariables false
set_option linter.unusedSimpArgs false
set_option maxRecDepth 100000
namespace Go.Proofs.YtckdfgknodedoaaGreatDoor.K
section
open Go.RowKit Go.a2 Go.Proofs Go.Proofs.Tryz
theorem Vp{l:List UInt8}{off c i:Nat}{v:Int}(aj:off+i<l.length)(aJ:c<=8)(hi:i<c):((ao (l8 l off (eQ c v) i)).toArray.toList.set (off+i*1) (ag (((aO v)[8-(c-i)]'(by rw[eo];omega)).toNat:Int))).toArray=(ao (l8 l off (eQ c v) (i+1))).toArray:=by
 rw[Nat.mul_one,<-Vn aj (by rw[jB v aJ];exact hi),Ho aJ hi];simp only[ao,List.map_set]
def fh(e n:Int)(k:Nat):List UInt8:=eQ 6 e++eQ 6 n++eQ 4 (k:Int)
theorem Tc(e n:Int)(k:Nat):(fh e n (k-1)).take 12++eQ 4 (k:Int)++(fh e n (k-1)).drop (12+4)=fh e n k:=by
 have aj:=jB e (n:=6) aN;have an:=jB n (n:=6) aN;have aB:=jB ((k-1:Nat):Int) (n:=4) aN;have be:(eQ 6 e++eQ 6 n).length=12:=by rw[List.length_append,aj,an]
 unfold fh;rw[List.take_append_of_le_length ae,List.take_of_length_le ae,List.drop_of_length_le (by rw[List.length_append,be,aB];decide),List.append_nil]
theorem vC(e n:Int)(k:Nat):(fh e n k).length=16:=by simp[fh,jB]
theorem Td(e n:Int):(eQ 6 e++List.replicate 10 0).take 6++eQ 6 n++(eQ 6 e++List.replicate 10 0).drop (6+6)=fh e n 0:=by
 have h:=jB e (n:=6) aN;rw[List.take_append_of_le_length ae,List.take_of_length_le ae,List.drop_append,h,List.drop_of_length_le ae];rfl
structure p6 where
 at_:Nat
 kn:Nat
 no:Nat
 c:Nat
 out:Nat
def iY(s:p6):Value:=.func (.func 269) #[] #[ai s.at_ 0,ai s.kn 0,ai s.no 0,ai s.c 0,ai s.out 0]
def o6(m:Nat):Nat:=(m+15)/16
def tE(ks:List UInt8)(e n:Int)(m:Nat):List UInt8:=if o6 m=0 then List.replicate 16 0 else cH ks (fh e n (o6 m-1)) 10
theorem UR(ks:List UInt8)(e n:Int)(m:Nat):(tE ks e n m).length=16:=by
 unfold tE;split
 ·rfl
 ·exact nd _ _ _
def ix(s:p6)(dk:Nat)(ks:List UInt8)(e n:Int)(m:Nat):List az:=[.bb s.at_ (.cells #[aa ((m+16-16*o6 m:Nat):Int)] 3),.bb s.kn (.cells (ao (fh e n (o6 m-1))).toArray 162),.bb s.no (.cells #[ab0 ((o6 m:Nat):Int)] 214),.bb s.c (.cells #[ai dk 0] 97),.bb s.out (.cells (ao (tE ks e n m)).toArray 162)]
theorem Vq{g off c:Nat}{l:List UInt8}{v:Int}{w0:World}(H:Has w0 [.bb g (.cells (ao (l)).toArray 162)])(aJ:c<=8)(pv:off+c<=l.length):aY prog 268 [.slice (some ⟨g,off,none⟩) c c,ab0 (IntKind.u64.wrap v)] w0 [.bb g (.cells (ao (l)).toArray 162)] (fun _:Unit=>.tuple #[]) (fun _=>[.bb g (.cells (ao (l.take off++eQ c v++l.drop (off+c))).toArray 162)]) (fun _=>True):=by
 refine enter (n:=23) func268 U U U ?_;intro fr E;have M:=ht H;refine aV E<|ah (v:=aa _) 1 U (mb U U U U T.aG)<|bw 1 U fun fr E=>?_;refine cI (fun d fr w=>∃i:Nat,d=c-i/\i<=c/\Env [(7,aa (i:Int)),(6,aa (c:Int)),(1,ab0 (IntKind.u64.wrap v)),(0,.slice (some ⟨g,off,none⟩) c c)] 23 fr/\Mem w0 (aS [.bb g (.cells (ao (l)).toArray 162)]) [.bb g (.cells (ao (l8 l off (eQ c v) i)).toArray 162)] (fun _=>True) w) (c) ?_ ?_
 ·exact⟨0,U,Nat.zero_le _,E.lL [0,1,6,7] rfl,M.as (by rw[Vk])⟩
 ·clear E M;rintro d fr w ⟨i,rfl,hle,E,M⟩;have SA:=jB v aJ;have l3:(l8 l off (eQ c v) i).length=l.length:=Vm ae ae;by_cases hi:i<c
  ·refine bA E<|bD 0 U U ae<|ah (v:=aa _) 7 U (mb U U U U T.aG)<|a1 (y:=((c:Nat):Int)-1) 0 U U (br ae ae)<|a1 (y:=((c-i:Nat):Int)-1) 1 U U ((br ae ae).trans ae)<|a1 (y:=8*(((c-i:Nat):Int)-1)) 0 U U (br ae ae)<|ah (v:=ab0 _) 0 U (q6 U U U ae U)<|a1 (y:=(((aO v)[8-(c-i)]'(by rw[eo];omega)).toNat:Int)) 0 U U (tJ v ae ae)<|ah (v:=ai g (off+i*1)) 0 U (IS U U U U hi T.aG T.bf)<|bj (i:=0) (cs':=(ao (l8 l off (eQ c v) (i+1))).toArray) M 0 U U (cy (v:=_) U U U T.bf (M.row (i:=0) U) (by rw[List.size_toArray,dj,l3];simp;omega) (rfl) (Vp ae aJ hi)) U fun w M=>a1 (y:=((i+1:Nat):Int)) 0 U U ((br ae ae).trans ae)<|ct 1 U fun fr E=>?_;exact⟨c-(i+1),by omega,i+1,U,by omega,E.lL [0,1,6,7] rfl,M⟩
  ·obtain rfl:i=c:=by omega
   refine bA E<|bs 0 U U ae<|aU 1 U fun fr E=>?_;refine pQ E U ?_;rw[Vl SA]at M;exact⟨(),U,M.fin (List.Sublist.refl _) trivial⟩
theorem BV{g c:Nat}(off:Nat){l m:List UInt8}(v:Int){x:Int}{w0:World}(H:Has w0 [.bb g (.cells (ao (l)).toArray 162)])(ad:x=IntKind.u64.wrap v)(aJ:c<=8)(pv:off+c<=l.length)(hm:l.take off++eQ c v++l.drop (off+c)=m):aY prog 268 [.slice (some ⟨g,off,none⟩) c c,ab0 x] w0 [.bb g (.cells (ao (l)).toArray 162)] (fun _:Unit=>.tuple #[]) (fun _=>[.bb g (.cells (ao (m)).toArray 162)]) (fun _=>True):=by
 subst hm ad;exact Vq H aJ pv
theorem Xv{dk:Nat}{e n:Int}{w0:World}(ks:List UInt8):aY prog 267 [ai dk 0,aa e,aa n] w0 [] (fun s:p6=>iY s) (fun s=>ix s dk ks e n 0) (fun _=>True):=by
 refine enter (n:=20) func267 U U U ?_;intro fr E;have M:=ht (Has.nil w0);refine aV E<|bh (ob:=.cells (#[ai dk 0]) 97) (fun g=>ai g 0) M 0 U (Ca (v:=_) U U U) fun aZ w M=>bh (ob:=.cells _ 162) (fun g=>ai g 0) M 1 U (bT U T.mg) fun bQ w M=>bh (ob:=.cells _ 162) (fun g=>ai g 0) M 0 U (bT U T.mg) fun cF w M=>ah (v:=.slice (some ⟨bQ,0,none⟩) 6 6) 0 U (wa (lo:=0) (hi:=6) (mx:=6) U U T.ic T.bf ⟨_,_,U,U⟩ ⟨_,_,U,U⟩ U aN aN aN aN aN)<|a1 (y:=IntKind.u64.wrap e) 1 U U (rfl)<|fun fr E=>?_;have M:=M.aH 1 rfl;refine bN E<|bC ([.bb bQ (.cells (ao (List.replicate 16 0)).toArray 162)]) M 0 U (ar U U T.AJ) U (fun H=>BV (m:=eQ 6 e++List.replicate 10 0) 0 e H U aN aN (by simp[jB])) fun abM w _ M=>ah (v:=.slice (some ⟨bQ,6,none⟩) 6 6) 0 U (wa (lo:=6) (hi:=12) (mx:=12) U U T.ic T.bf ⟨_,_,U,U⟩ ⟨_,_,U,U⟩ ⟨_,_,U,U⟩ aN aN aN aN aN)<|a1 (y:=IntKind.u64.wrap n) 1 U U (rfl)<|bC ([.bb bQ (.cells (ao (eQ 6 e++List.replicate 10 0)).toArray 162)]) M 0 U (ar U U T.AJ) U (fun H=>BV (m:=fh e n 0) 6 n H U aN (by simp[jB]) (Td e n)) fun Z7 w _ M=>bh (ob:=.cells #[_] 3) (fun g=>ai g 0) M 0 U (IM U T.um U) fun gR w M=>bh (ob:=.cells #[_] 214) (fun g=>ai g 0) M 0 U (IM U T.aaz U) fun lF w M=>bj (i:=1) (cs':= #[aa 16]) M 0 U U (cy (v:=_) U U U T.c3 (M.row (i:=1) U) (rfl) (rfl) (rfl)) U fun w M=>bj (i:=0) (cs':= #[ab0 0]) M 0 U U (cy (v:=_) U U U T.Je (M.row (i:=0) U) (rfl) (rfl) (rfl)) U fun w M=>ah (v:=iY ⟨gR,bQ,lF,aZ,cF⟩) 0 U (Wo (us:=[]) (vs:=[ai gR 0,ai bQ 0,ai lF 0,ai aZ 0,ai cF 0]) U U U)<|aU 1 U fun fr E=>?_;refine bi E U U ?_;have M:=M.aH 3 rfl;have M:=M.aH 4 rfl;have M:=M.aH 2 rfl;have M:=M.aH 4 rfl;have M:=M.aH 4 rfl;exact⟨⟨gR,bQ,lF,aZ,cF⟩,U,M.fin (L:=ix ⟨gR,bQ,lF,aZ,cF⟩ dk ks e n 0) (List.Sublist.refl _) trivial⟩
theorem Xt{s:p6}{dk k:Nat}{ks:List UInt8}{e n:Int}:ix s dk ks e n (16*k)=[.bb s.at_ (.cells #[aa 16] 3),.bb s.kn (.cells (ao (fh e n (k-1))).toArray 162),.bb s.no (.cells #[ab0 (k:Int)] 214),.bb s.c (.cells #[ai dk 0] 97),.bb s.out (.cells (ao (tE ks e n (16*k))).toArray 162)]:=by
 have h:o6 (16*k)=k:=by unfold o6;omega
 unfold ix;rw[h,show 16*k+16-16*k=16 by omega];rfl
theorem CF{s:p6}{dk k j:Nat}{ks:List UInt8}{e n:Int}(bG:0<j)(aj:j<=16):ix s dk ks e n (16*k+j)=[.bb s.at_ (.cells #[aa (j:Int)] 3),.bb s.kn (.cells (ao (fh e n k)).toArray 162),.bb s.no (.cells #[ab0 ((k+1:Nat):Int)] 214),.bb s.c (.cells #[ai dk 0] 97),.bb s.out (.cells (ao (cH ks (fh e n k) 10)).toArray 162)]:=by
 have h:o6 (16*k+j)=k+1:=by unfold o6;omega
 unfold ix tE;rw[h,if_neg ae,show 16*k+j+16-16*(k+1)=j by omega,Nat.add_sub_cancel]
theorem Um{s:p6}{dk k j:Nat}{kv:Value}{ks:List UInt8}{e n:Int}{w0:World}(H:Has w0 (ix s dk ks e n (16*k+j)))(aJ:w0.heap[dk]? =some (.cells (kv::ao ep).toArray 159))(ap:Reads 16 w0 kv 11 (ao ks))(tn:¬aS (ix s dk ks e n (16*k+j)) dk)(lp:∀q,kv.ownBlock=some q->¬aS (ix s dk ks e n (16*k+j)) q)(aI:ks.length=176)(bG:0<j)(aj:j<16):aY prog 269 [ai s.at_ 0,ai s.kn 0,ai s.no 0,ai s.c 0,ai s.out 0] w0 (ix s dk ks e n (16*k+j)) (fun _:Unit=>b1 (a8 (cH ks (fh e n k) 10) j)) (fun _=>ix s dk ks e n (16*k+(j+1))) (fun _=>True):=by
 refine enter (n:=22) func269 U U U ?_;intro fr E;have M:=Mem.begin (Φ:=fun w'=>w'.heap[dk]? =some (.cells (kv::ao ep).toArray 159)/\Reads 16 w' kv 11 (ao ks)) H (fun w' h=>⟨(h.block dk (Array.getElem?_eq_some_iff.1 aJ).1 tn).trans aJ,ap.held h lp⟩);have M:=M.as (L':=[.bb s.at_ (.cells #[aa (j:Int)] 3),.bb s.kn (.cells (ao (fh e n k)).toArray 162),.bb s.no (.cells #[ab0 ((k+1:Nat):Int)] 214),.bb s.c (.cells #[ai dk 0] 97),.bb s.out (.cells (ao (cH ks (fh e n k) 10)).toArray 162)]) (CF bG ae);refine aV E<|ah (v:=b1 (0#8)) 0 U (hT U)<|ah (v:=aa _) 0 U (aE U U T.bc (M.row (i:=0) U) U)<|bs 0 U U ae<|ah (v:=aa _) 1 U (aE U U T.bc (M.row (i:=0) U) U)<|a1 (y:=((j+1:Nat):Int)) 0 U U ((br ae ae).trans ae)<|bj (i:=0) (cs':= #[aa ((j+1:Nat):Int)]) M 0 U U (cy (v:=_) U U U T.c3 (M.row (i:=0) U) (rfl) (rfl) (rfl)) U fun w M=>ah (v:=aa _) 0 U (aE U U T.bc (M.row (i:=0) U) U)<|a1 (y:=((j:Nat):Int)) 0 U U ((br ae ae).trans ae)<|ah (v:=ai _ (0+j*1)) 0 U (dm (i:=j) U U U (rfl) ae T.ic T.bf)<|ah (v:=b1 (a8 (cH ks (fh e n k) 10) j)) 0 U (aE U U T.cq (M.row (i:=4) U) (js (by rw[nd];omega)))<|aU 1 U fun fr E=>?_;refine bi E U U ?_;have M:=M.as (L':=ix s dk ks e n (16*k+(j+1))) (CF ae ae).symm;exact⟨(),U,M.fin (List.Sublist.refl _) trivial⟩
theorem Ul{s:p6}{dk k:Nat}{kv:Value}{ks:List UInt8}{e n:Int}{w0:World}(H:Has w0 (ix s dk ks e n (16*k)))(aJ:w0.heap[dk]? =some (.cells (kv::ao ep).toArray 159))(ap:Reads 16 w0 kv 11 (ao ks))(tn:¬aS (ix s dk ks e n (16*k)) dk)(lp:∀q,kv.ownBlock=some q->¬aS (ix s dk ks e n (16*k)) q)(aI:ks.length=176)(hm:k<1099511627776):aY prog 269 [ai s.at_ 0,ai s.kn 0,ai s.no 0,ai s.c 0,ai s.out 0] w0 (ix s dk ks e n (16*k)) (fun _:Unit=>b1 (a8 (cH ks (fh e n k) 10) 0)) (fun _=>ix s dk ks e n (16*k+1)) (fun _=>True):=by
 refine enter (n:=22) func269 U U U ?_;intro fr E;have M:=Mem.begin (Φ:=fun w'=>w'.heap[dk]? =some (.cells (kv::ao ep).toArray 159)/\Reads 16 w' kv 11 (ao ks)) H (fun w' h=>⟨(h.block dk (Array.getElem?_eq_some_iff.1 aJ).1 tn).trans aJ,ap.held h lp⟩);have M:=M.as (L':=[.bb s.at_ (.cells #[aa 16] 3),.bb s.kn (.cells (ao (fh e n (k-1))).toArray 162),.bb s.no (.cells #[ab0 (k:Int)] 214),.bb s.c (.cells #[ai dk 0] 97),.bb s.out (.cells (ao (tE ks e n (16*k))).toArray 162)]) Xt;refine aV E<|ah (v:=b1 (0#8)) 0 U (hT U)<|ah (v:=aa _) 0 U (aE U U T.bc (M.row (i:=0) U) U)<|ei 0 U U (rfl)<|fun fr E=>?_;let w:World:=w0
 have M:=M.aH 1 rfl;have M:Mem _ _ ([.bb s.kn (.cells (ao (fh e n (k-1))).toArray 162)]++_) _ _:=M;refine bN E<|bw 1 U fun fr E=>?_;refine(iQ (B:=T.Kc) (Vs:=(.af (.slice (some ⟨s.kn,12,none⟩) 4 4):: .af (ab0 _)::cL w.heap.size ([.bb s.kn (.cells (ao (fh e n (k-1))).toArray 162)]) (fun _:Unit=>.tuple #[]) (fun _=>[.bb s.kn (.cells (ao (fh e n k)).toArray 162)]) (fun _=>True)::[])) (fs (ga 2 ([.bb s.kn (.cells (ao (fh e n (k-1))).toArray 162)])) w.drew) T.YL E T.mixed T.YK U ?_ ⟨bY U U M (fun i g h=>h.2) (fun x w' aA aL ab=>wa (lo:=12) (hi:=16) (mx:=16) U U T.ic T.bf U U ⟨_,_,U,U⟩ (fun h=>h) aN aN aN aN),
   bY U U M (fun i g h=>h.2) (fun x w' aA aL ab=>aE U U T.H5 (aA.row (i:=1) U) U),
   AR (J:=[.bb s.kn (.cells (ao (fh e n (k-1))).toArray 162)]) U U M (fun i g h=>h.2) M.front (fun j ax g mr=>absurd mr.1 ax) (fun x w' aA c4 aL ab=>⟨_,_,U,U,U,ar U U T.AJ,(BV (m:=fh e n k) 12 (k:Int) c4 ((mM ae ae).symm) aN (by rw[vC];decide) (Tc e n k)).own (Fs:=ga 2 ([.bb s.kn (.cells (ao (fh e n (k-1))).toArray 162)])) (i:=2) aL (fun g al=>⟨U,al⟩)⟩),ay⟩ ?_)
 ·exact hJ U ((aK (aK (fK U cJ.fJ hH))))
 intro x fr w ⟨b,ak,cX⟩ ab E;obtain⟨u,bn, -,M⟩:=M.behind (val:=fun _:Unit=>.tuple #[]) (outs:=fun _=>[.bb s.kn (.cells (ao (fh e n k)).toArray 162)]) (p:=fun _=>True) cX (ab 2 aN);refine cm E<|ah 0 U (aE U U T.BH (M.row (i:=3) U) U)<|ah (v:=.agg (ao (fh e n k)).toArray) 0 U (cW U U T.jK (M.row (i:=0) U) ((List.size_toArray).trans ((dj _).trans (vC e n k))))<|bo M 0 U (ar U U T.QX) (PD M.fact.1 M.fact.2 aI (vC e n k)) fun w M=>bj (i:=4) (cs':=(ao (cH ks (fh e n k) 10)).toArray) M 0 U U (cB (vs:=(ao (cH ks (fh e n k) 10)).toArray) U U U T.lz ((List.size_toArray).trans ((dj _).trans (nd _ _ _))) (M.row (i:=4) U) ((List.size_toArray).trans ((dj _).trans (UR _ _ _ _))) (fun v aD=>c0 _ v aD)) U fun w M=>fun fr E=>?_;have M:=M.aH 1 rfl;have M:Mem _ _ ([.bb s.at_ (.cells #[aa 16] 3)]++_) _ _:=M;refine bN E<|bw 0 U fun fr E=>?_;refine(rO (B:=T.Kd) (Vs:=(.af (ab0 _):: .af (.int _ (((k+1:Nat):Int)))::cL w.heap.size ([.bb s.at_ (.cells #[aa 16] 3)]) (fun _:Unit=>undef) (fun _=>[.bb s.at_ (.cells #[aa 0] 3)]) (fun _=>True)::[])) (fs (ga 2 ([.bb s.at_ (.cells #[aa 16] 3)])) w.drew) T.YN 3 E T.mixed T.YM U U U ?_ ⟨bY U U M (fun i g h=>h.2) (fun x w' aA aL ab=>aE U U T.H5 (aA.row (i:=1) U) U),
   bY U U M (fun i g h=>h.2) (fun x w' aA aL ab=>num U ((mM ae ae).trans ae)),
   ph U U M (fun x w' aA c4 aL ab=>⟨U,U,U,cy (v:=_) U U U T.c3 (c4.dG 0 U) (rfl) (rfl) (rfl)⟩),ay⟩ ?_)
 ·exact hJ U ((aK (aK (fK U cJ.fJ hH))))
 intro x fr w ⟨b,ak,cX⟩ ab E;obtain⟨Z7,bn, -,M⟩:=M.behind (val:=fun _:Unit=>undef) (outs:=fun _=>[.bb s.at_ (.cells #[aa 0] 3)]) (p:=fun _=>True) cX (ab 2 aN);refine iq (i:=2) (cs':= #[ab0 ((k+1:Nat):Int)]) E M U U U U U U (cy (v:=_) U U U T.Je (M.row (i:=2) U) (rfl) (rfl) (rfl)) U fun fr w M E=>?_;refine cm E<|ah (v:=aa _) 0 U (aE U U T.bc (M.row (i:=0) U) U)<|a1 (y:=((1:Nat):Int)) 0 U U ((br ae ae).trans ae)<|bj (i:=0) (cs':= #[aa ((1:Nat):Int)]) M 0 U U (cy (v:=_) U U U T.c3 (M.row (i:=0) U) (rfl) (rfl) (rfl)) U fun w M=>ah (v:=aa _) 0 U (aE U U T.bc (M.row (i:=0) U) U)<|a1 (y:=((0:Nat):Int)) 0 U U ((br ae ae).trans ae)<|ah (v:=ai _ (0+0*1)) 0 U (dm (i:=0) U U U (rfl) ae T.ic T.bf)<|ah (v:=b1 (a8 (cH ks (fh e n k) 10) 0)) 0 U (aE U U T.cq (M.row (i:=4) U) (js (by rw[nd];omega)))<|aU 1 U fun fr E=>?_;refine bi E U U ?_;have M:=M.aH 4 rfl;have M:=M.aH 4 rfl;have M:=M.aH 4 rfl;have M:=M.aH 4 rfl;have M:=M.aH 4 rfl;have M:=M.as (L':=ix s dk ks e n (16*k+1)) (CF ae ae).symm;exact⟨(),U,M.fin (List.Sublist.refl _) trivial⟩
def pT(ks:List UInt8)(e n:Int)(m:Nat):dS:=a8 (cH ks (fh e n (m/16)) 10) (m%16)
theorem Un{s:p6}{dk m:Nat}{kv:Value}{ks:List UInt8}{e n:Int}{w0:World}(H:Has w0 (ix s dk ks e n m))(aJ:w0.heap[dk]? =some (.cells (kv::ao ep).toArray 159))(ap:Reads 16 w0 kv 11 (ao ks))(tn:¬aS (ix s dk ks e n m) dk)(lp:∀q,kv.ownBlock=some q->¬aS (ix s dk ks e n m) q)(aI:ks.length=176)(hm:m<1099511627776):aY prog 269 [ai s.at_ 0,ai s.kn 0,ai s.no 0,ai s.c 0,ai s.out 0] w0 (ix s dk ks e n m) (fun _:Unit=>b1 (pT ks e n m)) (fun _=>ix s dk ks e n (m+1)) (fun _=>True):=by
 obtain⟨k,j,ax,rfl⟩:∃k j,j<16/\m=16*k+j:=⟨m/16,m%16,Nat.mod_lt _ aN,by omega⟩
 unfold pT;rw[show(16*k+j)/16=k by omega,show(16*k+j)%16=j by omega];by_cases bG:j=0
 ·subst bG;exact Ul H aJ ap tn lp aI ae
 ·exact Um H aJ ap tn lp aI ae ax
def gW(ks:List UInt8)(e n:Int)(bl:List UInt8):List UInt8:=(List.range bl.length).map (fun i=>(⟨a8 bl i ^^^ pT ks e n i⟩:UInt8))
theorem sH(ks:List UInt8)(e n:Int)(bl:List UInt8):(gW ks e n bl).length=bl.length:=by simp[gW]
theorem D9{dk:Nat}{kv bv:Value}{ks bl:List UInt8}{e n:Int}{w0:World}(aJ:w0.heap[dk]? =some (.cells (kv::ao ep).toArray 159))(ap:Reads 16 w0 kv 11 (ao ks))(aI:ks.length=176)(ak:Bytes w0 bv bl)(au:bl.length<=1048576):aY prog 264 [ai dk 0,aa e,aa n,bv] w0 [] (fun v:Value=>v) (fun v=>[.bytes 5 v (gW ks e n bl)]) (fun _=>True):=by
 refine enter (n:=36) func264 U U U ?_;intro fr E;have M:=Mem.begin (Φ:=fun w'=>w'.heap[dk]? =some (.cells (kv::ao ep).toArray 159)/\Reads 16 w' kv 11 (ao ks)/\Bytes w' bv bl) (Has.nil w0) (fun w' h=>⟨fc aJ h,ap.bU h,ak.bU h⟩);refine aV E<|cP M 4 U (ar U U T.QV) (Xv ks) U fun s w _ M=>ah 2 U (bx U U U U T.aG (M.fact.2.2))<|cv 0 U fun fr E=>?_;refine CA (k:=bl.length) (c:=bl.length) E M U U U U U U U U (rfl) (rfl) T.aG T.eh T.rn T.ef (Nat.le_refl _) ae fun o fr w M E=>?_;refine cw E<|ah 2 U (bx U U U U T.aG (M.fact.2.2))<|bw 1 U fun fr E=>?_;refine cI (fun d fr w=>∃i:Nat,d=bl.length-i/\i<=bl.length/\Env [(22,aa (i:Int)),(21,aa (bl.length:Int)),(20,bv),(10,o),(9,iY s)] 36 fr/\Mem w0 (aS []) (.bytes 5 o (ji (fun i=>(⟨a8 bl i ^^^ pT ks e n i⟩:UInt8)) (List.replicate bl.length 0) i)::ix s dk ks e n i) (fun w'=>w'.heap[dk]? =some (.cells (kv::ao ep).toArray 159)/\Reads 16 w' kv 11 (ao ks)/\Bytes w' bv bl) w) (bl.length) ?_ ?_
 ·have M:=M.aH 5 rfl;have M:=M.aH 5 rfl;have M:=M.aH 5 rfl;have M:=M.aH 5 rfl;have M:=M.aH 5 rfl;have M:=M.aH 5 rfl;exact⟨0,U,Nat.zero_le _,E.lL [9,10,20,21,22] rfl,M.as (by rw[U0];rfl)⟩
 ·clear E M;rintro d fr w ⟨i,rfl,hle,E,M⟩;have l3:(ji (fun i=>(⟨a8 bl i ^^^ pT ks e n i⟩:UInt8)) (List.replicate bl.length 0) i).length=bl.length:=(vO (by rw[List.length_replicate];omega)).trans List.length_replicate;by_cases hi:i<bl.length
  ·refine bA E<|bD 0 U U ae<|ah 2 U (bL (i:=i) U (M.fact.2.2) U U (rfl) (hi) T.aG T.bf)<|ah (v:=b1 (a8 bl i)) 0 U (b2 U (M.fact.2.2) U T.cq (fS hi))<|fun fr E=>?_;have M:=M.aH 5 rfl;have M:=M.aH 5 rfl;have M:=M.aH 5 rfl;have M:=M.aH 5 rfl;have M:=M.aH 5 rfl;refine bN E<|bC (ix s dk ks e n i) M 6 U (Wi (us:=[]) (cs:=[ai s.at_ 0,ai s.kn 0,ai s.no 0,ai s.c 0,ai s.out 0]) U U T.QW) U (fun H=>Un H M.fact.1 M.fact.2.1 (Mem.s7 M aJ) (Mem.Ai M ap) aI ae) fun _ w _ M=>a1 0 U U (dx _ _)<|ah 0 U (bL (i:=i) U (M.reads 5 U) U U (rfl) ae T.aG T.bf)<|cv 0 U fun fr E=>?_;refine yW (i:=5) (k:=i) (b:=⟨a8 bl i ^^^ pT ks e n i⟩) E M U U U U U U U U (rfl) T.bf ae fun fr w M E=>?_;refine cw E<|a1 (y:=((i+1:Nat):Int)) 0 U U ((br ae ae).trans ae)<|ct 1 U fun fr E=>?_;have M:=M.aH 4 rfl;have M:=M.aH 4 rfl;have M:=M.aH 4 rfl;have M:=M.aH 4 rfl;have M:=M.aH 4 rfl;have M:=M.aH 5 rfl;exact⟨bl.length-(i+1),by omega,i+1,U,by omega,E.lL [9,10,20,21,22] rfl,M.as (by rw[<-yt (f:=(fun i=>(⟨a8 bl i ^^^ pT ks e n i⟩:UInt8))) (by rw[List.length_replicate];exact hi)];rfl)⟩
  ·obtain rfl:i=bl.length:=by omega
   rw[yr List.length_replicate]at M;refine bA E<|bs 0 U U ae<|aU 3 U fun fr E=>?_;refine bi E U U ?_;exact⟨_,U,M.fin (outs:=[.bytes 5 o (gW ks e n bl)]) (.cons_cons _ (List.nil_sublist _)) trivial⟩
end
section
open Go.RowKit Go.a2 Go.Proofs Go.Proofs.Tryz
def hX(e n:Int):Prop:=(0<=e/\e<=1099511627776)/\(0<=n/\n<=1099511627776)
instance(e n:Int):Decidable (hX e n):=by unfold hX;infer_instance
def ri(a b:List UInt8):Nat->dS
 |0=>0#8
 |i+1=>ri a b i |||(a8 a i ^^^ a8 b i)
theorem UQ{x y:dS}:x ||| y=0#8↔x=0#8/\y=0#8:=by
 constructor
 ·intro h;have aj:∀i:Nat,(x ||| y).getLsbD i=false:=fun i=>by rw[h];simp
  simp only[BitVec.getLsbD_or,Bool.or_eq_false_iff]at aj;exact⟨BitVec.eq_of_getLsbD_eq fun i _=>by simp[(aj i).1],BitVec.eq_of_getLsbD_eq fun i _=>by simp[(aj i).2]⟩
 ·rintro⟨rfl,rfl⟩;rfl
theorem La(a b:List UInt8):∀n,ri a b n=0#8↔∀i,i<n->a8 a i=a8 b i
 |0=>by simp[ri]
 |n+1=>by
  rw[ri,UQ,La a b n,BitVec.xor_eq_zero_iff];constructor
  ·rintro⟨aj,an⟩ i hi;rcases Nat.lt_or_eq_of_le (Nat.le_of_lt_succ hi)with h|rfl
   ·exact aj i h
   ·exact an
  ·exact fun h=>⟨fun i hi=>h i ae,h n (Nat.lt_succ_self n)⟩
theorem RE{a b:List UInt8}{n:Nat}(bm:a.length=n)(ak:b.length=n)(h:∀i,i<n->a8 a i=a8 b i):a=b:=by
 refine List.ext_getElem (bm.trans ak.symm) fun i aj an=>?_;have:=h i ae;unfold a8 at this;rw[List.getD_eq_getElem?_getD,List.getD_eq_getElem?_getD,List.getElem?_eq_getElem aj,List.getElem?_eq_getElem an]at this;exact UInt8.toBitVec_inj.1 this
theorem WZ{a b:List UInt8}(bm:a.length=32)(ak:b.length=32):decide (a2.cU (ri a b 32)=0)=decide (a=b):=by
 refine decide_eq_decide.2 ?_;have aj:a2.cU (ri a b 32)=0↔ri a b 32=0#8:=⟨fun h=>BitVec.eq_of_toNat_eq (by unfold a2.cU at h;simpa using h),fun h=>by rw[h];rfl⟩
 rw[aj,La];exact⟨fun h=>RE bm ak h,fun h=>by subst h;exact fun _ _=>rfl⟩
def Ag:ByteArray:=⟨#[101,110,99,114,121,112,116]⟩
def zI:ByteArray:=⟨#[97,117,116,104,101,110,116,105,99,97,116,101]⟩
def encS:List UInt8:=Ag.data.toList
def uF:List UInt8:=zI.data.toList
def gp(key:List UInt8):List UInt8:=(h7 key encS).take 16
def pF(key:List UInt8):List UInt8:=h7 key uF
theorem tu(key:List UInt8):(gp key).length=16:=by simp[gp,gL]
theorem vD(key:List UInt8):(pF key).length=32:=gL _ _
def gF(key:List UInt8)(e n:Int)(aT bl:List UInt8):List UInt8:=h7 (pF key) (aO (aT.length:Int)++aT++aO e++aO n++bl)
def hB(key:List UInt8)(e n:Int)(aT pl:List UInt8):List UInt8:=if hX e n then gW (aX (gp key) 40) e n pl++gF key e n aT (gW (aX (gp key) 40) e n pl)else []
theorem Cu{key aT pl:List UInt8}{e n:Int}(h:hX e n):hB key e n aT pl=gW (aX (gp key) 40) e n pl++gF key e n aT (gW (aX (gp key) 40) e n pl):=if_pos h
theorem I4{key aT pl:List UInt8}{e n:Int}(h:¬hX e n):hB key e n aT pl=[]:=if_neg h
def uz(key:List UInt8)(e n:Int)(aT b:List UInt8):Prop:=hX e n/\32<=b.length/\gF key e n aT (b.take (b.length-32))=b.drop (b.length-32)
instance(key:List UInt8)(e n:Int)(aT b:List UInt8):Decidable (uz key e n aT b):=by unfold uz;infer_instance
def kr(key:List UInt8)(e n:Int)(aT b:List UInt8):Option (List UInt8):=if uz key e n aT b then some (gW (aX (gp key) 40) e n (b.take (b.length-32)))else none
theorem EE{w:World}{g n m:Nat}{T:TypeId}{fr:Nat×Nat}{l:List UInt8}(h:w.heap[g]? =some (.cells (ao l).toArray T fr))(hm:l.length=m)(a6:n<=m)(ad:m<=maxLen):Bytes w (.slice (some ⟨g,0,none⟩) n m) (l.take n):=by
 have:=(nw h hm ad).cut 0 n (Nat.zero_le _) ae;simpa [e2,add_plain]using this
theorem V7{w:World}{a b c d f:Value}{x y z u v:List UInt8}(aj:Bytes w a x)(an:Bytes w b y)(aB:Bytes w c z)(be:Bytes w d u)(bZ:Bytes w f v):∀q∈[(a,x),(b,y),(c,z),(d,u),(f,v)],Bytes w q.1 q.2:=fun q bE=>by
 simp only[List.mem_cons,List.not_mem_nil,or_false]at bE;rcases bE with rfl|rfl|rfl|rfl|rfl<;>assumption
theorem K6{x y:Value}(aj:x.oneCell'=true)(an:y.oneCell'=true): [x,y].map (·.cells.size)=List.replicate 2 1/\([x,y].map (·.cells.toList)).flatten=[x,y]:=by
 have a:=o9 aj;have b:=o9 an;constructor<;>simp only[List.map_cons,List.map_nil,a,b]<;>rfl
theorem V8{w:World}{v a b:Value}{x y:List UInt8}(h:Reads 1 w v 2 [a,b])(aj:Bytes w a x)(an:Bytes w b y):mS w v [x,y]:=⟨[(a,x),(b,y)],rfl,h,B9 aj an⟩
structure fz where
 eE:Nat
 dk:Nat
 bg:Nat
 kv:Value
def sW(B:fz)(key:List UInt8):List az:=[.bb B.eE (.cells #[ai B.dk 0,.slice (some ⟨B.bg,0,none⟩) 32 32] 101),.bb B.dk (.cells (B.kv::ao ep).toArray 159),.row 162 16 B.kv 11 (ao (aX (gp key) 40)),.bb B.bg (.cells (ao (pF key)).toArray 39)]
def bp(B:fz)(key:List UInt8):az:=az.all (sW B key)
section
variable{B:fz}{key:List UInt8}{w w':World}
theorem w2(h:(bp B key).ok w):w.heap[B.eE]? =some (.cells #[ai B.dk 0,.slice (some ⟨B.bg,0,none⟩) 32 32] 101):=h.1 _ (List.mem_of_getElem? (i:=0) rfl)
theorem zP(h:(bp B key).ok w):w.heap[B.dk]? =some (.cells (B.kv::ao ep).toArray 159):=h.1 _ (List.mem_of_getElem? (l:=sW B key) (i:=1) rfl)
theorem zQ(h:(bp B key).ok w):Reads 16 w B.kv 11 (ao (aX (gp key) 40)):=nS (t:=162) (h.1 (.row 162 16 B.kv 11 (ao (aX (gp key) 40))) (List.mem_of_getElem? (l:=sW B key) (i:=2) rfl))
theorem Ex(h:(bp B key).ok w):w.heap[B.bg]? =some (.cells (ao (pF key)).toArray 39):=h.1 _ (List.mem_of_getElem? (l:=sW B key) (i:=3) rfl)
theorem Pb(h:(bp B key).ok w):Bytes w (.slice (some ⟨B.bg,0,none⟩) 32 32) (pF key):=nw (Ex h) (vD key) aN
theorem Pa(h:(bp B key).ok w){g:Nat}(al:g∈(bp B key).et):g<w.heap.size:=by
 obtain⟨e,he,hb⟩:=az.kq.1 al;simp only[sW,List.mem_cons,List.not_mem_nil,or_false]at he;rcases he with rfl|rfl|rfl|rfl
 ·obtain rfl:g=B.eE:=by simpa [az.bb]using hb
  exact(Array.getElem?_eq_some_iff.1 (w2 h)).1
 ·obtain rfl:g=B.dk:=by simpa [az.bb]using hb
  exact(Array.getElem?_eq_some_iff.1 (zP h)).1
 ·exact vR (zQ h) (by simpa [az.row]using hb)
 ·obtain rfl:g=B.bg:=by simpa [az.bb]using hb
  exact(Array.getElem?_eq_some_iff.1 (Ex h)).1
theorem O8{F:Nat->Prop}(h:(bp B key).ok w)(H:gI F w w')(cG:∀g∈(bp B key).et,¬F g):(bp B key).ok w':=(bp B key).pS w w' (fun g al=>H.block g (Pa h al) (cG g al)) h
theorem oa(h:(bp B key).ok w)(H:gI (aS []) w w'):(bp B key).ok w':=O8 h H fun _ _=>gQ
end
theorem Vc{v:Value}{l:List Int}{w0:World}(aD:Ints w0 v l)(au:l.length<=100):bH prog 261 [v] w0 (.bool (decide (∀x∈l,0<=x/\x<=1099511627776))):=by
 refine enter (n:=18) func261 U U U ?_;intro fr E;have M:=Mem.begin (Φ:=fun w'=>Ints w' v l) (Has.nil w0) (fun w' h=>aD.bU h);refine aV E<|ah 2 U (bx U U U U T.en (M.fact))<|bw 1 U fun fr E=>?_;refine cI (fun d fr w=>∃i:Nat,d=l.length-i/\i<=l.length/\(∀j (ax:j<l.length),j<i->0<=l[j]/\l[j]<=1099511627776)/\Env [(7,aa (i:Int)),(6,aa (l.length:Int)),(5,v)] 18 fr/\Mem w0 (aS []) [] (fun w'=>Ints w' v l) w) (l.length) ?_ ?_
 ·exact⟨0,U,Nat.zero_le _,fun j ax h=>absurd h ae,E.lL [5,6,7] rfl,M⟩
 ·clear E M;rintro d fr w ⟨i,rfl,hle,iS,E,M⟩;by_cases hi:i<l.length
  ·by_cases bG:l[i]'hi<0
   ·refine bA E<|bD 0 U U ae<|ah 1 U (bL (i:=i) U (M.fact) U U (rfl) (hi) T.en T.c3)<|ah (v:=aa (l[i]'hi)) 0 U (b2 U (M.fact) U T.bc (by rw[Nat.mul_one];exact kU hi))<|bD 2 U U bG<|ah (v:=.bool _) 3 U U<|aU 2 U fun fr E=>?_;refine bi E U U ?_;rw[decide_eq_false (fun h=>by have:=h _ (List.getElem_mem hi);omega)];exact bX M
   ·by_cases aj:1099511627776<l[i]'hi
    ·refine bA E<|bD 0 U U ae<|ah 1 U (bL (i:=i) U (M.fact) U U (rfl) (hi) T.en T.c3)<|ah (v:=aa (l[i]'hi)) 0 U (b2 U (M.fact) U T.bc (by rw[Nat.mul_one];exact kU hi))<|bs 2 U U bG<|bD 2 U U aj<|ah (v:=.bool _) 0 U U<|aU 2 U fun fr E=>?_;refine bi E U U ?_;rw[decide_eq_false (fun h=>by have:=h _ (List.getElem_mem hi);omega)];exact bX M
    ·refine bA E<|bD 0 U U ae<|ah 1 U (bL (i:=i) U (M.fact) U U (rfl) (hi) T.en T.c3)<|ah (v:=aa (l[i]'hi)) 0 U (b2 U (M.fact) U T.bc (by rw[Nat.mul_one];exact kU hi))<|bs 2 U U bG<|bs 2 U U aj<|ah (v:=.bool _) 0 U U<|a1 (y:=((i+1:Nat):Int)) 1 U U ((br ae ae).trans ae)<|ct 1 U fun fr E=>?_;refine⟨l.length-(i+1),by omega,i+1,U,by omega,fun j ax St=>?_,E.lL [5,6,7] rfl,M⟩;rcases Nat.lt_or_eq_of_le (Nat.le_of_lt_succ St)with h|rfl
     ·exact iS j ax h
     ·exact⟨by omega,by omega⟩
  ·obtain rfl:i=l.length:=by omega
   refine bA E<|bs 0 U U ae<|aU 2 U fun fr E=>?_;refine bi E U U ?_;rw[decide_eq_true (fun x ad=>by obtain⟨j,ax,rfl⟩:=List.getElem_of_mem ad;exact iS j ax ax)];exact bX M
theorem tH{v:Value}{e n:Int}{r:Bool}{w0:World}(aD:Ints w0 v [e,n])(h:decide (hX e n)=r):bH prog 261 [v] w0 (.bool r):=by
 have:=Vc aD (show 2<=100 by decide)
 rwa [show decide (∀x∈[e,n],0<=x/\x<=1099511627776)=r by rw[<-h];exact decide_eq_decide.2 (by simp[hX])]at this
theorem Tn{b:Value}{ps:List (Value×List UInt8)}{w0:World}(ap:Reads 1 w0 b ps.length (ps.map (·.1)))(ak:∀p∈ps,Bytes w0 p.1 p.2)(a6:ps.length<=1000)(au:(pl ps ps.length).length<=35184372088832):aY prog 265 [b] w0 [] (fun s:Value=>s) (fun s=>[.bytes 5 s (pl ps ps.length)]) (fun _=>True):=by
 refine enter (n:=17) func265 U U U ?_;intro fr E;have M:=Mem.begin (Φ:=fun w'=>Reads 1 w' b ps.length (ps.map (·.1))/\∀p∈ps,Bytes w' p.1 p.2) (Has.nil w0) (fun w' h=>⟨ap.bU h,fun p hp=>(ak p hp).bU h⟩);refine aV E<|ah 3 U (bx U U U U T.gN (M.fact.1))<|bw 1 U fun fr E=>?_;refine cI (fun d fr w=>∃(i:Nat) (o:Value),d=ps.length-i/\i<=ps.length/\Env [(8,aa (i:Int)),(7,aa (ps.length:Int)),(6,b),(3,o)] 17 fr/\Mem w0 (aS []) [.bytes 5 o (pl ps i)] (fun w'=>Reads 1 w' b ps.length (ps.map (·.1))/\∀p∈ps,Bytes w' p.1 p.2) w) (ps.length) ?_ ?_
 ·have M:=M.jg 5;exact⟨0,_,U,Nat.zero_le _,E.lL [3,6,7,8] rfl,M⟩
 ·clear E M;rintro d fr w ⟨i,o,rfl,hle,E,M⟩;by_cases hi:i<ps.length
  ·have hm:=BN (ps:=ps) hi;have hlen:=tG hi;refine bA E<|bD 0 U U ae<|ah 1 U (bL (i:=i) U (M.fact.1) U U (rfl) (hi) T.gN T.gM)<|ah (v:=(ps[i]).1) 0 U (b2 U (M.fact.1) U T.ec (by rw[Nat.mul_one,List.getElem?_map,List.getElem?_eq_getElem hi];rfl))<|cv 3 U fun fr E=>?_;refine fX (i:=0) E M U U U U U U U U U U U T.aG T.aG T.eh T.ef (M.fact.2 _ (List.getElem_mem hi)) ae fun o fr w M E=>?_;refine cw E<|a1 (y:=((i+1:Nat):Int)) 1 U U ((br ae ae).trans ae)<|ct 1 U fun fr E=>?_;refine⟨ps.length-(i+1),by omega,i+1,_,U,by omega,E.lL [3,6,7,8] rfl,M.as (by rw[BO hi];rfl)⟩
  ·obtain rfl:i=ps.length:=by omega
   refine bA E<|bs 0 U U ae<|aU 3 U fun fr E=>?_;refine bi E U U ?_;exact⟨_,U,M.fin (.refl _) trivial⟩
theorem G8{b:Value}{ls:List (List UInt8)}{l:List UInt8}{w0:World}(h:mS w0 b ls)(aI:ls.flatten=l)(a6:ls.length<=1000)(au:l.length<=35184372088832):aY prog 265 [b] w0 [] (fun s:Value=>s) (fun s=>[.bytes 5 s l]) (fun _=>True):=by
 subst aI;obtain⟨ps,rfl,an,aB⟩:=h;have e:pl ps ps.length=(ps.map (·.2)).flatten:=by unfold pl;rw[List.take_length]
 have:=Tn an aB (by simpa using a6) (by rw[e];exact au)
 rwa [e]at this
theorem Af(v:Int)(w0:World):aY prog 266 [aa v] w0 [] (fun s:Value=>s) (fun s=>[.bytes 5 s (aO v)]) (fun _=>True):=by
 refine enter (n:=17) func266 U U U ?_;intro fr E;have M:=ht (Has.nil w0);refine aV E<|bw 3 U fun fr E=>?_;refine cI (fun d fr w=>∃(j:Nat) (o:Value),d=j/\j<=8/\Env [(4,aa (8*((j:Int)-1))),(3,o),(0,aa v)] 17 fr/\Mem w0 (aS []) [.bytes 5 o ((aO v).take (8-j))] (fun _=>True) w) (8) ?_ ?_
 ·have M:=M.jg 5;exact⟨8,_,U,by omega,E.lL [0,3,4] rfl,M.as (by simp)⟩
 ·clear E M;rintro d fr w ⟨j,o,aT,hle,E,M⟩;by_cases ax:1<=j
  ·refine bA E<|bD 1 U U ae<|ah (v:=aa _) 4 U (q6 U U U ae U)<|a1 (y:=(((aO v)[8-j]'(by rw[eo];omega)).toNat:Int)) 0 U U (G7 v ax hle)<|cv 0 U fun fr E=>?_;refine dM (sz:=1) (xs:=ao [(aO v)[8-j]'(by rw[eo];omega)]) E M U U U U U (ev (us:=[_]) (vs:=[_]) U U U T.aG T.bf T.gO U U U U U) (rfl) (Nat.le_refl _) aN (rfl) fun t fr w M E=>?_;refine fX (i:=1) E M U U U U U U U U U U U T.aG T.aG T.eh T.ef (M.reads 0 U) (by simp[eo];omega) fun o fr w M E=>?_;refine cw E<|a1 (y:=8*(((j-1:Nat):Int)-1)) 2 U U ((br ae ae).trans ae)<|ct 1 U fun fr E=>?_;refine⟨j-1,by omega,j-1,_,U,by omega,E.lL [0,3,4] rfl,(M.sub (.cons _ (.refl _))).as ?_⟩;rw[<-List.take_succ_eq_append_getElem,show 8-j+1=8-(j-1) by omega];rfl
  ·obtain rfl:j=0:=by omega
   refine bA E<|bs 1 U U ae<|aU 3 U fun fr E=>?_;refine bi E U U ?_;exact⟨_,U,M.fin (.refl _) trivial⟩
theorem Nn{a b:List UInt8}{w0:World}(bm:a.length=32)(ak:b.length=32):bH prog 262 [.agg (ao a).toArray,.agg (ao b).toArray] w0 (.bool (decide (a=b))):=by
 refine enter (n:=22) func262 U U U ?_;intro fr E;have M:=ht (Has.nil w0);refine aV E<|bh (ob:=.cells ((ao a).toArray) 39) (fun g=>ai g 0) M 0 U (cS (cs:=((ao a).toArray)) U U) fun aZ w M=>bh (ob:=.cells ((ao b).toArray) 39) (fun g=>ai g 0) M 0 U (cS (cs:=((ao b).toArray)) U U) fun bQ w M=>ah (v:=b1 (0#8)) 1 U (hT U)<|bw 1 U fun fr E=>?_;refine cI (fun d fr w=>∃i:Nat,d=32-i/\i<=32/\Env [(7,aa (i:Int)),(5,b1 (ri a b i)),(3,ai bQ 0),(2,ai aZ 0)] 22 fr/\Mem w0 (aS []) [.bb bQ (.cells (ao b).toArray 39),.bb aZ (.cells (ao a).toArray 39)] (fun _=>True) w) (32) ?_ ?_
 ·exact⟨0,U,Nat.zero_le _,E.lL [2,3,5,7] rfl,M⟩
 ·clear E M;rintro d fr w ⟨i,rfl,hle,E,M⟩;by_cases hi:i<32
  ·refine bA E<|bD 0 U U ae<|bw 3 U fun fr E=>?_;refine(dR (B:=T.Ka) (Vs:=(.af _:: .af _:: .af (ai _ (0+i*1)):: .af _:: .af _:: .af (ai _ (0+i*1)):: .af _:: .af _:: .af _:: .af _::[])) T.YH E T.mixed T.YG U (ej.e6 U) ⟨aw U U,
   aw U U,
   aC U U (fun x w ad ab=>dm (i:=i) U U U (rfl) (hi) T.iB T.bf),
   aC U U (fun x w ad ab=>aE U U T.cq ((M.aQ ad).row (i:=1) U) (js (l:=a) (i:=i) ae)),
   aw U U,
   aC U U (fun x w ad ab=>dm (i:=i) U U U (rfl) (hi) T.iB T.bf),
   aC U U (fun x w ad ab=>aE U U T.cq ((M.aQ ad).row (i:=0) U) (js (l:=b) (i:=i) ae)),
   aC U U (fun x w ad ab=>num U (dx _ _)),
   aC U U (fun x w ad ab=>num U (kt _ _)),
   aw U U,ay⟩ ?_)
   intro x fr w ad ab E;have M:=M.ext ad;refine cm E<|a1 (y:=((i+1:Nat):Int)) 0 U U ((br ae ae).trans ae)<|ct 1 U fun fr E=>?_;exact⟨32-(i+1),by omega,i+1,U,by omega,E.lL [2,3,5,7] rfl,M⟩
  ·obtain rfl:i=32:=by omega
   refine bA E<|ch 0 U U aN<|ah (v:=.bool (decide (a=b))) 2 U (eZ U (WZ bm ak))<|aU 1 U fun fr E=>?_;refine bi E U U ?_;exact bX M
theorem OD{bv:Value}{key:List UInt8}{w0:World}(ak:Bytes w0 bv key)(ab:w0.heap[0]? =some (.cells (a7 bt).toArray 243))(au:key.length<=1099511627776):aY prog 11 [bv] w0 [] (fun B:fz=>ai B.eE 0) (fun B=>[bp B key]) (fun _=>True):=by
 refine enter (n:=20) func11 U U U ?_;intro fr E;have M:=Mem.begin (Φ:=fun w'=>Bytes w' bv key/\w'.heap[0]? =some (.cells (a7 bt).toArray 243)) (Has.nil w0) (fun w' h=>⟨ak.bU h,fc ab h⟩);refine aV E<|bo M 2 U (ar U U T.FQ) (E3 (s:=Ag) M.fact.1 M.fact.2 au aN) fun w M=>bo M 1 U (ar U U T.FQ) (E3 (s:=zI) M.fact.1 M.fact.2 au aN) fun w M=>bh (ob:=.cells _ 39) (fun g=>ai g 0) M 0 U (bT U T.gH) fun aZ w M=>bh (ob:=.cells _ 39) (fun g=>ai g 0) M 0 U (bT U T.gH) fun bQ w M=>bj (i:=1) (cs':=(ao (h7 key encS)).toArray) M 0 U U (cB (vs:=(ao (h7 key encS)).toArray) U U U T.fF ((List.size_toArray).trans ((dj _).trans (gL _ _))) (M.row (i:=1) U) (rfl) (fun v aD=>c0 _ v aD)) U fun w M=>bj (i:=0) (cs':=(ao (h7 key uF)).toArray) M 0 U U (cB (vs:=(ao (h7 key uF)).toArray) U U U T.fF ((List.size_toArray).trans ((dj _).trans (gL _ _))) (M.row (i:=0) U) (rfl) (fun v aD=>c0 _ v aD)) U fun w M=>ah (v:=.slice (some ⟨aZ,0,none⟩) 16 32) 0 U (wa (lo:=0) (hi:=16) (mx:=32) U U T.iB T.bf U ⟨_,_,rfl,rfl⟩ U aN aN aN aN aN)<|cP M 0 U (ar U U T.Q3) (PF (key:=gp key) (EE (M.row (i:=1) U) (gL _ _) aN aN) (tu key)) U fun⟨dk,kv⟩ w _ M=>ah (v:=.slice (some ⟨bQ,0,none⟩) 32 32) 6 U (lQ (g:=_) (cs:= #[]) (T:=0) (fr:=(0,0)) U U T.iB T.bf)<|ah (v:=.agg ([_,_]).toArray) 0 U (dl (vs:=[_,_]) (us:=[_,_]) U U T.ZP T.aaB U U U U)<|bh (ob:=.cells (#[ai dk 0,.slice (some ⟨bQ,0,none⟩) 32 32]) 101) (fun g=>ai g 0) M 0 U (cS (cs:=(#[ai dk 0,.slice (some ⟨bQ,0,none⟩) 32 32])) U U) fun cF w M=>aU 1 U fun fr E=>?_;refine bi E U U ?_;have M:=M.aH 3 rfl;have M:=M.aH 3 rfl;have M:=M.aH 3 rfl;have M:=M.aH 3 rfl;exact⟨⟨cF,dk,bQ,kv⟩,U,(Mem.pack (A:=sW ⟨cF,dk,bQ,kv⟩ key) M).fin (outs:=[bp ⟨cF,dk,bQ,kv⟩ key]) (.cons_cons _ (List.nil_sublist _)) trivial⟩
theorem KZ{B:fz}{key:List UInt8}{aD bv:Value}{aT bl:List UInt8}{e n:Int}{w0:World}(ad:(bp B key).ok w0)(ab:w0.heap[0]? =some (.cells (a7 bt).toArray 243))(cc:Bytes w0 aD aT)(ak:Bytes w0 bv bl)(eG:aT.length<=1048576)(au:bl.length<=1048576):bH prog 263 [ai B.eE 0,aa e,aa n,aD,bv] w0 (.agg (ao (gF key e n aT bl)).toArray):=by
 refine enter (n:=27) func263 U U U ?_;intro fr E;have M:=Mem.begin (Φ:=fun w'=>(bp B key).ok w'/\w'.heap[0]? =some (.cells (a7 bt).toArray 243)/\Bytes w' aD aT/\Bytes w' bv bl) (Has.nil w0) (fun w' h=>⟨oa ad h,fc ab h,cc.bU h,ak.bU h⟩);refine aV E<|bh (ob:=.cells _ 39) (fun g=>ai g 0) M 0 U (bT U T.gH) fun aZ w M=>bw 0 U fun fr E=>?_;refine(ii (B:=T.Kb) (Vs:=(.af _:: .af _:: .af (ai _ 1):: .af (.slice (some ⟨B.bg,0,none⟩) 32 32):: .af _:: .af (aa _)::cV w.heap.size (fun v=>[.bytes 5 v (aO (aT.length:Int))]) (fun _=>True):: .af _:: .af _::cV w.heap.size (fun v=>[.bytes 5 v (aO e)]) (fun _=>True):: .af _::cV w.heap.size (fun v=>[.bytes 5 v (aO n)]) (fun _=>True):: .af _::(.rel fun w v=>mS w v [aO (aT.length:Int),aT,aO e,aO n,bl])::cV w.heap.size (fun v=>[.bytes 5 v (aO (aT.length:Int)++aT++aO e++aO n++bl)]) (fun _=>True):: .af (.agg (ao (gF key e n aT bl)).toArray)::[])) T.YJ 16 E T.mixed T.YI U U U (fH.dF ⟨ay,ay,ay,ay,ay,ay,cn.df,ay,ay,cn.df,ay,cn.df,ay,(fun w w' v ad h=>h.ext ad),cn.df,ay,ay⟩) ⟨aw U U,
   aw U U,
   aw U U,
   aC U U (fun x w ad ab=>aE U U T.ec (w2 (M.aQ ad).fact.1) U),
   aw U U,
   aC U U (fun x w ad ab=>bx U U U U T.aG ((M.aQ ad).fact.2.2.1)),
   cE U U (fun x w ad ab=>⟨_,_,U,U,U,ar U U T.AI,(Af (aT.length:Int) _).eN ad.size⟩),
   aw U U,
   aw U U,
   cE U U (fun x w ad ab=>⟨_,_,U,U,U,ar U U T.AI,(Af e _).eN ad.size⟩),
   aw U U,
   cE U U (fun x w ad ab=>⟨_,_,U,U,U,ar U U T.AI,(Af n _).eN ad.size⟩),
   aw U U,
   h3 U U (fun x w ad ab=>⟨U,U,U,vU [(x 6,aO (aT.length:Int)),(aD,aT),(x 9,aO e),(x 11,aO n),(bv,bl)] rfl U U U T.gN T.gM T.p0 U (V7 ((ab 6 U).1.reads 0 U) (M.aQ ad).fact.2.2.1 ((ab 9 U).1.reads 0 U) ((ab 11 U).1.reads 0 U) (M.aQ ad).fact.2.2.2) U U⟩),
   cE U U (fun x w ad ab=>⟨_,_,U,U,U,ar U U T.FN,(G8 (ls:=[aO (aT.length:Int),aT,aO e,aO n,bl]) (l:=aO (aT.length:Int)++aT++aO e++aO n++bl) (ab 13 U) (by simp) (by simp) (by simp[eo];omega)).eN ad.size⟩),
   cE U U (fun x w ad ab=>⟨_,_,U,U,U,ar U U T.FX,(Hv (Pb (M.aQ ad).fact.1) ((ab 14 U).1.reads 0 U) (M.aQ ad).fact.2.1 (by rw[vD];decide) (by simp[eo];omega)).ext⟩),ay⟩ ?_)
 intro x fr w ad ab E;have M:=M.ext ad;refine iq (i:=0) (cs':=(ao (gF key e n aT bl)).toArray) E M U U U U U U (cB (vs:=(ao (gF key e n aT bl)).toArray) U U U T.fF ((List.size_toArray).trans ((dj _).trans (gL _ _))) (M.row (i:=0) U) (rfl) (fun v aD=>c0 _ v aD)) U fun fr w M E=>?_;refine cm E<|aU 0 U fun fr E=>?_;refine gC E U U T.gJ (M.row (i:=0) U) ((List.size_toArray).trans ((dj _).trans (gL _ _))) ?_;exact bX M
theorem OK{B:fz}{key:List UInt8}{aD bv:Value}{aT bl:List UInt8}{e n:Int}{w0:World}(ad:(bp B key).ok w0)(ab:w0.heap[0]? =some (.cells (a7 bt).toArray 243))(cc:Bytes w0 aD aT)(ak:Bytes w0 bv bl)(eG:aT.length<=1048576)(au:bl.length<=1048576)(hp:¬hX e n):aY prog 259 [ai B.eE 0,aa e,aa n,aD,bv] w0 [] (fun v:Value=>v) (fun v=>[.bytes 5 v (hB key e n aT bl)]) (fun _=>True):=by
 refine enter (n:=36) func259 U U U ?_;intro fr E;have M:=Mem.begin (Φ:=fun w'=>(bp B key).ok w'/\w'.heap[0]? =some (.cells (a7 bt).toArray 243)/\Bytes w' aD aT/\Bytes w' bv bl) (Has.nil w0) (fun w' h=>⟨oa ad h,fc ab h,cc.bU h,ak.bU h⟩);refine aV E<|cv 3 U fun fr E=>?_;refine dM (sz:=1) (xs:=fg [e,n]) E M U U U U U (ev (us:=[_,_]) (vs:=[_,_]) U U U T.en T.c3 T.k7 U U U U U) (rfl) (Nat.le_refl _) aN (rfl) fun vK fr w M E=>?_;refine cw E<|bo M 0 U (ar U U T.te) (tH (e:=e) (n:=n) (M.reads 0 U) (decide_eq_false hp)) fun w M=>ah (v:=.bool _) 0 U U<|aU 2 U fun fr E=>?_;refine bi E U U ?_;have M:=M.jg 5;exact⟨_,U,M.fin (outs:=[.bytes 5 _ (hB key e n aT bl)]) ((congrArg (fun q=>[az.bytes 5 (.slice none 0 0) q]) (I4 hp))▸ .cons_cons _ (List.nil_sublist _)) trivial⟩
theorem OL{B:fz}{key:List UInt8}{aD bv:Value}{aT bl:List UInt8}{e n:Int}{w0:World}(ad:(bp B key).ok w0)(ab:w0.heap[0]? =some (.cells (a7 bt).toArray 243))(cc:Bytes w0 aD aT)(ak:Bytes w0 bv bl)(eG:aT.length<=1048576)(au:bl.length<=1048576)(hp:hX e n):aY prog 259 [ai B.eE 0,aa e,aa n,aD,bv] w0 [] (fun v:Value=>v) (fun v=>[.bytes 5 v (hB key e n aT bl)]) (fun _=>True):=by
 refine enter (n:=36) func259 U U U ?_;intro fr E;have M:=Mem.begin (Φ:=fun w'=>(bp B key).ok w'/\w'.heap[0]? =some (.cells (a7 bt).toArray 243)/\Bytes w' aD aT/\Bytes w' bv bl) (Has.nil w0) (fun w' h=>⟨oa ad h,fc ab h,cc.bU h,ak.bU h⟩);refine aV E<|cv 3 U fun fr E=>?_;refine dM (sz:=1) (xs:=fg [e,n]) E M U U U U U (ev (us:=[_,_]) (vs:=[_,_]) U U U T.en T.c3 T.k7 U U U U U) (rfl) (Nat.le_refl _) aN (rfl) fun vK fr w M E=>?_;refine cw E<|bo M 0 U (ar U U T.te) (tH (e:=e) (n:=n) (M.reads 0 U) (decide_eq_true hp)) fun w M=>ah (v:=.bool _) 0 U U<|ah (v:=ai B.dk 0) 4 U (aE U U T.BH (w2 M.fact.1) U)<|cP M 3 U (ar U U T.FM) (D9 (zP M.fact.1) (zQ M.fact.1) (qQ (tu key) 40) M.fact.2.2.2 au) U fun uk w _ M=>bo M 6 U (ar U U T.AH) (KZ M.fact.1 M.fact.2.1 M.fact.2.2.1 (M.bytes 0 U) eG (by rw[sH];exact au)) fun w M=>bh (ob:=.cells _ 39) (fun g=>ai g 0) M 0 U (bT U T.gH) fun aZ w M=>bj (i:=0) (cs':=(ao (gF key e n aT (gW (aX (gp key) 40) e n bl))).toArray) M 0 U U (cB (vs:=(ao (gF key e n aT (gW (aX (gp key) 40) e n bl))).toArray) U U U T.fF ((List.size_toArray).trans ((dj _).trans (gL _ _))) (M.row (i:=0) U) (rfl) (fun v aD=>c0 _ v aD)) U fun w M=>ah (v:=.slice (some ⟨aZ,0,none⟩) 32 32) 1 U (lQ (g:=_) (cs:= #[]) (T:=0) (fr:=(0,0)) U U T.iB T.bf)<|fun fr E=>?_;have G0:uk.oneCell'=true:=(M.reads 1 rfl).one;refine bN E<|cv 0 U fun fr E=>?_;refine dM (sz:=1) (xs:=[uk,.slice (some ⟨aZ,0,none⟩) 32 32]) E M U U U U U (ev (us:=[uk,.slice (some ⟨aZ,0,none⟩) 32 32]) (vs:=[uk,.slice (some ⟨aZ,0,none⟩) 32 32]) U U U T.gN T.gM T.p0 U (K6 G0 U).1 U U (K6 G0 U).2) (rfl) (Nat.le_refl _) aN (rfl) fun abJ fr w M E=>?_;refine cw E<|cP M 0 U (ar U U T.FN) (G8 (ls:=[gW (aX (gp key) 40) e n bl,gF key e n aT (gW (aX (gp key) 40) e n bl)]) (l:=hB key e n aT bl) (V8 (M.reads 0 U) (M.bytes 2 U) (nw (M.row (i:=1) U) (gL _ _) aN)) (by rw[Cu hp];simp) (by simp) (by rw[Cu hp];simp[sH,gL,gF];omega)) U fun r w _ M=>aU 1 U fun fr E=>?_;refine bi E U U ?_;exact⟨_,U,M.fin (.cons_cons _ (List.nil_sublist _)) trivial⟩
end
section
open Go.RowKit Go.a2 Go.Proofs Go.Proofs.Tryz
theorem DT{a b:List UInt8}{r:Bool}{w0:World}(bm:a.length=32)(ak:b.length=32)(h:decide (a=b)=r):bH prog 262 [.agg (ao a).toArray,.agg (ao b).toArray] w0 (.bool r):=h▸Nn bm ak
theorem E8{bl:List UInt8}(h:32<=bl.length):((ao ((bl.drop (bl.length-32)).take (bl.length-(bl.length-32)))).drop 0).take 32=ao (bl.drop (bl.length-32)):=by
 rw[List.drop_zero,qb,List.take_take,List.take_of_length_le (by rw[List.length_drop];omega)]
theorem xi{w:World}{bv:Value}{bl:List UInt8}(h:Bytes w bv bl):Bytes w (e2 1 bv 0 (bl.length-32)) (bl.take (bl.length-32)):=Bytes.cut 0 (bl.length-32) h (Nat.zero_le _) (Nat.sub_le _ _)
theorem KY{B:fz}{key:List UInt8}{aD bv:Value}{aT bl:List UInt8}{e n:Int}{w0:World}(ad:(bp B key).ok w0)(ab:w0.heap[0]? =some (.cells (a7 bt).toArray 243))(cc:Bytes w0 aD aT)(ak:Bytes w0 bv bl)(eG:aT.length<=1048576)(au:bl.length<=1048576):bH prog 263 [ai B.eE 0,aa e,aa n,aD,e2 1 bv 0 (bl.length-32)] w0 (.agg (ao (gF key e n aT (bl.take (bl.length-32)))).toArray):=KZ ad ab cc (xi ak) eG (Nat.le_trans (by rw[List.length_take];omega) au)
theorem N9{dk:Nat}{kv bv:Value}{ks bl:List UInt8}{e n:Int}{w0:World}(aJ:w0.heap[dk]? =some (.cells (kv::ao ep).toArray 159))(ap:Reads 16 w0 kv 11 (ao ks))(aI:ks.length=176)(ak:Bytes w0 bv bl)(au:bl.length<=1048576):aY prog 264 [ai dk 0,aa e,aa n,e2 1 bv 0 (bl.length-32)] w0 [] (fun v:Value=>v) (fun v=>[.bytes 5 v (gW ks e n (bl.take (bl.length-32)))]) (fun _=>True):=D9 aJ ap aI (xi ak) (Nat.le_trans (by rw[List.length_take];omega) au)
theorem OF{B:fz}{key:List UInt8}{aD bv:Value}{aT bl:List UInt8}{e n:Int}{w0:World}(ad:(bp B key).ok w0)(ab:w0.heap[0]? =some (.cells (a7 bt).toArray 243))(cc:Bytes w0 aD aT)(ak:Bytes w0 bv bl)(eG:aT.length<=1048576)(au:bl.length<=1048576)(hp:¬hX e n):bH prog 258 [ai B.eE 0,aa e,aa n,aD,bv] w0 (.tuple #[.slice none 0 0,.bool false]):=by
 refine enter (n:=50) func258 U U U ?_;intro fr E;have M:=Mem.begin (Φ:=fun w'=>(bp B key).ok w'/\w'.heap[0]? =some (.cells (a7 bt).toArray 243)/\Bytes w' aD aT/\Bytes w' bv bl) (Has.nil w0) (fun w' h=>⟨oa ad h,fc ab h,cc.bU h,ak.bU h⟩);refine aV E<|ah 3 U (bx U U U U T.aG (M.fact.2.2.2))<|a1 (y:=(bl.length:Int)-32) 0 U U (br ae ae)<|cv 3 U fun fr E=>?_;refine dM (sz:=1) (xs:=fg [e,n]) E M U U U U U (ev (us:=[_,_]) (vs:=[_,_]) U U U T.en T.c3 T.k7 U U U U U) (rfl) (Nat.le_refl _) aN (rfl) fun vK fr w M E=>?_;refine cw E<|bo M 0 U (ar U U T.te) (tH (e:=e) (n:=n) (M.reads 0 U) (decide_eq_false hp)) fun w M=>ah (v:=.bool _) 0 U U<|ah (v:=.bool _) 3 U U<|aU 3 U fun fr E=>?_;refine fN E U U U ?_;exact bX M
theorem OH{B:fz}{key:List UInt8}{aD bv:Value}{aT bl:List UInt8}{e n:Int}{w0:World}(ad:(bp B key).ok w0)(ab:w0.heap[0]? =some (.cells (a7 bt).toArray 243))(cc:Bytes w0 aD aT)(ak:Bytes w0 bv bl)(eG:aT.length<=1048576)(au:bl.length<=1048576)(hp:hX e n)(aP:bl.length<32):bH prog 258 [ai B.eE 0,aa e,aa n,aD,bv] w0 (.tuple #[.slice none 0 0,.bool false]):=by
 refine enter (n:=50) func258 U U U ?_;intro fr E;have M:=Mem.begin (Φ:=fun w'=>(bp B key).ok w'/\w'.heap[0]? =some (.cells (a7 bt).toArray 243)/\Bytes w' aD aT/\Bytes w' bv bl) (Has.nil w0) (fun w' h=>⟨oa ad h,fc ab h,cc.bU h,ak.bU h⟩);refine aV E<|ah 3 U (bx U U U U T.aG (M.fact.2.2.2))<|a1 (y:=(bl.length:Int)-32) 0 U U (br ae ae)<|cv 3 U fun fr E=>?_;refine dM (sz:=1) (xs:=fg [e,n]) E M U U U U U (ev (us:=[_,_]) (vs:=[_,_]) U U U T.en T.c3 T.k7 U U U U U) (rfl) (Nat.le_refl _) aN (rfl) fun vK fr w M E=>?_;refine cw E<|bo M 0 U (ar U U T.te) (tH (e:=e) (n:=n) (M.reads 0 U) (decide_eq_true hp)) fun w M=>ah (v:=.bool _) 0 U U<|bD 2 U U ae<|ah (v:=.bool _) 0 U U<|aU 3 U fun fr E=>?_;refine fN E U U U ?_;exact bX M
theorem OI{B:fz}{key:List UInt8}{aD bv:Value}{aT bl:List UInt8}{e n:Int}{w0:World}(ad:(bp B key).ok w0)(ab:w0.heap[0]? =some (.cells (a7 bt).toArray 243))(cc:Bytes w0 aD aT)(ak:Bytes w0 bv bl)(eG:aT.length<=1048576)(au:bl.length<=1048576)(hp:hX e n)(aP:32<=bl.length)(aM:¬gF key e n aT (bl.take (bl.length-32))=(bl.drop (bl.length-32))):bH prog 258 [ai B.eE 0,aa e,aa n,aD,bv] w0 (.tuple #[.slice none 0 0,.bool false]):=by
 refine enter (n:=50) func258 U U U ?_;intro fr E;have M:=Mem.begin (Φ:=fun w'=>(bp B key).ok w'/\w'.heap[0]? =some (.cells (a7 bt).toArray 243)/\Bytes w' aD aT/\Bytes w' bv bl) (Has.nil w0) (fun w' h=>⟨oa ad h,fc ab h,cc.bU h,ak.bU h⟩);have iT:(List.take (bl.length-(bl.length-32)) (List.drop (bl.length-32) bl)).length=32:=by rw[List.length_take,List.length_drop];omega
 refine aV E<|ah 3 U (bx U U U U T.aG (M.fact.2.2.2))<|a1 (y:=((bl.length-32:Nat):Int)) 0 U U ((br ae ae).trans ae)<|cv 3 U fun fr E=>?_;refine dM (sz:=1) (xs:=fg [e,n]) E M U U U U U (ev (us:=[_,_]) (vs:=[_,_]) U U U T.en T.c3 T.k7 U U U U U) (rfl) (Nat.le_refl _) aN (rfl) fun vK fr w M E=>?_;refine cw E<|bo M 0 U (ar U U T.te) (tH (e:=e) (n:=n) (M.reads 0 U) (decide_eq_true hp)) fun w M=>ah (v:=.bool _) 0 U U<|bs 2 U U ae<|ah (v:=.bool _) 0 U U<|bw 1 U fun fr E=>?_;refine(dR (B:=T.CP) (Vs:=(.af _:: .af _:: .af _:: .af _:: .af _:: .af _:: .af (e2 1 bv 0 (bl.length-32)):: .af (.agg (ao (gF key e n aT (bl.take (bl.length-32)))).toArray):: .af _:: .af _:: .af _:: .af _:: .af (.agg (ao (bl.drop (bl.length-32))).toArray):: .af (.bool false):: .af (.bool _)::[])) T.J8 E T.mixed T.J7 U (ej.e6 U) ⟨aw U U,
   aw U U,
   aw U U,
   aw U U,
   aw U U,
   aw U U,
   aC U U (fun x w ad ab=>ew (lo:=0) (hi:=(bl.length-32)) U ((M.aQ ad).fact.2.2.2) U T.aG T.bf (rfl) (⟨_,_,U,U⟩) (Nat.zero_le _) ae),
   cE U U (fun x w ad ab=>⟨_,_,U,U,U,ar U U T.AH,(KY (M.aQ ad).fact.1 (M.aQ ad).fact.2.1 (M.aQ ad).fact.2.2.1 (M.aQ ad).fact.2.2.2 eG au).ext⟩),
   aw U U,
   aw U U,
   aC U U (fun x w ad ab=>ew (lo:=(bl.length-32)) (hi:=bl.length) U ((M.aQ ad).fact.2.2.2) U T.aG T.bf (⟨_,_,U,U⟩) (rfl) ae (Nat.le_refl _)),
   aC U U (fun x w ad ab=>tQ U (((M.aQ ad).fact.2.2.2).cut (lo:=(bl.length-32)) (hi:=bl.length) ae (Nat.le_refl _)) U T.iB ae aN),
   aC U U (fun x w ad ab=>hU U (((M.aQ ad).fact.2.2.2).cut (lo:=(bl.length-32)) (hi:=bl.length) ae (Nat.le_refl _)) U T.gJ ae ae (E8 aP)),
   cE U U (fun x w ad ab=>⟨_,_,U,U,U,ar U U T.FL,(DT (gL _ _) (by rw[List.length_drop];omega) (decide_eq_false aM)).ext⟩),
   aC U U (fun x w ad ab=>rfl),ay⟩ ?_)
 intro x fr w ad ab E;have M:=M.ext ad;refine cm E<|aU 3 U fun fr E=>?_;refine fN E U U U ?_;exact bX M
theorem OG{B:fz}{key:List UInt8}{aD bv:Value}{aT bl:List UInt8}{e n:Int}{w0:World}(ad:(bp B key).ok w0)(ab:w0.heap[0]? =some (.cells (a7 bt).toArray 243))(cc:Bytes w0 aD aT)(ak:Bytes w0 bv bl)(eG:aT.length<=1048576)(au:bl.length<=1048576)(hp:hX e n)(aP:32<=bl.length)(aM:gF key e n aT (bl.take (bl.length-32))=(bl.drop (bl.length-32))):aY prog 258 [ai B.eE 0,aa e,aa n,aD,bv] w0 [] (fun v:Value=>.tuple #[v,.bool true]) (fun v=>[.bytes 5 v (gW (aX (gp key) 40) e n (bl.take (bl.length-32)))]) (fun _=>True):=by
 refine enter (n:=50) func258 U U U ?_;intro fr E;have M:=Mem.begin (Φ:=fun w'=>(bp B key).ok w'/\w'.heap[0]? =some (.cells (a7 bt).toArray 243)/\Bytes w' aD aT/\Bytes w' bv bl) (Has.nil w0) (fun w' h=>⟨oa ad h,fc ab h,cc.bU h,ak.bU h⟩);have iT:(List.take (bl.length-(bl.length-32)) (List.drop (bl.length-32) bl)).length=32:=by rw[List.length_take,List.length_drop];omega
 refine aV E<|ah 3 U (bx U U U U T.aG (M.fact.2.2.2))<|a1 (y:=((bl.length-32:Nat):Int)) 0 U U ((br ae ae).trans ae)<|cv 3 U fun fr E=>?_;refine dM (sz:=1) (xs:=fg [e,n]) E M U U U U U (ev (us:=[_,_]) (vs:=[_,_]) U U U T.en T.c3 T.k7 U U U U U) (rfl) (Nat.le_refl _) aN (rfl) fun vK fr w M E=>?_;refine cw E<|bo M 0 U (ar U U T.te) (tH (e:=e) (n:=n) (M.reads 0 U) (decide_eq_true hp)) fun w M=>ah (v:=.bool _) 0 U U<|bs 2 U U ae<|ah (v:=.bool _) 0 U U<|bw 1 U fun fr E=>?_;refine(dR (B:=T.CP) (Vs:=(.af _:: .af _:: .af _:: .af _:: .af _:: .af _:: .af (e2 1 bv 0 (bl.length-32)):: .af (.agg (ao (gF key e n aT (bl.take (bl.length-32)))).toArray):: .af _:: .af _:: .af _:: .af _:: .af (.agg (ao (bl.drop (bl.length-32))).toArray):: .af (.bool true):: .af (.bool _)::[])) T.J8 E T.mixed T.J7 U (ej.e6 U) ⟨aw U U,
   aw U U,
   aw U U,
   aw U U,
   aw U U,
   aw U U,
   aC U U (fun x w ad ab=>ew (lo:=0) (hi:=(bl.length-32)) U ((M.aQ ad).fact.2.2.2) U T.aG T.bf (rfl) (⟨_,_,U,U⟩) (Nat.zero_le _) ae),
   cE U U (fun x w ad ab=>⟨_,_,U,U,U,ar U U T.AH,(KY (M.aQ ad).fact.1 (M.aQ ad).fact.2.1 (M.aQ ad).fact.2.2.1 (M.aQ ad).fact.2.2.2 eG au).ext⟩),
   aw U U,
   aw U U,
   aC U U (fun x w ad ab=>ew (lo:=(bl.length-32)) (hi:=bl.length) U ((M.aQ ad).fact.2.2.2) U T.aG T.bf (⟨_,_,U,U⟩) (rfl) ae (Nat.le_refl _)),
   aC U U (fun x w ad ab=>tQ U (((M.aQ ad).fact.2.2.2).cut (lo:=(bl.length-32)) (hi:=bl.length) ae (Nat.le_refl _)) U T.iB ae aN),
   aC U U (fun x w ad ab=>hU U (((M.aQ ad).fact.2.2.2).cut (lo:=(bl.length-32)) (hi:=bl.length) ae (Nat.le_refl _)) U T.gJ ae ae (E8 aP)),
   cE U U (fun x w ad ab=>⟨_,_,U,U,U,ar U U T.FL,(DT (gL _ _) (by rw[List.length_drop];omega) (decide_eq_true aM)).ext⟩),
   aC U U (fun x w ad ab=>rfl),ay⟩ ?_)
 intro x fr w ad ab E;have M:=M.ext ad;refine cm E<|bw 1 U fun fr E=>?_;refine(dR (B:=T.J9) (Vs:=(.af _:: .af _:: .af (ai _ 0):: .af (ai B.dk 0):: .af _:: .af _:: .af _:: .af _:: .af (e2 1 bv 0 (bl.length-32))::cV w.heap.size (fun v=>[.bytes 5 v (gW (aX (gp key) 40) e n (bl.take (bl.length-32)))]) (fun _=>True)::cV w.heap.size (fun v=>[.bytes 5 v (gW (aX (gp key) 40) e n (bl.take (bl.length-32)))]) (fun _=>True):: .af _::[])) T.YF E T.mixed T.YE U (fH.dF ⟨ay,ay,ay,ay,ay,ay,ay,ay,ay,cn.df,cn.df,ay,ay⟩) ⟨aw U U,
   aw U U,
   aw U U,
   aC U U (fun x w ad ab=>aE U U T.BH (w2 (M.aQ ad).fact.1) U),
   aw U U,
   aw U U,
   aw U U,
   aw U U,
   aC U U (fun x w ad ab=>ew (lo:=0) (hi:=(bl.length-32)) U ((M.aQ ad).fact.2.2.2) U T.aG T.bf (rfl) (⟨_,_,U,U⟩) (Nat.zero_le _) ae),
   cE U U (fun x w ad ab=>⟨_,_,U,U,U,ar U U T.FM,(N9 (zP (M.aQ ad).fact.1) (zQ (M.aQ ad).fact.1) (qQ (tu key) 40) (M.aQ ad).fact.2.2.2 au).eN ad.size⟩),
   jd U U (fun x w ad ab=>⟨_,_,U,U,U,run_assign U U,bd.refl _,ab 9 U⟩),
   aw U U,ay⟩ ?_)
 intro x fr w ad ab E;have M:=M.jb ad (ab 10 aN).1 (ab 10 aN).2.1;refine cm E<|aU 0 U fun fr E=>?_;refine fN E U U U ?_;exact⟨_,U,M.fin (.cons_cons _ (List.nil_sublist _)) trivial⟩
theorem OM{B:fz}{key:List UInt8}{aD bv:Value}{aT bl:List UInt8}{e n:Int}{w0:World}(ad:(bp B key).ok w0)(ab:w0.heap[0]? =some (.cells (a7 bt).toArray 243))(cc:Bytes w0 aD aT)(ak:Bytes w0 bv bl)(eG:aT.length<=1048576)(au:bl.length<=1048576):aY prog 259 [ai B.eE 0,aa e,aa n,aD,bv] w0 [] (fun v:Value=>v) (fun v=>[.bytes 5 v (hB key e n aT bl)]) (fun _=>True):=by
 by_cases hp:hX e n
 ·exact OL ad ab cc ak eG au hp
 ·exact OK ad ab cc ak eG au hp
theorem OE{B:fz}{key:List UInt8}{aD bv:Value}{aT bl:List UInt8}{e n:Int}{w0:World}(ad:(bp B key).ok w0)(ab:w0.heap[0]? =some (.cells (a7 bt).toArray 243))(cc:Bytes w0 aD aT)(ak:Bytes w0 bv bl)(eG:aT.length<=1048576)(au:bl.length<=1048576)(aF:kr key e n aT bl=none):bH prog 258 [ai B.eE 0,aa e,aa n,aD,bv] w0 (.tuple #[.slice none 0 0,.bool false]):=by
 unfold kr at aF;by_cases hp:hX e n
 ·by_cases aP:bl.length<32
  ·exact OH ad ab cc ak eG au hp aP
  ·by_cases aM:gF key e n aT (bl.take (bl.length-32))=(bl.drop (bl.length-32))
   ·rw[if_pos (show uz key e n aT bl from⟨hp,by omega,aM⟩)]at aF;cases aF
   ·exact OI ad ab cc ak eG au hp ae aM
 ·exact OF ad ab cc ak eG au hp
theorem OJ{B:fz}{key:List UInt8}{aD bv:Value}{aT bl:List UInt8}{e n:Int}{w0:World}(ad:(bp B key).ok w0)(ab:w0.heap[0]? =some (.cells (a7 bt).toArray 243))(cc:Bytes w0 aD aT)(ak:Bytes w0 bv bl)(eG:aT.length<=1048576)(au:bl.length<=1048576){q:List UInt8}(aF:kr key e n aT bl=some q):aY prog 258 [ai B.eE 0,aa e,aa n,aD,bv] w0 [] (fun v:Value=>.tuple #[v,.bool true]) (fun v=>[.bytes 5 v q]) (fun _=>True):=by
 unfold kr at aF;split at aF
 ·rename_i h;obtain rfl:=Option.some.inj aF;exact OG ad ab cc ak eG au h.1 h.2.1 h.2.2
 ·cases aF
end
section
open Go.RowKit Go.a2 Go.Proofs Go.Proofs.Tryz
def wd(ks:List UInt8)(j:Nat):List UInt8:=(ks.drop (4*j)).take 4
def iM(ks:List UInt8)(m:Nat):List (List UInt8):=(List.range m).map (wd ks)
theorem ze{ks:List UInt8}{j:Nat}(h:4*j+4<=ks.length):(wd ks j).length=4:=by simp[wd];omega
theorem Lm{ks:List UInt8}{m:Nat}:iM ks (m+1)=iM ks m++[wd ks m]:=by simp[iM,List.range_succ]
theorem aab{w:World}{kv:Value}{ks:List UInt8}{j:Nat}(h:Bytes w kv ks)(ax:4*j+4<=ks.length):Bytes w (e2 1 kv (4*j) (4*j+4)) (wd ks j):=by
 have:=Bytes.cut (4*j) (4*j+4) h ae ax
 rwa [show 4*j+4-4*j=4 by omega]at this
theorem Ll{ps:List (Value×List UInt8)}{ks:List UInt8}{m:Nat}(h:ps.map (·.2)=iM ks m):ps.length=m:=by
 have:=congrArg List.length h;simpa [iM]using this
theorem Dq{ps:List (Value×List UInt8)}{ks:List UInt8}{m j:Nat}(h:ps.map (·.2)=iM ks m)(ax:j<m):∃q,(ps.map (·.1))[j]? =some q/\(q,wd ks j)∈ps:=by
 have aI:=Ll h;have aj:(ps.map (·.2))[j]? =some (wd ks j):=by rw[h,iM,List.getElem?_map,List.getElem?_range ax];rfl
 have iD:j<ps.length:=by omega
 rw[List.getElem?_map,List.getElem?_eq_getElem iD]at aj;refine⟨(ps[j]).1,by rw[List.getElem?_map,List.getElem?_eq_getElem iD];rfl,?_⟩;have an:(ps[j]).2=wd ks j:=by simpa using aj
 rw[<-an];exact List.getElem_mem iD
theorem aaa{a b:List UInt8}{j:Nat}(h:4*j+4<=a.length):wd (a++b) j=wd a j:=by
 unfold wd;rw[List.drop_append_of_le_length ae,List.take_append_of_le_length (by rw[List.length_drop];omega)]
theorem Lk{key:List UInt8}{j:Nat}(h:(aX key j).length=16+4*j):iM (aX key (j+1)) (4+(j+1))=iM (aX key j) (4+j)++[[⟨a8 (wd (aX key j) j) 0 ^^^ a8 (c8 (aX key j) j) 0⟩,⟨a8 (wd (aX key j) j) 1 ^^^ a8 (c8 (aX key j) j) 1⟩,⟨a8 (wd (aX key j) j) 2 ^^^ a8 (c8 (aX key j) j) 2⟩,⟨a8 (wd (aX key j) j) 3 ^^^ a8 (c8 (aX key j) j) 3⟩]]:=by
 have cz:iM (aX key (j+1)) (4+j)=iM (aX key j) (4+j):=List.map_congr_left fun i hi=>aaa (by have:=List.mem_range.1 hi;omega);have c6:∀i,i<4->a8 (wd (aX key j) j) i=a8 (aX key j) (4*j+i):=fun i hi=>by
  unfold a8 wd;rw[List.getD_eq_getElem?_getD,List.getD_eq_getElem?_getD,List.getElem?_take_of_lt hi,List.getElem?_drop]
 rw[show 4+(j+1)=(4+j)+1 by omega,Lm,cz];rw[c6 0 aN,c6 1 aN,c6 2 aN,c6 3 aN];congr 2;unfold wd;rw[aX,List.drop_append,h,List.drop_of_length_le ae,show 4*(4+j)-(16+4*j)=0 by omega];rfl
theorem wl(x:dS):(ao ep)[x.toNat*1]? =some (b1 (fx x)):=by
 have:=tV (kv:=undef) x;rw[List.getElem?_toArray,Nat.add_comm,List.getElem?_cons_succ]at this;exact this
theorem Lh{k:List UInt8}{j:Nat}:wd k (3+j)=ea k j:=by
 unfold wd ea;rw[show 4*(3+j)=12+4*j by omega]
structure n2 where
 g:Nat
 gg:Value
 hE:Value
 ps:List (Value×List UInt8)
def q3(R:n2):List az:=[.bb R.g (.cells #[R.gg,R.hE] 205),.row 22 1 R.gg 44 (R.ps.map (·.1)),.e7 R.ps,.bytes 5 R.hE ep]
def hg(R:n2):az:=az.all (q3 R)
set_option maxHeartbeats 1000000 in
theorem PE{ko:Value}{key:List UInt8}{w0:World}(ak:Bytes w0 ko key)(aI:key.length=16):aY prog 100 [ko] w0 [] (fun R:n2=>.tuple #[ai R.g 0,aa 0]) (fun R=>[hg R]) (fun R=>R.ps.map (·.2)=iM (aX key 40) (44)):=by
 refine enter (n:=208) func100 U U U ?_;intro fr E;have M:=Mem.begin (Φ:=fun w'=>Bytes w' ko key) (Has.nil w0) (fun w' h=>ak.bU h);refine eU ?_;refine ca E (hT U) fun fr E=>?_;refine ca E (hT U) fun fr E=>?_;refine eY ?_;refine wp_seq ?_
 skip
 refine eU ?_;refine cM E fun fr E=>?_;refine ca (v:=aa _) E (bx U U U U T.aG (M.fact)) fun fr E=>?_;rw[aI]at E;refine ca (v:=.bool false) E (eZ U aN) fun fr E=>?_;refine cM E fun fr E=>?_;refine oP E U U U U fun fr E=>?_;refine oP E U U U U fun fr E=>?_;refine oP E U U U U fun fr E=>?_;refine ca (v:=.bool _) E (rfl) fun fr E=>?_;refine cM E fun fr E=>?_;refine oP E U U U U fun fr E=>?_;refine oP E U U U U fun fr E=>?_;refine oP E U U U U fun fr E=>?_;refine ca (v:=.bool _) E (rfl) fun fr E=>?_;refine eY ?_;refine cond_false E U (rfl) ?_;refine wp_skip ?_;refine gV ?_;refine eU ?_;refine sr E M U U U U U (ar U U T.Qz) (NI _) U ?_;rintro hE fr w-M E;refine ca (v:=.agg #[.slice none 0 0,hE]) E (yJ (qs:=[(1,hE)]) U U T.ZU T.aaG (xo (off:=1) (cs:= #[.slice none 0 0,.slice none 0 0]) U (M.reads 0 U).one aN)) fun fr E=>?_;refine q9 (ob:=.cells (#[.slice none 0 0,hE]) 205) (fun g=>ai g 0) E M U U U U U (cS (cs:=(#[.slice none 0 0,hE])) U U) fun aZ fr w M E=>?_;refine iF E fun fr E=>?_;refine eY ?_;refine eU ?_;refine cM E fun fr E=>?_;refine ca (v:=aa _) E (bx U U U U T.aG (M.fact)) fun fr E=>?_;rw[aI]at E;refine ca (v:=aa 4) E (v8 U U U aN aN) fun fr E=>?_;refine iF E fun fr E=>?_;refine eY ?_;refine wp_seq ?_;refine eU ?_;refine ca E (hT U) fun fr E=>?_;refine eY ?_;refine wp_block ?_;refine cI (fun d fr w=>∃(i:Nat) (gg:Value) (ps:List (Value×List UInt8)),d=4-i/\i<=4/\ps.map (·.2)=iM (key) (i)/\Env [(6,aa (i:Int)),(5,aa 4),(4,ai aZ 0),(0,ko)] 208 fr/\Mem w0 (aS []) [.e7 ps,.row 22 1 gg (i) (ps.map (·.1)),.bb aZ (.cells #[gg,hE] 205),.bytes 5 hE ep] (fun w'=>Bytes w' ko key) w) (4) ?_ ?_
 ·have M:=M.aH 1 rfl;have M:=M.aH 1 rfl;have M:=(M.jo (bd.refl _) (.row 22 1 (.slice none 0 0) 0 []) (World.ownsRow_nil _ 0 _ 1) fun g al=>by simp[az.row,Value.ownBlock]at al)
  have M:=M.jo (bd.refl _) (.e7 []) (fun q bE=>absurd bE (by simp)) fun g al=>by simp[az.e7]at al
  exact⟨0,_,[],U,Nat.zero_le _,U,E.lL [0,4,5,6] rfl,M⟩
 ·clear E M;rintro d fr w ⟨i,gg,ps,rfl,hle,jz,E,M⟩;by_cases hi:i<4
  ·refine wp_seq ?_;refine eU ?_;refine cM E fun fr E=>?_;refine cM E fun fr E=>?_;refine ca (v:=.bool true) E (eZ U (decide_eq_true ae)) fun fr E=>?_;refine eY ?_;refine cond_true E U (rfl) ?_;refine wp_skip ?_;refine gV ?_;refine wp_seq ?_;refine wp_block ?_;have M:=M.aH 1 rfl;have M:Mem _ _ ([.row 22 1 gg i (ps.map (·.1))]++_) _ _:=M;refine(rO (B:=T.CI) (Vs:=(.af _:: .af _:: .af _:: .af (ai _ 0):: .af (gg)::cV w.heap.size (fun v=>[az.bytes 5 v []]) Value.xl:: .af _:: .af _:: .af (.int _ (((4*i:Nat):Int))):: .af _:: .af (.int _ (((4*i:Nat):Int))):: .af (.int _ (((4*i+4:Nat):Int))):: .af (e2 1 ko (4*i) (4*i+4))::cV w.heap.size (fun v=>[az.bytes 5 v (wd key i)]) (fun _=>True)::uy w.heap.size 5 (wd key i)::cL w.heap.size ([.row 22 1 gg i (ps.map (·.1))]) (fun q:Value×Value=>q.1) ((fun q=>[az.row 22 1 q.1 (i+1) ((ps.map (·.1))++[q.2]),az.bytes 5 q.2 (wd key i)])) (fun _=>True):: .af _:: .af (ai _ 0)::[])) (pJ T.CI 19 (ga 15 ([.row 22 1 gg i (ps.map (·.1))])) w.drew) T.XD 18 E T.mixed T.XC U U U ?_ ⟨hM (b5 U U M (fun i g h=>h.2)),
   ci (c:=15) U U M U U (fun x w' aA aL ab=>⟨_,_,U,U,U,run_move U U,bd.refl _,U⟩),
   ci (c:=15) U U M U U (fun x w' aA aL ab=>⟨_,_,U,U,U,ng U U,bd.refl _,U⟩),
   ci (c:=15) U U M U U (fun x w' aA aL ab=>⟨_,_,U,U,U,mH U U T.rG,bd.refl _,U⟩),
   ci (c:=15) U U M U U (fun x w' aA aL ab=>⟨_,_,U,U,U,aE U U T.lu (aA.row (i:=2) U) U,bd.refl _,U⟩),
   hM (kK U U M (fun i g h=>h.2) (fun x w' aA aL ab=>⟨U,U,U,Ff aL U T.aG T.Gk⟩)),
   ci (c:=15) U U M U U (fun x w' aA aL ab=>⟨_,_,U,U,U,run_move U U,bd.refl _,U⟩),
   ci (c:=15) U U M U U (fun x w' aA aL ab=>⟨_,_,U,U,U,run_move U U,bd.refl _,U⟩),
   ci (c:=15) U U M U U (fun x w' aA aL ab=>⟨_,_,U,U,U,num U ((br ae ae).trans ae),bd.refl _,U⟩),
   ci (c:=15) U U M U U (fun x w' aA aL ab=>⟨_,_,U,U,U,run_move U U,bd.refl _,U⟩),
   ci (c:=15) U U M U U (fun x w' aA aL ab=>⟨_,_,U,U,U,num U ((br ae ae).trans ae),bd.refl _,U⟩),
   ci (c:=15) U U M U U (fun x w' aA aL ab=>⟨_,_,U,U,U,num U ((br ae ae).trans ae),bd.refl _,U⟩),
   ci (c:=15) U U M U U (fun x w' aA aL ab=>⟨_,_,U,U,U,ew (lo:=(4*i)) (hi:=(4*i+4)) U (aA.fact) U T.aG T.bf (⟨_,_,U,U⟩) (⟨_,_,U,U⟩) ae ae,bd.refl _,U⟩),
   hM (kK U U M (fun i g h=>h.2) (fun x w' aA aL ab=>⟨U,U,U,El aL U U U U U T.aG T.aG T.eh T.ef (ab 5 U) (aab aA.fact ae) (by rw[ze ae];decide)⟩)),
   hM (kK U U M (fun i g h=>h.2) (fun x w' aA aL ab=>⟨U,U,U,BI aL U U T.gN T.gM T.p0 U (ab 13 U)⟩)),
   hM (AQ (ee:=5) U U M U U U T.gN T.gN T.zp T.w5 ae (fun x w' ab=>⟨U,U,U,U,_,U,ab 14 U⟩)),
   hM (b5 U U M (fun i g h=>h.2)),
   hM (b5 U U M (fun i g h=>h.2)),ay⟩ ?_)
   ·exact tF (hJ U ((aK (aK (aK (aK (aK (jq (cJ.df (fun g h=>M.gA g h)) (aK (aK (aK (aK (aK (aK (aK (jq (cJ.df (fun g h=>M.gA g h)) (jq (cJ.gT (fun g h=>M.gA g h)) (fK U cJ.fJ (aK (aK hH))))))))))))))))))))
   intro x fr w ⟨b,ak,cX⟩ ab E;obtain⟨⟨rl,jX⟩,bn, -,M⟩:=M.behind (val:=fun q:Value×Value=>q.1) (outs:=(fun q=>[az.row 22 1 q.1 (i+1) ((ps.map (·.1))++[q.2]),az.bytes 5 q.2 (wd key i)])) (p:=fun _=>True) cX (ab 15 aN);have E:=Env.gD (t:=50) E rfl bn;refine iq (i:=3) (cs':= #[rl,hE]) E M U U U U U U (cy (v:=_) U U U T.Cz (M.row (i:=3) U) (rfl) ((M.reads 0 U).one) (rfl)) U fun fr w M E=>?_;refine o8 ?_;refine gV ?_;refine lY ?_;refine cM E fun fr E=>?_;refine ca (v:=.int _ (((i+1:Nat):Int))) E (num U ((br ae ae).trans ae)) fun fr E=>?_;refine iF E fun fr E=>?_;refine mc ?_;refine pV ?_;have M:=M.aH 4 rfl;have M:=M.aH 4 rfl;have M:=M.aH 2 rfl;have M:=M.aH 4 rfl;have M:=M.aH 4 rfl;have M:=M.nT;refine⟨4-(i+1),by omega,i+1,rl,ps++[(jX,wd key i)],U,by omega,by rw[List.map_append,jz,Lm];rfl,E.lL [0,4,5,6] rfl,(M.CC (i:=0) (ps':=ps++[(jX,wd key i)]) U (fun q bE=>by simpa [or_comm]using bE)).as (by rw[List.map_append];rfl)⟩
  ·obtain rfl:i=4:=by omega
   refine wp_seq ?_;refine eU ?_;refine cM E fun fr E=>?_;refine cM E fun fr E=>?_;refine ca (v:=.bool false) E (eZ U aN) fun fr E=>?_;refine eY ?_;refine cond_false E U (rfl) ?_;refine wp_exit ?_;refine lA ?_;refine lA ?_;refine o7 ?_;refine gV ?_;refine eU ?_;refine ca (v:=b1 (1#8)) E (hT U) fun fr E=>?_;refine eY ?_;refine wp_seq ?_;refine eU ?_;refine cM E fun fr E=>?_;refine iF E fun fr E=>?_;refine eY ?_;refine wp_block ?_;refine cI (fun d fr w=>∃(j:Nat) (gg:Value) (ps:List (Value×List UInt8)),d=40-j/\j<=40/\ps.map (·.2)=iM ((aX key j)) (4+j)/\Env [(8,aa ((4+j:Nat):Int)),(7,b1 (iX j)),(5,aa 4),(4,ai aZ 0)] 208 fr/\Mem w0 (aS []) [.e7 ps,.row 22 1 gg (4+j) (ps.map (·.1)),.bb aZ (.cells #[gg,hE] 205),.bytes 5 hE ep] (fun w'=>Bytes w' ko key) w) (40) ?_ ?_
   ·exact⟨0,_,ps,U,Nat.zero_le _,jz,E.lL [4,5,7,8] rfl,M⟩
   ·clear E M;rintro d fr w ⟨j,gg,ps,rfl,hle,jz,E,M⟩;have hI:(aX key j).length=16+4*j:=qQ aI j;have l3:=Ll jz;by_cases ax:j<40
    ·have Ba:=tw hI;obtain⟨BY,GK,GL⟩:=Dq (j:=3+j) jz ae;obtain⟨oF,GM,lq⟩:=Dq (j:=j) jz ae;have GC:(wd (aX key j) (3+j)).length=4:=ze ae;have SY:(wd (aX key j) j).length=4:=ze ae;by_cases au:j%4=0
     ·have km:=y9 hI;refine wp_seq ?_;refine eU ?_;refine cM E fun fr E=>?_;refine cM E fun fr E=>?_;refine ca (v:=.int _ (11)) E (num U (rfl)) fun fr E=>?_;refine ca (v:=.int _ (44)) E (num U (rfl)) fun fr E=>?_;refine ca (v:=.bool true) E (eZ U (decide_eq_true ae)) fun fr E=>?_;refine eY ?_;refine cond_true E U (rfl) ?_;refine wp_skip ?_;refine gV ?_;refine wp_seq ?_;refine wp_block ?_;refine eU ?_;refine dM (sz:=1) (xs:=ao []) E M U U U U U (lP U T.aG U) (rfl) (Nat.le_refl _) aN (rfl) fun e fr w M E=>?_;refine cM E fun fr E=>?_;refine ca E (ng U U) fun fr E=>?_;refine ca (v:=ai _ 0) E (mH U U T.rG) fun fr E=>?_;refine ca (v:=gg) E (aE U U T.lu (M.row (i:=3) U) U) fun fr E=>?_;refine cM E fun fr E=>?_;refine ca (v:=.int _ (((3+j:Nat):Int))) E (num U ((br ae ae).trans ae)) fun fr E=>?_;refine ca E (bL (i:=(3+j)) U (M.reads 2 U) U U (rfl) ae T.gN T.gM) fun fr E=>?_;refine ca (v:=BY) E (b2 U (M.reads 2 U) U T.ec (by rw[Nat.mul_one];exact GK)) fun fr E=>?_;refine fX (i:=0) E M U U U U U U U U U U U T.aG T.aG T.eh T.ef (show Bytes _ _ (wd (aX key j) (3+j))from M.gr (i:=1) U GL) (by simp[GC]) fun e fr w M E=>?_;refine iF E fun fr E=>?_;refine eY ?_;refine wp_seq ?_;have M:=M.as (L':=.bytes 5 _ (ea (aX key j) j)::_) (by rw[List.nil_append,Lh];rfl);refine eU ?_;refine cM E fun fr E=>?_;refine cM E fun fr E=>?_;refine ca (v:=.int _ ((((4+j)%4:Nat):Int))) E (num U (kb _ _)) fun fr E=>?_;refine ca (v:=.bool true) E (eZ U (by simp;omega)) fun fr E=>?_;refine eY ?_;refine cond_true E U (rfl) ?_;refine wp_seq (dR (B:=T.Ju) (Vs:=(.af _:: .af _:: .af (ai _ 1):: .af (hE):: .af _:: .af (cellAt e (1*1)):: .af _:: .af (cellAt hE ((a8 (ea (aX key j) j) 1).toNat*1)):: .af _:: .af _:: .af _:: .af _:: .af _:: .af (ai _ 1):: .af (hE):: .af _:: .af (cellAt e (2*1)):: .af _:: .af (cellAt hE ((a8 (ea (aX key j) j) 2).toNat*1)):: .af _:: .af _:: .af _:: .af (ai _ 1):: .af (hE):: .af _:: .af (cellAt e (3*1)):: .af _:: .af (cellAt hE ((a8 (ea (aX key j) j) 3).toNat*1)):: .af _:: .af _:: .af _:: .af (ai _ 1):: .af (hE):: .af _:: .af (cellAt e (0*1)):: .af _:: .af (cellAt hE ((a8 (ea (aX key j) j) 0).toNat*1)):: .af _::cV w.heap.size (fun v:Value=>[az.row 5 1 v 4 [b1 (fx (a8 (ea (aX key j) j) 1)^^^ iX j),b1 (fx (a8 (ea (aX key j) j) 2)),b1 (fx (a8 (ea (aX key j) j) 3)),b1 (fx (a8 (ea (aX key j) j) 0))]]) (fun _=>True)::cV w.heap.size (fun v:Value=>[az.row 5 1 v 4 [b1 (fx (a8 (ea (aX key j) j) 1)^^^ iX j),b1 (fx (a8 (ea (aX key j) j) 2)),b1 (fx (a8 (ea (aX key j) j) 3)),b1 (fx (a8 (ea (aX key j) j) 0))]]) (fun _=>True)::[])) T.XB E T.mixed T.XA U (fH.dF ⟨ay,ay,ay,ay,ay,ay,ay,ay,ay,ay,ay,ay,ay,ay,ay,ay,ay,ay,ay,ay,ay,ay,ay,ay,ay,ay,ay,ay,ay,ay,ay,ay,ay,ay,ay,ay,ay,ay,cn.df,cn.df,ay⟩) ⟨aw U U,
   aw U U,
   aw U U,
   aC U U (fun x w ad ab=>aE U U T.ec ((M.aQ ad).row (i:=3) U) U),
   aw U U,
   aC U U (fun x w ad ab=>bL (i:=1) U ((M.aQ ad).reads 0 U) U U (rfl) ae T.aG T.bf),
   aC U U (fun x w ad ab=>b2 U ((M.aQ ad).reads 0 U) U T.cq (fS ae)),
   aC U U (fun x w ad ab=>bL (i:=(a8 (ea (aX key j) j) 1).toNat) U ((M.aQ ad).reads 4 U) U U (rfl) (by rw[oN];exact(a8 (ea (aX key j) j) 1).isLt) T.aG T.bf),
   aC U U (fun x w ad ab=>b2 U ((M.aQ ad).reads 4 U) U T.cq (wl _)),
   aw U U,
   aC U U (fun x w ad ab=>num U (dx _ _)),
   aw U U,
   aw U U,
   aw U U,
   aC U U (fun x w ad ab=>aE U U T.ec ((M.aQ ad).row (i:=3) U) U),
   aw U U,
   aC U U (fun x w ad ab=>bL (i:=2) U ((M.aQ ad).reads 0 U) U U (rfl) ae T.aG T.bf),
   aC U U (fun x w ad ab=>b2 U ((M.aQ ad).reads 0 U) U T.cq (fS ae)),
   aC U U (fun x w ad ab=>bL (i:=(a8 (ea (aX key j) j) 2).toNat) U ((M.aQ ad).reads 4 U) U U (rfl) (by rw[oN];exact(a8 (ea (aX key j) j) 2).isLt) T.aG T.bf),
   aC U U (fun x w ad ab=>b2 U ((M.aQ ad).reads 4 U) U T.cq (wl _)),
   aw U U,
   aw U U,
   aw U U,
   aC U U (fun x w ad ab=>aE U U T.ec ((M.aQ ad).row (i:=3) U) U),
   aw U U,
   aC U U (fun x w ad ab=>bL (i:=3) U ((M.aQ ad).reads 0 U) U U (rfl) ae T.aG T.bf),
   aC U U (fun x w ad ab=>b2 U ((M.aQ ad).reads 0 U) U T.cq (fS ae)),
   aC U U (fun x w ad ab=>bL (i:=(a8 (ea (aX key j) j) 3).toNat) U ((M.aQ ad).reads 4 U) U U (rfl) (by rw[oN];exact(a8 (ea (aX key j) j) 3).isLt) T.aG T.bf),
   aC U U (fun x w ad ab=>b2 U ((M.aQ ad).reads 4 U) U T.cq (wl _)),
   aw U U,
   aw U U,
   aw U U,
   aC U U (fun x w ad ab=>aE U U T.ec ((M.aQ ad).row (i:=3) U) U),
   aw U U,
   aC U U (fun x w ad ab=>bL (i:=0) U ((M.aQ ad).reads 0 U) U U (rfl) ae T.aG T.bf),
   aC U U (fun x w ad ab=>b2 U ((M.aQ ad).reads 0 U) U T.cq (fS ae)),
   aC U U (fun x w ad ab=>bL (i:=(a8 (ea (aX key j) j) 0).toNat) U ((M.aQ ad).reads 4 U) U U (rfl) (by rw[oN];exact(a8 (ea (aX key j) j) 0).isLt) T.aG T.bf),
   aC U U (fun x w ad ab=>b2 U ((M.aQ ad).reads 4 U) U T.cq (wl _)),
   h3 rfl rfl (fun x pX ad ab=>⟨rfl,rfl,rfl,uI (vs:=[b1 (fx (a8 (ea (aX key j) j) 1)^^^ iX j),b1 (fx (a8 (ea (aX key j) j) 2)),b1 (fx (a8 (ea (aX key j) j) 3)),b1 (fx (a8 (ea (aX key j) j) 0))]) ad.size rfl rfl rfl T.aG T.bf T.gO rfl (by intro u hu;simp only[List.mem_cons,List.not_mem_nil,or_false]at hu;rcases hu with rfl|rfl|rfl|rfl<;>rfl) rfl rfl⟩),
   jd rfl rfl (fun x w ad ab=>⟨_,_,rfl,rfl,rfl,run_assign rfl rfl,bd.refl _,ab 38 rfl⟩),ay⟩ ?_)
      intro x fr w ad ab E;have M:=M.jb ad (ab 39 aN).1 (ab 39 aN).2.1;refine gV ?_;obtain⟨sB,GX⟩:∃sB,sB=x 39:=⟨_,rfl⟩
      have E:=Env.gD (t:=9) (v:=sB) E rfl GX.symm;rw[<-GX]at M;refine lY ?_;refine ca (v:=b1 (iX j)) E (run_move U U) fun fr E=>?_;refine yR E M U U U U U (ar U U T.Az) (Dh) fun fr w M E=>?_;refine ca (v:=b1 (eL (iX j))) E (run_assign U U) fun fr E=>?_;refine mc ?_;refine gV ?_;have M:=M.as (L':=.bytes 5 _ (c8 (aX key j) j)::_) (by rw[show(c8 (aX key j) j)=sn (ea (aX key j) j) (iX j)from if_pos au];rfl);rw[Ix au]at E;refine eU ?_;refine cM E fun fr E=>?_;refine ca E (ng U U) fun fr E=>?_;refine ca (v:=ai _ 0) E (mH U U T.rG) fun fr E=>?_;refine ca (v:=gg) E (aE U U T.lu (M.row (i:=4) U) U) fun fr E=>?_;refine cM E fun fr E=>?_;refine cM E fun fr E=>?_;refine ca (v:=.int _ ((j:Int))) E (num U ((br ae ae).trans ae)) fun fr E=>?_;refine ca E (bL (i:=j) U (M.reads 3 U) U U (rfl) ae T.gN T.gM) fun fr E=>?_;refine ca (v:=oF) E (b2 U (M.reads 3 U) U T.ec (by rw[Nat.mul_one];exact GM)) fun fr E=>?_;refine iF E fun fr E=>?_;refine eY ?_;have M:=M.aH 3 rfl;have M:Mem _ _ ([.row 22 1 gg (4+j) (ps.map (·.1))]++_) _ _:=M;refine(rO (B:=T.ww) (Vs:=(.af _:: .af _:: .af _:: .af (ai _ 0):: .af (gg):: .af _:: .af (cellAt oF (0*1)):: .af _:: .af _:: .af (cellAt sB (0*1)):: .af _:: .af _:: .af _:: .af (cellAt oF (1*1)):: .af _:: .af _:: .af (cellAt sB (1*1)):: .af _:: .af _:: .af _:: .af (cellAt oF (2*1)):: .af _:: .af _:: .af (cellAt sB (2*1)):: .af _:: .af _:: .af _:: .af (cellAt oF (3*1)):: .af _:: .af _:: .af (cellAt sB (3*1)):: .af _:: .af _::cV w.heap.size (fun v=>[az.bytes 5 v ([⟨a8 (wd (aX key j) j) 0 ^^^ a8 (c8 (aX key j) j) 0⟩,⟨a8 (wd (aX key j) j) 1 ^^^ a8 (c8 (aX key j) j) 1⟩,⟨a8 (wd (aX key j) j) 2 ^^^ a8 (c8 (aX key j) j) 2⟩,⟨a8 (wd (aX key j) j) 3 ^^^ a8 (c8 (aX key j) j) 3⟩])]) (fun _=>True)::uy w.heap.size 5 ([⟨a8 (wd (aX key j) j) 0 ^^^ a8 (c8 (aX key j) j) 0⟩,⟨a8 (wd (aX key j) j) 1 ^^^ a8 (c8 (aX key j) j) 1⟩,⟨a8 (wd (aX key j) j) 2 ^^^ a8 (c8 (aX key j) j) 2⟩,⟨a8 (wd (aX key j) j) 3 ^^^ a8 (c8 (aX key j) j) 3⟩])::cL w.heap.size ([.row 22 1 gg (4+j) (ps.map (·.1))]) (fun q:Value×Value=>q.1) ((fun q=>[az.row 22 1 q.1 ((4+j)+1) ((ps.map (·.1))++[q.2]),az.bytes 5 q.2 ([⟨a8 (wd (aX key j) j) 0 ^^^ a8 (c8 (aX key j) j) 0⟩,⟨a8 (wd (aX key j) j) 1 ^^^ a8 (c8 (aX key j) j) 1⟩,⟨a8 (wd (aX key j) j) 2 ^^^ a8 (c8 (aX key j) j) 2⟩,⟨a8 (wd (aX key j) j) 3 ^^^ a8 (c8 (aX key j) j) 3⟩])])) (fun _=>True):: .af _:: .af (ai _ 0)::[])) (pJ T.ww 39 (ga 35 ([.row 22 1 gg (4+j) (ps.map (·.1))])) w.drew) T.Jw 38 E T.mixed T.Jv U U U ?_ ⟨hM (b5 U U M (fun i g h=>h.2)),
   ci (c:=35) U U M U U (fun x w' aA aL ab=>⟨_,_,U,U,U,run_move U U,bd.refl _,U⟩),
   ci (c:=35) U U M U U (fun x w' aA aL ab=>⟨_,_,U,U,U,ng U U,bd.refl _,U⟩),
   ci (c:=35) U U M U U (fun x w' aA aL ab=>⟨_,_,U,U,U,mH U U T.rG,bd.refl _,U⟩),
   ci (c:=35) U U M U U (fun x w' aA aL ab=>⟨_,_,U,U,U,aE U U T.lu (aA.row (i:=4) U) U,bd.refl _,U⟩),
   ci (c:=35) U U M U U (fun x w' aA aL ab=>⟨_,_,U,U,U,run_move U U,bd.refl _,U⟩),
   ci (c:=35) U U M U U (fun x w' aA aL ab=>⟨_,_,U,U,U,bL (i:=0) U (show Bytes _ _ (wd (aX key j) j)from aA.gr (i:=3) U lq) U U (rfl) ae T.aG T.bf,bd.refl _,U⟩),
   ci (c:=35) U U M U U (fun x w' aA aL ab=>⟨_,_,U,U,U,b2 U (show Bytes _ _ (wd (aX key j) j)from aA.gr (i:=3) U lq) U T.cq (fS ae),bd.refl _,U⟩),
   ci (c:=35) U U M U U (fun x w' aA aL ab=>⟨_,_,U,U,U,run_move U U,bd.refl _,U⟩),
   ci (c:=35) U U M U U (fun x w' aA aL ab=>⟨_,_,U,U,U,bL (i:=0) U (aA.reads 1 U) U U (rfl) ae T.aG T.bf,bd.refl _,U⟩),
   ci (c:=35) U U M U U (fun x w' aA aL ab=>⟨_,_,U,U,U,b2 U (aA.reads 1 U) U T.cq (fS ae),bd.refl _,U⟩),
   ci (c:=35) U U M U U (fun x w' aA aL ab=>⟨_,_,U,U,U,num U (dx _ _),bd.refl _,U⟩),
   ci (c:=35) U U M U U (fun x w' aA aL ab=>⟨_,_,U,U,U,run_move U U,bd.refl _,U⟩),
   ci (c:=35) U U M U U (fun x w' aA aL ab=>⟨_,_,U,U,U,bL (i:=1) U (show Bytes _ _ (wd (aX key j) j)from aA.gr (i:=3) U lq) U U (rfl) ae T.aG T.bf,bd.refl _,U⟩),
   ci (c:=35) U U M U U (fun x w' aA aL ab=>⟨_,_,U,U,U,b2 U (show Bytes _ _ (wd (aX key j) j)from aA.gr (i:=3) U lq) U T.cq (fS ae),bd.refl _,U⟩),
   ci (c:=35) U U M U U (fun x w' aA aL ab=>⟨_,_,U,U,U,run_move U U,bd.refl _,U⟩),
   ci (c:=35) U U M U U (fun x w' aA aL ab=>⟨_,_,U,U,U,bL (i:=1) U (aA.reads 1 U) U U (rfl) ae T.aG T.bf,bd.refl _,U⟩),
   ci (c:=35) U U M U U (fun x w' aA aL ab=>⟨_,_,U,U,U,b2 U (aA.reads 1 U) U T.cq (fS ae),bd.refl _,U⟩),
   ci (c:=35) U U M U U (fun x w' aA aL ab=>⟨_,_,U,U,U,num U (dx _ _),bd.refl _,U⟩),
   ci (c:=35) U U M U U (fun x w' aA aL ab=>⟨_,_,U,U,U,run_move U U,bd.refl _,U⟩),
   ci (c:=35) U U M U U (fun x w' aA aL ab=>⟨_,_,U,U,U,bL (i:=2) U (show Bytes _ _ (wd (aX key j) j)from aA.gr (i:=3) U lq) U U (rfl) ae T.aG T.bf,bd.refl _,U⟩),
   ci (c:=35) U U M U U (fun x w' aA aL ab=>⟨_,_,U,U,U,b2 U (show Bytes _ _ (wd (aX key j) j)from aA.gr (i:=3) U lq) U T.cq (fS ae),bd.refl _,U⟩),
   ci (c:=35) U U M U U (fun x w' aA aL ab=>⟨_,_,U,U,U,run_move U U,bd.refl _,U⟩),
   ci (c:=35) U U M U U (fun x w' aA aL ab=>⟨_,_,U,U,U,bL (i:=2) U (aA.reads 1 U) U U (rfl) ae T.aG T.bf,bd.refl _,U⟩),
   ci (c:=35) U U M U U (fun x w' aA aL ab=>⟨_,_,U,U,U,b2 U (aA.reads 1 U) U T.cq (fS ae),bd.refl _,U⟩),
   ci (c:=35) U U M U U (fun x w' aA aL ab=>⟨_,_,U,U,U,num U (dx _ _),bd.refl _,U⟩),
   ci (c:=35) U U M U U (fun x w' aA aL ab=>⟨_,_,U,U,U,run_move U U,bd.refl _,U⟩),
   ci (c:=35) U U M U U (fun x w' aA aL ab=>⟨_,_,U,U,U,bL (i:=3) U (show Bytes _ _ (wd (aX key j) j)from aA.gr (i:=3) U lq) U U (rfl) ae T.aG T.bf,bd.refl _,U⟩),
   ci (c:=35) U U M U U (fun x w' aA aL ab=>⟨_,_,U,U,U,b2 U (show Bytes _ _ (wd (aX key j) j)from aA.gr (i:=3) U lq) U T.cq (fS ae),bd.refl _,U⟩),
   ci (c:=35) U U M U U (fun x w' aA aL ab=>⟨_,_,U,U,U,run_move U U,bd.refl _,U⟩),
   ci (c:=35) U U M U U (fun x w' aA aL ab=>⟨_,_,U,U,U,bL (i:=3) U (aA.reads 1 U) U U (rfl) ae T.aG T.bf,bd.refl _,U⟩),
   ci (c:=35) U U M U U (fun x w' aA aL ab=>⟨_,_,U,U,U,b2 U (aA.reads 1 U) U T.cq (fS ae),bd.refl _,U⟩),
   ci (c:=35) U U M U U (fun x w' aA aL ab=>⟨_,_,U,U,U,num U (dx _ _),bd.refl _,U⟩),
   hM (kK U U M (fun i g h=>h.2) (fun x w' aA aL ab=>⟨U,U,U,uI (vs:=ao [⟨a8 (wd (aX key j) j) 0 ^^^ a8 (c8 (aX key j) j) 0⟩,⟨a8 (wd (aX key j) j) 1 ^^^ a8 (c8 (aX key j) j) 1⟩,⟨a8 (wd (aX key j) j) 2 ^^^ a8 (c8 (aX key j) j) 2⟩,⟨a8 (wd (aX key j) j) 3 ^^^ a8 (c8 (aX key j) j) 3⟩]) aL U U U T.aG T.bf T.gO U (c0 _) U U⟩)),
   hM (kK U U M (fun i g h=>h.2) (fun x w' aA aL ab=>⟨U,U,U,BI aL U U T.gN T.gM T.p0 U (ab 33 U)⟩)),
   hM (AQ (ee:=5) U U M U U U T.gN T.gN T.zp T.w5 ae (fun x w' ab=>⟨U,U,U,U,_,U,ab 34 U⟩)),
   hM (b5 U U M (fun i g h=>h.2)),
   hM (b5 U U M (fun i g h=>h.2)),ay⟩ ?_)
      ·exact tF (hJ U ((aK (aK (aK (aK (aK (aK (aK (aK (aK (aK (aK (aK (aK (aK (aK (aK (aK (aK (aK (aK (aK (aK (aK (aK (aK (aK (aK (aK (aK (aK (aK (aK (aK (jq (cJ.df (fun g h=>M.gA g h)) (jq (cJ.gT (fun g h=>M.gA g h)) (fK U cJ.fJ (aK (aK hH))))))))))))))))))))))))))))))))))))))))
      intro x fr w ⟨b,ak,cX⟩ ab E;obtain⟨⟨rl,jX⟩,bn, -,M⟩:=M.behind (val:=fun q:Value×Value=>q.1) (outs:=(fun q=>[az.row 22 1 q.1 ((4+j)+1) ((ps.map (·.1))++[q.2]),az.bytes 5 q.2 ([⟨a8 (wd (aX key j) j) 0 ^^^ a8 (c8 (aX key j) j) 0⟩,⟨a8 (wd (aX key j) j) 1 ^^^ a8 (c8 (aX key j) j) 1⟩,⟨a8 (wd (aX key j) j) 2 ^^^ a8 (c8 (aX key j) j) 2⟩,⟨a8 (wd (aX key j) j) 3 ^^^ a8 (c8 (aX key j) j) 3⟩])])) (p:=fun _=>True) cX (ab 35 aN);have E:=Env.gD (t:=204) E rfl bn;refine iq (i:=5) (cs':= #[rl,hE]) E M U U U U U U (cy (v:=_) U U U T.Cz (M.row (i:=5) U) (rfl) ((M.reads 0 U).one) (rfl)) U fun fr w M E=>?_;refine o8 ?_;refine gV ?_;refine lY ?_;refine cM E fun fr E=>?_;refine ca (v:=.int _ (((4+(j+1):Nat):Int))) E (num U ((br ae ae).trans ae)) fun fr E=>?_;refine iF E fun fr E=>?_;refine mc ?_;refine pV ?_;have M:=M.aH 6 rfl;have M:=M.aH 6 rfl;have M:=M.aH 2 rfl;have M:=M.aH 6 rfl;have M:=M.aH 4 rfl;have M:=M.nT;have M:=M.sub (L':=[_,_,_,_]) (.cons_cons _ (.cons_cons _ (.cons_cons _ (.cons_cons _ (List.nil_sublist _)))));refine⟨40-(j+1),by omega,j+1,rl,ps++[(jX,[⟨a8 (wd (aX key j) j) 0 ^^^ a8 (c8 (aX key j) j) 0⟩,⟨a8 (wd (aX key j) j) 1 ^^^ a8 (c8 (aX key j) j) 1⟩,⟨a8 (wd (aX key j) j) 2 ^^^ a8 (c8 (aX key j) j) 2⟩,⟨a8 (wd (aX key j) j) 3 ^^^ a8 (c8 (aX key j) j) 3⟩])],U,by omega,by rw[List.map_append,jz,Lk hI];rfl,E.lL [4,5,7,8] rfl,(M.CC (i:=0) (ps':=ps++[(jX,[⟨a8 (wd (aX key j) j) 0 ^^^ a8 (c8 (aX key j) j) 0⟩,⟨a8 (wd (aX key j) j) 1 ^^^ a8 (c8 (aX key j) j) 1⟩,⟨a8 (wd (aX key j) j) 2 ^^^ a8 (c8 (aX key j) j) 2⟩,⟨a8 (wd (aX key j) j) 3 ^^^ a8 (c8 (aX key j) j) 3⟩])]) U (fun q bE=>by simpa [or_comm]using bE)).as (by rw[List.map_append];rfl)⟩
     ·have km:=y9 hI;refine wp_seq ?_;refine eU ?_;refine cM E fun fr E=>?_;refine cM E fun fr E=>?_;refine ca (v:=.int _ (11)) E (num U (rfl)) fun fr E=>?_;refine ca (v:=.int _ (44)) E (num U (rfl)) fun fr E=>?_;refine ca (v:=.bool true) E (eZ U (decide_eq_true ae)) fun fr E=>?_;refine eY ?_;refine cond_true E U (rfl) ?_;refine wp_skip ?_;refine gV ?_;refine wp_seq ?_;refine wp_block ?_;refine eU ?_;refine dM (sz:=1) (xs:=ao []) E M U U U U U (lP U T.aG U) (rfl) (Nat.le_refl _) aN (rfl) fun e fr w M E=>?_;refine cM E fun fr E=>?_;refine ca E (ng U U) fun fr E=>?_;refine ca (v:=ai _ 0) E (mH U U T.rG) fun fr E=>?_;refine ca (v:=gg) E (aE U U T.lu (M.row (i:=3) U) U) fun fr E=>?_;refine cM E fun fr E=>?_;refine ca (v:=.int _ (((3+j:Nat):Int))) E (num U ((br ae ae).trans ae)) fun fr E=>?_;refine ca E (bL (i:=(3+j)) U (M.reads 2 U) U U (rfl) ae T.gN T.gM) fun fr E=>?_;refine ca (v:=BY) E (b2 U (M.reads 2 U) U T.ec (by rw[Nat.mul_one];exact GK)) fun fr E=>?_;refine fX (i:=0) E M U U U U U U U U U U U T.aG T.aG T.eh T.ef (show Bytes _ _ (wd (aX key j) (3+j))from M.gr (i:=1) U GL) (by simp[GC]) fun e fr w M E=>?_;refine iF E fun fr E=>?_;refine eY ?_;refine wp_seq ?_;have M:=M.as (L':=.bytes 5 _ (ea (aX key j) j)::_) (by rw[List.nil_append,Lh];rfl);refine eU ?_;refine cM E fun fr E=>?_;refine cM E fun fr E=>?_;refine ca (v:=.int _ ((((4+j)%4:Nat):Int))) E (num U (kb _ _)) fun fr E=>?_;refine ca (v:=.bool false) E (eZ U (by simp;omega)) fun fr E=>?_;refine eY ?_;refine cond_false E U (rfl) ?_;refine eU ?_;refine cM E fun fr E=>?_;refine ca (v:=.bool false) E (eZ U aN) fun fr E=>?_;refine cM E fun fr E=>?_;refine oP E U U U U fun fr E=>?_;refine oP E U U U U fun fr E=>?_;refine oP E U U U U fun fr E=>?_;refine ca (v:=.bool _) E (rfl) fun fr E=>?_;refine eY ?_;refine cond_false E U (rfl) ?_;refine wp_skip ?_;refine gV ?_;have M:=M.as (L':=.bytes 5 _ (c8 (aX key j) j)::_) (by rw[show(c8 (aX key j) j)=(ea (aX key j) j)from if_neg au]);rw[Iw au]at E;refine eU ?_;refine cM E fun fr E=>?_;refine ca E (ng U U) fun fr E=>?_;refine ca (v:=ai _ 0) E (mH U U T.rG) fun fr E=>?_;refine ca (v:=gg) E (aE U U T.lu (M.row (i:=3) U) U) fun fr E=>?_;refine cM E fun fr E=>?_;refine cM E fun fr E=>?_;refine ca (v:=.int _ ((j:Int))) E (num U ((br ae ae).trans ae)) fun fr E=>?_;refine ca E (bL (i:=j) U (M.reads 2 U) U U (rfl) ae T.gN T.gM) fun fr E=>?_;refine ca (v:=oF) E (b2 U (M.reads 2 U) U T.ec (by rw[Nat.mul_one];exact GM)) fun fr E=>?_;refine iF E fun fr E=>?_;refine eY ?_;have M:=M.aH 2 rfl;have M:Mem _ _ ([.row 22 1 gg (4+j) (ps.map (·.1))]++_) _ _:=M;refine(rO (B:=T.ww) (Vs:=(.af _:: .af _:: .af _:: .af (ai _ 0):: .af (gg):: .af _:: .af (cellAt oF (0*1)):: .af _:: .af _:: .af (cellAt e (0*1)):: .af _:: .af _:: .af _:: .af (cellAt oF (1*1)):: .af _:: .af _:: .af (cellAt e (1*1)):: .af _:: .af _:: .af _:: .af (cellAt oF (2*1)):: .af _:: .af _:: .af (cellAt e (2*1)):: .af _:: .af _:: .af _:: .af (cellAt oF (3*1)):: .af _:: .af _:: .af (cellAt e (3*1)):: .af _:: .af _::cV w.heap.size (fun v=>[az.bytes 5 v ([⟨a8 (wd (aX key j) j) 0 ^^^ a8 (c8 (aX key j) j) 0⟩,⟨a8 (wd (aX key j) j) 1 ^^^ a8 (c8 (aX key j) j) 1⟩,⟨a8 (wd (aX key j) j) 2 ^^^ a8 (c8 (aX key j) j) 2⟩,⟨a8 (wd (aX key j) j) 3 ^^^ a8 (c8 (aX key j) j) 3⟩])]) (fun _=>True)::uy w.heap.size 5 ([⟨a8 (wd (aX key j) j) 0 ^^^ a8 (c8 (aX key j) j) 0⟩,⟨a8 (wd (aX key j) j) 1 ^^^ a8 (c8 (aX key j) j) 1⟩,⟨a8 (wd (aX key j) j) 2 ^^^ a8 (c8 (aX key j) j) 2⟩,⟨a8 (wd (aX key j) j) 3 ^^^ a8 (c8 (aX key j) j) 3⟩])::cL w.heap.size ([.row 22 1 gg (4+j) (ps.map (·.1))]) (fun q:Value×Value=>q.1) ((fun q=>[az.row 22 1 q.1 ((4+j)+1) ((ps.map (·.1))++[q.2]),az.bytes 5 q.2 ([⟨a8 (wd (aX key j) j) 0 ^^^ a8 (c8 (aX key j) j) 0⟩,⟨a8 (wd (aX key j) j) 1 ^^^ a8 (c8 (aX key j) j) 1⟩,⟨a8 (wd (aX key j) j) 2 ^^^ a8 (c8 (aX key j) j) 2⟩,⟨a8 (wd (aX key j) j) 3 ^^^ a8 (c8 (aX key j) j) 3⟩])])) (fun _=>True):: .af _:: .af (ai _ 0)::[])) (pJ T.ww 39 (ga 35 ([.row 22 1 gg (4+j) (ps.map (·.1))])) w.drew) T.Jw 38 E T.mixed T.Jv U U U ?_ ⟨hM (b5 U U M (fun i g h=>h.2)),
   ci (c:=35) U U M U U (fun x w' aA aL ab=>⟨_,_,U,U,U,run_move U U,bd.refl _,U⟩),
   ci (c:=35) U U M U U (fun x w' aA aL ab=>⟨_,_,U,U,U,ng U U,bd.refl _,U⟩),
   ci (c:=35) U U M U U (fun x w' aA aL ab=>⟨_,_,U,U,U,mH U U T.rG,bd.refl _,U⟩),
   ci (c:=35) U U M U U (fun x w' aA aL ab=>⟨_,_,U,U,U,aE U U T.lu (aA.row (i:=3) U) U,bd.refl _,U⟩),
   ci (c:=35) U U M U U (fun x w' aA aL ab=>⟨_,_,U,U,U,run_move U U,bd.refl _,U⟩),
   ci (c:=35) U U M U U (fun x w' aA aL ab=>⟨_,_,U,U,U,bL (i:=0) U (show Bytes _ _ (wd (aX key j) j)from aA.gr (i:=2) U lq) U U (rfl) ae T.aG T.bf,bd.refl _,U⟩),
   ci (c:=35) U U M U U (fun x w' aA aL ab=>⟨_,_,U,U,U,b2 U (show Bytes _ _ (wd (aX key j) j)from aA.gr (i:=2) U lq) U T.cq (fS ae),bd.refl _,U⟩),
   ci (c:=35) U U M U U (fun x w' aA aL ab=>⟨_,_,U,U,U,run_move U U,bd.refl _,U⟩),
   ci (c:=35) U U M U U (fun x w' aA aL ab=>⟨_,_,U,U,U,bL (i:=0) U (aA.reads 1 U) U U (rfl) ae T.aG T.bf,bd.refl _,U⟩),
   ci (c:=35) U U M U U (fun x w' aA aL ab=>⟨_,_,U,U,U,b2 U (aA.reads 1 U) U T.cq (fS ae),bd.refl _,U⟩),
   ci (c:=35) U U M U U (fun x w' aA aL ab=>⟨_,_,U,U,U,num U (dx _ _),bd.refl _,U⟩),
   ci (c:=35) U U M U U (fun x w' aA aL ab=>⟨_,_,U,U,U,run_move U U,bd.refl _,U⟩),
   ci (c:=35) U U M U U (fun x w' aA aL ab=>⟨_,_,U,U,U,bL (i:=1) U (show Bytes _ _ (wd (aX key j) j)from aA.gr (i:=2) U lq) U U (rfl) ae T.aG T.bf,bd.refl _,U⟩),
   ci (c:=35) U U M U U (fun x w' aA aL ab=>⟨_,_,U,U,U,b2 U (show Bytes _ _ (wd (aX key j) j)from aA.gr (i:=2) U lq) U T.cq (fS ae),bd.refl _,U⟩),
   ci (c:=35) U U M U U (fun x w' aA aL ab=>⟨_,_,U,U,U,run_move U U,bd.refl _,U⟩),
   ci (c:=35) U U M U U (fun x w' aA aL ab=>⟨_,_,U,U,U,bL (i:=1) U (aA.reads 1 U) U U (rfl) ae T.aG T.bf,bd.refl _,U⟩),
   ci (c:=35) U U M U U (fun x w' aA aL ab=>⟨_,_,U,U,U,b2 U (aA.reads 1 U) U T.cq (fS ae),bd.refl _,U⟩),
   ci (c:=35) U U M U U (fun x w' aA aL ab=>⟨_,_,U,U,U,num U (dx _ _),bd.refl _,U⟩),
   ci (c:=35) U U M U U (fun x w' aA aL ab=>⟨_,_,U,U,U,run_move U U,bd.refl _,U⟩),
   ci (c:=35) U U M U U (fun x w' aA aL ab=>⟨_,_,U,U,U,bL (i:=2) U (show Bytes _ _ (wd (aX key j) j)from aA.gr (i:=2) U lq) U U (rfl) ae T.aG T.bf,bd.refl _,U⟩),
   ci (c:=35) U U M U U (fun x w' aA aL ab=>⟨_,_,U,U,U,b2 U (show Bytes _ _ (wd (aX key j) j)from aA.gr (i:=2) U lq) U T.cq (fS ae),bd.refl _,U⟩),
   ci (c:=35) U U M U U (fun x w' aA aL ab=>⟨_,_,U,U,U,run_move U U,bd.refl _,U⟩),
   ci (c:=35) U U M U U (fun x w' aA aL ab=>⟨_,_,U,U,U,bL (i:=2) U (aA.reads 1 U) U U (rfl) ae T.aG T.bf,bd.refl _,U⟩),
   ci (c:=35) U U M U U (fun x w' aA aL ab=>⟨_,_,U,U,U,b2 U (aA.reads 1 U) U T.cq (fS ae),bd.refl _,U⟩),
   ci (c:=35) U U M U U (fun x w' aA aL ab=>⟨_,_,U,U,U,num U (dx _ _),bd.refl _,U⟩),
   ci (c:=35) U U M U U (fun x w' aA aL ab=>⟨_,_,U,U,U,run_move U U,bd.refl _,U⟩),
   ci (c:=35) U U M U U (fun x w' aA aL ab=>⟨_,_,U,U,U,bL (i:=3) U (show Bytes _ _ (wd (aX key j) j)from aA.gr (i:=2) U lq) U U (rfl) ae T.aG T.bf,bd.refl _,U⟩),
   ci (c:=35) U U M U U (fun x w' aA aL ab=>⟨_,_,U,U,U,b2 U (show Bytes _ _ (wd (aX key j) j)from aA.gr (i:=2) U lq) U T.cq (fS ae),bd.refl _,U⟩),
   ci (c:=35) U U M U U (fun x w' aA aL ab=>⟨_,_,U,U,U,run_move U U,bd.refl _,U⟩),
   ci (c:=35) U U M U U (fun x w' aA aL ab=>⟨_,_,U,U,U,bL (i:=3) U (aA.reads 1 U) U U (rfl) ae T.aG T.bf,bd.refl _,U⟩),
   ci (c:=35) U U M U U (fun x w' aA aL ab=>⟨_,_,U,U,U,b2 U (aA.reads 1 U) U T.cq (fS ae),bd.refl _,U⟩),
   ci (c:=35) U U M U U (fun x w' aA aL ab=>⟨_,_,U,U,U,num U (dx _ _),bd.refl _,U⟩),
   hM (kK U U M (fun i g h=>h.2) (fun x w' aA aL ab=>⟨U,U,U,uI (vs:=ao [⟨a8 (wd (aX key j) j) 0 ^^^ a8 (c8 (aX key j) j) 0⟩,⟨a8 (wd (aX key j) j) 1 ^^^ a8 (c8 (aX key j) j) 1⟩,⟨a8 (wd (aX key j) j) 2 ^^^ a8 (c8 (aX key j) j) 2⟩,⟨a8 (wd (aX key j) j) 3 ^^^ a8 (c8 (aX key j) j) 3⟩]) aL U U U T.aG T.bf T.gO U (c0 _) U U⟩)),
   hM (kK U U M (fun i g h=>h.2) (fun x w' aA aL ab=>⟨U,U,U,BI aL U U T.gN T.gM T.p0 U (ab 33 U)⟩)),
   hM (AQ (ee:=5) U U M U U U T.gN T.gN T.zp T.w5 ae (fun x w' ab=>⟨U,U,U,U,_,U,ab 34 U⟩)),
   hM (b5 U U M (fun i g h=>h.2)),
   hM (b5 U U M (fun i g h=>h.2)),ay⟩ ?_)
      ·exact tF (hJ U ((aK (aK (aK (aK (aK (aK (aK (aK (aK (aK (aK (aK (aK (aK (aK (aK (aK (aK (aK (aK (aK (aK (aK (aK (aK (aK (aK (aK (aK (aK (aK (aK (aK (jq (cJ.df (fun g h=>M.gA g h)) (jq (cJ.gT (fun g h=>M.gA g h)) (fK U cJ.fJ (aK (aK hH))))))))))))))))))))))))))))))))))))))))
      intro x fr w ⟨b,ak,cX⟩ ab E;obtain⟨⟨rl,jX⟩,bn, -,M⟩:=M.behind (val:=fun q:Value×Value=>q.1) (outs:=(fun q=>[az.row 22 1 q.1 ((4+j)+1) ((ps.map (·.1))++[q.2]),az.bytes 5 q.2 ([⟨a8 (wd (aX key j) j) 0 ^^^ a8 (c8 (aX key j) j) 0⟩,⟨a8 (wd (aX key j) j) 1 ^^^ a8 (c8 (aX key j) j) 1⟩,⟨a8 (wd (aX key j) j) 2 ^^^ a8 (c8 (aX key j) j) 2⟩,⟨a8 (wd (aX key j) j) 3 ^^^ a8 (c8 (aX key j) j) 3⟩])])) (p:=fun _=>True) cX (ab 35 aN);have E:=Env.gD (t:=204) E rfl bn;refine iq (i:=4) (cs':= #[rl,hE]) E M U U U U U U (cy (v:=_) U U U T.Cz (M.row (i:=4) U) (rfl) ((M.reads 0 U).one) (rfl)) U fun fr w M E=>?_;refine o8 ?_;refine gV ?_;refine lY ?_;refine cM E fun fr E=>?_;refine ca (v:=.int _ (((4+(j+1):Nat):Int))) E (num U ((br ae ae).trans ae)) fun fr E=>?_;refine iF E fun fr E=>?_;refine mc ?_;refine pV ?_;have M:=M.aH 5 rfl;have M:=M.aH 5 rfl;have M:=M.aH 2 rfl;have M:=M.aH 5 rfl;have M:=M.aH 4 rfl;have M:=M.nT;have M:=M.sub (L':=[_,_,_,_]) (.cons_cons _ (.cons_cons _ (.cons_cons _ (.cons_cons _ (List.nil_sublist _)))));refine⟨40-(j+1),by omega,j+1,rl,ps++[(jX,[⟨a8 (wd (aX key j) j) 0 ^^^ a8 (c8 (aX key j) j) 0⟩,⟨a8 (wd (aX key j) j) 1 ^^^ a8 (c8 (aX key j) j) 1⟩,⟨a8 (wd (aX key j) j) 2 ^^^ a8 (c8 (aX key j) j) 2⟩,⟨a8 (wd (aX key j) j) 3 ^^^ a8 (c8 (aX key j) j) 3⟩])],U,by omega,by rw[List.map_append,jz,Lk hI];rfl,E.lL [4,5,7,8] rfl,(M.CC (i:=0) (ps':=ps++[(jX,[⟨a8 (wd (aX key j) j) 0 ^^^ a8 (c8 (aX key j) j) 0⟩,⟨a8 (wd (aX key j) j) 1 ^^^ a8 (c8 (aX key j) j) 1⟩,⟨a8 (wd (aX key j) j) 2 ^^^ a8 (c8 (aX key j) j) 2⟩,⟨a8 (wd (aX key j) j) 3 ^^^ a8 (c8 (aX key j) j) 3⟩])]) U (fun q bE=>by simpa [or_comm]using bE)).as (by rw[List.map_append];rfl)⟩
    ·obtain rfl:j=40:=by omega
     refine wp_seq ?_;refine eU ?_;refine cM E fun fr E=>?_;refine cM E fun fr E=>?_;refine ca (v:=.int _ (11)) E (num U (rfl)) fun fr E=>?_;refine ca (v:=.int _ (44)) E (num U (rfl)) fun fr E=>?_;refine ca (v:=.bool false) E (eZ U aN) fun fr E=>?_;refine eY ?_;refine cond_false E U (rfl) ?_;refine wp_exit ?_;refine lA ?_;refine lA ?_;refine o7 ?_;refine gV ?_;refine eU ?_;refine cM E fun fr E=>?_;refine iF E fun fr E=>?_;refine ca E (hT U) fun fr E=>?_;refine eY ?_;refine wp_ret ?_;refine fN E U U U ?_;have M:=M.aH 3 rfl;have M:=M.aH 1 rfl;have M:=M.aH 2 rfl;have M:=M.aH 3 rfl;exact⟨⟨aZ,gg,hE,ps⟩,U,(Mem.pack (A:=q3 ⟨aZ,gg,hE,ps⟩) M).fin (outs:=[hg ⟨aZ,gg,hE,ps⟩]) (.cons_cons _ (List.nil_sublist _)) jz⟩
end
section
open Go.RowKit Go.a2 Go.Proofs Go.Proofs.Tryz
section
variable{R:n2}{ks:List UInt8}{w w':World}
theorem yy(h:(hg R).ok w):w.heap[R.g]? =some (.cells #[R.gg,R.hE] 205):=h.1 _ (List.mem_of_getElem? (l:=q3 R) (i:=0) rfl)
theorem B3(h:(hg R).ok w)(hp:R.ps.map (·.2)=iM ks 44):Reads 1 w R.gg 44 (R.ps.map (·.1)):=nS (t:=22) (h.1 (.row 22 1 R.gg 44 (R.ps.map fun q:Value×List UInt8=>q.1)) (List.mem_of_getElem? (l:=q3 R) (i:=1) rfl))
theorem B4(h:(hg R).ok w){q:Value}{b:List UInt8}(bE:(q,b)∈R.ps):Bytes w q b:=(h.1 (.e7 R.ps) (List.mem_of_getElem? (l:=q3 R) (i:=2) rfl)) _ bE
theorem B2(h:(hg R).ok w):Bytes w R.hE ep:=nS (t:=5) (h.1 (.bytes 5 R.hE ep) (List.mem_of_getElem? (l:=q3 R) (i:=3) rfl))
theorem Iv(h:(hg R).ok w){g:Nat}(al:g∈(hg R).et):g<w.heap.size:=by
 obtain⟨e,he,hb⟩:=az.kq.1 al;simp only[q3,List.mem_cons,List.not_mem_nil,or_false]at he;rcases he with rfl|rfl|rfl|rfl
 ·obtain rfl:g=R.g:=by simpa [az.bb]using hb
  exact(Array.getElem?_eq_some_iff.1 (yy h)).1
 ·exact(qD (h.1 (.row 22 1 R.gg 44 (R.ps.map fun q:Value×List UInt8=>q.1)) (List.mem_of_getElem? (l:=q3 R) (i:=1) U))).lt _ (List.mem_singleton.2 U) g hb
 ·obtain⟨q,bE,Sn⟩:=List.mem_filterMap.1 hb;exact vR (B4 h (b:=q.2) (by simpa using bE)) Sn
 ·exact vR (B2 h) (by simpa [az.row]using hb)
theorem VK{F:Nat->Prop}(h:(hg R).ok w)(H:gI F w w')(cG:∀g∈(hg R).et,¬F g):(hg R).ok w':=(hg R).pS w w' (fun g al=>H.block g (Iv h al) (cG g al)) h
theorem yx(h:(hg R).ok w)(H:gI (aS []) w w'):(hg R).ok w':=VK h H fun _ _=>gQ
end
def k6(a b:List UInt8)(i:Nat):UInt8:=⟨a8 a i ^^^ a8 b i⟩
theorem aac{ks:List UInt8}{r i:Nat}(hi:i<16):a8 (wd ks (4*r+i/4)) (i%4)=a8 (eH ks r) i:=by
 unfold a8 wd eH;rw[List.getD_eq_getElem?_getD,List.getD_eq_getElem?_getD,List.getElem?_take_of_lt ae,List.getElem?_take_of_lt hi,List.getElem?_drop,List.getElem?_drop,show 4*(4*r+i/4)+i%4=16*r+i by omega]
theorem aaw{s ks:List UInt8}{r i:Nat}(hi:i<16):(List.range i).map (k6 s (eH ks r))++[⟨a8 s i ^^^ a8 (wd ks (4*r+i/4)) (i%4)⟩]=(List.range (i+1)).map (k6 s (eH ks r)):=by
 rw[List.range_succ,List.map_append,aac hi];rfl
theorem CB{E:List az}{e:TypeId}{v:Value}{a:List UInt8}{x:dS}: [az.row e 1 v (a.length+1) (ao a++[b1 x])]++E=az.bytes e v (a++[⟨x⟩])::E:=by
 unfold az.bytes;rw[sU,List.length_append];rfl
theorem Z1(x y:dS):eL (x ^^^ y)=eL x ^^^ eL y:=by
 have h:∀z:dS,eL z=z <<< 1 ^^^(if z.toNat<128 then 0#8 else 27#8):=fun z=>by
  have:=ry (p:=fun z=>decide (eL z=z <<< 1 ^^^(if z.toNat<128 then 0#8 else 27#8))) (by decide+kernel) z;exact of_decide_eq_true this
 have an:∀z:dS,(z.toNat<128)=(z.getLsbD 7=false):=fun z=>by
  have:=ry (p:=fun z=>decide (z.toNat<128↔z.getLsbD 7=false)) (by decide+kernel) z;exact propext (of_decide_eq_true this)
 rw[h,h,h];simp only[an,BitVec.getLsbD_xor,BitVec.shiftLeft_xor_distrib];cases x.getLsbD 7<;>cases y.getLsbD 7<;>simp only[Bool.xor_false,Bool.xor_true,Bool.not_false,Bool.not_true,Bool.true_eq_false,if_true,if_false,reduceCtorEq,BitVec.xor_zero]
 ·rw[BitVec.xor_assoc]
 ·rw[BitVec.xor_assoc,BitVec.xor_assoc,BitVec.xor_comm 27#8 (y <<< 1)]
 ·rw[BitVec.xor_assoc,BitVec.xor_comm 27#8,BitVec.xor_assoc,BitVec.xor_self,BitVec.xor_zero]
theorem T5(b:dS):gl 2#8 b 8=eL b:=by
 have:=ry (p:=fun b=>decide (gl 2#8 b 8=eL b)) (by decide+kernel) b;exact of_decide_eq_true this
theorem T6(b:dS):gl 3#8 b 8=b ^^^ eL b:=by
 have:=ry (p:=fun b=>decide (gl 3#8 b 8=b ^^^ eL b)) (by decide+kernel) b;exact of_decide_eq_true this
theorem Xw{s:List UInt8}{i:Nat}(hi:i<16):(List.range i).map (jU s)++[⟨fx (a8 s (4*((i/4+i%4)%4)+i%4))⟩]=(List.range (i+1)).map (jU s):=by
 rw[List.range_succ,List.map_append,show 4*((i/4+i%4)%4)+i%4=(i+4*(i%4))%16 by omega];rfl
theorem PU{l:List UInt8}(h:l.length=16):(((List.replicate 16 (Value.int .u8 0)).toArray.toList.take 0)++ao l++((List.replicate 16 (Value.int .u8 0)).toArray.toList.drop (0+l.length))).toArray=(ao l).toArray:=by
 rw[h];simp
theorem T0(s:List UInt8)(c:Nat): [b1 (gl 2#8 (a8 s (4*c)) 8 ^^^ gl 3#8 (a8 s (4*c+1)) 8 ^^^ a8 s (4*c+2)^^^ a8 s (4*c+3)),b1 (a8 s (4*c)^^^ gl 2#8 (a8 s (4*c+1)) 8 ^^^ gl 3#8 (a8 s (4*c+2)) 8 ^^^ a8 s (4*c+3)),b1 (a8 s (4*c)^^^ a8 s (4*c+1)^^^ gl 2#8 (a8 s (4*c+2)) 8 ^^^ gl 3#8 (a8 s (4*c+3)) 8),b1 (gl 3#8 (a8 s (4*c)) 8 ^^^ a8 s (4*c+1)^^^ a8 s (4*c+2)^^^ gl 2#8 (a8 s (4*c+3)) 8)]=ao [⟨lO s c 0⟩,⟨lO s c 1⟩,⟨lO s c 2⟩,⟨lO s c 3⟩]:=by
 have key:∀a b d e:dS,(gl 2#8 a 8 ^^^ gl 3#8 b 8 ^^^ d ^^^ e=a ^^^(a ^^^ b ^^^ d ^^^ e)^^^ eL (a ^^^ b))/\(a ^^^ gl 2#8 b 8 ^^^ gl 3#8 d 8 ^^^ e=b ^^^(a ^^^ b ^^^ d ^^^ e)^^^ eL (b ^^^ d))/\(a ^^^ b ^^^ gl 2#8 d 8 ^^^ gl 3#8 e 8=d ^^^(a ^^^ b ^^^ d ^^^ e)^^^ eL (d ^^^ e))/\(gl 3#8 a 8 ^^^ b ^^^ d ^^^ gl 2#8 e 8=e ^^^(a ^^^ b ^^^ d ^^^ e)^^^ eL (e ^^^ a)):=fun a b d e=>by
  simp only[T5,T6,Z1];refine⟨?_,?_,?_,?_⟩<;>(apply BitVec.eq_of_getLsbD_eq;intro i hi;simp only[BitVec.getLsbD_xor];generalize a.getLsbD i=gn;generalize b.getLsbD i=jc;generalize d.getLsbD i=d1;generalize e.getLsbD i=cz;generalize(eL a).getLsbD i=fY;generalize(eL b).getLsbD i=jr;generalize(eL d).getLsbD i=d2;generalize(eL e).getLsbD i=c6;revert gn jc d1 cz fY jr d2 c6;decide)
 obtain⟨aj,an,aB,be⟩:=key (a8 s (4*c)) (a8 s (4*c+1)) (a8 s (4*c+2)) (a8 s (4*c+3));rw[aj,an,aB,be];rfl
theorem T2{s:List UInt8}{c:Nat}(h:c<4):(List.range (4*c)).map (nQ s)++[⟨lO s c 0⟩,⟨lO s c 1⟩,⟨lO s c 2⟩,⟨lO s c 3⟩]=(List.range (4*(c+1))).map (nQ s):=by
 obtain rfl|rfl|rfl|rfl:c=0\/c=1\/c=2\/c=3:=by omega
 all_goals rfl
theorem BJ{R:n2}{ks:List UInt8}{w0:World}(ad:(hg R).ok w0)(hp:R.ps.map (·.2)=iM ks 44)(aI:ks.length=176){e5:Value}{s:List UInt8}{r:Nat}(aP:Bytes w0 e5 s)(vx:s.length=16)(ap:r<=10):aY prog 240 [ai R.g 0,e5,aa (r:Int)] w0 [] (fun v:Value=>v) (fun v=>[.bytes 5 v (iz s (eH ks r))]) (fun _=>True):=by
 refine enter (n:=37) func240 U U U ?_;intro fr E;have M:=Mem.begin (Φ:=fun w'=>(hg R).ok w'/\Bytes w' e5 s) (Has.nil w0) (fun w' h=>⟨yx ad h,aP.bU h⟩);refine aV E<|bw 3 U fun fr E=>?_;refine cI (fun d fr w=>∃(i:Nat) (o:Value),d=16-i/\i<=16/\Env [(8,aa (i:Int)),(7,o),(2,aa (r:Int)),(1,e5),(0,ai R.g 0)] 37 fr/\Mem w0 (aS []) [.bytes 5 o ((List.range i).map (k6 s (eH ks r)))] (fun w'=>(hg R).ok w'/\Bytes w' e5 s) w) (16) ?_ ?_
 ·have M:=M.jg 5;exact⟨0,_,U,Nat.zero_le _,E.lL [0,1,2,7,8] rfl,M⟩
 ·clear E M;rintro d fr w ⟨i,o,rfl,hle,E,M⟩;by_cases hi:i<16
  ·obtain⟨q,bE,GN⟩:=Dq (j:=4*r+i/4) hp ae;have SY:(wd ks (4*r+i/4)).length=4:=ze ae;refine bA E<|bD 1 U U ae<|fun fr E=>?_;have M:Mem _ _ ([.row 5 1 o ((List.range i).map (k6 s (eH ks r))).length (ao ((List.range i).map (k6 s (eH ks r))))]++_) _ _:=M;refine bN E<|bw 1 U fun fr E=>?_;refine(iQ (B:=T.J5) (Vs:=(.af _:: .af _:: .af _:: .af (cellAt e5 (i*1)):: .af _:: .af _:: .af _:: .af (ai _ 0):: .af (R.gg):: .af _:: .af (.int _ (((4*r:Nat):Int))):: .af _:: .af (aa ((i/4:Nat):Int)):: .af (.int _ (((4*r+i/4:Nat):Int))):: .af (cellAt R.gg ((4*r+i/4)*1)):: .af (q):: .af _:: .af (.int _ (((i%4:Nat):Int))):: .af (cellAt q (i%4*1)):: .af _:: .af _::nq w.heap.size 1 1 [b1 (a8 s i ^^^ a8 (wd ks (4*r+i/4)) (i%4))]::cL w.heap.size ([.row 5 1 o ((List.range i).map (k6 s (eH ks r))).length (ao ((List.range i).map (k6 s (eH ks r))))]) (fun v:Value=>v) ((fun bR:Value=>[az.row 5 1 bR (((List.range i).map (k6 s (eH ks r))).length+1) ((ao ((List.range i).map (k6 s (eH ks r))))++[b1 (a8 s i ^^^ a8 (wd ks (4*r+i/4)) (i%4))])])) (fun _=>True)::cL w.heap.size ([.row 5 1 o ((List.range i).map (k6 s (eH ks r))).length (ao ((List.range i).map (k6 s (eH ks r))))]) (fun v:Value=>v) ((fun bR:Value=>[az.row 5 1 bR (((List.range i).map (k6 s (eH ks r))).length+1) ((ao ((List.range i).map (k6 s (eH ks r))))++[b1 (a8 s i ^^^ a8 (wd ks (4*r+i/4)) (i%4))])])) (fun _=>True)::[])) (fs (ga 22 ([.row 5 1 o ((List.range i).map (k6 s (eH ks r))).length (ao ((List.range i).map (k6 s (eH ks r))))])) w.drew) T.YB E T.mixed T.YA U ?_ ⟨b5 U U M (fun i g h=>h.2),
   b5 U U M (fun i g h=>h.2),
   b5 U U M (fun i g h=>h.2),
   bY U U M (fun i g h=>h.2) (fun x w' aA aL ab=>bL (i:=i) U (aA.fact.2) U U (rfl) ae T.aG T.bf),
   bY U U M (fun i g h=>h.2) (fun x w' aA aL ab=>b2 U (aA.fact.2) U T.cq (fS ae)),
   b5 U U M (fun i g h=>h.2),
   b5 U U M (fun i g h=>h.2),
   b5 U U M (fun i g h=>h.2),
   bY U U M (fun i g h=>h.2) (fun x w' aA aL ab=>aE U U T.lu (yy aA.fact.1) U),
   b5 U U M (fun i g h=>h.2),
   bY U U M (fun i g h=>h.2) (fun x w' aA aL ab=>num U ((br ae ae).trans ae)),
   b5 U U M (fun i g h=>h.2),
   bY U U M (fun i g h=>h.2) (fun x w' aA aL ab=>v8 U U U aN (vQ _ _ aN ae)),
   bY U U M (fun i g h=>h.2) (fun x w' aA aL ab=>num U ((br ae ae).trans ae)),
   bY U U M (fun i g h=>h.2) (fun x w' aA aL ab=>bL (i:=(4*r+i/4)) U (B3 aA.fact.1 hp) U U (rfl) ae T.gN T.gM),
   bY U U M (fun i g h=>h.2) (fun x w' aA aL ab=>b2 U (B3 aA.fact.1 hp) U T.ec (by rw[Nat.mul_one];exact bE)),
   b5 U U M (fun i g h=>h.2),
   bY U U M (fun i g h=>h.2) (fun x w' aA aL ab=>num U (kb _ _)),
   bY U U M (fun i g h=>h.2) (fun x w' aA aL ab=>bL (i:=(i%4)) U (show Bytes _ _ (wd ks (4*r+i/4))from B4 aA.fact.1 GN) U U (rfl) ae T.aG T.bf),
   bY U U M (fun i g h=>h.2) (fun x w' aA aL ab=>b2 U (show Bytes _ _ (wd ks (4*r+i/4))from B4 aA.fact.1 GN) U T.cq (fS ae)),
   bY U U M (fun i g h=>h.2) (fun x w' aA aL ab=>num U (dx _ _)),
   kK rfl rfl M (fun i g h=>h.2) (fun x w' aA aL ab=>⟨rfl,rfl,rfl,qd (vs:=[b1 (a8 s i ^^^ a8 (wd ks (4*r+i/4)) (i%4))]) aL rfl rfl rfl T.aG T.bf T.gO rfl (by intro u hu;obtain rfl:=List.mem_singleton.1 hu;rfl) rfl rfl⟩),
   m0 (y:=undef) rfl rfl M rfl rfl rfl T.aG T.aG T.eh T.ef aN (by intro u hu;obtain rfl:=List.mem_singleton.1 hu;rfl) (by simp;omega) (fun x w' ab=>⟨rfl,rfl,rfl,rfl,_,rfl,(ab 21 rfl).1⟩),
   lZ (j:=22) rfl rfl rfl rfl (fun x w y bn=>⟨rfl,rfl,rfl,ku rfl bn⟩),ay⟩ ?_)
   ·exact hJ U ((aK (aK (aK (aK (aK (aK (aK (aK (aK (aK (aK (aK (aK (aK (aK (aK (aK (aK (aK (aK (aK (jq (cJ.oD (fun g h=>M.gA g h)) (fK U cJ.fJ (fK U cJ.fJ hH)))))))))))))))))))))))))
   intro x fr w ⟨b,ak,cX⟩ ab E;obtain⟨vL,bn, -,M⟩:=M.behind (val:=fun v:Value=>v) (outs:=(fun bR:Value=>[az.row 5 1 bR (((List.range i).map (k6 s (eH ks r))).length+1) ((ao ((List.range i).map (k6 s (eH ks r))))++[b1 (a8 s i ^^^ a8 (wd ks (4*r+i/4)) (i%4))])])) (p:=fun _=>True) cX (ab 23 aN);have E:=Env.gD (t:=7) E rfl bn;refine cm E<|a1 (y:=((i+1:Nat):Int)) 1 U U ((br ae ae).trans ae)<|ct 1 U fun fr E=>?_;exact⟨16-(i+1),by omega,i+1,_,U,by omega,E.lL [0,1,2,7,8] rfl,M.as (by rw[<-aaw hi];exact CB)⟩
  ·obtain rfl:i=16:=by omega
   refine bA E<|ch 1 U U aN<|aU 3 U fun fr E=>?_;refine bi E U U ?_;exact⟨_,U,M.fin (outs:=[.bytes 5 o (iz s (eH ks r))]) (.refl _) trivial⟩
theorem T4{e5:Value}{s:List UInt8}{w0:World}(aP:Bytes w0 e5 s)(vx:s.length=16):aY prog 241 [e5] w0 [] (fun v:Value=>v) (fun v=>[.bytes 5 v (kV s)]) (fun _=>True):=by
 refine enter (n:=76) func241 U U U ?_;intro fr E;have M:=Mem.begin (Φ:=fun w'=>Bytes w' e5 s) (Has.nil w0) (fun w' h=>aP.bU h);refine aV E<|bw 3 U fun fr E=>?_;refine cI (fun d fr w=>∃(c:Nat) (o:Value),d=4-c/\c<=4/\Env [(4,aa (c:Int)),(3,o),(0,e5)] 76 fr/\Mem w0 (aS []) [.bytes 5 o ((List.range (4*c)).map (nQ s))] (fun w'=>Bytes w' e5 s) w) (4) ?_ ?_
 ·have M:=M.jg 5;exact⟨0,_,U,Nat.zero_le _,E.lL [0,3,4] rfl,M⟩
 ·clear E M;rintro d fr w ⟨c,o,rfl,hle,E,M⟩;by_cases aJ:c<4
  ·refine bA E<|bD 1 U U ae<|bw 1 U fun fr E=>?_;refine(dR (B:=T.J6) (Vs:=(.af _:: .af _:: .af (.int _ (((4*c:Nat):Int))):: .af (cellAt e5 ((4*c)*1)):: .af _:: .af _:: .af _:: .af (.int _ (((4*c:Nat):Int))):: .af (.int _ (((4*c+1:Nat):Int))):: .af (cellAt e5 ((4*c+1)*1)):: .af _:: .af _:: .af _:: .af (.int _ (((4*c:Nat):Int))):: .af (.int _ (((4*c+2:Nat):Int))):: .af (cellAt e5 ((4*c+2)*1)):: .af _:: .af _:: .af _:: .af (.int _ (((4*c:Nat):Int))):: .af (.int _ (((4*c+3:Nat):Int))):: .af (cellAt e5 ((4*c+3)*1)):: .af _:: .af _:: .af _:: .af _:: .af _::[])) T.YD E T.mixed T.YC U (ej.e6 U) ⟨aw U U,
   aw U U,
   aC U U (fun x w ad ab=>num U ((br ae ae).trans ae)),
   aC U U (fun x w ad ab=>bL (i:=(4*c)) U ((M.aQ ad).fact) U U (rfl) ae T.aG T.bf),
   aC U U (fun x w ad ab=>b2 U ((M.aQ ad).fact) U T.cq (fS ae)),
   aw U U,
   aw U U,
   aC U U (fun x w ad ab=>num U ((br ae ae).trans ae)),
   aC U U (fun x w ad ab=>num U ((br ae ae).trans ae)),
   aC U U (fun x w ad ab=>bL (i:=(4*c+1)) U ((M.aQ ad).fact) U U (rfl) ae T.aG T.bf),
   aC U U (fun x w ad ab=>b2 U ((M.aQ ad).fact) U T.cq (fS ae)),
   aw U U,
   aw U U,
   aC U U (fun x w ad ab=>num U ((br ae ae).trans ae)),
   aC U U (fun x w ad ab=>num U ((br ae ae).trans ae)),
   aC U U (fun x w ad ab=>bL (i:=(4*c+2)) U ((M.aQ ad).fact) U U (rfl) ae T.aG T.bf),
   aC U U (fun x w ad ab=>b2 U ((M.aQ ad).fact) U T.cq (fS ae)),
   aw U U,
   aw U U,
   aC U U (fun x w ad ab=>num U ((br ae ae).trans ae)),
   aC U U (fun x w ad ab=>num U ((br ae ae).trans ae)),
   aC U U (fun x w ad ab=>bL (i:=(4*c+3)) U ((M.aQ ad).fact) U U (rfl) ae T.aG T.bf),
   aC U U (fun x w ad ab=>b2 U ((M.aQ ad).fact) U T.cq (fS ae)),
   aw U U,
   aw U U,
   aw U U,
   aw U U,ay⟩ ?_)
   intro x fr w ad ab E;have M:=M.ext ad;refine cm E<|bo M 2 U (ar U U T.oq) (oU (a:=2#8) (b:=a8 s (4*c))) fun w M=>bo M 1 U (ar U U T.oq) (oU (a:=3#8) (b:=a8 s (4*c+1))) fun w M=>a1 0 U U (dx _ _)<|a1 1 U U (dx _ _)<|a1 1 U U (dx _ _)<|bo M 2 U (ar U U T.oq) (oU (a:=2#8) (b:=a8 s (4*c+1))) fun w M=>a1 0 U U (dx _ _)<|bo M 1 U (ar U U T.oq) (oU (a:=3#8) (b:=a8 s (4*c+2))) fun w M=>a1 0 U U (dx _ _)<|a1 1 U U (dx _ _)<|a1 2 U U (dx _ _)<|bo M 1 U (ar U U T.oq) (oU (a:=2#8) (b:=a8 s (4*c+2))) fun w M=>a1 0 U U (dx _ _)<|bo M 1 U (ar U U T.oq) (oU (a:=3#8) (b:=a8 s (4*c+3))) fun w M=>a1 0 U U (dx _ _)<|bo M 1 U (ar U U T.oq) (oU (a:=3#8) (b:=a8 s (4*c))) fun w M=>a1 1 U U (dx _ _)<|a1 1 U U (dx _ _)<|bo M 1 U (ar U U T.oq) (oU (a:=2#8) (b:=a8 s (4*c+3))) fun w M=>a1 0 U U (dx _ _)<|cv 0 U fun fr E=>?_;refine dM (sz:=1) (xs:=ao [⟨lO s c 0⟩,⟨lO s c 1⟩,⟨lO s c 2⟩,⟨lO s c 3⟩]) E M U U U U U (ev (us:=[_,_,_,_]) (vs:=[_,_,_,_]) U U U T.aG T.bf T.gO U U U U U) (rfl) (Nat.le_refl _) aN (T0 s c) fun t fr w M E=>?_;refine fX (i:=1) E M U U U U U U U U U U U T.aG T.aG T.eh T.ef (M.reads 0 U) (by simp;omega) fun o fr w M E=>?_;refine cw E<|a1 (y:=((c+1:Nat):Int)) 2 U U ((br ae ae).trans ae)<|ct 1 U fun fr E=>?_;have M:=M.aH 1 rfl;exact⟨4-(c+1),by omega,c+1,_,U,by omega,E.lL [0,3,4] rfl,(M.sub (L':=[_]) (.cons_cons _ (List.nil_sublist _))).as (by rw[T2 aJ])⟩
  ·obtain rfl:c=4:=by omega
   refine bA E<|ch 1 U U aN<|aU 3 U fun fr E=>?_;refine bi E U U ?_;exact⟨_,U,M.fin (outs:=[.bytes 5 o (kV s)]) (.refl _) trivial⟩
set_option maxHeartbeats 1000000 in
theorem PC{R:n2}{ks:List UInt8}{w0:World}(ad:(hg R).ok w0)(hp:R.ps.map (·.2)=iM ks 44)(aI:ks.length=176){dT:List UInt8}(Gm:dT.length=16):bH prog 233 [ai R.g 0,.agg (ao dT).toArray] w0 (.agg (ao (cH ks dT 10)).toArray):=by
 refine enter (n:=68) func233 U U U ?_;intro fr E;have M:=Mem.begin (Φ:=fun w'=>(hg R).ok w'/\True) (Has.nil w0) (fun w' h=>⟨yx ad h,ay⟩);refine aV E<|bh (ob:=.cells ((ao dT).toArray) 162) (fun g=>ai g 0) M 0 U (cS (cs:=((ao dT).toArray)) U U) fun aZ w M=>bh (ob:=.cells _ 162) (fun g=>ai g 0) M 0 U (bT U T.mg) fun bQ w M=>cv 0 U fun fr E=>?_;refine dM (sz:=1) (xs:=ao []) E M U U U U U (lP U T.aG U) (rfl) (Nat.le_refl _) aN (rfl) fun e fr w M E=>?_;refine cw E<|ah (v:=.slice (some ⟨aZ,0,none⟩) 16 16) 0 U (lQ (g:=_) (cs:= #[]) (T:=0) (fr:=(0,0)) U U T.ic T.bf)<|cv 0 U fun fr E=>?_;refine fX (i:=0) (news:=dT) E M U U U U U U U U U U U T.aG T.aG T.eh T.ef (nw (M.row (i:=2) U) Gm aN) (by simp;omega) fun e fr w M E=>?_;refine cw E<|cP M 3 U (ar U U T.AG) (BJ (r:=0) M.fact.1 hp aI (show Bytes _ _ dT from M.bytes 0 U) (Gm) ae) U fun s w _ M=>ah (v:=R.gg) 4 U (aE U U T.lu (yy M.fact.1) U)<|ah (v:=aa 44) 0 U (bx U U U U T.gN (B3 M.fact.1 hp))<|ah (v:=aa 11) 0 U (v8 U U U aN aN)<|a1 (y:=10) 0 U U (rfl)<|bw 2 U fun fr E=>?_;refine cI (fun d fr w=>∃(r:Nat) (s:Value),d=10-r/\r<=10/\Env [(7,aa ((r:Int)+1)),(6,aa 10),(5,s),(4,ai bQ 0),(0,ai R.g 0)] 68 fr/\Mem w0 (aS []) [.bytes 5 s (cH ks dT r),.bb bQ (.cells (ao (List.replicate 16 0)).toArray 162),.bb aZ (.cells (ao (dT)).toArray 162)] (fun w'=>(hg R).ok w'/\True) w) (10) ?_ ?_
 ·have M:=M.aH 3 rfl;have M:=M.aH 3 rfl;have M:=M.aH 2 rfl;exact⟨0,_,U,Nat.zero_le _,E.lL [0,4,5,6,7] rfl,M.sub (L':=[_,_,_]) (.cons_cons _ (.cons_cons _ (.cons_cons _ (List.nil_sublist _))))⟩
 ·clear E M;rintro d fr w ⟨r,s,rfl,hle,E,M⟩;have kR:(cH ks dT r).length=16:=nd _ _ _;by_cases ap:r<10
  ·refine bA E<|bD 2 U U ae<|bw 3 U fun fr E=>?_;refine cI (fun d fr w=>∃(i:Nat) (t:Value),d=16-i/\i<=16/\Env [(9,aa (i:Int)),(8,t),(7,aa ((r:Int)+1)),(6,aa 10),(5,s),(4,ai bQ 0),(0,ai R.g 0)] 68 fr/\Mem w0 (aS []) [.bytes 5 t ((List.range i).map (jU (cH ks dT r))),.bytes 5 s (cH ks dT r),.bb bQ (.cells (ao (List.replicate 16 0)).toArray 162),.bb aZ (.cells (ao (dT)).toArray 162)] (fun w'=>(hg R).ok w'/\True) w) (16) ?_ ?_
   ·have M:=M.jg 5;exact⟨0,_,U,Nat.zero_le _,E.lL [0,4,5,6,7,8,9] rfl,M⟩
   ·clear E M;rintro d fr w ⟨i,t,rfl,Ss,E,M⟩;have kR:(cH ks dT r).length=16:=nd _ _ _;by_cases hi:i<16
    ·refine bA E<|bD 1 U U ae<|fun fr E=>?_;have M:Mem _ _ ([.row 5 1 t ((List.range i).map (jU (cH ks dT r))).length (ao ((List.range i).map (jU (cH ks dT r))))]++_) _ _:=M;refine bN E<|bw 1 U fun fr E=>?_;refine(iQ (B:=T.J4) (Vs:=(.af _:: .af _:: .af _:: .af (ai _ 1):: .af (R.hE):: .af _:: .af _:: .af (aa ((i/4:Nat):Int)):: .af _:: .af (.int _ (((i%4:Nat):Int))):: .af (.int _ (((i/4+i%4:Nat):Int))):: .af (.int _ ((((i/4+i%4)%4:Nat):Int))):: .af (.int _ (((4*((i/4+i%4)%4):Nat):Int))):: .af _:: .af (.int _ (((i%4:Nat):Int))):: .af (.int _ ((((4*((i/4+i%4)%4)+i%4):Nat):Int))):: .af (cellAt s ((4*((i/4+i%4)%4)+i%4)*1)):: .af _:: .af (cellAt R.hE ((a8 (cH ks dT r) (4*((i/4+i%4)%4)+i%4)).toNat*1)):: .af _::nq w.heap.size 1 1 [b1 (fx (a8 (cH ks dT r) (4*((i/4+i%4)%4)+i%4)))]::cL w.heap.size ([.row 5 1 t ((List.range i).map (jU (cH ks dT r))).length (ao ((List.range i).map (jU (cH ks dT r))))]) (fun v:Value=>v) ((fun bR:Value=>[az.row 5 1 bR (((List.range i).map (jU (cH ks dT r))).length+1) ((ao ((List.range i).map (jU (cH ks dT r))))++[b1 (fx (a8 (cH ks dT r) (4*((i/4+i%4)%4)+i%4)))])])) (fun _=>True)::cL w.heap.size ([.row 5 1 t ((List.range i).map (jU (cH ks dT r))).length (ao ((List.range i).map (jU (cH ks dT r))))]) (fun v:Value=>v) ((fun bR:Value=>[az.row 5 1 bR (((List.range i).map (jU (cH ks dT r))).length+1) ((ao ((List.range i).map (jU (cH ks dT r))))++[b1 (fx (a8 (cH ks dT r) (4*((i/4+i%4)%4)+i%4)))])])) (fun _=>True)::[])) (fs (ga 21 ([.row 5 1 t ((List.range i).map (jU (cH ks dT r))).length (ao ((List.range i).map (jU (cH ks dT r))))])) w.drew) T.Yz E T.mixed T.Yy U ?_ ⟨b5 U U M (fun i g h=>h.2),
   b5 U U M (fun i g h=>h.2),
   b5 U U M (fun i g h=>h.2),
   b5 U U M (fun i g h=>h.2),
   bY U U M (fun i g h=>h.2) (fun x w' aA aL ab=>aE U U T.ec (yy aA.fact.1) U),
   b5 U U M (fun i g h=>h.2),
   b5 U U M (fun i g h=>h.2),
   bY U U M (fun i g h=>h.2) (fun x w' aA aL ab=>v8 U U U aN (vQ _ _ aN ae)),
   b5 U U M (fun i g h=>h.2),
   bY U U M (fun i g h=>h.2) (fun x w' aA aL ab=>num U (kb _ _)),
   bY U U M (fun i g h=>h.2) (fun x w' aA aL ab=>num U ((br ae ae).trans ae)),
   bY U U M (fun i g h=>h.2) (fun x w' aA aL ab=>num U (kb _ _)),
   bY U U M (fun i g h=>h.2) (fun x w' aA aL ab=>num U ((br ae ae).trans ae)),
   b5 U U M (fun i g h=>h.2),
   bY U U M (fun i g h=>h.2) (fun x w' aA aL ab=>num U (kb _ _)),
   bY U U M (fun i g h=>h.2) (fun x w' aA aL ab=>num U ((br ae ae).trans ae)),
   bY U U M (fun i g h=>h.2) (fun x w' aA aL ab=>bL (i:=(4*((i/4+i%4)%4)+i%4)) U (aA.reads 0 U) U U (rfl) ae T.aG T.bf),
   bY U U M (fun i g h=>h.2) (fun x w' aA aL ab=>b2 U (aA.reads 0 U) U T.cq (fS ae)),
   bY U U M (fun i g h=>h.2) (fun x w' aA aL ab=>bL (i:=(a8 (cH ks dT r) (4*((i/4+i%4)%4)+i%4)).toNat) U (B2 aA.fact.1) U U (rfl) (by rw[oN];exact(a8 (cH ks dT r) (4*((i/4+i%4)%4)+i%4)).isLt) T.aG T.bf),
   bY U U M (fun i g h=>h.2) (fun x w' aA aL ab=>b2 U (B2 aA.fact.1) U T.cq (wl _)),
   kK rfl rfl M (fun i g h=>h.2) (fun x w' aA aL ab=>⟨rfl,rfl,rfl,qd (vs:=[b1 (fx (a8 (cH ks dT r) (4*((i/4+i%4)%4)+i%4)))]) aL rfl rfl rfl T.aG T.bf T.gO rfl (by intro u hu;obtain rfl:=List.mem_singleton.1 hu;rfl) rfl rfl⟩),
   m0 (y:=undef) rfl rfl M rfl rfl rfl T.aG T.aG T.eh T.ef aN (by intro u hu;obtain rfl:=List.mem_singleton.1 hu;rfl) (by simp;omega) (fun x w' ab=>⟨rfl,rfl,rfl,rfl,_,rfl,(ab 20 rfl).1⟩),
   lZ (j:=21) rfl rfl rfl rfl (fun x w y bn=>⟨rfl,rfl,rfl,ku rfl bn⟩),ay⟩ ?_)
     ·exact hJ U ((aK (aK (aK (aK (aK (aK (aK (aK (aK (aK (aK (aK (aK (aK (aK (aK (aK (aK (aK (aK (jq (cJ.oD (fun g h=>M.gA g h)) (fK U cJ.fJ (fK U cJ.fJ hH))))))))))))))))))))))))
     intro x fr w ⟨b,ak,cX⟩ ab E;obtain⟨t2,bn, -,M⟩:=M.behind (val:=fun v:Value=>v) (outs:=(fun bR:Value=>[az.row 5 1 bR (((List.range i).map (jU (cH ks dT r))).length+1) ((ao ((List.range i).map (jU (cH ks dT r))))++[b1 (fx (a8 (cH ks dT r) (4*((i/4+i%4)%4)+i%4)))])])) (p:=fun _=>True) cX (ab 22 aN);have E:=Env.gD (t:=8) E rfl bn;refine cm E<|a1 (y:=((i+1:Nat):Int)) 1 U U ((br ae ae).trans ae)<|ct 1 U fun fr E=>?_;have M:=M.aH 3 rfl;have M:=M.aH 3 rfl;have M:=M.aH 3 rfl;have M:=M.aH 3 rfl;exact⟨16-(i+1),by omega,i+1,_,U,by omega,E.lL [0,4,5,6,7,8,9] rfl,M.as (by rw[<-Xw hi];exact CB)⟩
    ·obtain rfl:i=16:=by omega
     have M:=M.as (L':=.bytes 5 t (jV (cH ks dT r))::_) rfl;by_cases pk:r<9
     ·refine bA E<|ch 1 U U aN<|bD 3 U U ae<|cP M 2 U (ar U U T.QT) (T4 (M.bytes 0 U) (ua _)) U fun t2 w _ M=>cP M 4 U (ar U U T.AG) (BJ (r:=(r+1)) M.fact.1 hp aI (M.bytes 0 U) (r9 _) ae) U fun s2 w _ M=>a1 (y:=((r+1:Nat):Int)+1) 2 U U ((br ae ae).trans ae)<|ct 1 U fun fr E=>?_;have M:=M.aH 5 rfl;have M:=M.aH 5 rfl;have M:=M.aH 2 rfl;have M:=(M.sub (L':=[_,_,_]) (.cons_cons _ (.cons_cons _ (.cons_cons _ (List.nil_sublist _))))).as (L':=[.bytes 5 s2 (cH ks dT (r+1)),_,_]) (by rw[show cH ks dT (r+1)=iz (kV (jV (cH ks dT r))) (eH ks (r+1))from congrArg (fun x=>iz x _) (if_pos pk)]);exact⟨10-(r+1),by omega,r+1,_,U,by omega,E.lL [0,4,5,6,7] rfl,M⟩
     ·refine bA E<|ch 1 U U aN<|bs 3 U U ae<|cP M 4 U (ar U U T.AG) (BJ (r:=(r+1)) M.fact.1 hp aI (M.bytes 0 U) (ua _) ae) U fun s2 w _ M=>a1 (y:=((r+1:Nat):Int)+1) 2 U U ((br ae ae).trans ae)<|ct 1 U fun fr E=>?_;have M:=M.aH 4 rfl;have M:=M.aH 4 rfl;have M:=M.aH 2 rfl;have M:=(M.sub (L':=[_,_,_]) (.cons_cons _ (.cons_cons _ (.cons_cons _ (List.nil_sublist _))))).as (L':=[.bytes 5 s2 (cH ks dT (r+1)),_,_]) (by rw[show cH ks dT (r+1)=iz (jV (cH ks dT r)) (eH ks (r+1))from congrArg (fun x=>iz x _) (if_neg pk)]);exact⟨10-(r+1),by omega,r+1,_,U,by omega,E.lL [0,4,5,6,7] rfl,M⟩
  ·obtain rfl:r=10:=by omega
   refine bA E<|ch 2 U U aN<|bh (ob:=.cells _ 162) (fun g=>ai g 0) M 1 U (bT U T.mg) fun gR w M=>ah (v:=.slice (some ⟨gR,0,none⟩) 16 16) 0 U (lQ (g:=_) (cs:= #[]) (T:=0) (fr:=(0,0)) U U T.ic T.bf)<|cv 1 U fun fr E=>?_;refine Jq (i:=0) (cs':=(ao (cH ks dT 10)).toArray) E M U U U U U U (Cd (l:=cH ks dT 10) U U U U U T.aG T.bf (M.row (i:=0) U) (M.bytes 1 U) ae (by simp) (PU kR)) U fun fr w M E=>?_;refine cw E<|ah (v:=.agg (ao (cH ks dT 10)).toArray) 0 U (cW U U T.jK (M.row (i:=0) U) ((List.size_toArray).trans ((dj _).trans (kR))))<|bj (i:=2) (cs':=(ao (cH ks dT 10)).toArray) M 0 U U (cB (vs:=(ao (cH ks dT 10)).toArray) U U U T.lz ((List.size_toArray).trans ((dj _).trans (kR))) (M.row (i:=2) U) (rfl) (fun v aD=>c0 _ v aD)) U fun w M=>aU 0 U fun fr E=>?_;refine gC E U U T.jK (M.row (i:=2) U) ((List.size_toArray).trans ((dj _).trans kR)) ?_;exact bX M
end
section
open Go.RowKit Go.a2 Go.Proofs Go.Proofs.Tryz
theorem TL{v:Int}{n j:Nat}(a6:n<=8)(aj:1<=j)(ax:j<=n):(eQ n v).take (n-(j-1))=(eQ n v).take (n-j)++[(aO v)[8-j]'(by rw[eo];omega)]:=by
 have aI:=jB v a6;have e:=Ho (v:=v) a6 (i:=n-j) ae;rw[show n-(j-1)=n-j+1 by omega,List.take_succ_eq_append_getElem ae,e];congr 3;omega
def fk(l:List UInt8)(c j:Nat):List UInt8:=l.take j++List.replicate (c-j) 0
theorem pj{l:List UInt8}{c j:Nat}(h:l.length=c)(ax:j<=c):(fk l c j).length=c:=by simp[fk];omega
theorem AT{a b c:List UInt8}{x y z:Nat}(bm:a.length=6)(ak:b.length=6)(aJ:c.length=4)(ad:x<=6)(bn:y<=6)(au:z<=4):(fk a 6 x++fk b 6 y++fk c 4 z).length=16:=by rw[List.length_append,List.length_append,pj bm ad,pj ak bn,pj aJ au]
theorem AU{l:List UInt8}{c j:Nat}(h:l.length=c)(ax:j<c):(fk l c j).set j (l[j]'ae)=fk l c (j+1):=by
 unfold fk;rw[List.set_append_right _ _ (by simp;omega),List.length_take,Nat.min_eq_left ae,Nat.sub_self,show c-j=(c-(j+1))+1 by omega,List.replicate_succ,List.set_cons_zero,List.take_succ_eq_append_getElem ae,List.append_assoc];rfl
theorem zL{l m:List UInt8}{k:Nat}{x:UInt8}(h:l.set k x=m):((ao l).toArray.toList.set (0+k*1) (ag (x.toNat:Int))).toArray=(ao m).toArray:=by
 subst h;rw[Nat.zero_add,Nat.mul_one];simp only[ao,List.map_set]
theorem Rv{a b c:List UInt8}{j y z:Nat}(bm:a.length=6)(ax:j<6):((ao (fk a 6 j++fk b 6 y++fk c 4 z)).toArray.toList.set (0+j*1) (ag ((a[j]'ae).toNat:Int))).toArray=(ao (fk a 6 (j+1)++fk b 6 y++fk c 4 z)).toArray:=
 zL (by rw[List.append_assoc,List.set_append_left _ _ (by rw[pj bm ae];exact ax),AU bm ax,List.append_assoc])
theorem Rw{a b c:List UInt8}{j z:Nat}(bm:a.length=6)(ak:b.length=6)(ax:j<6):((ao (fk a 6 (j+1)++fk b 6 j++fk c 4 z)).toArray.toList.set (0+(6+j)*1) (ag ((b[j]'ae).toNat:Int))).toArray=(ao (fk a 6 (j+1)++fk b 6 (j+1)++fk c 4 z)).toArray:=
 zL (by rw[List.append_assoc,List.set_append_right _ _ (by rw[pj bm ae];omega),pj bm ae,Nat.add_sub_cancel_left,List.set_append_left _ _ (by rw[pj ak ae];exact ax),AU ak ax,List.append_assoc])
theorem Rx{a b c:List UInt8}{j:Nat}(bm:a.length=6)(ak:b.length=6)(aJ:c.length=4)(ax:j<4):((ao (fk a 6 6++fk b 6 6++fk c 4 j)).toArray.toList.set (0+(12+j)*1) (ag ((c[j]'ae).toNat:Int))).toArray=(ao (fk a 6 6++fk b 6 6++fk c 4 (j+1))).toArray:=
 zL (by
  have h:(fk a 6 6++fk b 6 6).length=12:=by rw[List.length_append,pj bm aN,pj ak aN]
  rw[List.set_append_right _ _ ae,h,Nat.add_sub_cancel_left,AU aJ ax])
theorem Ru(e n:Int)(i:Nat):fk (eQ 6 e) 6 6++fk (eQ 6 n) 6 6++fk (eQ 4 (i:Int)) 4 4=fh e n i:=by
 have pt:=jB e (n:=6) aN;have qJ:=jB n (n:=6) aN;have pz:=jB (i:Int) (n:=4) aN;simp[fk,fh,List.take_of_length_le,pt,qJ,pz]
def jY(ks:List UInt8)(e n:Int)(bl:List UInt8)(i:Nat):UInt8:=⟨a8 bl i ^^^ pT ks e n i⟩
theorem aav{ks bl:List UInt8}{e n:Int}{q j:Nat}(ax:j<16):(List.range (16*q+j)).map (jY ks e n bl)++[⟨a8 bl (16*q+j)^^^ a8 (cH ks (fh e n q) 10) j⟩]=(List.range (16*q+j+1)).map (jY ks e n bl):=by
 rw[List.range_succ,List.map_append];congr 1;simp only[List.map_cons,List.map_nil,jY,pT];rw[show(16*q+j)/16=q by omega,show(16*q+j)%16=j by omega]
theorem Bw(v:Int){n:Nat}(a6:n<=8)(w0:World):aY prog 232 [aa v,aa (n:Int)] w0 [] (fun s:Value=>s) (fun s=>[.bytes 5 s (eQ n v)]) (fun _=>True):=by
 refine enter (n:=24) func232 U U U ?_;intro fr E;have M:=ht (Has.nil w0);refine aV E<|a1 (y:=((n:Nat):Int)-1) 3 U U (br ae ae)<|bw 1 U fun fr E=>?_;refine cI (fun d fr w=>∃(j:Nat) (o:Value),d=j/\j<=n/\Env [(6,aa ((j:Int)-1)),(5,o),(0,aa v)] 24 fr/\Mem w0 (aS []) [.bytes 5 o ((eQ n v).take (n-j))] (fun _=>True) w) (n) ?_ ?_
 ·have M:=M.jg 5;exact⟨n,_,U,Nat.le_refl _,E.lL [0,5,6] rfl,M.as (by rw[Nat.sub_self,List.take_zero])⟩
 ·clear E M;rintro d fr w ⟨j,o,aT,hle,E,M⟩;have kP:=jB v a6;by_cases ax:1<=j
  ·refine bA E<|bD 1 U U ae<|a1 (y:=IntKind.u64.wrap v) 3 U U (rfl)<|a1 (y:=8*((j:Int)-1)) 1 U U (br ae ae)<|a1 (y:=8*((j:Int)-1)) 0 U U (mM ae ae)<|ah (v:=ab0 _) 0 U (q6 U U U ae U)<|a1 (y:=(((aO v)[8-j]'(by rw[eo];omega)).toNat:Int)) 0 U U (tJ v ax ae)<|cv 0 U fun fr E=>?_;refine dM (sz:=1) (xs:=ao [(aO v)[8-j]'(by rw[eo];omega)]) E M U U U U U (ev (us:=[_]) (vs:=[_]) U U U T.aG T.bf T.gO U U U U U) (rfl) (Nat.le_refl _) aN (rfl) fun t fr w M E=>?_;refine fX (i:=1) E M U U U U U U U U U U U T.aG T.aG T.eh T.ef (M.reads 0 U) (by simp[kP];omega) fun o fr w M E=>?_;refine cw E<|a1 (y:=((j-1:Nat):Int)-1) 2 U U ((br ae ae).trans ae)<|ct 1 U fun fr E=>?_;refine⟨j-1,by omega,j-1,_,U,by omega,E.lL [0,5,6] rfl,(M.sub (.cons _ (.refl _))).as ?_⟩;rw[TL a6 ax hle];rfl
  ·obtain rfl:j=0:=by omega
   refine bA E<|bs 1 U U ae<|aU 3 U fun fr E=>?_;refine bi E U U ?_;have M:=M.as (L':=[.bytes 5 o (eQ n v)]) (by rw[List.take_of_length_le ae]);exact⟨_,U,M.fin (.refl _) trivial⟩
theorem OX{R:n2}{ks:List UInt8}{w0:World}(ad:(hg R).ok w0)(hp:R.ps.map (·.2)=iM ks 44)(aI:ks.length=176){e n:Int}{i:Nat}:bH prog 216 [ai R.g 0,aa e,aa n,aa (i:Int)] w0 (.agg (ao (cH ks (fh e n i) 10)).toArray):=by
 refine enter (n:=52) func216 U U U ?_;intro fr E;have M:=Mem.begin (Φ:=fun w'=>(hg R).ok w'/\True) (Has.nil w0) (fun w' h=>⟨yx ad h,ay⟩);refine aV E<|bh (ob:=.cells _ 162) (fun g=>ai g 0) M 0 U (bT U T.mg) fun aZ w M=>bh (ob:=.cells _ 162) (fun g=>ai g 0) M 0 U (bT U T.mg) fun bQ w M=>cP M 1 U (ar U U T.AF) (Bw e (n:=6) aN _) U fun xm w _ M=>cP M 2 U (ar U U T.AF) (Bw n (n:=6) aN _) U fun pI w _ M=>cP M 2 U (ar U U T.AF) (Bw (i:Int) (n:=4) aN _) U fun kv w _ M=>bw 2 U fun fr E=>?_;refine cI (fun d fr w=>∃j:Nat,d=6-j/\j<=6/\Env [(13,aa (j:Int)),(12,kv),(11,pI),(10,xm),(9,ai bQ 0),(8,ai aZ 0),(0,ai R.g 0)] 52 fr/\Mem w0 (aS []) [.bytes 5 kv (eQ 4 (i:Int)),.bytes 5 pI (eQ 6 n),.bytes 5 xm (eQ 6 e),.bb bQ (.cells (ao (fk (eQ 6 e) 6 (j)++fk (eQ 6 n) 6 (j)++fk (eQ 4 (i:Int)) 4 (0))).toArray 162),.bb aZ (.cells (ao (List.replicate 16 0)).toArray 162)] (fun w'=>(hg R).ok w'/\True) w) (6) ?_ ?_
 ·exact⟨0,U,Nat.zero_le _,E.lL [0,8,9,10,11,12,13] rfl,M⟩
 ·clear E M;rintro d fr w ⟨j,rfl,hle,E,M⟩;have pt:=jB e (n:=6) aN;have qJ:=jB n (n:=6) aN;have pz:=jB (i:Int) (n:=4) aN;by_cases ax:j<6
  ·refine bA E<|bD 1 U U ae<|ah 4 U (bL (i:=j) U (M.reads 2 U) U U (rfl) ae T.aG T.bf)<|ah (v:=ag (((eQ 6 e)[j]'ae).toNat:Int)) 0 U (b2 U (M.reads 2 U) U T.cq (by rw[Nat.mul_one];exact gx ae))<|ah (v:=ai _ (0+j*1)) 0 U (dm (i:=j) U U U (rfl) ae T.ic T.bf)<|bj (i:=3) (cs':=(ao (fk (eQ 6 e) 6 (j+1)++fk (eQ 6 n) 6 (j)++fk (eQ 4 (i:Int)) 4 (0))).toArray) M 0 U U (cy (v:=_) U U U T.bf (M.row (i:=3) U) (by rw[List.size_toArray,dj,AT pt qJ pz ae ae ae];simp;omega) (rfl) (Rv pt ax)) U fun w M=>a1 (y:=((6+j:Nat):Int)) 1 U U ((br ae ae).trans ae)<|ah 2 U (bL (i:=j) U (M.reads 1 U) U U (rfl) ae T.aG T.bf)<|ah (v:=ag (((eQ 6 n)[j]'ae).toNat:Int)) 0 U (b2 U (M.reads 1 U) U T.cq (by rw[Nat.mul_one];exact gx ae))<|ah (v:=ai _ (0+(6+j)*1)) 0 U (dm (i:=(6+j)) U U U (rfl) ae T.ic T.bf)<|bj (i:=3) (cs':=(ao (fk (eQ 6 e) 6 (j+1)++fk (eQ 6 n) 6 (j+1)++fk (eQ 4 (i:Int)) 4 (0))).toArray) M 0 U U (cy (v:=_) U U U T.bf (M.row (i:=3) U) (by rw[List.size_toArray,dj,AT pt qJ pz ae ae ae];simp;omega) (rfl) (Rw pt qJ ax)) U fun w M=>a1 (y:=((j+1:Nat):Int)) 1 U U ((br ae ae).trans ae)<|ct 1 U fun fr E=>?_;exact⟨6-(j+1),by omega,j+1,U,by omega,E.lL [0,8,9,10,11,12,13] rfl,M⟩
  ·obtain rfl:j=6:=by omega
   refine bA E<|ch 1 U U aN<|bw 2 U fun fr E=>?_;refine cI (fun d fr w=>∃j:Nat,d=4-j/\j<=4/\Env [(14,aa (j:Int)),(12,kv),(11,pI),(10,xm),(9,ai bQ 0),(8,ai aZ 0),(0,ai R.g 0)] 52 fr/\Mem w0 (aS []) [.bytes 5 kv (eQ 4 (i:Int)),.bytes 5 pI (eQ 6 n),.bytes 5 xm (eQ 6 e),.bb bQ (.cells (ao (fk (eQ 6 e) 6 (6)++fk (eQ 6 n) 6 (6)++fk (eQ 4 (i:Int)) 4 (j))).toArray 162),.bb aZ (.cells (ao (List.replicate 16 0)).toArray 162)] (fun w'=>(hg R).ok w'/\True) w) (4) ?_ ?_
   ·exact⟨0,U,Nat.zero_le _,E.lL [0,8,9,10,11,12,14] rfl,M⟩
   ·clear E M;rintro d fr w ⟨j,rfl,hle,E,M⟩;have pt:=jB e (n:=6) aN;have qJ:=jB n (n:=6) aN;have pz:=jB (i:Int) (n:=4) aN;by_cases ax:j<4
    ·refine bA E<|bD 1 U U ae<|a1 (y:=((12+j:Nat):Int)) 2 U U ((br ae ae).trans ae)<|ah 2 U (bL (i:=j) U (M.reads 0 U) U U (rfl) ae T.aG T.bf)<|ah (v:=ag (((eQ 4 (i:Int))[j]'ae).toNat:Int)) 0 U (b2 U (M.reads 0 U) U T.cq (by rw[Nat.mul_one];exact gx ae))<|ah (v:=ai _ (0+(12+j)*1)) 0 U (dm (i:=(12+j)) U U U (rfl) ae T.ic T.bf)<|bj (i:=3) (cs':=(ao (fk (eQ 6 e) 6 (6)++fk (eQ 6 n) 6 (6)++fk (eQ 4 (i:Int)) 4 (j+1))).toArray) M 0 U U (cy (v:=_) U U U T.bf (M.row (i:=3) U) (by rw[List.size_toArray,dj,AT pt qJ pz ae ae ae];simp;omega) (rfl) (Rx pt qJ pz ax)) U fun w M=>a1 (y:=((j+1:Nat):Int)) 1 U U ((br ae ae).trans ae)<|ct 1 U fun fr E=>?_;exact⟨4-(j+1),by omega,j+1,U,by omega,E.lL [0,8,9,10,11,12,14] rfl,M⟩
    ·obtain rfl:j=4:=by omega
     rw[Ru e n i]at M;refine bA E<|ch 1 U U aN<|ah (v:=.agg (ao (fh e n i)).toArray) 2 U (cW U U T.jK (M.row (i:=3) U) ((List.size_toArray).trans ((dj _).trans (vC e n i))))<|bo M 0 U (ar U U T.QS) (PC M.fact.1 hp aI (vC e n i)) fun w M=>bj (i:=4) (cs':=(ao (cH ks (fh e n i) 10)).toArray) M 0 U U (cB (vs:=(ao (cH ks (fh e n i) 10)).toArray) U U U T.lz ((List.size_toArray).trans ((dj _).trans (nd _ _ _))) (M.row (i:=4) U) (rfl) (fun v aD=>c0 _ v aD)) U fun w M=>aU 0 U fun fr E=>?_;refine gC E U U T.jK (M.row (i:=4) U) ((List.size_toArray).trans ((dj _).trans (nd _ _ _))) ?_;exact bX M
theorem D8{R:n2}{ks:List UInt8}{w0:World}(ad:(hg R).ok w0)(hp:R.ps.map (·.2)=iM ks 44)(aI:ks.length=176){bv:Value}{bl:List UInt8}{e n:Int}(tm:Bytes w0 bv bl)(au:bl.length<=1048576):aY prog 201 [ai R.g 0,aa e,aa n,bv] w0 [] (fun v:Value=>v) (fun v=>[.bytes 5 v (gW ks e n bl)]) (fun _=>True):=by
 refine enter (n:=51) func201 U U U ?_;intro fr E;have M:=Mem.begin (Φ:=fun w'=>(hg R).ok w'/\Bytes w' bv bl) (Has.nil w0) (fun w' h=>⟨yx ad h,tm.bU h⟩);refine aV E<|bw 3 U fun fr E=>?_;refine cI (fun d fr w=>∃(q:Nat) (o:Value),d=bl.length+16-16*q/\16*q<bl.length+16/\Env [(10,aa ((16*q:Nat):Int)),(9,o),(3,bv),(2,aa n),(1,aa e),(0,ai R.g 0)] 51 fr/\Mem w0 (aS []) [.bytes 5 o ((List.range (min (16*q) bl.length)).map (jY ks e n bl))] (fun w'=>(hg R).ok w'/\Bytes w' bv bl) w) (bl.length+16) ?_ ?_
 ·have M:=M.jg 5;exact⟨0,_,U,by omega,E.lL [0,1,2,3,9,10] rfl,M.as (by rw[Nat.mul_zero,Nat.zero_min];rfl)⟩
 ·clear E M;rintro d fr w ⟨q,o,rfl,hle,E,M⟩;by_cases bE:16*q<bl.length
  ·have M:=M.as (L':=[.bytes 5 o ((List.range (16*q)).map (jY ks e n bl))]) (by rw[Nat.min_eq_left ae]);refine bA E<|ah 2 U (bx U U U U T.aG (M.fact.2))<|bD 0 U U ae<|ah (v:=aa (q:Int)) 5 U (v8 U U U aN ((vQ (16*q) 16 aN ae).trans (by rw[Nat.mul_div_cancel_left _ aN])))<|bo M 0 U (ar U U T.QQ) (OX M.fact.1 hp aI) fun w M=>bh (ob:=.cells _ 162) (fun g=>ai g 0) M 0 U (bT U T.mg) fun aZ w M=>bj (i:=0) (cs':=(ao (cH ks (fh e n q) 10)).toArray) M 0 U U (cB (vs:=(ao (cH ks (fh e n q) 10)).toArray) U U U T.lz ((List.size_toArray).trans ((dj _).trans (nd _ _ _))) (M.row (i:=0) U) (rfl) (fun v aD=>c0 _ v aD)) U fun w M=>bw 1 U fun fr E=>?_;refine cI (fun d fr w=>∃(j:Nat) (o:Value),d=16-j/\j<=16/\16*q+j<=bl.length/\Env [(12,aa (j:Int)),(11,ai aZ 0),(10,aa ((16*q:Nat):Int)),(9,o),(3,bv),(2,aa n),(1,aa e),(0,ai R.g 0)] 51 fr/\Mem w0 (aS []) [.bytes 5 o ((List.range (16*q+j)).map (jY ks e n bl)),.bb aZ (.cells (ao (cH ks (fh e n q) 10)).toArray 162)] (fun w'=>(hg R).ok w'/\Bytes w' bv bl) w) (16) ?_ ?_
   ·have M:=M.aH 1 rfl;exact⟨0,_,U,Nat.zero_le _,by omega,E.lL [0,1,2,3,9,10,11,12] rfl,M⟩
   ·clear E M;rintro d fr w ⟨j,o,rfl,abk,iD,E,M⟩;have kR:(cH ks (fh e n q) 10).length=16:=nd _ _ _;by_cases ax:j<16/\16*q+j<bl.length
    ·refine bA E<|bD 1 U U ae<|a1 (y:=((16*q+j:Nat):Int)) 3 U U ((br ae ae).trans ae)<|ah 1 U (bx U U U U T.aG (M.fact.2))<|bD 0 U U ae<|ah (v:=.bool _) 0 U U<|fun fr E=>?_;have M:Mem _ _ ([.row 5 1 o ((List.range (16*q+j)).map (jY ks e n bl)).length (ao ((List.range (16*q+j)).map (jY ks e n bl)))]++_) _ _:=M;refine bN E<|bw 1 U fun fr E=>?_;refine(iQ (B:=T.JV) (Vs:=(.af _:: .af _:: .af _:: .af _:: .af (.int _ (((16*q+j:Nat):Int))):: .af (cellAt bv ((16*q+j)*1)):: .af _:: .af _:: .af (ai _ (0+j*1)):: .af _:: .af _::nq w.heap.size 1 1 [b1 (a8 bl (16*q+j)^^^ a8 (cH ks (fh e n q) 10) j)]::cL w.heap.size ([.row 5 1 o ((List.range (16*q+j)).map (jY ks e n bl)).length (ao ((List.range (16*q+j)).map (jY ks e n bl)))]) (fun v:Value=>v) ((fun bR:Value=>[az.row 5 1 bR (((List.range (16*q+j)).map (jY ks e n bl)).length+1) ((ao ((List.range (16*q+j)).map (jY ks e n bl)))++[b1 (a8 bl (16*q+j)^^^ a8 (cH ks (fh e n q) 10) j)])])) (fun _=>True)::cL w.heap.size ([.row 5 1 o ((List.range (16*q+j)).map (jY ks e n bl)).length (ao ((List.range (16*q+j)).map (jY ks e n bl)))]) (fun v:Value=>v) ((fun bR:Value=>[az.row 5 1 bR (((List.range (16*q+j)).map (jY ks e n bl)).length+1) ((ao ((List.range (16*q+j)).map (jY ks e n bl)))++[b1 (a8 bl (16*q+j)^^^ a8 (cH ks (fh e n q) 10) j)])])) (fun _=>True)::[])) (fs (ga 12 ([.row 5 1 o ((List.range (16*q+j)).map (jY ks e n bl)).length (ao ((List.range (16*q+j)).map (jY ks e n bl)))])) w.drew) T.Yf E T.mixed T.Ye U ?_ ⟨b5 U U M (fun i g h=>h.2),
   b5 U U M (fun i g h=>h.2),
   b5 U U M (fun i g h=>h.2),
   b5 U U M (fun i g h=>h.2),
   bY U U M (fun i g h=>h.2) (fun x w' aA aL ab=>num U ((br ae ae).trans ae)),
   bY U U M (fun i g h=>h.2) (fun x w' aA aL ab=>bL (i:=(16*q+j)) U (aA.fact.2) U U (rfl) ae T.aG T.bf),
   bY U U M (fun i g h=>h.2) (fun x w' aA aL ab=>b2 U (aA.fact.2) U T.cq (fS ae)),
   b5 U U M (fun i g h=>h.2),
   bY U U M (fun i g h=>h.2) (fun x w' aA aL ab=>dm (i:=j) U U U (rfl) ae T.ic T.bf),
   bY U U M (fun i g h=>h.2) (fun x w' aA aL ab=>aE U U T.cq (aA.row (i:=0) U) (js ae)),
   bY U U M (fun i g h=>h.2) (fun x w' aA aL ab=>num U (dx _ _)),
   kK rfl rfl M (fun i g h=>h.2) (fun x w' aA aL ab=>⟨rfl,rfl,rfl,qd (vs:=[b1 (a8 bl (16*q+j)^^^ a8 (cH ks (fh e n q) 10) j)]) aL rfl rfl rfl T.aG T.bf T.gO rfl (by intro u hu;obtain rfl:=List.mem_singleton.1 hu;rfl) rfl rfl⟩),
   m0 (y:=undef) rfl rfl M rfl rfl rfl T.aG T.aG T.eh T.ef aN (by intro u hu;obtain rfl:=List.mem_singleton.1 hu;rfl) (by simp;omega) (fun x w' ab=>⟨rfl,rfl,rfl,rfl,_,rfl,(ab 11 rfl).1⟩),
   lZ (j:=12) rfl rfl rfl rfl (fun x w y bn=>⟨rfl,rfl,rfl,ku rfl bn⟩),ay⟩ ?_)
     ·exact hJ U ((aK (aK (aK (aK (aK (aK (aK (aK (aK (aK (aK (jq (cJ.oD (fun g h=>M.gA g h)) (fK U cJ.fJ (fK U cJ.fJ hH)))))))))))))))
     intro x fr w ⟨b,ak,cX⟩ ab E;obtain⟨vL,bn, -,M⟩:=M.behind (val:=fun v:Value=>v) (outs:=(fun bR:Value=>[az.row 5 1 bR (((List.range (16*q+j)).map (jY ks e n bl)).length+1) ((ao ((List.range (16*q+j)).map (jY ks e n bl)))++[b1 (a8 bl (16*q+j)^^^ a8 (cH ks (fh e n q) 10) j)])])) (p:=fun _=>True) cX (ab 13 aN);have E:=Env.gD (t:=9) E rfl bn;refine cm E<|a1 (y:=((j+1:Nat):Int)) 1 U U ((br ae ae).trans ae)<|ct 1 U fun fr E=>?_;have M:=M.aH 1 rfl;have M:=M.aH 1 rfl;exact⟨16-(j+1),by omega,j+1,_,U,by omega,by omega,E.lL [0,1,2,3,9,10,11,12] rfl,M.as (by rw[show 16*q+(j+1)=16*q+j+1 by omega,<-aav ax.1];exact CB)⟩
    ·by_cases abj:j<16
     ·refine bA E<|bD 1 U U ae<|a1 (y:=((16*q+j:Nat):Int)) 3 U U ((br ae ae).trans ae)<|ah 1 U (bx U U U U T.aG (M.fact.2))<|bs 0 U U ae<|ah (v:=.bool _) 0 U U<|a1 (y:=((16*(q+1):Nat):Int)) 2 U U ((br ae ae).trans ae)<|ct 1 U fun fr E=>?_;exact⟨bl.length+16-16*(q+1),by omega,q+1,_,U,by omega,E.lL [0,1,2,3,9,10] rfl,(M.sub (L':=[_]) (.cons_cons _ (List.nil_sublist _))).as (by rw[show min (16*(q+1)) bl.length=16*q+j by omega])⟩
     ·refine bA E<|bs 1 U U ae<|ah (v:=.bool _) 7 U U<|a1 (y:=((16*(q+1):Nat):Int)) 2 U U ((br ae ae).trans ae)<|ct 1 U fun fr E=>?_;exact⟨bl.length+16-16*(q+1),by omega,q+1,_,U,by omega,E.lL [0,1,2,3,9,10] rfl,(M.sub (L':=[_]) (.cons_cons _ (List.nil_sublist _))).as (by rw[show min (16*(q+1)) bl.length=16*q+j by omega])⟩
  ·refine bA E<|ah 2 U (bx U U U U T.aG (M.fact.2))<|bs 0 U U ae<|aU 3 U fun fr E=>?_;refine bi E U U ?_;have M:=M.as (L':=[.bytes 5 o (gW ks e n bl)]) (by rw[Nat.min_eq_right ae];rfl);exact⟨_,U,M.fin (.refl _) trivial⟩
end
section
open Go.RowKit Go.a2 Go.Proofs Go.Proofs.Tryz
structure fB where
 g:Nat
 R:n2
 cM:Value
def rA(X:fB)(key:List UInt8):List az:=[.bb X.g (.cells #[ai X.R.g 0,X.cM] 167),hg X.R,.bytes 5 X.cM (pF key),.pure (X.R.ps.map (·.2)=iM (aX (gp key) 40) 44)]
def gP(X:fB)(key:List UInt8):az:=az.all (rA X key)
theorem U2{α:Type}(a b c d:α)(r:List α):([b,c,d,a]++r).Perm (a::b::c::d::r):=by
 have h:=List.perm_append_comm (l₁:=[b,c,d]) (l₂:=[a]);exact h.append_right r
section
variable{X:fB}{key:List UInt8}{w w':World}
theorem w4(h:(gP X key).ok w):w.heap[X.g]? =some (.cells #[ai X.R.g 0,X.cM] 167):=h.1 _ (List.mem_of_getElem? (l:=rA X key) (i:=0) rfl)
theorem zR(h:(gP X key).ok w):(hg X.R).ok w:=h.1 _ (List.mem_of_getElem? (l:=rA X key) (i:=1) rfl)
theorem EB(h:(gP X key).ok w):Bytes w X.cM (pF key):=nS (t:=5) (h.1 (.bytes 5 X.cM (pF key)) (List.mem_of_getElem? (l:=rA X key) (i:=2) rfl))
theorem EC(h:(gP X key).ok w):X.R.ps.map (·.2)=iM (aX (gp key) 40) 44:=h.1 (.pure (X.R.ps.map (·.2)=iM (aX (gp key) 40) 44)) (List.mem_of_getElem? (l:=rA X key) (i:=3) rfl)
theorem EA(h:(gP X key).ok w){g:Nat}(al:g∈(gP X key).et):g<w.heap.size:=by
 obtain⟨e,he,hb⟩:=az.kq.1 al;simp only[rA,List.mem_cons,List.not_mem_nil,or_false]at he;rcases he with rfl|rfl|rfl|rfl
 ·obtain rfl:g=X.g:=by simpa [az.bb]using hb
  exact(Array.getElem?_eq_some_iff.1 (w4 h)).1
 ·exact Iv (zR h) hb
 ·exact vR (EB h) (by simpa [az.row]using hb)
 ·cases hb
theorem O9{F:Nat->Prop}(h:(gP X key).ok w)(H:gI F w w')(cG:∀g∈(gP X key).et,¬F g):(gP X key).ok w':=(gP X key).pS w w' (fun g al=>H.block g (EA h al) (cG g al)) h
theorem rz(h:(gP X key).ok w)(H:gI (aS []) w w'):(gP X key).ok w':=O9 h H fun _ _=>gQ
end
theorem VV{e n:Int}{w0:World}(aj:¬0<=e):bH prog 199 [aa e,aa n] w0 (.bool false):=by
 refine enter (n:=19) func199 U U U ?_;intro fr E;have M:=ht (Has.nil w0);refine aV E<|bs 2 U U aj<|ah (v:=.bool _) 3 U U<|ah (v:=.bool _) 3 U U<|ah (v:=.bool _) 3 U U<|aU 1 U fun fr E=>?_;refine bi E U U ?_;exact bX M
theorem VW{e n:Int}{w0:World}(aj:0<=e)(an:¬e<=1099511627776):bH prog 199 [aa e,aa n] w0 (.bool false):=by
 refine enter (n:=19) func199 U U U ?_;intro fr E;have M:=ht (Has.nil w0);refine aV E<|bD 2 U U aj<|bs 2 U U an<|ah (v:=.bool _) 0 U U<|ah (v:=.bool _) 3 U U<|ah (v:=.bool _) 3 U U<|aU 1 U fun fr E=>?_;refine bi E U U ?_;exact bX M
theorem VX{e n:Int}{w0:World}(aj:0<=e)(an:e<=1099511627776)(aB:¬0<=n):bH prog 199 [aa e,aa n] w0 (.bool false):=by
 refine enter (n:=19) func199 U U U ?_;intro fr E;have M:=ht (Has.nil w0);refine aV E<|bD 2 U U aj<|bD 2 U U an<|ah (v:=.bool _) 0 U U<|bs 2 U U aB<|ah (v:=.bool _) 0 U U<|ah (v:=.bool _) 3 U U<|aU 1 U fun fr E=>?_;refine bi E U U ?_;exact bX M
theorem VY{e n:Int}{w0:World}(aj:0<=e)(an:e<=1099511627776)(aB:0<=n):bH prog 199 [aa e,aa n] w0 (.bool (decide (n<=1099511627776))):=by
 refine enter (n:=19) func199 U U U ?_;intro fr E;have M:=ht (Has.nil w0);refine aV E<|bD 2 U U aj<|bD 2 U U an<|ah (v:=.bool _) 0 U U<|bD 2 U U aB<|ah (v:=.bool _) 0 U U<|ah (v:=.bool _) 2 U U<|ah (v:=.bool _) 0 U U<|aU 1 U fun fr E=>?_;refine bi E U U ?_;exact bX M
theorem tK{e n:Int}{r:Bool}{w0:World}(h:decide (hX e n)=r):bH prog 199 [aa e,aa n] w0 (.bool r):=by
 subst h;by_cases aj:0<=e
 ·by_cases an:e<=1099511627776
  ·by_cases aB:0<=n
   ·rw[show decide (hX e n)=decide (n<=1099511627776)from decide_eq_decide.2 ⟨fun h=>h.2.2,fun h=>⟨⟨aj,an⟩,aB,h⟩⟩];exact VY aj an aB
   ·rw[decide_eq_false (fun h=>aB h.2.1)];exact VX aj an aB
  ·rw[decide_eq_false (fun h=>an h.1.2)];exact VW aj an
 ·rw[decide_eq_false (fun h=>aj h.1.1)];exact VV aj
theorem Ae(v:Int)(w0:World):aY prog 215 [aa v] w0 [] (fun s:Value=>s) (fun s=>[.bytes 5 s (aO v)]) (fun _=>True):=by
 refine enter (n:=19) func215 U U U ?_;intro fr E;have M:=ht (Has.nil w0);refine aV E<|bw 3 U fun fr E=>?_;refine cI (fun d fr w=>∃(j:Nat) (o:Value),d=j/\j<=8/\Env [(4,aa ((j:Int)-1)),(3,o),(0,aa v)] 19 fr/\Mem w0 (aS []) [.bytes 5 o ((aO v).take (8-j))] (fun _=>True) w) (8) ?_ ?_
 ·have M:=M.jg 5;exact⟨8,_,U,by omega,E.lL [0,3,4] rfl,M.as (by simp)⟩
 ·clear E M;rintro d fr w ⟨j,o,aT,hle,E,M⟩;by_cases ax:1<=j
  ·refine bA E<|bD 1 U U ae<|a1 (y:=8*((j:Int)-1)) 4 U U (br ae ae)<|a1 (y:=8*((j:Int)-1)) 0 U U (mM ae ae)<|ah (v:=aa _) 0 U (q6 U U U ae U)<|a1 (y:=(((aO v)[8-j]'(by rw[eo];omega)).toNat:Int)) 0 U U (G7 v ax hle)<|cv 0 U fun fr E=>?_;refine dM (sz:=1) (xs:=ao [(aO v)[8-j]'(by rw[eo];omega)]) E M U U U U U (ev (us:=[_]) (vs:=[_]) U U U T.aG T.bf T.gO U U U U U) (rfl) (Nat.le_refl _) aN (rfl) fun t fr w M E=>?_;refine fX (i:=1) E M U U U U U U U U U U U T.aG T.aG T.eh T.ef (M.reads 0 U) (by simp[eo];omega) fun o fr w M E=>?_;refine cw E<|a1 (y:=((j-1:Nat):Int)-1) 2 U U ((br ae ae).trans ae)<|ct 1 U fun fr E=>?_;refine⟨j-1,by omega,j-1,_,U,by omega,E.lL [0,3,4] rfl,(M.sub (.cons _ (.refl _))).as ?_⟩;rw[<-List.take_succ_eq_append_getElem,show 8-j+1=8-(j-1) by omega];rfl
  ·obtain rfl:j=0:=by omega
   refine bA E<|bs 1 U U ae<|aU 3 U fun fr E=>?_;refine bi E U U ?_;exact⟨_,U,M.fin (.refl _) trivial⟩
theorem OC{bv:Value}{key:List UInt8}{w0:World}(ak:Bytes w0 bv key)(ab:w0.heap[1]? =some (.cells (a7 bt).toArray 243))(au:key.length<=1099511627776):aY prog 48 [bv] w0 [] (fun X:fB=>ai X.g 0) (fun X=>[gP X key]) (fun _=>True):=by
 refine enter (n:=22) func48 U U U ?_;intro fr E;have M:=Mem.begin (Φ:=fun w'=>Bytes w' bv key/\w'.heap[1]? =some (.cells (a7 bt).toArray 243)) (Has.nil w0) (fun w' h=>⟨ak.bU h,fc ab h⟩);refine aV E<|bo M 2 U (ar U U T.FY) (E2 (s:=Ag) M.fact.1 M.fact.2 au aN) fun w M=>bh (ob:=.cells _ 39) (fun g=>ai g 0) M 0 U (bT U T.gH) fun aZ w M=>bj (i:=0) (cs':=(ao (h7 key encS)).toArray) M 0 U U (cB (vs:=(ao (h7 key encS)).toArray) U U U T.fF ((List.size_toArray).trans ((dj _).trans (gL _ _))) (M.row (i:=0) U) (rfl) (fun v aD=>c0 _ v aD)) U fun w M=>bo M 1 U (ar U U T.FY) (E2 (s:=zI) M.fact.1 M.fact.2 au aN) fun w M=>bh (ob:=.cells _ 39) (fun g=>ai g 0) M 0 U (bT U T.gH) fun bQ w M=>bj (i:=0) (cs':=(ao (h7 key uF)).toArray) M 0 U U (cB (vs:=(ao (h7 key uF)).toArray) U U U T.fF ((List.size_toArray).trans ((dj _).trans (gL _ _))) (M.row (i:=0) U) (rfl) (fun v aD=>c0 _ v aD)) U fun w M=>ah (v:=.slice (some ⟨aZ,0,none⟩) 16 32) 0 U (wa (lo:=0) (hi:=16) (mx:=32) U U T.iB T.bf U ⟨_,_,U,U⟩ U aN aN aN aN aN)<|cP M 0 U (ar U U T.Qq) (PE (key:=gp key) (EE (M.row (i:=1) U) (gL _ _) aN aN) (tu key)) U fun R w jz M=>cv 6 U fun fr E=>?_;refine dM (sz:=1) (xs:=ao []) E M U U U U U (lP U T.aG U) (rfl) (Nat.le_refl _) aN (rfl) fun e fr w M E=>?_;refine cw E<|ah (v:=.slice (some ⟨bQ,0,none⟩) 32 32) 0 U (lQ (g:=_) (cs:= #[]) (T:=0) (fr:=(0,0)) U U T.iB T.bf)<|cv 0 U fun fr E=>?_;refine fX (i:=0) (news:=pF key) E M U U U U U U U U U U U T.aG T.aG T.eh T.ef (nw (M.row (i:=2) U) (vD key) aN) (by simp[vD]) fun e fr w M E=>?_;obtain⟨ob,qX,aF⟩:=Reads.slice (M.bytes 0 rfl);subst aF;refine cw E<|ah (v:=.agg ([_,_]).toArray) 0 U (dl (vs:=[_,_]) (us:=[_,_]) U U T.ZT T.aaF U U U U)<|bh (ob:=.cells #[_,_] 167) (fun g=>ai g 0) M 0 U (cS (cs:= #[_,_]) U U) fun cF w M=>aU 1 U fun fr E=>?_;refine bi E U U ?_;have M:=M.aH 1 rfl;have M:=M.aH 2 rfl;have M:=M.aH 2 rfl;have M:=M.pure (p:=R.ps.map (·.2)=iM (aX (gp key) 40) 44) jz;have M:=M.perm (L':=rA ⟨cF,R,_⟩ key++_) (U2 _ _ _ _ _);exact⟨⟨cF,R,_⟩,U,M.pack.fin (outs:=[gP ⟨cF,R,_⟩ key]) (.cons_cons _ (List.nil_sublist _)) trivial⟩
theorem KX{X:fB}{key:List UInt8}{aD bv:Value}{aT bl:List UInt8}{e n:Int}{w0:World}(ad:(gP X key).ok w0)(ab:w0.heap[1]? =some (.cells (a7 bt).toArray 243))(cc:Bytes w0 aD aT)(ak:Bytes w0 bv bl)(eG:aT.length<=1048576)(au:bl.length<=1048576):bH prog 200 [ai X.g 0,aa e,aa n,aD,bv] w0 (.agg (ao (gF key e n aT bl)).toArray):=by
 refine enter (n:=32) func200 U U U ?_;intro fr E;have M:=Mem.begin (Φ:=fun w'=>(gP X key).ok w'/\w'.heap[1]? =some (.cells (a7 bt).toArray 243)/\Bytes w' aD aT/\Bytes w' bv bl) (Has.nil w0) (fun w' h=>⟨rz ad h,fc ab h,cc.bU h,ak.bU h⟩);refine aV E<|bh (ob:=.cells _ 39) (fun g=>ai g 0) M 0 U (bT U T.gH) fun aZ w M=>ah 1 U (bx U U U U T.aG (M.fact.2.2.1))<|cP M 0 U (ar U U T.AE) (Ae (aT.length:Int) _) U fun a w _ M=>cv 1 U fun fr E=>?_;refine fX (i:=0) E M U U U U U U U U U U U T.aG T.aG T.eh T.ef (M.fact.2.2.1) (by simp[eo];omega) fun a fr w M E=>?_;refine cw E<|cP M 3 U (ar U U T.AE) (Ae e _) U fun OA w _ M=>cv 0 U fun fr E=>?_;refine fX (i:=1) E M U U U U U U U U U U U T.aG T.aG T.eh T.ef (M.reads 0 U) (by simp[eo];omega) fun a fr w M E=>?_;refine cw E<|cP M 1 U (ar U U T.AE) (Ae n _) U fun uK w _ M=>cv 0 U fun fr E=>?_;refine fX (i:=2) E M U U U U U U U U U U U T.aG T.aG T.eh T.ef (M.reads 0 U) (by simp[eo];omega) fun a fr w M E=>?_;have M:=M.aH 2 rfl;have M:Mem _ _ ([.bytes 5 a (aO (aT.length:Int)++aT++aO e++aO n)]++_) _ _:=M;refine cw E<|bw 1 U fun fr E=>?_;refine(rO (B:=T.JU) (Vs:=(.af _:: .af _:: .af (ai _ 1):: .af (X.cM):: .af _:: .af _::cL w.heap.size ([.bytes 5 a (aO (aT.length:Int)++aT++aO e++aO n)]) (fun v:Value=>v) (fun bR:Value=>[az.row 5 1 bR ((aO (aT.length:Int)++aT++aO e++aO n).length+bl.length) (ao (aO (aT.length:Int)++aT++aO e++aO n)++ao bl)]) (fun _=>True):: .af (.agg (ao (gF key e n aT bl)).toArray)::[])) (fs (ga 6 ([.bytes 5 a (aO (aT.length:Int)++aT++aO e++aO n)])) w.drew) T.Yd 8 E T.mixed T.Yc U U U ?_ ⟨b5 U U M (fun i g h=>h.2),
   b5 U U M (fun i g h=>h.2),
   b5 U U M (fun i g h=>h.2),
   bY U U M (fun i g h=>h.2) (fun x w' aA aL ab=>aE U U T.ec (w4 aA.fact.1) U),
   b5 U U M (fun i g h=>h.2),
   b5 U U M (fun i g h=>h.2),
   Ro U U M U U U T.aG T.aG T.eh T.ef aN (c0 _) (by simp[eo];omega) (fun x w' aA ab=>⟨U,U,U,U,_,U,aA.fact.2.2.2⟩),
   nC U U M (fun i g h=>h.2) (fun x w' aA aL ab=>⟨_,_,U,U,U,ar U U T.FC,(Hu (EB aA.fact.1) (PO (ab 6 U)) aA.fact.2.1 (by rw[vD];decide) (by simp[eo];omega)).ext⟩),ay⟩ ?_)
 ·exact hJ U ((aK (aK (aK (aK (aK (aK (fK U cJ.fJ (aK hH)))))))))
 intro x fr w ⟨b,ak,cX⟩ ab E;obtain⟨nu,bn, -,M⟩:=M.behind (val:=fun v:Value=>v) (outs:=(fun bR:Value=>[az.row 5 1 bR ((aO (aT.length:Int)++aT++aO e++aO n).length+bl.length) (ao (aO (aT.length:Int)++aT++aO e++aO n)++ao bl)])) (p:=fun _=>True) cX (ab 6 aN);have E:=Env.gD (t:=30) E rfl bn;refine iq (i:=3) (cs':=(ao (gF key e n aT bl)).toArray) E M U U U U U U (cB (vs:=(ao (gF key e n aT bl)).toArray) U U U T.fF ((List.size_toArray).trans ((dj _).trans (gL _ _))) (M.row (i:=3) U) (rfl) (fun v aD=>c0 _ v aD)) U fun fr w M E=>?_;refine cm E<|aU 0 U fun fr E=>?_;refine gC E U U T.gJ (M.row (i:=3) U) ((List.size_toArray).trans ((dj _).trans (gL _ _))) ?_;exact bX M
end
section
open Go.RowKit Go.a2 Go.Proofs Go.Proofs.Tryz
theorem zz{a b:Value}{l k:List UInt8}{r:Bool}{w0:World}(bm:Bytes w0 a l)(ak:Bytes w0 b k)(au:l.length<=35184372088832)(h:decide (l=k)=r):bH prog 19 [a,b] w0 (.bool r):=h▸Nl bm ak au
theorem EW{w:World}{bv:Value}{bl:List UInt8}(h:Bytes w bv bl):Bytes w (e2 1 bv (bl.length-32) bl.length) (bl.drop (bl.length-32)):=by
 have:=Bytes.cut (bl.length-32) bl.length h (Nat.sub_le _ _) (Nat.le_refl _)
 rwa [List.take_of_length_le (by rw[List.length_drop];omega)]at this
theorem KW{X:fB}{key:List UInt8}{aD bv:Value}{aT bl:List UInt8}{e n:Int}{w0:World}(ad:(gP X key).ok w0)(ab:w0.heap[1]? =some (.cells (a7 bt).toArray 243))(cc:Bytes w0 aD aT)(ak:Bytes w0 bv bl)(eG:aT.length<=1048576)(au:bl.length<=1048576):bH prog 200 [ai X.g 0,aa e,aa n,aD,e2 1 bv 0 (bl.length-32)] w0 (.agg (ao (gF key e n aT (bl.take (bl.length-32)))).toArray):=KX ad ab cc (xi ak) eG (Nat.le_trans (by rw[List.length_take];omega) au)
theorem N8{R:n2}{ks:List UInt8}{w0:World}(ad:(hg R).ok w0)(hp:R.ps.map (·.2)=iM ks 44)(aI:ks.length=176){bv:Value}{bl:List UInt8}{e n:Int}(tm:Bytes w0 bv bl)(au:bl.length<=1048576):aY prog 201 [ai R.g 0,aa e,aa n,e2 1 bv 0 (bl.length-32)] w0 [] (fun v:Value=>v) (fun v=>[.bytes 5 v (gW ks e n (bl.take (bl.length-32)))]) (fun _=>True):=D8 ad hp aI (xi tm) (Nat.le_trans (by rw[List.length_take];omega) au)
def uN(g:Nat)(X:fB)(key:List UInt8):List az:=[.bb g (.cells #[ai X.g 0,.pointer none] 106),gP X key]
def bI(g:Nat)(X:fB)(key:List UInt8):az:=az.all (uN g X key)
section
variable{g:Nat}{X:fB}{key:List UInt8}{w w':World}
theorem rB(h:(bI g X key).ok w):w.heap[g]? =some (.cells #[ai X.g 0,.pointer none] 106):=h.1 _ (List.mem_of_getElem? (l:=uN g X key) (i:=0) rfl)
theorem xh(h:(bI g X key).ok w):(gP X key).ok w:=h.1 _ (List.mem_of_getElem? (l:=uN g X key) (i:=1) rfl)
theorem PZ(h:(bI g X key).ok w){q:Nat}(al:q∈(bI g X key).et):q<w.heap.size:=by
 obtain⟨e,he,hb⟩:=az.kq.1 al;simp only[uN,List.mem_cons,List.not_mem_nil,or_false]at he;rcases he with rfl|rfl
 ·obtain rfl:q=g:=by simpa [az.bb]using hb
  exact(Array.getElem?_eq_some_iff.1 (rB h)).1
 ·exact EA (xh h) hb
theorem PY{F:Nat->Prop}(h:(bI g X key).ok w)(H:gI F w w')(cG:∀q∈(bI g X key).et,¬F q):(bI g X key).ok w':=(bI g X key).pS w w' (fun q bE=>H.block q (PZ h bE) (cG q bE)) h
theorem s5(h:(bI g X key).ok w)(H:gI (aS []) w w'):(bI g X key).ok w':=PY h H fun _ _=>gQ
end
theorem VC{X:fB}{key:List UInt8}{aD bv:Value}{aT bl:List UInt8}{e n:Int}{w0:World}(ad:(gP X key).ok w0)(ab:w0.heap[1]? =some (.cells (a7 bt).toArray 243))(cc:Bytes w0 aD aT)(ak:Bytes w0 bv bl)(eG:aT.length<=1048576)(au:bl.length<=1048576)(hp:¬hX e n):aY prog 197 [ai X.g 0,aa e,aa n,aD,bv] w0 [] (fun v:Value=>v) (fun v=>[.bytes 5 v (hB key e n aT bl)]) (fun _=>True):=by
 refine enter (n:=36) func197 U U U ?_;intro fr E;have M:=Mem.begin (Φ:=fun w'=>(gP X key).ok w'/\w'.heap[1]? =some (.cells (a7 bt).toArray 243)/\Bytes w' aD aT/\Bytes w' bv bl) (Has.nil w0) (fun w' h=>⟨rz ad h,fc ab h,cc.bU h,ak.bU h⟩);refine aV E<|bo M 3 U (ar U U T.td) (tK (decide_eq_false hp)) fun w M=>ah (v:=.bool _) 0 U U<|aU 2 U fun fr E=>?_;refine bi E U U ?_;have M:=M.jg 5;exact⟨_,U,M.fin (outs:=[.bytes 5 _ (hB key e n aT bl)]) ((congrArg (fun q=>[az.bytes 5 (.slice none 0 0) q]) (I4 hp))▸ .cons_cons _ (List.nil_sublist _)) trivial⟩
theorem VD{X:fB}{key:List UInt8}{aD bv:Value}{aT bl:List UInt8}{e n:Int}{w0:World}(ad:(gP X key).ok w0)(ab:w0.heap[1]? =some (.cells (a7 bt).toArray 243))(cc:Bytes w0 aD aT)(ak:Bytes w0 bv bl)(eG:aT.length<=1048576)(au:bl.length<=1048576)(hp:hX e n):aY prog 197 [ai X.g 0,aa e,aa n,aD,bv] w0 [] (fun v:Value=>v) (fun v=>[.bytes 5 v (hB key e n aT bl)]) (fun _=>True):=by
 refine enter (n:=36) func197 U U U ?_;intro fr E;have M:=Mem.begin (Φ:=fun w'=>(gP X key).ok w'/\w'.heap[1]? =some (.cells (a7 bt).toArray 243)/\Bytes w' aD aT/\Bytes w' bv bl) (Has.nil w0) (fun w' h=>⟨rz ad h,fc ab h,cc.bU h,ak.bU h⟩);refine aV E<|bo M 3 U (ar U U T.td) (tK (decide_eq_true hp)) fun w M=>ah (v:=.bool _) 0 U U<|ah (v:=ai X.R.g 0) 4 U (aE U U T.H4 (w4 M.fact.1) U)<|cP M 3 U (ar U U T.FJ) (D8 (zR M.fact.1) (EC M.fact.1) (qQ (tu key) 40) M.fact.2.2.2 au) U fun uk w _ M=>bo M 6 U (ar U U T.AD) (KX M.fact.1 M.fact.2.1 M.fact.2.2.1 (M.bytes 0 U) eG (by rw[sH];exact au)) fun w M=>bh (ob:=.cells _ 39) (fun g=>ai g 0) M 0 U (bT U T.gH) fun aZ w M=>bj (i:=0) (cs':=(ao (gF key e n aT (gW (aX (gp key) 40) e n bl))).toArray) M 0 U U (cB (vs:=(ao (gF key e n aT (gW (aX (gp key) 40) e n bl))).toArray) U U U T.fF ((List.size_toArray).trans ((dj _).trans (gL _ _))) (M.row (i:=0) U) (rfl) (fun v aD=>c0 _ v aD)) U fun w M=>bw 0 U fun fr E=>?_;refine(iQ (B:=T.JR) (Vs:=(cV w.heap.size (fun v=>[az.bytes 5 v []]) Value.xl:: .af uk::cV w.heap.size (fun v=>[az.bytes 5 v (gW (aX (gp key) 40) e n bl)]) (fun _=>True):: .af (.slice (some ⟨aZ,0,none⟩) 32 32)::cV w.heap.size (fun v=>[az.row 5 1 v ((gW (aX (gp key) 40) e n bl).length+32) (ao (gW (aX (gp key) 40) e n bl)++ao (gF key e n aT (gW (aX (gp key) 40) e n bl)))]) (fun _=>True)::cV w.heap.size (fun v=>[az.row 5 1 v ((gW (aX (gp key) 40) e n bl).length+32) (ao (gW (aX (gp key) 40) e n bl)++ao (gF key e n aT (gW (aX (gp key) 40) e n bl)))]) (fun _=>True)::[])) (wV 4 ((gW (aX (gp key) 40) e n bl).length) w.drew) T.Yb E T.mixed T.Ya U (On U ⟨lU.row U,lU.exact,lU.row (by simp),lU.exact,lU.own,lU.own,ay⟩) ⟨wE (h3 U U (fun x w ad ab=>⟨U,U,U,Ff ad.size U T.aG T.Gk⟩)) U,
   wE (aw U U) U,
   wE (h3 U U (fun x w ad ab=>⟨U,U,U,El ad.size U U U U U T.aG T.aG T.eh T.ef (ab 0 U) ((M.aQ ad).bytes 1 U) (by rw[sH];omega)⟩)) U,
   wE (aC U U (fun x w ad ab=>lQ (g:=_) (cs:= #[]) (T:=0) (fr:=(0,0)) U U T.iB T.bf)) U,
   P9 (N:=(gW (aX (gp key) 40) e n bl).length) U U U U U T.aG T.aG T.eh T.ef (c0 _) (by rw[sH];omega) (fun x w ad ab=>⟨_,_,U,U,U,U,U,ab 2 U,nw ((M.aQ ad).row (i:=0) U) (gL _ _) aN⟩),
   wE (jd U U (fun x w ad ab=>⟨_,_,U,U,U,run_assign U U,bd.refl _,ab 4 U⟩)) U,ay⟩ ?_)
 intro x fr w ⟨b,ak,cX⟩ ab E;have M:=M.jb ((bd.drew _).trans cX) (ab 5 aN).1 (ab 5 aN).2.1;refine cm E<|aU 0 U fun fr E=>?_;refine bi E U U ?_;have M:=M.as (L':=.bytes 5 _ (hB key e n aT bl)::_) (by rw[Cu hp];exact congrArg (fun q=>q::_) ((congrArg (fun k=>az.row 5 1 _ (_+k) _) (gL _ _).symm).trans yF));exact⟨_,U,M.fin (.cons_cons _ (List.nil_sublist _)) trivial⟩
theorem Vw{X:fB}{key:List UInt8}{aD bv:Value}{aT bl:List UInt8}{e n:Int}{w0:World}(ad:(gP X key).ok w0)(ab:w0.heap[1]? =some (.cells (a7 bt).toArray 243))(cc:Bytes w0 aD aT)(ak:Bytes w0 bv bl)(eG:aT.length<=1048576)(au:bl.length<=1048576)(hp:¬hX e n):bH prog 168 [ai X.g 0,aa e,aa n,aD,bv] w0 (.tuple #[.slice none 0 0,.bool false]):=by
 refine enter (n:=49) func168 U U U ?_;intro fr E;have M:=Mem.begin (Φ:=fun w'=>(gP X key).ok w'/\w'.heap[1]? =some (.cells (a7 bt).toArray 243)/\Bytes w' aD aT/\Bytes w' bv bl) (Has.nil w0) (fun w' h=>⟨rz ad h,fc ab h,cc.bU h,ak.bU h⟩);refine aV E<|ah 3 U (bx U U U U T.aG (M.fact.2.2.2))<|a1 (y:=(bl.length:Int)-32) 0 U U (br ae ae)<|bo M 3 U (ar U U T.td) (tK (decide_eq_false hp)) fun w M=>ah (v:=.bool _) 0 U U<|ah (v:=.bool _) 3 U U<|aU 3 U fun fr E=>?_;refine fN E U U U ?_;exact bX M
theorem Vy{X:fB}{key:List UInt8}{aD bv:Value}{aT bl:List UInt8}{e n:Int}{w0:World}(ad:(gP X key).ok w0)(ab:w0.heap[1]? =some (.cells (a7 bt).toArray 243))(cc:Bytes w0 aD aT)(ak:Bytes w0 bv bl)(eG:aT.length<=1048576)(au:bl.length<=1048576)(hp:hX e n)(aP:bl.length<32):bH prog 168 [ai X.g 0,aa e,aa n,aD,bv] w0 (.tuple #[.slice none 0 0,.bool false]):=by
 refine enter (n:=49) func168 U U U ?_;intro fr E;have M:=Mem.begin (Φ:=fun w'=>(gP X key).ok w'/\w'.heap[1]? =some (.cells (a7 bt).toArray 243)/\Bytes w' aD aT/\Bytes w' bv bl) (Has.nil w0) (fun w' h=>⟨rz ad h,fc ab h,cc.bU h,ak.bU h⟩);refine aV E<|ah 3 U (bx U U U U T.aG (M.fact.2.2.2))<|a1 (y:=(bl.length:Int)-32) 0 U U (br ae ae)<|bo M 3 U (ar U U T.td) (tK (decide_eq_true hp)) fun w M=>ah (v:=.bool _) 0 U U<|bD 2 U U ae<|ah (v:=.bool _) 0 U U<|aU 3 U fun fr E=>?_;refine fN E U U U ?_;exact bX M
theorem Vz{X:fB}{key:List UInt8}{aD bv:Value}{aT bl:List UInt8}{e n:Int}{w0:World}(ad:(gP X key).ok w0)(ab:w0.heap[1]? =some (.cells (a7 bt).toArray 243))(cc:Bytes w0 aD aT)(ak:Bytes w0 bv bl)(eG:aT.length<=1048576)(au:bl.length<=1048576)(hp:hX e n)(aP:32<=bl.length)(aM:¬gF key e n aT (bl.take (bl.length-32))=(bl.drop (bl.length-32))):bH prog 168 [ai X.g 0,aa e,aa n,aD,bv] w0 (.tuple #[.slice none 0 0,.bool false]):=by
 refine enter (n:=49) func168 U U U ?_;intro fr E;have M:=Mem.begin (Φ:=fun w'=>(gP X key).ok w'/\w'.heap[1]? =some (.cells (a7 bt).toArray 243)/\Bytes w' aD aT/\Bytes w' bv bl) (Has.nil w0) (fun w' h=>⟨rz ad h,fc ab h,cc.bU h,ak.bU h⟩);have iT:(List.take (bl.length-(bl.length-32)) (List.drop (bl.length-32) bl)).length=32:=by rw[List.length_take,List.length_drop];omega
 refine aV E<|ah 3 U (bx U U U U T.aG (M.fact.2.2.2))<|a1 (y:=((bl.length-32:Nat):Int)) 0 U U ((br ae ae).trans ae)<|bo M 3 U (ar U U T.td) (tK (decide_eq_true hp)) fun w M=>ah (v:=.bool _) 0 U U<|bs 2 U U ae<|ah (v:=.bool _) 0 U U<|ah (v:=e2 1 bv 0 (bl.length-32)) 7 U (ew (lo:=0) (hi:=(bl.length-32)) U (M.fact.2.2.2) U T.aG T.bf (rfl) (⟨_,_,U,U⟩) (Nat.zero_le _) ae)<|bo M 0 U (ar U U T.AD) (KW M.fact.1 M.fact.2.1 M.fact.2.2.1 M.fact.2.2.2 eG au) fun w M=>bh (ob:=.cells _ 39) (fun g=>ai g 0) M 0 U (bT U T.gH) fun aZ w M=>bj (i:=0) (cs':=(ao (gF key e n aT (bl.take (bl.length-32)))).toArray) M 0 U U (cB (vs:=(ao (gF key e n aT (bl.take (bl.length-32)))).toArray) U U U T.fF ((List.size_toArray).trans ((dj _).trans (gL _ _))) (M.row (i:=0) U) (rfl) (fun v aD=>c0 _ v aD)) U fun w M=>bw 0 U fun fr E=>?_;refine(dR (B:=T.CM) (Vs:=(.af (.slice (some ⟨aZ,0,none⟩) 32 32):: .af _:: .af _:: .af (e2 1 bv (bl.length-32) bl.length):: .af (.bool false):: .af (.bool _)::[])) T.JI E T.mixed T.JH U (ej.e6 U) ⟨aC U U (fun x w ad ab=>lQ (g:=_) (cs:= #[]) (T:=0) (fr:=(0,0)) U U T.iB T.bf),
   aw U U,
   aw U U,
   aC U U (fun x w ad ab=>ew (lo:=(bl.length-32)) (hi:=bl.length) U ((M.aQ ad).fact.2.2.2) U T.aG T.bf (⟨_,_,U,U⟩) (rfl) ae (Nat.le_refl _)),
   cE U U (fun x w ad ab=>⟨_,_,U,U,U,ar U U T.AA,(zz (nw ((M.aQ ad).row (i:=0) U) (gL _ _) aN) (EW (M.aQ ad).fact.2.2.2) (by rw[show(gF key e n aT (bl.take (bl.length-32))).length=32 from gL _ _];decide) (decide_eq_false aM)).ext⟩),
   aC U U (fun x w ad ab=>rfl),ay⟩ ?_)
 intro x fr w ad ab E;have M:=M.ext ad;refine cm E<|aU 3 U fun fr E=>?_;refine fN E U U U ?_;exact bX M
theorem Vx{X:fB}{key:List UInt8}{aD bv:Value}{aT bl:List UInt8}{e n:Int}{w0:World}(ad:(gP X key).ok w0)(ab:w0.heap[1]? =some (.cells (a7 bt).toArray 243))(cc:Bytes w0 aD aT)(ak:Bytes w0 bv bl)(eG:aT.length<=1048576)(au:bl.length<=1048576)(hp:hX e n)(aP:32<=bl.length)(aM:gF key e n aT (bl.take (bl.length-32))=(bl.drop (bl.length-32))):aY prog 168 [ai X.g 0,aa e,aa n,aD,bv] w0 [] (fun v:Value=>.tuple #[v,.bool true]) (fun v=>[.bytes 5 v (gW (aX (gp key) 40) e n (bl.take (bl.length-32)))]) (fun _=>True):=by
 refine enter (n:=49) func168 U U U ?_;intro fr E;have M:=Mem.begin (Φ:=fun w'=>(gP X key).ok w'/\w'.heap[1]? =some (.cells (a7 bt).toArray 243)/\Bytes w' aD aT/\Bytes w' bv bl) (Has.nil w0) (fun w' h=>⟨rz ad h,fc ab h,cc.bU h,ak.bU h⟩);have iT:(List.take (bl.length-(bl.length-32)) (List.drop (bl.length-32) bl)).length=32:=by rw[List.length_take,List.length_drop];omega
 refine aV E<|ah 3 U (bx U U U U T.aG (M.fact.2.2.2))<|a1 (y:=((bl.length-32:Nat):Int)) 0 U U ((br ae ae).trans ae)<|bo M 3 U (ar U U T.td) (tK (decide_eq_true hp)) fun w M=>ah (v:=.bool _) 0 U U<|bs 2 U U ae<|ah (v:=.bool _) 0 U U<|ah (v:=e2 1 bv 0 (bl.length-32)) 7 U (ew (lo:=0) (hi:=(bl.length-32)) U (M.fact.2.2.2) U T.aG T.bf (rfl) (⟨_,_,U,U⟩) (Nat.zero_le _) ae)<|bo M 0 U (ar U U T.AD) (KW M.fact.1 M.fact.2.1 M.fact.2.2.1 M.fact.2.2.2 eG au) fun w M=>bh (ob:=.cells _ 39) (fun g=>ai g 0) M 0 U (bT U T.gH) fun aZ w M=>bj (i:=0) (cs':=(ao (gF key e n aT (bl.take (bl.length-32)))).toArray) M 0 U U (cB (vs:=(ao (gF key e n aT (bl.take (bl.length-32)))).toArray) U U U T.fF ((List.size_toArray).trans ((dj _).trans (gL _ _))) (M.row (i:=0) U) (rfl) (fun v aD=>c0 _ v aD)) U fun w M=>bw 0 U fun fr E=>?_;refine(dR (B:=T.CM) (Vs:=(.af (.slice (some ⟨aZ,0,none⟩) 32 32):: .af _:: .af _:: .af (e2 1 bv (bl.length-32) bl.length):: .af (.bool true):: .af (.bool _)::[])) T.JI E T.mixed T.JH U (ej.e6 U) ⟨aC U U (fun x w ad ab=>lQ (g:=_) (cs:= #[]) (T:=0) (fr:=(0,0)) U U T.iB T.bf),
   aw U U,
   aw U U,
   aC U U (fun x w ad ab=>ew (lo:=(bl.length-32)) (hi:=bl.length) U ((M.aQ ad).fact.2.2.2) U T.aG T.bf (⟨_,_,U,U⟩) (rfl) ae (Nat.le_refl _)),
   cE U U (fun x w ad ab=>⟨_,_,U,U,U,ar U U T.AA,(zz (nw ((M.aQ ad).row (i:=0) U) (gL _ _) aN) (EW (M.aQ ad).fact.2.2.2) (by rw[show(gF key e n aT (bl.take (bl.length-32))).length=32 from gL _ _];decide) (decide_eq_true aM)).ext⟩),
   aC U U (fun x w ad ab=>rfl),ay⟩ ?_)
 intro x fr w ad ab E;have M:=M.ext ad;refine cm E<|bw 1 U fun fr E=>?_;refine(dR (B:=T.JJ) (Vs:=(.af _:: .af _:: .af (ai _ 0):: .af (ai X.R.g 0):: .af _:: .af _:: .af _:: .af _:: .af (e2 1 bv 0 (bl.length-32))::cV w.heap.size (fun v=>[.bytes 5 v (gW (aX (gp key) 40) e n (bl.take (bl.length-32)))]) (fun _=>True)::cV w.heap.size (fun v=>[.bytes 5 v (gW (aX (gp key) 40) e n (bl.take (bl.length-32)))]) (fun _=>True):: .af _::[])) T.XV E T.mixed T.XU U (fH.dF ⟨ay,ay,ay,ay,ay,ay,ay,ay,ay,cn.df,cn.df,ay,ay⟩) ⟨aw U U,
   aw U U,
   aw U U,
   aC U U (fun x w ad ab=>aE U U T.H4 (w4 (M.aQ ad).fact.1) U),
   aw U U,
   aw U U,
   aw U U,
   aw U U,
   aC U U (fun x w ad ab=>ew (lo:=0) (hi:=(bl.length-32)) U ((M.aQ ad).fact.2.2.2) U T.aG T.bf (rfl) (⟨_,_,U,U⟩) (Nat.zero_le _) ae),
   cE U U (fun x w ad ab=>⟨_,_,U,U,U,ar U U T.FJ,(N8 (zR (M.aQ ad).fact.1) (EC (M.aQ ad).fact.1) (qQ (tu key) 40) (M.aQ ad).fact.2.2.2 au).eN ad.size⟩),
   jd U U (fun x w ad ab=>⟨_,_,U,U,U,run_assign U U,bd.refl _,ab 9 U⟩),
   aw U U,ay⟩ ?_)
 intro x fr w ad ab E;have M:=M.jb ad (ab 10 aN).1 (ab 10 aN).2.1;refine cm E<|aU 0 U fun fr E=>?_;refine fN E U U U ?_;exact⟨_,U,M.fin (.cons_cons _ (List.nil_sublist _)) trivial⟩
theorem VE{X:fB}{key:List UInt8}{aD bv:Value}{aT bl:List UInt8}{e n:Int}{w0:World}(ad:(gP X key).ok w0)(ab:w0.heap[1]? =some (.cells (a7 bt).toArray 243))(cc:Bytes w0 aD aT)(ak:Bytes w0 bv bl)(eG:aT.length<=1048576)(au:bl.length<=1048576):aY prog 197 [ai X.g 0,aa e,aa n,aD,bv] w0 [] (fun v:Value=>v) (fun v=>[.bytes 5 v (hB key e n aT bl)]) (fun _=>True):=by
 by_cases hp:hX e n
 ·exact VD ad ab cc ak eG au hp
 ·exact VC ad ab cc ak eG au hp
theorem Vv{X:fB}{key:List UInt8}{aD bv:Value}{aT bl:List UInt8}{e n:Int}{w0:World}(ad:(gP X key).ok w0)(ab:w0.heap[1]? =some (.cells (a7 bt).toArray 243))(cc:Bytes w0 aD aT)(ak:Bytes w0 bv bl)(eG:aT.length<=1048576)(au:bl.length<=1048576)(aF:kr key e n aT bl=none):bH prog 168 [ai X.g 0,aa e,aa n,aD,bv] w0 (.tuple #[.slice none 0 0,.bool false]):=by
 unfold kr at aF;by_cases hp:hX e n
 ·by_cases aP:bl.length<32
  ·exact Vy ad ab cc ak eG au hp aP
  ·by_cases aM:gF key e n aT (bl.take (bl.length-32))=(bl.drop (bl.length-32))
   ·rw[if_pos (show uz key e n aT bl from⟨hp,by omega,aM⟩)]at aF;cases aF
   ·exact Vz ad ab cc ak eG au hp ae aM
 ·exact Vw ad ab cc ak eG au hp
theorem VA{X:fB}{key:List UInt8}{aD bv:Value}{aT bl:List UInt8}{e n:Int}{w0:World}(ad:(gP X key).ok w0)(ab:w0.heap[1]? =some (.cells (a7 bt).toArray 243))(cc:Bytes w0 aD aT)(ak:Bytes w0 bv bl)(eG:aT.length<=1048576)(au:bl.length<=1048576){q:List UInt8}(aF:kr key e n aT bl=some q):aY prog 168 [ai X.g 0,aa e,aa n,aD,bv] w0 [] (fun v:Value=>.tuple #[v,.bool true]) (fun v=>[.bytes 5 v q]) (fun _=>True):=by
 unfold kr at aF;split at aF
 ·rename_i h;obtain rfl:=Option.some.inj aF;exact Vx ad ab cc ak eG au h.1 h.2.1 h.2.2
 ·cases aF
theorem LK{bv:Value}{key:List UInt8}{w0:World}(ak:Bytes w0 bv key)(ab:w0.heap[1]? =some (.cells (a7 bt).toArray 243))(au:key.length<=1099511627776):aY prog 12 [bv] w0 [] (fun q:Nat×fB=>ai q.1 0) (fun q=>[bI q.1 q.2 key]) (fun _=>True):=by
 refine enter (n:=7) func12 U U U ?_;intro fr E;have M:=Mem.begin (Φ:=fun w'=>Bytes w' bv key/\w'.heap[1]? =some (.cells (a7 bt).toArray 243)) (Has.nil w0) (fun w' h=>⟨ak.bU h,fc ab h⟩);refine aV E<|cP M 2 U (ar U U T.Q4) (OC M.fact.1 M.fact.2 au) U fun X w _ M=>ah (v:=.agg ([_,.pointer none]).toArray) 0 U (dl (vs:=[_]) (us:=[_,.pointer none]) U U T.ZQ T.aaC U U U U)<|bh (ob:=.cells #[_,_] 106) (fun g=>ai g 0) M 0 U (cS (cs:= #[_,_]) U U) fun aZ w M=>aU 1 U fun fr E=>?_;refine bi E U U ?_;have M:=M.aH 1 rfl;have M:=M.aH 1 rfl;exact⟨(aZ,X),U,(Mem.pack (A:=uN aZ X key) M).fin (outs:=[bI aZ X key]) (.cons_cons _ (List.nil_sublist _)) trivial⟩
theorem PI{g:Nat}{X:fB}{key:List UInt8}{aD bv:Value}{aT bl:List UInt8}{e n:Int}{w0:World}(ad:(bI g X key).ok w0)(ab:w0.heap[1]? =some (.cells (a7 bt).toArray 243))(cc:Bytes w0 aD aT)(ak:Bytes w0 bv bl)(eG:aT.length<=1048576)(au:bl.length<=1048576):aY prog 165 [ai g 0,aa e,aa n,aD,bv] w0 [] (fun v:Value=>v) (fun v=>[.bytes 5 v (hB key e n aT bl)]) (fun _=>True):=by
 refine enter (n:=34) func165 U U U ?_;intro fr E;have M:=Mem.begin (Φ:=fun w'=>(bI g X key).ok w'/\w'.heap[1]? =some (.cells (a7 bt).toArray 243)/\Bytes w' aD aT/\Bytes w' bv bl) (Has.nil w0) (fun w' h=>⟨s5 ad h,fc ab h,cc.bU h,ak.bU h⟩);refine aV E<|ah (v:=ai X.g 0) 4 U (aE U U T.tB (rB M.fact.1) U)<|ah (v:=.bool true) 0 U (Ch U U U T.BQ U)<|ah (v:=ai X.g 0) 4 U (aE U U T.tB (rB M.fact.1) U)<|cP M 4 U (ar U U T.QL) (VE (xh M.fact.1) M.fact.2.1 M.fact.2.2.1 M.fact.2.2.2 eG au) U fun v w _ M=>aU 1 U fun fr E=>?_;refine bi E U U ?_;exact⟨_,U,M.fin (.cons_cons _ (List.nil_sublist _)) trivial⟩
theorem PG{g:Nat}{X:fB}{key:List UInt8}{aD bv:Value}{aT bl:List UInt8}{e n:Int}{w0:World}(ad:(bI g X key).ok w0)(ab:w0.heap[1]? =some (.cells (a7 bt).toArray 243))(cc:Bytes w0 aD aT)(ak:Bytes w0 bv bl)(eG:aT.length<=1048576)(au:bl.length<=1048576)(aF:kr key e n aT bl=none):bH prog 116 [ai g 0,aa e,aa n,aD,bv] w0 (.tuple #[.slice none 0 0,.bool false]):=by
 refine enter (n:=39) func116 U U U ?_;intro fr E;have M:=Mem.begin (Φ:=fun w'=>(bI g X key).ok w'/\w'.heap[1]? =some (.cells (a7 bt).toArray 243)/\Bytes w' aD aT/\Bytes w' bv bl) (Has.nil w0) (fun w' h=>⟨s5 ad h,fc ab h,cc.bU h,ak.bU h⟩);refine aV E<|ah (v:=ai X.g 0) 5 U (aE U U T.tB (rB M.fact.1) U)<|ah (v:=.bool true) 0 U (Ch U U U T.BQ U)<|ah (v:=ai X.g 0) 4 U (aE U U T.tB (rB M.fact.1) U)<|bo M 4 U (ar U U T.FD) (Vv (xh M.fact.1) M.fact.2.1 M.fact.2.2.1 M.fact.2.2.2 eG au aF) fun w M=>aU 4 U fun fr E=>?_;refine fN E U U U ?_;exact bX M
theorem PH{g:Nat}{X:fB}{key:List UInt8}{aD bv:Value}{aT bl:List UInt8}{e n:Int}{w0:World}(ad:(bI g X key).ok w0)(ab:w0.heap[1]? =some (.cells (a7 bt).toArray 243))(cc:Bytes w0 aD aT)(ak:Bytes w0 bv bl)(eG:aT.length<=1048576)(au:bl.length<=1048576){q:List UInt8}(aF:kr key e n aT bl=some q):aY prog 116 [ai g 0,aa e,aa n,aD,bv] w0 [] (fun v:Value=>.tuple #[v,.bool true]) (fun v=>[.bytes 5 v q]) (fun _=>True):=by
 refine enter (n:=39) func116 U U U ?_;intro fr E;have M:=Mem.begin (Φ:=fun w'=>(bI g X key).ok w'/\w'.heap[1]? =some (.cells (a7 bt).toArray 243)/\Bytes w' aD aT/\Bytes w' bv bl) (Has.nil w0) (fun w' h=>⟨s5 ad h,fc ab h,cc.bU h,ak.bU h⟩);refine aV E<|ah (v:=ai X.g 0) 5 U (aE U U T.tB (rB M.fact.1) U)<|ah (v:=.bool true) 0 U (Ch U U U T.BQ U)<|ah (v:=ai X.g 0) 4 U (aE U U T.tB (rB M.fact.1) U)<|cP M 4 U (ar U U T.FD) (VA (xh M.fact.1) M.fact.2.1 M.fact.2.2.1 M.fact.2.2.2 eG au aF) U fun v w _ M=>aU 4 U fun fr E=>?_;refine fN E U U U ?_;exact⟨_,U,M.fin (.cons_cons _ (List.nil_sublist _)) trivial⟩
end
section
open Go.RowKit Go.a2 Go.Proofs Go.Proofs.Tryz
def iK(key:List UInt8)(kd e n at':Int)(pl:List UInt8):List UInt8:=[UInt8.ofInt kd]++aO e++aO n++hB key e n (dA kd at') pl
theorem I3(key:List UInt8)(e n:Int)(h p:List UInt8):(hB key e n h p).length<=p.length+32:=by
 unfold hB;split
 ·simp[sH,gF,gL]
 ·simp
def k2(key:List UInt8)(kd at':Int)(l:List UInt8):Option (Int×Int×List UInt8):=
 if¬l.length<17/\¬1024<l.length/\¬kd=0/\kindOf l=kd/\gZ (ey l) (eJ l) at' then(kr key (ey l) (eJ l) (dA kd at') (l.drop 17)).map fun q=>(ey l,eJ l,q)else none
theorem I8{key:List UInt8}{kd at' e n:Int}{l q:List UInt8}(h:k2 key kd at' l=some (e,n,q)):q.length<=1024:=by
 unfold k2 at h;split at h
 ·rename_i aJ;rw[Option.map_eq_some_iff]at h;obtain⟨fV,aj,an⟩:=h;simp only[Prod.mk.injEq]at an;obtain⟨_,_,rfl⟩:=an;unfold kr at aj;split at aj
  ·injection aj with aj;subst aj;rw[sH];have:=aJ.2.1;simp;omega
  ·cases aj
 ·cases h
theorem Pv{gq:Nat}{kd e n at':Int}{p:Value}{pl:List UInt8}{w0:World}(hp:Bytes w0 p pl)(aj:¬kd<1)(an:¬5<kd)(aB:¬gZ e n at'):bH prog 90 [.iface 33 (ai gq 0),.agg #[aa kd,aa e,aa n,aa at',p]] w0 (.tuple #[.slice none 0 0,aa 7]):=by
 refine enter (n:=56) func90 U U U ?_;intro fr E;have M:=Mem.begin (Φ:=fun w'=>Bytes w' p pl) (Has.nil w0) (fun w' h=>hp.bU h);refine aV E<|bh (ob:=.cells (#[aa kd,aa e,aa n,aa at',p]) 116) (fun g=>ai g 0) M 0 U (cS (cs:=(#[aa kd,aa e,aa n,aa at',p])) U U) fun aZ w M=>ah (v:=aa _) 3 U (aE U U T.bc (M.row (i:=0) U) U)<|bs 0 U U aj<|ah (v:=aa _) 3 U (aE U U T.bc (M.row (i:=0) U) U)<|bs 0 U U an<|ah (v:=aa _) 3 U (aE U U T.bc (M.row (i:=0) U) U)<|ah (v:=aa _) 1 U (aE U U T.bc (M.row (i:=0) U) U)<|ah (v:=aa _) 1 U (aE U U T.bc (M.row (i:=0) U) U)<|bo M 0 U (ar U U T.ol) (oI false (decide_eq_false aB)) fun w M=>ah (v:=.bool _) 0 U U<|aU 4 U fun fr E=>?_;refine fN E U U U ?_;exact bX M
theorem Pu{B:fz}{key:List UInt8}{w0:World}(ad:(bp B key).ok w0)(ab:w0.heap[0]? =some (.cells (a7 bt).toArray 243)){kd e n at':Int}{p:Value}{pl:List UInt8}(hp:Bytes w0 p pl)(aj:¬kd<1)(an:¬5<kd)(aB:gZ e n at')(be:¬975<pl.length):aY prog 90 [.iface 33 (ai B.eE 0),.agg #[aa kd,aa e,aa n,aa at',p]] w0 [] (fun v:Value=>.tuple #[v,aa 0]) (fun v=>[az.bytes 5 v (iK key kd e n at' pl)]) (fun _=>True):=by
 refine enter (n:=56) func90 U U U ?_;intro fr E;have M:=Mem.begin (Φ:=fun w'=>(bp B key).ok w'/\w'.heap[0]? =some (.cells (a7 bt).toArray 243)/\Bytes w' p pl) (Has.nil w0) (fun w' h=>⟨oa ad h,fc ab h,hp.bU h⟩);refine aV E<|bh (ob:=.cells (#[aa kd,aa e,aa n,aa at',p]) 116) (fun g=>ai g 0) M 0 U (cS (cs:=(#[aa kd,aa e,aa n,aa at',p])) U U) fun aZ w M=>ah (v:=aa _) 3 U (aE U U T.bc (M.row (i:=0) U) U)<|bs 0 U U aj<|ah (v:=aa _) 3 U (aE U U T.bc (M.row (i:=0) U) U)<|bs 0 U U an<|ah (v:=aa _) 3 U (aE U U T.bc (M.row (i:=0) U) U)<|ah (v:=aa _) 1 U (aE U U T.bc (M.row (i:=0) U) U)<|ah (v:=aa _) 1 U (aE U U T.bc (M.row (i:=0) U) U)<|bo M 0 U (ar U U T.ol) (oI true (decide_eq_true aB)) fun w M=>ah (v:=.bool _) 0 U U<|ah 3 U (aE U U T.ec (M.row (i:=0) U) U)<|ah 0 U (bx U U U U T.aG M.fact.2.2)<|bs 0 U U ae<|bw 2 U fun fr E=>?_;refine(dR (B:=T.C4) (Vs:=(.af (ai _ 0):: .af (aa _):: .af (.int _ (((UInt8.ofInt kd).toNat:Int)))::(.rel fun w v=>Bytes w v [UInt8.ofInt kd]/\∀g,v.ownBlock=some g->0<=g):: .af (ai _ 1):: .af (aa _)::cV w.heap.size (fun v=>[az.bytes 5 v ([UInt8.ofInt kd]++aO e)]) (fun _=>True):: .af (ai _ 2):: .af (aa _)::cV w.heap.size (fun v=>[az.bytes 5 v ([UInt8.ofInt kd]++aO e++aO n)]) (fun _=>True)::cV w.heap.size (fun v=>[az.bytes 5 v ([UInt8.ofInt kd]++aO e++aO n)]) (fun _=>True)::[])) T.KQ E T.mixed T.KP U (fH.dF ⟨ay,ay,ay,(fun w w' v ad h=>⟨Reads.ext h.1 ad,h.2⟩),ay,ay,cn.df,ay,ay,cn.df,cn.df,ay⟩) ⟨aw U U,
   aC U U (fun x w ad ab=>aE U U T.bc ((M.aQ ad).row (i:=0) U) U),
   aC U U (fun x w ad ab=>num U ((iH kd).symm)),
   h3 U U (fun x w ad ab=>⟨U,U,U,zS (Nat.zero_le _) U U T.aG T.bf T.gO U⟩),
   aw U U,
   aC U U (fun x w ad ab=>aE U U T.bc ((M.aQ ad).row (i:=0) U) U),
   cE U U (fun x w ad ab=>⟨_,_,U,U,U,ar U U T.nB,(np e (ab 3 U).1 (by simp)).eN ad.size⟩),
   aw U U,
   aC U U (fun x w ad ab=>aE U U T.bc ((M.aQ ad).row (i:=0) U) U),
   cE U U (fun x w ad ab=>⟨_,_,U,U,U,ar U U T.nB,(np n ((ab 6 U).1.reads 0 U) (by simp[aO])).eN ad.size⟩),
   jd U U (fun x w ad ab=>⟨_,_,U,U,U,run_assign U U,bd.refl _,ab 9 U⟩),ay⟩ ?_)
 intro x fr w ad ab E;have M:=M.jb ad (ab 10 aN).1 (ab 10 aN).2.1;obtain⟨ie,qE⟩:∃ie,ie=x 10:=⟨_,rfl⟩
 have E:=Env.gD (t:=6) (v:=ie) E rfl qE.symm;rw[<-qE]at M;have M:Mem _ _ ([az.bytes 5 ie ([UInt8.ofInt kd]++aO e++aO n)]++_) _ _:=M;refine cm E<|bw 0 U fun fr E=>?_;refine(iQ (B:=T.C5) (Vs:=(.af _:: .af _:: .af (ai _ 1):: .af (aa _):: .af (ai _ 2):: .af (aa _):: .af (ai _ 0):: .af (aa _):: .af (ai _ 3):: .af (aa _)::cV w.heap.size (fun v=>[az.bytes 5 v (dA kd at')]) (fun _=>True):: .af (ai _ 4):: .af _:: .af (.func (.method "Seal") #[.iface 33 (ai B.eE 0)] #[]):: .af (.func (.method "Seal") #[.iface 33 (ai B.eE 0)] #[]):: .af _::cV w.heap.size (fun v=>[az.bytes 5 v (hB key e n (dA kd at') pl)]) (fun _=>True)::cL w.heap.size ([az.bytes 5 ie ([UInt8.ofInt kd]++aO e++aO n)]) (fun v:Value=>v) (fun bR:Value=>[az.row 5 1 bR (([UInt8.ofInt kd]++aO e++aO n).length+(hB key e n (dA kd at') pl).length) (ao ([UInt8.ofInt kd]++aO e++aO n)++ao (hB key e n (dA kd at') pl))]) (fun _=>True)::cL w.heap.size ([az.bytes 5 ie ([UInt8.ofInt kd]++aO e++aO n)]) (fun v:Value=>v) ((fun bR:Value=>[az.row 5 1 bR (([UInt8.ofInt kd]++aO e++aO n).length+(hB key e n (dA kd at') pl).length) (ao ([UInt8.ofInt kd]++aO e++aO n)++ao (hB key e n (dA kd at') pl))])) (fun _=>True):: .af _::[])) (fs (ga 17 ([az.bytes 5 ie ([UInt8.ofInt kd]++aO e++aO n)])) w.drew) T.KS E T.mixed T.KR U ?_ ⟨b5 U U M (fun i g h=>h.2),
   b5 U U M (fun i g h=>h.2),
   b5 U U M (fun i g h=>h.2),
   bY U U M (fun i g h=>h.2) (fun x w' aA aL ab=>aE U U T.bc (aA.row (i:=0) U) U),
   b5 U U M (fun i g h=>h.2),
   bY U U M (fun i g h=>h.2) (fun x w' aA aL ab=>aE U U T.bc (aA.row (i:=0) U) U),
   b5 U U M (fun i g h=>h.2),
   bY U U M (fun i g h=>h.2) (fun x w' aA aL ab=>aE U U T.bc (aA.row (i:=0) U) U),
   b5 U U M (fun i g h=>h.2),
   bY U U M (fun i g h=>h.2) (fun x w' aA aL ab=>aE U U T.bc (aA.row (i:=0) U) U),
   nC U U M (fun i g h=>h.2) (fun x w' aA aL ab=>⟨_,_,U,U,U,ar U U T.ta,(tq kd at' _).eN aL⟩),
   b5 U U M (fun i g h=>h.2),
   bY U U M (fun i g h=>h.2) (fun x w' aA aL ab=>aE U U T.ec (aA.row (i:=0) U) U),
   bY U U M (fun i g h=>h.2) (fun x w' aA aL ab=>tN U U),
   bY U U M (fun i g h=>h.2) (fun x w' aA aL ab=>tP U U T.Hz),
   b5 U U M (fun i g h=>h.2),
   nC U U M (fun i g h=>h.2) (fun x w' aA aL ab=>⟨_,_,U,U,U,tM U U T.Hz T.QU,(OM (e:=e) (n:=n) aA.fact.1 aA.fact.2.1 ((ab 10 U).1.reads 0 U) aA.fact.2.2 (by simp[dA,aO]) ae).eN aL⟩),
   m0 (y:=undef) U U M U U U T.aG T.aG T.eh T.ef aN (c0 _) (by have:=I3 key e n (dA kd at') pl;simp[aO];omega) (fun x w' ab=>⟨U,U,U,U,_,U,(ab 16 U).1.reads 0 U⟩),
   lZ (j:=17) U U U U (fun x w y bn=>⟨U,U,U,ku U bn⟩),
   b5 U U M (fun i g h=>h.2),ay⟩ ?_)
 ·exact hJ U ((aK (aK (aK (aK (aK (aK (aK (aK (aK (aK (jq (cJ.df (fun g h=>M.gA g h)) (aK (aK (aK (aK (aK (jq (cJ.df (fun g h=>M.gA g h)) (fK U cJ.fJ (fK U cJ.fJ (aK hH)))))))))))))))))))))
 intro x fr w ⟨b,ak,cX⟩ ab E;obtain⟨r,bn, -,M⟩:=M.behind (val:=fun v:Value=>v) (outs:=(fun bR:Value=>[az.row 5 1 bR (([UInt8.ofInt kd]++aO e++aO n).length+(hB key e n (dA kd at') pl).length) (ao ([UInt8.ofInt kd]++aO e++aO n)++ao (hB key e n (dA kd at') pl))])) (p:=fun _=>True) cX (ab 18 aN);have E:=Env.gD (t:=4) E rfl bn;refine cm E<|aU 0 U fun fr E=>?_;refine fN E U U U ?_;have M:=M.as (L':=.bytes 5 r (iK key kd e n at' pl)::_) (congrArg (fun q=>q::_) yF);exact⟨r,U,M.fin (.cons_cons _ (List.nil_sublist _)) trivial⟩
theorem Pt{gq:Nat}{kd at':Int}{b:Value}{l:List UInt8}{w0:World}(ak:Bytes w0 b l)(aj:l.length<17):bH prog 110 [.iface 33 (ai gq 0),aa kd,aa at',b] w0 (.tuple #[.agg #[aa 0,aa 0,aa 0,aa 0,.slice none 0 0],aa 2]):=by
 refine enter (n:=75) func110 U U U ?_;intro fr E;have M:=Mem.begin (Φ:=fun w'=>Bytes w' b l) (Has.nil w0) (fun w' h=>ak.bU h);refine aV E<|bh (ob:=.cells #[_,_,_,_,_] 116) (fun g=>ai g 0) M 0 U (bT U T.fG) fun aZ w M=>ah 2 U (bx U U U U T.aG M.fact)<|bD 0 U U ae<|ah (v:=.agg ([aa 0,aa 0,aa 0,aa 0,.slice none 0 0]).toArray) 2 U (dl (vs:=[]) (us:=[aa 0,aa 0,aa 0,aa 0,.slice none 0 0]) U U T.g5 T.g6 U U U U)<|bj (i:=0) (cs':= #[_,_,_,_,_]) M 0 U U (dr (vs:= #[_,_,_,_,_]) U U U T.fE U (M.row (i:=0) U) U U U) U fun w M=>aU 1 U fun fr E=>?_;refine fW E U U U T.ib (M.row (i:=0) U) (rfl) ?_;exact bX M
theorem Pp{gq:Nat}{kd at':Int}{b:Value}{l:List UInt8}{w0:World}(ak:Bytes w0 b l)(aj:¬l.length<17)(an:1024<l.length):bH prog 110 [.iface 33 (ai gq 0),aa kd,aa at',b] w0 (.tuple #[.agg #[aa 0,aa 0,aa 0,aa 0,.slice none 0 0],aa 3]):=by
 refine enter (n:=75) func110 U U U ?_;intro fr E;have M:=Mem.begin (Φ:=fun w'=>Bytes w' b l) (Has.nil w0) (fun w' h=>ak.bU h);refine aV E<|bh (ob:=.cells #[_,_,_,_,_] 116) (fun g=>ai g 0) M 0 U (bT U T.fG) fun aZ w M=>ah 2 U (bx U U U U T.aG M.fact)<|bs 0 U U ae<|ah 3 U (bx U U U U T.aG M.fact)<|bD 0 U U ae<|ah (v:=.agg ([aa 0,aa 0,aa 0,aa 0,.slice none 0 0]).toArray) 2 U (dl (vs:=[]) (us:=[aa 0,aa 0,aa 0,aa 0,.slice none 0 0]) U U T.g5 T.g6 U U U U)<|bj (i:=0) (cs':= #[_,_,_,_,_]) M 0 U U (dr (vs:= #[_,_,_,_,_]) U U U T.fE U (M.row (i:=0) U) U U U) U fun w M=>aU 1 U fun fr E=>?_;refine fW E U U U T.ib (M.row (i:=0) U) (rfl) ?_;exact bX M
theorem Po{gq:Nat}{kd at':Int}{b:Value}{l:List UInt8}{w0:World}(ak:Bytes w0 b l)(aj:¬l.length<17)(an:¬1024<l.length)(aB:kd=0):bH prog 110 [.iface 33 (ai gq 0),aa kd,aa at',b] w0 (.tuple #[.agg #[aa 0,aa 0,aa 0,aa 0,.slice none 0 0],aa 5]):=by
 refine enter (n:=75) func110 U U U ?_;intro fr E;have M:=Mem.begin (Φ:=fun w'=>Bytes w' b l) (Has.nil w0) (fun w' h=>ak.bU h);refine aV E<|bh (ob:=.cells #[_,_,_,_,_] 116) (fun g=>ai g 0) M 0 U (bT U T.fG) fun aZ w M=>ah 2 U (bx U U U U T.aG M.fact)<|bs 0 U U ae<|ah 3 U (bx U U U U T.aG M.fact)<|bs 0 U U ae<|ei 3 U U (decide_eq_true (aB))<|ah (v:=.bool _) 5 U U<|ah (v:=.agg ([aa 0,aa 0,aa 0,aa 0,.slice none 0 0]).toArray) 2 U (dl (vs:=[]) (us:=[aa 0,aa 0,aa 0,aa 0,.slice none 0 0]) U U T.g5 T.g6 U U U U)<|bj (i:=0) (cs':= #[_,_,_,_,_]) M 0 U U (dr (vs:= #[_,_,_,_,_]) U U U T.fE U (M.row (i:=0) U) U U U) U fun w M=>aU 1 U fun fr E=>?_;refine fW E U U U T.ib (M.row (i:=0) U) (rfl) ?_;exact bX M
theorem Pn{gq:Nat}{kd at':Int}{b:Value}{l:List UInt8}{w0:World}(ak:Bytes w0 b l)(aj:¬l.length<17)(an:¬1024<l.length)(aB:¬kd=0)(be:¬kindOf l=kd):bH prog 110 [.iface 33 (ai gq 0),aa kd,aa at',b] w0 (.tuple #[.agg #[aa 0,aa 0,aa 0,aa 0,.slice none 0 0],aa 5]):=by
 refine enter (n:=75) func110 U U U ?_;intro fr E;have M:=Mem.begin (Φ:=fun w'=>Bytes w' b l) (Has.nil w0) (fun w' h=>ak.bU h);refine aV E<|bh (ob:=.cells #[_,_,_,_,_] 116) (fun g=>ai g 0) M 0 U (bT U T.fG) fun aZ w M=>ah 2 U (bx U U U U T.aG M.fact)<|bs 0 U U ae<|ah 3 U (bx U U U U T.aG M.fact)<|bs 0 U U ae<|ch 3 U U (decide_eq_false (aB))<|bo M 2 U (ar U U T.qt) (p4 M.fact ae) fun w M=>ei 1 U U (by simp;exact be)<|ah (v:=.bool _) 0 U U<|ah (v:=.agg ([aa 0,aa 0,aa 0,aa 0,.slice none 0 0]).toArray) 2 U (dl (vs:=[]) (us:=[aa 0,aa 0,aa 0,aa 0,.slice none 0 0]) U U T.g5 T.g6 U U U U)<|bj (i:=0) (cs':= #[_,_,_,_,_]) M 0 U U (dr (vs:= #[_,_,_,_,_]) U U U T.fE U (M.row (i:=0) U) U U U) U fun w M=>aU 1 U fun fr E=>?_;refine fW E U U U T.ib (M.row (i:=0) U) (rfl) ?_;exact bX M
theorem Pr{gq:Nat}{kd at':Int}{b:Value}{l:List UInt8}{w0:World}(ak:Bytes w0 b l)(aj:¬l.length<17)(an:¬1024<l.length)(aB:¬kd=0)(be:kindOf l=kd)(bZ:¬gZ (ey l) (eJ l) at'):bH prog 110 [.iface 33 (ai gq 0),aa kd,aa at',b] w0 (.tuple #[.agg #[aa 0,aa 0,aa 0,aa 0,.slice none 0 0],aa 7]):=by
 refine enter (n:=75) func110 U U U ?_;intro fr E;have M:=Mem.begin (Φ:=fun w'=>Bytes w' b l) (Has.nil w0) (fun w' h=>ak.bU h);refine aV E<|bh (ob:=.cells #[_,_,_,_,_] 116) (fun g=>ai g 0) M 0 U (bT U T.fG) fun aZ w M=>ah 2 U (bx U U U U T.aG M.fact)<|bs 0 U U ae<|ah 3 U (bx U U U U T.aG M.fact)<|bs 0 U U ae<|ch 3 U U (decide_eq_false (aB))<|bo M 2 U (ar U U T.qt) (p4 M.fact ae) fun w M=>ch 1 U U (by simp;exact be)<|ah (v:=.bool _) 0 U U<|ah 3 U (ew (lo:=1) (hi:=17) U M.fact U T.aG T.bf (⟨_,_,rfl,rfl⟩) (⟨_,_,rfl,rfl⟩) aN ae)<|cP M 0 U (ar U U T.pc) (o0 (Bytes.cut 1 17 M.fact aN ae) (by simp;omega)) U fun⟨g,k1⟩ w _ M=>bC (cr g k1 ((l.drop 1).take (17-1)) false) M 3 U (ar U U T.g0) U (fun H=>gY H (by simp;omega)) fun ke w _ M=>bC (cr g ke (eg 8 ((l.drop 1).take (17-1),false)).1 (eg 8 ((l.drop 1).take (17-1),false)).2) M 1 U (ar U U T.g0) U (fun H=>gY H (by simp[eg];split<;>simp<;>omega)) fun jF w _ M=>ah (v:=.agg ([_,_,_,_,.slice none 0 0]).toArray) 1 U (dl (vs:=[_,_,_,_]) (us:=[_,_,_,_,.slice none 0 0]) U U T.g5 T.g6 U U U U)<|bh (ob:=.cells #[_,_,_,_,_] 116) (fun g=>ai g 0) M 0 U (bT U T.fG) fun bQ w M=>bj (i:=0) (cs':= #[_,_,_,_,_]) M 0 U U (dr (vs:= #[_,_,_,_,_]) U U U T.fE U (M.row (i:=0) U) U U U) U fun w M=>ah (v:=aa _) 1 U (aE U U T.bc (M.row (i:=0) U) U)<|ah (v:=aa _) 1 U (aE U U T.bc (M.row (i:=0) U) U)<|bo M 1 U (ar U U T.ol) (oI false (decide_eq_false bZ)) fun w M=>ah (v:=.bool _) 0 U U<|ah (v:=.agg ([aa 0,aa 0,aa 0,aa 0,.slice none 0 0]).toArray) 1 U (dl (vs:=[]) (us:=[aa 0,aa 0,aa 0,aa 0,.slice none 0 0]) U U T.g5 T.g6 U U U U)<|bj (i:=3) (cs':= #[_,_,_,_,_]) M 0 U U (dr (vs:= #[_,_,_,_,_]) U U U T.fE U (M.row (i:=3) U) U U U) U fun w M=>aU 1 U fun fr E=>?_;refine fW E U U U T.ib (M.row (i:=3) U) (rfl) ?_;exact bX M
theorem Ps{B:fz}{key:List UInt8}{w0:World}(ad:(bp B key).ok w0)(ab:w0.heap[0]? =some (.cells (a7 bt).toArray 243)){kd at':Int}{b:Value}{l:List UInt8}(ak:Bytes w0 b l)(aj:¬l.length<17)(an:¬1024<l.length)(aB:¬kd=0)(be:kindOf l=kd)(bZ:gZ (ey l) (eJ l) at')(aF:kr key (ey l) (eJ l) (dA kd at') (l.drop 17)=none):bH prog 110 [.iface 33 (ai B.eE 0),aa kd,aa at',b] w0 (.tuple #[.agg #[aa 0,aa 0,aa 0,aa 0,.slice none 0 0],aa 19]):=by
 refine enter (n:=75) func110 U U U ?_;intro fr E;have M:=Mem.begin (Φ:=fun w'=>(bp B key).ok w'/\w'.heap[0]? =some (.cells (a7 bt).toArray 243)/\Bytes w' b l) (Has.nil w0) (fun w' h=>⟨oa ad h,fc ab h,ak.bU h⟩);refine aV E<|bh (ob:=.cells #[_,_,_,_,_] 116) (fun g=>ai g 0) M 0 U (bT U T.fG) fun aZ w M=>ah 2 U (bx U U U U T.aG M.fact.2.2)<|bs 0 U U ae<|ah 3 U (bx U U U U T.aG M.fact.2.2)<|bs 0 U U ae<|ch 3 U U (decide_eq_false (aB))<|bo M 2 U (ar U U T.qt) (p4 M.fact.2.2 ae) fun w M=>ch 1 U U (by simp;exact be)<|ah (v:=.bool _) 0 U U<|ah 3 U (ew (lo:=1) (hi:=17) U M.fact.2.2 U T.aG T.bf (⟨_,_,rfl,rfl⟩) (⟨_,_,rfl,rfl⟩) aN ae)<|cP M 0 U (ar U U T.pc) (o0 (Bytes.cut 1 17 M.fact.2.2 aN ae) (by simp;omega)) U fun⟨g,k1⟩ w _ M=>bC (cr g k1 ((l.drop 1).take (17-1)) false) M 3 U (ar U U T.g0) U (fun H=>gY H (by simp;omega)) fun ke w _ M=>bC (cr g ke (eg 8 ((l.drop 1).take (17-1),false)).1 (eg 8 ((l.drop 1).take (17-1),false)).2) M 1 U (ar U U T.g0) U (fun H=>gY H (by simp[eg];split<;>simp<;>omega)) fun jF w _ M=>ah (v:=.agg ([_,_,_,_,.slice none 0 0]).toArray) 1 U (dl (vs:=[_,_,_,_]) (us:=[_,_,_,_,.slice none 0 0]) U U T.g5 T.g6 U U U U)<|bh (ob:=.cells #[_,_,_,_,_] 116) (fun g=>ai g 0) M 0 U (bT U T.fG) fun bQ w M=>bj (i:=0) (cs':= #[_,_,_,_,_]) M 0 U U (dr (vs:= #[_,_,_,_,_]) U U U T.fE U (M.row (i:=0) U) U U U) U fun w M=>ah (v:=aa _) 1 U (aE U U T.bc (M.row (i:=0) U) U)<|ah (v:=aa _) 1 U (aE U U T.bc (M.row (i:=0) U) U)<|bo M 1 U (ar U U T.ol) (oI true (decide_eq_true bZ)) fun w M=>ah (v:=.bool _) 0 U U<|bw 1 U fun fr E=>?_;refine(dR (B:=T.wx) (Vs:=(.af _:: .af (ai _ 1):: .af (aa _):: .af (ai _ 2):: .af (aa _):: .af _:: .af _::cV w.heap.size (fun v=>[az.bytes 5 v (dA kd at')]) (fun _=>True):: .af _:: .af _:: .af (.func (.method "Open") #[.iface 33 (ai B.eE 0)] #[]):: .af (.func (.method "Open") #[.iface 33 (ai B.eE 0)] #[]):: .af _:: .af (.tuple #[.slice none 0 0,.bool false]):: .af _:: .af (.slice none 0 0):: .af (.bool false):: .af (.slice none 0 0):: .af (.bool false)::[])) T.y1 E T.mixed T.y0 U (fH.dF ⟨ay,ay,ay,ay,ay,ay,ay,cn.df,ay,ay,ay,ay,ay,ay,ay,ay,ay,ay,ay,ay⟩) ⟨aw U U,
   aw U U,
   aC U U (fun x w ad ab=>aE U U T.bc ((M.aQ ad).row (i:=0) U) U),
   aw U U,
   aC U U (fun x w ad ab=>aE U U T.bc ((M.aQ ad).row (i:=0) U) U),
   aw U U,
   aw U U,
   cE U U (fun x w ad ab=>⟨_,_,U,U,U,ar U U T.ta,(tq kd at' _).eN ad.size⟩),
   aw U U,
   aC U U (fun x w ad ab=>ew (lo:=17) (hi:=l.length) U (M.aQ ad).fact.2.2 U T.aG T.bf (⟨_,_,U,U⟩) (rfl) ae (Nat.le_refl _)),
   aC U U (fun x w ad ab=>tN U U),
   aC U U (fun x w ad ab=>tP U U T.ye),
   aw U U,
   cE U U (fun x w ad ab=>⟨_,_,U,U,U,tM U U T.ye T.FK,(OE (e:=ey l) (n:=eJ l) (M.aQ ad).fact.1 (M.aQ ad).fact.2.1 ((ab 7 U).1.reads 0 U) (Bytes.oT (k:=17) (M.aQ ad).fact.2.2 ae) (by simp[dA,aO]) (by simp;omega) aF).ext⟩),
   aw U U,
   aw U U,
   aw U U,
   aw U U,
   aw U U,ay⟩ ?_)
 intro x fr w ad ab E;have M:=M.ext ad;refine cm E<|ah (v:=.bool _) 1 U U<|ah (v:=.agg ([aa 0,aa 0,aa 0,aa 0,.slice none 0 0]).toArray) 1 U (dl (vs:=[]) (us:=[aa 0,aa 0,aa 0,aa 0,.slice none 0 0]) U U T.g5 T.g6 U U U U)<|bj (i:=3) (cs':= #[_,_,_,_,_]) M 0 U U (dr (vs:= #[_,_,_,_,_]) U U U T.fE U (M.row (i:=3) U) U U U) U fun w M=>aU 1 U fun fr E=>?_;refine fW E U U U T.ib (M.row (i:=3) U) (rfl) ?_;exact bX M
theorem Pq{B:fz}{key:List UInt8}{w0:World}(ad:(bp B key).ok w0)(ab:w0.heap[0]? =some (.cells (a7 bt).toArray 243)){kd at':Int}{b:Value}{l:List UInt8}(ak:Bytes w0 b l){q:List UInt8}(aj:¬l.length<17)(an:¬1024<l.length)(aB:¬kd=0)(be:kindOf l=kd)(bZ:gZ (ey l) (eJ l) at')(aF:kr key (ey l) (eJ l) (dA kd at') (l.drop 17)=some q):aY prog 110 [.iface 33 (ai B.eE 0),aa kd,aa at',b] w0 [] (fun c:Value=>.tuple #[.agg #[aa kd,aa (ey l),aa (eJ l),aa at',c],aa 0]) (fun c=>[.bytes 5 c q]) (fun _=>True):=by
 refine enter (n:=75) func110 U U U ?_;intro fr E;have M:=Mem.begin (Φ:=fun w'=>(bp B key).ok w'/\w'.heap[0]? =some (.cells (a7 bt).toArray 243)/\Bytes w' b l) (Has.nil w0) (fun w' h=>⟨oa ad h,fc ab h,ak.bU h⟩);refine aV E<|bh (ob:=.cells #[_,_,_,_,_] 116) (fun g=>ai g 0) M 0 U (bT U T.fG) fun aZ w M=>ah 2 U (bx U U U U T.aG M.fact.2.2)<|bs 0 U U ae<|ah 3 U (bx U U U U T.aG M.fact.2.2)<|bs 0 U U ae<|ch 3 U U (decide_eq_false (aB))<|bo M 2 U (ar U U T.qt) (p4 M.fact.2.2 ae) fun w M=>ch 1 U U (by simp;exact be)<|ah (v:=.bool _) 0 U U<|ah 3 U (ew (lo:=1) (hi:=17) U M.fact.2.2 U T.aG T.bf (⟨_,_,rfl,rfl⟩) (⟨_,_,rfl,rfl⟩) aN ae)<|cP M 0 U (ar U U T.pc) (o0 (Bytes.cut 1 17 M.fact.2.2 aN ae) (by simp;omega)) U fun⟨g,k1⟩ w _ M=>bC (cr g k1 ((l.drop 1).take (17-1)) false) M 3 U (ar U U T.g0) U (fun H=>gY H (by simp;omega)) fun ke w _ M=>bC (cr g ke (eg 8 ((l.drop 1).take (17-1),false)).1 (eg 8 ((l.drop 1).take (17-1),false)).2) M 1 U (ar U U T.g0) U (fun H=>gY H (by simp[eg];split<;>simp<;>omega)) fun jF w _ M=>ah (v:=.agg ([_,_,_,_,.slice none 0 0]).toArray) 1 U (dl (vs:=[_,_,_,_]) (us:=[_,_,_,_,.slice none 0 0]) U U T.g5 T.g6 U U U U)<|bh (ob:=.cells #[_,_,_,_,_] 116) (fun g=>ai g 0) M 0 U (bT U T.fG) fun bQ w M=>bj (i:=0) (cs':= #[_,_,_,_,_]) M 0 U U (dr (vs:= #[_,_,_,_,_]) U U U T.fE U (M.row (i:=0) U) U U U) U fun w M=>ah (v:=aa _) 1 U (aE U U T.bc (M.row (i:=0) U) U)<|ah (v:=aa _) 1 U (aE U U T.bc (M.row (i:=0) U) U)<|bo M 1 U (ar U U T.ol) (oI true (decide_eq_true bZ)) fun w M=>ah (v:=.bool _) 0 U U<|bw 1 U fun fr E=>?_;refine(dR (B:=T.wx) (Vs:=(.af _:: .af (ai _ 1):: .af (aa _):: .af (ai _ 2):: .af (aa _):: .af _:: .af _::cV w.heap.size (fun v=>[az.bytes 5 v (dA kd at')]) (fun _=>True):: .af _:: .af _:: .af (.func (.method "Open") #[.iface 33 (ai B.eE 0)] #[]):: .af (.func (.method "Open") #[.iface 33 (ai B.eE 0)] #[]):: .af _::cL w.heap.size ([]) (fun c:Value=>.tuple #[c,.bool true]) (fun c=>[az.bytes 5 c q]) (fun _=>True)::cL w.heap.size ([]) (fun c:Value=>.tuple #[c,.bool true]) (fun c=>[az.bytes 5 c q]) (fun _=>True)::cL w.heap.size ([]) (fun c:Value=>c) (fun c=>[az.bytes 5 c q]) (fun _=>True):: .af (.bool true)::cL w.heap.size ([]) (fun c:Value=>c) (fun c=>[az.bytes 5 c q]) (fun _=>True):: .af _::[])) T.y1 E T.mixed T.y0 U (fH.dF ⟨ay,ay,ay,ay,ay,ay,ay,cn.df,ay,ay,ay,ay,ay,cn.hx,cn.hx,cn.hx,ay,cn.hx,ay,ay⟩) ⟨aw U U,
   aw U U,
   aC U U (fun x w ad ab=>aE U U T.bc ((M.aQ ad).row (i:=0) U) U),
   aw U U,
   aC U U (fun x w ad ab=>aE U U T.bc ((M.aQ ad).row (i:=0) U) U),
   aw U U,
   aw U U,
   cE U U (fun x w ad ab=>⟨_,_,U,U,U,ar U U T.ta,(tq kd at' _).eN ad.size⟩),
   aw U U,
   aC U U (fun x w ad ab=>ew (lo:=17) (hi:=l.length) U (M.aQ ad).fact.2.2 U T.aG T.bf (⟨_,_,U,U⟩) (rfl) ae (Nat.le_refl _)),
   aC U U (fun x w ad ab=>tN U U),
   aC U U (fun x w ad ab=>tP U U T.ye),
   aw U U,
   cE U U (fun x w ad ab=>⟨_,_,U,U,U,tM U U T.ye T.FK,(OJ (e:=ey l) (n:=eJ l) (M.aQ ad).fact.1 (M.aQ ad).fact.2.1 ((ab 7 U).1.reads 0 U) (Bytes.oT (k:=17) (M.aQ ad).fact.2.2 ae) (by simp[dA,aO]) (by simp;omega) aF).qk ad.size⟩),
   lk (j:=13) U U U U (fun x w y bn=>⟨U,U,U,tO U bn⟩),
   lk (j:=14) U U U U (fun x w y bn=>⟨U,U,U,nf U bn U⟩),
   uZ (j:=14) U U U U (fun x w y bn=>⟨U,U,U,nf U bn U⟩),
   lk (j:=15) U U U U (fun x w y bn=>⟨U,U,U,ku U bn⟩),
   aw U U,ay⟩ ?_)
 intro x fr w ad ab E;obtain⟨c,bn, -,M⟩:=M.kG (val:=fun c:Value=>c) (outs:=fun c=>[az.bytes 5 c q]) (p:=fun _=>True) ad (ab 17 aN);have E:=Env.gD (t:=12) E rfl bn;refine cm E<|ah (v:=.bool _) 1 rfl rfl<|bj (i:=1) (cs':= #[aa kd,aa (ey l),aa (eJ l),aa at',c]) M 3 rfl rfl (cy (v:=_) rfl rfl rfl T.gM (M.row (i:=1) rfl) (rfl) (Reads.one (M.reads 0 rfl)) (rfl)) rfl fun w M=>ah (v:=.agg #[_,_,_,_,_]) 0 rfl (cW rfl rfl T.ib (M.row (i:=1) rfl) rfl)<|bj (i:=4) (cs':= #[aa kd,aa (ey l),aa (eJ l),aa at',c]) M 0 rfl rfl (dr (vs:= #[aa kd,aa (ey l),aa (eJ l),aa at',c]) rfl rfl rfl T.fE rfl (M.row (i:=4) rfl) rfl (by obtain⟨fI,fm,bV⟩:=Reads.slice (M.reads 0 rfl);rw[bV];rfl) rfl) rfl fun w M=>aU 1 rfl fun fr E=>?_;refine fW E U U U T.ib (M.row (i:=4) U) (rfl) ?_;exact⟨c,U,Mem.fin (L:=[.bytes 5 c q]++_) M (List.sublist_append_left _ _) trivial⟩
theorem Pm{key:List UInt8}{kd at':Int}{l:List UInt8}(h:k2 key kd at' l=none):∃err:Int,err≠0/\∀(w0:World) (B:fz) (b:Value),Bytes w0 b l->(bp B key).ok w0->w0.heap[0]? =some (.cells (a7 bt).toArray 243)->bH prog 110 [.iface 33 (ai B.eE 0),aa kd,aa at',b] w0 (.tuple #[.agg #[aa 0,aa 0,aa 0,aa 0,.slice none 0 0],aa err]):=by
 unfold k2 at h;by_cases aj:l.length<17
 ·exact⟨2,by decide,fun w0 B b ak H ab=>Pt ak aj⟩
 by_cases an:1024<l.length
 ·exact⟨3,by decide,fun w0 B b ak H ab=>Pp ak aj an⟩
 by_cases aB:kd=0
 ·exact⟨5,by decide,fun w0 B b ak H ab=>Po ak aj an aB⟩
 by_cases be:kindOf l=kd
 ·by_cases bZ:gZ (ey l) (eJ l) at'
  ·rw[if_pos ⟨aj,an,aB,be,bZ⟩]at h;have aF:kr key (ey l) (eJ l) (dA kd at') (l.drop 17)=none:=by simpa using h
   exact⟨19,by decide,fun w0 B b ak H ab=>Ps H ab ak aj an aB be bZ aF⟩
  ·exact⟨7,by decide,fun w0 B b ak H ab=>Pr ak aj an aB be bZ⟩
 ·exact⟨5,by decide,fun w0 B b ak H ab=>Pn ak aj an aB be⟩
theorem w3{B:fz}{key:List UInt8}{w0:World}(ad:(bp B key).ok w0)(ab:w0.heap[0]? =some (.cells (a7 bt).toArray 243)){kd at' e n:Int}{b:Value}{l q:List UInt8}(ak:Bytes w0 b l)(h:k2 key kd at' l=some (e,n,q)):aY prog 110 [.iface 33 (ai B.eE 0),aa kd,aa at',b] w0 [] (fun c:Value=>.tuple #[.agg #[aa kd,aa e,aa n,aa at',c],aa 0]) (fun c=>[.bytes 5 c q]) (fun _=>True):=by
 unfold k2 at h;split at h
 ·rename_i aJ;rw[Option.map_eq_some_iff]at h;obtain⟨fV,aj,an⟩:=h;simp only[Prod.mk.injEq]at an;obtain⟨rfl,rfl,rfl⟩:=an;exact Pq ad ab ak aJ.1 aJ.2.1 aJ.2.2.1 aJ.2.2.2.1 aJ.2.2.2.2 aj
 ·cases h
end
section
open Go.RowKit Go.a2 Go.Proofs Go.Proofs.Tryz
theorem so{P:Program}{f:FuncId}{args:List Value}{w:World}{v:Value}(h:bH P f args w v):Calls P f args.toArray w fun e w'=>e=.returned v/\Below w.heap.size w w':=
 h.mono fun e w' ⟨_,he,aJ,_⟩=>⟨he,⟨aJ.os,aJ.tape,aJ.output,aJ.held.size,fun k ab=>aJ.held.block k ab gQ⟩⟩
theorem Rec.fit{r:Rec}(h:r.Ok):Fit ([.i64]++[.i64]++[.i64]++List.replicate 32 .u8++[.i64]++List.replicate 32 .u8++[.i64]++[.i64]++[.i64]++[.i64]++List.replicate 32 .u8++List.replicate 32 .u8) r.cells:=by
 have e:∀l:List UInt8,l.length=32->Fit (List.replicate 32 .u8) (ao l):=fun l aI=>by have:=Ft l;rwa [aI]at this
 have one:∀n:Int,Fit [.i64] [aW n]:=fun n=>rfl;have:=((((((((((((one r.bq).app (one r.cd)).app (one r.bF)).app (e _ h.cD)).app (one r.cx)).app (e _ h.b3)).app (one r.c1)).app (one r.c5)).app (one r.dw)).app (one r.dB)).app (e _ h.dt)).app (e _ h.dI))
 have c6:r.cells=[aW r.bq]++[aW r.cd]++[aW r.bF]++ao r.cD++[aW r.cx]++ao r.b3++[aW r.c1]++[aW r.c5]++[aW r.dw]++[aW r.dB]++ao r.dt++ao r.dI:=by simp[Rec.cells]
 rw[c6];exact this
end
section
open Go.RowKit Go.a2 Go.Proofs Go.Proofs.Tryz
theorem Nm{a b:Value}{l:List Rec}{w0:World}(bm:jn w0 a l)(ak:jn w0 b l)(aF:hG l)(au:l.length<=300):bH prog 15 [a,b] w0 (.bool true):=by
 refine enter (n:=26) func15 U U U ?_;intro fr E;have M:=Mem.begin (Φ:=fun w'=>jn w' a l/\jn w' b l) (Has.nil w0) (fun w' h=>⟨bm.bU h,ak.bU h⟩);refine aV E<|ah 2 U (bx U U U U T.gd M.fact.1)<|ah 1 U (bx U U U U T.gd M.fact.2)<|ch 0 U U (by simp)<|bw 2 U fun fr E=>?_;refine cI (fun d fr w=>∃i:Nat,d=l.length-i/\i<=l.length/\Env [(5,aa i),(1,b),(0,a)] 26 fr/\Mem w0 (aS []) [] (fun w'=>jn w' a l/\jn w' b l) w) (l.length) ?_ ?_
 ·refine⟨0,U,Nat.zero_le _,E.lL [0,1,5] rfl,M⟩
 ·clear E M;rintro d fr w ⟨i,rfl,hle,E,M⟩;by_cases hi:i<l.length
  ·refine bA E<|ah 2 U (bx U U U U T.gd M.fact.1)<|bD 0 U U ae<|bw 1 U fun fr E=>?_;refine(dR (B:=T.JF) (Vs:=(.af _:: .af _:: .af (cellAt a (i*136)):: .af (.agg (l[i]).cells.toArray):: .af _:: .af _:: .af (cellAt b (i*136)):: .af (.agg (l[i]).cells.toArray):: .af (.bool false)::[])) T.XR E T.mixed T.XQ U (ej.e6 U) ⟨aw U U,
   aw U U,
   aC U U (fun x w ad ab=>bL (i:=i) U (M.aQ ad).fact.1 U U (rfl) (hi) T.gd T.dV),
   aC U U (fun x w ad ab=>hU U (M.aQ ad).fact.1 U T.da ae ae (pP aF hi)),
   aw U U,
   aw U U,
   aC U U (fun x w ad ab=>bL (i:=i) U (M.aQ ad).fact.2 U U (rfl) (hi) T.gd T.dV),
   aC U U (fun x w ad ab=>hU U (M.aQ ad).fact.2 U T.da ae ae (pP aF hi)),
   aC U U (fun x w ad ab=>Wt (b:=true) (xs:=(l[i]).cells) (ys:=(l[i]).cells) U U U T.An (Rec.fit (aF.get hi)) (Rec.fit (aF.get hi)) (by simp)),ay⟩ ?_)
   intro x fr w ad ab E;have M:=M.ext ad;refine cm E<|a1 (y:=((i+1:Nat):Int)) 2 U U ((br ae ae).trans ae)<|ct 1 U fun fr E=>?_;refine⟨l.length-(i+1),by omega,i+1,U,by omega,E.lL [0,1,5] rfl,M⟩
  ·refine bA E<|ah 2 U (bx U U U U T.gd M.fact.1)<|bs 0 U U ae<|aU 2 U fun fr E=>?_;refine bi E U U ?_;exact bX M
end
end Go.Proofs.YtckdfgknodedoaaGreatDoor.K
