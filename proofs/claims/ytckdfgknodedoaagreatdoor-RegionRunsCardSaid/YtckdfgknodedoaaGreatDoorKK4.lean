/- Texts of this proof. -/
import Derived.Test.YtckdfgknodedoaaGreatDoorKK
import Derived.Test.YtckdfgknodedoaaGreatDoorKK1
import Derived.Test.YtckdfgknodedoaaGreatDoorKK3
import Derived.Test.YtckdfgknodedoaaGreatDoorRR1
import Derived.Shelf.SlIterI.Nil
import Derived.Shelf.SortM.Plain
import Derived.Shelf.SortM.SortNone
set_option linter.unusedVariables false
set_option linter.unusedSimpArgs false
set_option maxRecDepth 100000
namespace Go.Proofs.YtckdfgknodedoaaGreatDoor.K
section
open Go.RowKit Go.a2 Go.Proofs Go.Proofs.Tryz
theorem Rec.sY{r:Rec}(ap:r.Ok):r.bytes.length=192:=by simp[Rec.bytes,aO,ap.cD,ap.b3,ap.dt,ap.dI]
def ma(A:bz)(ks:List cQ)(r:Rec)(num:Int):Int×bz×List cQ:=
 if r.fA/\gZ r.bF num (1+r.bq.tmod 2)then((A.write (1+r.bq.tmod 2) (hD ks 2 r.bF num (1+r.bq.tmod 2) r.bytes)).1,(A.write (1+r.bq.tmod 2) (hD ks 2 r.bF num (1+r.bq.tmod 2) r.bytes)).2,jS ks r.bF num (dA 2 (1+r.bq.tmod 2)) r.bytes)else(7,A,ks)
def me(ks:List cQ)(kd at':Int)(l:List UInt8):Option (Int×Int×List UInt8):=
 if¬l.length<17/\¬1024<l.length/\¬kd=0/\kindOf l=kd/\gZ (ey l) (eJ l) at' then(nR ks (ey l) (eJ l) (dA kd at') (l.drop 17)).map fun q=>(ey l,eJ l,q)else none
def b4(l:List UInt8):Rec×Int:=if ka (bK l 11)≠0 then(Rec.zero,ka (bK l 11))else if(Rec.read l).fA then(Rec.read l,0)else(Rec.zero,7)
theorem eO(q:List UInt8):(b4 q).1.Ok:=by unfold b4;split;exact Rec.e0;split;exact Rec.ly q;exact Rec.e0
theorem Xc{ks:List cQ}{kd at' e n:Int}{l q:List UInt8}(h:me ks kd at' l=some (e,n,q)):q.length<=1024:=by
 unfold me at h;split at h
 ·rename_i aJ;rw[Option.map_eq_some_iff]at h;obtain⟨fV,aj,an⟩:=h;simp only[Prod.mk.injEq]at an;obtain⟨_,_,rfl⟩:=an;unfold nR at aj;split at aj
  ·cases aj
  ·split at aj
   ·cases aj
   ·split at aj
    ·injection aj with aj;subst aj;have:=aJ.2.1;simp;omega
    ·cases aj
 ·cases h
theorem di.g7.B7{S:di}{A:bz}(h:S.g7 A)(j:Nat):(A.read j).length<=1024:=by
 unfold bz.read;split
 ·rename_i l aI;have aJ:=h.cache;revert aJ aI;generalize S.cache=es;generalize A.cache=c;intro aI aJ
  induction c generalizing es with
  |nil=>cases aI
  |cons p q ck=>
   cases es with
   |nil=>exact aJ.elim
   |cons e r=>
    rw[mU]at aI;split at aI
    ·injection aI with aI;subst aI;exact aJ.1.2.2
    ·exact ck r aI aJ.2
 ·cases aI:A.last[j]? with
  |none=>simp
  |some l=>
   have:=h.last;have aD:∃v,S.dF[j]? =some v:=⟨_,List.getElem?_eq_getElem (by rw[Bx this];exact(List.getElem?_eq_some_iff.1 aI).1)⟩
   obtain⟨v,aD⟩:=aD;obtain⟨m,aj,_,aB⟩:=x9 this aD;rw[aI]at aj;injection aj with aj;subst aj;exact aB
def hS(A:bz)(ks:List cQ)(j:Nat):Rec×Bool:=
 match me ks 2 (j:Int) (A.read j)with
 |none=>(Rec.zero,false)
 |some (e,_,q)=>((b4 q).1,decide ((b4 q).2=0/\(b4 q).1.bF=e/\1+(b4 q).1.bq.tmod 2=(j:Int)))
theorem tD(A:bz)(ks:List cQ)(j:Nat):(hS A ks j).1.Ok:=by unfold hS;split;exact Rec.e0;exact eO _
def dy(A:bz):Nat->bz
 |0=>A
 |i+1=>(dy A i).bump (i+1)
theorem uJ(A:bz):∀i,(dy A i).n=A.n
 |0=>rfl
 |i+1=>uJ A i
def ki(A:bz)(ks:List cQ):Nat->List Rec
 |0=>[]
 |i+1=>ki A ks i++(if(hS (dy A i) ks (i+1)).2=true then [(hS (dy A i) ks (i+1)).1]else [])
theorem zF{A:bz}{ks:List cQ}{i:Nat}(h:(hS (dy A i) ks (i+1)).2=true):ki A ks (i+1)=ki A ks i++[(hS (dy A i) ks (i+1)).1]:=by rw[ki,if_pos h]
theorem Oh{A:bz}{ks:List cQ}{i:Nat}(h:(hS (dy A i) ks (i+1)).2=false):ki A ks (i+1)=ki A ks i:=by rw[ki,if_neg (by simp[h]),List.append_nil]
theorem Eh(A:bz)(ks:List cQ):∀i,(ki A ks i).length<=i
 |0=>Nat.le_refl _
 |i+1=>by
  have:=Eh A ks i;rw[ki,List.length_append];split<;>simp<;>omega
theorem x4{i:Nat}(h:i<2):([aa 1,aa 2]:List Value)[i]? =some (aa ((i+1:Nat):Int)):=by
 rcases i with _|_|i
 ·rfl
 ·rfl
 ·omega
theorem B8{w:World}{v:Value}{r:Rec}(h:Reads 136 w v 1 r.cells):jn w v [r]:=by
 unfold jn;have e:hh [r]=r.cells:=by simp[hh]
 rw[e];exact h
theorem Mem.take{w0 w:World}{O:Nat->Prop}{L R:List az}{Φ:World->Prop}(M:Mem w0 O (L++R) Φ w):Mem w0 O L Φ w:=M.sub (List.sublist_append_left _ _)
theorem VF{D:b6}{N:dO}{g:Nat}{A:bz}{r:Rec}{num:Int}{w0:World}(H:Has w0 [ba D,cA N])(cb:D.is g A)(ap:r.Ok)(eF:N.ks.length<=1099511627776)(hm:¬r.fA):aY prog 44 [ai g 0,.iface 87 (ai N.cO 0),r.val,aa num] w0 [ba D,cA N] (fun _:b6×dO=>aa 7) (fun x=>[ba x.1,cA x.2]) (fun x=>x.1.is g A/\x.2.cO=N.cO/\x.2.ks=N.ks/\x.2.b7=N.b7):=by
 refine enter (n:=40) func44 U U U ?_;intro fr E;have M:=ht H;refine aV E<|bh (ob:=.cells (r.cells.toArray) 45) (fun g=>ai g 0) M 0 U (cS (cs:=(r.cells.toArray)) U U) fun aZ w M=>ah (v:=.agg r.cells.toArray) 1 U (cW U U T.da (M.row (i:=0) U) (Rec.size ap))<|bo M 0 U (ar U U T.rK) (DP ap hm) fun w M=>ah (v:=.bool _) 6 U U<|aU 3 U fun fr E=>?_;refine bi E U U ?_;have M:=M.aH 2 rfl;have M:=M.aH 2 rfl;exact⟨(D,N),U,Mem.fin (L:=[ba D,cA N]++_) M (List.sublist_append_left _ _) ⟨cb,U,U,U⟩⟩
theorem VH{D:b6}{N:dO}{g:Nat}{A:bz}{r:Rec}{num:Int}{w0:World}(H:Has w0 [ba D,cA N])(cb:D.is g A)(ap:r.Ok)(eF:N.ks.length<=1099511627776)(hm:r.fA)(aP:¬gZ r.bF num (1+r.bq.tmod 2)):aY prog 44 [ai g 0,.iface 87 (ai N.cO 0),r.val,aa num] w0 [ba D,cA N] (fun _:b6×dO=>aa 7) (fun x=>[ba x.1,cA x.2]) (fun x=>x.1.is g A/\x.2.cO=N.cO/\x.2.ks=N.ks/\x.2.b7=N.b7):=by
 refine enter (n:=40) func44 U U U ?_;intro fr E;have M:=ht H;refine aV E<|bh (ob:=.cells (r.cells.toArray) 45) (fun g=>ai g 0) M 0 U (cS (cs:=(r.cells.toArray)) U U) fun aZ w M=>ah (v:=.agg r.cells.toArray) 1 U (cW U U T.da (M.row (i:=0) U) (Rec.size ap))<|cP M 0 U (ar U U T.rK) (uA ap hm) U fun pl w _ M=>ah (v:=.bool _) 6 U U<|bw 1 U fun fr E=>?_;refine(dR (B:=T.wy) (Vs:=(.af _:: .af (ai _ 2):: .af (aa r.bF):: .af _:: .af (.agg r.cells.toArray):: .af (aa _):: .af _:: .af (.agg ([aa 2,aa r.bF,aa num,aa (1+r.bq.tmod 2),pl]).toArray):: .af (.tuple #[.slice none 0 0,aa 7]):: .af _:: .af (.slice none 0 0):: .af (aa 7):: .af (.slice none 0 0):: .af (aa 7)::[])) T.y7 E T.mixed T.y6 U (ej.e6 U) ⟨aw U U,
   aw U U,
   aC U U (fun x w ad ab=>aE U U T.bc ((M.aQ ad).row (i:=1) U) Rec.ho),
   aw U U,
   aC U U (fun x w ad ab=>cW U U T.da ((M.aQ ad).row (i:=1) U) (Rec.size ap)),
   cE U U (fun x w ad ab=>⟨_,_,U,U,U,ar U U T.ot,(n4 ap _).ext⟩),
   aw U U,
   aC rfl rfl (fun x w ad ab=>dl (vs:=[aa 2,aa r.bF,aa num,aa (1+r.bq.tmod 2),pl]) (us:=[aa 2,aa r.bF,aa num,aa (1+r.bq.tmod 2),pl]) rfl rfl T.g5 T.g6 (by obtain⟨fI,fm,bV⟩:=Reads.slice ((M.aQ ad).bytes 0 rfl);rw[bV];simp[Value.cells]) rfl rfl (by obtain⟨fI,fm,bV⟩:=Reads.slice ((M.aQ ad).bytes 0 rfl);rw[bV];simp[Value.cells])),
   cE rfl rfl (fun x w ad ab=>⟨_,_,rfl,rfl,rfl,ar rfl rfl T.xy,(WL (N:=N) (kd:=2) ((M.aQ ad).bytes 0 rfl) aN aN aP).ext⟩),
   aw rfl rfl,
   aw rfl rfl,
   aw rfl rfl,
   aw rfl rfl,
   aw rfl rfl,ay⟩ ?_)
 intro x fr w ad ab E;have M:=M.ext ad;refine cm E<|ah (v:=.bool _) 1 U U<|aU 3 U fun fr E=>?_;refine bi E U U ?_;have M:=M.aH 3 rfl;have M:=M.aH 3 rfl;exact⟨(D,N),U,Mem.fin (L:=[ba D,cA N]++_) M (List.sublist_append_left _ _) ⟨cb,U,U,U⟩⟩
theorem VG{D:b6}{N:dO}{g:Nat}{A:bz}{r:Rec}{num:Int}{w0:World}(H:Has w0 [ba D,cA N])(cb:D.is g A)(ap:r.Ok)(eF:N.ks.length<=1099511627776)(hm:r.fA)(aP:gZ r.bF num (1+r.bq.tmod 2)):aY prog 44 [ai g 0,.iface 87 (ai N.cO 0),r.val,aa num] w0 [ba D,cA N] (fun _:b6×dO=>aa (A.write (1+r.bq.tmod 2) (hD N.ks 2 r.bF num (1+r.bq.tmod 2) r.bytes)).1) (fun x=>[ba x.1,cA x.2]) (fun x=>x.1.is g (A.write (1+r.bq.tmod 2) (hD N.ks 2 r.bF num (1+r.bq.tmod 2) r.bytes)).2/\x.2.cO=N.cO/\x.2.ks=jS N.ks r.bF num (dA 2 (1+r.bq.tmod 2)) r.bytes/\x.2.b7=N.b7):=by
 refine enter (n:=40) func44 U U U ?_;intro fr E;have M:=ht H;refine aV E<|bh (ob:=.cells (r.cells.toArray) 45) (fun g=>ai g 0) M 0 U (cS (cs:=(r.cells.toArray)) U U) fun aZ w M=>ah (v:=.agg r.cells.toArray) 1 U (cW U U T.da (M.row (i:=0) U) (Rec.size ap))<|cP M 0 U (ar U U T.rK) (uA ap hm) U fun pl w _ M=>ah (v:=.bool _) 6 U U<|fun fr E=>?_;have M:=M.aH 3 rfl;have M:Mem _ _ ([cA N]++_) _ _:=M;refine bN E<|bw 1 U fun fr E=>?_;refine(iQ (B:=T.wy) (Vs:=(.af _:: .af (ai _ 2):: .af (aa r.bF):: .af _:: .af (.agg r.cells.toArray):: .af (aa _):: .af _:: .af (.agg ([aa 2,aa r.bF,aa num,aa (1+r.bq.tmod 2),pl]).toArray)::cL w.heap.size ([cA N]) (fun x:Value×dO=>.tuple #[x.1,aa 0]) (fun x=>[az.bytes 5 x.1 (hD N.ks 2 r.bF num (1+r.bq.tmod 2) r.bytes),cA x.2]) (fun x=>x.2.cO=N.cO/\x.2.ks=jS N.ks r.bF num (dA 2 (1+r.bq.tmod 2)) r.bytes/\x.2.b7=N.b7)::cL w.heap.size ([cA N]) (fun x:Value×dO=>.tuple #[x.1,aa 0]) (fun x=>[az.bytes 5 x.1 (hD N.ks 2 r.bF num (1+r.bq.tmod 2) r.bytes),cA x.2]) (fun x=>x.2.cO=N.cO/\x.2.ks=jS N.ks r.bF num (dA 2 (1+r.bq.tmod 2)) r.bytes/\x.2.b7=N.b7)::cL w.heap.size ([cA N]) (fun x:Value×dO=>x.1) (fun x=>[az.bytes 5 x.1 (hD N.ks 2 r.bF num (1+r.bq.tmod 2) r.bytes),cA x.2]) (fun x=>x.2.cO=N.cO/\x.2.ks=jS N.ks r.bF num (dA 2 (1+r.bq.tmod 2)) r.bytes/\x.2.b7=N.b7):: .af (aa 0)::cL w.heap.size ([cA N]) (fun x:Value×dO=>x.1) (fun x=>[az.bytes 5 x.1 (hD N.ks 2 r.bF num (1+r.bq.tmod 2) r.bytes),cA x.2]) (fun x=>x.2.cO=N.cO/\x.2.ks=jS N.ks r.bF num (dA 2 (1+r.bq.tmod 2)) r.bytes/\x.2.b7=N.b7):: .af _::[])) (fs (ga 8 ([cA N])) w.drew) T.y7 E T.mixed T.y6 U ?_ ⟨b5 U U M (fun i g h=>h.2),
   b5 U U M (fun i g h=>h.2),
   bY U U M (fun i g h=>h.2) (fun x w' aA aL ab=>aE U U T.bc (aA.row (i:=1) U) Rec.ho),
   b5 U U M (fun i g h=>h.2),
   bY U U M (fun i g h=>h.2) (fun x w' aA aL ab=>cW U U T.da (aA.row (i:=1) U) (Rec.size ap)),
   nC U U M (fun i g h=>h.2) (fun x w' aA aL ab=>⟨_,_,U,U,U,ar U U T.ot,(n4 ap _).ext⟩),
   b5 U U M (fun i g h=>h.2),
   bY rfl rfl M (fun i g h=>h.2) (fun x w' aA aL ab=>dl (vs:=[aa 2,aa r.bF,aa num,aa (1+r.bq.tmod 2),pl]) (us:=[aa 2,aa r.bF,aa num,aa (1+r.bq.tmod 2),pl]) rfl rfl T.g5 T.g6 (by obtain⟨fI,fm,bV⟩:=Reads.slice (aA.bytes 0 rfl);rw[bV];simp[Value.cells]) rfl rfl (by obtain⟨fI,fm,bV⟩:=Reads.slice (aA.bytes 0 rfl);rw[bV];simp[Value.cells])),
   AR (J:=[cA N]) rfl rfl M (fun i g h=>h.2) M.front (fun j ax g mr=>absurd mr.1 ax) (fun x w' aA c4 aL ab=>⟨_,_,rfl,rfl,rfl,ar rfl rfl T.xy,(WK (N:=N) (kd:=2) (e:=r.bF) (n:=num) (at':=(1+r.bq.tmod 2)) (aA.bytes 0 rfl) c4 (M.off (i:=0) (j:=0+1) rfl rfl rfl) eF aN aN aP (by rw[Rec.sY ap];decide)).own (Fs:=ga 8 ([cA N])) (i:=8) aL (fun g al=>⟨rfl,al⟩)⟩),
   lZ (j:=8) rfl rfl rfl rfl (fun x w y bn=>⟨rfl,rfl,rfl,tO rfl bn⟩),
   lZ (j:=9) rfl rfl rfl rfl (fun x w y bn=>⟨rfl,rfl,rfl,nf rfl bn rfl⟩),
   Rq (j:=9) rfl rfl rfl rfl (fun x w y bn=>⟨rfl,rfl,rfl,nf rfl bn rfl⟩),
   lZ (j:=10) rfl rfl rfl rfl (fun x w y bn=>⟨rfl,rfl,rfl,ku rfl bn⟩),
   b5 rfl rfl M (fun i g h=>h.2),ay⟩ ?_)
 ·exact hJ U ((aK (aK (aK (aK (aK (aK (aK (aK (fK U cJ.fJ (fK U cJ.fJ (fK U cJ.fJ (aK (fK U cJ.fJ (aK hH)))))))))))))))
 intro x fr w ⟨b,ak,cX⟩ ab E;obtain⟨⟨b,n0⟩,bn,ll,M⟩:=M.behind (val:=fun x:Value×dO=>x.1) (outs:=fun x=>[az.bytes 5 x.1 (hD N.ks 2 r.bF num (1+r.bq.tmod 2) r.bytes),cA x.2]) (p:=fun x=>x.2.cO=N.cO/\x.2.ks=jS N.ks r.bF num (dA 2 (1+r.bq.tmod 2)) r.bytes/\x.2.b7=N.b7) cX (ab 12 aN);have E:=Env.gD (t:=11) E rfl bn;refine cm E<|ah (v:=.bool _) 1 U U<|ah (v:=.agg r.cells.toArray) 2 U (cW U U T.da (M.row (i:=3) U) (Rec.size ap))<|bo M 0 U (ar U U T.ot) (n4 ap _) fun w M=>fun fr E=>?_;have M:=M.aH 4 rfl;refine bN E<|bC ([ba D]) M 1 U (ar U U T.FW) U (fun H=>D7 H cb (M.bytes 1 U) (M.off (i:=0) (j:=1) U U U)) fun ez w gj M=>aU 1 U fun fr E=>?_;refine bi E U U ?_;have M:=M.aH 2 rfl;have M:=M.aH 1 rfl;exact⟨(ez,n0),U,Mem.fin (L:=[ba ez,cA n0]++_) M (List.sublist_append_left _ _) ⟨gj,ll⟩⟩
theorem VI{D:b6}{N:dO}{g:Nat}{A:bz}{r:Rec}{num:Int}{w0:World}(H:Has w0 [ba D,cA N])(cb:D.is g A)(ap:r.Ok)(eF:N.ks.length<=1099511627776):aY prog 44 [ai g 0,.iface 87 (ai N.cO 0),r.val,aa num] w0 [ba D,cA N] (fun _:b6×dO=>aa (ma A N.ks r num).1) (fun x=>[ba x.1,cA x.2]) (fun x=>x.1.is g (ma A N.ks r num).2.1/\x.2.cO=N.cO/\x.2.ks=(ma A N.ks r num).2.2/\x.2.b7=N.b7):=by
 by_cases hm:r.fA
 ·by_cases aP:gZ r.bF num (1+r.bq.tmod 2)
  ·have e:ma A N.ks r num=((A.write (1+r.bq.tmod 2) (hD N.ks 2 r.bF num (1+r.bq.tmod 2) r.bytes)).1,(A.write (1+r.bq.tmod 2) (hD N.ks 2 r.bF num (1+r.bq.tmod 2) r.bytes)).2,jS N.ks r.bF num (dA 2 (1+r.bq.tmod 2)) r.bytes):=by unfold ma;rw[if_pos ⟨hm,aP⟩]
   rw[e];exact VG H cb ap eF hm aP
  ·have e:ma A N.ks r num=(7,A,N.ks):=by unfold ma;rw[if_neg fun c=>aP c.2]
   rw[e];exact VH H cb ap eF hm aP
 ·have e:ma A N.ks r num=(7,A,N.ks):=by unfold ma;rw[if_neg fun c=>hm c.1]
  rw[e];exact VF H cb ap eF hm
theorem WB{N:dO}{kd at':Int}{l:List UInt8}(eF:N.ks.length<=1099511627776)(h:me N.ks kd at' l=none):∃err:Int,err≠0/\∀(w0:World) (b:Value),Bytes w0 b l->Has w0 [cA N]->bH prog 110 [.iface 87 (ai N.cO 0),aa kd,aa at',b] w0 (.tuple #[.agg #[aa 0,aa 0,aa 0,aa 0,.slice none 0 0],aa err]):=by
 unfold me at h;by_cases aj:l.length<17
 ·exact⟨2,by decide,fun w0 b ak H=>WJ ak aj⟩
 by_cases an:1024<l.length
 ·exact⟨3,by decide,fun w0 b ak H=>WE ak aj an⟩
 by_cases aB:kd=0
 ·exact⟨5,by decide,fun w0 b ak H=>WD ak aj an aB⟩
 by_cases be:kindOf l=kd
 ·by_cases bZ:gZ (ey l) (eJ l) at'
  ·rw[if_pos ⟨aj,an,aB,be,bZ⟩]at h;have aF:nR N.ks (ey l) (eJ l) (dA kd at') (l.drop 17)=none:=by simpa using h
   exact⟨19,by decide,fun w0 b ak H=>WI ak H eF aj an aB be bZ aF⟩
  ·exact⟨7,by decide,fun w0 b ak H=>WH ak aj an aB be bZ⟩
 ·exact⟨5,by decide,fun w0 b ak H=>WC ak aj an aB be⟩
theorem yL{N:dO}{kd at' e n:Int}{b:Value}{l q:List UInt8}{w0:World}(ak:Bytes w0 b l)(H:Has w0 [cA N])(eF:N.ks.length<=1099511627776)(h:me N.ks kd at' l=some (e,n,q)):aY prog 110 [.iface 87 (ai N.cO 0),aa kd,aa at',b] w0 [] (fun c:Value=>.tuple #[.agg #[aa kd,aa e,aa n,aa at',c],aa 0]) (fun c=>[.bytes 5 c q]) (fun _=>True):=by
 unfold me at h;split at h
 ·rename_i aJ;rw[Option.map_eq_some_iff]at h;obtain⟨fV,aj,an⟩:=h;simp only[Prod.mk.injEq]at an;obtain⟨rfl,rfl,rfl⟩:=an;exact WG ak H eF aJ.1 aJ.2.1 aJ.2.2.1 aJ.2.2.2.1 aJ.2.2.2.2 aj
 ·cases h
theorem qx{b:Value}{l:List UInt8}{w0:World}(ak:Bytes w0 b l)(au:l.length<=35184372088832):bH prog 68 [b] w0 (.tuple #[(b4 l).1.val,aa (b4 l).2]):=by
 unfold b4;by_cases he:ka (bK l 11)=0
 ·rw[if_neg (by simpa using he)];by_cases hm:(Rec.read l).fA
  ·rw[if_pos hm];exact Mj ak au he hm
  ·rw[if_neg hm];exact Mi ak au he hm
 ·rw[if_pos he];exact Mh ak au he
theorem UL{D:b6}{N:dO}{g j:Nat}{A:bz}{w0:World}(H:Has w0 [ba D,cA N])(cb:D.is g A)(eF:N.ks.length<=1099511627776)(ax:j<A.n)(aI:(A.read j).length<=1024)(err:Int)(pq:err≠0)(pr:∀(w:World) (c:Value),Bytes w c (A.read j)->Has w [cA N]->bH prog 110 [.iface 87 (ai N.cO 0),aa 2,aa (j:Int),c] w (.tuple #[.agg #[aa 0,aa 0,aa 0,aa 0,.slice none 0 0],aa err])):aY prog 59 [ai g 0,.iface 87 (ai N.cO 0),aa (j:Int)] w0 [ba D,cA N] (fun _:b6=>.tuple #[Rec.zero.val,.bool false]) (fun x=>[ba x,cA N]) (fun x=>x.is g (A.bump j)):=by
 refine enter (n:=53) func59 U U U ?_;intro fr E;have M:=ht H;refine aV E<|bh (ob:=.cells _ 45) (fun g=>ai g 0) M 0 U (bT U T.fu) fun aZ w M=>fun fr E=>?_;have M:=M.aH 1 rfl;refine bN E<|bC ([ba D]) M 3 U (ar U U T.mn) U (fun H=>mR H cb ax) fun⟨c,ez⟩ w gj M=>ah (v:=.bool _) 6 U U<|bo M 4 U (ar U U T.oi) (pr _ _ (M.bytes 0 U) (M.u7 (i:=3) U)) fun w M=>bh (ob:=.cells #[_,_,_,_,_] 116) (fun g=>ai g 0) M 3 U (bT U T.fG) fun bQ w M=>bj (i:=0) (cs':= #[aa 0,aa 0,aa 0,aa 0,.slice none 0 0]) M 0 U U (dr (vs:= #[_,_,_,_,_]) U U U T.fE U (M.row (i:=0) U) U U U) U fun w M=>ei 2 U U (by simp;exact pq)<|ah (v:=.agg (Rec.zero.cells).toArray) 1 U (dl (vs:=[]) (us:=Rec.zero.cells) U U T.mL T.mN (rfl) U U (rfl))<|bj (i:=3) (cs':=Rec.zero.cells.toArray) M 0 U U (cB (vs:=Rec.zero.cells.toArray) U U U T.dV (Rec.size Rec.e0) (M.row (i:=3) U) (rfl) (by simpa using Rec.eX _)) U fun w M=>aU 1 U fun fr E=>?_;refine fW E U U U T.da (M.row (i:=3) U) (Rec.size Rec.e0) ?_;have M:=M.aH 4 rfl;have M:=M.aH 3 rfl;exact⟨ez,U,Mem.fin (L:=[ba ez,cA N]++_) M (List.sublist_append_left _ _) gj⟩
theorem UH{D:b6}{N:dO}{g j:Nat}{A:bz}{w0:World}(H:Has w0 [ba D,cA N])(cb:D.is g A)(eF:N.ks.length<=1099511627776)(ax:j<A.n)(aI:(A.read j).length<=1024){e n:Int}{q:List UInt8}(al:me N.ks 2 (j:Int) (A.read j)=some (e,n,q))(bE:q.length<=35184372088832)(aj:¬(b4 q).2=0):aY prog 59 [ai g 0,.iface 87 (ai N.cO 0),aa (j:Int)] w0 [ba D,cA N] (fun _:b6=>.tuple #[(b4 q).1.val,.bool false]) (fun x=>[ba x,cA N]) (fun x=>x.is g (A.bump j)):=by
 refine enter (n:=53) func59 U U U ?_;intro fr E;have M:=ht H;refine aV E<|bh (ob:=.cells _ 45) (fun g=>ai g 0) M 0 U (bT U T.fu) fun aZ w M=>fun fr E=>?_;have M:=M.aH 1 rfl;refine bN E<|bC ([ba D]) M 3 rfl (ar rfl rfl T.mn) rfl (fun H=>mR H cb ax) fun⟨c,ez⟩ w gj M=>ah (v:=.bool _) 6 rfl rfl<|cP M 4 rfl (ar rfl rfl T.oi) (yL (M.bytes 0 rfl) (M.u7 (i:=3) rfl) eF al) rfl fun fV w _ M=>bh (ob:=.cells #[_,_,_,_,_] 116) (fun g=>ai g 0) M 3 rfl (bT rfl T.fG) fun bQ w M=>bj (i:=0) (cs':= #[aa 2,aa e,aa n,aa (j:Int),fV]) M 0 rfl rfl (dr (vs:= #[aa 2,aa e,aa n,aa (j:Int),fV]) rfl rfl rfl T.fE rfl (M.row (i:=0) rfl) rfl (by obtain⟨fI,fm,bV⟩:=Reads.slice (M.reads 1 rfl);rw[bV];rfl) rfl) rfl fun w M=>ah (v:=.bool _) 2 rfl rfl<|ah 2 rfl (aE rfl rfl T.ec (M.row (i:=0) rfl) rfl)<|bo M 0 rfl (ar rfl rfl T.qw) (qx (M.bytes 1 rfl) bE) fun w M=>bh (ob:=.cells _ 45) (fun g=>ai g 0) M 3 rfl (bT rfl T.fu) fun cF w M=>bj (i:=0) (cs':=(b4 q).1.cells.toArray) M 0 rfl rfl (cB (vs:=(b4 q).1.cells.toArray) rfl rfl rfl T.dV (Rec.size (eO q)) (M.row (i:=0) rfl) (rfl) (fun v aD=>Rec.eX _ v aD)) rfl fun w M=>fun fr E=>?_;have M:=M.aH 5 rfl;have M:Mem _ _ ([.bb aZ (.cells Rec.zero.cells.toArray 45)]++_) _ _:=M;refine bN E<|bw 1 U fun fr E=>?_;refine(iQ (B:=T.pU) (Vs:=(.af (.agg (b4 q).1.cells.toArray):: .af _:: .af (.bool false):: .af _:: .af undef:: .af undef:: .af undef:: .af undef:: .af undef:: .af (.bool _):: .af _:: .af undef:: .af undef:: .af undef:: .af undef:: .af (.bool _)::cL w.heap.size ([.bb aZ (.cells Rec.zero.cells.toArray 45)]) (fun _:Unit=>undef) (fun _=>[.bb aZ (.cells (b4 q).1.cells.toArray 45)]) (fun _=>True):: .af _::[])) (fs (ga 16 ([.bb aZ (.cells Rec.zero.cells.toArray 45)])) w.drew) T.rc E T.mixed T.rb U ?_ ⟨bY U U M (fun i g h=>h.2) (fun x w' aA aL ab=>cW U U T.da (aA.row (i:=0) U) (Rec.size (eO q))),
   b5 U U M (fun i g h=>h.2),
   bY U U M (fun i g h=>h.2) (fun x w' aA aL ab=>eZ U (decide_eq_false aj)),
   b5 U U M (fun i g h=>h.2),
   h2 U U (fun x=>⟨U,U⟩),
   h2 U U (fun x=>⟨U,U⟩),
   h2 U U (fun x=>⟨U,U⟩),
   h2 U U (fun x=>⟨U,U⟩),
   h2 U U (fun x=>⟨U,U⟩),
   bY U U M (fun i g h=>h.2) (fun x w' aA aL ab=>rfl),
   b5 U U M (fun i g h=>h.2),
   h2 U U (fun x=>⟨U,U⟩),
   h2 U U (fun x=>⟨U,U⟩),
   h2 U U (fun x=>⟨U,U⟩),
   h2 U U (fun x=>⟨U,U⟩),
   bY U U M (fun i g h=>h.2) (fun x w' aA aL ab=>rfl),
   ph U U M (fun x w' aA c4 aL ab=>⟨U,U,U,cB (vs:=(b4 q).1.cells.toArray) U U U T.dV (Rec.size (eO q)) (c4.dG 0 U) (rfl) (fun v aD=>Rec.eX _ v aD)⟩),
   b5 U U M (fun i g h=>h.2),ay⟩ ?_)
 ·exact hJ U ((aK (aK (aK (aK (aK (aK (aK (aK (aK (aK (aK (aK (aK (aK (aK (aK (fK U cJ.fJ (aK hH)))))))))))))))))))
 intro x fr w ⟨b,ak,cX⟩ ab E;obtain⟨u,bn, -,M⟩:=M.behind (val:=fun _:Unit=>undef) (outs:=fun _=>[.bb aZ (.cells (b4 q).1.cells.toArray 45)]) (p:=fun _=>True) cX (ab 16 aN);refine cm E<|aU 0 U fun fr E=>?_;refine fW E U U U T.da (M.row (i:=0) U) (Rec.size (eO q)) ?_;have M:=M.aH 6 rfl;have M:=M.aH 6 rfl;exact⟨ez,U,Mem.fin (L:=[ba ez,cA N]++_) M (List.sublist_append_left _ _) gj⟩
theorem UI{D:b6}{N:dO}{g j:Nat}{A:bz}{w0:World}(H:Has w0 [ba D,cA N])(cb:D.is g A)(eF:N.ks.length<=1099511627776)(ax:j<A.n)(aI:(A.read j).length<=1024){e n:Int}{q:List UInt8}(al:me N.ks 2 (j:Int) (A.read j)=some (e,n,q))(bE:q.length<=35184372088832)(aj:(b4 q).2=0)(an:¬(b4 q).1.bF=e):aY prog 59 [ai g 0,.iface 87 (ai N.cO 0),aa (j:Int)] w0 [ba D,cA N] (fun _:b6=>.tuple #[(b4 q).1.val,.bool false]) (fun x=>[ba x,cA N]) (fun x=>x.is g (A.bump j)):=by
 refine enter (n:=53) func59 U U U ?_;intro fr E;have M:=ht H;refine aV E<|bh (ob:=.cells _ 45) (fun g=>ai g 0) M 0 U (bT U T.fu) fun aZ w M=>fun fr E=>?_;have M:=M.aH 1 rfl;refine bN E<|bC ([ba D]) M 3 rfl (ar rfl rfl T.mn) rfl (fun H=>mR H cb ax) fun⟨c,ez⟩ w gj M=>ah (v:=.bool _) 6 rfl rfl<|cP M 4 rfl (ar rfl rfl T.oi) (yL (M.bytes 0 rfl) (M.u7 (i:=3) rfl) eF al) rfl fun fV w _ M=>bh (ob:=.cells #[_,_,_,_,_] 116) (fun g=>ai g 0) M 3 rfl (bT rfl T.fG) fun bQ w M=>bj (i:=0) (cs':= #[aa 2,aa e,aa n,aa (j:Int),fV]) M 0 rfl rfl (dr (vs:= #[aa 2,aa e,aa n,aa (j:Int),fV]) rfl rfl rfl T.fE rfl (M.row (i:=0) rfl) rfl (by obtain⟨fI,fm,bV⟩:=Reads.slice (M.reads 1 rfl);rw[bV];rfl) rfl) rfl fun w M=>ah (v:=.bool _) 2 rfl rfl<|ah 2 rfl (aE rfl rfl T.ec (M.row (i:=0) rfl) rfl)<|bo M 0 rfl (ar rfl rfl T.qw) (qx (M.bytes 1 rfl) bE) fun w M=>bh (ob:=.cells _ 45) (fun g=>ai g 0) M 3 rfl (bT rfl T.fu) fun cF w M=>bj (i:=0) (cs':=(b4 q).1.cells.toArray) M 0 rfl rfl (cB (vs:=(b4 q).1.cells.toArray) rfl rfl rfl T.dV (Rec.size (eO q)) (M.row (i:=0) rfl) (rfl) (fun v aD=>Rec.eX _ v aD)) rfl fun w M=>fun fr E=>?_;have M:=M.aH 5 rfl;have M:Mem _ _ ([.bb aZ (.cells Rec.zero.cells.toArray 45)]++_) _ _:=M;refine bN E<|bw 1 U fun fr E=>?_;refine(iQ (B:=T.pU) (Vs:=(.af (.agg (b4 q).1.cells.toArray):: .af _:: .af (.bool true):: .af _:: .af (ai _ 2):: .af (aa (b4 q).1.bF):: .af (ai _ 1):: .af (aa _):: .af (.bool false):: .af (.bool _):: .af _:: .af undef:: .af undef:: .af undef:: .af undef:: .af (.bool _)::cL w.heap.size ([.bb aZ (.cells Rec.zero.cells.toArray 45)]) (fun _:Unit=>undef) (fun _=>[.bb aZ (.cells (b4 q).1.cells.toArray 45)]) (fun _=>True):: .af _::[])) (fs (ga 16 ([.bb aZ (.cells Rec.zero.cells.toArray 45)])) w.drew) T.rc E T.mixed T.rb U ?_ ⟨bY U U M (fun i g h=>h.2) (fun x w' aA aL ab=>cW U U T.da (aA.row (i:=0) U) (Rec.size (eO q))),
   b5 U U M (fun i g h=>h.2),
   bY U U M (fun i g h=>h.2) (fun x w' aA aL ab=>eZ U (decide_eq_true aj)),
   b5 U U M (fun i g h=>h.2),
   b5 U U M (fun i g h=>h.2),
   bY U U M (fun i g h=>h.2) (fun x w' aA aL ab=>aE U U T.bc (aA.row (i:=0) U) Rec.ho),
   b5 U U M (fun i g h=>h.2),
   bY U U M (fun i g h=>h.2) (fun x w' aA aL ab=>aE U U T.bc (aA.row (i:=1) U) U),
   bY U U M (fun i g h=>h.2) (fun x w' aA aL ab=>eZ U (decide_eq_false an)),
   bY U U M (fun i g h=>h.2) (fun x w' aA aL ab=>rfl),
   b5 U U M (fun i g h=>h.2),
   h2 U U (fun x=>⟨U,U⟩),
   h2 U U (fun x=>⟨U,U⟩),
   h2 U U (fun x=>⟨U,U⟩),
   h2 U U (fun x=>⟨U,U⟩),
   bY U U M (fun i g h=>h.2) (fun x w' aA aL ab=>rfl),
   ph U U M (fun x w' aA c4 aL ab=>⟨U,U,U,cB (vs:=(b4 q).1.cells.toArray) U U U T.dV (Rec.size (eO q)) (c4.dG 0 U) (rfl) (fun v aD=>Rec.eX _ v aD)⟩),
   b5 U U M (fun i g h=>h.2),ay⟩ ?_)
 ·exact hJ U ((aK (aK (aK (aK (aK (aK (aK (aK (aK (aK (aK (aK (aK (aK (aK (aK (fK U cJ.fJ (aK hH)))))))))))))))))))
 intro x fr w ⟨b,ak,cX⟩ ab E;obtain⟨u,bn, -,M⟩:=M.behind (val:=fun _:Unit=>undef) (outs:=fun _=>[.bb aZ (.cells (b4 q).1.cells.toArray 45)]) (p:=fun _=>True) cX (ab 16 aN);refine cm E<|aU 0 U fun fr E=>?_;refine fW E U U U T.da (M.row (i:=0) U) (Rec.size (eO q)) ?_;have M:=M.aH 6 rfl;have M:=M.aH 6 rfl;exact⟨ez,U,Mem.fin (L:=[ba ez,cA N]++_) M (List.sublist_append_left _ _) gj⟩
theorem UJ{D:b6}{N:dO}{g j:Nat}{A:bz}{w0:World}(H:Has w0 [ba D,cA N])(cb:D.is g A)(eF:N.ks.length<=1099511627776)(ax:j<A.n)(aI:(A.read j).length<=1024){e n:Int}{q:List UInt8}(al:me N.ks 2 (j:Int) (A.read j)=some (e,n,q))(bE:q.length<=35184372088832)(aj:(b4 q).2=0)(an:(b4 q).1.bF=e)(aB:¬1+(b4 q).1.bq.tmod 2=(j:Int)):aY prog 59 [ai g 0,.iface 87 (ai N.cO 0),aa (j:Int)] w0 [ba D,cA N] (fun _:b6=>.tuple #[(b4 q).1.val,.bool false]) (fun x=>[ba x,cA N]) (fun x=>x.is g (A.bump j)):=by
 refine enter (n:=53) func59 U U U ?_;intro fr E;have M:=ht H;refine aV E<|bh (ob:=.cells _ 45) (fun g=>ai g 0) M 0 U (bT U T.fu) fun aZ w M=>fun fr E=>?_;have M:=M.aH 1 rfl;refine bN E<|bC ([ba D]) M 3 rfl (ar rfl rfl T.mn) rfl (fun H=>mR H cb ax) fun⟨c,ez⟩ w gj M=>ah (v:=.bool _) 6 rfl rfl<|cP M 4 rfl (ar rfl rfl T.oi) (yL (M.bytes 0 rfl) (M.u7 (i:=3) rfl) eF al) rfl fun fV w _ M=>bh (ob:=.cells #[_,_,_,_,_] 116) (fun g=>ai g 0) M 3 rfl (bT rfl T.fG) fun bQ w M=>bj (i:=0) (cs':= #[aa 2,aa e,aa n,aa (j:Int),fV]) M 0 rfl rfl (dr (vs:= #[aa 2,aa e,aa n,aa (j:Int),fV]) rfl rfl rfl T.fE rfl (M.row (i:=0) rfl) rfl (by obtain⟨fI,fm,bV⟩:=Reads.slice (M.reads 1 rfl);rw[bV];rfl) rfl) rfl fun w M=>ah (v:=.bool _) 2 rfl rfl<|ah 2 rfl (aE rfl rfl T.ec (M.row (i:=0) rfl) rfl)<|bo M 0 rfl (ar rfl rfl T.qw) (qx (M.bytes 1 rfl) bE) fun w M=>bh (ob:=.cells _ 45) (fun g=>ai g 0) M 3 rfl (bT rfl T.fu) fun cF w M=>bj (i:=0) (cs':=(b4 q).1.cells.toArray) M 0 rfl rfl (cB (vs:=(b4 q).1.cells.toArray) rfl rfl rfl T.dV (Rec.size (eO q)) (M.row (i:=0) rfl) (rfl) (fun v aD=>Rec.eX _ v aD)) rfl fun w M=>fun fr E=>?_;have M:=M.aH 5 rfl;have M:Mem _ _ ([.bb aZ (.cells Rec.zero.cells.toArray 45)]++_) _ _:=M;refine bN E<|bw 1 U fun fr E=>?_;refine(iQ (B:=T.pU) (Vs:=(.af (.agg (b4 q).1.cells.toArray):: .af _:: .af (.bool true):: .af _:: .af (ai _ 2):: .af (aa (b4 q).1.bF):: .af (ai _ 1):: .af (aa _):: .af (.bool true):: .af (.bool _):: .af _:: .af (.agg (b4 q).1.cells.toArray):: .af (aa (1+(b4 q).1.bq.tmod 2)):: .af _:: .af (.bool false):: .af (.bool _)::cL w.heap.size ([.bb aZ (.cells Rec.zero.cells.toArray 45)]) (fun _:Unit=>undef) (fun _=>[.bb aZ (.cells (b4 q).1.cells.toArray 45)]) (fun _=>True):: .af _::[])) (fs (ga 16 ([.bb aZ (.cells Rec.zero.cells.toArray 45)])) w.drew) T.rc E T.mixed T.rb U ?_ ⟨bY U U M (fun i g h=>h.2) (fun x w' aA aL ab=>cW U U T.da (aA.row (i:=0) U) (Rec.size (eO q))),
   b5 U U M (fun i g h=>h.2),
   bY U U M (fun i g h=>h.2) (fun x w' aA aL ab=>eZ U (decide_eq_true aj)),
   b5 U U M (fun i g h=>h.2),
   b5 U U M (fun i g h=>h.2),
   bY U U M (fun i g h=>h.2) (fun x w' aA aL ab=>aE U U T.bc (aA.row (i:=0) U) Rec.ho),
   b5 U U M (fun i g h=>h.2),
   bY U U M (fun i g h=>h.2) (fun x w' aA aL ab=>aE U U T.bc (aA.row (i:=1) U) U),
   bY U U M (fun i g h=>h.2) (fun x w' aA aL ab=>eZ U (decide_eq_true an)),
   bY U U M (fun i g h=>h.2) (fun x w' aA aL ab=>rfl),
   b5 U U M (fun i g h=>h.2),
   bY U U M (fun i g h=>h.2) (fun x w' aA aL ab=>cW U U T.da (aA.row (i:=0) U) (Rec.size (eO q))),
   nC U U M (fun i g h=>h.2) (fun x w' aA aL ab=>⟨_,_,U,U,U,ar U U T.ot,(n4 (eO q) _).ext⟩),
   b5 U U M (fun i g h=>h.2),
   bY U U M (fun i g h=>h.2) (fun x w' aA aL ab=>eZ U (decide_eq_false aB)),
   bY U U M (fun i g h=>h.2) (fun x w' aA aL ab=>rfl),
   ph U U M (fun x w' aA c4 aL ab=>⟨U,U,U,cB (vs:=(b4 q).1.cells.toArray) U U U T.dV (Rec.size (eO q)) (c4.dG 0 U) (rfl) (fun v aD=>Rec.eX _ v aD)⟩),
   b5 U U M (fun i g h=>h.2),ay⟩ ?_)
 ·exact hJ U ((aK (aK (aK (aK (aK (aK (aK (aK (aK (aK (aK (aK (aK (aK (aK (aK (fK U cJ.fJ (aK hH)))))))))))))))))))
 intro x fr w ⟨b,ak,cX⟩ ab E;obtain⟨u,bn, -,M⟩:=M.behind (val:=fun _:Unit=>undef) (outs:=fun _=>[.bb aZ (.cells (b4 q).1.cells.toArray 45)]) (p:=fun _=>True) cX (ab 16 aN);refine cm E<|aU 0 U fun fr E=>?_;refine fW E U U U T.da (M.row (i:=0) U) (Rec.size (eO q)) ?_;have M:=M.aH 6 rfl;have M:=M.aH 6 rfl;exact⟨ez,U,Mem.fin (L:=[ba ez,cA N]++_) M (List.sublist_append_left _ _) gj⟩
theorem UK{D:b6}{N:dO}{g j:Nat}{A:bz}{w0:World}(H:Has w0 [ba D,cA N])(cb:D.is g A)(eF:N.ks.length<=1099511627776)(ax:j<A.n)(aI:(A.read j).length<=1024){e n:Int}{q:List UInt8}(al:me N.ks 2 (j:Int) (A.read j)=some (e,n,q))(bE:q.length<=35184372088832)(aj:(b4 q).2=0)(an:(b4 q).1.bF=e)(aB:1+(b4 q).1.bq.tmod 2=(j:Int)):aY prog 59 [ai g 0,.iface 87 (ai N.cO 0),aa (j:Int)] w0 [ba D,cA N] (fun _:b6=>.tuple #[(b4 q).1.val,.bool true]) (fun x=>[ba x,cA N]) (fun x=>x.is g (A.bump j)):=by
 refine enter (n:=53) func59 U U U ?_;intro fr E;have M:=ht H;refine aV E<|bh (ob:=.cells _ 45) (fun g=>ai g 0) M 0 U (bT U T.fu) fun aZ w M=>fun fr E=>?_;have M:=M.aH 1 rfl;refine bN E<|bC ([ba D]) M 3 rfl (ar rfl rfl T.mn) rfl (fun H=>mR H cb ax) fun⟨c,ez⟩ w gj M=>ah (v:=.bool _) 6 rfl rfl<|cP M 4 rfl (ar rfl rfl T.oi) (yL (M.bytes 0 rfl) (M.u7 (i:=3) rfl) eF al) rfl fun fV w _ M=>bh (ob:=.cells #[_,_,_,_,_] 116) (fun g=>ai g 0) M 3 rfl (bT rfl T.fG) fun bQ w M=>bj (i:=0) (cs':= #[aa 2,aa e,aa n,aa (j:Int),fV]) M 0 rfl rfl (dr (vs:= #[aa 2,aa e,aa n,aa (j:Int),fV]) rfl rfl rfl T.fE rfl (M.row (i:=0) rfl) rfl (by obtain⟨fI,fm,bV⟩:=Reads.slice (M.reads 1 rfl);rw[bV];rfl) rfl) rfl fun w M=>ah (v:=.bool _) 2 rfl rfl<|ah 2 rfl (aE rfl rfl T.ec (M.row (i:=0) rfl) rfl)<|bo M 0 rfl (ar rfl rfl T.qw) (qx (M.bytes 1 rfl) bE) fun w M=>bh (ob:=.cells _ 45) (fun g=>ai g 0) M 3 rfl (bT rfl T.fu) fun cF w M=>bj (i:=0) (cs':=(b4 q).1.cells.toArray) M 0 rfl rfl (cB (vs:=(b4 q).1.cells.toArray) rfl rfl rfl T.dV (Rec.size (eO q)) (M.row (i:=0) rfl) (rfl) (fun v aD=>Rec.eX _ v aD)) rfl fun w M=>fun fr E=>?_;have M:=M.aH 5 rfl;have M:Mem _ _ ([.bb aZ (.cells Rec.zero.cells.toArray 45)]++_) _ _:=M;refine bN E<|bw 1 U fun fr E=>?_;refine(iQ (B:=T.pU) (Vs:=(.af (.agg (b4 q).1.cells.toArray):: .af _:: .af (.bool true):: .af _:: .af (ai _ 2):: .af (aa (b4 q).1.bF):: .af (ai _ 1):: .af (aa _):: .af (.bool true):: .af (.bool _):: .af _:: .af (.agg (b4 q).1.cells.toArray):: .af (aa (1+(b4 q).1.bq.tmod 2)):: .af _:: .af (.bool true):: .af (.bool _)::cL w.heap.size ([.bb aZ (.cells Rec.zero.cells.toArray 45)]) (fun _:Unit=>undef) (fun _=>[.bb aZ (.cells (b4 q).1.cells.toArray 45)]) (fun _=>True):: .af _::[])) (fs (ga 16 ([.bb aZ (.cells Rec.zero.cells.toArray 45)])) w.drew) T.rc E T.mixed T.rb U ?_ ⟨bY U U M (fun i g h=>h.2) (fun x w' aA aL ab=>cW U U T.da (aA.row (i:=0) U) (Rec.size (eO q))),
   b5 U U M (fun i g h=>h.2),
   bY U U M (fun i g h=>h.2) (fun x w' aA aL ab=>eZ U (decide_eq_true aj)),
   b5 U U M (fun i g h=>h.2),
   b5 U U M (fun i g h=>h.2),
   bY U U M (fun i g h=>h.2) (fun x w' aA aL ab=>aE U U T.bc (aA.row (i:=0) U) Rec.ho),
   b5 U U M (fun i g h=>h.2),
   bY U U M (fun i g h=>h.2) (fun x w' aA aL ab=>aE U U T.bc (aA.row (i:=1) U) U),
   bY U U M (fun i g h=>h.2) (fun x w' aA aL ab=>eZ U (decide_eq_true an)),
   bY U U M (fun i g h=>h.2) (fun x w' aA aL ab=>rfl),
   b5 U U M (fun i g h=>h.2),
   bY U U M (fun i g h=>h.2) (fun x w' aA aL ab=>cW U U T.da (aA.row (i:=0) U) (Rec.size (eO q))),
   nC U U M (fun i g h=>h.2) (fun x w' aA aL ab=>⟨_,_,U,U,U,ar U U T.ot,(n4 (eO q) _).ext⟩),
   b5 U U M (fun i g h=>h.2),
   bY U U M (fun i g h=>h.2) (fun x w' aA aL ab=>eZ U (decide_eq_true aB)),
   bY U U M (fun i g h=>h.2) (fun x w' aA aL ab=>rfl),
   ph U U M (fun x w' aA c4 aL ab=>⟨U,U,U,cB (vs:=(b4 q).1.cells.toArray) U U U T.dV (Rec.size (eO q)) (c4.dG 0 U) (rfl) (fun v aD=>Rec.eX _ v aD)⟩),
   b5 U U M (fun i g h=>h.2),ay⟩ ?_)
 ·exact hJ U ((aK (aK (aK (aK (aK (aK (aK (aK (aK (aK (aK (aK (aK (aK (aK (aK (fK U cJ.fJ (aK hH)))))))))))))))))))
 intro x fr w ⟨b,ak,cX⟩ ab E;obtain⟨u,bn, -,M⟩:=M.behind (val:=fun _:Unit=>undef) (outs:=fun _=>[.bb aZ (.cells (b4 q).1.cells.toArray 45)]) (p:=fun _=>True) cX (ab 16 aN);refine cm E<|aU 0 U fun fr E=>?_;refine fW E U U U T.da (M.row (i:=0) U) (Rec.size (eO q)) ?_;have M:=M.aH 6 rfl;have M:=M.aH 6 rfl;exact⟨ez,U,Mem.fin (L:=[ba ez,cA N]++_) M (List.sublist_append_left _ _) gj⟩
theorem H7{D:b6}{N:dO}{g j:Nat}{A:bz}{w0:World}(H:Has w0 [ba D,cA N])(cb:D.is g A)(eF:N.ks.length<=1099511627776)(ax:j<A.n):aY prog 59 [ai g 0,.iface 87 (ai N.cO 0),aa (j:Int)] w0 [ba D,cA N] (fun _:b6=>.tuple #[(hS A N.ks j).1.val,.bool (hS A N.ks j).2]) (fun x=>[ba x,cA N]) (fun x=>x.is g (A.bump j)):=by
 have aI:=cb.2.B7 j;unfold hS;cases al:me N.ks 2 (j:Int) (A.read j)with
 |none=>
  have key:∃err:Int,err≠0/\∀(w:World) (c:Value),Bytes w c (A.read j)->Has w [cA N]->bH prog 110 [.iface 87 (ai N.cO 0),aa 2,aa (j:Int),c] w (.tuple #[.agg #[aa 0,aa 0,aa 0,aa 0,.slice none 0 0],aa err]):=WB eF al;obtain⟨err,pq,pr⟩:=key;exact UL H cb eF ax aI err pq pr
 |some x=>
  obtain⟨e,n,q⟩:=x;have bE:q.length<=35184372088832:=by have:=Xc al;omega
  simp only;by_cases aj:(b4 q).2=0
  ·by_cases an:(b4 q).1.bF=e
   ·by_cases aB:1+(b4 q).1.bq.tmod 2=(j:Int)
    ·rw[decide_eq_true (⟨aj,an,aB⟩:(b4 q).2=0/\_/\_)];exact UK H cb eF ax aI al bE aj an aB
    ·rw[decide_eq_false (fun c=>aB c.2.2)];exact UJ H cb eF ax aI al bE aj an aB
   ·rw[decide_eq_false (fun c=>an c.2.1)];exact UI H cb eF ax aI al bE aj an
  ·rw[decide_eq_false (fun c=>aj c.1)];exact UH H cb eF ax aI al bE aj
theorem LC{D:b6}{N:dO}{g:Nat}{A:bz}{w0:World}(H:Has w0 [ba D,cA N])(cb:D.is g A)(eF:N.ks.length<=1099511627776)(a6:2<A.n):aY prog 16 [ai g 0,.iface 87 (ai N.cO 0)] w0 [ba D,cA N] (fun x:Value×b6=>x.1) (fun x=>[.eI 45 x.1 (ki A N.ks 2),ba x.2,cA N]) (fun x=>x.2.is g (dy A 2)):=by
 refine enter (n:=30) func16 U U U ?_;intro fr E;have M:=ht H;refine aV E<|cv 2 U fun fr E=>?_;refine dM (sz:=1) (xs:=[aa 1,aa 2]) E M U U U U U (ev (us:=[_,_]) (vs:=[_,_]) U U U T.en T.c3 T.k7 U U U U U) (rfl) (Nat.le_refl _) aN (rfl) fun is fr w M E=>?_;refine cw E<|ah 0 U (bx U U U U T.en (M.reads 0 U))<|bw 1 U fun fr E=>?_;refine cI (fun d fr w=>∃(i:Nat) (v is:Value) (kA:b6),d=2-i/\i<=2/\kA.is g (dy A i)/\Env [(12,aa i),(11,aa 2),(10,is),(5,v),(1,.iface 87 (ai N.cO 0)),(0,ai g 0)] 30 fr/\Mem w0 (aS [ba D,cA N]) [.eI 45 v (ki A N.ks i),.row 3 1 is 2 [aa 1,aa 2],ba kA,cA N] (fun _=>True) w) (2) ?_ ?_
 ·have M:=M.yk 45;refine⟨0,_,_,D,U,by decide,cb,E.lL [0,1,5,10,11,12] rfl,M⟩
 ·clear E M;rintro d fr w ⟨i,v,is,kA,rfl,hle,rR,E,M⟩;by_cases hi:i<2
  ·have ax:i+1<(dy A i).n:=by rw[uJ];omega
   cases ak:(hS (dy A i) N.ks (i+1)).2
   ·refine bA E<|bD 0 U U ae<|ah 1 U (bL (i:=i) U (M.reads 1 U) U U (rfl) (hi) T.en T.c3)<|ah (v:=aa ((i+1:Nat):Int)) 0 U (b2 U (M.reads 1 U) U T.bc (by rw[Nat.mul_one];exact x4 hi))<|fun fr E=>?_;have M:=M.aH 3 rfl;have M:=M.aH 3 rfl;refine bN E<|bC ([ba kA,cA N]) M 4 U (ar U U T.xu) U (fun H=>H7 H rR eF ax) fun ez w gj M=>fun fr E=>?_;rw[ak]at E;refine bN E<|bh (ob:=.cells _ 45) (fun g=>ai g 0) M 3 U (bT U T.fu) fun aZ w M=>bj (i:=0) (cs':=(hS (dy A i) N.ks (i+1)).1.cells.toArray) M 0 U U (cB (vs:=(hS (dy A i) N.ks (i+1)).1.cells.toArray) U U U T.dV (Rec.size (tD _ _ _)) (M.row (i:=0) U) (rfl) (fun v aD=>Rec.eX _ v aD)) U fun w M=>a1 (y:=((i+1:Nat):Int)) 3 U U ((br ae ae).trans ae)<|ct 1 U fun fr E=>?_;have M:=M.aH 2 rfl;have M:=M.aH 2 rfl;have M:=M.aH 4 rfl;have M:=M.aH 4 rfl;refine⟨2-(i+1),by omega,i+1,_,_,ez,U,by omega,by rw[dy];exact gj,E.lL [0,1,5,10,11,12] rfl,Mem.take (L:=[.eI 45 _ (ki A N.ks (i+1)),.row 3 1 _ 2 [aa 1,aa 2],ba ez,cA N]) (M.as (by rw[Oh (by simpa using ak)];rfl))⟩
   ·refine bA E<|bD 0 U U ae<|ah 1 U (bL (i:=i) U (M.reads 1 U) U U (rfl) (hi) T.en T.c3)<|ah (v:=aa ((i+1:Nat):Int)) 0 U (b2 U (M.reads 1 U) U T.bc (by rw[Nat.mul_one];exact x4 hi))<|fun fr E=>?_;have M:=M.aH 3 rfl;have M:=M.aH 3 rfl;refine bN E<|bC ([ba kA,cA N]) M 4 U (ar U U T.xu) U (fun H=>H7 H rR eF ax) fun ez w gj M=>fun fr E=>?_;rw[ak]at E;refine bN E<|bh (ob:=.cells _ 45) (fun g=>ai g 0) M 3 U (bT U T.fu) fun bQ w M=>bj (i:=0) (cs':=(hS (dy A i) N.ks (i+1)).1.cells.toArray) M 0 U U (cB (vs:=(hS (dy A i) N.ks (i+1)).1.cells.toArray) U U U T.dV (Rec.size (tD _ _ _)) (M.row (i:=0) U) (rfl) (fun v aD=>Rec.eX _ v aD)) U fun w M=>ah (v:=.agg (hS (dy A i) N.ks (i+1)).1.cells.toArray) 4 U (cW U U T.da (M.row (i:=0) U) (Rec.size (tD _ _ _)))<|cv 0 U fun fr E=>?_;refine dM (sz:=136) (xs:=(hS (dy A i) N.ks (i+1)).1.cells) E M U U U U U (ev (us:=(hS (dy A i) N.ks (i+1)).1.cells) (vs:=[.agg (hS (dy A i) N.ks (i+1)).1.cells.toArray]) U U U T.gd T.dV T.DB U (by simp[Value.cells,Rec.len (tD (dy A i) N.ks (i+1))]) U U (by simp[Value.cells])) (by simp[Rec.len (tD (dy A i) N.ks (i+1))]) (Nat.le_refl _) aN (by simp[List.take_of_length_le,Rec.len (tD (dy A i) N.ks (i+1))]) fun one fr w M E=>?_;refine Cs (i:=4) (xs:=ki A N.ks i) (news:=[(hS (dy A i) N.ks (i+1)).1]) E M U U U U U U U U U U U T.gd T.gd T.zr T.w7 (B8 (M.reads 0 U)) (by have:=Eh A N.ks i;simp;omega) fun v fr w M E=>?_;refine cw E<|a1 (y:=((i+1:Nat):Int)) 1 U U ((br ae ae).trans ae)<|ct 1 U fun fr E=>?_;have M:=M.aH 3 rfl;have M:=M.aH 3 rfl;have M:=M.aH 5 rfl;have M:=M.aH 5 rfl;refine⟨2-(i+1),by omega,i+1,_,_,ez,U,by omega,by rw[dy];exact gj,E.lL [0,1,5,10,11,12] rfl,Mem.take (L:=[.eI 45 _ (ki A N.ks (i+1)),.row 3 1 _ 2 [aa 1,aa 2],ba ez,cA N]) (M.as (by rw[zF (by simpa using ak)];rfl))⟩
  ·obtain rfl:i=2:=by omega
   refine bA E<|ch 0 U U (rfl)<|aU 3 U fun fr E=>?_;refine bi E U U ?_;have M:=M.aH 3 rfl;have M:=M.aH 3 rfl;have M:=M.aH 2 rfl;exact⟨(v,kA),U,Mem.fin (L:=[.eI 45 v (ki A N.ks 2),ba kA,cA N]++_) M (List.sublist_append_left _ _) rR⟩
theorem Iu{D:b6}{N:dO}{g:Nat}{A:bz}{r:Rec}{num:Int}{w0:World}(H:Has w0 [ba D,cA N])(cb:D.is g A)(ap:r.Ok)(eF:N.ks.length<=1099511627776){a:Nat}(bm:N.cO=a):aY prog 44 [ai g 0,.iface 87 (ai a 0),r.val,aa num] w0 [ba D,cA N] (fun _:b6×dO=>aa (ma A N.ks r num).1) (fun x=>[ba x.1,cA x.2]) (fun x=>x.1.is g (ma A N.ks r num).2.1/\x.2.cO=a/\x.2.ks=(ma A N.ks r num).2.2/\x.2.b7=N.b7):=by
 subst bm;exact VI H cb ap eF
theorem LD{D:b6}{N:dO}{g:Nat}{A:bz}{w0:World}(H:Has w0 [ba D,cA N])(cb:D.is g A)(eF:N.ks.length<=1099511627776)(a6:2<A.n){a:Nat}(bm:N.cO=a):aY prog 16 [ai g 0,.iface 87 (ai a 0)] w0 [ba D,cA N] (fun x:Value×b6=>x.1) (fun x=>[.eI 45 x.1 (ki A N.ks 2),ba x.2,cA N]) (fun x=>x.2.is g (dy A 2)):=by
 subst bm;exact LC H cb eF a6
end
section
open Go.RowKit Go.a2 Go.Proofs Go.Proofs.Tryz
theorem _root_.Go.a2.aY.Hc{α:Type}{P:Program}{f:FuncId}{args:List Value}{w:World}{ins:List az}{val:α->Value}{outs:α->List az}{p:α->Prop}{k:Nat}{o:Obj}(h:aY P f args w ins val outs p)(bG:¬aS ins k)(ab:w.heap[k]? =some o):aY P f args w ins val outs (fun x=>p x/\¬aS (outs x) k):=
 h.mono fun oe w' ⟨x,aj,an,aB,be,bZ⟩=>⟨x,aj,an,aB,be,bZ,fun bu=>(be k bu).elim bG fun h=>Nat.not_le_of_lt (Array.getElem?_eq_some_iff.1 ab).1 h⟩
def iw(A:bz)(key:List UInt8)(r:Rec)(num:Int):Int×bz:=
 if r.fA/\gZ r.bF num (1+r.bq.tmod 2)then((A.write (1+r.bq.tmod 2) (iK key 2 r.bF num (1+r.bq.tmod 2) r.bytes)).1,(A.write (1+r.bq.tmod 2) (iK key 2 r.bF num (1+r.bq.tmod 2) r.bytes)).2)else(7,A)
def gT(A:bz)(key:List UInt8)(j:Nat):Rec×Bool:=
 match k2 key 2 (j:Int) (A.read j)with
 |none=>(Rec.zero,false)
 |some (e,_,q)=>((b4 q).1,decide ((b4 q).2=0/\(b4 q).1.bF=e/\1+(b4 q).1.bq.tmod 2=(j:Int)))
theorem sc(A:bz)(key:List UInt8)(j:Nat):(gT A key j).1.Ok:=by unfold gT;split;exact Rec.e0;exact eO _
def fQ(A:bz)(key:List UInt8):Nat->List Rec
 |0=>[]
 |i+1=>fQ A key i++(if(gT (dy A i) key (i+1)).2=true then [(gT (dy A i) key (i+1)).1]else [])
theorem Eg{A:bz}{key:List UInt8}{i:Nat}(h:(gT (dy A i) key (i+1)).2=true):fQ A key (i+1)=fQ A key i++[(gT (dy A i) key (i+1)).1]:=by rw[fQ,if_pos h]
theorem uD{A:bz}{key:List UInt8}{i:Nat}(h:(gT (dy A i) key (i+1)).2=false):fQ A key (i+1)=fQ A key i:=by rw[fQ,if_neg (by simp[h]),List.append_nil]
theorem wU(A:bz)(key:List UInt8):∀i,(fQ A key i).length<=i
 |0=>Nat.le_refl _
 |i+1=>by
  have:=wU A key i;rw[fQ,List.length_append];split
  ·simp;omega
  ·simp;omega
theorem ON{D:b6}{B:fz}{key:List UInt8}{g:Nat}{A:bz}{w0:World}(H:Has w0 [ba D,bp B key])(cb:D.is g A)(ab:w0.heap[0]? =some (.cells (a7 bt).toArray 243))(cj:¬aS [ba D,bp B key] 0){r:Rec}{num:Int}(ap:r.Ok)(hm:¬r.fA):aY prog 44 [ai g 0,.iface 33 (ai B.eE 0),r.val,aa num] w0 [ba D,bp B key] (fun _:b6=>aa 7) (fun x=>[ba x,bp B key]) (fun x=>x.is g A):=by
 refine enter (n:=40) func44 U U U ?_;intro fr E;have M:=Mem.begin (Φ:=fun w'=>w'.heap[0]? =some (.cells (a7 bt).toArray 243)/\True) H (fun w' h=>⟨(h.block 0 (Array.getElem?_eq_some_iff.1 ab).1 cj).trans ab,ay⟩);refine aV E<|bh (ob:=.cells (r.cells.toArray) 45) (fun g=>ai g 0) M 0 U (cS (cs:=(r.cells.toArray)) U U) fun aZ w M=>ah (v:=.agg r.cells.toArray) 1 U (cW U U T.da (M.row (i:=0) U) (Rec.size ap))<|bo M 0 U (ar U U T.rK) (DP ap hm) fun w M=>ah (v:=.bool _) 6 U U<|aU 3 U fun fr E=>?_;refine bi E U U ?_;have M:=M.aH 2 rfl;have M:=M.aH 2 rfl;exact⟨D,U,Mem.fin (L:=[ba D,bp B key]++_) M (List.sublist_append_left _ _) cb⟩
theorem OP{D:b6}{B:fz}{key:List UInt8}{g:Nat}{A:bz}{w0:World}(H:Has w0 [ba D,bp B key])(cb:D.is g A)(ab:w0.heap[0]? =some (.cells (a7 bt).toArray 243))(cj:¬aS [ba D,bp B key] 0){r:Rec}{num:Int}(ap:r.Ok)(hm:r.fA)(aP:¬gZ r.bF num (1+r.bq.tmod 2)):aY prog 44 [ai g 0,.iface 33 (ai B.eE 0),r.val,aa num] w0 [ba D,bp B key] (fun _:b6=>aa 7) (fun x=>[ba x,bp B key]) (fun x=>x.is g A):=by
 refine enter (n:=40) func44 U U U ?_;intro fr E;have M:=Mem.begin (Φ:=fun w'=>w'.heap[0]? =some (.cells (a7 bt).toArray 243)/\True) H (fun w' h=>⟨(h.block 0 (Array.getElem?_eq_some_iff.1 ab).1 cj).trans ab,ay⟩);refine aV E<|bh (ob:=.cells (r.cells.toArray) 45) (fun g=>ai g 0) M 0 U (cS (cs:=(r.cells.toArray)) U U) fun aZ w M=>ah (v:=.agg r.cells.toArray) 1 U (cW U U T.da (M.row (i:=0) U) (Rec.size ap))<|cP M 0 U (ar U U T.rK) (uA ap hm) U fun pl w _ M=>ah (v:=.bool _) 6 U U<|bw 1 U fun fr E=>?_;refine(dR (B:=T.wy) (Vs:=(.af _:: .af (ai _ 2):: .af (aa r.bF):: .af _:: .af (.agg r.cells.toArray):: .af (aa _):: .af _:: .af (.agg ([aa 2,aa r.bF,aa num,aa (1+r.bq.tmod 2),pl]).toArray):: .af (.tuple #[.slice none 0 0,aa 7]):: .af _:: .af (.slice none 0 0):: .af (aa 7):: .af (.slice none 0 0):: .af (aa 7)::[])) T.y7 E T.mixed T.y6 U (ej.e6 U) ⟨aw U U,
   aw U U,
   aC U U (fun x w ad ab=>aE U U T.bc ((M.aQ ad).row (i:=1) U) Rec.ho),
   aw U U,
   aC U U (fun x w ad ab=>cW U U T.da ((M.aQ ad).row (i:=1) U) (Rec.size ap)),
   cE U U (fun x w ad ab=>⟨_,_,U,U,U,ar U U T.ot,(n4 ap _).ext⟩),
   aw U U,
   aC rfl rfl (fun x w ad ab=>dl (vs:=[aa 2,aa r.bF,aa num,aa (1+r.bq.tmod 2),pl]) (us:=[aa 2,aa r.bF,aa num,aa (1+r.bq.tmod 2),pl]) rfl rfl T.g5 T.g6 (by obtain⟨fI,fm,bV⟩:=Reads.slice ((M.aQ ad).bytes 0 rfl);rw[bV];simp[Value.cells]) rfl rfl (by obtain⟨fI,fm,bV⟩:=Reads.slice ((M.aQ ad).bytes 0 rfl);rw[bV];simp[Value.cells])),
   cE rfl rfl (fun x w ad ab=>⟨_,_,rfl,rfl,rfl,ar rfl rfl T.xy,(Pv (gq:=B.eE) (kd:=2) ((M.aQ ad).bytes 0 rfl) aN aN aP).ext⟩),
   aw rfl rfl,
   aw rfl rfl,
   aw rfl rfl,
   aw rfl rfl,
   aw rfl rfl,ay⟩ ?_)
 intro x fr w ad ab E;have M:=M.ext ad;refine cm E<|ah (v:=.bool _) 1 U U<|aU 3 U fun fr E=>?_;refine bi E U U ?_;have M:=M.aH 3 rfl;have M:=M.aH 3 rfl;exact⟨D,U,Mem.fin (L:=[ba D,bp B key]++_) M (List.sublist_append_left _ _) cb⟩
theorem OO{D:b6}{B:fz}{key:List UInt8}{g:Nat}{A:bz}{w0:World}(H:Has w0 [ba D,bp B key])(cb:D.is g A)(ab:w0.heap[0]? =some (.cells (a7 bt).toArray 243))(cj:¬aS [ba D,bp B key] 0){r:Rec}{num:Int}(ap:r.Ok)(hm:r.fA)(aP:gZ r.bF num (1+r.bq.tmod 2)):aY prog 44 [ai g 0,.iface 33 (ai B.eE 0),r.val,aa num] w0 [ba D,bp B key] (fun _:b6=>aa (A.write (1+r.bq.tmod 2) (iK key 2 r.bF num (1+r.bq.tmod 2) r.bytes)).1) (fun x=>[ba x,bp B key]) (fun x=>x.is g (A.write (1+r.bq.tmod 2) (iK key 2 r.bF num (1+r.bq.tmod 2) r.bytes)).2):=by
 refine enter (n:=40) func44 U U U ?_;intro fr E;have M:=Mem.begin (Φ:=fun w'=>w'.heap[0]? =some (.cells (a7 bt).toArray 243)/\True) H (fun w' h=>⟨(h.block 0 (Array.getElem?_eq_some_iff.1 ab).1 cj).trans ab,ay⟩);refine aV E<|bh (ob:=.cells (r.cells.toArray) 45) (fun g=>ai g 0) M 0 U (cS (cs:=(r.cells.toArray)) U U) fun aZ w M=>ah (v:=.agg r.cells.toArray) 1 U (cW U U T.da (M.row (i:=0) U) (Rec.size ap))<|cP M 0 U (ar U U T.rK) (uA ap hm) U fun pl w _ M=>ah (v:=.bool _) 6 U U<|bw 1 U fun fr E=>?_;refine(dR (B:=T.wy) (Vs:=(.af _:: .af (ai _ 2):: .af (aa r.bF):: .af _:: .af (.agg r.cells.toArray):: .af (aa _):: .af _:: .af (.agg ([aa 2,aa r.bF,aa num,aa (1+r.bq.tmod 2),pl]).toArray)::cL w.heap.size ([]) (fun v:Value=>.tuple #[v,aa 0]) (fun v=>[az.bytes 5 v (iK key 2 r.bF num (1+r.bq.tmod 2) r.bytes)]) (fun _=>True)::cL w.heap.size ([]) (fun v:Value=>.tuple #[v,aa 0]) (fun v=>[az.bytes 5 v (iK key 2 r.bF num (1+r.bq.tmod 2) r.bytes)]) (fun _=>True)::cL w.heap.size ([]) (fun v:Value=>v) (fun v=>[az.bytes 5 v (iK key 2 r.bF num (1+r.bq.tmod 2) r.bytes)]) (fun _=>True):: .af (aa 0)::cL w.heap.size ([]) (fun v:Value=>v) (fun v=>[az.bytes 5 v (iK key 2 r.bF num (1+r.bq.tmod 2) r.bytes)]) (fun _=>True):: .af _::[])) T.y7 E T.mixed T.y6 U (fH.dF ⟨ay,ay,ay,ay,ay,ay,ay,ay,cn.hx,cn.hx,cn.hx,ay,cn.hx,ay,ay⟩) ⟨aw U U,
   aw U U,
   aC U U (fun x w ad ab=>aE U U T.bc ((M.aQ ad).row (i:=1) U) Rec.ho),
   aw U U,
   aC U U (fun x w ad ab=>cW U U T.da ((M.aQ ad).row (i:=1) U) (Rec.size ap)),
   cE U U (fun x w ad ab=>⟨_,_,U,U,U,ar U U T.ot,(n4 ap _).ext⟩),
   aw U U,
   aC rfl rfl (fun x w ad ab=>dl (vs:=[aa 2,aa r.bF,aa num,aa (1+r.bq.tmod 2),pl]) (us:=[aa 2,aa r.bF,aa num,aa (1+r.bq.tmod 2),pl]) rfl rfl T.g5 T.g6 (by obtain⟨fI,fm,bV⟩:=Reads.slice ((M.aQ ad).bytes 0 rfl);rw[bV];simp[Value.cells]) rfl rfl (by obtain⟨fI,fm,bV⟩:=Reads.slice ((M.aQ ad).bytes 0 rfl);rw[bV];simp[Value.cells])),
   cE rfl rfl (fun x w ad ab=>⟨_,_,rfl,rfl,rfl,ar rfl rfl T.xy,(Pu (kd:=2) (e:=r.bF) (n:=num) (at':=(1+r.bq.tmod 2)) ((M.aQ ad).dG (e:=bp B key) 3 rfl) (M.aQ ad).fact.1 ((M.aQ ad).bytes 0 rfl) aN aN aP (by rw[Rec.sY ap];decide)).qk ad.size⟩),
   lk (j:=8) rfl rfl rfl rfl (fun x w y bn=>⟨rfl,rfl,rfl,tO rfl bn⟩),
   lk (j:=9) rfl rfl rfl rfl (fun x w y bn=>⟨rfl,rfl,rfl,nf rfl bn rfl⟩),
   uZ (j:=9) rfl rfl rfl rfl (fun x w y bn=>⟨rfl,rfl,rfl,nf rfl bn rfl⟩),
   lk (j:=10) rfl rfl rfl rfl (fun x w y bn=>⟨rfl,rfl,rfl,ku rfl bn⟩),
   aw rfl rfl,ay⟩ ?_)
 intro x fr w ad ab E;obtain⟨b,bn, -,M⟩:=M.kG (val:=fun v:Value=>v) (outs:=fun v=>[az.bytes 5 v (iK key 2 r.bF num (1+r.bq.tmod 2) r.bytes)]) (p:=fun _=>True) ad (ab 12 aN);have E:=Env.gD (t:=11) E rfl bn;refine cm E<|ah (v:=.bool _) 1 U U<|ah (v:=.agg r.cells.toArray) 2 U (cW U U T.da (M.row (i:=2) U) (Rec.size ap))<|bo M 0 U (ar U U T.ot) (n4 ap _) fun w M=>fun fr E=>?_;have M:=M.aH 3 rfl;refine bN E<|bC ([ba D]) M 1 U (ar U U T.FW) U (fun H=>D7 H cb (M.bytes 1 U) (M.off (i:=0) (j:=1) U U U)) fun ez w gj M=>aU 1 U fun fr E=>?_;refine bi E U U ?_;have M:=M.aH 4 rfl;have M:=M.aH 1 rfl;exact⟨ez,U,Mem.fin (L:=[ba ez,bp B key]++_) M (List.sublist_append_left _ _) gj⟩
theorem OQ{D:b6}{B:fz}{key:List UInt8}{g:Nat}{A:bz}{w0:World}(H:Has w0 [ba D,bp B key])(cb:D.is g A)(ab:w0.heap[0]? =some (.cells (a7 bt).toArray 243))(cj:¬aS [ba D,bp B key] 0){r:Rec}{num:Int}(ap:r.Ok):aY prog 44 [ai g 0,.iface 33 (ai B.eE 0),r.val,aa num] w0 [ba D,bp B key] (fun _:b6=>aa (iw A key r num).1) (fun x=>[ba x,bp B key]) (fun x=>x.is g (iw A key r num).2):=by
 by_cases hm:r.fA
 ·by_cases aP:gZ r.bF num (1+r.bq.tmod 2)
  ·have e:iw A key r num=((A.write (1+r.bq.tmod 2) (iK key 2 r.bF num (1+r.bq.tmod 2) r.bytes)).1,(A.write (1+r.bq.tmod 2) (iK key 2 r.bF num (1+r.bq.tmod 2) r.bytes)).2):=by unfold iw;rw[if_pos ⟨hm,aP⟩]
   rw[e];exact OO H cb ab cj ap hm aP
  ·have e:iw A key r num=(7,A):=by unfold iw;rw[if_neg fun c=>aP c.2]
   rw[e];exact OP H cb ab cj ap hm aP
 ·have e:iw A key r num=(7,A):=by unfold iw;rw[if_neg fun c=>hm c.1]
  rw[e];exact ON H cb ab cj ap hm
theorem O7{D:b6}{B:fz}{key:List UInt8}{g:Nat}{A:bz}{w0:World}(H:Has w0 [ba D,bp B key])(cb:D.is g A)(ab:w0.heap[0]? =some (.cells (a7 bt).toArray 243))(cj:¬aS [ba D,bp B key] 0){j:Nat}(ax:j<A.n)(aI:(A.read j).length<=1024)(err:Int)(pq:err≠0)(pr:∀(w:World) (B:fz) (c:Value),Bytes w c (A.read j)->(bp B key).ok w->w.heap[0]? =some (.cells (a7 bt).toArray 243)->bH prog 110 [.iface 33 (ai B.eE 0),aa 2,aa (j:Int),c] w (.tuple #[.agg #[aa 0,aa 0,aa 0,aa 0,.slice none 0 0],aa err])):aY prog 59 [ai g 0,.iface 33 (ai B.eE 0),aa (j:Int)] w0 [ba D,bp B key] (fun _:b6=>.tuple #[Rec.zero.val,.bool false]) (fun x=>[ba x,bp B key]) (fun x=>x.is g (A.bump j)):=by
 refine enter (n:=53) func59 U U U ?_;intro fr E;have M:=Mem.begin (Φ:=fun w'=>w'.heap[0]? =some (.cells (a7 bt).toArray 243)/\True) H (fun w' h=>⟨(h.block 0 (Array.getElem?_eq_some_iff.1 ab).1 cj).trans ab,ay⟩);refine aV E<|bh (ob:=.cells _ 45) (fun g=>ai g 0) M 0 U (bT U T.fu) fun aZ w M=>fun fr E=>?_;have M:=M.aH 1 rfl;refine bN E<|bC ([ba D]) M 3 U (ar U U T.mn) U (fun H=>mR H cb ax) fun⟨c,ez⟩ w gj M=>ah (v:=.bool _) 6 U U<|bo M 4 U (ar U U T.oi) (pr _ _ _ (M.bytes 0 U) (M.dG (e:=bp B key) 3 U) M.fact.1) fun w M=>bh (ob:=.cells #[_,_,_,_,_] 116) (fun g=>ai g 0) M 3 U (bT U T.fG) fun bQ w M=>bj (i:=0) (cs':= #[aa 0,aa 0,aa 0,aa 0,.slice none 0 0]) M 0 U U (dr (vs:= #[_,_,_,_,_]) U U U T.fE U (M.row (i:=0) U) U U U) U fun w M=>ei 2 U U (by simp;exact pq)<|ah (v:=.agg (Rec.zero.cells).toArray) 1 U (dl (vs:=[]) (us:=Rec.zero.cells) U U T.mL T.mN (rfl) U U (rfl))<|bj (i:=3) (cs':=Rec.zero.cells.toArray) M 0 U U (cB (vs:=Rec.zero.cells.toArray) U U U T.dV (Rec.size Rec.e0) (M.row (i:=3) U) (rfl) (by simpa using Rec.eX _)) U fun w M=>aU 1 U fun fr E=>?_;refine fW E U U U T.da (M.row (i:=3) U) (Rec.size Rec.e0) ?_;have M:=M.aH 4 rfl;have M:=M.aH 3 rfl;exact⟨ez,U,Mem.fin (L:=[ba ez,bp B key]++_) M (List.sublist_append_left _ _) gj⟩
theorem O3{D:b6}{B:fz}{key:List UInt8}{g:Nat}{A:bz}{w0:World}(H:Has w0 [ba D,bp B key])(cb:D.is g A)(ab:w0.heap[0]? =some (.cells (a7 bt).toArray 243))(cj:¬aS [ba D,bp B key] 0){j:Nat}(ax:j<A.n)(aI:(A.read j).length<=1024){e n:Int}{q:List UInt8}(al:k2 key 2 (j:Int) (A.read j)=some (e,n,q))(bE:q.length<=35184372088832)(aj:¬(b4 q).2=0):aY prog 59 [ai g 0,.iface 33 (ai B.eE 0),aa (j:Int)] w0 [ba D,bp B key] (fun _:b6=>.tuple #[(b4 q).1.val,.bool false]) (fun x=>[ba x,bp B key]) (fun x=>x.is g (A.bump j)):=by
 refine enter (n:=53) func59 U U U ?_;intro fr E;have M:=Mem.begin (Φ:=fun w'=>w'.heap[0]? =some (.cells (a7 bt).toArray 243)/\True) H (fun w' h=>⟨(h.block 0 (Array.getElem?_eq_some_iff.1 ab).1 cj).trans ab,ay⟩);refine aV E<|bh (ob:=.cells _ 45) (fun g=>ai g 0) M 0 U (bT U T.fu) fun aZ w M=>fun fr E=>?_;have M:=M.aH 1 rfl;refine bN E<|bC ([ba D]) M 3 rfl (ar rfl rfl T.mn) rfl (fun H=>mR H cb ax) fun⟨c,ez⟩ w gj M=>ah (v:=.bool _) 6 rfl rfl<|cP M 4 rfl (ar rfl rfl T.oi) (w3 (M.dG (e:=bp B key) 3 rfl) M.fact.1 (M.bytes 0 rfl) al) rfl fun fV w _ M=>bh (ob:=.cells #[_,_,_,_,_] 116) (fun g=>ai g 0) M 3 rfl (bT rfl T.fG) fun bQ w M=>bj (i:=0) (cs':= #[aa 2,aa e,aa n,aa (j:Int),fV]) M 0 rfl rfl (dr (vs:= #[aa 2,aa e,aa n,aa (j:Int),fV]) rfl rfl rfl T.fE rfl (M.row (i:=0) rfl) rfl (by obtain⟨fI,fm,bV⟩:=Reads.slice (M.reads 1 rfl);rw[bV];rfl) rfl) rfl fun w M=>ah (v:=.bool _) 2 rfl rfl<|ah 2 rfl (aE rfl rfl T.ec (M.row (i:=0) rfl) rfl)<|bo M 0 rfl (ar rfl rfl T.qw) (qx (M.bytes 1 rfl) bE) fun w M=>bh (ob:=.cells _ 45) (fun g=>ai g 0) M 3 rfl (bT rfl T.fu) fun cF w M=>bj (i:=0) (cs':=(b4 q).1.cells.toArray) M 0 rfl rfl (cB (vs:=(b4 q).1.cells.toArray) rfl rfl rfl T.dV (Rec.size (eO q)) (M.row (i:=0) rfl) (rfl) (fun v aD=>Rec.eX _ v aD)) rfl fun w M=>fun fr E=>?_;have M:=M.aH 5 rfl;have M:Mem _ _ ([.bb aZ (.cells Rec.zero.cells.toArray 45)]++_) _ _:=M;refine bN E<|bw 1 U fun fr E=>?_;refine(iQ (B:=T.pU) (Vs:=(.af (.agg (b4 q).1.cells.toArray):: .af _:: .af (.bool false):: .af _:: .af undef:: .af undef:: .af undef:: .af undef:: .af undef:: .af (.bool _):: .af _:: .af undef:: .af undef:: .af undef:: .af undef:: .af (.bool _)::cL w.heap.size ([.bb aZ (.cells Rec.zero.cells.toArray 45)]) (fun _:Unit=>undef) (fun _=>[.bb aZ (.cells (b4 q).1.cells.toArray 45)]) (fun _=>True):: .af _::[])) (fs (ga 16 ([.bb aZ (.cells Rec.zero.cells.toArray 45)])) w.drew) T.rc E T.mixed T.rb U ?_ ⟨bY U U M (fun i g h=>h.2) (fun x w' aA aL ab=>cW U U T.da (aA.row (i:=0) U) (Rec.size (eO q))),
   b5 U U M (fun i g h=>h.2),
   bY U U M (fun i g h=>h.2) (fun x w' aA aL ab=>eZ U (decide_eq_false aj)),
   b5 U U M (fun i g h=>h.2),
   h2 U U (fun x=>⟨U,U⟩),
   h2 U U (fun x=>⟨U,U⟩),
   h2 U U (fun x=>⟨U,U⟩),
   h2 U U (fun x=>⟨U,U⟩),
   h2 U U (fun x=>⟨U,U⟩),
   bY U U M (fun i g h=>h.2) (fun x w' aA aL ab=>rfl),
   b5 U U M (fun i g h=>h.2),
   h2 U U (fun x=>⟨U,U⟩),
   h2 U U (fun x=>⟨U,U⟩),
   h2 U U (fun x=>⟨U,U⟩),
   h2 U U (fun x=>⟨U,U⟩),
   bY U U M (fun i g h=>h.2) (fun x w' aA aL ab=>rfl),
   ph U U M (fun x w' aA c4 aL ab=>⟨U,U,U,cB (vs:=(b4 q).1.cells.toArray) U U U T.dV (Rec.size (eO q)) (c4.dG 0 U) (rfl) (fun v aD=>Rec.eX _ v aD)⟩),
   b5 U U M (fun i g h=>h.2),ay⟩ ?_)
 ·exact hJ U ((aK (aK (aK (aK (aK (aK (aK (aK (aK (aK (aK (aK (aK (aK (aK (aK (fK U cJ.fJ (aK hH)))))))))))))))))))
 intro x fr w ⟨b,ak,cX⟩ ab E;obtain⟨u,bn, -,M⟩:=M.behind (val:=fun _:Unit=>undef) (outs:=fun _=>[.bb aZ (.cells (b4 q).1.cells.toArray 45)]) (p:=fun _=>True) cX (ab 16 aN);refine cm E<|aU 0 U fun fr E=>?_;refine fW E U U U T.da (M.row (i:=0) U) (Rec.size (eO q)) ?_;have M:=M.aH 6 rfl;have M:=M.aH 6 rfl;exact⟨ez,U,Mem.fin (L:=[ba ez,bp B key]++_) M (List.sublist_append_left _ _) gj⟩
theorem O4{D:b6}{B:fz}{key:List UInt8}{g:Nat}{A:bz}{w0:World}(H:Has w0 [ba D,bp B key])(cb:D.is g A)(ab:w0.heap[0]? =some (.cells (a7 bt).toArray 243))(cj:¬aS [ba D,bp B key] 0){j:Nat}(ax:j<A.n)(aI:(A.read j).length<=1024){e n:Int}{q:List UInt8}(al:k2 key 2 (j:Int) (A.read j)=some (e,n,q))(bE:q.length<=35184372088832)(aj:(b4 q).2=0)(an:¬(b4 q).1.bF=e):aY prog 59 [ai g 0,.iface 33 (ai B.eE 0),aa (j:Int)] w0 [ba D,bp B key] (fun _:b6=>.tuple #[(b4 q).1.val,.bool false]) (fun x=>[ba x,bp B key]) (fun x=>x.is g (A.bump j)):=by
 refine enter (n:=53) func59 U U U ?_;intro fr E;have M:=Mem.begin (Φ:=fun w'=>w'.heap[0]? =some (.cells (a7 bt).toArray 243)/\True) H (fun w' h=>⟨(h.block 0 (Array.getElem?_eq_some_iff.1 ab).1 cj).trans ab,ay⟩);refine aV E<|bh (ob:=.cells _ 45) (fun g=>ai g 0) M 0 U (bT U T.fu) fun aZ w M=>fun fr E=>?_;have M:=M.aH 1 rfl;refine bN E<|bC ([ba D]) M 3 rfl (ar rfl rfl T.mn) rfl (fun H=>mR H cb ax) fun⟨c,ez⟩ w gj M=>ah (v:=.bool _) 6 rfl rfl<|cP M 4 rfl (ar rfl rfl T.oi) (w3 (M.dG (e:=bp B key) 3 rfl) M.fact.1 (M.bytes 0 rfl) al) rfl fun fV w _ M=>bh (ob:=.cells #[_,_,_,_,_] 116) (fun g=>ai g 0) M 3 rfl (bT rfl T.fG) fun bQ w M=>bj (i:=0) (cs':= #[aa 2,aa e,aa n,aa (j:Int),fV]) M 0 rfl rfl (dr (vs:= #[aa 2,aa e,aa n,aa (j:Int),fV]) rfl rfl rfl T.fE rfl (M.row (i:=0) rfl) rfl (by obtain⟨fI,fm,bV⟩:=Reads.slice (M.reads 1 rfl);rw[bV];rfl) rfl) rfl fun w M=>ah (v:=.bool _) 2 rfl rfl<|ah 2 rfl (aE rfl rfl T.ec (M.row (i:=0) rfl) rfl)<|bo M 0 rfl (ar rfl rfl T.qw) (qx (M.bytes 1 rfl) bE) fun w M=>bh (ob:=.cells _ 45) (fun g=>ai g 0) M 3 rfl (bT rfl T.fu) fun cF w M=>bj (i:=0) (cs':=(b4 q).1.cells.toArray) M 0 rfl rfl (cB (vs:=(b4 q).1.cells.toArray) rfl rfl rfl T.dV (Rec.size (eO q)) (M.row (i:=0) rfl) (rfl) (fun v aD=>Rec.eX _ v aD)) rfl fun w M=>fun fr E=>?_;have M:=M.aH 5 rfl;have M:Mem _ _ ([.bb aZ (.cells Rec.zero.cells.toArray 45)]++_) _ _:=M;refine bN E<|bw 1 U fun fr E=>?_;refine(iQ (B:=T.pU) (Vs:=(.af (.agg (b4 q).1.cells.toArray):: .af _:: .af (.bool true):: .af _:: .af (ai _ 2):: .af (aa (b4 q).1.bF):: .af (ai _ 1):: .af (aa _):: .af (.bool false):: .af (.bool _):: .af _:: .af undef:: .af undef:: .af undef:: .af undef:: .af (.bool _)::cL w.heap.size ([.bb aZ (.cells Rec.zero.cells.toArray 45)]) (fun _:Unit=>undef) (fun _=>[.bb aZ (.cells (b4 q).1.cells.toArray 45)]) (fun _=>True):: .af _::[])) (fs (ga 16 ([.bb aZ (.cells Rec.zero.cells.toArray 45)])) w.drew) T.rc E T.mixed T.rb U ?_ ⟨bY U U M (fun i g h=>h.2) (fun x w' aA aL ab=>cW U U T.da (aA.row (i:=0) U) (Rec.size (eO q))),
   b5 U U M (fun i g h=>h.2),
   bY U U M (fun i g h=>h.2) (fun x w' aA aL ab=>eZ U (decide_eq_true aj)),
   b5 U U M (fun i g h=>h.2),
   b5 U U M (fun i g h=>h.2),
   bY U U M (fun i g h=>h.2) (fun x w' aA aL ab=>aE U U T.bc (aA.row (i:=0) U) Rec.ho),
   b5 U U M (fun i g h=>h.2),
   bY U U M (fun i g h=>h.2) (fun x w' aA aL ab=>aE U U T.bc (aA.row (i:=1) U) U),
   bY U U M (fun i g h=>h.2) (fun x w' aA aL ab=>eZ U (decide_eq_false an)),
   bY U U M (fun i g h=>h.2) (fun x w' aA aL ab=>rfl),
   b5 U U M (fun i g h=>h.2),
   h2 U U (fun x=>⟨U,U⟩),
   h2 U U (fun x=>⟨U,U⟩),
   h2 U U (fun x=>⟨U,U⟩),
   h2 U U (fun x=>⟨U,U⟩),
   bY U U M (fun i g h=>h.2) (fun x w' aA aL ab=>rfl),
   ph U U M (fun x w' aA c4 aL ab=>⟨U,U,U,cB (vs:=(b4 q).1.cells.toArray) U U U T.dV (Rec.size (eO q)) (c4.dG 0 U) (rfl) (fun v aD=>Rec.eX _ v aD)⟩),
   b5 U U M (fun i g h=>h.2),ay⟩ ?_)
 ·exact hJ U ((aK (aK (aK (aK (aK (aK (aK (aK (aK (aK (aK (aK (aK (aK (aK (aK (fK U cJ.fJ (aK hH)))))))))))))))))))
 intro x fr w ⟨b,ak,cX⟩ ab E;obtain⟨u,bn, -,M⟩:=M.behind (val:=fun _:Unit=>undef) (outs:=fun _=>[.bb aZ (.cells (b4 q).1.cells.toArray 45)]) (p:=fun _=>True) cX (ab 16 aN);refine cm E<|aU 0 U fun fr E=>?_;refine fW E U U U T.da (M.row (i:=0) U) (Rec.size (eO q)) ?_;have M:=M.aH 6 rfl;have M:=M.aH 6 rfl;exact⟨ez,U,Mem.fin (L:=[ba ez,bp B key]++_) M (List.sublist_append_left _ _) gj⟩
theorem O5{D:b6}{B:fz}{key:List UInt8}{g:Nat}{A:bz}{w0:World}(H:Has w0 [ba D,bp B key])(cb:D.is g A)(ab:w0.heap[0]? =some (.cells (a7 bt).toArray 243))(cj:¬aS [ba D,bp B key] 0){j:Nat}(ax:j<A.n)(aI:(A.read j).length<=1024){e n:Int}{q:List UInt8}(al:k2 key 2 (j:Int) (A.read j)=some (e,n,q))(bE:q.length<=35184372088832)(aj:(b4 q).2=0)(an:(b4 q).1.bF=e)(aB:¬1+(b4 q).1.bq.tmod 2=(j:Int)):aY prog 59 [ai g 0,.iface 33 (ai B.eE 0),aa (j:Int)] w0 [ba D,bp B key] (fun _:b6=>.tuple #[(b4 q).1.val,.bool false]) (fun x=>[ba x,bp B key]) (fun x=>x.is g (A.bump j)):=by
 refine enter (n:=53) func59 U U U ?_;intro fr E;have M:=Mem.begin (Φ:=fun w'=>w'.heap[0]? =some (.cells (a7 bt).toArray 243)/\True) H (fun w' h=>⟨(h.block 0 (Array.getElem?_eq_some_iff.1 ab).1 cj).trans ab,ay⟩);refine aV E<|bh (ob:=.cells _ 45) (fun g=>ai g 0) M 0 U (bT U T.fu) fun aZ w M=>fun fr E=>?_;have M:=M.aH 1 rfl;refine bN E<|bC ([ba D]) M 3 rfl (ar rfl rfl T.mn) rfl (fun H=>mR H cb ax) fun⟨c,ez⟩ w gj M=>ah (v:=.bool _) 6 rfl rfl<|cP M 4 rfl (ar rfl rfl T.oi) (w3 (M.dG (e:=bp B key) 3 rfl) M.fact.1 (M.bytes 0 rfl) al) rfl fun fV w _ M=>bh (ob:=.cells #[_,_,_,_,_] 116) (fun g=>ai g 0) M 3 rfl (bT rfl T.fG) fun bQ w M=>bj (i:=0) (cs':= #[aa 2,aa e,aa n,aa (j:Int),fV]) M 0 rfl rfl (dr (vs:= #[aa 2,aa e,aa n,aa (j:Int),fV]) rfl rfl rfl T.fE rfl (M.row (i:=0) rfl) rfl (by obtain⟨fI,fm,bV⟩:=Reads.slice (M.reads 1 rfl);rw[bV];rfl) rfl) rfl fun w M=>ah (v:=.bool _) 2 rfl rfl<|ah 2 rfl (aE rfl rfl T.ec (M.row (i:=0) rfl) rfl)<|bo M 0 rfl (ar rfl rfl T.qw) (qx (M.bytes 1 rfl) bE) fun w M=>bh (ob:=.cells _ 45) (fun g=>ai g 0) M 3 rfl (bT rfl T.fu) fun cF w M=>bj (i:=0) (cs':=(b4 q).1.cells.toArray) M 0 rfl rfl (cB (vs:=(b4 q).1.cells.toArray) rfl rfl rfl T.dV (Rec.size (eO q)) (M.row (i:=0) rfl) (rfl) (fun v aD=>Rec.eX _ v aD)) rfl fun w M=>fun fr E=>?_;have M:=M.aH 5 rfl;have M:Mem _ _ ([.bb aZ (.cells Rec.zero.cells.toArray 45)]++_) _ _:=M;refine bN E<|bw 1 U fun fr E=>?_;refine(iQ (B:=T.pU) (Vs:=(.af (.agg (b4 q).1.cells.toArray):: .af _:: .af (.bool true):: .af _:: .af (ai _ 2):: .af (aa (b4 q).1.bF):: .af (ai _ 1):: .af (aa _):: .af (.bool true):: .af (.bool _):: .af _:: .af (.agg (b4 q).1.cells.toArray):: .af (aa (1+(b4 q).1.bq.tmod 2)):: .af _:: .af (.bool false):: .af (.bool _)::cL w.heap.size ([.bb aZ (.cells Rec.zero.cells.toArray 45)]) (fun _:Unit=>undef) (fun _=>[.bb aZ (.cells (b4 q).1.cells.toArray 45)]) (fun _=>True):: .af _::[])) (fs (ga 16 ([.bb aZ (.cells Rec.zero.cells.toArray 45)])) w.drew) T.rc E T.mixed T.rb U ?_ ⟨bY U U M (fun i g h=>h.2) (fun x w' aA aL ab=>cW U U T.da (aA.row (i:=0) U) (Rec.size (eO q))),
   b5 U U M (fun i g h=>h.2),
   bY U U M (fun i g h=>h.2) (fun x w' aA aL ab=>eZ U (decide_eq_true aj)),
   b5 U U M (fun i g h=>h.2),
   b5 U U M (fun i g h=>h.2),
   bY U U M (fun i g h=>h.2) (fun x w' aA aL ab=>aE U U T.bc (aA.row (i:=0) U) Rec.ho),
   b5 U U M (fun i g h=>h.2),
   bY U U M (fun i g h=>h.2) (fun x w' aA aL ab=>aE U U T.bc (aA.row (i:=1) U) U),
   bY U U M (fun i g h=>h.2) (fun x w' aA aL ab=>eZ U (decide_eq_true an)),
   bY U U M (fun i g h=>h.2) (fun x w' aA aL ab=>rfl),
   b5 U U M (fun i g h=>h.2),
   bY U U M (fun i g h=>h.2) (fun x w' aA aL ab=>cW U U T.da (aA.row (i:=0) U) (Rec.size (eO q))),
   nC U U M (fun i g h=>h.2) (fun x w' aA aL ab=>⟨_,_,U,U,U,ar U U T.ot,(n4 (eO q) _).ext⟩),
   b5 U U M (fun i g h=>h.2),
   bY U U M (fun i g h=>h.2) (fun x w' aA aL ab=>eZ U (decide_eq_false aB)),
   bY U U M (fun i g h=>h.2) (fun x w' aA aL ab=>rfl),
   ph U U M (fun x w' aA c4 aL ab=>⟨U,U,U,cB (vs:=(b4 q).1.cells.toArray) U U U T.dV (Rec.size (eO q)) (c4.dG 0 U) (rfl) (fun v aD=>Rec.eX _ v aD)⟩),
   b5 U U M (fun i g h=>h.2),ay⟩ ?_)
 ·exact hJ U ((aK (aK (aK (aK (aK (aK (aK (aK (aK (aK (aK (aK (aK (aK (aK (aK (fK U cJ.fJ (aK hH)))))))))))))))))))
 intro x fr w ⟨b,ak,cX⟩ ab E;obtain⟨u,bn, -,M⟩:=M.behind (val:=fun _:Unit=>undef) (outs:=fun _=>[.bb aZ (.cells (b4 q).1.cells.toArray 45)]) (p:=fun _=>True) cX (ab 16 aN);refine cm E<|aU 0 U fun fr E=>?_;refine fW E U U U T.da (M.row (i:=0) U) (Rec.size (eO q)) ?_;have M:=M.aH 6 rfl;have M:=M.aH 6 rfl;exact⟨ez,U,Mem.fin (L:=[ba ez,bp B key]++_) M (List.sublist_append_left _ _) gj⟩
theorem O6{D:b6}{B:fz}{key:List UInt8}{g:Nat}{A:bz}{w0:World}(H:Has w0 [ba D,bp B key])(cb:D.is g A)(ab:w0.heap[0]? =some (.cells (a7 bt).toArray 243))(cj:¬aS [ba D,bp B key] 0){j:Nat}(ax:j<A.n)(aI:(A.read j).length<=1024){e n:Int}{q:List UInt8}(al:k2 key 2 (j:Int) (A.read j)=some (e,n,q))(bE:q.length<=35184372088832)(aj:(b4 q).2=0)(an:(b4 q).1.bF=e)(aB:1+(b4 q).1.bq.tmod 2=(j:Int)):aY prog 59 [ai g 0,.iface 33 (ai B.eE 0),aa (j:Int)] w0 [ba D,bp B key] (fun _:b6=>.tuple #[(b4 q).1.val,.bool true]) (fun x=>[ba x,bp B key]) (fun x=>x.is g (A.bump j)):=by
 refine enter (n:=53) func59 U U U ?_;intro fr E;have M:=Mem.begin (Φ:=fun w'=>w'.heap[0]? =some (.cells (a7 bt).toArray 243)/\True) H (fun w' h=>⟨(h.block 0 (Array.getElem?_eq_some_iff.1 ab).1 cj).trans ab,ay⟩);refine aV E<|bh (ob:=.cells _ 45) (fun g=>ai g 0) M 0 U (bT U T.fu) fun aZ w M=>fun fr E=>?_;have M:=M.aH 1 rfl;refine bN E<|bC ([ba D]) M 3 rfl (ar rfl rfl T.mn) rfl (fun H=>mR H cb ax) fun⟨c,ez⟩ w gj M=>ah (v:=.bool _) 6 rfl rfl<|cP M 4 rfl (ar rfl rfl T.oi) (w3 (M.dG (e:=bp B key) 3 rfl) M.fact.1 (M.bytes 0 rfl) al) rfl fun fV w _ M=>bh (ob:=.cells #[_,_,_,_,_] 116) (fun g=>ai g 0) M 3 rfl (bT rfl T.fG) fun bQ w M=>bj (i:=0) (cs':= #[aa 2,aa e,aa n,aa (j:Int),fV]) M 0 rfl rfl (dr (vs:= #[aa 2,aa e,aa n,aa (j:Int),fV]) rfl rfl rfl T.fE rfl (M.row (i:=0) rfl) rfl (by obtain⟨fI,fm,bV⟩:=Reads.slice (M.reads 1 rfl);rw[bV];rfl) rfl) rfl fun w M=>ah (v:=.bool _) 2 rfl rfl<|ah 2 rfl (aE rfl rfl T.ec (M.row (i:=0) rfl) rfl)<|bo M 0 rfl (ar rfl rfl T.qw) (qx (M.bytes 1 rfl) bE) fun w M=>bh (ob:=.cells _ 45) (fun g=>ai g 0) M 3 rfl (bT rfl T.fu) fun cF w M=>bj (i:=0) (cs':=(b4 q).1.cells.toArray) M 0 rfl rfl (cB (vs:=(b4 q).1.cells.toArray) rfl rfl rfl T.dV (Rec.size (eO q)) (M.row (i:=0) rfl) (rfl) (fun v aD=>Rec.eX _ v aD)) rfl fun w M=>fun fr E=>?_;have M:=M.aH 5 rfl;have M:Mem _ _ ([.bb aZ (.cells Rec.zero.cells.toArray 45)]++_) _ _:=M;refine bN E<|bw 1 U fun fr E=>?_;refine(iQ (B:=T.pU) (Vs:=(.af (.agg (b4 q).1.cells.toArray):: .af _:: .af (.bool true):: .af _:: .af (ai _ 2):: .af (aa (b4 q).1.bF):: .af (ai _ 1):: .af (aa _):: .af (.bool true):: .af (.bool _):: .af _:: .af (.agg (b4 q).1.cells.toArray):: .af (aa (1+(b4 q).1.bq.tmod 2)):: .af _:: .af (.bool true):: .af (.bool _)::cL w.heap.size ([.bb aZ (.cells Rec.zero.cells.toArray 45)]) (fun _:Unit=>undef) (fun _=>[.bb aZ (.cells (b4 q).1.cells.toArray 45)]) (fun _=>True):: .af _::[])) (fs (ga 16 ([.bb aZ (.cells Rec.zero.cells.toArray 45)])) w.drew) T.rc E T.mixed T.rb U ?_ ⟨bY U U M (fun i g h=>h.2) (fun x w' aA aL ab=>cW U U T.da (aA.row (i:=0) U) (Rec.size (eO q))),
   b5 U U M (fun i g h=>h.2),
   bY U U M (fun i g h=>h.2) (fun x w' aA aL ab=>eZ U (decide_eq_true aj)),
   b5 U U M (fun i g h=>h.2),
   b5 U U M (fun i g h=>h.2),
   bY U U M (fun i g h=>h.2) (fun x w' aA aL ab=>aE U U T.bc (aA.row (i:=0) U) Rec.ho),
   b5 U U M (fun i g h=>h.2),
   bY U U M (fun i g h=>h.2) (fun x w' aA aL ab=>aE U U T.bc (aA.row (i:=1) U) U),
   bY U U M (fun i g h=>h.2) (fun x w' aA aL ab=>eZ U (decide_eq_true an)),
   bY U U M (fun i g h=>h.2) (fun x w' aA aL ab=>rfl),
   b5 U U M (fun i g h=>h.2),
   bY U U M (fun i g h=>h.2) (fun x w' aA aL ab=>cW U U T.da (aA.row (i:=0) U) (Rec.size (eO q))),
   nC U U M (fun i g h=>h.2) (fun x w' aA aL ab=>⟨_,_,U,U,U,ar U U T.ot,(n4 (eO q) _).ext⟩),
   b5 U U M (fun i g h=>h.2),
   bY U U M (fun i g h=>h.2) (fun x w' aA aL ab=>eZ U (decide_eq_true aB)),
   bY U U M (fun i g h=>h.2) (fun x w' aA aL ab=>rfl),
   ph U U M (fun x w' aA c4 aL ab=>⟨U,U,U,cB (vs:=(b4 q).1.cells.toArray) U U U T.dV (Rec.size (eO q)) (c4.dG 0 U) (rfl) (fun v aD=>Rec.eX _ v aD)⟩),
   b5 U U M (fun i g h=>h.2),ay⟩ ?_)
 ·exact hJ U ((aK (aK (aK (aK (aK (aK (aK (aK (aK (aK (aK (aK (aK (aK (aK (aK (fK U cJ.fJ (aK hH)))))))))))))))))))
 intro x fr w ⟨b,ak,cX⟩ ab E;obtain⟨u,bn, -,M⟩:=M.behind (val:=fun _:Unit=>undef) (outs:=fun _=>[.bb aZ (.cells (b4 q).1.cells.toArray 45)]) (p:=fun _=>True) cX (ab 16 aN);refine cm E<|aU 0 U fun fr E=>?_;refine fW E U U U T.da (M.row (i:=0) U) (Rec.size (eO q)) ?_;have M:=M.aH 6 rfl;have M:=M.aH 6 rfl;exact⟨ez,U,Mem.fin (L:=[ba ez,bp B key]++_) M (List.sublist_append_left _ _) gj⟩
theorem Ew{D:b6}{B:fz}{key:List UInt8}{g:Nat}{A:bz}{w0:World}(H:Has w0 [ba D,bp B key])(cb:D.is g A)(ab:w0.heap[0]? =some (.cells (a7 bt).toArray 243))(cj:¬aS [ba D,bp B key] 0){j:Nat}(ax:j<A.n):aY prog 59 [ai g 0,.iface 33 (ai B.eE 0),aa (j:Int)] w0 [ba D,bp B key] (fun _:b6=>.tuple #[(gT A key j).1.val,.bool (gT A key j).2]) (fun x=>[ba x,bp B key]) (fun x=>x.is g (A.bump j)):=by
 have aI:=cb.2.B7 j;unfold gT;cases al:k2 key 2 (j:Int) (A.read j)with
 |none=>
  obtain⟨err,pq,pr⟩:=Pm al;exact O7 H cb ab cj ax aI err pq pr
 |some x=>
  obtain⟨e,n,q⟩:=x;have bE:q.length<=35184372088832:=by have:=I8 al;omega
  simp only;by_cases aj:(b4 q).2=0
  ·by_cases an:(b4 q).1.bF=e
   ·by_cases aB:1+(b4 q).1.bq.tmod 2=(j:Int)
    ·rw[decide_eq_true (⟨aj,an,aB⟩:(b4 q).2=0/\_/\_)];exact O6 H cb ab cj ax aI al bE aj an aB
    ·rw[decide_eq_false (fun c=>aB c.2.2)];exact O5 H cb ab cj ax aI al bE aj an aB
   ·rw[decide_eq_false (fun c=>an c.2.1)];exact O4 H cb ab cj ax aI al bE aj an
  ·rw[decide_eq_false (fun c=>aj c.1)];exact O3 H cb ab cj ax aI al bE aj
theorem OB{D:b6}{B:fz}{key:List UInt8}{g:Nat}{A:bz}{w0:World}(H:Has w0 [ba D,bp B key])(cb:D.is g A)(ab:w0.heap[0]? =some (.cells (a7 bt).toArray 243))(cj:¬aS [ba D,bp B key] 0)(a6:2<A.n):aY prog 16 [ai g 0,.iface 33 (ai B.eE 0)] w0 [ba D,bp B key] (fun x:Value×b6=>x.1) (fun x=>[.eI 45 x.1 (fQ A key 2),ba x.2,bp B key]) (fun x=>x.2.is g (dy A 2)):=by
 refine enter (n:=30) func16 U U U ?_;intro fr E;have M:=Mem.begin (Φ:=fun w'=>w'.heap[0]? =some (.cells (a7 bt).toArray 243)/\True) H (fun w' h=>⟨(h.block 0 (Array.getElem?_eq_some_iff.1 ab).1 cj).trans ab,ay⟩);refine aV E<|cv 2 U fun fr E=>?_;refine dM (sz:=1) (xs:=[aa 1,aa 2]) E M U U U U U (ev (us:=[_,_]) (vs:=[_,_]) U U U T.en T.c3 T.k7 U U U U U) (rfl) (Nat.le_refl _) aN (rfl) fun is fr w M E=>?_;refine cw E<|ah 0 U (bx U U U U T.en (M.reads 0 U))<|bw 1 U fun fr E=>?_;refine cI (fun d fr w=>∃(i:Nat) (v is:Value) (kA:b6),d=2-i/\i<=2/\kA.is g (dy A i)/\¬aS [ba kA,bp B key] 0/\Env [(12,aa i),(11,aa 2),(10,is),(5,v),(1,.iface 33 (ai B.eE 0)),(0,ai g 0)] 30 fr/\Mem w0 (aS [ba D,bp B key]) [.eI 45 v (fQ A key i),.row 3 1 is 2 [aa 1,aa 2],ba kA,bp B key] (fun w'=>w'.heap[0]? =some (.cells (a7 bt).toArray 243)/\True) w) (2) ?_ ?_
 ·have M:=M.yk 45;refine⟨0,_,_,D,U,by decide,cb,cj,E.lL [0,1,5,10,11,12] rfl,M⟩
 ·clear E M;rintro d fr w ⟨i,v,is,kA,rfl,hle,rR,bu,E,M⟩;by_cases hi:i<2
  ·have ax:i+1<(dy A i).n:=by rw[uJ];omega
   cases ak:(gT (dy A i) key (i+1)).2
   ·refine bA E<|bD 0 U U ae<|ah 1 U (bL (i:=i) U (M.reads 1 U) U U (rfl) (hi) T.en T.c3)<|ah (v:=aa ((i+1:Nat):Int)) 0 U (b2 U (M.reads 1 U) U T.bc (by rw[Nat.mul_one];exact x4 hi))<|fun fr E=>?_;have M:=M.aH 3 rfl;have M:=M.aH 3 rfl;refine bN E<|bC ([ba kA,bp B key]) M 4 U (ar U U T.xu) U (fun H=>(Ew H rR M.fact.1 bu ax).Hc bu M.fact.1) fun ez w ⟨gj,mq⟩ M=>fun fr E=>?_;rw[ak]at E;refine bN E<|bh (ob:=.cells _ 45) (fun g=>ai g 0) M 3 U (bT U T.fu) fun aZ w M=>bj (i:=0) (cs':=(gT (dy A i) key (i+1)).1.cells.toArray) M 0 U U (cB (vs:=(gT (dy A i) key (i+1)).1.cells.toArray) U U U T.dV (Rec.size (sc _ _ _)) (M.row (i:=0) U) (rfl) (fun v aD=>Rec.eX _ v aD)) U fun w M=>a1 (y:=((i+1:Nat):Int)) 3 U U ((br ae ae).trans ae)<|ct 1 U fun fr E=>?_;have M:=M.aH 2 rfl;have M:=M.aH 2 rfl;have M:=M.aH 4 rfl;have M:=M.aH 4 rfl;refine⟨2-(i+1),by omega,i+1,_,_,ez,U,by omega,by rw[dy];exact gj,mq,E.lL [0,1,5,10,11,12] rfl,Mem.take (L:=[.eI 45 _ (fQ A key (i+1)),.row 3 1 _ 2 [aa 1,aa 2],ba ez,bp B key]) (M.as (by rw[uD (by simpa using ak)];rfl))⟩
   ·refine bA E<|bD 0 U U ae<|ah 1 U (bL (i:=i) U (M.reads 1 U) U U (rfl) (hi) T.en T.c3)<|ah (v:=aa ((i+1:Nat):Int)) 0 U (b2 U (M.reads 1 U) U T.bc (by rw[Nat.mul_one];exact x4 hi))<|fun fr E=>?_;have M:=M.aH 3 rfl;have M:=M.aH 3 rfl;refine bN E<|bC ([ba kA,bp B key]) M 4 U (ar U U T.xu) U (fun H=>(Ew H rR M.fact.1 bu ax).Hc bu M.fact.1) fun ez w ⟨gj,mq⟩ M=>fun fr E=>?_;rw[ak]at E;refine bN E<|bh (ob:=.cells _ 45) (fun g=>ai g 0) M 3 U (bT U T.fu) fun bQ w M=>bj (i:=0) (cs':=(gT (dy A i) key (i+1)).1.cells.toArray) M 0 U U (cB (vs:=(gT (dy A i) key (i+1)).1.cells.toArray) U U U T.dV (Rec.size (sc _ _ _)) (M.row (i:=0) U) (rfl) (fun v aD=>Rec.eX _ v aD)) U fun w M=>ah (v:=.agg (gT (dy A i) key (i+1)).1.cells.toArray) 4 U (cW U U T.da (M.row (i:=0) U) (Rec.size (sc _ _ _)))<|cv 0 U fun fr E=>?_;refine dM (sz:=136) (xs:=(gT (dy A i) key (i+1)).1.cells) E M U U U U U (ev (us:=(gT (dy A i) key (i+1)).1.cells) (vs:=[.agg (gT (dy A i) key (i+1)).1.cells.toArray]) U U U T.gd T.dV T.DB U (by simp[Value.cells,Rec.len (sc (dy A i) key (i+1))]) U U (by simp[Value.cells])) (by simp[Rec.len (sc (dy A i) key (i+1))]) (Nat.le_refl _) aN (by simp[List.take_of_length_le,Rec.len (sc (dy A i) key (i+1))]) fun one fr w M E=>?_;refine Cs (i:=4) (xs:=fQ A key i) (news:=[(gT (dy A i) key (i+1)).1]) E M U U U U U U U U U U U T.gd T.gd T.zr T.w7 (B8 (M.reads 0 U)) (by have:=wU A key i;simp;omega) fun v fr w M E=>?_;refine cw E<|a1 (y:=((i+1:Nat):Int)) 1 U U ((br ae ae).trans ae)<|ct 1 U fun fr E=>?_;have M:=M.aH 3 rfl;have M:=M.aH 3 rfl;have M:=M.aH 5 rfl;have M:=M.aH 5 rfl;refine⟨2-(i+1),by omega,i+1,_,_,ez,U,by omega,by rw[dy];exact gj,mq,E.lL [0,1,5,10,11,12] rfl,Mem.take (L:=[.eI 45 _ (fQ A key (i+1)),.row 3 1 _ 2 [aa 1,aa 2],ba ez,bp B key]) (M.as (by rw[Eg (by simpa using ak)];rfl))⟩
  ·obtain rfl:i=2:=by omega
   refine bA E<|ch 0 U U (rfl)<|aU 3 U fun fr E=>?_;refine bi E U U ?_;have M:=M.aH 3 rfl;have M:=M.aH 3 rfl;have M:=M.aH 2 rfl;exact⟨(v,kA),U,Mem.fin (L:=[.eI 45 v (fQ A key 2),ba kA,bp B key]++_) M (List.sublist_append_left _ _) rR⟩
end
section
open Go.RowKit Go.a2 Go.Proofs Go.Proofs.Tryz
abbrev cu:=Int×Value×List UInt8
def ek:List cu->List Value
 |[]=>[]
 |e::r=>.int .i64 e.1::e.2.1::ek r
theorem I6:∀a b:List cu,ek (a++b)=ek a++ek b
 |[],b=>rfl
 |e::r,b=>by rw[List.cons_append,ek,I6 r b];rfl
theorem tY{a:List cu}{e:cu}:ek (a++[e])=ek a++[aa e.1,e.2.1]:=I6 a [e]
theorem yP:∀{l:List cu} {i:Nat} (h:i<l.length),(ek l).drop (i*2)=aa (l[i]).1::(l[i]).2.1::ek (l.drop (i+1))
 |e::r,0,h=>rfl
 |e::r,i+1,h=>by
  rw[show(i+1)*2=i*2+2 by omega];exact yP (l:=r) (by simpa using h)
theorem st{l:List cu}{i:Nat}(h:i<l.length):(ek l)[i*2]? =some (aa (l[i]).1):=by
 have:=yP h;rw[<-Nat.add_zero (i*2),<-List.getElem?_drop,this];rfl
theorem W9{l:List cu}{i:Nat}(h:i<l.length):(ek l)[i*2+1]? =some (l[i]).2.1:=by
 rw[<-List.getElem?_drop,yP h];rfl
theorem ss{l:List cu}{i:Nat}(h:i<l.length):((ek l).drop (i*2)).take 2=[aa (l[i]).1,(l[i]).2.1]:=by
 rw[yP h];rfl
theorem tX{k:Int}{v:Value}(h:v.oneCell'=true):∀u∈[Value.int .i64 k,v],u.oneCell'=true:=fun u hu=>by
 simp only[List.mem_cons,List.not_mem_nil,or_false]at hu;rcases hu with rfl|rfl
 ·rfl
 ·exact h
def dn(l:List cu)(k:Int):List cu:=l.filter fun e=> !decide (e.1=k)
theorem Dp(l:List cu)(k:Int):(dn l k).length<=l.length:=List.length_filter_le _ _
theorem zf{l:List cu}{k:Int}{e:cu}(h:e∈dn l k):e∈l:=(List.mem_filter.1 h).1
theorem aag{l:List cu}{k:Int}{i:Nat}(h:i<l.length)(he:(l[i]).1=k):dn (l.take (i+1)) k=dn (l.take i) k:=by
 rw[List.take_succ_eq_append_getElem h,dn,List.filter_append];simp[he,dn]
theorem aaf{l:List cu}{k:Int}{i:Nat}(h:i<l.length)(he:¬(l[i]).1=k):dn (l.take (i+1)) k=dn (l.take i) k++[l[i]]:=by
 rw[List.take_succ_eq_append_getElem h,dn,List.filter_append];simp[he,dn]
def kY(s:cu)(r:List cu×Bool)(e:cu):List cu×Bool:=if r.2=false/\e.1>s.1 then(r.1++[s]++[e],true)else(r.1++[e],r.2)
def hK(s:cu)(l:List cu):List cu×Bool:=l.foldl (kY s) ([],false)
def ed(l:List cu)(s:cu):List cu:=if(hK s (dn l s.1)).2=true then(hK s (dn l s.1)).1 else(hK s (dn l s.1)).1++[s]
theorem Iq{s:cu}{l:List cu}{i:Nat}(h:i<l.length):hK s (l.take (i+1))=kY s (hK s (l.take i)) (l[i]):=by
 rw[hK,List.take_succ_eq_append_getElem h,List.foldl_append];rfl
theorem Vo{s:cu}{l:List cu}{i:Nat}(h:i<l.length)(ak:(hK s (l.take i)).2=false)(al:(l[i]).1>s.1):(hK s (l.take (i+1))).1=(hK s (l.take i)).1++[s]++[l[i]]/\(hK s (l.take (i+1))).2=true:=by
 rw[Iq h,kY,if_pos ⟨ak,al⟩];exact⟨U,U⟩
theorem Ip{s:cu}{l:List cu}{i:Nat}(h:i<l.length)(al:(hK s (l.take i)).2=false->¬(l[i]).1>s.1):(hK s (l.take (i+1))).1=(hK s (l.take i)).1++[l[i]]/\(hK s (l.take (i+1))).2=(hK s (l.take i)).2:=by
 rw[Iq h,kY,if_neg fun c=>al c.1 c.2];exact⟨U,U⟩
theorem BU(s:cu):∀(l:List cu) (r:List cu×Bool),(l.foldl (kY s) r).1.length+(if(l.foldl (kY s) r).2 then 0 else 1)<=r.1.length+(if r.2 then 0 else 1)+l.length
 |[],r=>Nat.le_refl _
 |e::q,r=>by
  rw[List.foldl_cons];refine Nat.le_trans (BU s q _) ?_;unfold kY;split
  ·rename_i h;simp[h.1];omega
  ·simp;split<;>omega
theorem Io(s:cu)(l:List cu):(hK s l).1.length<=l.length+1:=by
 have:=BU s l ([],false);unfold hK;simp at this⊢;omega
theorem Wd{l:List cu}{s:cu}(h:(hK s (dn l s.1)).2=true):ed l s=(hK s (dn l s.1)).1:=if_pos h
theorem Wc{l:List cu}{s:cu}(h:(hK s (dn l s.1)).2=false):ed l s=(hK s (dn l s.1)).1++[s]:=if_neg (by simp[h])
def fj(l:List cu)(k:Int):Option cu:=l.find? fun e=>decide (e.1=k)
theorem Ri{l:List cu}{k:Int}{i:Nat}{e:cu}(h:i<l.length)(eB:∀j (ax:j<l.length),j<i->¬(l[j]).1=k)(he:(l[i]).1=k)(bu:fj l k=some e):l[i]=e:=by
 have:fj l k=some l[i]:=by
  unfold fj;rw[List.find?_eq_some_iff_getElem];exact⟨by simpa using he,i,h,U,fun j ax=>by simpa using eB j ae ax⟩
 rw[this]at bu;exact Option.some.inj bu
theorem Rj{l:List cu}{k:Int}{i:Nat}(h:i<l.length)(eB:∀j (ax:j<l.length),j<i->¬(l[j]).1=k)(he:(l[i]).1=k):¬fj l k=none:=fun c=>by
 unfold fj at c;rw[List.find?_eq_none]at c;exact c _ (List.getElem_mem h) (by simpa using he)
theorem Rk{l:List cu}{k:Int}{i:Nat}{e:cu}(h:l.length<=i)(eB:∀j (ax:j<l.length),j<i->¬(l[j]).1=k):¬fj l k=some e:=fun c=>by
 unfold fj at c;have aj:=List.find?_some c;obtain⟨j,ax,rfl⟩:=List.getElem_of_mem (List.mem_of_find?_eq_some c);exact eB j ax ae (by simpa using aj)
theorem Dn{v:Value}{l:List cu}{k:Int}{w0:World}(ap:Reads 2 w0 v (l).length (ek (l)))(aj:∀e∈l,e.2.1.oneCell'=true)(au:l.length<=100000):aY prog 108 [v,aa k] w0 [] (fun o:Value=>o) (fun o=>[.row 172 2 o (dn l k).length (ek (dn l k))]) (fun _=>True):=by
 refine enter (n:=28) func108 U U U ?_;intro fr E;have M:=Mem.begin (Φ:=fun w'=>Reads 2 w' v (l).length (ek (l))) (Has.nil w0) (fun w' h=>ap.bU h);refine aV E<|bw 3 U fun fr E=>?_;refine cI (fun d fr w=>∃(i:Nat) (o:Value),d=l.length-i/\i<=l.length/\Env [(6,aa (i:Int)),(5,o),(1,aa k),(0,v)] 28 fr/\Mem w0 (aS []) [.row 172 2 o (dn (l.take i) k).length (ek (dn (l.take i) k))] (fun w'=>Reads 2 w' v (l).length (ek (l))) w) (l.length) ?_ ?_
 ·have M:=M.jo (bd.refl _) (.row 172 2 (.slice none 0 0) 0 []) (World.ownsRow_nil _ 0 _ 2) fun g al=>by simp[az.row,Value.ownBlock]at al
  exact⟨0,_,U,Nat.zero_le _,E.lL [0,1,5,6] rfl,M⟩
 ·clear E M;rintro d fr w ⟨i,o,rfl,hle,E,M⟩;by_cases hi:i<l.length
  ·by_cases he:(l[i]'hi).1=k
   ·refine bA E<|ah 2 U (bx U U U U T.eK (M.fact))<|bD 0 U U ae<|ah (v:=cellAt v (i*2)) 3 U (bL (i:=i) U (M.fact) U U (rfl) (hi) T.eK T.jI)<|ah 0 U (mI U (M.fact) U T.rF ae)<|ah (v:=aa (l[i]'hi).1) 0 U (b2 U (M.fact) U T.bc (st hi))<|ch 1 U U (by simp[he])<|a1 (y:=((i+1:Nat):Int)) 2 U U ((br ae ae).trans ae)<|ct 1 U fun fr E=>?_;exact⟨l.length-(i+1),by omega,i+1,_,U,by omega,E.lL [0,1,5,6] rfl,M.as (by rw[aag hi he])⟩
   ·refine bA E<|ah 2 U (bx U U U U T.eK (M.fact))<|bD 0 U U ae<|ah (v:=cellAt v (i*2)) 3 U (bL (i:=i) U (M.fact) U U (rfl) (hi) T.eK T.jI)<|ah 0 U (mI U (M.fact) U T.rF ae)<|ah (v:=aa (l[i]'hi).1) 0 U (b2 U (M.fact) U T.bc (st hi))<|ei 1 U U (by simp[he])<|ah 4 U (bL (i:=i) U (M.fact) U U (rfl) (hi) T.eK T.jI)<|ah (v:=.agg #[aa (l[i]'hi).1,(l[i]'hi).2.1]) 0 U (hU U (M.fact) U T.o3 ae ae (ss hi))<|cv 0 U fun fr E=>?_;refine dM (sz:=2) (xs:=[aa (l[i]'hi).1,(l[i]'hi).2.1]) E M U U U U U (ev (us:=_) (vs:=[.agg #[aa (l[i]'hi).1,(l[i]'hi).2.1]]) U U U T.eK T.jI T.uq U U U U U) (rfl) (Nat.le_refl _) aN (rfl) fun t fr w M E=>?_;refine oM (i:=1) E M U U U U U U U U U U U T.eK T.eK T.ur T.sX aN (M.reads 0 U) (tX (aj _ (List.getElem_mem hi))) (by have:=Dp (l.take i) k;rw[List.length_take]at this;omega) fun o fr w M E=>?_;refine cw E<|a1 (y:=((i+1:Nat):Int)) 2 U U ((br ae ae).trans ae)<|ct 1 U fun fr E=>?_;have M:=M.aH 1 rfl;exact⟨l.length-(i+1),by omega,i+1,_,U,by omega,E.lL [0,1,5,6] rfl,(M.sub (L':=[_]) (.cons_cons _ (List.nil_sublist _))).as (by rw[aaf hi he,tY,List.length_append];rfl)⟩
  ·obtain rfl:i=l.length:=by omega
   refine bA E<|ah 2 U (bx U U U U T.eK (M.fact))<|bs 0 U U ae<|aU 3 U fun fr E=>?_;refine bi E U U ?_;rw[List.take_length]at M;exact⟨_,U,M.fin (.refl _) trivial⟩
set_option maxHeartbeats 1000000 in
theorem sg{v:Value}{l:List cu}{s:cu}{w0:World}(ap:Reads 2 w0 v (l).length (ek (l)))(aj:∀e∈l,e.2.1.oneCell'=true)(aP:s.2.1.oneCell'=true)(au:l.length<=90000):aY prog 107 [v,.agg #[aa s.1,s.2.1]] w0 [] (fun o:Value=>o) (fun o=>[.row 172 2 o (ed l s).length (ek (ed l s))]) (fun _=>True):=by
 refine enter (n:=48) func107 U U U ?_;intro fr E;have S2:l.length<=100000:=by omega
 have M:=Mem.begin (Φ:=fun w'=>Reads 2 w' v (l).length (ek (l))) (Has.nil w0) (fun w' h=>ap.bU h);refine aV E<|bh (ob:=.cells (#[aa s.1,s.2.1]) 172) (fun g=>ai g 0) M 0 U (cS (cs:=(#[aa s.1,s.2.1])) U U) fun aZ w M=>ah (v:=aa _) 3 U (aE U U T.bc (M.row (i:=0) U) U)<|cP M 0 U (ar U U T.Ap) (Dn (k:=s.1) M.fact aj S2) U fun r6 w _ M=>bw 4 U fun fr E=>?_;refine cI (fun d fr w=>∃(i:Nat) (o:Value),d=(dn l s.1).length-i/\i<=(dn l s.1).length/\Env [(7,aa (i:Int)),(6,.bool (hK s ((dn l s.1).take i)).2),(5,o),(3,ai aZ 0),(0,r6)] 48 fr/\Mem w0 (aS []) [.row 172 2 o ((hK s ((dn l s.1).take i)).1).length (ek ((hK s ((dn l s.1).take i)).1)),.row 172 2 r6 (dn l s.1).length (ek (dn l s.1)),.bb aZ (.cells #[aa s.1,s.2.1] 172)] (fun w'=>Reads 2 w' v (l).length (ek (l))) w) ((dn l s.1).length) ?_ ?_
 ·have M:=M.aH 1 rfl;have M:=M.aH 1 rfl;have M:=M.jo (bd.refl _) (.row 172 2 (.slice none 0 0) 0 []) (World.ownsRow_nil _ 0 _ 2) fun g al=>by simp[az.row,Value.ownBlock]at al
  exact⟨0,_,U,Nat.zero_le _,E.lL [0,3,5,6,7] rfl,M⟩
 ·clear E M;rintro d fr w ⟨i,o,rfl,hle,E,M⟩;have pC:=Dp l s.1;by_cases hi:i<(dn l s.1).length
  ·have vt:((dn l s.1)[i]'hi).2.1.oneCell'=true:=aj _ (zf (List.getElem_mem hi));have l3:=Io s ((dn l s.1).take i);rw[List.length_take]at l3;cases ak:(hK s ((dn l s.1).take i)).2
   ·by_cases al:((dn l s.1)[i]'hi).1>s.1
    ·rw[ak]at E;refine bA E<|ah 2 U (bx U U U U T.eK (M.reads 1 U))<|bD 0 U U ae<|bw 1 U fun fr E=>?_;refine(dR (B:=T.yZ) (Vs:=(.af _:: .af (.bool _):: .af _:: .af _:: .af _:: .af (cellAt r6 (i*2)):: .af (cellAt r6 (i*2+0)):: .af (aa ((dn l s.1)[i]'hi).1):: .af (ai _ 0):: .af (aa s.1):: .af (.bool true):: .af (.bool _)::[])) T.CL E T.mixed T.CK U (ej.e6 U) ⟨aw U U,
   aC U U (fun x w ad ab=>rfl),
   aw U U,
   aw U U,
   aw U U,
   aC U U (fun x w ad ab=>bL (i:=i) U ((M.aQ ad).reads 1 U) U U (rfl) (hi) T.eK T.jI),
   aC U U (fun x w ad ab=>mI U ((M.aQ ad).reads 1 U) U T.rF ae),
   aC U U (fun x w ad ab=>b2 U ((M.aQ ad).reads 1 U) U T.bc (st hi)),
   aw U U,
   aC U U (fun x w ad ab=>aE U U T.bc ((M.aQ ad).row (i:=2) U) U),
   aC U U (fun x w ad ab=>eZ U (decide_eq_true al)),
   aC U U (fun x w ad ab=>rfl),ay⟩ ?_)
     intro x fr w ad ab E;have M:=M.ext ad;refine cm E<|ah (v:=.agg #[aa s.1,s.2.1]) 2 U (cW U U T.o3 (M.row (i:=2) U) U)<|cv 0 U fun fr E=>?_;refine dM (sz:=2) (xs:=[aa (s).1,(s).2.1]) E M U U U U U (ev (us:=_) (vs:=[.agg #[aa (s).1,(s).2.1]]) U U U T.eK T.jI T.uq U U U U U) (rfl) (Nat.le_refl _) aN (rfl) fun t fr w M E=>?_;refine oM (i:=1) E M U U U U U U U U U U U T.eK T.eK T.ur T.sX aN (M.reads 0 U) (tX aP) ae fun o fr w M E=>?_;refine cw E<|ah 5 U (bL (i:=i) U (M.reads 2 U) U U (rfl) (hi) T.eK T.jI)<|ah (v:=.agg #[aa ((dn l s.1)[i]'hi).1,((dn l s.1)[i]'hi).2.1]) 0 U (hU U (M.reads 2 U) U T.o3 ae ae (ss hi))<|cv 0 U fun fr E=>?_;refine dM (sz:=2) (xs:=[aa ((dn l s.1)[i]'hi).1,((dn l s.1)[i]'hi).2.1]) E M U U U U U (ev (us:=_) (vs:=[.agg #[aa ((dn l s.1)[i]'hi).1,((dn l s.1)[i]'hi).2.1]]) U U U T.eK T.jI T.uq U U U U U) (rfl) (Nat.le_refl _) aN (rfl) fun t2 fr w M E=>?_;refine oM (i:=2) E M U U U U U U U U U U U T.eK T.eK T.ur T.sX aN (M.reads 0 U) (tX vt) ae fun o fr w M E=>?_;refine cw E<|a1 (y:=((i+1:Nat):Int)) 2 U U ((br ae ae).trans ae)<|ct 1 U fun fr E=>?_;have M:=M.aH 4 rfl;have M:=M.aH 4 rfl;have M:=M.aH 4 rfl;have hP:=Vo hi ak al;refine⟨(dn l s.1).length-(i+1),by omega,i+1,_,U,by omega,?_,(M.sub (L':=[_,_,_]) (.cons_cons _ (.cons_cons _ (.cons_cons _ (List.nil_sublist _))))).as (by rw[hP.1];rw[tY,List.length_append,tY,List.length_append];rfl)⟩;rw[hP.2];exact(((((Env.nil E).add E (t:=0) U).add E (t:=3) U).add E (t:=5) U).add E (t:=6) U).add E (t:=7) U
    ·rw[ak]at E;refine bA E<|ah 2 U (bx U U U U T.eK (M.reads 1 U))<|bD 0 U U ae<|bw 1 U fun fr E=>?_;refine(dR (B:=T.yZ) (Vs:=(.af _:: .af (.bool _):: .af _:: .af _:: .af _:: .af (cellAt r6 (i*2)):: .af (cellAt r6 (i*2+0)):: .af (aa ((dn l s.1)[i]'hi).1):: .af (ai _ 0):: .af (aa s.1):: .af (.bool false):: .af (.bool _)::[])) T.CL E T.mixed T.CK U (ej.e6 U) ⟨aw U U,
   aC U U (fun x w ad ab=>rfl),
   aw U U,
   aw U U,
   aw U U,
   aC U U (fun x w ad ab=>bL (i:=i) U ((M.aQ ad).reads 1 U) U U (rfl) (hi) T.eK T.jI),
   aC U U (fun x w ad ab=>mI U ((M.aQ ad).reads 1 U) U T.rF ae),
   aC U U (fun x w ad ab=>b2 U ((M.aQ ad).reads 1 U) U T.bc (st hi)),
   aw U U,
   aC U U (fun x w ad ab=>aE U U T.bc ((M.aQ ad).row (i:=2) U) U),
   aC U U (fun x w ad ab=>eZ U (decide_eq_false al)),
   aC U U (fun x w ad ab=>rfl),ay⟩ ?_)
     intro x fr w ad ab E;have M:=M.ext ad;refine cm E<|ah 4 U (bL (i:=i) U (M.reads 1 U) U U (rfl) (hi) T.eK T.jI)<|ah (v:=.agg #[aa ((dn l s.1)[i]'hi).1,((dn l s.1)[i]'hi).2.1]) 0 U (hU U (M.reads 1 U) U T.o3 ae ae (ss hi))<|cv 0 U fun fr E=>?_;refine dM (sz:=2) (xs:=[aa ((dn l s.1)[i]'hi).1,((dn l s.1)[i]'hi).2.1]) E M U U U U U (ev (us:=_) (vs:=[.agg #[aa ((dn l s.1)[i]'hi).1,((dn l s.1)[i]'hi).2.1]]) U U U T.eK T.jI T.uq U U U U U) (rfl) (Nat.le_refl _) aN (rfl) fun t2 fr w M E=>?_;refine oM (i:=1) E M U U U U U U U U U U U T.eK T.eK T.ur T.sX aN (M.reads 0 U) (tX vt) ae fun o fr w M E=>?_;refine cw E<|a1 (y:=((i+1:Nat):Int)) 2 U U ((br ae ae).trans ae)<|ct 1 U fun fr E=>?_;have M:=M.aH 3 rfl;have M:=M.aH 3 rfl;have M:=M.aH 3 rfl;have hP:=Ip hi (fun _=>al);refine⟨(dn l s.1).length-(i+1),by omega,i+1,_,U,by omega,?_,(M.sub (L':=[_,_,_]) (.cons_cons _ (.cons_cons _ (.cons_cons _ (List.nil_sublist _))))).as (by rw[hP.1];rw[tY,List.length_append];rfl)⟩;rw[hP.2];rw[ak];exact(((((Env.nil E).add E (t:=0) U).add E (t:=3) U).add E (t:=5) U).add E (t:=6) U).add E (t:=7) U
   ·rw[ak]at E;refine bA E<|ah 2 U (bx U U U U T.eK (M.reads 1 U))<|bD 0 U U ae<|bw 1 U fun fr E=>?_;refine(dR (B:=T.yZ) (Vs:=(.af _:: .af (.bool _):: .af _:: .af undef:: .af undef:: .af undef:: .af undef:: .af undef:: .af undef:: .af undef:: .af undef:: .af (.bool _)::[])) T.CL E T.mixed T.CK U (ej.e6 U) ⟨aw U U,
   aC U U (fun x w ad ab=>rfl),
   aw U U,
   lj U U (fun x=>⟨U,U⟩),
   lj U U (fun x=>⟨U,U⟩),
   lj U U (fun x=>⟨U,U⟩),
   lj U U (fun x=>⟨U,U⟩),
   lj U U (fun x=>⟨U,U⟩),
   lj U U (fun x=>⟨U,U⟩),
   lj U U (fun x=>⟨U,U⟩),
   lj U U (fun x=>⟨U,U⟩),
   aC U U (fun x w ad ab=>rfl),ay⟩ ?_)
    intro x fr w ad ab E;have M:=M.ext ad;refine cm E<|ah 4 U (bL (i:=i) U (M.reads 1 U) U U (rfl) (hi) T.eK T.jI)<|ah (v:=.agg #[aa ((dn l s.1)[i]'hi).1,((dn l s.1)[i]'hi).2.1]) 0 U (hU U (M.reads 1 U) U T.o3 ae ae (ss hi))<|cv 0 U fun fr E=>?_;refine dM (sz:=2) (xs:=[aa ((dn l s.1)[i]'hi).1,((dn l s.1)[i]'hi).2.1]) E M U U U U U (ev (us:=_) (vs:=[.agg #[aa ((dn l s.1)[i]'hi).1,((dn l s.1)[i]'hi).2.1]]) U U U T.eK T.jI T.uq U U U U U) (rfl) (Nat.le_refl _) aN (rfl) fun t2 fr w M E=>?_;refine oM (i:=1) E M U U U U U U U U U U U T.eK T.eK T.ur T.sX aN (M.reads 0 U) (tX vt) ae fun o fr w M E=>?_;refine cw E<|a1 (y:=((i+1:Nat):Int)) 2 U U ((br ae ae).trans ae)<|ct 1 U fun fr E=>?_;have M:=M.aH 3 rfl;have M:=M.aH 3 rfl;have M:=M.aH 3 rfl;have hP:=Ip (s:=s) hi (fun h=>absurd (ak.symm.trans h) aN);refine⟨(dn l s.1).length-(i+1),by omega,i+1,_,U,by omega,?_,(M.sub (L':=[_,_,_]) (.cons_cons _ (.cons_cons _ (.cons_cons _ (List.nil_sublist _))))).as (by rw[hP.1];rw[tY,List.length_append];rfl)⟩;rw[hP.2];rw[ak];exact(((((Env.nil E).add E (t:=0) U).add E (t:=3) U).add E (t:=5) U).add E (t:=6) U).add E (t:=7) U
  ·obtain rfl:i=(dn l s.1).length:=by omega
   rw[List.take_length]at E M;have l3:=Io s (dn l s.1);cases ak:(hK s (dn l s.1)).2
   ·rw[ak]at E;refine bA E<|ah 2 U (bx U U U U T.eK (M.reads 1 U))<|bs 0 U U ae<|ah (v:=.bool _) 2 U U<|ah (v:=.agg #[aa s.1,s.2.1]) 2 U (cW U U T.o3 (M.row (i:=2) U) U)<|cv 0 U fun fr E=>?_;refine dM (sz:=2) (xs:=[aa (s).1,(s).2.1]) E M U U U U U (ev (us:=_) (vs:=[.agg #[aa (s).1,(s).2.1]]) U U U T.eK T.jI T.uq U U U U U) (rfl) (Nat.le_refl _) aN (rfl) fun t fr w M E=>?_;refine oM (i:=1) E M U U U U U U U U U U U T.eK T.eK T.ur T.sX aN (M.reads 0 U) (tX aP) ae fun o fr w M E=>?_;refine cw E<|aU 3 U fun fr E=>?_;refine bi E U U ?_;have M:=M.aH 1 rfl;exact⟨_,U,(M.as (L':=.row 172 2 _ (ed l s).length (ek (ed l s))::_) (by rw[Wc ak];rw[tY,List.length_append];rfl)).fin (.cons_cons _ (List.nil_sublist _)) trivial⟩
   ·rw[ak]at E;refine bA E<|ah 2 U (bx U U U U T.eK (M.reads 1 U))<|bs 0 U U ae<|ah (v:=.bool _) 2 U U<|aU 3 U fun fr E=>?_;refine bi E U U ?_;exact⟨_,U,(M.as (L':=.row 172 2 _ (ed l s).length (ek (ed l s))::_) (by rw[Wd ak])).fin (.cons_cons _ (List.nil_sublist _)) trivial⟩
theorem Am{v:Value}{l:List cu}{k:Int}{w0:World}(ap:Reads 2 w0 v (l).length (ek (l)))(au:l.length<=100000)(bu:fj l k=none):bH prog 65 [v,aa k] w0 (.tuple #[.slice none 0 0,.bool false]):=by
 refine enter (n:=26) func65 U U U ?_;intro fr E;have M:=Mem.begin (Φ:=fun w'=>Reads 2 w' v (l).length (ek (l))) (Has.nil w0) (fun w' h=>ap.bU h);refine aV E<|bw 3 U fun fr E=>?_;refine cI (fun d fr w=>∃i:Nat,d=l.length-i/\i<=l.length/\(∀j (ax:j<l.length),j<i->¬(l[j]).1=k)/\Env [(6,aa (i:Int)),(1,aa k),(0,v)] 26 fr/\Mem w0 (aS []) [] (fun w'=>Reads 2 w' v (l).length (ek (l))) w) (l.length) ?_ ?_
 ·exact⟨0,U,Nat.zero_le _,fun j ax h=>absurd h ae,E.lL [0,1,6] rfl,M⟩
 ·clear E M;rintro d fr w ⟨i,rfl,hle,eB,E,M⟩;by_cases hi:i<l.length
  ·by_cases he:(l[i]'hi).1=k
   ·exact absurd bu (Rj hi eB he)
   ·refine bA E<|ah 2 U (bx U U U U T.eK (M.fact))<|bD 0 U U ae<|ah (v:=cellAt v (i*2)) 3 U (bL (i:=i) U (M.fact) U U (rfl) (hi) T.eK T.jI)<|ah 0 U (mI U (M.fact) U T.rF ae)<|ah (v:=aa (l[i]'hi).1) 0 U (b2 U (M.fact) U T.bc (st hi))<|ch 1 U U (by simp[he])<|a1 (y:=((i+1:Nat):Int)) 2 U U ((br ae ae).trans ae)<|ct 1 U fun fr E=>?_;refine⟨l.length-(i+1),by omega,i+1,U,by omega,fun j ax hc=>?_,E.lL [0,1,6] rfl,M⟩;rcases Nat.lt_or_eq_of_le (Nat.le_of_lt_succ hc)with h|rfl
    ·exact eB j ax h
    ·exact he
  ·obtain rfl:i=l.length:=by omega
   refine bA E<|ah 2 U (bx U U U U T.eK (M.fact))<|bs 0 U U ae<|aU 3 U fun fr E=>?_;refine fN E U U U ?_;exact bX M
theorem Fq{v:Value}{l:List cu}{k:Int}{w0:World}(ap:Reads 2 w0 v (l).length (ek (l)))(au:l.length<=100000){e:cu}(bu:fj l k=some e)(ak:Bytes w0 e.2.1 e.2.2)(tm:e.2.2.length<=1024):aY prog 65 [v,aa k] w0 [] (fun c:Value=>.tuple #[c,.bool true]) (fun c=>[.bytes 5 c e.2.2]) (fun _=>True):=by
 refine enter (n:=26) func65 U U U ?_;intro fr E;have M:=Mem.begin (Φ:=fun w'=>Reads 2 w' v (l).length (ek (l))/\Bytes w' e.2.1 e.2.2) (Has.nil w0) (fun w' h=>⟨ap.bU h,ak.bU h⟩);refine aV E<|bw 3 U fun fr E=>?_;refine cI (fun d fr w=>∃i:Nat,d=l.length-i/\i<=l.length/\(∀j (ax:j<l.length),j<i->¬(l[j]).1=k)/\Env [(6,aa (i:Int)),(1,aa k),(0,v)] 26 fr/\Mem w0 (aS []) [] (fun w'=>Reads 2 w' v (l).length (ek (l))/\Bytes w' e.2.1 e.2.2) w) (l.length) ?_ ?_
 ·exact⟨0,U,Nat.zero_le _,fun j ax h=>absurd h ae,E.lL [0,1,6] rfl,M⟩
 ·clear E M;rintro d fr w ⟨i,rfl,hle,eB,E,M⟩;by_cases hi:i<l.length
  ·by_cases he:(l[i]'hi).1=k
   ·obtain rfl:l[i]'hi=e:=Ri hi eB he bu;refine bA E<|ah 2 U (bx U U U U T.eK (M.fact.1))<|bD 0 U U ae<|ah (v:=cellAt v (i*2)) 3 U (bL (i:=i) U (M.fact.1) U U (rfl) (hi) T.eK T.jI)<|ah 0 U (mI U (M.fact.1) U T.rF ae)<|ah (v:=aa (l[i]'hi).1) 0 U (b2 U (M.fact.1) U T.bc (st hi))<|ei 1 U U (by simp[he])<|ah (v:=cellAt v (i*2)) 3 U (bL (i:=i) U (M.fact.1) U U (rfl) (hi) T.eK T.jI)<|ah 0 U (mI U M.fact.1 U T.Qk ae)<|ah (v:=(l[i]'hi).2.1) 0 U (b2 U M.fact.1 U T.ec (W9 hi))<|cP M 0 U (ar U U T.uU) (wJ M.fact.2 ae) U fun c w _ M=>aU 2 U fun fr E=>?_;refine fN E U U U ?_;exact⟨_,U,M.fin (.refl _) trivial⟩
   ·refine bA E<|ah 2 U (bx U U U U T.eK (M.fact.1))<|bD 0 U U ae<|ah (v:=cellAt v (i*2)) 3 U (bL (i:=i) U (M.fact.1) U U (rfl) (hi) T.eK T.jI)<|ah 0 U (mI U (M.fact.1) U T.rF ae)<|ah (v:=aa (l[i]'hi).1) 0 U (b2 U (M.fact.1) U T.bc (st hi))<|ch 1 U U (by simp[he])<|a1 (y:=((i+1:Nat):Int)) 2 U U ((br ae ae).trans ae)<|ct 1 U fun fr E=>?_;refine⟨l.length-(i+1),by omega,i+1,U,by omega,fun j ax hc=>?_,E.lL [0,1,6] rfl,M⟩;rcases Nat.lt_or_eq_of_le (Nat.le_of_lt_succ hc)with h|rfl
    ·exact eB j ax h
    ·exact he
  ·exact absurd bu (Rk ae eB)
end
section
open Go.RowKit Go.a2 Go.Proofs Go.Proofs.Tryz
structure cC where
 n:Nat
 left:Int
 written:Int
 off:Bool
 ls:List cu
 cs:List cu
 counts:List Int
 ps:List (Value×List UInt8)
structure cC.Ok(S:cC):Prop where
 max:S.n<=4096
 count:S.counts.length=S.n
 oC:S.ls.Pairwise fun a b=>a.1<b.1
 mY:S.cs.Pairwise fun a b=>a.1<b.1
 oB:∀e∈S.ls,0<=e.1/\e.1<(S.n:Int)
 cin:∀e∈S.cs,0<=e.1/\e.1<(S.n:Int)
 e7:∀e∈S.ls++S.cs,(e.2.1,e.2.2)∈S.ps/\e.2.2.length<=1024
theorem wq{n:Nat}:∀{l:List cu} {k:Int},l.Pairwise (fun a b=>a.1<b.1)->(∀e∈l,k<=e.1/\e.1<(n:Int))->(l.length:Int)<=max 0 ((n:Int)-k)
 |[],k,_,_=>by simp;omega
 |e::r,k,h,ap=>by
  have aj:=List.pairwise_cons.1 h;have an:=ap e (List.mem_cons_self ..);have:=wq (n:=n) (l:=r) (k:=e.1+1) aj.2 fun x ad=>⟨by have:=aj.1 x ad;omega,(ap x (List.mem_cons_of_mem _ ad)).2⟩
  rw[List.length_cons];omega
theorem cC.Ok.Hn{S:cC}(h:S.Ok):S.ls.length<=100000:=by
 have:=wq (k:=0) h.oC h.oB;have:=h.max;omega
theorem cC.Ok.uL{S:cC}(h:S.Ok):S.cs.length<=100000:=by
 have:=wq (k:=0) h.mY h.cin;have:=h.max;omega
theorem cC.Ok.qR{S:cC}(h:S.Ok):S.ls.length<=4096:=by
 have:=wq (k:=0) h.oC h.oB;have:=h.max;omega
theorem cC.Ok.qg{S:cC}(h:S.Ok):S.cs.length<=4096:=by
 have:=wq (k:=0) h.mY h.cin;have:=h.max;omega
abbrev bW(av:Nat)(lv bk aq:Value)(S:cC):List az:=[.bb av (.cells #[aa (S.n:Int),aa (S.left),aa (S.written),.bool S.off,lv,bk,aq] 81),.row 172 2 lv (S.ls).length (ek (S.ls)),.row 172 2 bk (S.cs).length (ek (S.cs)),.row 3 1 aq S.n (fg S.counts),.e7 S.ps]
def cC.new(k:Nat):cC:=⟨k, -1,0,false,[],[],List.replicate k 0,[]⟩
def cC.kz(S:cC)(i:Int)(b:List UInt8):Int:=if i<0\/(S.n:Int)<=i then 7 else if 1024<b.length then 3 else 0
def cC.sd(S:cC)(i:Int):List UInt8:=match fj S.cs i with
 |some e=>e.2.2
 |none=>match fj S.ls i with
  |some e=>e.2.2
  |none=>[]
theorem Uk{α:Type}(a b c d e:α){bV:α}(h:e=bV): [a,b,c,bV,d].Perm [b,c,d,a,e]:=by
 subst h;have aj: [b,c,a,e,d].Perm [a,b,c,e,d]:=List.perm_middle (l₁:=[b,c]) (a:=a) (l₂:=[e,d]);have an: [a,e,d].Perm [d,a,e]:=List.perm_append_comm (l₁:=[a,e]) (l₂:=[d]);exact aj.symm.trans (an.append_left [b,c])
theorem Ww{k:Nat}{aq:Value}:az.row 3 1 aq k (List.replicate k (Value.int .i64 0))=az.row 3 1 aq (cC.new k).n (fg (cC.new k).counts):=by
 have e:fg (List.replicate k 0)=List.replicate k (Value.int .i64 0):=by simp[fg]
 show _=az.row 3 1 aq k (fg (List.replicate k 0))
 rw[e]
theorem aam{av:Nat}{lv bk aq:Value}{S:cC}{w0:World}(H:Has w0 (bW av lv bk aq S))(bJ:S.Ok){b:Value}{bl:List UInt8}(ak:Bytes w0 b bl)(cK:∀g,b.ownBlock=some g->¬aS (bW av lv bk aq S) g){i:Int}(h:i<0):aY prog 106 [ai av 0,aa i,b] w0 (bW av lv bk aq S) (fun _:Unit=>aa 7) (fun _=>bW av lv bk aq S) (fun _=>True):=by
 refine enter (n:=20) func106 U U U ?_;intro fr E;have M:=Mem.begin (Φ:=fun w'=>Bytes w' b bl) H (fun w' h=>Reads.held ak h cK);refine aV E<|bD 2 U U h<|ah (v:=.bool _) 7 U U<|aU 2 U fun fr E=>?_;refine bi E U U ?_;exact⟨(),U,M.fin (List.Sublist.refl _) trivial⟩
theorem aak{av:Nat}{lv bk aq:Value}{S:cC}{w0:World}(H:Has w0 (bW av lv bk aq S))(bJ:S.Ok){b:Value}{bl:List UInt8}(ak:Bytes w0 b bl)(cK:∀g,b.ownBlock=some g->¬aS (bW av lv bk aq S) g){i:Int}(h:¬i<0)(an:(S.n:Int)<=i):aY prog 106 [ai av 0,aa i,b] w0 (bW av lv bk aq S) (fun _:Unit=>aa 7) (fun _=>bW av lv bk aq S) (fun _=>True):=by
 refine enter (n:=20) func106 U U U ?_;intro fr E;have M:=Mem.begin (Φ:=fun w'=>Bytes w' b bl) H (fun w' h=>Reads.held ak h cK);refine aV E<|bs 2 U U h<|ah (v:=aa _) 5 U (aE U U T.bc (M.row (i:=0) U) U)<|bD 0 U U an<|ah (v:=.bool _) 0 U U<|aU 2 U fun fr E=>?_;refine bi E U U ?_;exact⟨(),U,M.fin (List.Sublist.refl _) trivial⟩
theorem aal{av:Nat}{lv bk aq:Value}{S:cC}{w0:World}(H:Has w0 (bW av lv bk aq S))(bJ:S.Ok){b:Value}{bl:List UInt8}(ak:Bytes w0 b bl)(cK:∀g,b.ownBlock=some g->¬aS (bW av lv bk aq S) g){i:Int}(h:¬i<0)(an:¬(S.n:Int)<=i)(aB:1024<bl.length):aY prog 106 [ai av 0,aa i,b] w0 (bW av lv bk aq S) (fun _:Unit=>aa 3) (fun _=>bW av lv bk aq S) (fun _=>True):=by
 refine enter (n:=20) func106 U U U ?_;intro fr E;have M:=Mem.begin (Φ:=fun w'=>Bytes w' b bl) H (fun w' h=>Reads.held ak h cK);refine aV E<|bs 2 U U h<|ah (v:=aa _) 5 U (aE U U T.bc (M.row (i:=0) U) U)<|bs 0 U U an<|ah (v:=.bool _) 0 U U<|ah 2 U (bx U U U U T.aG (M.fact))<|bD 0 U U ae<|aU 2 U fun fr E=>?_;refine bi E U U ?_;exact⟨(),U,M.fin (List.Sublist.refl _) trivial⟩
theorem aan{av:Nat}{lv bk aq:Value}{S:cC}{w0:World}(H:Has w0 (bW av lv bk aq S))(bJ:S.Ok){b:Value}{bl:List UInt8}(ak:Bytes w0 b bl)(cK:∀g,b.ownBlock=some g->¬aS (bW av lv bk aq S) g){i:Int}(h:¬i<0)(an:¬(S.n:Int)<=i)(aB:¬1024<bl.length):aY prog 106 [ai av 0,aa i,b] w0 (bW av lv bk aq S) (fun _:Unit=>aa 0) (fun _=>bW av lv bk aq S) (fun _=>True):=by
 refine enter (n:=20) func106 U U U ?_;intro fr E;have M:=Mem.begin (Φ:=fun w'=>Bytes w' b bl) H (fun w' h=>Reads.held ak h cK);refine aV E<|bs 2 U U h<|ah (v:=aa _) 5 U (aE U U T.bc (M.row (i:=0) U) U)<|bs 0 U U an<|ah (v:=.bool _) 0 U U<|ah 2 U (bx U U U U T.aG (M.fact))<|bs 0 U U ae<|aU 2 U fun fr E=>?_;refine bi E U U ?_;exact⟨(),U,M.fin (List.Sublist.refl _) trivial⟩
theorem aap{av:Nat}{lv bk aq:Value}{S:cC}{w0:World}(H:Has w0 (bW av lv bk aq S))(bJ:S.Ok){fR:Addr}{i:Int}(h:i<0):aY prog 106 [ai av 0,aa i,.slice (some fR) 0 0] w0 (bW av lv bk aq S) (fun _:Unit=>aa 7) (fun _=>bW av lv bk aq S) (fun _=>True):=by
 refine enter (n:=20) func106 U U U ?_;intro fr E;have M:=ht H;refine aV E<|bD 2 U U h<|ah (v:=.bool _) 7 U U<|aU 2 U fun fr E=>?_;refine bi E U U ?_;exact⟨(),U,M.fin (List.Sublist.refl _) trivial⟩
theorem aao{av:Nat}{lv bk aq:Value}{S:cC}{w0:World}(H:Has w0 (bW av lv bk aq S))(bJ:S.Ok){fR:Addr}{i:Int}(h:¬i<0)(an:(S.n:Int)<=i):aY prog 106 [ai av 0,aa i,.slice (some fR) 0 0] w0 (bW av lv bk aq S) (fun _:Unit=>aa 7) (fun _=>bW av lv bk aq S) (fun _=>True):=by
 refine enter (n:=20) func106 U U U ?_;intro fr E;have M:=ht H;refine aV E<|bs 2 U U h<|ah (v:=aa _) 5 U (aE U U T.bc (M.row (i:=0) U) U)<|bD 0 U U an<|ah (v:=.bool _) 0 U U<|aU 2 U fun fr E=>?_;refine bi E U U ?_;exact⟨(),U,M.fin (List.Sublist.refl _) trivial⟩
theorem aaq{av:Nat}{lv bk aq:Value}{S:cC}{w0:World}(H:Has w0 (bW av lv bk aq S))(bJ:S.Ok){fR:Addr}{i:Int}(h:¬i<0)(an:¬(S.n:Int)<=i):aY prog 106 [ai av 0,aa i,.slice (some fR) 0 0] w0 (bW av lv bk aq S) (fun _:Unit=>aa 0) (fun _=>bW av lv bk aq S) (fun _=>True):=by
 refine enter (n:=20) func106 U U U ?_;intro fr E;have M:=ht H;refine aV E<|bs 2 U U h<|ah (v:=aa _) 5 U (aE U U T.bc (M.row (i:=0) U) U)<|bs 0 U U an<|ah (v:=.bool _) 0 U U<|ah (v:=aa _) 2 U (mb U U U U T.aG)<|ch 0 U U aN<|aU 2 U fun fr E=>?_;refine bi E U U ?_;exact⟨(),U,M.fin (List.Sublist.refl _) trivial⟩
theorem ui{av:Nat}{lv bk aq:Value}{S:cC}{w0:World}(H:Has w0 (bW av lv bk aq S))(bJ:S.Ok){b:Value}{bl:List UInt8}(ak:Bytes w0 b bl)(cK:∀g,b.ownBlock=some g->¬aS (bW av lv bk aq S) g)(i:Int):aY prog 106 [ai av 0,aa i,b] w0 (bW av lv bk aq S) (fun _:Unit=>aa (S.kz i bl)) (fun _=>bW av lv bk aq S) (fun _=>True):=by
 unfold cC.kz;by_cases h:i<0
 ·rw[if_pos (Or.inl h)];exact aam H bJ ak cK h
 ·by_cases an:(S.n:Int)<=i
  ·rw[if_pos (Or.inr an)];exact aak H bJ ak cK h an
  ·rw[if_neg (fun c=>c.elim h an)];by_cases aB:1024<bl.length
   ·rw[if_pos aB];exact aal H bJ ak cK h an aB
   ·rw[if_neg aB];exact aan H bJ ak cK h an aB
theorem Lr{av:Nat}{lv bk aq:Value}{S:cC}{w0:World}(H:Has w0 (bW av lv bk aq S))(bJ:S.Ok){fR:Addr}(i:Int):aY prog 106 [ai av 0,aa i,.slice (some fR) 0 0] w0 (bW av lv bk aq S) (fun _:Unit=>aa (S.kz i [])) (fun _=>bW av lv bk aq S) (fun _=>True):=by
 unfold cC.kz;by_cases h:i<0
 ·rw[if_pos (Or.inl h)];exact aap H bJ h
 ·by_cases an:(S.n:Int)<=i
  ·rw[if_pos (Or.inr an)];exact aao H bJ h an
  ·rw[if_neg (fun c=>c.elim h an),if_neg aN];exact aaq H bJ h an
theorem Nv{av:Nat}{lv bk aq:Value}{S:cC}{w0:World}(H:Has w0 (bW av lv bk aq S))(bJ:S.Ok)(h:S.off=true):aY prog 109 [ai av 0] w0 (bW av lv bk aq S) (fun _:Unit=>aa 12) (fun _=>bW av lv bk aq S) (fun _=>True):=by
 refine enter (n:=28) func109 U U U ?_;intro fr E;have M:=ht H;refine aV E<|ah (v:=.bool S.off) 4 U (aE U U T.fZ (M.row (i:=0) U) U)<|bw 0 U fun fr E=>?_;refine cond_true E U (h) ?_;refine dT E<|aU 1 U fun fr E=>?_;refine bi E U U ?_;exact⟨(),U,M.fin (List.Sublist.refl _) trivial⟩
theorem DV{av:Nat}{lv bk aq:Value}{S:cC}{w0:World}(H:Has w0 (bW av lv bk aq S))(bJ:S.Ok)(h:S.off=false)(aI:S.left=0):aY prog 109 [ai av 0] w0 (bW av lv bk aq S) (fun _:Unit=>aa 12) (fun _=>bW av lv bk aq {S with off:=true}) (fun _=>True):=by
 refine enter (n:=28) func109 U U U ?_;intro fr E;have M:=ht H;refine aV E<|ah (v:=.bool S.off) 4 U (aE U U T.fZ (M.row (i:=0) U) U)<|bw 0 U fun fr E=>?_;refine cond_false E U (h) ?_;refine dT E<|ah (v:=aa _) 3 U (aE U U T.bc (M.row (i:=0) U) U)<|bD 0 U U aI<|bj (i:=0) (cs':= #[aa (S.n:Int),aa (S.left),aa (S.written),.bool true,lv,bk,aq]) M 4 U U (cy (v:=_) U U U T.kf (M.row (i:=0) U) (rfl) (rfl) (rfl)) U fun w M=>aU 1 U fun fr E=>?_;refine bi E U U ?_;exact⟨(),U,M.fin (List.Sublist.refl _) trivial⟩
theorem DU{av:Nat}{lv bk aq:Value}{S:cC}{w0:World}(H:Has w0 (bW av lv bk aq S))(bJ:S.Ok)(h:S.off=false)(aI:¬S.left=0)(hp:0<S.left):aY prog 109 [ai av 0] w0 (bW av lv bk aq S) (fun _:Unit=>aa 0) (fun _=>bW av lv bk aq {S with left:=dC (S.left-1)}) (fun _=>True):=by
 refine enter (n:=28) func109 U U U ?_;intro fr E;have M:=ht H;refine aV E<|ah (v:=.bool S.off) 4 U (aE U U T.fZ (M.row (i:=0) U) U)<|bw 0 U fun fr E=>?_;refine cond_false E U (h) ?_;refine dT E<|ah (v:=aa _) 3 U (aE U U T.bc (M.row (i:=0) U) U)<|bs 0 U U aI<|ah (v:=aa _) 4 U (aE U U T.bc (M.row (i:=0) U) U)<|bD 0 U U hp<|ah (v:=aa _) 5 U (aE U U T.bc (M.row (i:=0) U) U)<|a1 (y:=dC (S.left-1)) 0 U U (rfl)<|bj (i:=0) (cs':= #[aa (S.n:Int),aa (dC (S.left-1)),aa (S.written),.bool S.off,lv,bk,aq]) M 2 U U (cy (v:=_) U U U T.c3 (M.row (i:=0) U) (rfl) (rfl) (rfl)) U fun w M=>aU 1 U fun fr E=>?_;refine bi E U U ?_;exact⟨(),U,M.fin (List.Sublist.refl _) trivial⟩
theorem DW{av:Nat}{lv bk aq:Value}{S:cC}{w0:World}(H:Has w0 (bW av lv bk aq S))(bJ:S.Ok)(h:S.off=false)(aI:¬S.left=0)(hp:¬0<S.left):aY prog 109 [ai av 0] w0 (bW av lv bk aq S) (fun _:Unit=>aa 0) (fun _=>bW av lv bk aq S) (fun _=>True):=by
 refine enter (n:=28) func109 U U U ?_;intro fr E;have M:=ht H;refine aV E<|ah (v:=.bool S.off) 4 U (aE U U T.fZ (M.row (i:=0) U) U)<|bw 0 U fun fr E=>?_;refine cond_false E U (h) ?_;refine dT E<|ah (v:=aa _) 3 U (aE U U T.bc (M.row (i:=0) U) U)<|bs 0 U U aI<|ah (v:=aa _) 4 U (aE U U T.bc (M.row (i:=0) U) U)<|bs 0 U U hp<|aU 2 U fun fr E=>?_;refine bi E U U ?_;exact⟨(),U,M.fin (List.Sublist.refl _) trivial⟩
theorem MP{av:Nat}{lv bk aq:Value}{S:cC}{w0:World}(H:Has w0 (bW av lv bk aq S))(bJ:S.Ok){i:Int}{e:cu}(aJ:fj S.cs i=some e)(he:(e.2.1,e.2.2)∈S.ps/\e.2.2.length<=1024):aY prog 20 [ai av 0,aa i] w0 (bW av lv bk aq S) (fun v:Value=>v) (fun v=>.bytes 5 v e.2.2::bW av lv bk aq S) (fun _=>True):=by
 refine enter (n:=28) func20 U U U ?_;intro fr E;have M:=ht H;refine aV E<|ah (v:=bk) 4 U (aE U U T.hR (M.row (i:=0) U) U)<|cP M 1 U (ar U U T.uX) (Fq (M.reads 2 U) bJ.uL aJ (M.gr (i:=4) U he.1) he.2) U fun c w _ M=>ah (v:=.bool _) 6 U U<|aU 3 U fun fr E=>?_;refine bi E U U ?_;exact⟨_,U,M.fin (List.Sublist.refl _) trivial⟩
theorem MQ{av:Nat}{lv bk aq:Value}{S:cC}{w0:World}(H:Has w0 (bW av lv bk aq S))(bJ:S.Ok){i:Int}{e:cu}(aJ:fj S.cs i=none)(aI:fj S.ls i=some e)(he:(e.2.1,e.2.2)∈S.ps/\e.2.2.length<=1024):aY prog 20 [ai av 0,aa i] w0 (bW av lv bk aq S) (fun v:Value=>v) (fun v=>.bytes 5 v e.2.2::bW av lv bk aq S) (fun _=>True):=by
 refine enter (n:=28) func20 U U U ?_;intro fr E;have M:=ht H;refine aV E<|ah (v:=bk) 4 U (aE U U T.hR (M.row (i:=0) U) U)<|bo M 1 U (ar U U T.uX) (Am (M.reads 2 U) bJ.uL aJ) fun w M=>ah (v:=.bool _) 6 U U<|ah (v:=lv) 4 U (aE U U T.hR (M.row (i:=0) U) U)<|cP M 1 U (ar U U T.uX) (Fq (M.reads 1 U) bJ.Hn aI (M.gr (i:=4) U he.1) he.2) U fun c w _ M=>aU 6 U fun fr E=>?_;refine bi E U U ?_;exact⟨_,U,M.fin (List.Sublist.refl _) trivial⟩
theorem MR{av:Nat}{lv bk aq:Value}{S:cC}{w0:World}(H:Has w0 (bW av lv bk aq S))(bJ:S.Ok){i:Int}(aJ:fj S.cs i=none)(aI:fj S.ls i=none):aY prog 20 [ai av 0,aa i] w0 (bW av lv bk aq S) (fun v:Value=>v) (fun v=>.bytes 5 v []::bW av lv bk aq S) (fun _=>True):=by
 refine enter (n:=28) func20 U U U ?_;intro fr E;have M:=ht H;refine aV E<|ah (v:=bk) 4 U (aE U U T.hR (M.row (i:=0) U) U)<|bo M 1 U (ar U U T.uX) (Am (M.reads 2 U) bJ.uL aJ) fun w M=>ah (v:=.bool _) 6 U U<|ah (v:=lv) 4 U (aE U U T.hR (M.row (i:=0) U) U)<|bo M 1 U (ar U U T.uX) (Am (M.reads 1 U) bJ.Hn aI) fun w M=>aU 6 U fun fr E=>?_;refine bi E U U ?_;have M:=M.jg 5;exact⟨_,U,M.fin (List.Sublist.refl _) trivial⟩
theorem DN{av:Nat}{lv bk aq:Value}{S:cC}{w0:World}(H:Has w0 (bW av lv bk aq S))(bJ:S.Ok)(i:Int):aY prog 20 [ai av 0,aa i] w0 (bW av lv bk aq S) (fun v:Value=>v) (fun v=>.bytes 5 v (S.sd i)::bW av lv bk aq S) (fun _=>True):=by
 unfold cC.sd;cases aJ:fj S.cs i with
 |some e=>exact MP H bJ aJ (bJ.e7 e (List.mem_append_right _ (List.mem_of_find?_eq_some aJ)))
 |none=>
  cases aI:fj S.ls i with
  |some e=>exact MQ H bJ aJ aI (bJ.e7 e (List.mem_append_left _ (List.mem_of_find?_eq_some aI)))
  |none=>exact MR H bJ aJ aI
theorem M3{av:Nat}{lv bk aq:Value}{S:cC}{w0:World}(H:Has w0 (bW av lv bk aq S))(bJ:S.Ok){i:Int}(h:i<0):aY prog 55 [ai av 0,aa i] w0 (bW av lv bk aq S) (fun _:Unit=>.tuple #[.slice none 0 0,aa 7]) (fun _=>bW av lv bk aq S) (fun _=>True):=by
 refine enter (n:=33) func55 U U U ?_;intro fr E;have M:=ht H;refine aV E<|bD 3 U U h<|ah (v:=.bool _) 7 U U<|aU 3 U fun fr E=>?_;refine fN E U U U ?_;exact⟨(),U,M.fin (List.Sublist.refl _) trivial⟩
theorem M1{av:Nat}{lv bk aq:Value}{S:cC}{w0:World}(H:Has w0 (bW av lv bk aq S))(bJ:S.Ok){i:Int}(h:¬i<0)(an:(S.n:Int)<=i):aY prog 55 [ai av 0,aa i] w0 (bW av lv bk aq S) (fun _:Unit=>.tuple #[.slice none 0 0,aa 7]) (fun _=>bW av lv bk aq S) (fun _=>True):=by
 refine enter (n:=33) func55 U U U ?_;intro fr E;have M:=ht H;refine aV E<|bs 3 U U h<|ah (v:=aa _) 5 U (aE U U T.bc (M.row (i:=0) U) U)<|bD 0 U U an<|ah (v:=.bool _) 0 U U<|aU 3 U fun fr E=>?_;refine fN E U U U ?_;exact⟨(),U,M.fin (List.Sublist.refl _) trivial⟩
theorem M2{av:Nat}{lv bk aq:Value}{S:cC}{w0:World}(H:Has w0 (bW av lv bk aq S))(bJ:S.Ok){j:Nat}(ax:j<S.n):aY prog 55 [ai av 0,aa (j:Int)] w0 (bW av lv bk aq S) (fun v:Value=>.tuple #[v,aa 0]) (fun v=>.bytes 5 v (S.sd (j:Int))::bW av lv bk aq {S with counts:=S.counts.set j (dC ((S.counts[j]'(bJ.count.symm▸ax))+1))}) (fun _=>True):=by
 refine enter (n:=33) func55 U U U ?_;intro fr E;have M:=ht H;refine aV E<|bs 3 U U ae<|ah (v:=aa _) 5 U (aE U U T.bc (M.row (i:=0) U) U)<|bs 0 U U ae<|ah (v:=.bool _) 0 U U<|bw 1 U fun fr E=>?_;refine(ii (B:=T.KG) (Vs:=(.af _:: .af _:: .af (ai _ 6):: .af (aq):: .af _:: .af _:: .af _:: .af (ai _ 6):: .af (aq):: .af _:: .af (cellAt aq (j*1)):: .af (aa (S.counts[j]'(bJ.count.symm▸ax))):: .af (.int _ (dC ((S.counts[j]'(bJ.count.symm▸ax))+1))):: .af (cellAt aq (j*1))::[])) T.Zj 14 E T.mixed T.Zi U U U (ej.e6 U) ⟨aw U U,
   aw U U,
   aw U U,
   aC U U (fun x w ad ab=>aE U U T.qY ((M.aQ ad).row (i:=0) U) U),
   aw U U,
   aw U U,
   aw U U,
   aw U U,
   aC U U (fun x w ad ab=>aE U U T.qY ((M.aQ ad).row (i:=0) U) U),
   aw U U,
   aC U U (fun x w ad ab=>bL (i:=j) U ((M.aQ ad).reads 3 U) U U (rfl) (ax) T.en T.c3),
   aC U U (fun x w ad ab=>b2 U ((M.aQ ad).reads 3 U) U T.bc (by rw[Nat.mul_one];exact kU (by rw[bJ.count];exact ax))),
   aC U U (fun x w ad ab=>num U (rfl)),
   aC U U (fun x w ad ab=>bL (i:=j) U ((M.aQ ad).reads 3 U) U U (rfl) (ax) T.en T.c3),ay⟩ ?_)
 intro x fr w ad ab E;have M:=M.ext ad;refine x6 (i:=3) (k:=j*1) (u:=aa (dC ((S.counts[j]'(bJ.count.symm▸ax))+1))) (xs':=fg (S.counts.set j (dC ((S.counts[j]'(bJ.count.symm▸ax))+1)))) E M U U U U U U U U U T.c3 ae U (by rw[Bo]) fun fr w M E=>?_;refine cm E<|bC (bW av lv bk aq {S with counts:=S.counts.set j (dC ((S.counts[j]'(bJ.count.symm▸ax))+1))}) M 2 U (ar U U T.FI) U (fun H=>DN (S:={S with counts:=S.counts.set j (dC ((S.counts[j]'(bJ.count.symm▸ax))+1))}) H ⟨bJ.max,(List.length_set).trans bJ.count,bJ.oC,bJ.mY,bJ.oB,bJ.cin,bJ.e7⟩ (j:Int)) fun c w _ M=>aU 2 U fun fr E=>?_;refine fN E U U U ?_;exact⟨_,U,M.fin (List.Sublist.refl _) trivial⟩
theorem LG{av:Nat}{lv bk aq:Value}{S:cC}{w0:World}(H:Has w0 (bW av lv bk aq S))(bJ:S.Ok){n:Int}(h:n<0):aY prog 58 [ai av 0,aa n] w0 (bW av lv bk aq S) (fun _:Unit=>.tuple #[]) (fun _=>bW av lv bk aq {S with left:= -1}) (fun _=>True):=by
 refine enter (n:=13) func58 U U U ?_;intro fr E;have M:=ht H;refine aV E<|bj (i:=0) (cs':= #[aa (S.n:Int),aa (n),aa (S.written),.bool S.off,lv,bk,aq]) M 4 U U (cy (v:=_) U U U T.c3 (M.row (i:=0) U) (rfl) (rfl) (rfl)) U fun w M=>bD 1 U U h<|bj (i:=0) (cs':= #[aa (S.n:Int),aa (-1),aa (S.written),.bool S.off,lv,bk,aq]) M 4 U U (cy (v:=_) U U U T.c3 (M.row (i:=0) U) (rfl) (rfl) (rfl)) U fun w M=>aU 0 U fun fr E=>?_;refine pQ E U ?_;exact⟨(),U,M.fin (List.Sublist.refl _) trivial⟩
theorem LH{av:Nat}{lv bk aq:Value}{S:cC}{w0:World}(H:Has w0 (bW av lv bk aq S))(bJ:S.Ok){n:Int}(h:¬n<0):aY prog 58 [ai av 0,aa n] w0 (bW av lv bk aq S) (fun _:Unit=>.tuple #[]) (fun _=>bW av lv bk aq {S with left:=n}) (fun _=>True):=by
 refine enter (n:=13) func58 U U U ?_;intro fr E;have M:=ht H;refine aV E<|bj (i:=0) (cs':= #[aa (S.n:Int),aa (n),aa (S.written),.bool S.off,lv,bk,aq]) M 4 U U (cy (v:=_) U U U T.c3 (M.row (i:=0) U) (rfl) (rfl) (rfl)) U fun w M=>bs 1 U U h<|aU 1 U fun fr E=>?_;refine pQ E U ?_;exact⟨(),U,M.fin (List.Sublist.refl _) trivial⟩
theorem MH{k:Nat}{w0:World}(h:1<=k)(an:k<=4096):aY prog 10 [aa (k:Int)] w0 [] (fun q:Nat×Value=>.tuple #[ai q.1 0,aa 0]) (fun q=>bW q.1 (.slice none 0 0) (.slice none 0 0) q.2 (cC.new k)) (fun _=>True):=by
 refine enter (n:=15) func10 U U U ?_;intro fr E;have M:=ht (Has.nil w0);refine aV E<|bs 3 U U ae<|bs 2 U U ae<|ah (v:=.bool _) 0 U U<|cv 3 U fun fr E=>?_;refine Jf (k:=k) (c:=k) E M U U U U U U U U (rfl) (rfl) T.en T.LA T.Lx T.ED (Nat.le_refl _) ae fun aq fr w M E=>?_;refine cw E<|ah (v:=.agg #[aa (k:Int),aa (-1),aa 0,.bool false,.slice none 0 0,.slice none 0 0,aq]) 0 U (yJ (qs:=[(0,aa (k:Int)),(1,aa (-1)),(6,aq)]) U U T.ZY T.aaK ((xo (off:=0) (cs:=[aa 0,aa 0,aa 0,.bool false,.slice none 0 0,.slice none 0 0,.slice none 0 0].toArray) U U (by simp)).trans ((xo (off:=1) U U (by simp)).trans (xo (off:=6) U (M.reads 0 U).one (by simp)))))<|bh (ob:=.cells (#[aa (k:Int),aa (-1),aa 0,.bool false,.slice none 0 0,.slice none 0 0,aq]) 81) (fun g=>ai g 0) M 0 U (cS (cs:=(#[aa (k:Int),aa (-1),aa 0,.bool false,.slice none 0 0,.slice none 0 0,aq])) U U) fun aZ w M=>aU 2 U fun fr E=>?_;refine fN E U U U ?_;have M:=M.aH 1 rfl;have M:=M.aH 1 rfl;have M:=M.jo (bd.refl _) (.e7 []) (fun q bE=>absurd bE (by simp)) fun g al=>by simp[az.e7]at al
 have M:=M.jo (bd.refl _) (.row 172 2 (.slice none 0 0) 0 []) (World.ownsRow_nil _ 0 _ 2) fun g al=>by simp[az.row,Value.ownBlock]at al
 have M:=M.jo (bd.refl _) (.row 172 2 (.slice none 0 0) 0 []) (World.ownsRow_nil _ 0 _ 2) fun g al=>by simp[az.row,Value.ownBlock]at al
 exact⟨(aZ,aq),U,(M.perm (L':=bW aZ (.slice none 0 0) (.slice none 0 0) aq (cC.new k)) (Uk _ _ _ _ _ Ww)).fin (List.Sublist.refl _) trivial⟩
end
section
open Go.RowKit Go.a2 Go.Proofs Go.Proofs.Tryz
def cC.wrote(S:cC)(L i:Int)(v:Value)(b:List UInt8):cC:={S with left:=L,written:=dC (S.written+1),cs:=ed S.cs (i,v,b),ps:=(v,b)::S.ps}
def cC.spoilt(S:cC)(i:Int)(v:Value)(b:List UInt8):cC:={S with ls:=ed S.ls (i,v,b),cs:=dn S.cs i,ps:=(v,b)::S.ps}
def iL(S:cC)(j:Nat):List cu:=(S.cs.take j).foldl ed S.ls
def cC.mK(S:cC)(L:Int):cC:={S with left:=L,ls:=iL S S.cs.length,cs:=[]}
def hq(S:cC)(il:List Int):Nat->List cu
 |0=>S.ls
 |j+1=>match S.cs[j]? with
  |some e=>if(il[j]?).getD 0=0 then hq S il j else ed (hq S il j) e
  |none=>hq S il j
def cC.qh(S:cC)(il:List Int):cC:={S with left:= -1,off:=false,ls:=hq S il S.cs.length,cs:=[]}
theorem Im{s:cu}{e:cu}:∀{l:List cu} {r:List cu×Bool},e∈(l.foldl (kY s) r).1->e∈r.1\/e=s\/e∈l
 |[],r,h=>.inl h
 |a::q,r,h=>by
  rw[List.foldl_cons]at h;rcases Im h with h|h|h
  ·unfold kY at h;split at h
   ·simp only[List.append_assoc,List.mem_append,List.mem_cons,List.not_mem_nil,or_false]at h;rcases h with h|h|h
    ·exact .inl h
    ·exact .inr (.inl h)
    ·exact .inr (.inr (h▸List.mem_cons_self ..))
   ·simp only[List.mem_append,List.mem_cons,List.not_mem_nil,or_false]at h;rcases h with h|h
    ·exact .inl h
    ·exact .inr (.inr (h▸List.mem_cons_self ..))
  ·exact .inr (.inl h)
  ·exact .inr (.inr (List.mem_cons_of_mem _ h))
theorem tL{l:List cu}{s e:cu}(h:e∈ed l s):e=s\/e∈l:=by
 have key:e∈(hK s (dn l s.1)).1->e=s\/e∈l:=fun h=>by
  rcases Im h with h|h|h
  ·cases h
  ·exact .inl h
  ·exact .inr (zf h)
 unfold ed at h;split at h
 ·exact key h
 ·rcases List.mem_append.1 h with h|h
  ·exact key h
  ·exact .inl (List.mem_singleton.1 h)
theorem II{l:List cu}{s:cu}:(ed l s).length<=l.length+1:=by
 have aj:=BU s (dn l s.1) ([],false);have an:=Dp l s.1;unfold ed hK;simp at aj;split
 ·rename_i h;rw[if_pos h]at aj;omega
 ·rename_i h;rw[if_neg h]at aj;rw[List.length_append,List.length_singleton];omega
theorem CH{S:cC}{j:Nat}(h:j<S.cs.length):iL S (j+1)=ed (iL S j) (S.cs[j]):=by
 unfold iL;rw[List.take_succ_eq_append_getElem h,List.foldl_append];rfl
theorem CG(S:cC):∀j,(iL S j).length<=S.ls.length+j
 |0=>Nat.le_refl _
 |j+1=>by
  have aj:=CG S j;by_cases h:j<S.cs.length
  ·rw[CH h];have:=II (l:=iL S j) (s:=S.cs[j]);omega
  ·have e:iL S (j+1)=iL S j:=by unfold iL;rw[List.take_of_length_le ae,List.take_of_length_le ae]
   rw[e];omega
theorem F6{e:cu}:∀{cs ls:List cu},e∈cs.foldl ed ls->e∈ls\/e∈cs
 |[],ls,h=>.inl h
 |a::q,ls,h=>by
  rcases F6 (cs:=q) h with h|h
  ·rcases tL h with rfl|h
   ·exact .inr (List.mem_cons_self ..)
   ·exact .inl h
  ·exact .inr (List.mem_cons_of_mem _ h)
theorem yY{S:cC}{j:Nat}{e:cu}(h:e∈iL S j):e∈S.ls++S.cs:=List.mem_append.2 ((F6 h).imp id fun h=>List.mem_of_mem_take h)
theorem PW{S:cC}{il:List Int}{j:Nat}(h:j<S.cs.length)(hi:j<il.length)(eP:¬il[j]=0):hq S il (j+1)=ed (hq S il j) (S.cs[j]):=by
 rw[hq,List.getElem?_eq_getElem h,List.getElem?_eq_getElem hi];exact if_neg eP
theorem PX{S:cC}{il:List Int}{j:Nat}(hi:j<il.length)(eP:il[j]=0):hq S il (j+1)=hq S il j:=by
 rw[hq,List.getElem?_eq_getElem hi];split
 ·exact if_pos eP
 ·rfl
theorem ET{S:cC}{il:List Int}{j:Nat}(hi:¬j<il.length):hq S il (j+1)=hq S il j:=by
 rw[hq,List.getElem?_eq_none (l:=il) ae];split
 ·exact if_pos U
 ·rfl
theorem z6(S:cC)(il:List Int):∀j,(hq S il j).length<=S.ls.length+j
 |0=>Nat.le_refl _
 |j+1=>by
  have aj:=z6 S il j;rw[hq];split
  ·rename_i e _;split
   ·omega
   ·have:=II (l:=hq S il j) (s:=e);omega
  ·omega
theorem s4{S:cC}{il:List Int}{e:cu}:∀{j:Nat},e∈hq S il j->e∈S.ls++S.cs
 |0,h=>List.mem_append_left _ h
 |j+1,h=>by
  rw[hq]at h;split at h
  ·rename_i x ad;split at h
   ·exact s4 h
   ·rcases tL h with rfl|h
    ·exact List.mem_append_right _ (List.mem_of_getElem? ad)
    ·exact s4 h
  ·exact s4 h
theorem perm_nil{α:Type}(x a b c d:α)(r:List α):([a,b,x,c,d]++r).Perm (x::a::b::c::d::r):=by
 have h: [a,b,x,c,d].Perm [x,a,b,c,d]:=List.perm_middle (l₁:=[a,b]) (a:=x) (l₂:=[c,d]);exact h.append_right r
theorem LU{fR:Addr}(w0:World):aY prog 27 [.slice (some fR) 0 0] w0 [] (fun s:Value=>s) (fun s=>[.bytes 5 s []]) (fun _=>True):=by
 refine enter (n:=19) func27 U U U ?_;intro fr E;have M:=ht (Has.nil w0);refine aV E<|bw 3 U fun fr E=>?_;refine cI (fun d fr w=>∃o:Value,d=0/\Env [(4,aa 0),(3,o),(0,.slice (some fR) 0 0)] 19 fr/\Mem w0 (aS []) [.bytes 5 o []] (fun _=>True) w) (0) ?_ ?_
 ·have M:=M.jg 5;exact⟨_,U,E.lL [0,3,4] rfl,M⟩
 ·clear E M;rintro d fr w ⟨o,rfl,E,M⟩;refine bA E<|ah (v:=aa _) 2 U (mb U U U U T.aG)<|ch 0 U U aN<|aU 3 U fun fr E=>?_;refine bi E U U ?_;exact⟨_,U,M.fin (.refl _) trivial⟩
theorem N1{av:Nat}{lv bk aq:Value}{S:cC}{w0:World}(H:Has w0 (bW av lv bk aq S))(bJ:S.Ok){b:Value}{bl:List UInt8}(ak:Bytes w0 b bl)(cK:∀g,b.ownBlock=some g->¬aS (bW av lv bk aq S) g){i:Int}(h:S.off=true):aY prog 105 [ai av 0,aa i,b] w0 (bW av lv bk aq S) (fun _:Unit=>aa 12) (fun _=>bW av lv bk aq S) (fun _=>True):=by
 refine enter (n:=43) func105 U U U ?_;intro fr E;have M:=Mem.begin (Φ:=fun w'=>Bytes w' b bl) H (fun w' h=>Reads.held ak h cK);refine aV E<|ah (v:=.bool S.off) 4 U (aE U U T.fZ (M.row (i:=0) U) U)<|bw 0 U fun fr E=>?_;refine cond_true E U (h) ?_;refine dT E<|aU 1 U fun fr E=>?_;refine bi E U U ?_;exact⟨(),U,M.fin (List.Sublist.refl _) trivial⟩
theorem D6{av:Nat}{lv bk aq:Value}{S:cC}{w0:World}(H:Has w0 (bW av lv bk aq S))(bJ:S.Ok){b:Value}{bl:List UInt8}(ak:Bytes w0 b bl)(cK:∀g,b.ownBlock=some g->¬aS (bW av lv bk aq S) g){i:Int}{nz:Int}(h:S.off=false)(hw:S.kz i bl=nz)(he:¬nz=0):aY prog 105 [ai av 0,aa i,b] w0 (bW av lv bk aq S) (fun _:Unit=>aa nz) (fun _=>bW av lv bk aq S) (fun _=>True):=by
 refine enter (n:=43) func105 U U U ?_;intro fr E;have M:=Mem.begin (Φ:=fun w'=>Bytes w' b bl) H (fun w' h=>Reads.held ak h cK);refine aV E<|ah (v:=.bool S.off) 4 U (aE U U T.fZ (M.row (i:=0) U) U)<|bw 0 U fun fr E=>?_;refine cond_false E U (h) ?_;refine dT E<|bC (bW av lv bk aq S) M 3 U (ar U U T.qm) U (fun H=>ui H bJ (M.fact) cK i) fun _ w _ M=>fun fr E=>?_;rw[hw]at E;refine bN E<|ch 2 U U (by simp;exact he)<|ei 2 U U (by simp;exact he)<|aU 3 U fun fr E=>?_;refine bi E U U ?_;exact⟨(),U,M.fin (List.Sublist.refl _) trivial⟩
theorem NZ{av:Nat}{lv bk aq:Value}{S:cC}{w0:World}(H:Has w0 (bW av lv bk aq S))(bJ:S.Ok){b:Value}{bl:List UInt8}(ak:Bytes w0 b bl)(cK:∀g,b.ownBlock=some g->¬aS (bW av lv bk aq S) g){i:Int}(h:S.off=false)(hw:S.kz i bl=0)(aI:S.left=0):aY prog 105 [ai av 0,aa i,b] w0 (bW av lv bk aq S) (fun _:Unit=>aa 12) (fun _=>bW av lv bk aq {S with off:=true}) (fun _=>True):=by
 refine enter (n:=43) func105 U U U ?_;intro fr E;have M:=Mem.begin (Φ:=fun w'=>Bytes w' b bl) H (fun w' h=>Reads.held ak h cK);refine aV E<|ah (v:=.bool S.off) 4 U (aE U U T.fZ (M.row (i:=0) U) U)<|bw 0 U fun fr E=>?_;refine cond_false E U (h) ?_;refine dT E<|bC (bW av lv bk aq S) M 3 U (ar U U T.qm) U (fun H=>ui H bJ (M.fact) cK i) fun _ w _ M=>fun fr E=>?_;rw[hw]at E;refine bN E<|ei 2 U U (rfl)<|bC (bW av lv bk aq S) M 2 U (ar U U T.rJ) U (fun H=>DV H bJ h aI) fun _ w _ M=>ei 2 U U (rfl)<|aU 3 U fun fr E=>?_;refine bi E U U ?_;exact⟨(),U,M.fin (List.Sublist.refl _) trivial⟩
theorem NY{av:Nat}{lv bk aq:Value}{S:cC}{w0:World}(H:Has w0 (bW av lv bk aq S))(bJ:S.Ok){b:Value}{bl:List UInt8}(ak:Bytes w0 b bl)(cK:∀g,b.ownBlock=some g->¬aS (bW av lv bk aq S) g){i:Int}(h:S.off=false)(hw:S.kz i bl=0)(au:bl.length<=1024)(aI:¬S.left=0)(m6:0<S.left):aY prog 105 [ai av 0,aa i,b] w0 (bW av lv bk aq S) (fun _:Value×Value=>aa 0) (fun q=>bW av lv q.1 aq (S.wrote (dC (S.left-1)) i q.2 bl)) (fun _=>True):=by
 refine enter (n:=43) func105 U U U ?_;intro fr E;have kP:=bJ.qR;have iT:=bJ.qg;have M:=Mem.begin (Φ:=fun w'=>Bytes w' b bl) H (fun w' h=>Reads.held ak h cK);refine aV E<|ah (v:=.bool S.off) 4 U (aE U U T.fZ (M.row (i:=0) U) U)<|bw 0 U fun fr E=>?_;refine cond_false E U (h) ?_;refine dT E<|bC (bW av lv bk aq S) M 3 U (ar U U T.qm) U (fun H=>ui H bJ (M.fact) cK i) fun _ w _ M=>fun fr E=>?_;rw[hw]at E;refine bN E<|ei 2 U U (rfl)<|bC (bW av lv bk aq S) M 2 U (ar U U T.rJ) U (fun H=>DU H bJ h aI m6) fun _ w _ M=>ch 2 U U (rfl)<|bw 1 U fun fr E=>?_;refine(ii (B:=T.CJ) (Vs:=(.af _:: .af _:: .af _:: .af (ai _ 5):: .af (bk):: .af _:: .af _::cV w.heap.size (fun v=>[az.bytes 5 v bl]) (fun _=>True)::sP w.heap.size 5 i (bl)::cL w.heap.size [] (fun q:Value×Value=>q.1) (fun q=>[az.row 172 2 q.1 (ed S.cs (i,q.2,bl)).length (ek (ed S.cs (i,q.2,bl))),az.bytes 5 q.2 (bl)]) (fun _=>True):: .af _:: .af (ai _ 5)::[])) T.JA 12 E T.mixed T.Jz U U U (fH.dF ⟨ay,ay,ay,ay,ay,ay,ay,cn.df,cn.yM,cn.hx,ay,ay,ay⟩) ⟨aw U U,
   aw U U,
   aw U U,
   aw U U,
   aC U U (fun x w ad ab=>aE U U T.hR ((M.aQ ad).row (i:=0) U) U),
   aw U U,
   aw U U,
   cE U U (fun x w ad ab=>⟨_,_,U,U,U,ar U U T.uU,(wJ (M.aQ ad).fact ae).eN ad.size⟩),
   h3 U U (fun x w ad ab=>⟨U,U,U,yO U U U T.za T.zo (ab 7 U)⟩),
   cE U U (fun x w ad ab=>⟨_,_,U,U,U,ar U U T.rI,yN (R:=(fun o u=>az.row 172 2 o (ed S.cs (i,u,bl)).length (ek (ed S.cs (i,u,bl))))) ad.size (ab 8 U) (fun u hu aj=>sg (s:=(i,u,bl)) ((M.aQ ad).reads 2 U) (fun e he=>Reads.one ((M.aQ ad).gr (i:=4) U (bJ.e7 e (List.mem_append_right _ he)).1)) aj ae)⟩),
   aw U U,
   aw U U,ay⟩ ?_)
 intro x fr w ad ab E;obtain⟨⟨kH,jX⟩,bn, -,M⟩:=M.kG (val:=fun q:Value×Value=>q.1) (outs:=(fun q=>[az.row 172 2 q.1 (ed S.cs (i,q.2,bl)).length (ek (ed S.cs (i,q.2,bl))),az.bytes 5 q.2 (bl)])) (p:=fun _=>True) ad (ab 9 aN);have E:=Env.gD (t:=32) E rfl bn;refine iq (i:=2) (cs':= #[aa (S.n:Int),aa (dC (S.left-1)),aa (S.written),.bool S.off,lv,kH,aq]) E M U U U U U U (cy (v:=_) U U U T.mJ (M.row (i:=2) U) (rfl) ((M.reads 0 U).one) (rfl)) U fun fr w M E=>?_;refine cm E<|ah (v:=aa _) 4 U (aE U U T.bc (M.row (i:=2) U) U)<|a1 (y:=dC (S.written+1)) 0 U U (rfl)<|bj (i:=2) (cs':= #[aa (S.n:Int),aa (dC (S.left-1)),aa (dC (S.written+1)),.bool S.off,lv,kH,aq]) M 2 U U (cy (v:=_) U U U T.c3 (M.row (i:=2) U) (rfl) (rfl) (rfl)) U fun w M=>aU 1 U fun fr E=>?_;refine bi E U U ?_;have M:=M.aH 6 rfl;have M:=M.aH 2 rfl;have M:=M.nT;have M:=M.aH 5 rfl;have M:=M.aH 2 rfl;have M:=M.aH 4 rfl;have M:=M.aH 4 rfl;exact⟨(kH,jX),U,Mem.fin (L:=bW av lv kH aq (S.wrote (dC (S.left-1)) i jX bl)++_) M (List.sublist_append_left _ _) trivial⟩
theorem N0{av:Nat}{lv bk aq:Value}{S:cC}{w0:World}(H:Has w0 (bW av lv bk aq S))(bJ:S.Ok){b:Value}{bl:List UInt8}(ak:Bytes w0 b bl)(cK:∀g,b.ownBlock=some g->¬aS (bW av lv bk aq S) g){i:Int}(h:S.off=false)(hw:S.kz i bl=0)(au:bl.length<=1024)(aI:¬S.left=0)(m6:¬0<S.left):aY prog 105 [ai av 0,aa i,b] w0 (bW av lv bk aq S) (fun _:Value×Value=>aa 0) (fun q=>bW av lv q.1 aq (S.wrote (S.left) i q.2 bl)) (fun _=>True):=by
 refine enter (n:=43) func105 U U U ?_;intro fr E;have kP:=bJ.qR;have iT:=bJ.qg;have M:=Mem.begin (Φ:=fun w'=>Bytes w' b bl) H (fun w' h=>Reads.held ak h cK);refine aV E<|ah (v:=.bool S.off) 4 U (aE U U T.fZ (M.row (i:=0) U) U)<|bw 0 U fun fr E=>?_;refine cond_false E U (h) ?_;refine dT E<|bC (bW av lv bk aq S) M 3 U (ar U U T.qm) U (fun H=>ui H bJ (M.fact) cK i) fun _ w _ M=>fun fr E=>?_;rw[hw]at E;refine bN E<|ei 2 U U (rfl)<|bC (bW av lv bk aq S) M 2 U (ar U U T.rJ) U (fun H=>DW H bJ h aI m6) fun _ w _ M=>ch 2 U U (rfl)<|bw 1 U fun fr E=>?_;refine(ii (B:=T.CJ) (Vs:=(.af _:: .af _:: .af _:: .af (ai _ 5):: .af (bk):: .af _:: .af _::cV w.heap.size (fun v=>[az.bytes 5 v bl]) (fun _=>True)::sP w.heap.size 5 i (bl)::cL w.heap.size [] (fun q:Value×Value=>q.1) (fun q=>[az.row 172 2 q.1 (ed S.cs (i,q.2,bl)).length (ek (ed S.cs (i,q.2,bl))),az.bytes 5 q.2 (bl)]) (fun _=>True):: .af _:: .af (ai _ 5)::[])) T.JA 12 E T.mixed T.Jz U U U (fH.dF ⟨ay,ay,ay,ay,ay,ay,ay,cn.df,cn.yM,cn.hx,ay,ay,ay⟩) ⟨aw U U,
   aw U U,
   aw U U,
   aw U U,
   aC U U (fun x w ad ab=>aE U U T.hR ((M.aQ ad).row (i:=0) U) U),
   aw U U,
   aw U U,
   cE U U (fun x w ad ab=>⟨_,_,U,U,U,ar U U T.uU,(wJ (M.aQ ad).fact ae).eN ad.size⟩),
   h3 U U (fun x w ad ab=>⟨U,U,U,yO U U U T.za T.zo (ab 7 U)⟩),
   cE U U (fun x w ad ab=>⟨_,_,U,U,U,ar U U T.rI,yN (R:=(fun o u=>az.row 172 2 o (ed S.cs (i,u,bl)).length (ek (ed S.cs (i,u,bl))))) ad.size (ab 8 U) (fun u hu aj=>sg (s:=(i,u,bl)) ((M.aQ ad).reads 2 U) (fun e he=>Reads.one ((M.aQ ad).gr (i:=4) U (bJ.e7 e (List.mem_append_right _ he)).1)) aj ae)⟩),
   aw U U,
   aw U U,ay⟩ ?_)
 intro x fr w ad ab E;obtain⟨⟨kH,jX⟩,bn, -,M⟩:=M.kG (val:=fun q:Value×Value=>q.1) (outs:=(fun q=>[az.row 172 2 q.1 (ed S.cs (i,q.2,bl)).length (ek (ed S.cs (i,q.2,bl))),az.bytes 5 q.2 (bl)])) (p:=fun _=>True) ad (ab 9 aN);have E:=Env.gD (t:=32) E rfl bn;refine iq (i:=2) (cs':= #[aa (S.n:Int),aa (S.left),aa (S.written),.bool S.off,lv,kH,aq]) E M U U U U U U (cy (v:=_) U U U T.mJ (M.row (i:=2) U) (rfl) ((M.reads 0 U).one) (rfl)) U fun fr w M E=>?_;refine cm E<|ah (v:=aa _) 4 U (aE U U T.bc (M.row (i:=2) U) U)<|a1 (y:=dC (S.written+1)) 0 U U (rfl)<|bj (i:=2) (cs':= #[aa (S.n:Int),aa (S.left),aa (dC (S.written+1)),.bool S.off,lv,kH,aq]) M 2 U U (cy (v:=_) U U U T.c3 (M.row (i:=2) U) (rfl) (rfl) (rfl)) U fun w M=>aU 1 U fun fr E=>?_;refine bi E U U ?_;have M:=M.aH 6 rfl;have M:=M.aH 2 rfl;have M:=M.nT;have M:=M.aH 5 rfl;have M:=M.aH 2 rfl;have M:=M.aH 4 rfl;have M:=M.aH 4 rfl;exact⟨(kH,jX),U,Mem.fin (L:=bW av lv kH aq (S.wrote (S.left) i jX bl)++_) M (List.sublist_append_left _ _) trivial⟩
theorem NB{av:Nat}{lv bk aq:Value}{S:cC}{w0:World}(H:Has w0 (bW av lv bk aq S))(bJ:S.Ok)(h:S.off=true):aY prog 56 [ai av 0] w0 (bW av lv bk aq S) (fun _:Unit=>aa 12) (fun _=>bW av lv bk aq S) (fun _=>True):=by
 refine enter (n:=37) func56 U U U ?_;intro fr E;have M:=ht H;refine aV E<|bC (bW av lv bk aq S) M 2 U (ar U U T.rJ) U (fun H=>Nv H bJ h) fun _ w _ M=>ei 2 U U (rfl)<|aU 3 U fun fr E=>?_;refine bi E U U ?_;exact⟨(),U,M.fin (List.Sublist.refl _) trivial⟩
theorem Nz{av:Nat}{lv bk aq:Value}{S:cC}{w0:World}(H:Has w0 (bW av lv bk aq S))(bJ:S.Ok)(h:S.off=false)(aI:S.left=0):aY prog 56 [ai av 0] w0 (bW av lv bk aq S) (fun _:Unit=>aa 12) (fun _=>bW av lv bk aq {S with off:=true}) (fun _=>True):=by
 refine enter (n:=37) func56 U U U ?_;intro fr E;have M:=ht H;refine aV E<|bC (bW av lv bk aq S) M 2 U (ar U U T.rJ) U (fun H=>DV H bJ h aI) fun _ w _ M=>ei 2 U U (rfl)<|aU 3 U fun fr E=>?_;refine bi E U U ?_;exact⟨(),U,M.fin (List.Sublist.refl _) trivial⟩
theorem Ny{av:Nat}{lv bk aq:Value}{S:cC}{w0:World}(H:Has w0 (bW av lv bk aq S))(bJ:S.Ok)(h:S.off=false)(aI:¬S.left=0)(m6:0<S.left):aY prog 56 [ai av 0] w0 (bW av lv bk aq S) (fun _:Value=>aa 0) (fun v=>bW av v (.slice none 0 0) aq (S.mK (dC (S.left-1)))) (fun _=>True):=by
 refine enter (n:=37) func56 U U U ?_;intro fr E;have kP:=bJ.qR;have iT:=bJ.qg;have M:=ht H;refine aV E<|bC (bW av lv bk aq S) M 2 U (ar U U T.rJ) U (fun H=>DU H bJ h aI m6) fun _ w _ M=>ch 2 U U (rfl)<|bw 2 U fun fr E=>?_;refine cI (fun d fr w=>∃(j:Nat) (lw:Value),d=S.cs.length-j/\j<=S.cs.length/\Env [(4,aa (j:Int)),(0,ai av 0)] 37 fr/\Mem w0 (aS (bW av lv bk aq S)) [.bb av (.cells #[aa (S.n:Int),aa (dC (S.left-1)),aa (S.written),.bool S.off,lw,bk,aq] 81),.row 172 2 lw ((iL S j)).length (ek ((iL S j))),.row 172 2 bk (S.cs).length (ek (S.cs)),.row 3 1 aq S.n (fg S.counts),.e7 S.ps] (fun _=>True) w) (S.cs.length) ?_ ?_
 ·exact⟨0,lv,U,Nat.zero_le _,E.lL [0,4] rfl,M⟩
 ·clear E M;rintro d fr w ⟨j,lw,rfl,hle,E,M⟩;by_cases ax:j<S.cs.length
  ·have vx:=CG S j;have hy:S.cs[j]'ax∈S.cs:=List.getElem_mem ax;refine bA E<|ah (v:=bk) 4 U (aE U U T.hR (M.row (i:=0) U) U)<|ah 0 U (bx U U U U T.eK (M.reads 2 U))<|bD 0 U U ae<|bw 1 U fun fr E=>?_;refine(ii (B:=T.C2) (Vs:=(.af _:: .af _:: .af _:: .af (ai _ 4):: .af (lw):: .af _:: .af _:: .af (ai _ 5):: .af (bk):: .af _:: .af (cellAt bk (j*2)):: .af (.agg #[aa (S.cs[j]'ax).1,(S.cs[j]'ax).2.1])::cL w.heap.size ([]) (fun o:Value=>o) (fun o=>[az.row 172 2 o (ed (iL S j) (S.cs[j]'ax)).length (ek (ed (iL S j) (S.cs[j]'ax)))]) (fun _=>True):: .af _:: .af (ai _ 4)::[])) T.KI 15 E T.mixed T.KH U U U (fH.dF ⟨ay,ay,ay,ay,ay,ay,ay,ay,ay,ay,ay,ay,cn.hx,ay,ay,ay⟩) ⟨aw U U,
   aw U U,
   aw U U,
   aw U U,
   aC U U (fun x w ad ab=>aE U U T.hR ((M.aQ ad).row (i:=0) U) U),
   aw U U,
   aw U U,
   aw U U,
   aC U U (fun x w ad ab=>aE U U T.hR ((M.aQ ad).row (i:=0) U) U),
   aw U U,
   aC U U (fun x w ad ab=>bL (i:=j) U ((M.aQ ad).reads 2 U) U U (rfl) (ax) T.eK T.jI),
   aC U U (fun x w ad ab=>hU U ((M.aQ ad).reads 2 U) U T.o3 ae ae (ss ax)),
   cE U U (fun x w ad ab=>⟨_,_,U,U,U,ar U U T.rI,(sg (s:=S.cs[j]'ax) ((M.aQ ad).reads 1 U) (fun e he=>Reads.one ((M.aQ ad).gr (i:=4) U (bJ.e7 e (yY he)).1)) (Reads.one ((M.aQ ad).gr (i:=4) U (bJ.e7 _ (List.mem_append_right _ hy)).1)) ae).qk ad.size⟩),
   aw U U,
   aw U U,ay⟩ ?_)
   intro x fr w ad ab E;obtain⟨kp,bn, -,M⟩:=M.kG (val:=fun o:Value=>o) (outs:=fun o=>[az.row 172 2 o (ed (iL S j) (S.cs[j]'ax)).length (ek (ed (iL S j) (S.cs[j]'ax)))]) (p:=fun _=>True) ad (ab 12 aN);have E:=Env.gD (t:=31) E rfl bn;refine iq (i:=1) (cs':= #[aa (S.n:Int),aa (dC (S.left-1)),aa (S.written),.bool S.off,kp,bk,aq]) E M U U U U U U (cy (v:=_) U U U T.mJ (M.row (i:=1) U) (rfl) ((M.reads 0 U).one) (rfl)) U fun fr w M E=>?_;refine cm E<|a1 (y:=((j+1:Nat):Int)) 1 U U ((br ae ae).trans ae)<|ct 1 U fun fr E=>?_;have M:=M.aH 5 rfl;have M:=M.aH 5 rfl;have M:=M.aH 5 rfl;have M:=M.aH 3 rfl;have M:=M.aH 4 rfl;exact⟨S.cs.length-(j+1),by omega,j+1,kp,U,by omega,E.lL [0,4] rfl,(M.sub (L':=[_,_,_,_,_]) (.cons_cons _ (.cons_cons _ (.cons_cons _ (.cons_cons _ (.cons_cons _ (List.nil_sublist _))))))).as (by rw[CH ax])⟩
  ·obtain rfl:j=S.cs.length:=by omega
   refine bA E<|ah (v:=bk) 4 U (aE U U T.hR (M.row (i:=0) U) U)<|ah 0 U (bx U U U U T.eK (M.reads 2 U))<|bs 0 U U ae<|bj (i:=0) (cs':= #[aa (S.n:Int),aa (dC (S.left-1)),aa (S.written),.bool S.off,lw,.slice none 0 0,aq]) M 4 U U (cy (v:=_) U U U T.mJ (M.row (i:=0) U) (rfl) (rfl) (rfl)) U fun w M=>aU 1 U fun fr E=>?_;refine bi E U U ?_;have M:=M.aH 4 rfl;have M:=M.aH 4 rfl;have M:=M.aH 3 rfl;have M:=M.aH 3 rfl;have M:=M.jo (bd.refl _) (.row 172 2 (.slice none 0 0) 0 []) (World.ownsRow_nil _ 0 _ 2) fun g al=>by simp[az.row,Value.ownBlock]at al
   have M:=M.perm (L':=[_,_,_,_,_]++_) (perm_nil _ _ _ _ _ _);exact⟨lw,U,Mem.fin (L:=bW av lw (.slice none 0 0) aq (S.mK (dC (S.left-1)))++_) M (List.sublist_append_left _ _) trivial⟩
theorem NA{av:Nat}{lv bk aq:Value}{S:cC}{w0:World}(H:Has w0 (bW av lv bk aq S))(bJ:S.Ok)(h:S.off=false)(aI:¬S.left=0)(m6:¬0<S.left):aY prog 56 [ai av 0] w0 (bW av lv bk aq S) (fun _:Value=>aa 0) (fun v=>bW av v (.slice none 0 0) aq (S.mK (S.left))) (fun _=>True):=by
 refine enter (n:=37) func56 U U U ?_;intro fr E;have kP:=bJ.qR;have iT:=bJ.qg;have M:=ht H;refine aV E<|bC (bW av lv bk aq S) M 2 U (ar U U T.rJ) U (fun H=>DW H bJ h aI m6) fun _ w _ M=>ch 2 U U (rfl)<|bw 2 U fun fr E=>?_;refine cI (fun d fr w=>∃(j:Nat) (lw:Value),d=S.cs.length-j/\j<=S.cs.length/\Env [(4,aa (j:Int)),(0,ai av 0)] 37 fr/\Mem w0 (aS (bW av lv bk aq S)) [.bb av (.cells #[aa (S.n:Int),aa (S.left),aa (S.written),.bool S.off,lw,bk,aq] 81),.row 172 2 lw ((iL S j)).length (ek ((iL S j))),.row 172 2 bk (S.cs).length (ek (S.cs)),.row 3 1 aq S.n (fg S.counts),.e7 S.ps] (fun _=>True) w) (S.cs.length) ?_ ?_
 ·exact⟨0,lv,U,Nat.zero_le _,E.lL [0,4] rfl,M⟩
 ·clear E M;rintro d fr w ⟨j,lw,rfl,hle,E,M⟩;by_cases ax:j<S.cs.length
  ·have vx:=CG S j;have hy:S.cs[j]'ax∈S.cs:=List.getElem_mem ax;refine bA E<|ah (v:=bk) 4 U (aE U U T.hR (M.row (i:=0) U) U)<|ah 0 U (bx U U U U T.eK (M.reads 2 U))<|bD 0 U U ae<|bw 1 U fun fr E=>?_;refine(ii (B:=T.C2) (Vs:=(.af _:: .af _:: .af _:: .af (ai _ 4):: .af (lw):: .af _:: .af _:: .af (ai _ 5):: .af (bk):: .af _:: .af (cellAt bk (j*2)):: .af (.agg #[aa (S.cs[j]'ax).1,(S.cs[j]'ax).2.1])::cL w.heap.size ([]) (fun o:Value=>o) (fun o=>[az.row 172 2 o (ed (iL S j) (S.cs[j]'ax)).length (ek (ed (iL S j) (S.cs[j]'ax)))]) (fun _=>True):: .af _:: .af (ai _ 4)::[])) T.KI 15 E T.mixed T.KH U U U (fH.dF ⟨ay,ay,ay,ay,ay,ay,ay,ay,ay,ay,ay,ay,cn.hx,ay,ay,ay⟩) ⟨aw U U,
   aw U U,
   aw U U,
   aw U U,
   aC U U (fun x w ad ab=>aE U U T.hR ((M.aQ ad).row (i:=0) U) U),
   aw U U,
   aw U U,
   aw U U,
   aC U U (fun x w ad ab=>aE U U T.hR ((M.aQ ad).row (i:=0) U) U),
   aw U U,
   aC U U (fun x w ad ab=>bL (i:=j) U ((M.aQ ad).reads 2 U) U U (rfl) (ax) T.eK T.jI),
   aC U U (fun x w ad ab=>hU U ((M.aQ ad).reads 2 U) U T.o3 ae ae (ss ax)),
   cE U U (fun x w ad ab=>⟨_,_,U,U,U,ar U U T.rI,(sg (s:=S.cs[j]'ax) ((M.aQ ad).reads 1 U) (fun e he=>Reads.one ((M.aQ ad).gr (i:=4) U (bJ.e7 e (yY he)).1)) (Reads.one ((M.aQ ad).gr (i:=4) U (bJ.e7 _ (List.mem_append_right _ hy)).1)) ae).qk ad.size⟩),
   aw U U,
   aw U U,ay⟩ ?_)
   intro x fr w ad ab E;obtain⟨kp,bn, -,M⟩:=M.kG (val:=fun o:Value=>o) (outs:=fun o=>[az.row 172 2 o (ed (iL S j) (S.cs[j]'ax)).length (ek (ed (iL S j) (S.cs[j]'ax)))]) (p:=fun _=>True) ad (ab 12 aN);have E:=Env.gD (t:=31) E rfl bn;refine iq (i:=1) (cs':= #[aa (S.n:Int),aa (S.left),aa (S.written),.bool S.off,kp,bk,aq]) E M U U U U U U (cy (v:=_) U U U T.mJ (M.row (i:=1) U) (rfl) ((M.reads 0 U).one) (rfl)) U fun fr w M E=>?_;refine cm E<|a1 (y:=((j+1:Nat):Int)) 1 U U ((br ae ae).trans ae)<|ct 1 U fun fr E=>?_;have M:=M.aH 5 rfl;have M:=M.aH 5 rfl;have M:=M.aH 5 rfl;have M:=M.aH 3 rfl;have M:=M.aH 4 rfl;exact⟨S.cs.length-(j+1),by omega,j+1,kp,U,by omega,E.lL [0,4] rfl,(M.sub (L':=[_,_,_,_,_]) (.cons_cons _ (.cons_cons _ (.cons_cons _ (.cons_cons _ (.cons_cons _ (List.nil_sublist _))))))).as (by rw[CH ax])⟩
  ·obtain rfl:j=S.cs.length:=by omega
   refine bA E<|ah (v:=bk) 4 U (aE U U T.hR (M.row (i:=0) U) U)<|ah 0 U (bx U U U U T.eK (M.reads 2 U))<|bs 0 U U ae<|bj (i:=0) (cs':= #[aa (S.n:Int),aa (S.left),aa (S.written),.bool S.off,lw,.slice none 0 0,aq]) M 4 U U (cy (v:=_) U U U T.mJ (M.row (i:=0) U) (rfl) (rfl) (rfl)) U fun w M=>aU 1 U fun fr E=>?_;refine bi E U U ?_;have M:=M.aH 4 rfl;have M:=M.aH 4 rfl;have M:=M.aH 3 rfl;have M:=M.aH 3 rfl;have M:=M.jo (bd.refl _) (.row 172 2 (.slice none 0 0) 0 []) (World.ownsRow_nil _ 0 _ 2) fun g al=>by simp[az.row,Value.ownBlock]at al
   have M:=M.perm (L':=[_,_,_,_,_]++_) (perm_nil _ _ _ _ _ _);exact⟨lw,U,Mem.fin (L:=bW av lw (.slice none 0 0) aq (S.mK (S.left))++_) M (List.sublist_append_left _ _) trivial⟩
set_option maxHeartbeats 1000000 in
theorem LW{av:Nat}{lv bk aq:Value}{S:cC}{w0:World}(H:Has w0 (bW av lv bk aq S))(bJ:S.Ok){b:Value}{il:List Int}(ak:Ints w0 b il)(cK:∀g,b.ownBlock=some g->¬aS (bW av lv bk aq S) g):aY prog 57 [ai av 0,b] w0 (bW av lv bk aq S) (fun _:Value=>.tuple #[]) (fun v=>bW av v (.slice none 0 0) aq (S.qh il)) (fun _=>True):=by
 refine enter (n:=49) func57 U U U ?_;intro fr E;have kP:=bJ.qR;have iT:=bJ.qg;have M:=Mem.begin (Φ:=fun w'=>Ints w' b il) H (fun w' h=>Reads.held ak h cK);refine aV E<|bw 1 U fun fr E=>?_;refine cI (fun d fr w=>∃(j:Nat) (lw:Value),d=S.cs.length-j/\j<=S.cs.length/\Env [(4,aa (j:Int)),(1,b),(0,ai av 0)] 49 fr/\Mem w0 (aS (bW av lv bk aq S)) [.bb av (.cells #[aa (S.n:Int),aa (S.left),aa (S.written),.bool S.off,lw,bk,aq] 81),.row 172 2 lw ((hq S il j)).length (ek ((hq S il j))),.row 172 2 bk (S.cs).length (ek (S.cs)),.row 3 1 aq S.n (fg S.counts),.e7 S.ps] (fun w'=>Ints w' b il) w) (S.cs.length) ?_ ?_
 ·exact⟨0,lv,U,Nat.zero_le _,E.lL [0,1,4] rfl,M⟩
 ·clear E M;rintro d fr w ⟨j,lw,rfl,hle,E,M⟩;by_cases ax:j<S.cs.length
  ·have vx:=z6 S il j;have hy:S.cs[j]'ax∈S.cs:=List.getElem_mem ax;by_cases hi:j<il.length
   ·by_cases eP:il[j]'hi=0
    ·refine bA E<|ah (v:=bk) 4 U (aE U U T.hR (M.row (i:=0) U) U)<|ah 0 U (bx U U U U T.eK (M.reads 2 U))<|bD 0 U U ae<|ah 3 U (bx U U U U T.en (M.fact))<|bD 0 U U ae<|ah 3 U (bL (i:=j) U (M.fact) U U (rfl) (hi) T.en T.c3)<|ah (v:=aa (il[j]'hi)) 0 U (b2 U (M.fact) U T.bc (by rw[Nat.mul_one];exact kU hi))<|ch 0 U U (by simp[eP])<|ah (v:=.bool _) 0 U U<|a1 (y:=((j+1:Nat):Int)) 2 U U ((br ae ae).trans ae)<|ct 1 U fun fr E=>?_;have M:=M.aH 4 rfl;have M:=M.aH 4 rfl;have M:=M.aH 4 rfl;have M:=M.aH 4 rfl;have M:=M.aH 4 rfl;have hP:=PX (S:=S) hi eP;exact⟨S.cs.length-(j+1),by omega,j+1,lw,U,by omega,E.lL [0,1,4] rfl,(M.sub (L':=[_,_,_,_,_]) (.cons_cons _ (.cons_cons _ (.cons_cons _ (.cons_cons _ (.cons_cons _ (List.nil_sublist _))))))).as (by rw[hP])⟩
    ·refine bA E<|ah (v:=bk) 4 U (aE U U T.hR (M.row (i:=0) U) U)<|ah 0 U (bx U U U U T.eK (M.reads 2 U))<|bD 0 U U ae<|ah 3 U (bx U U U U T.en (M.fact))<|bD 0 U U ae<|ah 3 U (bL (i:=j) U (M.fact) U U (rfl) (hi) T.en T.c3)<|ah (v:=aa (il[j]'hi)) 0 U (b2 U (M.fact) U T.bc (by rw[Nat.mul_one];exact kU hi))<|ei 0 U U (by simp[eP])<|ah (v:=.bool _) 0 U U<|bw 1 U fun fr E=>?_;refine(ii (B:=T.KJ) (Vs:=(.af _:: .af _:: .af _:: .af (ai _ 4):: .af (lw):: .af _:: .af _:: .af (ai _ 5):: .af (bk):: .af _:: .af (cellAt bk (j*2)):: .af (.agg #[aa (S.cs[j]'ax).1,(S.cs[j]'ax).2.1])::cL w.heap.size ([]) (fun o:Value=>o) (fun o=>[az.row 172 2 o (ed (hq S il j) (S.cs[j]'ax)).length (ek (ed (hq S il j) (S.cs[j]'ax)))]) (fun _=>True):: .af _:: .af (ai _ 4)::[])) T.Zl 15 E T.mixed T.Zk U U U (fH.dF ⟨ay,ay,ay,ay,ay,ay,ay,ay,ay,ay,ay,ay,cn.hx,ay,ay,ay⟩) ⟨aw U U,
   aw U U,
   aw U U,
   aw U U,
   aC U U (fun x w ad ab=>aE U U T.hR ((M.aQ ad).row (i:=0) U) U),
   aw U U,
   aw U U,
   aw U U,
   aC U U (fun x w ad ab=>aE U U T.hR ((M.aQ ad).row (i:=0) U) U),
   aw U U,
   aC U U (fun x w ad ab=>bL (i:=j) U ((M.aQ ad).reads 2 U) U U (rfl) (ax) T.eK T.jI),
   aC U U (fun x w ad ab=>hU U ((M.aQ ad).reads 2 U) U T.o3 ae ae (ss ax)),
   cE U U (fun x w ad ab=>⟨_,_,U,U,U,ar U U T.rI,(sg (s:=S.cs[j]'ax) ((M.aQ ad).reads 1 U) (fun e he=>Reads.one ((M.aQ ad).gr (i:=4) U (bJ.e7 e (s4 he)).1)) (Reads.one ((M.aQ ad).gr (i:=4) U (bJ.e7 _ (List.mem_append_right _ hy)).1)) ae).qk ad.size⟩),
   aw U U,
   aw U U,ay⟩ ?_)
     intro x fr w ad ab E;obtain⟨kp,bn, -,M⟩:=M.kG (val:=fun o:Value=>o) (outs:=fun o=>[az.row 172 2 o (ed (hq S il j) (S.cs[j]'ax)).length (ek (ed (hq S il j) (S.cs[j]'ax)))]) (p:=fun _=>True) ad (ab 12 aN);have E:=Env.gD (t:=37) E rfl bn;refine iq (i:=1) (cs':= #[aa (S.n:Int),aa (S.left),aa (S.written),.bool S.off,kp,bk,aq]) E M U U U U U U (cy (v:=_) U U U T.mJ (M.row (i:=1) U) (rfl) ((M.reads 0 U).one) (rfl)) U fun fr w M E=>?_;refine cm E<|a1 (y:=((j+1:Nat):Int)) 1 U U ((br ae ae).trans ae)<|ct 1 U fun fr E=>?_;have M:=M.aH 5 rfl;have M:=M.aH 5 rfl;have M:=M.aH 5 rfl;have M:=M.aH 3 rfl;have M:=M.aH 4 rfl;have hP:=PW (S:=S) ax hi eP;exact⟨S.cs.length-(j+1),by omega,j+1,kp,U,by omega,E.lL [0,1,4] rfl,(M.sub (L':=[_,_,_,_,_]) (.cons_cons _ (.cons_cons _ (.cons_cons _ (.cons_cons _ (.cons_cons _ (List.nil_sublist _))))))).as (by rw[hP])⟩
   ·refine bA E<|ah (v:=bk) 4 U (aE U U T.hR (M.row (i:=0) U) U)<|ah 0 U (bx U U U U T.eK (M.reads 2 U))<|bD 0 U U ae<|ah 3 U (bx U U U U T.en (M.fact))<|bs 0 U U ae<|ah (v:=.bool _) 6 U U<|a1 (y:=((j+1:Nat):Int)) 2 U U ((br ae ae).trans ae)<|ct 1 U fun fr E=>?_;have M:=M.aH 4 rfl;have M:=M.aH 4 rfl;have M:=M.aH 4 rfl;have M:=M.aH 4 rfl;have M:=M.aH 4 rfl;have hP:=ET (S:=S) hi;exact⟨S.cs.length-(j+1),by omega,j+1,lw,U,by omega,E.lL [0,1,4] rfl,(M.sub (L':=[_,_,_,_,_]) (.cons_cons _ (.cons_cons _ (.cons_cons _ (.cons_cons _ (.cons_cons _ (List.nil_sublist _))))))).as (by rw[hP])⟩
  ·obtain rfl:j=S.cs.length:=by omega
   refine bA E<|ah (v:=bk) 4 U (aE U U T.hR (M.row (i:=0) U) U)<|ah 0 U (bx U U U U T.eK (M.reads 2 U))<|bs 0 U U ae<|bj (i:=0) (cs':= #[aa (S.n:Int),aa (S.left),aa (S.written),.bool S.off,lw,.slice none 0 0,aq]) M 4 U U (cy (v:=_) U U U T.mJ (M.row (i:=0) U) (rfl) (rfl) (rfl)) U fun w M=>bj (i:=0) (cs':= #[aa (S.n:Int),aa (-1),aa (S.written),.bool S.off,lw,.slice none 0 0,aq]) M 3 U U (cy (v:=_) U U U T.c3 (M.row (i:=0) U) (rfl) (rfl) (rfl)) U fun w M=>bj (i:=0) (cs':= #[aa (S.n:Int),aa (-1),aa (S.written),.bool false,lw,.slice none 0 0,aq]) M 3 U U (cy (v:=_) U U U T.kf (M.row (i:=0) U) (rfl) (rfl) (rfl)) U fun w M=>aU 0 U fun fr E=>?_;refine pQ E U ?_;have M:=M.aH 4 rfl;have M:=M.aH 4 rfl;have M:=M.aH 3 rfl;have M:=M.aH 3 rfl;have M:=M.jo (bd.refl _) (.row 172 2 (.slice none 0 0) 0 []) (World.ownsRow_nil _ 0 _ 2) fun g al=>by simp[az.row,Value.ownBlock]at al
   have M:=M.perm (L':=[_,_,_,_,_]++_) (perm_nil _ _ _ _ _ _);exact⟨lw,U,Mem.fin (L:=bW av lw (.slice none 0 0) aq (S.qh il)++_) M (List.sublist_append_left _ _) trivial⟩
set_option maxHeartbeats 1000000 in
theorem LX{av:Nat}{lv bk aq:Value}{S:cC}{w0:World}(H:Has w0 (bW av lv bk aq S))(bJ:S.Ok){fR:Addr}:aY prog 57 [ai av 0,.slice (some fR) 0 0] w0 (bW av lv bk aq S) (fun _:Value=>.tuple #[]) (fun v=>bW av v (.slice none 0 0) aq (S.qh [])) (fun _=>True):=by
 refine enter (n:=49) func57 U U U ?_;intro fr E;have kP:=bJ.qR;have iT:=bJ.qg;have M:=ht H;refine aV E<|bw 1 U fun fr E=>?_;refine cI (fun d fr w=>∃(j:Nat) (lw:Value),d=S.cs.length-j/\j<=S.cs.length/\Env [(4,aa (j:Int)),(1,.slice (some fR) 0 0),(0,ai av 0)] 49 fr/\Mem w0 (aS (bW av lv bk aq S)) [.bb av (.cells #[aa (S.n:Int),aa (S.left),aa (S.written),.bool S.off,lw,bk,aq] 81),.row 172 2 lw ((hq S [] j)).length (ek ((hq S [] j))),.row 172 2 bk (S.cs).length (ek (S.cs)),.row 3 1 aq S.n (fg S.counts),.e7 S.ps] (fun w'=>True) w) (S.cs.length) ?_ ?_
 ·exact⟨0,lv,U,Nat.zero_le _,E.lL [0,1,4] rfl,M⟩
 ·clear E M;rintro d fr w ⟨j,lw,rfl,hle,E,M⟩;by_cases ax:j<S.cs.length
  ·have vx:=z6 S [] j;have hy:S.cs[j]'ax∈S.cs:=List.getElem_mem ax;refine bA E<|ah (v:=bk) 4 U (aE U U T.hR (M.row (i:=0) U) U)<|ah 0 U (bx U U U U T.eK (M.reads 2 U))<|bD 0 U U ae<|ah (v:=aa _) 3 U (mb U U U U T.en)<|bs 0 U U ae<|ah (v:=.bool _) 6 U U<|a1 (y:=((j+1:Nat):Int)) 2 U U ((br ae ae).trans ae)<|ct 1 U fun fr E=>?_;have M:=M.aH 4 rfl;have M:=M.aH 4 rfl;have M:=M.aH 4 rfl;have M:=M.aH 4 rfl;have M:=M.aH 4 rfl;have hP:=ET (S:=S) (il:=[]) (j:=j) (by simp);exact⟨S.cs.length-(j+1),by omega,j+1,lw,U,by omega,E.lL [0,1,4] rfl,(M.sub (L':=[_,_,_,_,_]) (.cons_cons _ (.cons_cons _ (.cons_cons _ (.cons_cons _ (.cons_cons _ (List.nil_sublist _))))))).as (by rw[hP])⟩
  ·obtain rfl:j=S.cs.length:=by omega
   refine bA E<|ah (v:=bk) 4 U (aE U U T.hR (M.row (i:=0) U) U)<|ah 0 U (bx U U U U T.eK (M.reads 2 U))<|bs 0 U U ae<|bj (i:=0) (cs':= #[aa (S.n:Int),aa (S.left),aa (S.written),.bool S.off,lw,.slice none 0 0,aq]) M 4 U U (cy (v:=_) U U U T.mJ (M.row (i:=0) U) (rfl) (rfl) (rfl)) U fun w M=>bj (i:=0) (cs':= #[aa (S.n:Int),aa (-1),aa (S.written),.bool S.off,lw,.slice none 0 0,aq]) M 3 U U (cy (v:=_) U U U T.c3 (M.row (i:=0) U) (rfl) (rfl) (rfl)) U fun w M=>bj (i:=0) (cs':= #[aa (S.n:Int),aa (-1),aa (S.written),.bool false,lw,.slice none 0 0,aq]) M 3 U U (cy (v:=_) U U U T.kf (M.row (i:=0) U) (rfl) (rfl) (rfl)) U fun w M=>aU 0 U fun fr E=>?_;refine pQ E U ?_;have M:=M.aH 4 rfl;have M:=M.aH 4 rfl;have M:=M.aH 3 rfl;have M:=M.aH 3 rfl;have M:=M.jo (bd.refl _) (.row 172 2 (.slice none 0 0) 0 []) (World.ownsRow_nil _ 0 _ 2) fun g al=>by simp[az.row,Value.ownBlock]at al
   have M:=M.perm (L':=[_,_,_,_,_]++_) (perm_nil _ _ _ _ _ _);exact⟨lw,U,Mem.fin (L:=bW av lw (.slice none 0 0) aq (S.qh [])++_) M (List.sublist_append_left _ _) trivial⟩
theorem D3{av:Nat}{lv bk aq:Value}{S:cC}{w0:World}(H:Has w0 (bW av lv bk aq S))(bJ:S.Ok){b:Value}{bl:List UInt8}(ak:Bytes w0 b bl)(cK:∀g,b.ownBlock=some g->¬aS (bW av lv bk aq S) g){i:Int}{nz:Int}(hw:S.kz i bl=nz)(he:¬nz=0):aY prog 54 [ai av 0,aa i,b] w0 (bW av lv bk aq S) (fun _:Unit=>aa nz) (fun _=>bW av lv bk aq S) (fun _=>True):=by
 refine enter (n:=36) func54 U U U ?_;intro fr E;have M:=Mem.begin (Φ:=fun w'=>Bytes w' b bl) H (fun w' h=>Reads.held ak h cK);refine aV E<|bC (bW av lv bk aq S) M 4 U (ar U U T.qm) U (fun H=>ui H bJ (M.fact) cK i) fun _ w _ M=>fun fr E=>?_;rw[hw]at E;refine bN E<|ei 2 U U (by simp;exact he)<|aU 3 U fun fr E=>?_;refine bi E U U ?_;exact⟨(),U,M.fin (List.Sublist.refl _) trivial⟩
theorem NJ{av:Nat}{lv bk aq:Value}{S:cC}{w0:World}(H:Has w0 (bW av lv bk aq S))(bJ:S.Ok){b:Value}{bl:List UInt8}(ak:Bytes w0 b bl)(cK:∀g,b.ownBlock=some g->¬aS (bW av lv bk aq S) g){i:Int}(hw:S.kz i bl=0)(au:bl.length<=1024):aY prog 54 [ai av 0,aa i,b] w0 (bW av lv bk aq S) (fun _:Value×Value×Value=>aa 0) (fun q=>bW av q.1 q.2.1 aq (S.spoilt i q.2.2 bl)) (fun _=>True):=by
 refine enter (n:=36) func54 U U U ?_;intro fr E;have kP:=bJ.qR;have iT:=bJ.qg;have M:=Mem.begin (Φ:=fun w'=>Bytes w' b bl) H (fun w' h=>Reads.held ak h cK);refine aV E<|bC (bW av lv bk aq S) M 4 U (ar U U T.qm) U (fun H=>ui H bJ (M.fact) cK i) fun _ w _ M=>fun fr E=>?_;rw[hw]at E;refine bN E<|ch 2 U U (rfl)<|bw 1 U fun fr E=>?_;refine(ii (B:=T.C1) (Vs:=(.af _:: .af _:: .af _:: .af (ai _ 4):: .af (lv):: .af _:: .af _::cV w.heap.size (fun v=>[az.bytes 5 v bl]) (fun _=>True)::sP w.heap.size 5 i (bl)::cL w.heap.size [] (fun q:Value×Value=>q.1) (fun q=>[az.row 172 2 q.1 (ed S.ls (i,q.2,bl)).length (ek (ed S.ls (i,q.2,bl))),az.bytes 5 q.2 (bl)]) (fun _=>True):: .af _:: .af (ai _ 4)::[])) T.KF 12 E T.mixed T.KE U U U (fH.dF ⟨ay,ay,ay,ay,ay,ay,ay,cn.df,cn.yM,cn.hx,ay,ay,ay⟩) ⟨aw U U,
   aw U U,
   aw U U,
   aw U U,
   aC U U (fun x w ad ab=>aE U U T.hR ((M.aQ ad).row (i:=0) U) U),
   aw U U,
   aw U U,
   cE U U (fun x w ad ab=>⟨_,_,U,U,U,ar U U T.uU,(wJ (M.aQ ad).fact ae).eN ad.size⟩),
   h3 U U (fun x w ad ab=>⟨U,U,U,yO U U U T.za T.zo (ab 7 U)⟩),
   cE U U (fun x w ad ab=>⟨_,_,U,U,U,ar U U T.rI,yN (R:=(fun o u=>az.row 172 2 o (ed S.ls (i,u,bl)).length (ek (ed S.ls (i,u,bl))))) ad.size (ab 8 U) (fun u hu aj=>sg (s:=(i,u,bl)) ((M.aQ ad).reads 1 U) (fun e he=>Reads.one ((M.aQ ad).gr (i:=4) U (bJ.e7 e (List.mem_append_left _ he)).1)) aj ae)⟩),
   aw U U,
   aw U U,ay⟩ ?_)
 intro x fr w ad ab E;obtain⟨⟨kp,jX⟩,bn, -,M⟩:=M.kG (val:=fun q:Value×Value=>q.1) (outs:=(fun q=>[az.row 172 2 q.1 (ed S.ls (i,q.2,bl)).length (ek (ed S.ls (i,q.2,bl))),az.bytes 5 q.2 (bl)])) (p:=fun _=>True) ad (ab 9 aN);have E:=Env.gD (t:=24) E rfl bn;refine iq (i:=2) (cs':= #[aa (S.n:Int),aa (S.left),aa (S.written),.bool S.off,kp,bk,aq]) E M U U U U U U (cy (v:=_) U U U T.mJ (M.row (i:=2) U) (rfl) ((M.reads 0 U).one) (rfl)) U fun fr w M E=>?_;refine cm E<|ah (v:=bk) 4 U (aE U U T.hR (M.row (i:=2) U) U)<|cP M 1 U (ar U U T.Ap) (Dn (k:=i) (M.reads 4 U) (fun e he=>Reads.one (M.gr (i:=6) U (bJ.e7 e (List.mem_append_right _ he)).1)) ae) U fun kH w _ M=>bj (i:=3) (cs':= #[aa (S.n:Int),aa (S.left),aa (S.written),.bool S.off,kp,kH,aq]) M 2 U U (cy (v:=_) U U U T.mJ (M.row (i:=3) U) (rfl) ((M.reads 0 U).one) (rfl)) U fun w M=>aU 1 U fun fr E=>?_;refine bi E U U ?_;have M:=M.aH 7 rfl;have M:=M.aH 3 rfl;have M:=M.nT;have M:=M.aH 6 rfl;have M:=M.aH 2 rfl;have M:=M.aH 3 rfl;have M:=M.aH 4 rfl;exact⟨(kp,kH,jX),U,Mem.fin (L:=bW av kp kH aq (S.spoilt i jX bl)++_) M (List.sublist_append_left _ _) trivial⟩
theorem NL{av:Nat}{lv bk aq:Value}{S:cC}{w0:World}(H:Has w0 (bW av lv bk aq S))(bJ:S.Ok){fR:Addr}{i:Int}{nz:Int}(hw:S.kz i []=nz)(he:¬nz=0):aY prog 54 [ai av 0,aa i,.slice (some fR) 0 0] w0 (bW av lv bk aq S) (fun _:Unit=>aa nz) (fun _=>bW av lv bk aq S) (fun _=>True):=by
 refine enter (n:=36) func54 U U U ?_;intro fr E;have M:=ht H;refine aV E<|bC (bW av lv bk aq S) M 4 U (ar U U T.qm) U (fun H=>Lr H bJ i) fun _ w _ M=>fun fr E=>?_;rw[hw]at E;refine bN E<|ei 2 U U (by simp;exact he)<|aU 3 U fun fr E=>?_;refine bi E U U ?_;exact⟨(),U,M.fin (List.Sublist.refl _) trivial⟩
theorem NK{av:Nat}{lv bk aq:Value}{S:cC}{w0:World}(H:Has w0 (bW av lv bk aq S))(bJ:S.Ok){fR:Addr}{i:Int}(hw:S.kz i []=0):aY prog 54 [ai av 0,aa i,.slice (some fR) 0 0] w0 (bW av lv bk aq S) (fun _:Value×Value×Value=>aa 0) (fun q=>bW av q.1 q.2.1 aq (S.spoilt i q.2.2 [])) (fun _=>True):=by
 refine enter (n:=36) func54 U U U ?_;intro fr E;have kP:=bJ.qR;have iT:=bJ.qg;have M:=ht H;refine aV E<|bC (bW av lv bk aq S) M 4 U (ar U U T.qm) U (fun H=>Lr H bJ i) fun _ w _ M=>fun fr E=>?_;rw[hw]at E;refine bN E<|ch 2 U U (rfl)<|bw 1 U fun fr E=>?_;refine(ii (B:=T.C1) (Vs:=(.af _:: .af _:: .af _:: .af (ai _ 4):: .af (lv):: .af _:: .af _::cV w.heap.size (fun v=>[az.bytes 5 v []]) (fun _=>True)::sP w.heap.size 5 i ([])::cL w.heap.size [] (fun q:Value×Value=>q.1) (fun q=>[az.row 172 2 q.1 (ed S.ls (i,q.2,[])).length (ek (ed S.ls (i,q.2,[]))),az.bytes 5 q.2 ([])]) (fun _=>True):: .af _:: .af (ai _ 4)::[])) T.KF 12 E T.mixed T.KE U U U (fH.dF ⟨ay,ay,ay,ay,ay,ay,ay,cn.df,cn.yM,cn.hx,ay,ay,ay⟩) ⟨aw U U,
   aw U U,
   aw U U,
   aw U U,
   aC U U (fun x w ad ab=>aE U U T.hR ((M.aQ ad).row (i:=0) U) U),
   aw U U,
   aw U U,
   cE U U (fun x w ad ab=>⟨_,_,U,U,U,ar U U T.uU,(LU _).eN ad.size⟩),
   h3 U U (fun x w ad ab=>⟨U,U,U,yO U U U T.za T.zo (ab 7 U)⟩),
   cE U U (fun x w ad ab=>⟨_,_,U,U,U,ar U U T.rI,yN (R:=(fun o u=>az.row 172 2 o (ed S.ls (i,u,[])).length (ek (ed S.ls (i,u,[]))))) ad.size (ab 8 U) (fun u hu aj=>sg (s:=(i,u,[])) ((M.aQ ad).reads 1 U) (fun e he=>Reads.one ((M.aQ ad).gr (i:=4) U (bJ.e7 e (List.mem_append_left _ he)).1)) aj ae)⟩),
   aw U U,
   aw U U,ay⟩ ?_)
 intro x fr w ad ab E;obtain⟨⟨kp,jX⟩,bn, -,M⟩:=M.kG (val:=fun q:Value×Value=>q.1) (outs:=(fun q=>[az.row 172 2 q.1 (ed S.ls (i,q.2,[])).length (ek (ed S.ls (i,q.2,[]))),az.bytes 5 q.2 ([])])) (p:=fun _=>True) ad (ab 9 aN);have E:=Env.gD (t:=24) E rfl bn;refine iq (i:=2) (cs':= #[aa (S.n:Int),aa (S.left),aa (S.written),.bool S.off,kp,bk,aq]) E M U U U U U U (cy (v:=_) U U U T.mJ (M.row (i:=2) U) (rfl) ((M.reads 0 U).one) (rfl)) U fun fr w M E=>?_;refine cm E<|ah (v:=bk) 4 U (aE U U T.hR (M.row (i:=2) U) U)<|cP M 1 U (ar U U T.Ap) (Dn (k:=i) (M.reads 4 U) (fun e he=>Reads.one (M.gr (i:=6) U (bJ.e7 e (List.mem_append_right _ he)).1)) ae) U fun kH w _ M=>bj (i:=3) (cs':= #[aa (S.n:Int),aa (S.left),aa (S.written),.bool S.off,kp,kH,aq]) M 2 U U (cy (v:=_) U U U T.mJ (M.row (i:=3) U) (rfl) ((M.reads 0 U).one) (rfl)) U fun w M=>aU 1 U fun fr E=>?_;refine bi E U U ?_;have M:=M.aH 7 rfl;have M:=M.aH 3 rfl;have M:=M.nT;have M:=M.aH 6 rfl;have M:=M.aH 2 rfl;have M:=M.aH 3 rfl;have M:=M.aH 4 rfl;exact⟨(kp,kH,jX),U,Mem.fin (L:=bW av kp kH aq (S.spoilt i jX [])++_) M (List.sublist_append_left _ _) trivial⟩
end
section
open Go.RowKit Go.a2 Go.Proofs Go.Proofs.Tryz
theorem nc{n:Nat}{a b:List UInt8}(h:a.length=n):eg n (a++b,false)=(b,false):=by
 subst h;unfold eg;rw[if_neg (by simp)];simp
theorem pO{v:Int}{b:List UInt8}(bG: -9223372036854775808<=v)(aj:v<=9223372036854775807):db (aO v++b,false)=v:=by
 unfold db;rw[if_neg (by simp[eo])];simp only;rw[List.take_left' (eo v),HU v bG aj]
theorem B1{s b:List UInt8}(h:s.length=32):eD (s++b,false)=s:=by
 unfold eD;rw[if_neg (by simp[h])];exact List.take_left' h
theorem VB{v:Int}{s b:List UInt8}(aP:s.length=32)(bG: -9223372036854775808<=v)(aj:v<=9223372036854775807):e8 (aO v++(s++b),false)=(v,s):=by
 unfold e8;rw[if_neg (by simp[eo,aP];omega)];simp only;have e:(aO v++(s++b)).take 40=aO v++s:=by rw[<-List.append_assoc];exact List.take_left' (by simp[eo,aP])
 rw[e,List.take_left' (eo v),List.drop_left' (eo v),HU v bG aj]
theorem VO{r:Rec}(ap:r.Ok)(hm:r.fA)(x:List UInt8):bK (r.bytes++x) 11=(x,false)/\Rec.read (r.bytes++x)=r:=by
 obtain⟨⟨aj,an,aB⟩,be,⟨bZ,dZ⟩,⟨jO,qz⟩⟩:=hm;have aj:1<=r.bq/\r.bq<=1099511627776:=aj;have an:1<=r.cd/\r.cd<=1099511627776:=an;have aB:1<=r.bF/\r.bF<=1099511627776:=aB;have pk:0<=r.cx/\r.cx<=4095:=by rcases be with be|be<;>omega
 obtain⟨D1,t1⟩:∃T,T=aO r.cd++(aO r.bF++(r.cD++(aO r.cx++(r.b3++(aO r.c1++(aO r.c5++(aO r.dw++(aO r.dB++(r.dt++(r.dI++x)))))))))):=⟨_,rfl⟩
 have kj:bK (r.bytes++x) 0=(aO r.bq++D1,false):=by subst t1;show(r.bytes++x,false)=_;simp only[Rec.bytes,List.append_assoc]
 have cz:bK (r.bytes++x) 1=(D1,false):=(congrArg (eg 8) kj).trans (nc (eo _));rw[t1]at cz;have c6:=(congrArg (eg 8) cz).trans (nc (eo _));have ih:=(congrArg (eg 8) c6).trans (nc (eo _));have kJ:=(congrArg (eg 32) ih).trans (nc ap.cD);have rC:eg 40 _=_:=(congrArg (eg 40) kJ).trans ((congrArg (fun l=>eg 40 (l,false)) (List.append_assoc _ _ _).symm).trans (nc (by simp[eo,ap.b3])));have xk:=(congrArg (eg 8) rC).trans (nc (eo _));have Fb:=(congrArg (eg 8) xk).trans (nc (eo _));have Fc:=(congrArg (eg 8) Fb).trans (nc (eo _));have Fe:=(congrArg (eg 8) Fc).trans (nc (eo _));have Fa:=(congrArg (eg 32) Fe).trans (nc ap.dt);have Ad:=(congrArg (eg 32) Fa).trans (nc ap.dI);refine⟨Ad,?_⟩;have a0:db (bK (r.bytes++x) 0)=r.bq:=(congrArg db kj).trans (pO ae ae);have gn:db (bK (r.bytes++x) 1)=r.cd:=(congrArg db cz).trans (pO ae ae);have fY:db (bK (r.bytes++x) 2)=r.bF:=(congrArg db c6).trans (pO ae ae);have a3:eD (bK (r.bytes++x) 3)=r.cD:=(congrArg eD ih).trans (B1 ap.cD);have a4:e8 (bK (r.bytes++x) 4)=(r.cx,r.b3):=(congrArg e8 kJ).trans (VB ap.b3 ae ae);have a5:db (bK (r.bytes++x) 5)=r.c1:=(congrArg db rC).trans (pO ae ae);have zC:db (bK (r.bytes++x) 6)=r.c5:=(congrArg db xk).trans (pO ae ae);have zD:db (bK (r.bytes++x) 7)=r.dw:=(congrArg db Fb).trans (pO ae ae);have Eb:db (bK (r.bytes++x) 8)=r.dB:=(congrArg db Fc).trans (pO ae ae);have a9:eD (bK (r.bytes++x) 9)=r.dt:=(congrArg eD Fe).trans (B1 ap.dt);have Ea:eD (bK (r.bytes++x) 10)=r.dI:=(congrArg eD Fa).trans (B1 ap.dI);obtain⟨ml,jc,jr,uG,Ow,Ox,Oy,Oz,OA,aaY,aaW,aaX⟩:=r;simp only at a0 gn fY a3 a4 a5 zC zD Eb a9 Ea;simp only[Rec.read,Rec.sh,Rec.sk,Rec.q2,Rec.j9,a0,gn,fY,a3,a4,a5,zC,zD,Eb,a9,Ea]
theorem RP{r:Rec}(ap:r.Ok)(hm:r.fA):b4 r.bytes=(r,0):=by
 obtain⟨aj,an⟩:=VO ap hm [];rw[List.append_nil]at aj an;unfold b4;rw[aj,an,if_neg (by simp[ka]),if_pos hm]
theorem Px(A:bz)(i j:Nat):(A.bump i).read j=A.read j:=rfl
theorem Ez(A:bz)(j:Nat):∀i,(dy A i).read j=A.read j
 |0=>rfl
 |i+1=>(Px _ _ _).trans (Ez A j i)
theorem yp(A:bz)(ks:List cQ)(i j:Nat):hS (dy A i) ks j=hS A ks j:=by
 unfold hS;rw[Ez]
theorem Ty{kd:Int}(h:1<=kd/\kd<=5):((UInt8.ofInt kd).toNat:Int)=kd:=by
 rw[iH];show kd%256=kd
 omega
theorem I7(ks:List cQ)(kd e n at':Int)(pl:List UInt8):(hD ks kd e n at' pl).length=17+(kx ks e n (dA kd at') pl).length:=by
 simp[hD,eo];omega
theorem Xd{ks g2:List cQ}{kd e n at':Int}{pl:List UInt8}{m:Nat}(aj:1<=kd/\kd<=5)(aB:gZ e n at')(be:pl.length<=975)(ab:gy (⟨e,n,dA kd at',pl⟩:cQ) g2 0=some m)(hm:nU ks ⟨e,n,dA kd at',pl⟩=m+1):me g2 kd at' (hD ks kd e n at' pl)=some (e,n,pl):=by
 have ox:j6 e/\j6 n:=⟨⟨aB.1.1,aB.2.1.1⟩,⟨aB.1.2.1,aB.2.1.2⟩⟩
 have aP:kx ks e n (dA kd at') pl=pl++k4 (m+1):=by unfold kx;rw[if_pos ox,hm]
 have aM:(k4 (m+1)).length=32:=by simp[k4,eo]
 have hlen:(hD ks kd e n at' pl).length=17+(pl.length+32):=by rw[I7,aP,List.length_append,aM]
 have Sh:(hD ks kd e n at' pl).drop 17=pl++k4 (m+1):=by
  rw[<-aP];unfold hD;exact List.drop_left' (by simp[eo])
 have rP:((hD ks kd e n at' pl).drop 1).take 16=aO e++aO n:=by
  show((aO e++aO n)++kx ks e n (dA kd at') pl).take 16=aO e++aO n
  exact List.take_left' (by simp[eo])
 have qA:ey (hD ks kd e n at' pl)=e:=by
  unfold ey;rw[rP];exact pO (by have:=aB.1.1;omega) (by have:=aB.2.1.1;omega)
 have ll:eJ (hD ks kd e n at' pl)=n:=by
  unfold eJ;rw[rP,nc (eo _)];have:=pO (v:=n) (b:=[]) (by have:=aB.1.2.1;omega) (by have:=aB.2.1.2;omega)
  rwa [List.append_nil]at this
 have bG:((hD ks kd e n at' pl)[0]'ae)=UInt8.ofInt kd:=by simp[hD]
 have cY:kindOf (hD ks kd e n at' pl)=kd:=by
  have:=Ty aj;unfold kindOf;rw[dif_pos ae];simp only[bG];rw[if_neg ae,if_neg ae];exact this
 unfold me;rw[if_pos ⟨by omega,by omega,by omega,cY,by rw[qA,ll];exact aB⟩,qA,ll,Sh];unfold nR;have cz:(pl++k4 (m+1)).length-32=pl.length:=by rw[List.length_append,aM];omega
 rw[if_neg (by rw[List.length_append,aM];omega),cz,List.take_left' rfl,ab];simp only;rw[List.drop_left' rfl,if_pos rfl];rfl
theorem Eo{r:Rec}(hm:r.fA):1+r.bq.tmod 2=1\/1+r.bq.tmod 2=2:=by
 have h:1<=r.bq:=hm.1.1.1;have aj:=Int.tmod_lt_of_pos r.bq (show(0:Int)<2 by decide);have an:=Int.tmod_nonneg (2:Int) (show(0:Int)<=r.bq by omega);omega
theorem IE{r:Rec}(hm:r.fA){num:Int}(bG:0<=num)(aj:num<=1099511627776):gZ r.bF num (1+r.bq.tmod 2):=by
 have h:1<=r.bF/\r.bF<=1099511627776:=hm.1.2.2;have:=Eo hm;exact⟨⟨by omega,bG,by omega⟩,⟨h.2,aj⟩,by omega⟩
theorem HE{K:Type} [DecidableEq K]{k:K}{r:List K}:∀{ks:List K} {i m:Nat},gy k ks i=some m->gy k (ks++r) i=some m
 |[],_,_,h=>by cases h
 |q::ks,i,m,h=>by
  unfold gy at h;rw[List.cons_append];unfold gy;split
  ·rename_i e
   rwa [if_pos e]at h
  ·rename_i e;rw[if_neg e]at h;exact HE h
theorem HF{K:Type} [DecidableEq K]{k:K}:∀{ks:List K} {i:Nat},k∉ks->gy k (ks++[k]) i=some (i+ks.length)
 |[],i,_=>by simp[gy]
 |q::ks,i,h=>by
  rw[List.cons_append];unfold gy;rw[if_neg (fun e:k=q=>h (e▸List.mem_cons_self ..)),HF fun hm=>h (List.mem_cons_of_mem _ hm)];simp;omega
theorem I5(ks:List cQ)(k:cQ):∃m,gy k (iJ ks k) 0=some m/\nU ks k=m+1:=by
 by_cases h:k∈ks
 ·obtain⟨m,hm⟩:=HG h;exact⟨m,by unfold iJ;rw[if_pos h];exact hm,by unfold nU;rw[hm]⟩
 ·exact⟨ks.length,by unfold iJ;rw[if_neg h,HF h,Nat.zero_add],by unfold nU;rw[vH h]⟩
theorem W8(ks:List cQ)(k:cQ):∃r,iJ ks k=ks++r:=by
 unfold iJ;split
 ·exact⟨[],by simp⟩
 ·exact⟨[k],U⟩
theorem Ct(ks:List cQ)(k:cQ):(iJ ks k).length<=ks.length+1:=by
 unfold iJ;split<;>simp
def bz.put(A:bz)(i:Int)(l:List UInt8):bz:={A with left:=dC (A.left-1),cache:=lb i l A.cache,writes:=dC (A.writes+1)}
theorem zE(i k:Int)(l:List UInt8):∀c:List (Int×List UInt8),h0 (lb i l c) k=if k=i then some l else h0 c k
 |[]=>by
  show h0 [(i,l)] k=_
  rw[mU]
 |p::r=>by
  have ck:=zE i k l r;unfold lb;by_cases h:i=p.1
  ·rw[if_pos h,mU,mU];by_cases an:k=i
   ·rw[if_pos an,if_pos an]
   ·rw[if_neg an,if_neg an,if_neg (fun e=>an (e.trans h.symm))]
  ·rw[if_neg h,mU,mU,ck];by_cases an:k=p.1
   ·rw[if_pos an,if_pos an,if_neg (fun e=>h (e.symm.trans an))]
   ·rw[if_neg an,if_neg an]
theorem BX(A:bz)(i:Int)(l:List UInt8)(j:Nat):(A.put i l).read j=if(j:Int)=i then l else A.read j:=by
 unfold bz.read;have e:h0 (A.put i l).cache (j:Int)=if(j:Int)=i then some l else h0 A.cache (j:Int):=zE i j l A.cache
 rw[e];by_cases h:(j:Int)=i
 ·rw[if_pos h,if_pos h]
 ·rw[if_neg h,if_neg h];rfl
abbrev _root_.Go.a2.Rec.at'(r:Rec):Int:=1+r.bq.tmod 2
abbrev _root_.Go.a2.Rec.key(r:Rec)(num:Int):cQ:=⟨r.bF,num,dA 2 r.at',r.bytes⟩
theorem IC{A:bz}{ks:List cQ}{r:Rec}(ap:r.Ok)(hm:r.fA){num:Int}(bG:0<=num)(aj:num<=1099511627776)(aF:A.off=false)(bm:A.dK=false)(a6:2<A.n):
  ma A ks r num=(0,A.put r.at' (hD ks 2 r.bF num r.at' r.bytes),iJ ks (r.key num)):=by
 have aP:=IE hm bG aj;have hw:A.write r.at' (hD ks 2 r.bF num r.at' r.bytes)=(0,A.put r.at' (hD ks 2 r.bF num r.at' r.bytes)):=by
  have aI:=I2 ks r.bF num (dA 2 r.at') r.bytes;have ak:=Rec.sY ap;have fe:=Eo hm;unfold bz.write;rw[if_neg (by rw[aF];decide),if_neg (by
   simp only[Decidable.not_not];show 0<=1+r.bq.tmod 2/\1+r.bq.tmod 2<(A.n:Int)
   omega),if_neg (by rw[I7];omega),if_neg (by rw[bm];simp)]
  rfl
 have ox:j6 r.bF/\j6 num:=⟨⟨aP.1.1,aP.2.1.1⟩,⟨bG,aj⟩⟩
 unfold ma;rw[if_pos ⟨hm,aP⟩,hw];unfold jS;rw[if_pos ox]
theorem H6{A:bz}{ks g2:List cQ}{r:Rec}{num:Int}{j m:Nat}(ap:r.Ok)(hm:r.fA)(bG:0<=num)(aj:num<=1099511627776)(ax:(j:Int)=r.at')(SL:A.read j=hD ks 2 r.bF num r.at' r.bytes)(ab:gy (r.key num) g2 0=some m)(eB:nU ks (r.key num)=m+1):hS A g2 j=(r,true):=by
 have al:=Xd (kd:=2) aN (IE hm bG aj) (by rw[Rec.sY ap];decide) ab eB;unfold hS;rw[SL,ax,al];simp only;rw[RP ap hm];simp
end
section
open Go.RowKit Go.a2 Go.Proofs Go.Maps Go.Sort Go.Shelf Go.Proofs.Tryz
def dJ:Value->Option (DataW Unit×List MemPlace):=fun _=>some (.lit (.int .i64 0),[])
abbrev s6(P:Program)(es:List eT):DataW Unit:=.map (((dv es).toList.map (WideElems.rg P 3 dJ)).foldr DataW.insert [])
def hr(es:List eT):List Int:=(es.map (·.key)).mergeSort leI
theorem Tr{x:Int}(h:0<=x)(an:x<4096):keyOf prog 3 (.int .i64 x)=some (.int .i64 x):=by
 refine Maps.keyOf_int_mk Tryz.underlying3 ?_;show(decide (IntKind.i64.min<=x)&&decide (x<=IntKind.i64.max))=true
 have a:IntKind.min .i64= -9223372036854775808:=by decide
 have b:IntKind.max .i64=9223372036854775807:=by decide
 rw[a,b,Bool.and_eq_true,decide_eq_true_eq,decide_eq_true_eq];omega
theorem ID{e:eT}(h:0<=e.key/\e.key<4096):WideElems.rd prog 3 dJ {key:=.int .i64 e.key,val:=e.val,born:=e.born}=some (.int .i64 e.key,.lit (.int .i64 0)):=by
 simp[WideElems.rd,Tr h.1 h.2,dJ]
theorem Qi{es:List eT}{s3:Nat}(ab:(es.map (·.key)).Nodup)(ap:∀e∈es,0<=e.key/\e.key<4096)(ak:(es.map (·.born)).Nodup)(jy:∀e∈es,e.born<s3)(a6:es.length<=4096):WideElems.Fit prog 3 dJ (dv es) s3:=by
 refine⟨by simp[dv];exact Nat.le_trans a6 aN,(MapKept.stamped_iff _ _).2 ⟨fun x ad=>?_,by rw[G4];exact ak,?_⟩,fun x ad=>?_⟩
 ·obtain⟨a,bm,rfl⟩:=vB ad;exact jy a bm
 ·simp only[dv,List.pairwise_map];rw[List.Nodup,List.pairwise_map]at ab;exact ab.imp fun h c=>h (by injection c)
 ·obtain⟨a,bm,rfl⟩:=vB ad;exact⟨_,ID (ap a bm)⟩
theorem Tu{es:List eT}(ap:∀e∈es,0<=e.key/\e.key<4096):(intKeys (s6 prog es)).Perm (es.map (·.key)):=by
 have h:=(WideShapes.sorted_perm ((dv es).toList.map (WideElems.rg prog 3 dJ))).map (fun p=>Go.intOf p.1);refine h.trans (List.Perm.of_eq ?_);simp only[dv,List.map_map];refine List.map_congr_left fun a bm=>?_;simp only[Function.comp];rw[WideElems.rg_of (ID (ap a bm))];rfl
theorem Xk(m:Nat):AnyZI.SortsIn prog Tryz.Jk Fence.wide m:=
 ⟨fun bb off cap sv W th R8 hd=>callsIn_wide.2 (AnyM.slices_Sort_int Tryz.Jj bb off cap sv W th R8 hd),fun p cap W=>callsIn_wide.2 (AnyM.slices_Sort_int_none Tryz.Jj p cap W)⟩
set_option maxHeartbeats 1000000 in
theorem Nu{g bg s3:Nat}{es:List eT}{w0:World}(al:w0.heap[g]? =some (.cells #[.map (some bg)] 93 (0,0)))(hm:w0.heap[bg]? =some (.map (dv es) s3))(ab:(es.map (·.key)).Nodup)(ap:∀e∈es,0<=e.key/\e.key<4096)(ak:(es.map (·.born)).Nodup)(jy:∀e∈es,e.born<s3)(a6:es.length<=4096):
  aY prog 163 [.func (.func 196) #[] #[.pointer (some ⟨g,0,none⟩)]] w0 [] (fun v:Value=>v) (fun v=>[.row 3 1 v es.length (fg (hr es))]) (fun _=>True):=by
 have je:w0.ownsMap prog 3 dJ bg es.length (s6 prog es):=⟨dv es,s3,hm,Qi ab ap ak jy a6,by simp[dv],rfl⟩
 have hd:Maps.size (s6 prog es)=es.length:=by simp[Maps.size,length_sorted,dv]
 have SQ:SeqGives Fence.wide 2 prog 196 #[.pointer (some ⟨g,0,none⟩)] encZ (fun sv=>sv.Perm (intKeys (s6 prog es))) (Maps.size (s6 prog es)) w0:=
  AnyZI.keys_gives (ρ:=Tryz.Hd) {Tryz.Tt with} Fence.wide _ trivial rfl ae g bg es.length (s6 prog es) _ (Array.getElem?_eq_some_iff.1 al).1 (by simp[World.cell?,al]) je
 have EH:=AnyZI.sorted_in Tryz.Xj Fence.wide 5 trivial trivial trivial trivial rfl ae (Xk _) (enters_of func195 cT rfl) 196 #[.pointer (some ⟨g,0,none⟩)] trivial (enters_of func196 cT rfl) _ _ (by rw[hd];exact Nat.le_trans a6 aN) (by rw[hd];omega) _ SQ;change CallsIn _ _ prog 163 _ _ _ at EH;refine callsIn_wide.1 (EH.mono ?_);rintro e w' ⟨v,sv,rfl,bJ,ts,abo,R6⟩;have hp:sv.Perm (es.map (·.key)):=bJ.trans (Tu ap);have cz:(sv.mergeSort fun x y=>decide (x<=y))=hr es:=mergeSort_of_perm_i hp;have c6:sv.length=es.length:=by rw[hp.length_eq];simp
 rw[cz,c6]at ts;have SM:=ownsRow_base_a ts (Nat.zero_le _);have Gz:∀q∈(az.row 3 1 v es.length (fg (hr es))).et,w0.heap.size<=q/\q<w'.heap.size:=fun q bE=>by
  rcases ts.2 with⟨rfl,_⟩|⟨tg,cap,dz,rfl,bG,kk,_⟩
  ·simp[az.row,Value.ownBlock]at bE
  ·simp[az.row,Value.ownBlock]at bE;subst bE;exact⟨bG,(Array.getElem?_eq_some_iff.1 kk).1⟩
 refine⟨v,U,.kW R6,⟨fun e he=>?_,fun e he q bE=>?_,List.pairwise_singleton _ _⟩,fun q bE=>.inr ?_,ay⟩
 ·rw[List.mem_singleton.1 he];exact SM
 ·rw[List.mem_singleton.1 he]at bE;exact(Gz q bE).2
 ·rw[g9]at bE;exact(Gz q bE).1
theorem DF{av bg:Nat}{lv aq:Value}{S:di}{w0:World}(H:Has w0 (bP av bg lv aq S))(bJ:S.Ok)(c2:(S.cache.map (·.key)).Nodup)(ik:∀e∈S.cache,0<=e.key/\e.key<4096)(nF:(S.cache.map (·.born)).Nodup)(jy:∀e∈S.cache,e.born<S.clock)(hlen:S.cache.length<=4096):aY prog 103 [.pointer (some ⟨av,0,none⟩)] w0 (bP av bg lv aq S) (fun v:Value=>v) (fun v=>.row 3 1 v S.cache.length (fg (hr S.cache))::bP av bg lv aq S) (fun _=>True):=by
 refine enter (n:=9) func103 U U U ?_;intro fr E;have M:=ht H;refine aV E<|ah (v:=.map _) 4 U (aE U U T.l7 (M.row (i:=0) U) U)<|cP M 0 U (ar U U T.QB) (Mr) U fun aZ w _ M=>cP M 0 U (ar U U T.QA) (Nu (M.dG 0 U) (M.dG 3 U) c2 ik nF jy hlen) U fun v w _ M=>aU 1 U fun fr E=>?_;refine bi E U U ?_;have M:=M.aH 6 rfl;have M:=M.aH 6 rfl;have M:=M.aH 6 rfl;have M:=M.aH 6 rfl;have M:=M.aH 6 rfl;have M:=M.aH 5 rfl;exact⟨v,U,Mem.fin (L:=(.row 3 1 v S.cache.length (fg (hr S.cache))::bP av bg lv aq S)++_) M (List.sublist_append_left _ _) trivial⟩
end
section
open Go.RowKit Go.a2 Go.Proofs Go.Proofs.Tryz
def ig(S:di)(l:List Int):Nat->List Value
 |0=>S.dF
 |j+1=>if j<l.length/\(l[j]?).getD 0≠0 then(match(hr S.cache)[j]? with|some k=>(ig S l j).set k.toNat ((hz S.cache k).getD (.slice none 0 0))|none=>ig S l j)else ig S l j
def di.lf(S:di)(l:List Int):di:={S with dF:=ig S l S.cache.length,cache:=[],dK:=false,off:=false}
theorem E6(es:List eT):(hr es).length=es.length:=by simp[hr,List.length_mergeSort]
theorem E7{es:List eT}{k:Int}(h:k∈hr es):∃e∈es,e.key=k:=by
 unfold hr at h;rw[List.mem_mergeSort]at h;exact List.mem_map.1 h
theorem PV{S:di}{l:List Int}{j q:Nat}(ax:j<(hr S.cache).length)(aJ:j<l.length)(au:¬l[j]=0)(bE:(hr S.cache)[j]=(q:Int)):ig S l (j+1)=(ig S l j).set q ((hz S.cache ((hr S.cache)[j])).getD (.slice none 0 0)):=by
 rw[ig,if_pos ⟨aJ,by rw[List.getElem?_eq_getElem aJ];exact au⟩,List.getElem?_eq_getElem ax];simp only[bE,Int.toNat_natCast]
theorem z2{S:di}{l:List Int}{j:Nat}(h:¬(j<l.length/\(l[j]?).getD 0≠0)):ig S l (j+1)=ig S l j:=by
 rw[ig,if_neg h]
theorem Ta{es:List eT}{e:eT}(h:e∈es):hz es e.key≠none:=by
 unfold hz;generalize 0=n
 induction es generalizing n with
 |nil=>cases h
 |cons a r ck=>
  unfold im;split
  ·simp
  ·rename_i eP;rcases List.mem_cons.1 h with rfl|h
   ·exact absurd U eP
   ·exact ck h _
theorem PN{S:di}(bJ:S.Ok)(hp:∀p∈S.ps,∃w,Bytes w p.1 p.2)(k:Int):((hz S.cache k).getD (.slice none 0 0)).oneCell'=true:=by
 cases h:hz S.cache k with
 |none=>rfl
 |some v=>
  have hm:∃e∈S.cache,e.val=v:=by
   unfold hz at h;generalize 0=n at h;generalize S.cache=es at h
   induction es generalizing n with
   |nil=>cases h
   |cons a r ck=>
    unfold im at h;split at h
    ·injection h with h;exact⟨a,List.mem_cons_self ..,h⟩
    ·obtain⟨e,he,aD⟩:=ck _ h;exact⟨e,List.mem_cons_of_mem _ he,aD⟩
  obtain⟨e,he,rfl⟩:=hm;obtain⟨l,aI,_⟩:=bJ.cache e he;obtain⟨w,ak⟩:=hp _ aI;obtain⟨fI,fm,bV⟩:=Reads.slice ak;rw[show e.val=_ from bV];rfl
theorem L0{av bg:Nat}{lv aq:Value}{S:di}{w0:World}(H:Has w0 (bP av bg lv aq S))(bJ:S.Ok){b:Value}{l:List Int}(ak:Reads 1 w0 b l.length (fg l))(cK:∀g,b.ownBlock=some g->¬aS (bP av bg lv aq S) g)(c2:(S.cache.map (·.key)).Nodup)(ik:∀e∈S.cache,0<=e.key/\e.key<4096)(nF:(S.cache.map (·.born)).Nodup)(jy:∀e∈S.cache,e.born<S.clock)(hlen:S.cache.length<=4096)(Sv:∀e∈S.cache,e.key<(S.n:Int)):aY prog 51 [ai av 0,b] w0 (bP av bg lv aq S) (fun _:Unit=>.tuple #[]) (fun _=>bP av bg lv aq (S.lf l)) (fun _=>True):=by
 refine enter (n:=48) func51 U U U ?_;intro fr E;have M:=Mem.begin (Φ:=fun w'=>Reads 1 w' b l.length (fg l)) H (fun w' h=>Reads.held ak h cK);refine aV E<|bC (bP av bg lv aq S) M 1 U (ar U U T.Fw) U (fun H=>DF H bJ c2 ik nF jy hlen) fun eA w _ M=>ah 0 U (bx U U U U T.en (M.reads 0 U))<|bw 1 U fun fr E=>?_;refine cI (fun d fr w=>∃j:Nat,d=S.cache.length-j/\j<=S.cache.length/\Env [(0,ai av 0),(1,b),(7,eA),(8,aa ((S.cache.length:Nat):Int)),(9,aa (j:Int))] 48 fr/\Mem w0 (aS (bP av bg lv aq S)) (.row 3 1 eA S.cache.length (fg (hr S.cache))::bP av bg lv aq {S with dF:=ig S l j}) (fun w'=>Reads 1 w' b l.length (fg l)) w) (S.cache.length) ?_ ?_
 ·exact⟨0,U,Nat.zero_le _,E.lL [9,8,7,1,0] rfl,M⟩
 ·clear E M;rintro d fr w ⟨j,rfl,hle,E,M⟩;by_cases hi:j<S.cache.length
  ·have rX:j<(hr S.cache).length:=by rw[E6];exact hi
   obtain⟨e,he,Gy⟩:=E7 (List.getElem_mem rX);obtain⟨q,bE,SJ⟩:∃q:Nat,(hr S.cache)[j]=(q:Int)/\q<S.n:=⟨((hr S.cache)[j]).toNat,by have:=ik e he;omega,by have:=ik e he;have:=Sv e he;omega⟩
   by_cases aJ:j<l.length
   ·by_cases au:l[j]=0
    ·refine bA E<|bD 0 U U ae<|ah 2 U (bL (i:=j) U (M.reads 0 U) U U (rfl) (hi) T.en T.c3)<|ah (v:=aa ((hr S.cache)[j])) 0 U (b2 U (M.reads 0 U) U T.bc (by rw[Nat.mul_one];exact kU rX))<|ah 4 U (bx U U U U T.en M.fact)<|bD 0 U U ae<|ah 3 U (bL (i:=j) U M.fact U U (rfl) (aJ) T.en T.c3)<|ah (v:=aa (l[j])) 0 U (b2 U M.fact U T.bc (by rw[Nat.mul_one];exact kU aJ))<|ch 0 U U (by simp[au])<|ah (v:=.bool _) 0 U U<|a1 (y:=((j+1:Nat):Int)) 1 U U ((br ae ae).trans ae)<|ct 1 U fun fr E=>?_;have em:ig S l (j+1)=ig S l j:=z2 (fun c=>c.2 (by rw[List.getElem?_eq_getElem aJ];exact au));exact⟨S.cache.length-(j+1),by omega,j+1,U,by omega,E.lL [9,8,7,1,0] rfl,M.as (by first|(rw[em];rfl)|rw[em])⟩
    ·refine bA E<|bD 0 U U ae<|ah 2 U (bL (i:=j) U (M.reads 0 U) U U (rfl) (hi) T.en T.c3)<|ah (v:=aa ((hr S.cache)[j])) 0 U (b2 U (M.reads 0 U) U T.bc (by rw[Nat.mul_one];exact kU rX))<|ah 4 U (bx U U U U T.en M.fact)<|bD 0 U U ae<|ah 3 U (bL (i:=j) U M.fact U U (rfl) (aJ) T.en T.c3)<|ah (v:=aa (l[j])) 0 U (b2 U M.fact U T.bc (by rw[Nat.mul_one];exact kU aJ))<|ei 0 U U (by simp[au])<|ah (v:=.bool _) 0 U U<|bw 1 U fun fr E=>?_;refine(ii (B:=T.KB) (Vs:=(.af _:: .af _:: .af (ai _ 0):: .af _:: .af _:: .af _:: .af _:: .af (ai _ 1):: .af (.map _):: .af _:: .af (((hz S.cache ((hr S.cache)[j])).getD (.slice none 0 0))):: .af _::[])) T.Zh 12 E T.mixed T.Zg U U U (ej.e6 U) ⟨aw U U,
   aw U U,
   aw U U,
   aC U U (fun x w ad ab=>aE U U T.lu ((M.aQ ad).row (i:=1) U) U),
   aw U U,
   aw U U,
   aw U U,
   aw U U,
   aC U U (fun x w ad ab=>aE U U T.l7 ((M.aQ ad).row (i:=1) U) U),
   aw U U,
   aC U U (fun x w ad ab=>Wm (v:=((hz S.cache ((hr S.cache)[j])).getD (.slice none 0 0))) U U U T.mC T.DA ((M.aQ ad).row (i:=3) U) U),
   aC U U (fun x w ad ab=>bL (i:=q) U ((M.aQ ad).reads 2 U) U U (bE) (SJ) T.gN T.gM),ay⟩ ?_)
     intro x fr w ad ab E;have M:=M.ext ad;refine x6 (i:=2) (k:=q*1) (u:=((hz S.cache ((hr S.cache)[j])).getD (.slice none 0 0))) (xs':=(ig S l j).set q ((hz S.cache ((hr S.cache)[j])).getD (.slice none 0 0))) E M U U U U U U U U U T.gM (by show q*1<S.n*1;omega) (PN bJ (fun p hp=>⟨_,M.gr (i:=5) U hp⟩) _) (by rw[Nat.mul_one]) fun fr w M E=>?_;refine cm E<|a1 (y:=((j+1:Nat):Int)) 0 U U ((br ae ae).trans ae)<|ct 1 U fun fr E=>?_;have em:ig S l (j+1)=(ig S l j).set q ((hz S.cache ((hr S.cache)[j])).getD (.slice none 0 0)):=PV rX aJ au bE;exact⟨S.cache.length-(j+1),by omega,j+1,U,by omega,E.lL [9,8,7,1,0] rfl,M.as (by first|(rw[em];rfl)|rw[em])⟩
   ·refine bA E<|bD 0 U U ae<|ah 2 U (bL (i:=j) U (M.reads 0 U) U U (rfl) (hi) T.en T.c3)<|ah (v:=aa ((hr S.cache)[j])) 0 U (b2 U (M.reads 0 U) U T.bc (by rw[Nat.mul_one];exact kU rX))<|ah 4 U (bx U U U U T.en M.fact)<|bs 0 U U ae<|ah (v:=.bool _) 6 U U<|a1 (y:=((j+1:Nat):Int)) 1 U U ((br ae ae).trans ae)<|ct 1 U fun fr E=>?_;have em:ig S l (j+1)=ig S l j:=z2 (fun c=>aJ c.1);exact⟨S.cache.length-(j+1),by omega,j+1,U,by omega,E.lL [9,8,7,1,0] rfl,M.as (by first|(rw[em];rfl)|rw[em])⟩
  ·obtain rfl:j=S.cache.length:=by omega
   refine bA E<|bs 0 U U ae<|ah (v:=.map _) 4 U (aE U U T.l7 (M.row (i:=1) U) U)<|cv 0 U fun fr E=>?_;refine yV (i:=3) E M U U U U U U U U U T.mC fun fr w M E=>?_;refine cw E<|bj (i:=1) (cs':= #[_,_,_,_,_,_,_]) M 4 U U (cy (v:=_) U U U T.kf (M.row (i:=1) U) (rfl) (rfl) (rfl)) U fun w M=>bj (i:=1) (cs':= #[_,_,_,_,_,_,_]) M 2 U U (cy (v:=_) U U U T.kf (M.row (i:=1) U) (rfl) (rfl) (rfl)) U fun w M=>aU 0 U fun fr E=>?_;refine pQ E U ?_;exact⟨(),U,Mem.fin (L:=_::bP av bg lv aq (S.lf l)) M (List.sublist_cons_self _ _) trivial⟩
def mj(A:bz)(l:List Int):Nat->List (List UInt8)
 |0=>A.last
 |j+1=>if j<l.length/\(l[j]?).getD 0≠0 then(match((A.cache.map (·.1)).mergeSort leI)[j]? with|some k=>(mj A l j).set k.toNat ((h0 A.cache k).getD [])|none=>mj A l j)else mj A l j
def bz.lf(A:bz)(l:List Int):bz:={A with last:=mj A l A.cache.length,cache:=[],dK:=false,off:=false}
theorem rv(A:bz)(l:List Int):∀j,(mj A l j).length=A.last.length
 |0=>rfl
 |j+1=>by
  unfold mj;split
  ·split
   ·rw[List.length_set];exact rv A l j
   ·exact rv A l j
  ·exact rv A l j
theorem di.g7.uM{S:di}{A:bz}(h:S.g7 A)(l:List Int):∀j,k8 S.ps (ig S l j) (mj A l j)
 |0=>h.last
 |j+1=>by
  unfold ig mj;rw[<-xe h.cache];show k8 S.ps (if _ then(match(hr S.cache)[j]? with|some k=>_|none=>_)else _) (if _ then(match(hr S.cache)[j]? with|some k=>_|none=>_)else _)
  split
  ·cases aT:(hr S.cache)[j]? with
   |none=>exact di.g7.uM h l j
   |some k=>
    refine yb ?_ (di.g7.uM h l j);obtain⟨e,he,Gy⟩:=E7 (List.mem_of_getElem? aT);cases aJ:hz S.cache k with
    |none=>exact absurd aJ (Gy▸Ta he)
    |some u=>obtain⟨m,aB,be,bZ⟩:=xg h.cache aJ;rw[aB];exact⟨be,bZ⟩
  ·exact di.g7.uM h l j
theorem z8{ps:List (Value×List UInt8)}:∀{es:List eT} {c:List (Int×List UInt8)},mP ps es c->es.length=c.length
 |[],[],_=>rfl
 |[],_::_,h=>h.elim
 |_::_,[],h=>h.elim
 |e::r,p::q,h=>by rw[List.length_cons,List.length_cons,z8 h.2]
theorem Jl{α:Type}(p:α->Bool):∀l:List α,l.length=(l.filter p).length+(l.filter fun x=> !p x).length
 |[]=>rfl
 |a::r=>by
  have:=Jl p r;rw[List.filter_cons,List.filter_cons];cases p a<;>simp<;>omega
theorem zG:∀(n:Nat) (l:List Int),l.Nodup->(∀x∈l,0<=x/\x<(n:Int))->l.length<=n
 |0,[],_,_=>Nat.le_refl _
 |0,x::l,_,h=>by have:=h x (List.mem_cons_self ..);omega
 |n+1,l,a6,h=>by
  have aj:=zG n (l.filter fun x=>decide (x<(n:Int))) (List.filter_sublist.nodup a6) (fun x ad=>by
   rw[List.mem_filter,decide_eq_true_eq]at ad;exact⟨(h x ad.1).1,ad.2⟩)
  have an:(l.filter fun x=> !decide (x<(n:Int))).length<=1:=by
   have aP:(l.filter fun x=> !decide (x<(n:Int))).Nodup:=List.filter_sublist.nodup a6;have bm:∀x∈(l.filter fun x=> !decide (x<(n:Int))),x=(n:Int):=fun x ad=>by
    rw[List.mem_filter]at ad;have:=h x ad.1;have aB:¬x<(n:Int):=by simpa using ad.2
    omega
   match aI:(l.filter fun x=> !decide (x<(n:Int)))with
   |[]=>simp
   |[a]=>simp
   |a::b::r=>
    rw[aI]at aP bm;have cz:=bm a (by simp);have c6:=bm b (by simp);rw[List.nodup_cons]at aP;exact absurd (by rw[cz,c6];simp) aP.1
  have aB:=Jl (fun x=>decide (x<(n:Int))) l;omega
theorem LY{D:b6}{g:Nat}{A:bz}{w0:World}(H:Has w0 [ba D])(cb:D.is g A){b:Value}{l:List Int}(ak:Reads 1 w0 b l.length (fg l))(cK:∀g,b.ownBlock=some g->g∉(ba D).et):aY prog 51 [ai g 0,b] w0 [ba D] (fun _:b6=>.tuple #[]) (fun x=>[ba x]) (fun x=>x.is g (A.lf l)):=by
 obtain⟨av,bg,lv,aq,S⟩:=D;obtain⟨al,aR⟩:=cb;have al:av=g:=al;have aR:S.g7 A:=aR;subst al;have j2:∀g,b.ownBlock=some g->¬aS (bP av bg lv aq S) g:=fun g al c=>cK g al (az.kq.2 c);have ap:=aR.vF;have g1:=aR.max;have GH:=aR.n;have hlen:S.cache.length<=4096:=by
  have:=zG S.n (S.cache.map (·.key)) aR.tv (fun x ad=>by obtain⟨e,he,rfl⟩:=List.mem_map.1 ad;exact ap e he);rw[List.length_map]at this;omega
 exact aY.packed (B:=fun _:b6=>[]) (C:=fun x=>iP x) (fun _=>L0 H.hL aR.ok ak j2 aR.tv (fun e he=>⟨(ap e he).1,by have:=(ap e he).2;omega⟩) aR.born.1 aR.born.2 hlen (fun e he=>(ap e he).2)) H fun _ _=>⟨⟨av,bg,lv,aq,S.lf l⟩,U,U,U,⟨aR.n,aR.max,(rv A l _).trans aR.len,aR.iI,by show k8 S.ps (ig S l S.cache.length) (mj A l A.cache.length);rw[<-z8 aR.cache];exact aR.uM l _,ay,⟨List.nodup_nil,fun p hp=>nomatch hp⟩,⟨List.nodup_nil,fun e he=>nomatch he⟩,U,aR.left,U,aR.writes,aR.reads⟩⟩
end
end Go.Proofs.YtckdfgknodedoaaGreatDoor.K
