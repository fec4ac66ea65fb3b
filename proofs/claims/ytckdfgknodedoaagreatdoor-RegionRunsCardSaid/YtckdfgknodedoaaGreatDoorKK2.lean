/- Texts of this proof. -/
import Derived.Test.YtckdfgknodedoaaGreatDoorKK
import Derived.Test.YtckdfgknodedoaaGreatDoorKK1
import Derived.Test.YtckdfgknodedoaaGreatDoorRR1
set_option linter.unusedVariables false
set_option linter.unusedSimpArgs false
set_option maxRecDepth 100000
namespace Go.Proofs.YtckdfgknodedoaaGreatDoor.K
section
open Go.RowKit Go.a2 Go.Proofs Go.Proofs.Tryz
theorem yG:∀{k:Nat} {s:dW} {l:List UInt8},fD (k+1) s l=(fD k s l).take ((l.drop (64*k)).take 64)
 |0,s,l=>rfl
 |k+1,s,l=>by rw[fD,yG,fD,List.drop_drop,show 64+64*k=64*(k+1) by omega]
theorem ZC{k:Nat}{s:dW}{l:List UInt8}{bv:Value}{w0:World}(ak:Bytes w0 bv l)(aI:64*k+64<=l.length)(ab:w0.heap[0]? =some (.cells (a7 bt).toArray 243)):bH prog 190 [.agg (a7 (fD k s l).list).toArray,e2 1 bv (64*k) (64*k+64)] w0 (.agg (a7 (fD (k+1) s l).list).toArray):=by
 rw[yG];have:=K1 (s:=fD k s l) (Bytes.cut (64*k) (64*k+64) ak ae aI) (by simp;omega) ab
 rwa [show 64*k+64-64*k=64 by omega]at this
def hj(T:List UInt8):dW:=fD (T.length/64) dW.first T
def fl(T:List UInt8):List UInt8:=T.drop (64*(T.length/64))
theorem oH(T:List UInt8):(fl T).length=T.length%64:=by simp[fl];omega
theorem V9{n:Nat}:∀{s:dW} {a:List UInt8} (m:Nat),64*n<=m->fD n s (a.take m)=fD n s a:=by
 induction n with
 |zero=>intros;rfl
 |succ n ck=>
  intro s a m h;rw[fD,fD,List.take_take,Nat.min_eq_left ae,List.drop_take];exact ck _ ae
theorem Jm(T b:List UInt8):fD ((fl T++b).length/64) (hj T) (fl T++b)=fD (T.length/64+(fl T++b).length/64) dW.first (T++b):=by
 have e:T++b=T.take (64*(T.length/64))++(fl T++b):=by rw[<-List.append_assoc];congr 1;exact(List.take_append_drop _ _).symm
 rw[e,IG (by simp;omega),V9 _ (Nat.le_refl _)];rfl
theorem Xo(T b:List UInt8):fD ((fl T++b).length/64) (hj T) (fl T++b)=hj (T++b):=by
 rw[Jm];unfold hj;congr 1;rw[List.length_append,List.length_append,oH];omega
theorem VN(T b:List UInt8):(fl T++b).drop (64*((fl T++b).length/64))=fl (T++b):=by
 have e:T++b=T.take (64*(T.length/64))++(fl T++b):=by rw[<-List.append_assoc];congr 1;exact(List.take_append_drop _ _).symm
 have aj:(T.take (64*(T.length/64))).length=64*(T.length/64):=by simp;omega
 have an:(fl T++b).length=T.length%64+b.length:=by rw[List.length_append,oH]
 have aB:64*((T++b).length/64)=64*(T.length/64)+64*((fl T++b).length/64):=by rw[an,List.length_append];omega
 have be:∀m,(T++b).drop (64*(T.length/64)+m)=(fl T++b).drop m:=fun m=>by rw[e,<-List.drop_drop,List.drop_left' aj]
 rw[<-be,<-aB];rfl
def aJ(s:dW)(r:Value)(n:Int):List Value:=a7 s.list++[r,aa n]
def lm(g:Nat)(r:Value)(T:List UInt8):List az:=[.bb g (.cells (aJ (hj T) r (T.length:Int)).toArray 231),.bytes 5 r (fl T)]
theorem AW(w0:World):aY prog 157 [] w0 [] (fun g:Nat=>ai g 0) (fun g=>lm g (.slice none 0 0) []) (fun _=>True):=by
 refine enter (n:=4) func157 U U U ?_;intro fr E;have M:=ht (Has.nil w0);refine aV E<|ah (v:=.agg (a7 dW.first.list).toArray) 1 U (Cb (qs:=[(0,v32 0x6a09e667#32),(1,v32 0xbb67ae85#32),(2,v32 0x3c6ef372#32),(3,v32 0xa54ff53a#32),(4,v32 0x510e527f#32),(5,v32 0x9b05688c#32),(6,v32 0x1f83d9ab#32),(7,v32 0x5be0cd19#32)]) (us':=(a7 dW.first.list).toArray) U U T.j0 T.dL T.zn (Fj _ _ _ _ _ _ _ _))<|ah (v:=.agg (aJ dW.first (.slice none 0 0) 0).toArray) 0 U (dl (vs:=[.agg (a7 dW.first.list).toArray]) (us:=aJ dW.first (.slice none 0 0) 0) U U T.ZX T.aaJ (rfl) U U (rfl))<|bh (ob:=.cells ((aJ dW.first (.slice none 0 0) 0).toArray) 231) (fun g=>ai g 0) M 0 U (cS (cs:=((aJ dW.first (.slice none 0 0) 0).toArray)) U U) fun aZ w M=>aU 1 U fun fr E=>?_;refine bi E U U ?_;have M:=(M.jg 5).perm (L':=lm aZ (.slice none 0 0) []) (.swap _ _ _);exact⟨aZ,U,M.fin (.refl _) trivial⟩
theorem u3{g:Nat}{aq bv:Value}{Y bl:List UInt8}{w0:World}(H:Has w0 (lm g aq Y))(ak:Bytes w0 bv bl)(cK:∀q,bv.ownBlock=some q->¬aS (lm g aq Y) q)(ab:w0.heap[0]? =some (.cells (a7 bt).toArray 243))(cj:¬aS (lm g aq Y) 0)(au:Y.length+bl.length<=1099511627776):aY prog 158 [ai g 0,bv] w0 (lm g aq Y) (fun _:Value=>.tuple #[]) (fun Wv=>lm g Wv (Y++bl)) (fun _=>True):=by
 refine enter (n:=60) func158 U U U ?_;intro fr E;have S1:(Y++bl).length=Y.length+bl.length:=List.length_append;have kR:=oH Y;have hlen:(fl Y++bl).length=Y.length%64+bl.length:=by rw[List.length_append,kR]
 have M:=Mem.begin (Φ:=fun w'=>Bytes w' bv bl/\w'.heap[0]? =some (.cells (a7 bt).toArray 243)) H (fun w' h=>⟨Reads.held ak h cK,(h.block 0 (Array.getElem?_eq_some_iff.1 ab).1 cj).trans ab⟩);have M:Mem w0 (aS (lm g aq Y)) [.bb g (.cells (aJ (hj Y) aq (Y.length:Int)).toArray 231),.bytes 5 aq (fl Y)] _ w0:=M;refine aV E<|ah (v:=aa _) 3 U (aE U U T.bc (M.row (i:=0) U) U)<|ah 1 U (bx U U U U T.aG (M.fact.1))<|a1 (y:=((Y.length+bl.length:Nat):Int)) 0 U U ((br ae ae).trans ae)<|bj (i:=0) (cs':=(aJ (hj Y) aq ((Y.length+bl.length:Nat):Int)).toArray) M 2 U U (cy (v:=_) U U U T.c3 (M.row (i:=0) U) (rfl) (rfl) (rfl)) U fun w M=>ah 4 U (aE U U T.ec (M.row (i:=0) U) U)<|cv 1 U fun fr E=>?_;refine fX (i:=1) E M U U U U U U U U U U U T.aG T.aG T.eh T.ef (M.fact.1) (by rw[oH];omega) fun rest fr w M E=>?_;refine cw E<|bj (i:=0) (cs':=(aJ (hj Y) _ ((Y.length+bl.length:Nat):Int)).toArray) M 2 U U (cy (v:=_) U U U T.gM (M.row (i:=0) U) (rfl) ((M.reads 1 U).one) (rfl)) U fun w M=>bw 1 U fun fr E=>?_;refine cI (fun d fr w=>∃(k:Nat) (jF:Value),d=(fl Y++bl).length-64*k/\64*k<=(fl Y++bl).length/\Env [(4,aa ((64*k:Nat):Int)),(0,ai g 0)] 60 fr/\Mem w0 (aS (lm g aq Y)) [.bb g (.cells (aJ (fD k (hj Y) (fl Y++bl)) jF ((Y.length+bl.length:Nat):Int)).toArray 231),.bytes 5 jF (fl Y++bl)] (fun w'=>Bytes w' bv bl/\w'.heap[0]? =some (.cells (a7 bt).toArray 243)) w) ((fl Y++bl).length) ?_ ?_
 ·have M:=M.aH 1 rfl;have M:=M.aH 1 rfl;exact⟨0,_,by omega,Nat.zero_le _,E.lL [0,4] rfl,M⟩
 ·clear E M;rintro d fr w ⟨k,jF,rfl,hle,E,M⟩;by_cases kO:64*k+64<=(fl Y++bl).length
  ·refine bA E<|ah 3 U (aE U U T.ec (M.row (i:=0) U) U)<|ah 0 U (bx U U U U T.aG (M.reads 1 U))<|a1 (y:=(((fl Y++bl).length-64*k:Nat):Int)) 1 U U ((br ae ae).trans ae)<|bD 0 U U ae<|bw 1 U fun fr E=>?_;refine(ii (B:=T.JD) (Vs:=(.af _:: .af _:: .af _:: .af (ai _ 0):: .af (.agg (a7 (fD k (hj Y) (fl Y++bl)).list).toArray):: .af _:: .af _:: .af (ai _ 8):: .af _:: .af _:: .af _:: .af (.int _ (((64*k+64:Nat):Int))):: .af _:: .af (.agg (a7 (fD (k+1) (hj Y) (fl Y++bl)).list).toArray):: .af _:: .af (ai _ 0)::[])) T.XN 16 E T.mixed T.XM U U U (ej.e6 U) ⟨aw U U,
   aw U U,
   aw U U,
   aw U U,
   aC U U (fun x w ad ab=>gb (vs:=(a7 (fD k (hj Y) (fl Y++bl)).list).toArray) U U T.wS ((M.aQ ad).row (i:=0) U) U U),
   aw U U,
   aw U U,
   aw U U,
   aC U U (fun x w ad ab=>aE U U T.ec ((M.aQ ad).row (i:=0) U) U),
   aw U U,
   aw U U,
   aC U U (fun x w ad ab=>num U ((br ae ae).trans ae)),
   aC U U (fun x w ad ab=>ew (lo:=64*k) (hi:=64*k+64) U ((M.aQ ad).reads 1 U) U T.aG T.bf (⟨_,_,U,U⟩) (⟨_,_,U,U⟩) ae ae),
   cE U U (fun x w ad ab=>⟨_,_,U,U,U,ar U U T.FG,(ZC ((M.aQ ad).bytes 1 U) kO (M.aQ ad).fact.2).ext⟩),
   aw U U,
   aw U U,ay⟩ ?_)
   intro x fr w ad ab E;have M:=M.ext ad;refine iq (i:=0) (cs':=(aJ (fD (k+1) (hj Y) (fl Y++bl)) jF ((Y.length+bl.length:Nat):Int)).toArray) E M U U U U U U (dr (vs:=(a7 (fD (k+1) (hj Y) (fl Y++bl)).list).toArray) U U U T.yT U (M.row (i:=0) U) U U U) U fun fr w M E=>?_;refine cm E<|a1 (y:=((64*(k+1):Nat):Int)) 1 U U ((br ae ae).trans ae)<|ct 1 U fun fr E=>?_;exact⟨(fl Y++bl).length-64*(k+1),by omega,k+1,jF,U,by omega,E.lL [0,4] rfl,M⟩
  ·refine bA E<|ah 3 U (aE U U T.ec (M.row (i:=0) U) U)<|ah 0 U (bx U U U U T.aG (M.reads 1 U))<|a1 (y:=(((fl Y++bl).length-64*k:Nat):Int)) 1 U U ((br ae ae).trans ae)<|bs 0 U U ae<|cv 2 U fun fr E=>?_;refine dM (sz:=1) (xs:=ao []) E M U U U U U (lP U T.aG U) (rfl) (Nat.le_refl _) aN (rfl) fun aby fr w M E=>?_;refine cw E<|ah 3 U (aE U U T.ec (M.row (i:=1) U) U)<|ah 1 U (ew (lo:=64*k) (hi:=(fl Y++bl).length) U (M.reads 2 U) U T.aG T.bf (⟨_,_,U,U⟩) (rfl) ae (Nat.le_refl _))<|cv 0 U fun fr E=>?_;refine fX (i:=0) (news:=(fl Y++bl).drop (64*k)) E M U U U U U U U U U U U T.aG T.aG T.eh T.ef (Bytes.oT (M.bytes 2 U) hle) (by simp;omega) fun pI fr w M E=>?_;obtain⟨SE⟩:Nonempty (pI.oneCell'=true):=⟨(M.reads 0 rfl).one⟩
   refine cw E<|bj (i:=1) (cs':=(aJ (fD k (hj Y) (fl Y++bl)) pI ((Y.length+bl.length:Nat):Int)).toArray) M 2 U U (cy (v:=_) U U U T.gM (M.row (i:=1) U) (rfl) (SE) (rfl)) U fun w M=>aU 0 U fun fr E=>?_;refine pQ E U ?_;obtain rfl:k=(fl Y++bl).length/64:=by omega
   have M:=M.aH 1 rfl;have M:=(M.sub (L':=[_,_]) (.cons_cons _ (.cons_cons _ (List.nil_sublist _)))).as (L':=lm g pI (Y++bl)) (by unfold lm;rw[<-Xo,<-VN,S1,List.nil_append]);exact⟨pI,U,M.fin (.refl _) trivial⟩
end
section
open Go.RowKit Go.a2 Go.Proofs Go.Proofs.Tryz
theorem kb(a b:Nat):(a:Int).tmod b=((a%b:Nat):Int):=by
 rw[Int.tmod_eq_emod_of_nonneg ae];norm_cast
theorem vQ(a b:Nat)(ak:0<b)(bm:a<=9223372036854775807):IntKind.wrap .i64 ((a:Int).tdiv b)=((a/b:Nat):Int):=by
 rw[Int.tdiv_eq_ediv_of_nonneg ae,show(a:Int)/(b:Int)=((a/b:Nat):Int) by norm_cast];have h:=Nat.div_le_self a b;generalize a/b=q at h⊢;exact br ae ae
theorem BL(n:Nat):fU n<64/\(n%64+1+fU n)%64=56:=by unfold fU;omega
theorem UY{n z:Nat}(h:z<fU n):¬(n%64+1+z)%64=56:=by unfold fU at h;omega
theorem yD{z:Nat}:List.replicate (z+1) (0:UInt8)=List.replicate z 0++[0]:=List.replicate_succ'
theorem It{Y:List UInt8}{z:Nat}:(fl Y++128::List.replicate z 0).length=Y.length%64+1+z:=by simp[oH];omega
def C7(n:Nat):List UInt8:=128::(List.replicate (fU n) 0++aO ((n*8:Nat):Int))
def jj(Y:List UInt8):List UInt8:=fl Y++128::(List.replicate (fU Y.length) 0++(aO ((Y.length*8:Nat):Int)).take (8-0))
theorem BM(Y:List UInt8):(jj Y).length%64=0/\(jj Y).length=Y.length%64+1+fU Y.length+8:=by
 have:=BL Y.length;have e:(jj Y).length=Y.length%64+1+fU Y.length+8:=by simp[jj,oH,eo];omega
 omega
theorem Xx(Y:List UInt8):iu (fD ((jj Y).length/64) (hj Y) (jj Y))=fy Y:=by
 have e:=Jm Y (C7 Y.length);have hp:=(BM Y).2;unfold fy;have c6:jj Y=fl Y++C7 Y.length:=rfl;have ih:jH Y=Y++C7 Y.length:=rfl;have kJ:=BL Y.length;rw[c6]at hp⊢;rw[e,<-ih,Ja,hp];congr 2;omega
theorem ZB{k:Nat}{s:dW}{l:List UInt8}{bv:Value}{w0:World}(ak:Bytes w0 bv (l.drop (64*k)))(aI:64*k+64<=l.length)(ab:w0.heap[0]? =some (.cells (a7 bt).toArray 243)):bH prog 190 [.agg (a7 (fD k s l).list).toArray,e2 1 bv 0 64] w0 (.agg (a7 (fD (k+1) s l).list).toArray):=by
 rw[yG];exact K1 (s:=fD k s l) (Bytes.pre ak (by simp;omega)) (by simp;omega) ab
def mF(s:dW)(i:Nat):List Value:=((List.range i).map fun j=>b1 (H8 s j))++List.replicate (32-i) (ag 0)
theorem HX{s:dW}{i:Nat}(h:i<=32):(mF s i).length=32:=by simp[mF];omega
theorem HY{s:dW}{i:Nat}(h:i<32):(mF s i).set i (b1 ((s.list.getD (i/4) 0 >>>(24-8*(i%4))).setWidth 8))=mF s (i+1):=by
 unfold mF;rw[show 32-i=(32-(i+1))+1 by omega,List.replicate_succ,List.range_succ,List.map_append,List.set_append_right _ _ (by simp),List.length_map,List.length_range,Nat.sub_self,List.append_assoc];rfl
theorem HW(s:dW):mF s 32=ao (iu s):=by simp[mF,ao,iu]
theorem WA{s:dW}{i:Nat}(h:i<8):(a7 s.list).toArray[0+i*1]? =some (v32 (s.list.getD i 0)):=by
 have aI:i<s.list.length:=h;rw[Nat.zero_add,Nat.mul_one];simp only[a7,List.getElem?_toArray,List.getElem?_map,List.getD_eq_getElem?_getD,List.getElem?_eq_getElem aI];rfl
theorem vR{w:World}{v:Value}{sz n:Nat}{xs:List Value}(h:Reads sz w v n xs){q:Nat}(bE:v.ownBlock=some q):q<w.heap.size:=by
 rcases h.2 with⟨rfl,_⟩|⟨g,off,cap,rfl,_,_,bZ,_⟩
 ·simp[Value.ownBlock]at bE
 ·simp[Value.ownBlock]at bE;omega
theorem _root_.Go.a2.Mem.Ai{w0 w:World}{J R:List az}{Φ:World->Prop}(M:Mem w0 (aS []) (J++R) Φ w){v:Value}{sz n:Nat}{xs:List Value}(h:Reads sz w0 v n xs):∀q,v.ownBlock=some q->¬aS J q:=fun q bE ⟨e,he,al⟩=>by
 have aj:=vR h bE;rcases M.own e (List.mem_append_left _ he) q al with an|an
 ·omega
 ·exact gQ an
theorem _root_.Go.a2.Mem.s7{w0 w:World}{J R:List az}{Φ:World->Prop}(M:Mem w0 (aS []) (J++R) Φ w){q:Nat}{o:Obj}(h:w0.heap[q]? =some o):¬aS J q:=fun⟨e,he,al⟩=>by
 have aj:=(Array.getElem?_eq_some_iff.1 h).1;rcases M.own e (List.mem_append_left _ he) q al with an|an
 ·omega
 ·exact gQ an
theorem AY{g:Nat}{aq:Value}{Y:List UInt8}{w0:World}(al:w0.heap[g]? =some (.cells (aJ (hj Y) aq (Y.length:Int)).toArray 231))(ak:Bytes w0 aq (fl Y))(ab:w0.heap[0]? =some (.cells (a7 bt).toArray 243))(au:Y.length<=2199023255552):bH prog 159 [ai g 0] w0 (.agg (ao (fy Y)).toArray):=by
 refine enter (n:=71) func159 U U U ?_;intro fr E;have l3:=BM Y;have M:=Mem.begin (Φ:=fun w'=>w'.heap[g]? =some (.cells (aJ (hj Y) aq (Y.length:Int)).toArray 231)/\Bytes w' aq (fl Y)/\w'.heap[0]? =some (.cells (a7 bt).toArray 243)) (Has.nil w0) (fun w' h=>⟨fc al h,ak.bU h,fc ab h⟩);refine eU ?_;refine q9 (ob:=.cells _ 39) (fun g=>ai g 0) E M U U U U U (bT U T.gH) fun aZ fr w M E=>?_;refine eY ?_;refine eU ?_;refine dM (sz:=1) (xs:=ao []) E M U U U U U (lP U T.aG U) (rfl) (Nat.le_refl _) aN (rfl) fun o fr w M E=>?_;refine cM E fun fr E=>?_;refine ca E (ng U U) fun fr E=>?_;refine ca (v:=ai _ 8) E (mH U U T.Qm) fun fr E=>?_;refine ca E (aE U U T.ec (M.fact.1) U) fun fr E=>?_;refine fX (i:=0) E M U U U U U U U U U U U T.aG T.aG T.eh T.ef (M.fact.2.1) (by rw[oH];simp;omega) fun o fr w M E=>?_;refine dM (sz:=1) (xs:=ao [128]) E M U U U U U (ev (us:=[_]) (vs:=[_]) U U U T.aG T.bf T.gO U U U U U) (rfl) (Nat.le_refl _) aN (rfl) fun t fr w M E=>?_;refine fX (i:=1) E M U U U U U U U U U U U T.aG T.aG T.eh T.ef (M.reads 0 U) (by simp[oH];omega) fun o fr w M E=>?_;refine iF E fun fr E=>?_;refine eY ?_;refine wp_seq ?_;refine wp_block ?_;refine cI (fun d fr w=>∃(z:Nat) (jR:Value),d=fU Y.length-z/\z<=fU Y.length/\Env [(3,jR),(2,ai aZ 0),(0,ai g 0)] 71 fr/\Mem w0 (aS []) [.bytes 5 jR (fl Y++128::List.replicate z 0),.bb aZ (.cells (List.replicate 32 (Value.int .u8 0)).toArray 39)] (fun w'=>w'.heap[g]? =some (.cells (aJ (hj Y) aq (Y.length:Int)).toArray 231)/\Bytes w' aq (fl Y)/\w'.heap[0]? =some (.cells (a7 bt).toArray 243)) w) (fU Y.length) ?_ ?_
 ·refine⟨0,_,U,Nat.zero_le _,E.lL [0,2,3] rfl,(M.sub (L':=[_,_]) (.cons _ (.refl _))).as ?_⟩;simp
 ·clear E M;rintro d fr w ⟨z,jR,rfl,hle,E,M⟩;have SI:fU Y.length<64/\(Y.length%64+1+fU Y.length)%64=56:=BL _;have SH:z<fU Y.length->¬(Y.length%64+1+z)%64=56:=UY;by_cases pE:z<fU Y.length
  ·refine wp_seq ?_;refine eU ?_;refine cM E fun fr E=>?_;refine ca (v:=aa _) E (bx U U U U T.aG (M.reads 0 U)) fun fr E=>?_;refine ca (v:=.int _ ((((Y.length%64+1+z)%64:Nat):Int))) E (num U (by rw[It];exact kb _ _)) fun fr E=>?_;refine ca (v:=.bool true) E (eZ U (by simp;omega)) fun fr E=>?_;refine eY ?_;refine cond_true E U (rfl) ?_;refine wp_skip ?_;refine gV ?_;refine wp_block ?_;refine lY ?_;refine cM E fun fr E=>?_;refine dM (sz:=1) (xs:=ao [0]) E M U U U U U (ev (us:=[_]) (vs:=[_]) U U U T.aG T.bf T.gO U U U U U) (rfl) (Nat.le_refl _) aN (rfl) fun t fr w M E=>?_;refine fX (i:=1) E M U U U U U U U U U U U T.aG T.aG T.eh T.ef (M.reads 0 U) (by simp[oH];omega) fun o fr w M E=>?_;refine iF E fun fr E=>?_;refine mc ?_;refine o8 ?_;refine pV ?_;refine⟨fU Y.length-(z+1),by omega,z+1,_,U,by omega,E.lL [0,2,3] rfl,(M.sub (L':=[_,_]) (.cons _ (.refl _))).as ?_⟩;rw[List.append_assoc,List.cons_append,<-yD]
  ·obtain rfl:z=fU Y.length:=by omega
   refine wp_seq ?_;refine eU ?_;refine cM E fun fr E=>?_;refine ca (v:=aa _) E (bx U U U U T.aG (M.reads 0 U)) fun fr E=>?_;refine ca (v:=.int _ ((((Y.length%64+1+fU Y.length)%64:Nat):Int))) E (num U (by rw[It];exact kb _ _)) fun fr E=>?_;refine ca (v:=.bool false) E (eZ U (by simp;omega)) fun fr E=>?_;refine eY ?_;refine cond_false E U (rfl) ?_;refine wp_exit ?_;refine lA ?_;refine lA ?_;refine o7 ?_;refine gV ?_;refine eU ?_;refine cM E fun fr E=>?_;refine ca E (ng U U) fun fr E=>?_;refine ca (v:=ai _ 9) E (mH U U T.Qn) fun fr E=>?_;refine ca (v:=aa _) E (aE U U T.bc (M.fact.1) U) fun fr E=>?_;refine ca (v:=.int _ ((Y.length:Int))) E (num U (mM ae ae)) fun fr E=>?_;refine ca (v:=.int _ (IntKind.u64.wrap ((Y.length*8:Nat):Int))) E (num U (congrArg _ ae)) fun fr E=>?_;refine iF E fun fr E=>?_;refine eY ?_;refine wp_seq ?_;refine eU ?_;refine ca E (hT U) fun fr E=>?_;refine eY ?_;refine wp_block ?_;refine cI (fun d fr w=>∃(j:Nat) (jR:Value),d=j/\j<=8/\Env [(5,aa (8*((j:Int)-1))),(4,ab0 (IntKind.u64.wrap ((Y.length*8:Nat):Int))),(3,jR),(2,ai aZ 0),(0,ai g 0)] 71 fr/\Mem w0 (aS []) [.bytes 5 jR (fl Y++128::(List.replicate (fU Y.length) 0++(aO ((Y.length*8:Nat):Int)).take (8-j))),.bb aZ (.cells (List.replicate 32 (Value.int .u8 0)).toArray 39)] (fun w'=>w'.heap[g]? =some (.cells (aJ (hj Y) aq (Y.length:Int)).toArray 231)/\Bytes w' aq (fl Y)/\w'.heap[0]? =some (.cells (a7 bt).toArray 243)) w) (8) ?_ ?_
   ·refine⟨8,_,U,by omega,E.lL [0,2,3,4,5] rfl,M.as (by simp)⟩
   ·clear E M;rintro d fr w ⟨j,jR,aT,hle,E,M⟩;by_cases ax:1<=j
    ·refine wp_seq ?_;refine eU ?_;refine cM E fun fr E=>?_;refine ca (v:=.bool true) E (eZ U (decide_eq_true ae)) fun fr E=>?_;refine eY ?_;refine cond_true E U (rfl) ?_;refine wp_skip ?_;refine gV ?_;refine wp_seq ?_;refine wp_block ?_;refine lY ?_;refine cM E fun fr E=>?_;refine cM E fun fr E=>?_;refine cM E fun fr E=>?_;refine ca (v:=ab0 _) E (q6 U U U ae U) fun fr E=>?_;refine ca (v:=.int _ ((((aO ((Y.length*8:Nat):Int))[8-j]'(by rw[eo];omega)).toNat:Int))) E (num U (tJ _ ax hle)) fun fr E=>?_;refine dM (sz:=1) (xs:=ao [(aO ((Y.length*8:Nat):Int))[8-j]'(by rw[eo];omega)]) E M U U U U U (ev (us:=[_]) (vs:=[_]) U U U T.aG T.bf T.gO U U U U U) (rfl) (Nat.le_refl _) aN (rfl) fun t fr w M E=>?_;refine fX (i:=1) E M U U U U U U U U U U U T.aG T.aG T.eh T.ef (M.reads 0 U) (by simp[oH,eo];omega) fun o fr w M E=>?_;refine iF E fun fr E=>?_;refine mc ?_;refine o8 ?_;refine gV ?_;refine lY ?_;refine cM E fun fr E=>?_;refine ca (v:=.int _ (8*(((j-1:Nat):Int)-1))) E (num U ((br ae ae).trans ae)) fun fr E=>?_;refine iF E fun fr E=>?_;refine mc ?_;refine pV ?_;refine⟨j-1,by omega,j-1,_,U,by omega,E.lL [0,2,3,4,5] rfl,(M.sub (L':=[_,_]) (.cons _ (.refl _))).as ?_⟩;rw[List.append_assoc,List.cons_append,List.append_assoc,<-List.take_succ_eq_append_getElem,show 8-j+1=8-(j-1) by omega]
    ·obtain rfl:j=0:=by omega
     refine wp_seq ?_;refine eU ?_;refine cM E fun fr E=>?_;refine ca (v:=.bool false) E (eZ U (decide_eq_false ae)) fun fr E=>?_;refine eY ?_;refine cond_false E U (rfl) ?_;refine wp_exit ?_;refine lA ?_;refine lA ?_;refine o7 ?_;refine gV ?_;refine eU ?_;refine cM E fun fr E=>?_;refine ca E (ng U U) fun fr E=>?_;refine ca (v:=ai _ 0) E (mH U U T.Ql) fun fr E=>?_;refine ca (v:=.agg (a7 (hj Y).list).toArray) E (gb (vs:=(a7 (hj Y).list).toArray) U U T.wS (M.fact.1) U U) fun fr E=>?_;refine q9 (ob:=.cells #[_,_,_,_,_,_,_,_] 229) (fun g=>ai g 0) E M U U U U U (bT U T.zn) fun bQ fr w M E=>?_;refine sw (i:=0) (cs':=(a7 (hj Y).list).toArray) E M U U U U U (cB (vs:=(a7 (hj Y).list).toArray) U U U T.yT (rfl) (M.row (i:=0) U) (rfl) (by simp[a7,dW.list,Value.oneCell'])) U fun fr w M E=>?_;refine eY ?_;refine wp_seq ?_;refine wp_block ?_;refine cI (fun d fr w=>∃(k:Nat) (bv:Value),d=(jj Y).length-64*k/\64*k<=(jj Y).length/\Env [(6,ai bQ 0),(3,bv),(2,ai aZ 0)] 71 fr/\Mem w0 (aS []) [.bb bQ (.cells (a7 (fD k (hj Y) (jj Y)).list).toArray 229),.sub bv ((jj Y).drop (64*k)),.bb aZ (.cells (List.replicate 32 (Value.int .u8 0)).toArray 39)] (fun w'=>w'.heap[g]? =some (.cells (aJ (hj Y) aq (Y.length:Int)).toArray 231)/\Bytes w' aq (fl Y)/\w'.heap[0]? =some (.cells (a7 bt).toArray 243)) w) ((jj Y).length) ?_ ?_
     ·have M:=M.aH 2 rfl;have M:=M.aH 2 rfl;have M:=M.aH 2 rfl;exact⟨0,_,U,Nat.zero_le _,E.lL [2,3,6] rfl,M.wW 1 U⟩
     ·clear E M;rintro d fr w ⟨k,bv,rfl,hle,E,M⟩;by_cases kO:64*k<(jj Y).length
      all_goals have l3:=BM Y
      ·refine wp_seq ?_;refine eU ?_;refine cM E fun fr E=>?_;refine ca (v:=aa _) E (bx U U U U T.aG (M.gv 1 U)) fun fr E=>?_;refine ca (v:=.bool true) E (eZ U (decide_eq_true (by rw[List.length_drop];omega))) fun fr E=>?_;refine eY ?_;refine cond_true E U (rfl) ?_;refine wp_skip ?_;refine gV ?_;refine wp_seq ?_;refine wp_block ?_;refine(ii (B:=T.JE) (Vs:=(.af (.agg (a7 (fD k (hj Y) (jj Y)).list).toArray):: .af _:: .af _:: .af (.agg (a7 (fD (k+1) (hj Y) (jj Y)).list).toArray)::[])) T.XP 4 E T.mixed T.XO U U U (ej.e6 U) ⟨aC U U (fun x w ad ab=>cW U U T.wS ((M.aQ ad).row (i:=0) U) U),
   aw U U,
   aC U U (fun x w ad ab=>ew (lo:=0) (hi:=64) U ((M.aQ ad).gv 1 U) U T.aG T.bf (rfl) (⟨_,_,U,U⟩) aN (by rw[List.length_drop];omega)),
   cE U U (fun x w ad ab=>⟨_,_,U,U,U,ar U U T.FG,(ZB ((M.aQ ad).gv 1 U) ae (M.aQ ad).fact.2.2).ext⟩),ay⟩ ?_)
       intro x fr w ad ab E;have M:=M.ext ad;refine iq (i:=0) (cs':=(a7 (fD (k+1) (hj Y) (jj Y)).list).toArray) E M U U U U U U (cB (vs:=(a7 (fD (k+1) (hj Y) (jj Y)).list).toArray) U U U T.yT (rfl) (M.row (i:=0) U) (rfl) (by simp[a7,dW.list,Value.oneCell'])) U fun fr w M E=>?_;refine o8 ?_;refine gV ?_;refine lY ?_;refine cM E fun fr E=>?_;refine ca E (ew (lo:=64) (hi:=((jj Y).drop (64*k)).length) U (M.gv 1 U) U T.aG T.bf (⟨_,_,U,U⟩) (rfl) (by rw[List.length_drop];omega) (Nat.le_refl _)) fun fr E=>?_;refine iF E fun fr E=>?_;refine mc ?_;refine pV ?_;have M:=M.aH 2 rfl;have M:=M.aH 2 rfl;have M:=M.aH 2 rfl;have M:=M.rest 1 64 rfl (by rw[List.length_drop];omega);refine⟨(jj Y).length-64*(k+1),by omega,k+1,_,U,by omega,E.lL [2,3,6] rfl,M.as ?_⟩;rw[List.drop_drop];rfl
      ·obtain rfl:k=(jj Y).length/64:=by omega
       obtain⟨s,aP⟩:∃s,s=fD ((jj Y).length/64) (hj Y) (jj Y):=⟨_,rfl⟩
       rw[<-aP]at M;refine wp_seq ?_;refine eU ?_;refine cM E fun fr E=>?_;refine ca (v:=aa _) E (bx U U U U T.aG (M.gv 1 U)) fun fr E=>?_;refine ca (v:=.bool false) E (eZ U (decide_eq_false (by rw[List.length_drop];omega))) fun fr E=>?_;refine eY ?_;refine cond_false E U (rfl) ?_;refine wp_exit ?_;refine lA ?_;refine lA ?_;refine o7 ?_;refine gV ?_;refine eU ?_;refine q9 (ob:=.cells _ 39) (fun g=>ai g 0) E M U U U U U (bT U T.gH) fun cF fr w M E=>?_;refine eY ?_;refine wp_seq ?_;refine eU ?_;refine ca E (Ws U) fun fr E=>?_;refine eY ?_;refine wp_block ?_;refine cI (fun d fr w=>∃i:Nat,d=32-i/\i<=32/\Env [(54,aa (i:Int)),(7,ai cF 0),(6,ai bQ 0),(2,ai aZ 0)] 71 fr/\Mem w0 (aS []) [.bb cF (.cells (mF s i).toArray 39),.bb bQ (.cells (a7 s.list).toArray 229),.bb aZ (.cells (List.replicate 32 (Value.int .u8 0)).toArray 39)] (fun w'=>w'.heap[g]? =some (.cells (aJ (hj Y) aq (Y.length:Int)).toArray 231)/\Bytes w' aq (fl Y)/\w'.heap[0]? =some (.cells (a7 bt).toArray 243)) w) (32) ?_ ?_
       ·have M:=M.aH 3 rfl;have M:=M.aH 2 rfl;have M:=M.aH 2 rfl;exact⟨0,U,Nat.zero_le _,E.lL [2,6,7,54] rfl,M.sub (L':=[_,_,_]) (.cons_cons _ (.cons_cons _ (.cons_cons _ (List.nil_sublist _))))⟩
       ·clear E M;rintro d fr w ⟨i,rfl,hle,E,M⟩;by_cases hi:i<32
        ·refine eU ?_;refine ca (v:=.bool true) E (eZ U (decide_eq_true ae)) fun fr E=>?_;refine eY ?_;refine wp_seq ?_;refine cond_true E U (rfl) ?_;refine wp_skip ?_;refine gV ?_;refine wp_seq ?_;refine wp_block ?_;refine eU ?_;refine cM E fun fr E=>?_;refine iF E fun fr E=>?_;refine eY ?_;refine lY ?_;refine cM E fun fr E=>?_;refine cM E fun fr E=>?_;refine ca (v:=.int _ (((i/4:Nat):Int))) E (num U (vQ _ _ aN ae)) fun fr E=>?_;refine ca (v:=ai _ (0+(i/4)*1)) E (dm (i:=(i/4)) U U U (rfl) ae T.j0 T.dL) fun fr E=>?_;refine ca (v:=v32 (s.list.getD (i/4) 0)) E (aE U U T.eC (M.row (i:=1) U) (WA ae)) fun fr E=>?_;refine cM E fun fr E=>?_;refine ca (v:=.int _ (((i%4:Nat):Int))) E (num U (kb _ _)) fun fr E=>?_;refine ca (v:=.int _ (((8*(i%4):Nat):Int))) E (num U ((br ae ae).trans ae)) fun fr E=>?_;refine ca (v:=.int _ (((24-8*(i%4):Nat):Int))) E (num U ((br ae ae).trans ae)) fun fr E=>?_;refine ca (v:=v32 (s.list.getD (i/4) 0 >>>(24-8*(i%4)))) E (hV (q:=24-8*(i%4)) U U U (show 24-8*(i%4)<=32 by omega)) fun fr E=>?_;refine ca (v:=b1 (((s.list.getD (i/4) 0 >>>(24-8*(i%4)))).setWidth 8)) E (num U (EY _)) fun fr E=>?_;refine ca (v:=ai _ (0+i*1)) E (dm (i:=i) U U U (rfl) ae T.iB T.bf) fun fr E=>?_;refine sw (i:=0) (cs':=(mF s (i+1)).toArray) E M U U U U U (cy (v:=_) U U U T.bf (M.row (i:=0) U) (by rw[List.size_toArray,HX ae];simp;omega) (rfl) (congrArg List.toArray ((congrArg (fun k=>(mF s i).set k _) (show 0+i*1=i by omega)).trans (HY hi)))) U fun fr w M E=>?_;refine mc ?_;refine o8 ?_;refine gV ?_;refine lY ?_;refine ca (v:=.int _ (((i+1:Nat):Int))) E (num U ((br ae ae).trans ae)) fun fr E=>?_;refine cM E fun fr E=>?_;refine mc ?_;refine pV ?_;exact⟨32-(i+1),by omega,i+1,U,by omega,E.lL [2,6,7,54] rfl,M⟩
        ·obtain rfl:i=32:=by omega
         rw[HW]at M;refine eU ?_;refine ca (v:=.bool false) E (eZ U aN) fun fr E=>?_;refine eY ?_;refine wp_seq ?_;refine cond_false E U (rfl) ?_;refine wp_exit ?_;refine lA ?_;refine lA ?_;refine o7 ?_;refine gV ?_;refine eU ?_;refine ca (v:=.agg (ao (iu s)).toArray) E (cW U U T.gJ (M.row (i:=0) U) (by simp[iu])) fun fr E=>?_;refine sw (i:=2) (cs':=(ao (iu s)).toArray) E M U U U U U (cB (vs:=(ao (iu s)).toArray) U U U T.fF (by simp[iu]) (M.row (i:=2) U) (rfl) (by simpa using c0 (iu s))) U fun fr w M E=>?_;refine eY ?_;refine wp_ret ?_;refine gC E U U T.gJ (M.row (i:=2) U) (by simp[iu]) ?_;rw[aP,Xx];exact bX M
theorem Xe{b:Value}{l:List UInt8}{w0:World}(ak:Bytes w0 b l)(ab:w0.heap[0]? =some (.cells (a7 bt).toArray 243))(au:l.length<=1099511627776):bH prog 189 [b] w0 (.agg (ao (fy l)).toArray):=by
 refine enter (n:=10) func189 U U U ?_;intro fr E;have M:=Mem.begin (Φ:=fun w'=>Bytes w' b l/\w'.heap[0]? =some (.cells (a7 bt).toArray 243)) (Has.nil w0) (fun w' h=>⟨ak.bU h,fc ab h⟩);refine aV E<|bh (ob:=.cells _ 39) (fun g=>ai g 0) M 0 U (bT U T.gH) fun aZ w M=>cP M 0 U (ar U U T.Ax) (AW _) U fun xG w _ M=>bC (lm xG (.slice none 0 0) []) M 3 U (ar U U T.uS) U (fun H=>u3 H M.fact.1 (Mem.Ai (R:=[_]) M ak) M.fact.2 (Mem.s7 (R:=[_]) M ab) (by simpa using au)) fun aq w _ M=>bo M 1 U (ar U U T.Ay) (AY (Y:=[]++l) (M.row (i:=0) U) (M.bytes 1 U) M.fact.2 (by simp;omega)) fun w M=>bj (i:=2) (cs':=(ao (fy l)).toArray) M 0 U U (cB (vs:=(ao (fy l)).toArray) U U U T.fF (by simp[fy,iu]) (M.row (i:=2) U) (rfl) (by simpa using c0 (fy l))) U fun w M=>aU 0 U fun fr E=>?_;refine gC E U U T.gJ (M.row (i:=2) U) (by simp[fy,iu]) ?_;exact bX M
end
section
open Go.RowKit Go.a2 Go.Proofs Go.Proofs.Tryz
theorem _root_.Go.a2.Mem.HQ{w0 w:World}{O:Nat->Prop}{L:List az}{Φ:World->Prop}(M:Mem w0 O L Φ w)(e:TypeId):Mem w0 O (.row e 1 (.slice none 0 0) 0 []::L) Φ w:=
 M.jo (bd.refl w) _ (World.ownsRow_nil w 0 e 1) fun g al=>by simp[az.row,Value.ownBlock]at al
section
variable{bl:List UInt8}{t:Nat}
theorem W6(h:t<16):a7 (b0 bl t)++[v32 (qc bl t)]=a7 (b0 bl (t+1)):=by
 rw[b0,if_pos h];simp[a7]
theorem W5(h:16<=t)(an:t<64):a7 (b0 bl t)++[v32 ((cN ((b0 bl t).getD (t-2) 0) 17 ^^^ cN ((b0 bl t).getD (t-2) 0) 19 ^^^(b0 bl t).getD (t-2) 0 >>> 10)+(b0 bl t).getD (t-7) 0+(cN ((b0 bl t).getD (t-15) 0) 7 ^^^ cN ((b0 bl t).getD (t-15) 0) 18 ^^^(b0 bl t).getD (t-15) 0 >>> 3)+(b0 bl t).getD (t-16) 0)]=a7 (b0 bl (t+1)):=by
 rw[b0,if_neg ae,HP h];simp[a7]
theorem zd{l:List g8}{i:Nat}(h:i<l.length):(a7 l)[i*1]? =some (v32 (l.getD i 0)):=by
 rw[Nat.mul_one];simp only[a7,List.getElem?_map,List.getD_eq_getElem?_getD,List.getElem?_eq_getElem h];rfl
theorem wD{i:Nat}(h:i<t):(a7 (b0 bl t))[i*1]? =some (v32 ((b0 bl t).getD i 0)):=zd (by rw[tW];exact h)
end
theorem oJ{x:g8}{n:Nat}{w0:World}(h:n<=32):bH prog 219 [ab0 (n:Int),v32 x] w0 (v32 (cN x n)):=by
 refine enter (n:=13) func219 U U U ?_;intro fr E;have M:=ht (Has.nil w0);refine aV E<|ah (v:=v32 (0#32)) 0 U (hT U)<|ah 2 U (hV (q:=n) U U U h)<|a1 (y:=((32-n:Nat):Int)) 2 U U ((Lo _).trans ae)<|ah 0 U (fO (q:=32-n) U U U (show 32-n<=32 by omega) (q8 _ _))<|a1 0 U U (qZ _ _)<|aU 1 U fun fr E=>?_;refine bi E U U ?_;exact bX M
theorem Qh(w0:World):aY prog 208 [] w0 [] (fun s:Value=>s) (fun s=>[.row 227 1 s 8 (a7 dW.first.list)]) (fun _=>True):=by
 refine enter (n:=2) func208 U U U ?_;intro fr E;have M:=ht (Has.nil w0);refine aV E<|cv 1 U fun fr E=>?_;refine dM (sz:=1) (xs:=a7 dW.first.list) E M U U U U U (ev (us:=a7 dW.first.list) (vs:=a7 dW.first.list) U U U T.ft T.dL T.wG U U U U U) (rfl) (Nat.le_refl _) aN (rfl) fun o fr w M E=>?_;refine cw E<|aU 1 U fun fr E=>?_;refine bi E U U ?_;exact⟨_,U,M.fin (.refl _) trivial⟩
theorem aah{bv:Value}{bl:List UInt8}{w0:World}(ak:Bytes w0 bv bl)(aI:bl.length=64):aY prog 218 [bv] w0 [] (fun s:Value=>s) (fun o=>[.row 227 1 o 64 (a7 (b0 bl 64))]) (fun _=>True):=by
 refine enter (n:=99) func218 U U U ?_;intro fr E;have M:=Mem.begin (Φ:=fun w'=>Bytes w' bv bl) (Has.nil w0) (fun w' h=>ak.bU h);refine aV E<|bw 3 U fun fr E=>?_;refine cI (fun d fr w=>∃(t:Nat) (o:Value),d=16-t/\t<=16/\Env [(4,aa (t:Int)),(3,o),(0,bv)] 99 fr/\Mem w0 (aS []) [.row 227 1 o t (a7 (b0 bl t))] (fun w'=>Bytes w' bv bl) w) (16) ?_ ?_
 ·exact⟨0,_,U,by decide,E.lL [0,3,4] rfl,(M.HQ 227)⟩
 ·clear E M;rintro d fr w ⟨t,o,rfl,hle,E,M⟩;by_cases aM:t<16
  ·refine bA E<|bD 1 U U ae<|fun fr E=>?_;have M:Mem _ _ ([.row 227 1 o t (a7 (b0 bl t))]++_) _ _:=M;refine bN E<|bw 1 U fun fr E=>?_;refine(iQ (B:=T.J3) (Vs:=(.af _:: .af _:: .af _:: .af (.int _ (((4*t:Nat):Int))):: .af _:: .af _:: .af _:: .af _:: .af _:: .af _:: .af (.int _ (((4*t:Nat):Int))):: .af (.int _ (((4*t+1:Nat):Int))):: .af _:: .af _:: .af _:: .af _:: .af _:: .af _:: .af _:: .af (.int _ (((4*t:Nat):Int))):: .af (.int _ (((4*t+2:Nat):Int))):: .af _:: .af _:: .af _:: .af _:: .af _:: .af _:: .af _:: .af (.int _ (((4*t:Nat):Int))):: .af (.int _ (((4*t+3:Nat):Int))):: .af _:: .af _:: .af _:: .af _::nq w.heap.size 1 1 [v32 (qc bl t)]::cL w.heap.size ([.row 227 1 o t (a7 (b0 bl t))]) (fun v:Value=>v) ((fun bR:Value=>[az.row 227 1 bR (t+1) ((a7 (b0 bl t))++[v32 (qc bl t)])])) (fun _=>True)::cL w.heap.size ([.row 227 1 o t (a7 (b0 bl t))]) (fun v:Value=>v) ((fun bR:Value=>[az.row 227 1 bR (t+1) ((a7 (b0 bl t))++[v32 (qc bl t)])])) (fun _=>True)::[])) (fs (ga 35 ([.row 227 1 o t (a7 (b0 bl t))])) w.drew) T.Yx E T.mixed T.Yw U ?_ ⟨b5 U U M (fun i g h=>h.2),
   b5 U U M (fun i g h=>h.2),
   b5 U U M (fun i g h=>h.2),
   bY U U M (fun i g h=>h.2) (fun x w' aA aL ab=>num U ((br ae ae).trans ae)),
   bY U U M (fun i g h=>h.2) (fun x w' aA aL ab=>bL (i:=(4*t)) U aA.fact U U (rfl) ae T.aG T.bf),
   bY U U M (fun i g h=>h.2) (fun x w' aA aL ab=>b2 U aA.fact U T.cq (fS ae)),
   bY U U M (fun i g h=>h.2) (fun x w' aA aL ab=>num U (qi _)),
   bY U U M (fun i g h=>h.2) (fun x w' aA aL ab=>fO (q:=24) U U U aN (q8 _ 24)),
   b5 U U M (fun i g h=>h.2),
   b5 U U M (fun i g h=>h.2),
   bY U U M (fun i g h=>h.2) (fun x w' aA aL ab=>num U ((br ae ae).trans ae)),
   bY U U M (fun i g h=>h.2) (fun x w' aA aL ab=>num U ((br ae ae).trans ae)),
   bY U U M (fun i g h=>h.2) (fun x w' aA aL ab=>bL (i:=(4*t+1)) U aA.fact U U (rfl) ae T.aG T.bf),
   bY U U M (fun i g h=>h.2) (fun x w' aA aL ab=>b2 U aA.fact U T.cq (fS ae)),
   bY U U M (fun i g h=>h.2) (fun x w' aA aL ab=>num U (qi _)),
   bY U U M (fun i g h=>h.2) (fun x w' aA aL ab=>fO (q:=16) U U U aN (q8 _ 16)),
   bY U U M (fun i g h=>h.2) (fun x w' aA aL ab=>num U (qZ _ _)),
   b5 U U M (fun i g h=>h.2),
   b5 U U M (fun i g h=>h.2),
   bY U U M (fun i g h=>h.2) (fun x w' aA aL ab=>num U ((br ae ae).trans ae)),
   bY U U M (fun i g h=>h.2) (fun x w' aA aL ab=>num U ((br ae ae).trans ae)),
   bY U U M (fun i g h=>h.2) (fun x w' aA aL ab=>bL (i:=(4*t+2)) U aA.fact U U (rfl) ae T.aG T.bf),
   bY U U M (fun i g h=>h.2) (fun x w' aA aL ab=>b2 U aA.fact U T.cq (fS ae)),
   bY U U M (fun i g h=>h.2) (fun x w' aA aL ab=>num U (qi _)),
   bY U U M (fun i g h=>h.2) (fun x w' aA aL ab=>fO (q:=8) U U U aN (q8 _ 8)),
   bY U U M (fun i g h=>h.2) (fun x w' aA aL ab=>num U (qZ _ _)),
   b5 U U M (fun i g h=>h.2),
   b5 U U M (fun i g h=>h.2),
   bY U U M (fun i g h=>h.2) (fun x w' aA aL ab=>num U ((br ae ae).trans ae)),
   bY U U M (fun i g h=>h.2) (fun x w' aA aL ab=>num U ((br ae ae).trans ae)),
   bY U U M (fun i g h=>h.2) (fun x w' aA aL ab=>bL (i:=(4*t+3)) U aA.fact U U (rfl) ae T.aG T.bf),
   bY U U M (fun i g h=>h.2) (fun x w' aA aL ab=>b2 U aA.fact U T.cq (fS ae)),
   bY U U M (fun i g h=>h.2) (fun x w' aA aL ab=>num U (qi _)),
   bY U U M (fun i g h=>h.2) (fun x w' aA aL ab=>num U (qZ _ _)),
   kK rfl rfl M (fun i g h=>h.2) (fun x w' aA aL ab=>⟨rfl,rfl,rfl,qd (vs:=[v32 (qc bl t)]) aL rfl rfl rfl T.ft T.dL T.wG rfl (by intro u hu;obtain rfl:=List.mem_singleton.1 hu;rfl) rfl rfl⟩),
   m0 (y:=undef) rfl rfl M rfl rfl rfl T.ft T.ft T.zq T.w6 aN (by intro u hu;obtain rfl:=List.mem_singleton.1 hu;rfl) ae (fun x w' ab=>⟨rfl,rfl,rfl,rfl,_,rfl,(ab 34 rfl).1⟩),
   lZ (j:=35) rfl rfl rfl rfl (fun x w y bn=>⟨rfl,rfl,rfl,ku rfl bn⟩),ay⟩ ?_)
   ·exact hJ U ((aK (aK (aK (aK (aK (aK (aK (aK (aK (aK (aK (aK (aK (aK (aK (aK (aK (aK (aK (aK (aK (aK (aK (aK (aK (aK (aK (aK (aK (aK (aK (aK (aK (aK (jq (cJ.oD (fun g h=>M.gA g h)) (fK U cJ.fJ (fK U cJ.fJ hH))))))))))))))))))))))))))))))))))))))
   intro x fr w ⟨b,ak,cX⟩ ab E;obtain⟨vL,bn, -,M⟩:=M.behind (val:=fun v:Value=>v) (outs:=(fun bR:Value=>[az.row 227 1 bR (t+1) ((a7 (b0 bl t))++[v32 (qc bl t)])])) (p:=fun _=>True) cX (ab 36 aN);have E:=Env.gD (t:=3) E rfl bn;refine cm E<|a1 (y:=((t+1:Nat):Int)) 1 U U ((br ae ae).trans ae)<|ct 1 U fun fr E=>?_;exact⟨16-(t+1),by omega,t+1,_,U,by omega,E.lL [0,3,4] rfl,M.as (by rw[W6 aM];rfl)⟩
  ·obtain rfl:t=16:=by omega
   refine bA E<|ch 1 U U aN<|bw 2 U fun fr E=>?_;refine cI (fun d fr w=>∃(t:Nat) (o:Value),d=64-t/\16<=t/\t<=64/\Env [(5,aa (t:Int)),(3,o),(0,bv)] 99 fr/\Mem w0 (aS []) [.row 227 1 o t (a7 (b0 bl t))] (fun w'=>Bytes w' bv bl) w) (48) ?_ ?_
   ·exact⟨16,_,U,by decide,by decide,E.lL [0,3,5] rfl,M⟩
   ·clear E M;rintro d fr w ⟨t,o,rfl,rP,hle,E,M⟩;by_cases aM:t<64
    ·refine bA E<|bD 1 U U ae<|a1 (y:=((t-2:Nat):Int)) 3 U U ((br ae ae).trans ae)<|ah 0 U (bL (i:=(t-2)) U (M.reads 0 U) U U (rfl) ae T.ft T.dL)<|ah (v:=v32 ((b0 bl t).getD (t-2) 0)) 0 U (b2 U (M.reads 0 U) U T.eC (wD ae))<|a1 (y:=((t-15:Nat):Int)) 3 U U ((br ae ae).trans ae)<|ah 0 U (bL (i:=(t-15)) U (M.reads 0 U) U U (rfl) ae T.ft T.dL)<|ah (v:=v32 ((b0 bl t).getD (t-15) 0)) 0 U (b2 U (M.reads 0 U) U T.eC (wD ae))<|bo M 2 U (ar U U T.oo) (oJ (n:=17) aN) fun w M=>bo M 1 U (ar U U T.oo) (oJ (n:=19) aN) fun w M=>a1 0 U U (jl _ _)<|ah 1 U (hV (q:=10) U U U aN)<|a1 0 U U (jl _ _)<|bo M 2 U (ar U U T.oo) (oJ (n:=7) aN) fun w M=>bo M 1 U (ar U U T.oo) (oJ (n:=18) aN) fun w M=>a1 0 U U (jl _ _)<|ah 1 U (hV (q:=3) U U U aN)<|a1 0 U U (jl _ _)<|fun fr E=>?_;have M:Mem _ _ ([.row 227 1 o t (a7 (b0 bl t))]++_) _ _:=M;refine bN E<|bw 1 U fun fr E=>?_;refine(iQ (B:=T.CO) (Vs:=(.af _:: .af _:: .af _:: .af _:: .af (.int _ (((t-7:Nat):Int))):: .af _:: .af _:: .af _:: .af _:: .af _:: .af _:: .af _:: .af (.int _ (((t-16:Nat):Int))):: .af _:: .af _:: .af _::nq w.heap.size 1 1 [v32 ((cN ((b0 bl t).getD (t-2) 0) 17 ^^^ cN ((b0 bl t).getD (t-2) 0) 19 ^^^((b0 bl t).getD (t-2) 0)>>> 10)+(b0 bl t).getD (t-7) 0+(cN ((b0 bl t).getD (t-15) 0) 7 ^^^ cN ((b0 bl t).getD (t-15) 0) 18 ^^^((b0 bl t).getD (t-15) 0)>>> 3)+(b0 bl t).getD (t-16) 0)]::cL w.heap.size ([.row 227 1 o t (a7 (b0 bl t))]) (fun v:Value=>v) ((fun bR:Value=>[az.row 227 1 bR (t+1) ((a7 (b0 bl t))++[v32 ((cN ((b0 bl t).getD (t-2) 0) 17 ^^^ cN ((b0 bl t).getD (t-2) 0) 19 ^^^((b0 bl t).getD (t-2) 0)>>> 10)+(b0 bl t).getD (t-7) 0+(cN ((b0 bl t).getD (t-15) 0) 7 ^^^ cN ((b0 bl t).getD (t-15) 0) 18 ^^^((b0 bl t).getD (t-15) 0)>>> 3)+(b0 bl t).getD (t-16) 0)])])) (fun _=>True)::cL w.heap.size ([.row 227 1 o t (a7 (b0 bl t))]) (fun v:Value=>v) ((fun bR:Value=>[az.row 227 1 bR (t+1) ((a7 (b0 bl t))++[v32 ((cN ((b0 bl t).getD (t-2) 0) 17 ^^^ cN ((b0 bl t).getD (t-2) 0) 19 ^^^((b0 bl t).getD (t-2) 0)>>> 10)+(b0 bl t).getD (t-7) 0+(cN ((b0 bl t).getD (t-15) 0) 7 ^^^ cN ((b0 bl t).getD (t-15) 0) 18 ^^^((b0 bl t).getD (t-15) 0)>>> 3)+(b0 bl t).getD (t-16) 0)])])) (fun _=>True)::[])) (pJ T.CO 19 (ga 17 ([.row 227 1 o t (a7 (b0 bl t))])) w.drew) T.Yv E T.mixed T.Yu U ?_ ⟨ci (c:=17) U U M U U (fun x w' aA aL ab=>⟨_,_,U,U,U,run_move U U,bd.refl _,U⟩),
   ci (c:=17) U U M U U (fun x w' aA aL ab=>⟨_,_,U,U,U,run_move U U,bd.refl _,U⟩),
   ci (c:=17) U U M U U (fun x w' aA aL ab=>⟨_,_,U,U,U,run_move U U,bd.refl _,U⟩),
   ci (c:=17) U U M U U (fun x w' aA aL ab=>⟨_,_,U,U,U,run_move U U,bd.refl _,U⟩),
   ci (c:=17) U U M U U (fun x w' aA aL ab=>⟨_,_,U,U,U,num U ((br ae ae).trans ae),bd.refl _,U⟩),
   ci (c:=17) U U M U U (fun x w' aA aL ab=>⟨_,_,U,U,U,bL (i:=(t-7)) U (aA.reads 0 U) U U (rfl) ae T.ft T.dL,bd.refl _,U⟩),
   ci (c:=17) U U M U U (fun x w' aA aL ab=>⟨_,_,U,U,U,b2 U (aA.reads 0 U) U T.eC (wD ae),bd.refl _,U⟩),
   ci (c:=17) U U M U U (fun x w' aA aL ab=>⟨_,_,U,U,U,num U (hF _ _),bd.refl _,U⟩),
   ci (c:=17) U U M U U (fun x w' aA aL ab=>⟨_,_,U,U,U,run_move U U,bd.refl _,U⟩),
   ci (c:=17) U U M U U (fun x w' aA aL ab=>⟨_,_,U,U,U,num U (hF _ _),bd.refl _,U⟩),
   ci (c:=17) U U M U U (fun x w' aA aL ab=>⟨_,_,U,U,U,run_move U U,bd.refl _,U⟩),
   ci (c:=17) U U M U U (fun x w' aA aL ab=>⟨_,_,U,U,U,run_move U U,bd.refl _,U⟩),
   ci (c:=17) U U M U U (fun x w' aA aL ab=>⟨_,_,U,U,U,num U ((br ae ae).trans ae),bd.refl _,U⟩),
   ci (c:=17) U U M U U (fun x w' aA aL ab=>⟨_,_,U,U,U,bL (i:=(t-16)) U (aA.reads 0 U) U U (rfl) ae T.ft T.dL,bd.refl _,U⟩),
   ci (c:=17) U U M U U (fun x w' aA aL ab=>⟨_,_,U,U,U,b2 U (aA.reads 0 U) U T.eC (wD ae),bd.refl _,U⟩),
   ci (c:=17) U U M U U (fun x w' aA aL ab=>⟨_,_,U,U,U,num U (hF _ _),bd.refl _,U⟩),
   hM (kK rfl rfl M (fun i g h=>h.2) (fun x w' aA aL ab=>⟨rfl,rfl,rfl,qd (vs:=[v32 ((cN ((b0 bl t).getD (t-2) 0) 17 ^^^ cN ((b0 bl t).getD (t-2) 0) 19 ^^^((b0 bl t).getD (t-2) 0)>>> 10)+(b0 bl t).getD (t-7) 0+(cN ((b0 bl t).getD (t-15) 0) 7 ^^^ cN ((b0 bl t).getD (t-15) 0) 18 ^^^((b0 bl t).getD (t-15) 0)>>> 3)+(b0 bl t).getD (t-16) 0)]) aL rfl rfl rfl T.ft T.dL T.wG rfl (by intro u hu;obtain rfl:=List.mem_singleton.1 hu;rfl) rfl rfl⟩)),
   hM (m0 (y:=undef) rfl rfl M rfl rfl rfl T.ft T.ft T.zq T.w6 aN (by intro u hu;obtain rfl:=List.mem_singleton.1 hu;rfl) ae (fun x w' ab=>⟨rfl,rfl,rfl,rfl,_,rfl,(ab 16 rfl).1⟩)),
   hM (lZ (j:=17) rfl rfl rfl rfl (fun x w y bn=>⟨rfl,rfl,rfl,ku rfl bn⟩)),ay⟩ ?_)
     ·exact tF (hJ U ((aK (aK (aK (aK (aK (aK (aK (aK (aK (aK (aK (aK (aK (aK (aK (aK (jq (cJ.oD (fun g h=>M.gA g h)) (fK U cJ.fJ (fK U cJ.fJ hH)))))))))))))))))))))
     intro x fr w ⟨b,ak,cX⟩ ab E;obtain⟨vL,bn, -,M⟩:=M.behind (val:=fun v:Value=>v) (outs:=(fun bR:Value=>[az.row 227 1 bR (t+1) ((a7 (b0 bl t))++[v32 ((cN ((b0 bl t).getD (t-2) 0) 17 ^^^ cN ((b0 bl t).getD (t-2) 0) 19 ^^^((b0 bl t).getD (t-2) 0)>>> 10)+(b0 bl t).getD (t-7) 0+(cN ((b0 bl t).getD (t-15) 0) 7 ^^^ cN ((b0 bl t).getD (t-15) 0) 18 ^^^((b0 bl t).getD (t-15) 0)>>> 3)+(b0 bl t).getD (t-16) 0)])])) (p:=fun _=>True) cX (ab 18 aN);have E:=Env.gD (t:=3) E rfl bn;refine cm E<|a1 (y:=((t+1:Nat):Int)) 1 U U ((br ae ae).trans ae)<|ct 1 U fun fr E=>?_;exact⟨64-(t+1),by omega,t+1,_,U,by omega,by omega,E.lL [0,3,5] rfl,M.as (by rw[W5 rP aM];rfl)⟩
    ·obtain rfl:t=64:=by omega
     refine bA E<|ch 1 U U aN<|aU 3 U fun fr E=>?_;refine bi E U U ?_;exact⟨_,U,M.fin (.refl _) trivial⟩
end
section
open Go.RowKit Go.a2 Go.Proofs Go.Proofs.Tryz
theorem Xs(R:dW)(k w:g8): [v32 (R.t1 k w+(cN R.a 2 ^^^ cN R.a 13 ^^^ cN R.a 22)+(R.a &&& R.b ^^^ R.a &&& R.c ^^^ R.b &&& R.c)),v32 R.a,v32 R.b,v32 R.c,v32 (R.d+R.t1 k w),v32 R.e,v32 R.f,v32 R.g]=a7 (R.step k w).list:=by
 rw[BitVec.add_assoc (R.t1 k w)];rfl
theorem Oa{s R:dW}{i:Nat}(h:i<8):(s.add R).list.getD i 0=s.list.getD i 0+R.list.getD i 0:=by
 match i,h with
 |0,_|1,_|2,_|3,_|4,_|5,_|6,_|7,_=>rfl
theorem Oc{s R:dW}{i:Nat}(h:i<8):a7 ((s.add R).list.take i)++[v32 (s.list.getD i 0+R.list.getD i 0)]=a7 ((s.add R).list.take (i+1)):=by
 rw[<-Oa h];have aI:i<(s.add R).list.length:=h;rw[List.take_succ_eq_append_getElem aI,List.getD_eq_getElem?_getD,List.getElem?_eq_getElem aI];simp only[a7,List.map_append,List.map_cons,List.map_nil,Option.getD_some]
theorem Ia(n:Nat):fU n<64/\(n+1+fU n)%64=56:=by unfold fU;omega
theorem UZ{n z:Nat}(h:z<fU n):¬(n+1+z)%64=56:=by unfold fU at h;omega
theorem I9(l:List UInt8):(jH l).length%64=0/\(jH l).length<=l.length+73:=by
 rw[Ja];have:=Ia l.length;omega
set_option maxHeartbeats 1000000 in
theorem Zw{s:dW}{e5 bv:Value}{bl:List UInt8}{w0:World}(aP:Reads 1 w0 e5 8 (a7 s.list))(ak:Bytes w0 bv bl)(aI:bl.length=64)(ab:w0.heap[1]? =some (.cells (a7 bt).toArray 243)):aY prog 209 [e5,bv] w0 [] (fun s:Value=>s) (fun o=>[.row 227 1 o 8 (a7 (s.take bl).list)]) (fun _=>True):=by
 refine enter (n:=153) func209 U U U ?_;intro fr E;have M:=Mem.begin (Φ:=fun w'=>Reads 1 w' e5 8 (a7 s.list)/\Bytes w' bv bl/\w'.heap[1]? =some (.cells (a7 bt).toArray 243)) (Has.nil w0) (fun w' h=>⟨aP.bU h,ak.bU h,fc ab h⟩);refine aV E<|cP M 2 U (ar U U T.QR) (aah M.fact.2.1 aI) U fun gg w _ M=>cv 1 U fun fr E=>?_;refine dM (sz:=1) (xs:=[]) E M U U U U U (lP U T.ft U) (rfl) (Nat.le_refl _) aN (rfl) fun x fr w M E=>?_;refine cw E<|cv 1 U fun fr E=>?_;refine oM (i:=0) E M U U U U U U U U U U U T.ft T.ft T.zq T.w6 aN (M.fact.1) (Z9 _) ae fun x fr w M E=>?_;refine cw E<|bw 2 U fun fr E=>?_;refine cI (fun d fr w=>∃(t:Nat) (x:Value),d=64-t/\t<=64/\Env [(7,aa (t:Int)),(6,x),(5,gg),(0,e5)] 153 fr/\Mem w0 (aS []) [.row 227 1 x 8 (a7 (s.rounds bl t).list),.row 227 1 gg 64 (a7 (b0 bl 64))] (fun w'=>Reads 1 w' e5 8 (a7 s.list)/\Bytes w' bv bl/\w'.heap[1]? =some (.cells (a7 bt).toArray 243)) w) (64) ?_ ?_
 ·have M:=M.aH 1 rfl;have M:=M.aH 1 rfl;exact⟨0,_,U,by decide,E.lL [0,5,6,7] rfl,M⟩
 ·clear E M;rintro d fr w ⟨t,x,rfl,hle,E,M⟩;by_cases aM:t<64
  ·refine bA E<|bD 1 U U ae<|bw 1 U fun fr E=>?_;refine(dR (B:=T.JZ) (Vs:=(.af _:: .af _:: .af _:: .af _:: .af _:: .af _:: .af _:: .af _:: .af _:: .af _:: .af _:: .af _:: .af _:: .af _:: .af _::[])) T.Yn E T.mixed T.Ym U (ej.e6 U) ⟨aw U U,
   aC U U (fun x w ad ab=>bL (i:=4) U ((M.aQ ad).reads 0 U) U U (rfl) aN T.ft T.dL),
   aC U U (fun x w ad ab=>b2 U ((M.aQ ad).reads 0 U) U T.eC (rfl)),
   cE U U (fun x w ad ab=>⟨_,_,U,U,U,ar U U T.oo,(oJ (n:=6) aN).ext⟩),
   aw U U,
   aC U U (fun x w ad ab=>bL (i:=4) U ((M.aQ ad).reads 0 U) U U (rfl) aN T.ft T.dL),
   aC U U (fun x w ad ab=>b2 U ((M.aQ ad).reads 0 U) U T.eC (rfl)),
   cE U U (fun x w ad ab=>⟨_,_,U,U,U,ar U U T.oo,(oJ (n:=11) aN).ext⟩),
   aC U U (fun x w ad ab=>num U (jl _ _)),
   aw U U,
   aC U U (fun x w ad ab=>bL (i:=4) U ((M.aQ ad).reads 0 U) U U (rfl) aN T.ft T.dL),
   aC U U (fun x w ad ab=>b2 U ((M.aQ ad).reads 0 U) U T.eC (rfl)),
   cE U U (fun x w ad ab=>⟨_,_,U,U,U,ar U U T.oo,(oJ (n:=25) aN).ext⟩),
   aC U U (fun x w ad ab=>num U (jl _ _)),
   aw U U,ay⟩ ?_)
   intro x fr w ad ab E;have M:=M.ext ad;refine cm E<|bw 0 U fun fr E=>?_;refine(dR (B:=T.J0) (Vs:=(.af _:: .af _:: .af _:: .af _:: .af _:: .af _:: .af _:: .af _:: .af _:: .af _:: .af _:: .af _:: .af _:: .af _:: .af _:: .af _:: .af _::[])) T.Yp E T.mixed T.Yo U (ej.e6 U) ⟨aw U U,
   aC U U (fun x w ad ab=>bL (i:=4) U ((M.aQ ad).reads 0 U) U U (rfl) aN T.ft T.dL),
   aC U U (fun x w ad ab=>b2 U ((M.aQ ad).reads 0 U) U T.eC (rfl)),
   aw U U,
   aC U U (fun x w ad ab=>bL (i:=5) U ((M.aQ ad).reads 0 U) U U (rfl) aN T.ft T.dL),
   aC U U (fun x w ad ab=>b2 U ((M.aQ ad).reads 0 U) U T.eC (rfl)),
   aC U U (fun x w ad ab=>num U (n3 _ _)),
   aw U U,
   aC U U (fun x w ad ab=>bL (i:=4) U ((M.aQ ad).reads 0 U) U U (rfl) aN T.ft T.dL),
   aC U U (fun x w ad ab=>b2 U ((M.aQ ad).reads 0 U) U T.eC (rfl)),
   aC U U (fun x w ad ab=>num U (HR _)),
   aw U U,
   aC U U (fun x w ad ab=>bL (i:=6) U ((M.aQ ad).reads 0 U) U U (rfl) aN T.ft T.dL),
   aC U U (fun x w ad ab=>b2 U ((M.aQ ad).reads 0 U) U T.eC (rfl)),
   aC U U (fun x w ad ab=>num U (n3 _ _)),
   aC U U (fun x w ad ab=>num U (jl _ _)),
   aw U U,ay⟩ ?_)
   intro x fr w ad ab E;have M:=M.ext ad;refine cm E<|bw 0 U fun fr E=>?_;refine(dR (B:=T.J1) (Vs:=(.af _:: .af _:: .af _:: .af _:: .af _:: .af _:: .af _:: .af _:: .af (ai _ (0+t*1)):: .af _:: .af _:: .af _:: .af _:: .af _:: .af _:: .af _:: .af _::[])) T.Yr E T.mixed T.Yq U (ej.e6 U) ⟨aw U U,
   aC U U (fun x w ad ab=>bL (i:=7) U ((M.aQ ad).reads 0 U) U U (rfl) aN T.ft T.dL),
   aC U U (fun x w ad ab=>b2 U ((M.aQ ad).reads 0 U) U T.eC (rfl)),
   aw U U,
   aC U U (fun x w ad ab=>num U (hF _ _)),
   aw U U,
   aC U U (fun x w ad ab=>num U (hF _ _)),
   aw U U,
   aC U U (fun x w ad ab=>dm (i:=t) U U U (rfl) ae T.o5 T.dL),
   aC U U (fun x w ad ab=>aE U U T.eC (M.aQ ad).fact.2.2 (by rw[Nat.zero_add,Nat.mul_one];exact Ha aM)),
   aC U U (fun x w ad ab=>num U (hF _ _)),
   aw U U,
   aw U U,
   aC U U (fun x w ad ab=>bL (i:=t) U ((M.aQ ad).reads 1 U) U U (rfl) (aM) T.ft T.dL),
   aC U U (fun x w ad ab=>b2 U ((M.aQ ad).reads 1 U) U T.eC (wD aM)),
   aC U U (fun x w ad ab=>num U (hF _ _)),
   aw U U,ay⟩ ?_)
   intro x fr w ad ab E;have M:=M.ext ad;refine cm E<|bw 0 U fun fr E=>?_;refine(dR (B:=T.J2) (Vs:=(.af _:: .af _:: .af _:: .af _:: .af _:: .af _:: .af _:: .af _:: .af _:: .af _:: .af _:: .af _:: .af _:: .af _:: .af _::[])) T.Yt E T.mixed T.Ys U (ej.e6 U) ⟨aw U U,
   aC U U (fun x w ad ab=>bL (i:=0) U ((M.aQ ad).reads 0 U) U U (rfl) aN T.ft T.dL),
   aC U U (fun x w ad ab=>b2 U ((M.aQ ad).reads 0 U) U T.eC (rfl)),
   cE U U (fun x w ad ab=>⟨_,_,U,U,U,ar U U T.oo,(oJ (n:=2) aN).ext⟩),
   aw U U,
   aC U U (fun x w ad ab=>bL (i:=0) U ((M.aQ ad).reads 0 U) U U (rfl) aN T.ft T.dL),
   aC U U (fun x w ad ab=>b2 U ((M.aQ ad).reads 0 U) U T.eC (rfl)),
   cE U U (fun x w ad ab=>⟨_,_,U,U,U,ar U U T.oo,(oJ (n:=13) aN).ext⟩),
   aC U U (fun x w ad ab=>num U (jl _ _)),
   aw U U,
   aC U U (fun x w ad ab=>bL (i:=0) U ((M.aQ ad).reads 0 U) U U (rfl) aN T.ft T.dL),
   aC U U (fun x w ad ab=>b2 U ((M.aQ ad).reads 0 U) U T.eC (rfl)),
   cE U U (fun x w ad ab=>⟨_,_,U,U,U,ar U U T.oo,(oJ (n:=22) aN).ext⟩),
   aC U U (fun x w ad ab=>num U (jl _ _)),
   aw U U,ay⟩ ?_)
   intro x fr w ad ab E;have M:=M.ext ad;refine cm E<|bw 0 U fun fr E=>?_;refine(dR (B:=T.JW) (Vs:=(.af _:: .af _:: .af _:: .af _:: .af _:: .af _:: .af _:: .af _:: .af _:: .af _:: .af _:: .af _:: .af _:: .af _:: .af _:: .af _:: .af _:: .af _:: .af _:: .af _:: .af _:: .af _:: .af _:: .af _::[])) T.Yh E T.mixed T.Yg U (ej.e6 U) ⟨aw U U,
   aC U U (fun x w ad ab=>bL (i:=0) U ((M.aQ ad).reads 0 U) U U (rfl) aN T.ft T.dL),
   aC U U (fun x w ad ab=>b2 U ((M.aQ ad).reads 0 U) U T.eC (rfl)),
   aw U U,
   aC U U (fun x w ad ab=>bL (i:=1) U ((M.aQ ad).reads 0 U) U U (rfl) aN T.ft T.dL),
   aC U U (fun x w ad ab=>b2 U ((M.aQ ad).reads 0 U) U T.eC (rfl)),
   aC U U (fun x w ad ab=>num U (n3 _ _)),
   aw U U,
   aC U U (fun x w ad ab=>bL (i:=0) U ((M.aQ ad).reads 0 U) U U (rfl) aN T.ft T.dL),
   aC U U (fun x w ad ab=>b2 U ((M.aQ ad).reads 0 U) U T.eC (rfl)),
   aw U U,
   aC U U (fun x w ad ab=>bL (i:=2) U ((M.aQ ad).reads 0 U) U U (rfl) aN T.ft T.dL),
   aC U U (fun x w ad ab=>b2 U ((M.aQ ad).reads 0 U) U T.eC (rfl)),
   aC U U (fun x w ad ab=>num U (n3 _ _)),
   aC U U (fun x w ad ab=>num U (jl _ _)),
   aw U U,
   aC U U (fun x w ad ab=>bL (i:=1) U ((M.aQ ad).reads 0 U) U U (rfl) aN T.ft T.dL),
   aC U U (fun x w ad ab=>b2 U ((M.aQ ad).reads 0 U) U T.eC (rfl)),
   aw U U,
   aC U U (fun x w ad ab=>bL (i:=2) U ((M.aQ ad).reads 0 U) U U (rfl) aN T.ft T.dL),
   aC U U (fun x w ad ab=>b2 U ((M.aQ ad).reads 0 U) U T.eC (rfl)),
   aC U U (fun x w ad ab=>num U (n3 _ _)),
   aC U U (fun x w ad ab=>num U (jl _ _)),
   aw U U,ay⟩ ?_)
   intro x fr w ad ab E;have M:=M.ext ad;refine cm E<|bw 0 U fun fr E=>?_;refine(dR (B:=T.JX) (Vs:=(.af _:: .af _:: .af _:: .af _:: .af _:: .af _:: .af _:: .af _:: .af _:: .af _:: .af _:: .af _:: .af _:: .af _:: .af _:: .af _:: .af _:: .af _:: .af _:: .af _:: .af _:: .af _:: .af _:: .af _:: .af _:: .af _:: .af _:: .af _::cV w.heap.size (fun v:Value=>[az.row 227 1 v 8 [v32 (((s.rounds bl t).t1 (bt.getD t 0) ((b0 bl 64).getD t 0))+(cN (s.rounds bl t).a 2 ^^^ cN (s.rounds bl t).a 13 ^^^ cN (s.rounds bl t).a 22)+((s.rounds bl t).a &&&(s.rounds bl t).b ^^^(s.rounds bl t).a &&&(s.rounds bl t).c ^^^(s.rounds bl t).b &&&(s.rounds bl t).c)),v32 (s.rounds bl t).a,v32 (s.rounds bl t).b,v32 (s.rounds bl t).c,v32 ((s.rounds bl t).d+((s.rounds bl t).t1 (bt.getD t 0) ((b0 bl 64).getD t 0))),v32 (s.rounds bl t).e,v32 (s.rounds bl t).f,v32 (s.rounds bl t).g]]) (fun _=>True)::cV w.heap.size (fun v:Value=>[az.row 227 1 v 8 [v32 (((s.rounds bl t).t1 (bt.getD t 0) ((b0 bl 64).getD t 0))+(cN (s.rounds bl t).a 2 ^^^ cN (s.rounds bl t).a 13 ^^^ cN (s.rounds bl t).a 22)+((s.rounds bl t).a &&&(s.rounds bl t).b ^^^(s.rounds bl t).a &&&(s.rounds bl t).c ^^^(s.rounds bl t).b &&&(s.rounds bl t).c)),v32 (s.rounds bl t).a,v32 (s.rounds bl t).b,v32 (s.rounds bl t).c,v32 ((s.rounds bl t).d+((s.rounds bl t).t1 (bt.getD t 0) ((b0 bl 64).getD t 0))),v32 (s.rounds bl t).e,v32 (s.rounds bl t).f,v32 (s.rounds bl t).g]]) (fun _=>True)::[])) T.Yj E T.mixed T.Yi U (fH.dF ⟨ay,ay,ay,ay,ay,ay,ay,ay,ay,ay,ay,ay,ay,ay,ay,ay,ay,ay,ay,ay,ay,ay,ay,ay,ay,ay,ay,ay,cn.df,cn.df,ay⟩) ⟨aw U U,
   aw U U,
   aC U U (fun x w ad ab=>num U (hF _ _)),
   aw U U,
   aC U U (fun x w ad ab=>num U (hF _ _)),
   aw U U,
   aC U U (fun x w ad ab=>bL (i:=0) U ((M.aQ ad).reads 0 U) U U (rfl) aN T.ft T.dL),
   aC U U (fun x w ad ab=>b2 U ((M.aQ ad).reads 0 U) U T.eC (rfl)),
   aw U U,
   aC U U (fun x w ad ab=>bL (i:=1) U ((M.aQ ad).reads 0 U) U U (rfl) aN T.ft T.dL),
   aC U U (fun x w ad ab=>b2 U ((M.aQ ad).reads 0 U) U T.eC (rfl)),
   aw U U,
   aC U U (fun x w ad ab=>bL (i:=2) U ((M.aQ ad).reads 0 U) U U (rfl) aN T.ft T.dL),
   aC U U (fun x w ad ab=>b2 U ((M.aQ ad).reads 0 U) U T.eC (rfl)),
   aw U U,
   aC U U (fun x w ad ab=>bL (i:=3) U ((M.aQ ad).reads 0 U) U U (rfl) aN T.ft T.dL),
   aC U U (fun x w ad ab=>b2 U ((M.aQ ad).reads 0 U) U T.eC (rfl)),
   aw U U,
   aC U U (fun x w ad ab=>num U (hF _ _)),
   aw U U,
   aC U U (fun x w ad ab=>bL (i:=4) U ((M.aQ ad).reads 0 U) U U (rfl) aN T.ft T.dL),
   aC U U (fun x w ad ab=>b2 U ((M.aQ ad).reads 0 U) U T.eC (rfl)),
   aw U U,
   aC U U (fun x w ad ab=>bL (i:=5) U ((M.aQ ad).reads 0 U) U U (rfl) aN T.ft T.dL),
   aC U U (fun x w ad ab=>b2 U ((M.aQ ad).reads 0 U) U T.eC (rfl)),
   aw U U,
   aC U U (fun x w ad ab=>bL (i:=6) U ((M.aQ ad).reads 0 U) U U (rfl) aN T.ft T.dL),
   aC U U (fun x w ad ab=>b2 U ((M.aQ ad).reads 0 U) U T.eC (rfl)),
   h3 rfl rfl (fun x pX ad ab=>⟨rfl,rfl,rfl,uI (vs:=[v32 (((s.rounds bl t).t1 (bt.getD t 0) ((b0 bl 64).getD t 0))+(cN (s.rounds bl t).a 2 ^^^ cN (s.rounds bl t).a 13 ^^^ cN (s.rounds bl t).a 22)+((s.rounds bl t).a &&&(s.rounds bl t).b ^^^(s.rounds bl t).a &&&(s.rounds bl t).c ^^^(s.rounds bl t).b &&&(s.rounds bl t).c)),v32 (s.rounds bl t).a,v32 (s.rounds bl t).b,v32 (s.rounds bl t).c,v32 ((s.rounds bl t).d+((s.rounds bl t).t1 (bt.getD t 0) ((b0 bl 64).getD t 0))),v32 (s.rounds bl t).e,v32 (s.rounds bl t).f,v32 (s.rounds bl t).g]) ad.size rfl rfl rfl T.ft T.dL T.wG rfl (by intro u hu;simp only[List.mem_cons,List.not_mem_nil,or_false]at hu;rcases hu with rfl|rfl|rfl|rfl|rfl|rfl|rfl|rfl<;>rfl) rfl rfl⟩),
   jd rfl rfl (fun x w ad ab=>⟨_,_,rfl,rfl,rfl,run_assign rfl rfl,bd.refl _,ab 28 rfl⟩),ay⟩ ?_)
   intro x fr w ad ab E;have M:=M.jb ad (ab 29 aN).1 (ab 29 aN).2.1;refine cm E<|a1 (y:=((t+1:Nat):Int)) 1 U U ((br ae ae).trans ae)<|ct 1 U fun fr E=>?_;have M:=M.aH 2 rfl;have M:=M.aH 1 rfl;exact⟨64-(t+1),by omega,t+1,_,U,by omega,E.lL [0,5,6,7] rfl,(M.sub (L':=[_,_]) (.cons_cons _ (.cons_cons _ (List.nil_sublist _)))).as (by rw[Xs];rfl)⟩
  ·obtain rfl:t=64:=by omega
   obtain⟨R,dU⟩:∃R,R=s.rounds bl 64:=⟨_,rfl⟩
   rw[<-dU]at M;refine bA E<|ch 1 U U aN<|bw 3 U fun fr E=>?_;refine cI (fun d fr w=>∃(i:Nat) (o:Value),d=8-i/\i<=8/\Env [(14,aa (i:Int)),(13,o),(6,x),(0,e5)] 153 fr/\Mem w0 (aS []) [.row 227 1 o i (a7 ((s.add R).list.take i)),.row 227 1 x 8 (a7 R.list)] (fun w'=>Reads 1 w' e5 8 (a7 s.list)/\Bytes w' bv bl/\w'.heap[1]? =some (.cells (a7 bt).toArray 243)) w) (8) ?_ ?_
   ·exact⟨0,_,U,by decide,E.lL [0,6,13,14] rfl,(M.sub (L':=[_]) (.cons_cons _ (List.nil_sublist _))).HQ 227⟩
   ·clear E M;rintro d fr w ⟨i,o,rfl,hle,E,M⟩;by_cases hi:i<8
    ·refine bA E<|bD 1 U U ae<|fun fr E=>?_;have M:Mem _ _ ([.row 227 1 o i (a7 ((s.add R).list.take i))]++_) _ _:=M;refine bN E<|bw 1 U fun fr E=>?_;refine(iQ (B:=T.JY) (Vs:=(.af _:: .af _:: .af _:: .af _:: .af _:: .af _:: .af _:: .af _:: .af _:: .af _::nq w.heap.size 1 1 [v32 (s.list.getD i 0+R.list.getD i 0)]::cL w.heap.size ([.row 227 1 o i (a7 ((s.add R).list.take i))]) (fun v:Value=>v) ((fun bR:Value=>[az.row 227 1 bR (i+1) ((a7 ((s.add R).list.take i))++[v32 (s.list.getD i 0+R.list.getD i 0)])])) (fun _=>True)::cL w.heap.size ([.row 227 1 o i (a7 ((s.add R).list.take i))]) (fun v:Value=>v) ((fun bR:Value=>[az.row 227 1 bR (i+1) ((a7 ((s.add R).list.take i))++[v32 (s.list.getD i 0+R.list.getD i 0)])])) (fun _=>True)::[])) (fs (ga 11 ([.row 227 1 o i (a7 ((s.add R).list.take i))])) w.drew) T.Yl E T.mixed T.Yk U ?_ ⟨b5 U U M (fun i g h=>h.2),
   b5 U U M (fun i g h=>h.2),
   b5 U U M (fun i g h=>h.2),
   bY U U M (fun i g h=>h.2) (fun x w' aA aL ab=>bL (i:=i) U (aA.fact.1) U U (rfl) (hi) T.ft T.dL),
   bY U U M (fun i g h=>h.2) (fun x w' aA aL ab=>b2 U (aA.fact.1) U T.eC (zd hi)),
   b5 U U M (fun i g h=>h.2),
   b5 U U M (fun i g h=>h.2),
   bY U U M (fun i g h=>h.2) (fun x w' aA aL ab=>bL (i:=i) U (aA.reads 0 U) U U (rfl) (hi) T.ft T.dL),
   bY U U M (fun i g h=>h.2) (fun x w' aA aL ab=>b2 U (aA.reads 0 U) U T.eC (zd hi)),
   bY U U M (fun i g h=>h.2) (fun x w' aA aL ab=>num U (hF _ _)),
   kK rfl rfl M (fun i g h=>h.2) (fun x w' aA aL ab=>⟨rfl,rfl,rfl,qd (vs:=[v32 (s.list.getD i 0+R.list.getD i 0)]) aL rfl rfl rfl T.ft T.dL T.wG rfl (by intro u hu;obtain rfl:=List.mem_singleton.1 hu;rfl) rfl rfl⟩),
   m0 (y:=undef) rfl rfl M rfl rfl rfl T.ft T.ft T.zq T.w6 aN (by intro u hu;obtain rfl:=List.mem_singleton.1 hu;rfl) ae (fun x w' ab=>⟨rfl,rfl,rfl,rfl,_,rfl,(ab 10 rfl).1⟩),
   lZ (j:=11) rfl rfl rfl rfl (fun x w y bn=>⟨rfl,rfl,rfl,ku rfl bn⟩),ay⟩ ?_)
     ·exact hJ U ((aK (aK (aK (aK (aK (aK (aK (aK (aK (aK (jq (cJ.oD (fun g h=>M.gA g h)) (fK U cJ.fJ (fK U cJ.fJ hH))))))))))))))
     intro x fr w ⟨b,ak,cX⟩ ab E;obtain⟨vL,bn, -,M⟩:=M.behind (val:=fun v:Value=>v) (outs:=(fun bR:Value=>[az.row 227 1 bR (i+1) ((a7 ((s.add R).list.take i))++[v32 (s.list.getD i 0+R.list.getD i 0)])])) (p:=fun _=>True) cX (ab 12 aN);have E:=Env.gD (t:=13) E rfl bn;refine cm E<|a1 (y:=((i+1:Nat):Int)) 1 U U ((br ae ae).trans ae)<|ct 1 U fun fr E=>?_;exact⟨8-(i+1),by omega,i+1,_,U,by omega,E.lL [0,6,13,14] rfl,M.as (by rw[Oc hi];rfl)⟩
    ·obtain rfl:i=8:=by omega
     refine bA E<|ch 1 U U aN<|aU 3 U fun fr E=>?_;refine bi E U U ?_;have M:=(M.sub (L':=[_]) (.cons_cons _ (List.nil_sublist _))).as (L':=[.row 227 1 o 8 (a7 (s.take bl).list)]) (by rw[show s.take bl=s.add R by rw[dU];rfl];rfl);exact⟨_,U,M.fin (.refl _) trivial⟩
theorem Zv{k:Nat}{s:dW}{l:List UInt8}{e5 bv:Value}{w0:World}(aP:Reads 1 w0 e5 8 (a7 (fD k s l).list))(ak:Bytes w0 bv l)(aI:64*k+64<=l.length)(ab:w0.heap[1]? =some (.cells (a7 bt).toArray 243)):aY prog 209 [e5,e2 1 bv (64*k) (64*k+64)] w0 [] (fun s:Value=>s) (fun o=>[.row 227 1 o 8 (a7 (fD (k+1) s l).list)]) (fun _=>True):=by
 rw[yG];have:=Zw aP (Bytes.cut (64*k) (64*k+64) ak ae aI) (by simp;omega) ab
 rwa [show 64*k+64-64*k=64 by omega]at this
theorem Wa{bv:Value}{bl:List UInt8}{w0:World}(ak:Bytes w0 bv bl)(au:bl.length<=2199023255552):aY prog 207 [bv] w0 [] (fun s:Value=>s) (fun o=>[.bytes 5 o (jH bl)]) (fun _=>True):=by
 refine enter (n:=48) func207 U U U ?_;intro fr E;have M:=Mem.begin (Φ:=fun w'=>Bytes w' bv bl) (Has.nil w0) (fun w' h=>ak.bU h);refine aV E<|bw 3 U fun fr E=>?_;refine cI (fun d fr w=>∃(i:Nat) (o:Value),d=bl.length-i/\i<=bl.length/\Env [(4,aa (i:Int)),(3,o),(0,bv)] 48 fr/\Mem w0 (aS []) [.bytes 5 o (bl.take i)] (fun w'=>Bytes w' bv bl) w) (bl.length) ?_ ?_
 ·exact⟨0,_,U,Nat.zero_le _,E.lL [0,3,4] rfl,M.jg 5⟩
 ·clear E M;rintro d fr w ⟨i,o,rfl,hle,E,M⟩;by_cases hi:i<bl.length
  ·refine bA E<|ah 2 U (bx U U U U T.aG M.fact)<|bD 0 U U ae<|ah 4 U (bL (i:=i) U M.fact U U (rfl) (hi) T.aG T.bf)<|ah (v:=ag ((bl[i]'hi).toNat:Int)) 0 U (b2 U M.fact U T.cq (by rw[Nat.mul_one];exact gx hi))<|cv 0 U fun fr E=>?_;refine dM (sz:=1) (xs:=ao [bl[i]'hi]) E M U U U U U (ev (us:=[_]) (vs:=[_]) U U U T.aG T.bf T.gO U U U U U) (rfl) (Nat.le_refl _) aN (rfl) fun t fr w M E=>?_;refine fX (i:=1) E M U U U U U U U U U U U T.aG T.aG T.eh T.ef (M.reads 0 U) (by simp;omega) fun o fr w M E=>?_;refine cw E<|a1 (y:=((i+1:Nat):Int)) 2 U U ((br ae ae).trans ae)<|ct 1 U fun fr E=>?_;exact⟨bl.length-(i+1),by omega,i+1,_,U,by omega,E.lL [0,3,4] rfl,(M.sub (L':=[_]) (.cons _ (.refl _))).as (by rw[<-List.take_succ_eq_append_getElem])⟩
  ·obtain rfl:i=bl.length:=by omega
   rw[List.take_length]at M;refine bA E<|ah 2 U (bx U U U U T.aG M.fact)<|bs 0 U U ae<|cv 2 U fun fr E=>?_;refine dM (sz:=1) (xs:=ao [128]) E M U U U U U (ev (us:=[_]) (vs:=[_]) U U U T.aG T.bf T.gO U U U U U) (rfl) (Nat.le_refl _) aN (rfl) fun t fr w M E=>?_;refine fX (i:=1) E M U U U U U U U U U U U T.aG T.aG T.eh T.ef (M.reads 0 U) (by simp;omega) fun o fr w M E=>?_;refine cw E<|bw 1 U fun fr E=>?_;refine cI (fun d fr w=>∃(z:Nat) (o:Value),d=fU bl.length-z/\z<=fU bl.length/\Env [(3,o),(0,bv)] 48 fr/\Mem w0 (aS []) [.bytes 5 o (bl++128::List.replicate z 0)] (fun w'=>Bytes w' bv bl) w) (fU bl.length) ?_ ?_
   ·have M:=M.aH 1 rfl;exact⟨0,_,U,Nat.zero_le _,E.lL [0,3] rfl,M.sub (L':=[_]) (.cons_cons _ (List.nil_sublist _))⟩
   ·clear E M;rintro d fr w ⟨z,o,rfl,hle,E,M⟩;have SI:fU bl.length<64/\(bl.length+1+fU bl.length)%64=56:=Ia _;have SH:z<fU bl.length->¬(bl.length+1+z)%64=56:=UZ;by_cases pE:z<fU bl.length
    ·refine bA E<|ah 1 U (bx U U U U T.aG (M.reads 0 U))<|a1 (y:=(((bl.length+1+z)%64:Nat):Int)) 0 U U (by rw[show(bl++128::List.replicate z (0:UInt8)).length=bl.length+1+z by simp;omega];exact kb _ _)<|ei 0 U U (by simp;omega)<|cv 2 U fun fr E=>?_;refine dM (sz:=1) (xs:=ao [0]) E M U U U U U (ev (us:=[_]) (vs:=[_]) U U U T.aG T.bf T.gO U U U U U) (rfl) (Nat.le_refl _) aN (rfl) fun t fr w M E=>?_;refine fX (i:=1) E M U U U U U U U U U U U T.aG T.aG T.eh T.ef (M.reads 0 U) (by simp;omega) fun o fr w M E=>?_;refine cw E<|ct 1 U fun fr E=>?_;refine⟨fU bl.length-(z+1),by omega,z+1,_,U,by omega,E.lL [0,3] rfl,(M.sub (L':=[_]) (.cons _ (.refl _))).as ?_⟩;rw[List.append_assoc,List.cons_append,<-yD]
    ·obtain rfl:z=fU bl.length:=by omega
     refine bA E<|ah 1 U (bx U U U U T.aG (M.reads 0 U))<|a1 (y:=(((bl.length+1+(fU bl.length))%64:Nat):Int)) 0 U U (by rw[show(bl++128::List.replicate (fU bl.length) (0:UInt8)).length=bl.length+1+(fU bl.length) by simp;omega];exact kb _ _)<|ch 0 U U (by simp;omega)<|ah 2 U (bx U U U U T.aG M.fact)<|a1 (y:=(bl.length:Int)) 0 U U (mM ae ae)<|a1 (y:=IntKind.u64.wrap ((bl.length*8:Nat):Int)) 0 U U (congrArg _ ae)<|bw 2 U fun fr E=>?_;refine cI (fun d fr w=>∃(j:Nat) (o:Value),d=j/\j<=8/\Env [(6,aa ((j:Int)-1)),(5,ab0 (IntKind.u64.wrap ((bl.length*8:Nat):Int))),(3,o),(0,bv)] 48 fr/\Mem w0 (aS []) [.bytes 5 o (bl++128::(List.replicate (fU bl.length) 0++(aO ((bl.length*8:Nat):Int)).take (8-j)))] (fun w'=>Bytes w' bv bl) w) (8) ?_ ?_
     ·refine⟨8,_,U,by omega,E.lL [0,3,5,6] rfl,M.as (by simp)⟩
     ·clear E M;rintro d fr w ⟨j,o,aT,hle,E,M⟩;by_cases ax:1<=j
      ·refine bA E<|bD 1 U U ae<|a1 (y:=8*((j:Int)-1)) 4 U U (br ae ae)<|a1 (y:=8*((j:Int)-1)) 0 U U (mM ae ae)<|ah (v:=ab0 _) 0 U (q6 U U U ae U)<|a1 (y:=(((aO ((bl.length*8:Nat):Int))[8-j]'(by rw[eo];omega)).toNat:Int)) 0 U U (tJ _ ax hle)<|cv 0 U fun fr E=>?_;refine dM (sz:=1) (xs:=ao [(aO ((bl.length*8:Nat):Int))[8-j]'(by rw[eo];omega)]) E M U U U U U (ev (us:=[_]) (vs:=[_]) U U U T.aG T.bf T.gO U U U U U) (rfl) (Nat.le_refl _) aN (rfl) fun t fr w M E=>?_;refine fX (i:=1) E M U U U U U U U U U U U T.aG T.aG T.eh T.ef (M.reads 0 U) (by simp[eo];omega) fun o fr w M E=>?_;refine cw E<|a1 (y:=((j-1:Nat):Int)-1) 2 U U ((br ae ae).trans ae)<|ct 1 U fun fr E=>?_;refine⟨j-1,by omega,j-1,_,U,by omega,E.lL [0,3,5,6] rfl,(M.sub (L':=[_]) (.cons _ (.refl _))).as ?_⟩;rw[List.append_assoc,List.cons_append,List.append_assoc,<-List.take_succ_eq_append_getElem,show 8-j+1=8-(j-1) by omega]
      ·obtain rfl:j=0:=by omega
       refine bA E<|bs 1 U U ae<|aU 3 U fun fr E=>?_;refine bi E U U ?_;have M:=M.as (L':=[.bytes 5 o (jH bl)]) rfl;exact⟨_,U,M.fin (.refl _) trivial⟩
theorem Cw{b:Value}{l:List UInt8}{w0:World}(ak:Bytes w0 b l)(ab:w0.heap[1]? =some (.cells (a7 bt).toArray 243))(au:l.length<=2199023255552):bH prog 192 [b] w0 (.agg (ao (fy l)).toArray):=by
 refine enter (n:=43) func192 U U U ?_;intro fr E;have M:=Mem.begin (Φ:=fun w'=>Bytes w' b l/\w'.heap[1]? =some (.cells (a7 bt).toArray 243)) (Has.nil w0) (fun w' h=>⟨ak.bU h,fc ab h⟩);refine eU ?_;refine q9 (ob:=.cells _ 39) (fun g=>ai g 0) E M U U U U U (bT U T.gH) fun aZ fr w M E=>?_;refine eY ?_;refine eU ?_;refine cM E fun fr E=>?_;refine sr E M U U U U U (ar U U T.QM) (Wa M.fact.1 ae) U ?_;rintro aq fr w-M E;refine iF E fun fr E=>?_;refine eY ?_;refine eU ?_;refine sr E M U U U U U (ar U U T.QN) (Qh _) U ?_;rintro e5 fr w-M E;refine iF E fun fr E=>?_;refine eY ?_;refine wp_seq ?_;refine eU ?_;refine ca E (hT U) fun fr E=>?_;refine eY ?_;refine wp_block ?_;refine cI (fun d fr w=>∃(k:Nat) (e5:Value),d=(jH l).length-64*k/\64*k<=(jH l).length/\Env [(5,aa ((64*k:Nat):Int)),(4,e5),(3,aq),(2,ai aZ 0)] 43 fr/\Mem w0 (aS []) [.row 227 1 e5 8 (a7 (fD k dW.first (jH l)).list),.bytes 5 aq (jH l),.bb aZ (.cells (List.replicate 32 (Value.int .u8 0)).toArray 39)] (fun w'=>Bytes w' b l/\w'.heap[1]? =some (.cells (a7 bt).toArray 243)) w) ((jH l).length) ?_ ?_
 ·have M:=M.aH 2 rfl;have M:=M.aH 2 rfl;have M:=M.aH 2 rfl;exact⟨0,_,U,Nat.zero_le _,E.lL [2,3,4,5] rfl,M⟩
 ·clear E M;rintro d fr w ⟨k,e5,rfl,hle,E,M⟩;have l3:=I9 l;by_cases kO:64*k<(jH l).length
  all_goals have l3:=I9 l
  ·refine wp_seq ?_;refine eU ?_;refine cM E fun fr E=>?_;refine cM E fun fr E=>?_;refine ca (v:=aa _) E (bx U U U U T.aG (M.reads 1 U)) fun fr E=>?_;refine ca (v:=.bool true) E (eZ U (decide_eq_true ae)) fun fr E=>?_;refine eY ?_;refine cond_true E U (rfl) ?_;refine wp_skip ?_;refine gV ?_;refine wp_seq ?_;refine wp_block ?_;refine lY ?_;refine cM E fun fr E=>?_;refine cM E fun fr E=>?_;refine cM E fun fr E=>?_;refine cM E fun fr E=>?_;refine ca (v:=.int _ (((64*k+64:Nat):Int))) E (num U ((br ae ae).trans ae)) fun fr E=>?_;refine ca E (ew (lo:=64*k) (hi:=64*k+64) U (M.reads 1 U) U T.aG T.bf (⟨_,_,U,U⟩) (⟨_,_,U,U⟩) ae ae) fun fr E=>?_;refine sr E M U U U U U (ar U U T.QO) (Zv (M.reads 0 U) (M.bytes 1 U) ae M.fact.2) U ?_;rintro s2 fr w-M E;refine iF E fun fr E=>?_;refine mc ?_;refine o8 ?_;refine gV ?_;refine lY ?_;refine cM E fun fr E=>?_;refine ca (v:=.int _ (((64*(k+1):Nat):Int))) E (num U ((br ae ae).trans ae)) fun fr E=>?_;refine iF E fun fr E=>?_;refine mc ?_;refine pV ?_;have M:=M.aH 3 rfl;have M:=M.aH 3 rfl;have M:=M.aH 2 rfl;exact⟨(jH l).length-64*(k+1),by omega,k+1,_,U,by omega,E.lL [2,3,4,5] rfl,M.sub (L':=[_,_,_]) (.cons_cons _ (.cons_cons _ (.cons_cons _ (List.nil_sublist _))))⟩
  ·obtain rfl:k=(jH l).length/64:=by omega
   obtain⟨s,aP⟩:∃s,s=fD ((jH l).length/64) dW.first (jH l):=⟨_,rfl⟩
   rw[<-aP]at M;refine wp_seq ?_;refine eU ?_;refine cM E fun fr E=>?_;refine cM E fun fr E=>?_;refine ca (v:=aa _) E (bx U U U U T.aG (M.reads 1 U)) fun fr E=>?_;refine ca (v:=.bool false) E (eZ U (decide_eq_false ae)) fun fr E=>?_;refine eY ?_;refine cond_false E U (rfl) ?_;refine wp_exit ?_;refine lA ?_;refine lA ?_;refine o7 ?_;refine gV ?_;refine eU ?_;refine q9 (ob:=.cells _ 39) (fun g=>ai g 0) E M U U U U U (bT U T.gH) fun bQ fr w M E=>?_;refine eY ?_;refine wp_seq ?_;refine eU ?_;refine ca E (hT U) fun fr E=>?_;refine eY ?_;refine wp_block ?_;refine cI (fun d fr w=>∃i:Nat,d=32-i/\i<=32/\Env [(7,aa (i:Int)),(6,ai bQ 0),(4,e5),(2,ai aZ 0)] 43 fr/\Mem w0 (aS []) [.bb bQ (.cells (mF s i).toArray 39),.row 227 1 e5 8 (a7 s.list),.bb aZ (.cells (List.replicate 32 (Value.int .u8 0)).toArray 39)] (fun w'=>Bytes w' b l/\w'.heap[1]? =some (.cells (a7 bt).toArray 243)) w) (32) ?_ ?_
   ·have M:=M.aH 3 rfl;have M:=M.aH 2 rfl;have M:=M.aH 2 rfl;exact⟨0,U,Nat.zero_le _,E.lL [2,4,6,7] rfl,M.sub (L':=[_,_,_]) (.cons_cons _ (.cons_cons _ (.cons_cons _ (List.nil_sublist _))))⟩
   ·clear E M;rintro d fr w ⟨i,rfl,hle,E,M⟩;by_cases hi:i<32
    ·refine wp_seq ?_;refine eU ?_;refine cM E fun fr E=>?_;refine ca (v:=.bool true) E (eZ U (decide_eq_true ae)) fun fr E=>?_;refine eY ?_;refine cond_true E U (rfl) ?_;refine wp_skip ?_;refine gV ?_;refine wp_seq ?_;refine wp_block ?_;refine lY ?_;refine cM E fun fr E=>?_;refine cM E fun fr E=>?_;refine cM E fun fr E=>?_;refine ca (v:=.int _ (((i/4:Nat):Int))) E (num U (vQ _ _ aN ae)) fun fr E=>?_;refine ca E (bL (i:=(i/4)) U (M.reads 1 U) U U (rfl) ae T.ft T.dL) fun fr E=>?_;refine ca (v:=v32 (s.list.getD (i/4) 0)) E (b2 U (M.reads 1 U) U T.eC (zd (show i/4<8 by omega))) fun fr E=>?_;refine cM E fun fr E=>?_;refine ca (v:=.int _ (((i%4:Nat):Int))) E (num U (kb _ _)) fun fr E=>?_;refine ca (v:=.int _ (((8*(i%4):Nat):Int))) E (num U ((br ae ae).trans ae)) fun fr E=>?_;refine ca (v:=.int _ (((24-8*(i%4):Nat):Int))) E (num U ((br ae ae).trans ae)) fun fr E=>?_;refine ca (v:=.int _ (((24-8*(i%4):Nat):Int))) E (num U (mM ae ae)) fun fr E=>?_;refine ca (v:=v32 (s.list.getD (i/4) 0 >>>(24-8*(i%4)))) E (hV (q:=24-8*(i%4)) U U U (show 24-8*(i%4)<=32 by omega)) fun fr E=>?_;refine ca (v:=b1 (((s.list.getD (i/4) 0 >>>(24-8*(i%4)))).setWidth 8)) E (num U (EY _)) fun fr E=>?_;refine ca (v:=ai _ (0+i*1)) E (dm (i:=i) U U U (rfl) ae T.iB T.bf) fun fr E=>?_;refine sw (i:=0) (cs':=(mF s (i+1)).toArray) E M U U U U U (cy (v:=_) U U U T.bf (M.row (i:=0) U) (by rw[List.size_toArray,HX ae];simp;omega) (rfl) (congrArg List.toArray ((congrArg (fun k=>(mF s i).set k _) (show 0+i*1=i by omega)).trans (HY hi)))) U fun fr w M E=>?_;refine mc ?_;refine o8 ?_;refine gV ?_;refine lY ?_;refine cM E fun fr E=>?_;refine ca (v:=.int _ (((i+1:Nat):Int))) E (num U ((br ae ae).trans ae)) fun fr E=>?_;refine iF E fun fr E=>?_;refine mc ?_;refine pV ?_;exact⟨32-(i+1),by omega,i+1,U,by omega,E.lL [2,4,6,7] rfl,M⟩
    ·obtain rfl:i=32:=by omega
     rw[HW]at M;refine wp_seq ?_;refine eU ?_;refine cM E fun fr E=>?_;refine ca (v:=.bool false) E (eZ U aN) fun fr E=>?_;refine eY ?_;refine cond_false E U (rfl) ?_;refine wp_exit ?_;refine lA ?_;refine lA ?_;refine o7 ?_;refine gV ?_;refine eU ?_;refine ca (v:=.agg (ao (iu s)).toArray) E (cW U U T.gJ (M.row (i:=0) U) (by simp[iu])) fun fr E=>?_;refine sw (i:=2) (cs':=(ao (iu s)).toArray) E M U U U U U (cB (vs:=(ao (iu s)).toArray) U U U T.fF (by simp[iu]) (M.row (i:=2) U) (rfl) (by simpa using c0 (iu s))) U fun fr w M E=>?_;refine eY ?_;refine wp_ret ?_;refine gC E U U T.gJ (M.row (i:=2) U) (by simp[iu]) ?_;rw[aP,show iu (fD ((jH l).length/64) dW.first (jH l))=fy l from rfl];exact bX M
end
section
open Go.RowKit Go.a2 Go.Proofs Go.Proofs.Tryz
def iO(k:List UInt8):List UInt8:=if 64<k.length then fy k else k
def gU(k:List UInt8):List UInt8:=iO k++List.replicate (64-(iO k).length) 0
def e1(k:List UInt8)(x:UInt8):List UInt8:=(gU k).map (·^^^ x)
def h7(k b:List UInt8):List UInt8:=fy (e1 k 92++fy (e1 k 54++b))
theorem jG(l:List UInt8):(fy l).length=32:=by simp[fy,iu]
theorem gL(k b:List UInt8):(h7 k b).length=32:=jG _
theorem zO(k:List UInt8):(iO k).length<=64:=by unfold iO;split<;>first|(rw[jG];decide)|omega
theorem lx(k:List UInt8):(gU k).length=64:=by have:=zO k;simp[gU];omega
theorem lc(k:List UInt8)(x:UInt8):(e1 k x).length=64:=by simp[e1,lx]
theorem Ib{l:List UInt8}(h:l.length<=64):((List.replicate 64 (Value.int .u8 0)).toArray.toList.take 0++ao l++(List.replicate 64 (Value.int .u8 0)).toArray.toList.drop (0+l.length)).toArray=(ao (l++List.replicate (64-l.length) 0)).toArray:=by
 simp only[List.take_zero,List.nil_append,Nat.zero_add,List.drop_replicate,sU];simp[ao]
theorem UW{k:List UInt8}(h:64<k.length):((List.replicate 64 (Value.int .u8 0)).toArray.toList.take 0++ao (fy k)++(List.replicate 64 (Value.int .u8 0)).toArray.toList.drop (0+(fy k).length)).toArray=(ao (gU k)).toArray:=by
 rw[Ib (by rw[jG];decide)];unfold gU iO;rw[if_pos h]
theorem UX{k:List UInt8}(h:¬64<k.length):((List.replicate 64 (Value.int .u8 0)).toArray.toList.take 0++ao k++(List.replicate 64 (Value.int .u8 0)).toArray.toList.drop (0+k.length)).toArray=(ao (gU k)).toArray:=by
 rw[Ib ae];unfold gU iO;rw[if_neg h]
def iZ(l:List UInt8)(x:UInt8)(i:Nat):List UInt8:=(l.take i).map (·^^^ x)++l.drop i
theorem zk{l:List UInt8}{x:UInt8}{i:Nat}:(iZ l x i).length=l.length:=by simp[iZ];omega
theorem zj{l:List UInt8}{x:UInt8}:iZ (gU l) x 64=e1 l x:=by
 unfold iZ e1;rw[List.take_of_length_le (Nat.le_of_eq (lx _)),List.drop_of_length_le (Nat.le_of_eq (lx _))];simp
theorem aau{l:List UInt8}{x:UInt8}{i:Nat}(h:i<l.length):(iZ l x i)[i]? =some (l.getD i 0):=by
 unfold iZ;rw[List.getElem?_append_right (by simp;omega),List.length_map,List.length_take,Nat.min_eq_left ae,Nat.sub_self,List.getElem?_drop,Nat.add_zero,List.getD_eq_getElem?_getD,List.getElem?_eq_getElem h];rfl
theorem Dw{k:List UInt8}{x:UInt8}{i:Nat}(h:i<64):(ao (iZ (gU k) x i)).toArray[0+i*1]? =some (b1 ((gU k).getD i 0).toBitVec):=by
 rw[Nat.zero_add,Nat.mul_one];simp only[ao,List.getElem?_toArray,List.getElem?_map,aau (show i<(gU k).length by rw[lx];exact h)];rfl
theorem Dx{l:List UInt8}{x:UInt8}{i:Nat}(h:i<l.length):(iZ l x i).set i (l.getD i 0 ^^^ x)=iZ l x (i+1):=by
 unfold iZ;have e:l.drop i=l.getD i 0::l.drop (i+1):=by
  rw[List.getD_eq_getElem?_getD,List.getElem?_eq_getElem h];exact List.drop_eq_getElem_cons h
 have c6:l.take (i+1)=l.take i++[l.getD i 0]:=by
  rw[List.getD_eq_getElem?_getD,List.getElem?_eq_getElem h];exact List.take_succ_eq_append_getElem h
 rw[List.set_append_right _ _ (by simp;omega),List.length_map,List.length_take,Nat.min_eq_left ae,Nat.sub_self,e,c6,List.map_append,List.append_assoc];rfl
theorem Lv{l:List UInt8}{x:UInt8}{i:Nat}(h:i<l.length):(ao (iZ l x i)).set i (b1 ((l.getD i 0).toBitVec ^^^ x.toBitVec))=ao (iZ l x (i+1)):=by
 rw[<-Dx h];simp only[ao,List.map_set];rfl
section
variable{P:Program}{Q:Exit->Act->World->Prop}{l:List (Nat×Value)}{n:Nat}{w w0:World}{ops:Array Oper}{B:List Nat}{Vs:List Go.a2.Spec}{i:Nat}
theorem Rp{g:Nat}{u:Value}{cs cs':Array Value}{T:TypeId}{fr:Nat×Nat}{o:Oper}{O:Nat->Prop}{dJ:List az}{Φ:World->Prop}(aF:ops[i]? =some o)(aP:Vs[i]? =some (cL w.heap.size [.bb g (.cells cs T fr)] (fun _:Unit=>u) (fun _=>[.bb g (.cells cs' T fr)]) (fun _=>True)))(M:Mem w0 O ([.bb g (.cells cs T fr)]++dJ) Φ w)
  (h:∀(x:Nat->Value) (w':World),Mem w0 O dJ Φ w'->Has w' [.bb g (.cells cs T fr)]->w.heap.size<=w'.heap.size->(∀j,waits B i j=true->fq Vs x w' j)->dp (cg ops B l Vs x i) o=true/\dg ops (cg ops B l Vs x i) o=true/\dh ops (cg ops B l Vs x i) o=true/\
   (execOp (cf (cg ops B l Vs x i)) o).run P w'=.ok (.value u) (w'.setRow g cs')):iA P ops B l n Vs (fs (ga i [.bb g (.cells cs T fr)]) w.drew) Q i:=by
 intro x a w' ad ab E;have c4:Has w' [.bb g (.cells cs T fr)]:=M.front.nP ad fun j ax g mr=>absurd mr.1 ax;obtain⟨aj,an,aB,be⟩:=h x w' (M.nP (fun i g h=>h.2) ad) c4 ad.held.size ab;refine⟨o,_,aF,aP,fun K cY=>?_⟩;rw[E.wanted an,if_pos aB];unfold Oper.wp;rw[E.exec aj,be,Oper.upon_value];have zv:=c4.mem.set (i:=0) (cs':=cs') rfl;exact cY u _ (dc.setRow ⟨U,g9.2 (List.mem_singleton.2 U)⟩) ⟨(),U,zv.has,fun q bE=>.inl (g9.2 (by have:=g9.1 bE;exact this)),ay⟩
end
theorem OY{kv:Value}{bM:List UInt8}{xb:UInt8}{w0:World}(ak:Bytes w0 kv bM)(ab:w0.heap[0]? =some (.cells (a7 bt).toArray 243))(au:bM.length<=1099511627776)(aI:64<bM.length):bH prog 156 [kv,b1 xb.toBitVec] w0 (.agg (ao (e1 bM xb)).toArray):=by
 refine enter (n:=30) func156 U U U ?_;intro fr E;have M:=Mem.begin (Φ:=fun w'=>Bytes w' kv bM/\w'.heap[0]? =some (.cells (a7 bt).toArray 243)) (Has.nil w0) (fun w' h=>⟨ak.bU h,fc ab h⟩);refine aV E<|bh (ob:=.cells _ 199) (fun g=>ai g 0) M 0 U (bT U T.ul) fun aZ w M=>bh (ob:=.cells _ 199) (fun g=>ai g 0) M 0 U (bT U T.ul) fun bQ w M=>ah 1 U (bx U U U U T.aG (M.fact.1))<|bD 0 U U ae<|bo M 2 U (ar U U T.QJ) (Xe M.fact.1 M.fact.2 ae) fun w M=>bh (ob:=.cells _ 39) (fun g=>ai g 0) M 0 U (bT U T.gH) fun cF w M=>bj (i:=0) (cs':=(ao (fy bM)).toArray) M 0 U U (cB (vs:=(ao (fy bM)).toArray) U U U T.fF (by simp[fy,iu]) (M.row (i:=0) U) (rfl) (by simpa using c0 (fy bM))) U fun w M=>fun fr E=>?_;have M:=M.aH 1 rfl;have M:Mem _ _ ([.bb bQ (.cells (List.replicate 64 (Value.int .u8 0)).toArray 199)]++_) _ _:=M;refine bN E<|bw 0 U fun fr E=>?_;refine(iQ (B:=T.JC) (Vs:=(.af _:: .af _::cL w.heap.size ([.bb bQ (.cells (List.replicate 64 (Value.int .u8 0)).toArray 199)]) (fun _:Unit=>aa (fy bM).length) (fun _=>[.bb bQ (.cells (ao (gU bM)).toArray 199)]) (fun _=>True)::[])) (fs (ga 2 ([.bb bQ (.cells (List.replicate 64 (Value.int .u8 0)).toArray 199)])) w.drew) T.XL E T.mixed T.XK U ?_ ⟨bY U U M (fun i g h=>h.2) (fun x w' aA aL ab=>lQ (g:=_) (cs:= #[]) (T:=0) (fr:=(0,0)) U U T.qa T.bf),
   bY U U M (fun i g h=>h.2) (fun x w' aA aL ab=>lQ (g:=_) (cs:= #[]) (T:=0) (fr:=(0,0)) U U T.iB T.bf),
   Rp U U M (fun x w' aA c4 aL ab=>⟨U,U,U,Cd (l:=fy bM) U U U U U T.aG T.bf (c4.dG 0 U) (yB (aA.row (i:=0) U) (by simp[fy,iu]) aN:Reads 1 _ _ 32 _) (by simp[fy,iu]) (by simp) (UW aI)⟩),ay⟩ ?_)
 ·exact hJ U ((aK (aK (fK U cJ.fJ hH))))
 intro x fr w ⟨b,ak,cX⟩ ab E;obtain⟨u,bn, -,M⟩:=M.behind (val:=fun _:Unit=>aa (fy bM).length) (outs:=fun _=>[.bb bQ (.cells (ao (gU bM)).toArray 199)]) (p:=fun _=>True) cX (ab 2 aN);refine cm E<|bw 1 U fun fr E=>?_;refine cI (fun d fr w=>∃i:Nat,d=64-i/\i<=64/\Env [(19,aa (i:Int)),(5,ai bQ 0),(4,ai aZ 0),(1,b1 xb.toBitVec)] 30 fr/\Mem w0 (aS []) [.bb bQ (.cells (ao (iZ (gU bM) xb i)).toArray 199),.bb aZ (.cells (List.replicate 64 (Value.int .u8 0)).toArray 199)] (fun w'=>Bytes w' kv bM/\w'.heap[0]? =some (.cells (a7 bt).toArray 243)) w) (64) ?_ ?_
 ·have M:=M.aH 2 rfl;have M:=M.aH 1 rfl;exact⟨0,U,Nat.zero_le _,E.lL [1,4,5,19] rfl,M.sub (L':=[_,_]) (.cons_cons _ (.cons_cons _ (List.nil_sublist _)))⟩
 ·clear E M;rintro d fr w ⟨i,rfl,hle,E,M⟩;by_cases hi:i<64
  ·refine bA E<|bD 0 U U ae<|ah (v:=ai _ (0+i*1)) 4 U (dm (i:=i) U U U (rfl) (hi) T.qa T.bf)<|ah (v:=b1 ((gU bM).getD i 0).toBitVec) 0 U (aE U U T.cq (M.row (i:=0) U) (Dw hi))<|a1 1 U U (dx _ _)<|ah (v:=ai _ (0+i*1)) 0 U (dm (i:=i) U U U (rfl) (hi) T.qa T.bf)<|bj (i:=0) (cs':=(ao (iZ (gU bM) xb (i+1))).toArray) M 0 U U (cy (v:=_) U U U T.bf (M.row (i:=0) U) (by rw[List.size_toArray,dj,zk];simp[lx];omega) (rfl) (congrArg List.toArray ((congrArg (fun k=>(ao (iZ (gU bM) xb i)).set k _) (show 0+i*1=i by omega)).trans (Lv (by rw[lx];exact hi))))) U fun w M=>a1 (y:=((i+1:Nat):Int)) 0 U U ((br ae ae).trans ae)<|ct 1 U fun fr E=>?_;exact⟨64-(i+1),by omega,i+1,U,by omega,E.lL [1,4,5,19] rfl,M⟩
  ·obtain rfl:i=64:=by omega
   rw[zj]at M;refine bA E<|ch 0 U U aN<|ah (v:=.agg (ao (e1 bM xb)).toArray) 1 U (cW U U T.wR (M.row (i:=0) U) (by simp[e1,lx]))<|bj (i:=1) (cs':=(ao (e1 bM xb)).toArray) M 0 U U (cB (vs:=(ao (e1 bM xb)).toArray) U U U T.yS (by simp[e1,lx]) (M.row (i:=1) U) (rfl) (by simpa using c0 (e1 bM xb))) U fun w M=>aU 0 U fun fr E=>?_;refine gC E U U T.wR (M.row (i:=1) U) (by simp[e1,lx]) ?_;exact bX M
theorem OZ{kv:Value}{bM:List UInt8}{xb:UInt8}{w0:World}(ak:Bytes w0 kv bM)(ab:w0.heap[0]? =some (.cells (a7 bt).toArray 243))(au:bM.length<=1099511627776)(aI:¬64<bM.length):bH prog 156 [kv,b1 xb.toBitVec] w0 (.agg (ao (e1 bM xb)).toArray):=by
 refine enter (n:=30) func156 U U U ?_;intro fr E;have M:=Mem.begin (Φ:=fun w'=>Bytes w' kv bM/\w'.heap[0]? =some (.cells (a7 bt).toArray 243)) (Has.nil w0) (fun w' h=>⟨ak.bU h,fc ab h⟩);refine aV E<|bh (ob:=.cells _ 199) (fun g=>ai g 0) M 0 U (bT U T.ul) fun aZ w M=>bh (ob:=.cells _ 199) (fun g=>ai g 0) M 0 U (bT U T.ul) fun bQ w M=>ah 1 U (bx U U U U T.aG (M.fact.1))<|bs 0 U U ae<|ah 1 U (lQ (g:=_) (cs:= #[]) (T:=0) (fr:=(0,0)) U U T.qa T.bf)<|cv 1 U fun fr E=>?_;refine Jq (i:=0) (cs':=(ao (gU bM)).toArray) E M U U U U U U (Cd (l:=bM) U U U U U T.aG T.bf (M.row (i:=0) U) (M.fact.1) ae (by simp) (UX aI)) U fun fr w M E=>?_;refine cw E<|bw 1 U fun fr E=>?_;refine cI (fun d fr w=>∃i:Nat,d=64-i/\i<=64/\Env [(19,aa (i:Int)),(5,ai bQ 0),(4,ai aZ 0),(1,b1 xb.toBitVec)] 30 fr/\Mem w0 (aS []) [.bb bQ (.cells (ao (iZ (gU bM) xb i)).toArray 199),.bb aZ (.cells (List.replicate 64 (Value.int .u8 0)).toArray 199)] (fun w'=>Bytes w' kv bM/\w'.heap[0]? =some (.cells (a7 bt).toArray 243)) w) (64) ?_ ?_
 ·have M:=M.aH 1 rfl;have M:=M.aH 1 rfl;exact⟨0,U,Nat.zero_le _,E.lL [1,4,5,19] rfl,M.sub (L':=[_,_]) (.cons_cons _ (.cons_cons _ (List.nil_sublist _)))⟩
 ·clear E M;rintro d fr w ⟨i,rfl,hle,E,M⟩;by_cases hi:i<64
  ·refine bA E<|bD 0 U U ae<|ah (v:=ai _ (0+i*1)) 4 U (dm (i:=i) U U U (rfl) (hi) T.qa T.bf)<|ah (v:=b1 ((gU bM).getD i 0).toBitVec) 0 U (aE U U T.cq (M.row (i:=0) U) (Dw hi))<|a1 1 U U (dx _ _)<|ah (v:=ai _ (0+i*1)) 0 U (dm (i:=i) U U U (rfl) (hi) T.qa T.bf)<|bj (i:=0) (cs':=(ao (iZ (gU bM) xb (i+1))).toArray) M 0 U U (cy (v:=_) U U U T.bf (M.row (i:=0) U) (by rw[List.size_toArray,dj,zk];simp[lx];omega) (rfl) (congrArg List.toArray ((congrArg (fun k=>(ao (iZ (gU bM) xb i)).set k _) (show 0+i*1=i by omega)).trans (Lv (by rw[lx];exact hi))))) U fun w M=>a1 (y:=((i+1:Nat):Int)) 0 U U ((br ae ae).trans ae)<|ct 1 U fun fr E=>?_;exact⟨64-(i+1),by omega,i+1,U,by omega,E.lL [1,4,5,19] rfl,M⟩
  ·obtain rfl:i=64:=by omega
   rw[zj]at M;refine bA E<|ch 0 U U aN<|ah (v:=.agg (ao (e1 bM xb)).toArray) 1 U (cW U U T.wR (M.row (i:=0) U) (by simp[e1,lx]))<|bj (i:=1) (cs':=(ao (e1 bM xb)).toArray) M 0 U U (cB (vs:=(ao (e1 bM xb)).toArray) U U U T.yS (by simp[e1,lx]) (M.row (i:=1) U) (rfl) (by simpa using c0 (e1 bM xb))) U fun w M=>aU 0 U fun fr E=>?_;refine gC E U U T.wR (M.row (i:=1) U) (by simp[e1,lx]) ?_;exact bX M
theorem Eu{kv:Value}{bM:List UInt8}{x:UInt8}{w0:World}(ak:Bytes w0 kv bM)(ab:w0.heap[0]? =some (.cells (a7 bt).toArray 243))(au:bM.length<=1099511627776):bH prog 156 [kv,b1 x.toBitVec] w0 (.agg (ao (e1 bM x)).toArray):=by
 by_cases aI:64<bM.length
 ·exact OY ak ab au aI
 ·exact OZ ak ab au aI
theorem nw{w:World}{g n:Nat}{T:TypeId}{fr:Nat×Nat}{l:List UInt8}(h:w.heap[g]? =some (.cells (ao l).toArray T fr))(a6:l.length=n)(hm:n<=maxLen):Bytes w (.slice (some ⟨g,0,none⟩) n n) l:=by
 subst a6;exact yB h (by simp) hm
theorem Hv{kv bv:Value}{bM bl:List UInt8}{w0:World}(ak:Bytes w0 kv bM)(xM:Bytes w0 bv bl)(ab:w0.heap[0]? =some (.cells (a7 bt).toArray 243))(au:bM.length<=1099511627776)(pE:bl.length<=549755813888):bH prog 96 [kv,bv] w0 (.agg (ao (h7 bM bl)).toArray):=by
 refine enter (n:=31) func96 U U U ?_;intro fr E;have M:=Mem.begin (Φ:=fun w'=>Bytes w' kv bM/\Bytes w' bv bl/\w'.heap[0]? =some (.cells (a7 bt).toArray 243)) (Has.nil w0) (fun w' h=>⟨ak.bU h,xM.bU h,fc ab h⟩);refine aV E<|bh (ob:=.cells _ 39) (fun g=>ai g 0) M 0 U (bT U T.gH) fun aZ w M=>bo M 1 U (ar U U T.FA) (Eu (x:=54) M.fact.1 M.fact.2.2 au) fun w M=>bo M 1 U (ar U U T.FA) (Eu (x:=92) M.fact.1 M.fact.2.2 au) fun w M=>bh (ob:=.cells _ 199) (fun g=>ai g 0) M 0 U (bT U T.ul) fun bQ w M=>bh (ob:=.cells _ 199) (fun g=>ai g 0) M 0 U (bT U T.ul) fun cF w M=>bj (i:=1) (cs':=(ao (e1 bM 54)).toArray) M 0 U U (cB (vs:=(ao (e1 bM 54)).toArray) U U U T.yS ((List.size_toArray).trans (dj _▸lc _ _)) (M.row (i:=1) U) (rfl) (fun v aD=>c0 _ v aD)) U fun w M=>bj (i:=0) (cs':=(ao (e1 bM 92)).toArray) M 0 U U (cB (vs:=(ao (e1 bM 92)).toArray) U U U T.yS ((List.size_toArray).trans (dj _▸lc _ _)) (M.row (i:=0) U) (rfl) (fun v aD=>c0 _ v aD)) U fun w M=>cP M 0 U (ar U U T.Ax) (AW _) U fun xG w _ M=>ah 2 U (lQ (g:=_) (cs:= #[]) (T:=0) (fr:=(0,0)) U U T.qa T.bf)<|bC (lm xG (.slice none 0 0) ([])) M 0 U (ar U U T.uS) U (fun H=>u3 (Y:=[]) (bl:=e1 bM 54) H (nw (M.row (i:=3) U) (lc _ _) aN) (Mem.Aj M (i:=3) U U) M.fact.2.2 (Mem.s7 M ab) (by simp[lc,jG];try omega)) fun ke w _ M=>bC (lm xG ke ([]++e1 bM 54)) M 2 U (ar U U T.uS) U (fun H=>u3 (Y:=[]++e1 bM 54) (bl:=bl) H (M.fact.2.1) (Mem.Ai M xM) M.fact.2.2 (Mem.s7 M ab) (by simp[lc,jG];try omega)) fun jF w _ M=>bo M 1 U (ar U U T.Ay) (AY (Y:=[]++e1 bM 54++bl) (M.row (i:=0) U) (M.bytes 1 U) M.fact.2.2 (by simp[lc,jG];try omega)) fun w M=>bh (ob:=.cells _ 39) (fun g=>ai g 0) M 0 U (bT U T.gH) fun gR w M=>bj (i:=0) (cs':=(ao (fy ([]++e1 bM 54++bl))).toArray) M 0 U U (cB (vs:=(ao (fy ([]++e1 bM 54++bl))).toArray) U U U T.fF ((List.size_toArray).trans (dj _▸jG _)) (M.row (i:=0) U) (rfl) (fun v aD=>c0 _ v aD)) U fun w M=>cP M 0 U (ar U U T.Ax) (AW _) U fun Gb w _ M=>ah 2 U (lQ (g:=_) (cs:= #[]) (T:=0) (fr:=(0,0)) U U T.qa T.bf)<|bC (lm Gb (.slice none 0 0) ([])) M 0 U (ar U U T.uS) U (fun H=>u3 (Y:=[]) (bl:=e1 bM 92) H (nw (M.row (i:=5) U) (lc _ _) aN) (Mem.Aj M (i:=5) U U) M.fact.2.2 (Mem.s7 M ab) (by simp[lc,jG];try omega)) fun sp w _ M=>ah 1 U (lQ (g:=_) (cs:= #[]) (T:=0) (fr:=(0,0)) U U T.iB T.bf)<|bC (lm Gb sp ([]++e1 bM 92)) M 0 U (ar U U T.uS) U (fun H=>u3 (Y:=[]++e1 bM 92) (bl:=fy ([]++e1 bM 54++bl)) H (nw (M.row (i:=2) U) (jG _) aN) (Mem.Aj M (i:=2) U U) M.fact.2.2 (Mem.s7 M ab) (by simp[lc,jG];try omega)) fun tR w _ M=>bo M 1 U (ar U U T.Ay) (AY (Y:=[]++e1 bM 92++fy ([]++e1 bM 54++bl)) (M.row (i:=0) U) (M.bytes 1 U) M.fact.2.2 (by simp[lc,jG];try omega)) fun w M=>bj (i:=7) (cs':=(ao (h7 bM bl)).toArray) M 0 U U (cB (vs:=(ao (h7 bM bl)).toArray) U U U T.fF ((List.size_toArray).trans (dj _▸gL _ _)) (M.row (i:=7) U) (rfl) (fun v aD=>c0 _ v aD)) U fun w M=>aU 0 U fun fr E=>?_;refine gC E U U T.gJ (M.row (i:=7) U) (by simp[gL]) ?_;exact bX M
theorem E3{kv:Value}{bM:List UInt8}{s:ByteArray}{w0:World}(ak:Bytes w0 kv bM)(ab:w0.heap[0]? =some (.cells (a7 bt).toArray 243))(au:bM.length<=1099511627776)(aP:s.size<=100):bH prog 46 [kv,.string s] w0 (.agg (ao (h7 bM s.data.toList)).toArray):=by
 refine enter (n:=9) func46 U U U ?_;intro fr E;have M:=Mem.begin (Φ:=fun w'=>Bytes w' kv bM/\w'.heap[0]? =some (.cells (a7 bt).toArray 243)) (Has.nil w0) (fun w' h=>⟨ak.bU h,fc ab h⟩);refine aV E<|bh (ob:=.cells _ 39) (fun g=>ai g 0) M 0 U (bT U T.gH) fun aZ w M=>cv 2 U fun fr E=>?_;refine Jh E M U U U U U (I0 U U T.Jo T.aG T.K8 aP) fun e5 fr w M E=>?_;refine cw E<|bo M 0 U (ar U U T.FX) (Hv M.fact.1 (M.gv 0 U) M.fact.2 au (by rw[Array.length_toList];exact Nat.le_trans aP aN)) fun w M=>bj (i:=1) (cs':=(ao (h7 bM s.data.toList)).toArray) M 0 U U (cB (vs:=(ao (h7 bM s.data.toList)).toArray) U U U T.fF (by simp[gL]) (M.row (i:=1) U) (rfl) (by simpa using c0 (h7 bM s.data.toList))) U fun w M=>aU 0 U fun fr E=>?_;refine gC E U U T.gJ (M.row (i:=1) U) (by simp[gL]) ?_;exact bX M
end
section
open Go.RowKit Go.a2 Go.Proofs Go.Proofs.Tryz
theorem OV{k:List UInt8}(h:64<k.length):iO k=fy k:=if_pos h
theorem OW{k:List UInt8}(h:¬64<k.length):iO k=k:=if_neg h
theorem Lu{k:List UInt8}{x:UInt8}{i:Nat}(h:i<64):(ao (iZ (gU k) x i))[i*1]? =some (b1 ((gU k).getD i 0).toBitVec):=by
 have:=Dw (x:=x) (k:=k) h
 rwa [Nat.zero_add,List.getElem?_toArray]at this
theorem O0{kv:Value}{bM:List UInt8}{xb:UInt8}{w0:World}(ak:Bytes w0 kv bM)(ab:w0.heap[1]? =some (.cells (a7 bt).toArray 243))(au:bM.length<=1099511627776)(aI:64<bM.length):aY prog 191 [kv,b1 xb.toBitVec] w0 [] (fun s:Value=>s) (fun o=>[.bytes 5 o (e1 bM xb)]) (fun _=>True):=by
 refine enter (n:=65) func191 U U U ?_;intro fr E;have M:=Mem.begin (Φ:=fun w'=>Bytes w' kv bM/\w'.heap[1]? =some (.cells (a7 bt).toArray 243)) (Has.nil w0) (fun w' h=>⟨ak.bU h,fc ab h⟩);refine aV E<|bw 3 U fun fr E=>?_;refine cI (fun d fr w=>d=0/\Env [(6,aa 0),(5,.slice none 0 0),(1,b1 xb.toBitVec),(0,kv)] 65 fr/\Mem w0 (aS []) [] (fun w'=>Bytes w' kv bM/\w'.heap[1]? =some (.cells (a7 bt).toArray 243)) w) (0) ?_ ?_
 ·exact⟨U,E.lL [0,1,5,6] rfl,M⟩
 ·clear E M;rintro d fr w ⟨rfl,E,M⟩;refine bA E<|ah 2 U (bx U U U U T.aG (M.fact.1))<|bD 0 U U ae<|ah 2 U (bx U U U U T.aG (M.fact.1))<|bs 0 U U ae<|ah (v:=.bool _) 0 U U<|ah 2 U (bx U U U U T.aG (M.fact.1))<|bD 0 U U ae<|bo M 2 U (ar U U T.AB) (Cw M.fact.1 M.fact.2 ae) fun w M=>bh (ob:=.cells _ 39) (fun g=>ai g 0) M 0 U (bT U T.gH) fun aZ w M=>bj (i:=0) (cs':=(ao (fy bM)).toArray) M 0 U U (cB (vs:=(ao (fy bM)).toArray) U U U T.fF ((List.size_toArray).trans (dj _▸jG _)) (M.row (i:=0) U) (rfl) (fun v aD=>c0 _ v aD)) U fun w M=>bw 1 U fun fr E=>?_;refine cI (fun d fr w=>∃(i:Nat) (o:Value),d=32-i/\i<=32/\Env [(8,aa (i:Int)),(7,ai aZ 0),(5,o),(1,b1 xb.toBitVec)] 65 fr/\Mem w0 (aS []) [.bytes 5 o ((fy bM).take i),.bb aZ (.cells (ao (fy bM)).toArray 39)] (fun w'=>Bytes w' kv bM/\w'.heap[1]? =some (.cells (a7 bt).toArray 243)) w) (32) ?_ ?_
  ·exact⟨0,_,U,Nat.zero_le _,E.lL [1,5,7,8] rfl,M.jg 5⟩
  ·clear E M;rintro d fr w ⟨i,o,rfl,hle,E,M⟩;by_cases hi:i<32
   ·refine bA E<|bD 1 U U ae<|ah (v:=ai _ (0+i*1)) 3 U (dm (i:=i) U U U (rfl) (hi) T.iB T.bf)<|ah (v:=ag (((fy bM)[i]'(by rw[jG];exact hi)).toNat:Int)) 0 U (aE U U T.cq (M.row (i:=1) U) (by rw[Nat.zero_add,Nat.mul_one,List.getElem?_toArray];exact gx (by rw[jG];exact hi)))<|cv 0 U fun fr E=>?_;refine dM (sz:=1) (xs:=ao [(fy bM)[i]'(by rw[jG];exact hi)]) E M U U U U U (ev (us:=[_]) (vs:=[_]) U U U T.aG T.bf T.gO U U U U U) (rfl) (Nat.le_refl _) aN (rfl) fun t fr w M E=>?_;refine fX (i:=1) E M U U U U U U U U U U U T.aG T.aG T.eh T.ef (M.reads 0 U) (by simp[jG];omega) fun o fr w M E=>?_;refine cw E<|a1 (y:=((i+1:Nat):Int)) 2 U U ((br ae ae).trans ae)<|ct 1 U fun fr E=>?_;exact⟨32-(i+1),by omega,i+1,_,U,by omega,E.lL [1,5,7,8] rfl,(M.sub (L':=[_,_]) (.cons _ (.refl _))).as (by rw[<-List.take_succ_eq_append_getElem])⟩
   ·obtain rfl:i=32:=by omega
    rw[List.take_of_length_le (Nat.le_of_eq (jG bM)),<-OV aI]at M;refine bA E<|ch 1 U U aN<|bw 1 U fun fr E=>?_;refine cI (fun d fr w=>∃(z:Nat) (o:Value),d=64-(iO bM).length-z/\z<=64-(iO bM).length/\Env [(5,o),(1,b1 xb.toBitVec)] 65 fr/\Mem w0 (aS []) [.bytes 5 o (iO bM++List.replicate z 0)] (fun w'=>Bytes w' kv bM/\w'.heap[1]? =some (.cells (a7 bt).toArray 243)) w) (64-(iO bM).length) ?_ ?_
    ·exact⟨0,_,U,Nat.zero_le _,E.lL [1,5] rfl,(M.sub (L':=[_]) (.cons_cons _ (List.nil_sublist _))).as (by simp)⟩
    ·clear E M;rintro d fr w ⟨z,o,rfl,hle,E,M⟩;have tm:=zO bM;by_cases pE:z<64-(iO bM).length
     ·refine bA E<|ah 1 U (bx U U U U T.aG (M.reads 0 U))<|ei 0 U U (decide_eq_true (by simp;omega))<|cv 2 U fun fr E=>?_;refine dM (sz:=1) (xs:=ao [0]) E M U U U U U (ev (us:=[_]) (vs:=[_]) U U U T.aG T.bf T.gO U U U U U) (rfl) (Nat.le_refl _) aN (rfl) fun t fr w M E=>?_;refine fX (i:=1) E M U U U U U U U U U U U T.aG T.aG T.eh T.ef (M.reads 0 U) (by simp;omega) fun o fr w M E=>?_;refine cw E<|ct 1 U fun fr E=>?_;refine⟨64-(iO bM).length-(z+1),by omega,z+1,_,U,by omega,E.lL [1,5] rfl,(M.sub (L':=[_]) (.cons _ (.refl _))).as ?_⟩;rw[List.append_assoc,<-yD]
     ·obtain rfl:z=64-(iO bM).length:=by omega
      refine bA E<|ah 1 U (bx U U U U T.aG (M.reads 0 U))<|ch 0 U U (decide_eq_false (by simp;omega))<|bw 2 U fun fr E=>?_;refine cI (fun d fr w=>∃i:Nat,d=64-i/\i<=64/\Env [(9,aa (i:Int)),(5,o),(1,b1 xb.toBitVec)] 65 fr/\Mem w0 (aS []) [.bytes 5 o (iZ (gU bM) xb i)] (fun w'=>Bytes w' kv bM/\w'.heap[1]? =some (.cells (a7 bt).toArray 243)) w) (64) ?_ ?_
      ·exact⟨0,U,Nat.zero_le _,E.lL [1,5,9] rfl,M⟩
      ·clear E M;rintro d fr w ⟨i,rfl,hle,E,M⟩;have l3:(gU bM).length=64:=lx bM;have R7:=lc bM xb;have qO:(iZ (gU bM) xb i).length=64:=zk.trans l3;by_cases hi:i<64
       ·refine bA E<|ah 2 U (bx U U U U T.aG (M.reads 0 U))<|bD 0 U U ae<|ah 5 U (bL (i:=i) U (M.reads 0 U) U U (rfl) ae T.aG T.bf)<|ah (v:=b1 ((gU bM).getD i 0).toBitVec) 0 U (b2 U (M.reads 0 U) U T.cq (Lu hi))<|a1 1 U U (dx _ _)<|ah 0 U (bL (i:=i) U (M.reads 0 U) U U (rfl) ae T.aG T.bf)<|cv 0 U fun fr E=>?_;refine yW (i:=0) (k:=i) (b:=(gU bM).getD i 0 ^^^ xb) E M U U U U U U U U (rfl) T.bf ae fun fr w M E=>?_;refine cw E<|a1 (y:=((i+1:Nat):Int)) 1 U U ((br ae ae).trans ae)<|ct 1 U fun fr E=>?_;exact⟨64-(i+1),by omega,i+1,U,by omega,E.lL [1,5,9] rfl,M.as (by rw[<-Dx ae];rfl)⟩
       ·obtain rfl:i=64:=by omega
        rw[zj]at M;refine bA E<|ah 2 U (bx U U U U T.aG (M.reads 0 U))<|bs 0 U U ae<|aU 3 U fun fr E=>?_;refine bi E U U ?_;exact⟨_,U,M.fin (.refl _) trivial⟩
theorem O1{kv:Value}{bM:List UInt8}{xb:UInt8}{w0:World}(ak:Bytes w0 kv bM)(ab:w0.heap[1]? =some (.cells (a7 bt).toArray 243))(au:bM.length<=1099511627776)(aI:¬64<bM.length):aY prog 191 [kv,b1 xb.toBitVec] w0 [] (fun s:Value=>s) (fun o=>[.bytes 5 o (e1 bM xb)]) (fun _=>True):=by
 refine enter (n:=65) func191 U U U ?_;intro fr E;have M:=Mem.begin (Φ:=fun w'=>Bytes w' kv bM/\w'.heap[1]? =some (.cells (a7 bt).toArray 243)) (Has.nil w0) (fun w' h=>⟨ak.bU h,fc ab h⟩);refine aV E<|bw 3 U fun fr E=>?_;refine cI (fun d fr w=>∃(i:Nat) (o:Value),d=bM.length-i/\i<=bM.length/\Env [(6,aa (i:Int)),(5,o),(1,b1 xb.toBitVec),(0,kv)] 65 fr/\Mem w0 (aS []) [.bytes 5 o (bM.take i)] (fun w'=>Bytes w' kv bM/\w'.heap[1]? =some (.cells (a7 bt).toArray 243)) w) (bM.length) ?_ ?_
 ·exact⟨0,_,U,Nat.zero_le _,E.lL [0,1,5,6] rfl,M.jg 5⟩
 ·clear E M;rintro d fr w ⟨i,o,rfl,hle,E,M⟩;by_cases hi:i<bM.length
  ·refine bA E<|ah 2 U (bx U U U U T.aG (M.fact.1))<|bD 0 U U ae<|ah 2 U (bx U U U U T.aG (M.fact.1))<|bD 0 U U ae<|ah (v:=.bool _) 0 U U<|ah 4 U (bL (i:=i) U (M.fact.1) U U (rfl) (hi) T.aG T.bf)<|ah (v:=ag ((bM[i]'hi).toNat:Int)) 0 U (b2 U (M.fact.1) U T.cq (by rw[Nat.mul_one];exact gx hi))<|cv 0 U fun fr E=>?_;refine dM (sz:=1) (xs:=ao [bM[i]'hi]) E M U U U U U (ev (us:=[_]) (vs:=[_]) U U U T.aG T.bf T.gO U U U U U) (rfl) (Nat.le_refl _) aN (rfl) fun t fr w M E=>?_;refine fX (i:=1) E M U U U U U U U U U U U T.aG T.aG T.eh T.ef (M.reads 0 U) (by simp;omega) fun o fr w M E=>?_;refine cw E<|a1 (y:=((i+1:Nat):Int)) 2 U U ((br ae ae).trans ae)<|ct 1 U fun fr E=>?_;exact⟨bM.length-(i+1),by omega,i+1,_,U,by omega,E.lL [0,1,5,6] rfl,(M.sub (L':=[_]) (.cons _ (.refl _))).as (by rw[<-List.take_succ_eq_append_getElem])⟩
  ·obtain rfl:i=bM.length:=by omega
   have M:=M.as (L':=[.bytes 5 o (iO bM)]) (by rw[List.take_length,OW aI]);refine bA E<|ah 2 U (bx U U U U T.aG (M.fact.1))<|bs 0 U U ae<|ah (v:=.bool _) 4 U U<|ah 2 U (bx U U U U T.aG (M.fact.1))<|bs 0 U U ae<|bw 1 U fun fr E=>?_;refine cI (fun d fr w=>∃(z:Nat) (o:Value),d=64-(iO bM).length-z/\z<=64-(iO bM).length/\Env [(5,o),(1,b1 xb.toBitVec)] 65 fr/\Mem w0 (aS []) [.bytes 5 o (iO bM++List.replicate z 0)] (fun w'=>Bytes w' kv bM/\w'.heap[1]? =some (.cells (a7 bt).toArray 243)) w) (64-(iO bM).length) ?_ ?_
   ·exact⟨0,_,U,Nat.zero_le _,E.lL [1,5] rfl,(M.sub (L':=[_]) (.cons_cons _ (List.nil_sublist _))).as (by simp)⟩
   ·clear E M;rintro d fr w ⟨z,o,rfl,hle,E,M⟩;have tm:=zO bM;by_cases pE:z<64-(iO bM).length
    ·refine bA E<|ah 1 U (bx U U U U T.aG (M.reads 0 U))<|ei 0 U U (decide_eq_true (by simp;omega))<|cv 2 U fun fr E=>?_;refine dM (sz:=1) (xs:=ao [0]) E M U U U U U (ev (us:=[_]) (vs:=[_]) U U U T.aG T.bf T.gO U U U U U) (rfl) (Nat.le_refl _) aN (rfl) fun t fr w M E=>?_;refine fX (i:=1) E M U U U U U U U U U U U T.aG T.aG T.eh T.ef (M.reads 0 U) (by simp;omega) fun o fr w M E=>?_;refine cw E<|ct 1 U fun fr E=>?_;refine⟨64-(iO bM).length-(z+1),by omega,z+1,_,U,by omega,E.lL [1,5] rfl,(M.sub (L':=[_]) (.cons _ (.refl _))).as ?_⟩;rw[List.append_assoc,<-yD]
    ·obtain rfl:z=64-(iO bM).length:=by omega
     refine bA E<|ah 1 U (bx U U U U T.aG (M.reads 0 U))<|ch 0 U U (decide_eq_false (by simp;omega))<|bw 2 U fun fr E=>?_;refine cI (fun d fr w=>∃i:Nat,d=64-i/\i<=64/\Env [(9,aa (i:Int)),(5,o),(1,b1 xb.toBitVec)] 65 fr/\Mem w0 (aS []) [.bytes 5 o (iZ (gU bM) xb i)] (fun w'=>Bytes w' kv bM/\w'.heap[1]? =some (.cells (a7 bt).toArray 243)) w) (64) ?_ ?_
     ·exact⟨0,U,Nat.zero_le _,E.lL [1,5,9] rfl,M⟩
     ·clear E M;rintro d fr w ⟨i,rfl,hle,E,M⟩;have l3:(gU bM).length=64:=lx bM;have R7:=lc bM xb;have qO:(iZ (gU bM) xb i).length=64:=zk.trans l3;by_cases hi:i<64
      ·refine bA E<|ah 2 U (bx U U U U T.aG (M.reads 0 U))<|bD 0 U U ae<|ah 5 U (bL (i:=i) U (M.reads 0 U) U U (rfl) ae T.aG T.bf)<|ah (v:=b1 ((gU bM).getD i 0).toBitVec) 0 U (b2 U (M.reads 0 U) U T.cq (Lu hi))<|a1 1 U U (dx _ _)<|ah 0 U (bL (i:=i) U (M.reads 0 U) U U (rfl) ae T.aG T.bf)<|cv 0 U fun fr E=>?_;refine yW (i:=0) (k:=i) (b:=(gU bM).getD i 0 ^^^ xb) E M U U U U U U U U (rfl) T.bf ae fun fr w M E=>?_;refine cw E<|a1 (y:=((i+1:Nat):Int)) 1 U U ((br ae ae).trans ae)<|ct 1 U fun fr E=>?_;exact⟨64-(i+1),by omega,i+1,U,by omega,E.lL [1,5,9] rfl,M.as (by rw[<-Dx ae];rfl)⟩
      ·obtain rfl:i=64:=by omega
       rw[zj]at M;refine bA E<|ah 2 U (bx U U U U T.aG (M.reads 0 U))<|bs 0 U U ae<|aU 3 U fun fr E=>?_;refine bi E U U ?_;exact⟨_,U,M.fin (.refl _) trivial⟩
theorem Ev{kv:Value}{bM:List UInt8}{xb:UInt8}{w0:World}(ak:Bytes w0 kv bM)(ab:w0.heap[1]? =some (.cells (a7 bt).toArray 243))(au:bM.length<=1099511627776):aY prog 191 [kv,b1 xb.toBitVec] w0 [] (fun s:Value=>s) (fun o=>[.bytes 5 o (e1 bM xb)]) (fun _=>True):=by
 by_cases aI:64<bM.length
 ·exact O0 ak ab au aI
 ·exact O1 ak ab au aI
theorem Hu{kv bv:Value}{bM bl:List UInt8}{w0:World}(ak:Bytes w0 kv bM)(xM:Bytes w0 bv bl)(ab:w0.heap[1]? =some (.cells (a7 bt).toArray 243))(au:bM.length<=1099511627776)(pE:bl.length<=549755813888):bH prog 160 [kv,bv] w0 (.agg (ao (h7 bM bl)).toArray):=by
 refine enter (n:=40) func160 U U U ?_;intro fr E;have M:=Mem.begin (Φ:=fun w'=>Bytes w' kv bM/\Bytes w' bv bl/\w'.heap[1]? =some (.cells (a7 bt).toArray 243)) (Has.nil w0) (fun w' h=>⟨ak.bU h,xM.bU h,fc ab h⟩);refine aV E<|bh (ob:=.cells _ 39) (fun g=>ai g 0) M 0 U (bT U T.gH) fun aZ w M=>cP M 1 U (ar U U T.FH) (Ev (xb:=54) M.fact.1 M.fact.2.2 au) U fun o w _ M=>bw 2 U fun fr E=>?_;refine cI (fun d fr w=>∃(i:Nat) (o:Value),d=bl.length-i/\i<=bl.length/\Env [(6,aa (i:Int)),(5,o),(4,ai aZ 0),(1,bv),(0,kv)] 40 fr/\Mem w0 (aS []) [.bytes 5 o (e1 bM 54++bl.take i),.bb aZ (.cells (List.replicate 32 (Value.int .u8 0)).toArray 39)] (fun w'=>Bytes w' kv bM/\Bytes w' bv bl/\w'.heap[1]? =some (.cells (a7 bt).toArray 243)) w) (bl.length) ?_ ?_
 ·exact⟨0,_,U,Nat.zero_le _,E.lL [0,1,4,5,6] rfl,M.as (by simp)⟩
 ·clear E M;rintro d fr w ⟨i,o,rfl,hle,E,M⟩;by_cases hi:i<bl.length
  ·refine bA E<|ah 2 U (bx U U U U T.aG (M.fact.2.1))<|bD 0 U U ae<|ah 4 U (bL (i:=i) U (M.fact.2.1) U U (rfl) (hi) T.aG T.bf)<|ah (v:=ag ((bl[i]'hi).toNat:Int)) 0 U (b2 U (M.fact.2.1) U T.cq (by rw[Nat.mul_one];exact gx hi))<|cv 0 U fun fr E=>?_;refine dM (sz:=1) (xs:=ao [bl[i]'hi]) E M U U U U U (ev (us:=[_]) (vs:=[_]) U U U T.aG T.bf T.gO U U U U U) (rfl) (Nat.le_refl _) aN (rfl) fun t fr w M E=>?_;refine fX (i:=1) E M U U U U U U U U U U U T.aG T.aG T.eh T.ef (M.reads 0 U) (by simp[lc];omega) fun o fr w M E=>?_;refine cw E<|a1 (y:=((i+1:Nat):Int)) 2 U U ((br ae ae).trans ae)<|ct 1 U fun fr E=>?_;exact⟨bl.length-(i+1),by omega,i+1,_,U,by omega,E.lL [0,1,4,5,6] rfl,(M.sub (L':=[_,_]) (.cons _ (.refl _))).as (by rw[List.append_assoc,<-List.take_succ_eq_append_getElem])⟩
  ·obtain rfl:i=bl.length:=by omega
   rw[List.take_length]at M;refine bA E<|ah 2 U (bx U U U U T.aG (M.fact.2.1))<|bs 0 U U ae<|bo M 2 U (ar U U T.AB) (Cw (M.bytes 0 U) M.fact.2.2 (by simp[lc];omega)) fun w M=>bh (ob:=.cells _ 39) (fun g=>ai g 0) M 0 U (bT U T.gH) fun bQ w M=>bj (i:=0) (cs':=(ao (fy (e1 bM 54++bl))).toArray) M 0 U U (cB (vs:=(ao (fy (e1 bM 54++bl))).toArray) U U U T.fF ((List.size_toArray).trans (dj _▸jG _)) (M.row (i:=0) U) (rfl) (fun v aD=>c0 _ v aD)) U fun w M=>cP M 1 U (ar U U T.FH) (Ev (xb:=92) M.fact.1 M.fact.2.2 au) U fun vL w _ M=>bw 2 U fun fr E=>?_;refine cI (fun d fr w=>∃(i:Nat) (o:Value),d=32-i/\i<=32/\Env [(8,aa (i:Int)),(7,ai bQ 0),(5,o),(4,ai aZ 0)] 40 fr/\Mem w0 (aS []) [.bytes 5 o (e1 bM 92++(fy (e1 bM 54++bl)).take i),.bb bQ (.cells (ao (fy (e1 bM 54++bl))).toArray 39),.bb aZ (.cells (List.replicate 32 (Value.int .u8 0)).toArray 39)] (fun w'=>Bytes w' kv bM/\Bytes w' bv bl/\w'.heap[1]? =some (.cells (a7 bt).toArray 243)) w) (32) ?_ ?_
   ·have M:=M.aH 3 rfl;have M:=M.aH 2 rfl;have M:=M.aH 2 rfl;exact⟨0,_,U,Nat.zero_le _,E.lL [4,5,7,8] rfl,(M.sub (L':=[_,_,_]) (.cons_cons _ (.cons_cons _ (.cons_cons _ (List.nil_sublist _))))).as (by simp)⟩
   ·clear E M;rintro d fr w ⟨i,o,rfl,hle,E,M⟩;have px:(fy (e1 bM 54++bl)).length=32:=jG _;by_cases hi:i<32
    ·refine bA E<|bD 1 U U ae<|ah (v:=ai _ (0+i*1)) 3 U (dm (i:=i) U U U (rfl) (hi) T.iB T.bf)<|ah (v:=ag (((fy (e1 bM 54++bl))[i]'ae).toNat:Int)) 0 U (aE U U T.cq (M.row (i:=1) U) (by rw[Nat.zero_add,Nat.mul_one,List.getElem?_toArray];exact gx ae))<|cv 0 U fun fr E=>?_;refine dM (sz:=1) (xs:=ao [(fy (e1 bM 54++bl))[i]'ae]) E M U U U U U (ev (us:=[_]) (vs:=[_]) U U U T.aG T.bf T.gO U U U U U) (rfl) (Nat.le_refl _) aN (rfl) fun t fr w M E=>?_;refine fX (i:=1) E M U U U U U U U U U U U T.aG T.aG T.eh T.ef (M.reads 0 U) (by simp[lc,jG];omega) fun o fr w M E=>?_;refine cw E<|a1 (y:=((i+1:Nat):Int)) 2 U U ((br ae ae).trans ae)<|ct 1 U fun fr E=>?_;exact⟨32-(i+1),by omega,i+1,_,U,by omega,E.lL [4,5,7,8] rfl,(M.sub (L':=[_,_,_]) (.cons _ (.refl _))).as (by rw[List.append_assoc,<-List.take_succ_eq_append_getElem])⟩
    ·obtain rfl:i=32:=by omega
     rw[List.take_of_length_le (Nat.le_of_eq px)]at M;refine bA E<|ch 1 U U aN<|bo M 2 U (ar U U T.AB) (Cw (M.bytes 0 U) M.fact.2.2 (by simp[lc,jG])) fun w M=>bj (i:=2) (cs':=(ao (h7 bM bl)).toArray) M 0 U U (cB (vs:=(ao (h7 bM bl)).toArray) U U U T.fF ((List.size_toArray).trans (dj _▸gL _ _)) (M.row (i:=2) U) (rfl) (fun v aD=>c0 _ v aD)) U fun w M=>aU 0 U fun fr E=>?_;refine gC E U U T.gJ (M.row (i:=2) U) (by simp[gL]) ?_;exact bX M
theorem E2{kv:Value}{bM:List UInt8}{s:ByteArray}{w0:World}(ak:Bytes w0 kv bM)(ab:w0.heap[1]? =some (.cells (a7 bt).toArray 243))(au:bM.length<=1099511627776)(aP:s.size<=100):bH prog 99 [kv,.string s] w0 (.agg (ao (h7 bM s.data.toList)).toArray):=by
 refine enter (n:=9) func99 U U U ?_;intro fr E;have M:=Mem.begin (Φ:=fun w'=>Bytes w' kv bM/\w'.heap[1]? =some (.cells (a7 bt).toArray 243)) (Has.nil w0) (fun w' h=>⟨ak.bU h,fc ab h⟩);refine aV E<|bh (ob:=.cells _ 39) (fun g=>ai g 0) M 0 U (bT U T.gH) fun aZ w M=>cv 2 U fun fr E=>?_;refine Jh E M U U U U U (I0 U U T.Jo T.aG T.K8 aP) fun e5 fr w M E=>?_;refine cw E<|bo M 0 U (ar U U T.FC) (Hu M.fact.1 (M.gv 0 U) M.fact.2 au (by rw[Array.length_toList];exact Nat.le_trans aP aN)) fun w M=>bj (i:=1) (cs':=(ao (h7 bM s.data.toList)).toArray) M 0 U U (cB (vs:=(ao (h7 bM s.data.toList)).toArray) U U U T.fF (by simp[gL]) (M.row (i:=1) U) (rfl) (by simpa using c0 (h7 bM s.data.toList))) U fun w M=>aU 0 U fun fr E=>?_;refine gC E U U T.gJ (M.row (i:=1) U) (by simp[gL]) ?_;exact bX M
end
section
open Go.RowKit Go.a2 Go.Proofs Go.Proofs.Tryz
abbrev dS:=BitVec 8
def eL(b:dS):dS:=if b &&& 128#8=0#8 then b <<< 1 else b <<< 1 ^^^ 27#8
def ue(b:dS):Nat->dS
 |0=>b
 |i+1=>eL (ue b i)
def gl(a b:dS):Nat->dS
 |0=>0#8
 |i+1=>if(a >>> i).toNat%2=1 then gl a b i ^^^ ue b i else gl a b i
def yq:List Nat:=[1,3,5,15,17,51,85,255,26,46,114,150,161,248,19,53,95,225,56,72,216,115,149,164,247,2,6,10,30,34,102,170,229,52,92,228,55,89,235,38,106,190,217,112,144,171,230,49,83,245,4,12,20,60,68,204,79,209,104,184,211,110,178,205,76,212,103,169,224,59,77,215,98,166,241,8,24,40,120,136,131,158,185,208,107,189,220,127,129,152,179,206,73,219,118,154,181,196,87,249,16,48,80,240,11,29,39,105,187,214,97,163,254,25,43,125,135,146,173,236,47,113,147,174,233,32,96,160,251,22,58,78,210,109,183,194,93,231,50,86,250,21,63,65,195,94,226,61,71,201,64,192,91,237,44,116,156,191,218,117,159,186,213,100,172,239,42,126,130,157,188,223,122,142,137,128,155,182,193,88,232,35,101,175,234,37,111,177,200,67,197,84,252,31,33,99,165,244,7,9,27,45,119,153,176,203,70,202,69,207,74,222,121,139,134,145,168,227,62,66,198,81,243,14,18,54,90,238,41,123,141,140,143,138,133,148,167,242,13,23,57,75,221,124,132,151,162,253,28,36,108,180,199,82,246,1]
def Vr:List Nat:=[1,246,82,199,180,108,36,28,253,162,151,132,124,221,75,57,23,13,242,167,148,133,138,143,140,141,123,41,238,90,54,18,14,243,81,198,66,62,227,168,145,134,139,121,222,74,207,69,202,70,203,176,153,119,45,27,9,7,244,165,99,33,31,252,84,197,67,200,177,111,37,234,175,101,35,232,88,193,182,155,128,137,142,122,223,188,157,130,126,42,239,172,100,213,186,159,117,218,191,156,116,44,237,91,192,64,201,71,61,226,94,195,65,63,21,250,86,50,231,93,194,183,109,210,78,58,22,251,160,96,32,233,174,147,113,47,236,173,146,135,125,43,25,254,163,97,214,187,105,39,29,11,240,80,48,16,249,87,196,181,154,118,219,73,206,179,152,129,127,220,189,107,208,185,158,131,136,120,40,24,8,241,166,98,215,77,59,224,169,103,212,76,205,178,110,211,184,104,209,79,204,68,60,20,12,4,245,83,49,230,171,144,112,217,190,106,38,235,89,55,228,92,52,229,170,102,34,30,10,6,2,247,164,149,115,216,72,56,225,95,53,19,248,161,150,114,46,26,255,85,51,17,15,5,3,1]
def W2:List Nat:=[99,124,119,123,242,107,111,197,48,1,103,43,254,215,171,118,202,130,201,125,250,89,71,240,173,212,162,175,156,164,114,192,183,253,147,38,54,63,247,204,52,165,229,241,113,216,49,21,4,199,35,195,24,150,5,154,7,18,128,226,235,39,178,117,9,131,44,26,27,110,90,160,82,59,214,179,41,227,47,132,83,209,0,237,32,252,177,91,106,203,190,57,74,76,88,207,208,239,170,251,67,77,51,133,69,249,2,127,80,60,159,168,81,163,64,143,146,157,56,245,188,182,218,33,16,255,243,210,205,12,19,236,95,151,68,23,196,167,126,61,100,93,25,115,96,129,79,220,34,42,144,136,70,238,184,20,222,94,11,219,224,50,58,10,73,6,36,92,194,211,172,98,145,149,228,121,231,200,55,109,141,213,78,169,108,86,244,234,101,122,174,8,186,120,37,46,28,166,180,198,232,221,116,31,75,189,139,138,112,62,181,102,72,3,246,14,97,53,87,185,134,193,29,158,225,248,152,17,105,217,142,148,155,30,135,233,206,85,40,223,140,161,137,13,191,230,66,104,65,153,45,15,176,84,187,22]
def tt:List Nat:=[0,1,141,246,203,82,123,209,232,79,41,192,176,225,229,199,116,180,170,75,153,43,96,95,88,63,253,204,255,64,238,178,58,110,90,241,85,77,168,201,193,10,152,21,48,68,162,194,44,69,146,108,243,57,102,66,242,53,32,111,119,187,89,25,29,254,55,103,45,49,245,105,167,100,171,19,84,37,233,9,237,92,5,202,76,36,135,191,24,62,34,240,81,236,97,23,22,94,175,211,73,166,54,67,244,71,145,223,51,147,33,59,121,183,151,133,16,181,186,60,182,112,208,6,161,250,129,130,131,126,127,128,150,115,190,86,155,158,149,217,247,2,185,164,222,106,50,109,216,138,132,114,42,20,159,136,249,220,137,154,251,124,46,195,143,184,101,72,38,200,18,74,206,231,210,98,12,224,31,239,17,117,120,113,165,142,118,61,189,188,134,87,11,40,47,163,218,212,228,15,169,39,83,4,27,252,172,230,122,7,174,99,197,219,226,234,148,139,196,213,157,248,144,107,177,13,214,235,198,14,207,173,8,78,215,227,93,80,30,179,91,35,56,52,104,70,3,140,221,156,125,160,205,26,65,28]
def dE(i:Nat):dS:=BitVec.ofNat 8 (yq.getD i 0)
def jm(i:Nat):dS:=BitVec.ofNat 8 (Vr.getD i 0)
def fx(b:dS):dS:=BitVec.ofNat 8 (W2.getD b.toNat 0)
def r5(b:dS):dS:=BitVec.ofNat 8 (tt.getD b.toNat 0)
def ep:List UInt8:=(List.range 256).map fun i=>⟨fx (BitVec.ofNat 8 i)⟩
theorem oN:ep.length=256:=by simp[ep]
def tU(x:dS):Nat->dS
 |0=>x ^^^ 99#8
 |1=>x ^^^ 99#8
 |n+2=>tU x (n+1)^^^(x <<<(n+1)||| x >>>(8-(n+1)))
theorem WN{x:dS}{n:Nat}(h:1<=n):tU x (n+1)=tU x n ^^^(x <<< n ||| x >>>(8-n)):=by
 obtain⟨m,rfl⟩:∃m,n=m+1:=⟨n-1,by omega⟩
 rfl
def p8(q:dS):dS:=q ^^^(q <<< 1 ||| q >>> 7)^^^(q <<< 2 ||| q >>> 6)^^^(q <<< 3 ||| q >>> 5)^^^(q <<< 4 ||| q >>> 4)^^^ 99#8
def l9(q:dS):dS:=(q ^^^ q <<< 1 ^^^(q ^^^ q <<< 1)<<< 2)^^^(q ^^^ q <<< 1 ^^^(q ^^^ q <<< 1)<<< 2)<<< 4
theorem _root_.Go.a2.pZ(c:BitVec 8){k:Int}{d:BitVec 8}(h:BitVec.ofInt 8 k=d):IntKind.wrap .u8 ((BitVec.ofInt 8 (a2.cU c)^^^ BitVec.ofInt 8 k).toNat:Int)=a2.cU (c ^^^ d):=by rw[h,mG];exact wZ _
theorem _root_.Go.a2.sS(c:BitVec 8){k:Int}{d:BitVec 8}(h:BitVec.ofInt 8 k=d):IntKind.wrap .u8 ((BitVec.ofInt 8 (a2.cU c)&&& BitVec.ofInt 8 k).toNat:Int)=a2.cU (c &&& d):=by rw[h,mG];exact wZ _
theorem ry{p:dS->Bool}(h:(List.range 256).all (fun i=>p (BitVec.ofNat 8 i))=true)(b:dS):p b=true:=by
 have:=List.all_eq_true.1 h b.toNat (List.mem_range.2 b.isLt);simpa using this
theorem Db{x:dS}(h:x=0#8):(!decide (a2.cU x=0))=false:=by subst h;rfl
theorem Dd{x:dS}(h:¬x=0#8):(!decide (a2.cU x=0))=true:=by
 have:¬a2.cU x=0:=fun c=>h (BitVec.eq_of_toNat_eq (by unfold a2.cU at c;simpa using c));rw[decide_eq_false this];rfl
theorem Dc{x:dS}(h:x=1#8):decide (a2.cU x=1)=true:=by subst h;rfl
theorem De{x:dS}(h:¬x=1#8):decide (a2.cU x=1)=false:=decide_eq_false fun c=>h (BitVec.eq_of_toNat_eq (by
 unfold a2.cU at c;have e:(1#8).toNat=1:=rfl;rw[e];omega))
theorem K5(b:dS):b &&& 128#8=0#8↔b.toNat<128:=by
 have:=ry (p:=fun b=>decide (b &&& 128#8=0#8↔b.toNat<128)) (by decide+kernel) b;simpa using this
theorem xj(i:Nat):IntKind.wrap .u8 (i:Int)=a2.cU (BitVec.ofNat 8 i):=by
 rw[zh];unfold a2.cU;rw[BitVec.toNat_ofNat];show(i:Int)%256=((i%256:Nat):Int)
 omega
theorem WM(b:dS):tU (r5 b) 5=fx b:=by
 have:=ry (p:=fun b=>decide (tU (r5 b) 5=fx b)) (by decide+kernel) b;exact of_decide_eq_true this
theorem W3{i:Nat}(h:i<256):ep.take i++[⟨fx (BitVec.ofNat 8 i)⟩]=ep.take (i+1):=by
 rw[List.take_succ_eq_append_getElem (by rw[oN];exact h)];congr 2;unfold ep;rw[List.getElem_map,List.getElem_range]
def Df(n:Nat):Nat:=bif Nat.blt n 128 then n*2 else Nat.xor (n*2-256) 27
def Dg(n:Nat):Nat->Nat
 |0=>n
 |i+1=>Df (Dg n i)
def sV(n:Nat):Nat->List Nat
 |0=>[]
 |i+1=>Dg n i::sV n i
def se:List Nat->List Nat
 |[]=>[0]
 |c::r=>se r++(se r).map fun x=>Nat.xor x c
theorem Z0(b:dS):(eL b).toNat=Df b.toNat:=by
 have:=ry (p:=fun b=>(eL b).toNat==Df b.toNat) (by decide+kernel) b;simpa using this
theorem K4(b:dS):∀i,(ue b i).toNat=Dg b.toNat i
 |0=>rfl
 |i+1=>by rw[ue,Z0,K4 b i];rfl
theorem yv(b:Nat):∀i,(se (sV b i)).length=2^i
 |0=>rfl
 |i+1=>by rw[sV,se,List.length_append,List.length_map,yv b i,Nat.pow_succ];omega
theorem HC{a a' b:dS}:∀i,(∀j,j<i->(a >>> j).toNat%2=(a' >>> j).toNat%2)->gl a b i=gl a' b i
 |0,_=>rfl
 |i+1,h=>by rw[gl,gl,h i (Nat.lt_succ_self _),HC i fun j ax=>h j ae]
theorem w1{a j:Nat}(h:a<256):((BitVec.ofNat 8 a)>>> j).toNat%2=a/2^j%2:=by
 rw[BitVec.toNat_ushiftRight,BitVec.toNat_ofNat,Nat.mod_eq_of_lt h,Nat.shiftRight_eq_div_pow]
theorem OU{a i j:Nat}(ax:j<i)(aj:2^i<=a):a/2^j%2=(a-2^i)/2^j%2:=by
 obtain⟨k,rfl⟩:∃k,i=j+1+k:=⟨i-(j+1),by omega⟩
 obtain⟨c,rfl⟩:∃c,a=c+2^(j+1+k):=⟨a-2^(j+1+k),by omega⟩
 rw[Nat.add_sub_cancel,show 2^(j+1+k)=2^j*(2*2^k) by rw[Nat.pow_add,Nat.pow_succ,Nat.mul_assoc],Nat.add_mul_div_left _ _ (Nat.pow_pos aN),Nat.add_mul_mod_self_left]
theorem BP{b:dS}:∀{i:Nat},i<=8->∀{a:Nat},a<2^i->(se (sV b.toNat i))[a]? =some (gl (BitVec.ofNat 8 a) b i).toNat
 |0,_,a,h=>by
  obtain rfl:a=0:=by simpa using h
  rfl
 |i+1,hi,a,h=>by
  have qz:2^(i+1)<=2^8:=Nat.pow_le_pow_right aN hi;have bm:a<256:=by have:(2:Nat)^8=256:=rfl;omega
  rw[sV,se];by_cases aI:a<2^i
  ·rw[List.getElem?_append_left (by rw[yv];exact aI),BP ae aI,gl,if_neg (by rw[w1 bm,Nat.div_eq_of_lt aI];decide)]
  ·have hp:2^(i+1)=2^i+2^i:=by rw[Nat.pow_succ];omega
   have aP:a-2^i<2^i:=by omega
   rw[List.getElem?_append_right (by rw[yv];omega),yv,List.getElem?_map,BP ae aP,gl,if_pos (by rw[w1 bm,show a/2^i=1 from Nat.div_eq_of_lt_le ae ae]),BitVec.toNat_xor,K4,HC (a:=BitVec.ofNat 8 a) (a':=BitVec.ofNat 8 (a-2^i)) i fun j ax=>by rw[w1 bm,w1 ae,OU ax ae]];rfl
def PQ(b:Nat):Bool:=((se (sV b 8)).zipIdx 0).all fun p=>Nat.beq p.2 0|| !(Nat.beq p.1 1)||Nat.beq p.2 (tt.getD b 0)
theorem PR:(List.range 256).all PQ=true:=by decide+kernel
theorem Tj{b:dS}{i:Nat}(aj:1<=i)(hi:i<256)(he:gl (BitVec.ofNat 8 i) b 8=1#8):r5 b=BitVec.ofNat 8 i:=by
 have an:=List.all_eq_true.1 PR b.toNat (List.mem_range.2 b.isLt);have aB:=BP (b:=b) (Nat.le_refl 8) (a:=i) hi;rw[he]at aB;have be:=List.all_eq_true.1 an (1,i) (List.mem_zipIdx_iff_getElem?.2 aB);have e:i=tt.getD b.toNat 0:=by
  simp only[Bool.or_eq_true,Bool.not_eq_true',Nat.beq_eq]at be;rcases be with(be|be)|be
  ·omega
  ·cases be
  ·exact be
 rw[r5,<-e]
theorem Ti:(List.range 256).all (fun b=>Nat.beq b 0||(Nat.ble 1 (tt.getD b 0)&&Nat.ble (tt.getD b 0) 255&&decide (gl (BitVec.ofNat 8 (tt.getD b 0)) (BitVec.ofNat 8 b) 8=1#8)))=true:=by decide+kernel
theorem Th{b:dS}(h:∀j,1<=j->j<256->¬gl (BitVec.ofNat 8 j) b 8=1#8):b=0#8:=by
 have an:=List.all_eq_true.1 Ti b.toNat (List.mem_range.2 b.isLt);simp only[Bool.or_eq_true,Bool.and_eq_true,Nat.beq_eq,Nat.ble_eq,decide_eq_true_eq]at an;rcases an with an|⟨⟨an,aB⟩,be⟩
 ·exact BitVec.eq_of_toNat_eq an
 ·rw[BitVec.ofNat_toNat,BitVec.setWidth_eq]at be;exact absurd be (h _ an ae)
def yA(i:Nat):Bool:=decide (dE i ^^^ eL (dE i)=dE (i+1))&&(if l9 (jm i)&&& 128#8=0#8 then decide (fx (dE (i+1))=p8 (l9 (jm i)))&&decide (l9 (jm i)=jm (i+1))else decide (fx (dE (i+1))=p8 (l9 (jm i)^^^ 9#8))&&decide (l9 (jm i)^^^ 9#8=jm (i+1)))&&(Nat.beq i 254||decide (¬dE (i+1)=1#8))
theorem B6:(List.range 255).all yA=true:=by decide+kernel
theorem V3{i:Nat}(h:i<255):dE i ^^^ eL (dE i)=dE (i+1)/\(l9 (jm i)&&& 128#8=0#8->l9 (jm i)=jm (i+1))/\(¬l9 (jm i)&&& 128#8=0#8->l9 (jm i)^^^ 9#8=jm (i+1)):=by
 have an:=List.all_eq_true.1 B6 i (List.mem_range.2 h);unfold yA at an;simp only[Bool.and_eq_true,decide_eq_true_eq]at an;refine⟨an.1.1,fun c=>?_,fun c=>?_⟩
 ·have:=an.1.2;rw[if_pos c]at this;simp only[Bool.and_eq_true,decide_eq_true_eq]at this;exact this.2
 ·have:=an.1.2;rw[if_neg c]at this;simp only[Bool.and_eq_true,decide_eq_true_eq]at this;exact this.2
theorem HB{i:Nat}(h:i<255)(aI:¬i=254):¬dE (i+1)=1#8:=by
 have an:=List.all_eq_true.1 B6 i (List.mem_range.2 h);unfold yA at an;simp only[Bool.and_eq_true,Bool.or_eq_true,Nat.beq_eq,decide_eq_true_eq]at an;exact an.2.resolve_left aI
theorem Hj{i:Nat}(h:i=254):dE (i+1)=1#8:=by subst h;decide+kernel
theorem Od{i:Nat}(h:i<255){q:dS}(bE:q=jm (i+1)):p8 q=fx (dE (i+1)):=by
 have an:=List.all_eq_true.1 B6 i (List.mem_range.2 h);unfold yA at an;simp only[Bool.and_eq_true,decide_eq_true_eq]at an;have aB:=an.1.2;subst bE;split at aB
 ·simp only[Bool.and_eq_true,decide_eq_true_eq]at aB;rw[<-aB.2,aB.1]
 ·simp only[Bool.and_eq_true,decide_eq_true_eq]at aB;rw[<-aB.2,aB.1]
theorem sy{tl:List UInt8}{i:Nat}{x:dS}:((ao tl).toArray.toList.set (0+i*1) (b1 x)).toArray=(ao (tl.set i ⟨x⟩)).toArray:=by
 rw[Nat.zero_add,Nat.mul_one];simp only[ao,List.map_set];rfl
theorem y8{tl:List UInt8}{i:Nat}{q p':dS}(h:i<255)(aI:tl.length=256)(ak:∀j,1<=j->j<=i->tl[(dE j).toNat]? =some ⟨fx (dE j)⟩)(bE:q=jm (i+1))(hp:p'=dE (i+1)):∀j,1<=j->j<=i+1->(tl.set p'.toNat ⟨p8 q⟩)[(dE j).toNat]? =some ⟨fx (dE j)⟩:=by
 subst hp;intro j aj an;by_cases aJ:(dE (i+1)).toNat=(dE j).toNat
 ·have e:dE (i+1)=dE j:=BitVec.eq_of_toNat_eq aJ;have h5:(dE j).toNat<tl.length:=by rw[aI];exact(dE j).isLt
  rw[aJ,List.getElem?_set_self h5,Od h bE,e]
 ·rw[List.getElem?_set_ne aJ];refine ak j aj ?_;rcases Nat.lt_or_eq_of_le an with aB|rfl
  ·omega
  ·exact absurd U aJ
theorem cover:(List.range 255).all (fun v=>(yq.drop 1).contains (v+1))=true:=by decide+kernel
theorem K3{X:List UInt8}(bS:X.length=256)(h:∀j,1<=j->j<=255->X[(dE j).toNat]? =some ⟨fx (dE j)⟩):X.set 0 ⟨99#8⟩=ep:=by
 refine List.ext_getElem? fun v=>?_;by_cases aD:v<256
 ·have e:ep[v]? =some ⟨fx (BitVec.ofNat 8 v)⟩:=by
   unfold ep;rw[List.getElem?_map,List.getElem?_range aD];rfl
  rw[e];by_cases bG:v=0
  ·subst bG;rw[List.getElem?_set_self ae];rfl
  ·rw[List.getElem?_set_ne ae];have aJ:=List.all_eq_true.1 cover (v-1) (List.mem_range.2 ae);rw[show v-1+1=v by omega]at aJ;obtain⟨k,ab,he⟩:=List.getElem_of_mem (List.contains_iff_mem.1 aJ);have m4:k<255:=by
    have:(yq.drop 1).length=255:=by decide+kernel
    omega
   have hp:dE (k+1)=BitVec.ofNat 8 v:=by
    unfold dE;rw[List.getElem_drop]at he;rw[List.getD_eq_getElem?_getD,show k+1=1+k by omega,List.getElem?_eq_getElem (by(have:yq.length=256:=by decide+kernel);omega),he];rfl
   have:=h (k+1) ae ae;rw[hp,BitVec.toNat_ofNat,Nat.mod_eq_of_lt aD]at this;exact this
 ·rw[List.getElem?_eq_none (by rw[List.length_set];omega),List.getElem?_eq_none (by rw[oN];omega)]
end
section
open Go.RowKit Go.a2 Go.Proofs Go.Proofs.Tryz
theorem Z5{b:dS}{w0:World}(h:¬b &&& 128#8=0#8):bH prog 98 [b1 b] w0 (b1 (eL b)):=by
 refine enter (n:=11) func98 U U U ?_;intro fr E;have M:=ht (Has.nil w0);refine aV E<|ah (v:=b1 (0#8)) 0 U (hT U)<|a1 1 U U (sS _ (k:=128) U)<|ei 0 U U (Dd h)<|ah 2 U (fO (q:=1) U U U aN (g4 _ 1))<|a1 0 U U (pZ _ (k:=27) U)<|aU 1 U fun fr E=>?_;refine bi E U U ?_;rw[eL,if_neg h];exact bX M
theorem Z4{b:dS}{w0:World}(h:b &&& 128#8=0#8):bH prog 98 [b1 b] w0 (b1 (eL b)):=by
 refine enter (n:=11) func98 U U U ?_;intro fr E;have M:=ht (Has.nil w0);refine aV E<|ah (v:=b1 (0#8)) 0 U (hT U)<|a1 1 U U (sS _ (k:=128) U)<|ch 0 U U (Db h)<|ah 2 U (fO (q:=1) U U U aN (g4 _ 1))<|aU 1 U fun fr E=>?_;refine bi E U U ?_;rw[eL,if_pos h];exact bX M
theorem uf{b:dS}{w0:World}:bH prog 98 [b1 b] w0 (b1 (eL b)):=by
 by_cases h:b &&& 128#8=0#8
 ·exact Z4 h
 ·exact Z5 h
theorem Z3{b:dS}{w0:World}(h:¬b &&& 128#8=0#8):bH prog 162 [b1 b] w0 (b1 (eL b)):=by
 refine enter (n:=11) func162 U U U ?_;intro fr E;have M:=ht (Has.nil w0);refine aV E<|ah (v:=b1 (0#8)) 0 U (hT U)<|ah 1 U (fO (q:=1) U U U aN (g4 _ 1))<|ei 2 U U (decide_eq_true (by have:=mt (K5 b).2 h;unfold a2.cU;omega))<|a1 2 U U (pZ _ (k:=27) U)<|aU 3 U fun fr E=>?_;refine bi E U U ?_;rw[eL,if_neg h];exact bX M
theorem Z2{b:dS}{w0:World}(h:b &&& 128#8=0#8):bH prog 162 [b1 b] w0 (b1 (eL b)):=by
 refine enter (n:=11) func162 U U U ?_;intro fr E;have M:=ht (Has.nil w0);refine aV E<|ah (v:=b1 (0#8)) 0 U (hT U)<|ah 1 U (fO (q:=1) U U U aN (g4 _ 1))<|ch 2 U U (decide_eq_false (by have:=(K5 b).1 h;unfold a2.cU;omega))<|aU 3 U fun fr E=>?_;refine bi E U U ?_;rw[eL,if_pos h];exact bX M
theorem Dh{b:dS}{w0:World}:bH prog 162 [b1 b] w0 (b1 (eL b)):=by
 by_cases h:b &&& 128#8=0#8
 ·exact Z2 h
 ·exact Z3 h
theorem oU{a b:dS}{w0:World}:bH prog 220 [b1 a,b1 b] w0 (b1 (gl a b 8)):=by
 refine enter (n:=23) func220 U U U ?_;intro fr E;have M:=ht (Has.nil w0);refine aV E<|ah (v:=b1 (0#8)) 0 U (hT U)<|ah (v:=b1 (0#8)) 0 U (hT U)<|bw 1 U fun fr E=>?_;refine cI (fun d fr w=>∃i:Nat,d=8-i/\i<=8/\Env [(6,aa (i:Int)),(5,b1 (gl a b i)),(1,b1 (ue b i)),(0,b1 a)] 23 fr/\Mem w0 (aS []) [] (fun _=>True) w) (8) ?_ ?_
 ·exact⟨0,U,Nat.zero_le _,E.lL [0,1,5,6] rfl,M⟩
 ·clear E M;rintro d fr w ⟨i,rfl,hle,E,M⟩;by_cases hi:i<8
  ·by_cases Gl:(a >>> i).toNat%2=1
   ·refine bA E<|bD 1 U U ae<|a1 (y:=(i:Int)) 3 U U (mM ae ae)<|ah 0 U (hV (q:=i) U U U (show i<=8 by omega))<|a1 (y:=(((a >>> i).toNat%2:Nat):Int)) 0 U U (kb _ _)<|bD 0 U U ae<|a1 3 U U (dx _ _)<|bo M 2 U (ar U U T.Az) (Dh) fun w M=>a1 (y:=((i+1:Nat):Int)) 2 U U ((br ae ae).trans ae)<|ct 1 U fun fr E=>?_;refine⟨8-(i+1),by omega,i+1,U,by omega,?_,M⟩;rw[gl,if_pos Gl];exact((((Env.nil E).add E (t:=0) U).add E (t:=1) U).add E (t:=5) U).add E (t:=6) U
   ·refine bA E<|bD 1 U U ae<|a1 (y:=(i:Int)) 3 U U (mM ae ae)<|ah 0 U (hV (q:=i) U U U (show i<=8 by omega))<|a1 (y:=(((a >>> i).toNat%2:Nat):Int)) 0 U U (kb _ _)<|bs 0 U U ae<|bo M 2 U (ar U U T.Az) (Dh) fun w M=>a1 (y:=((i+1:Nat):Int)) 2 U U ((br ae ae).trans ae)<|ct 1 U fun fr E=>?_;refine⟨8-(i+1),by omega,i+1,U,by omega,?_,M⟩;rw[gl,if_neg Gl];exact((((Env.nil E).add E (t:=0) U).add E (t:=1) U).add E (t:=5) U).add E (t:=6) U
  ·obtain rfl:i=8:=by omega
   refine bA E<|ch 1 U U aN<|aU 3 U fun fr E=>?_;refine bi E U U ?_;exact bX M
theorem Tk{b:dS}{w0:World}:bH prog 210 [b1 b] w0 (b1 (r5 b)):=by
 refine enter (n:=15) func210 U U U ?_;intro fr E;have M:=ht (Has.nil w0);refine aV E<|ah (v:=b1 (0#8)) 0 U (hT U)<|bw 1 U fun fr E=>?_;refine cI (fun d fr w=>∃i:Nat,d=256-i/\1<=i/\i<=256/\(∀j,1<=j->j<i->¬gl (BitVec.ofNat 8 j) b 8=1#8)/\Env [(3,aa (i:Int)),(0,b1 b)] 15 fr/\Mem w0 (aS []) [] (fun _=>True) w) (255) ?_ ?_
 ·exact⟨1,U,Nat.le_refl _,by decide,fun j aj an=>absurd aj ae,E.lL [0,3] rfl,M⟩
 ·clear E M;rintro d fr w ⟨i,rfl,aj,hle,eB,E,M⟩;by_cases hi:i<256
  ·by_cases he:gl (BitVec.ofNat 8 i) b 8=1#8
   ·refine bA E<|bD 1 U U ae<|ah (v:=b1 (BitVec.ofNat 8 i)) 2 U (num U (xj i))<|bo M 1 U (ar U U T.oq) (oU) fun w M=>ei 0 U U (Dc he)<|ah (v:=b1 (BitVec.ofNat 8 i)) 2 U (num U (xj i))<|aU 1 U fun fr E=>?_;refine bi E U U ?_;rw[Tj aj hi he];exact bX M
   ·refine bA E<|bD 1 U U ae<|ah (v:=b1 (BitVec.ofNat 8 i)) 2 U (num U (xj i))<|bo M 1 U (ar U U T.oq) (oU) fun w M=>ch 0 U U (De he)<|a1 (y:=((i+1:Nat):Int)) 2 U U ((br ae ae).trans ae)<|ct 1 U fun fr E=>?_;refine⟨256-(i+1),by omega,i+1,U,by omega,by omega,fun j aj an=>?_,E.lL [0,3] rfl,M⟩;rcases Nat.lt_or_eq_of_le (Nat.le_of_lt_succ an)with h|rfl
    ·exact eB j aj h
    ·exact he
  ·obtain rfl:i=256:=by omega
   refine bA E<|ch 1 U U aN<|ah (v:=b1 (0#8)) 1 U (hT U)<|aU 0 U fun fr E=>?_;refine bi E U U ?_;have au:=Th eB;subst au;exact bX M
theorem Ni{b:dS}{w0:World}:bH prog 193 [b1 b] w0 (b1 (fx b)):=by
 refine enter (n:=25) func193 U U U ?_;intro fr E;have M:=ht (Has.nil w0);refine aV E<|ah (v:=b1 (0#8)) 0 U (hT U)<|bo M 1 U (ar U U T.QP) (Tk) fun w M=>a1 2 U U (pZ _ (k:=99) U)<|ah (v:=v64 (1#64)) 1 U (hT U)<|bw 0 U fun fr E=>?_;refine cI (fun d fr w=>∃n:Nat,d=5-n/\1<=n/\n<=5/\Env [(5,ab0 (n:Int)),(4,b1 (tU (r5 b) n)),(3,b1 (r5 b))] 25 fr/\Mem w0 (aS []) [] (fun _=>True) w) (4) ?_ ?_
 ·exact⟨1,U,Nat.le_refl _,by decide,E.lL [3,4,5] rfl,M⟩
 ·clear E M;rintro d fr w ⟨n,rfl,aj,hle,E,M⟩;by_cases hi:n<=4
  ·refine bA E<|bD 1 U U ae<|ah 4 U (fO (q:=n) U U U (show n<=8 by omega) (g4 _ _))<|a1 (y:=((8-n:Nat):Int)) 2 U U ((mM ae ae).trans ae)<|ah 0 U (hV (q:=8-n) U U U (show 8-n<=8 by omega))<|a1 0 U U (kt _ _)<|a1 0 U U (dx _ _)<|a1 (y:=((n+1:Nat):Int)) 2 U U ((mM ae ae).trans ae)<|ct 1 U fun fr E=>?_;refine⟨5-(n+1),by omega,n+1,U,by omega,by omega,?_,M⟩;rw[WN aj];exact(((Env.nil E).add E (t:=3) U).add E (t:=4) U).add E (t:=5) U
  ·obtain rfl:n=5:=by omega
   refine bA E<|ch 1 U U aN<|aU 3 U fun fr E=>?_;refine bi E U U ?_;rw[WM];exact bX M
theorem NI(w0:World):aY prog 161 [] w0 [] (fun s:Value=>s) (fun o=>[.bytes 5 o ep]) (fun _=>True):=by
 refine enter (n:=14) func161 U U U ?_;intro fr E;have M:=ht (Has.nil w0);refine aV E<|bw 3 U fun fr E=>?_;refine cI (fun d fr w=>∃(i:Nat) (o:Value),d=256-i/\i<=256/\Env [(2,aa (i:Int)),(1,o)] 14 fr/\Mem w0 (aS []) [.bytes 5 o (ep.take i)] (fun _=>True) w) (256) ?_ ?_
 ·exact⟨0,_,U,Nat.zero_le _,E.lL [1,2] rfl,M.jg 5⟩
 ·clear E M;rintro d fr w ⟨i,o,rfl,hle,E,M⟩;by_cases hi:i<256
  ·refine bA E<|bD 1 U U ae<|ah (v:=b1 (BitVec.ofNat 8 i)) 3 U (num U (xj i))<|bo M 0 U (ar U U T.QK) (Ni) fun w M=>cv 0 U fun fr E=>?_;refine dM (sz:=1) (xs:=ao [⟨fx (BitVec.ofNat 8 i)⟩]) E M U U U U U (ev (us:=[_]) (vs:=[_]) U U U T.aG T.bf T.gO U U U U U) (rfl) (Nat.le_refl _) aN (rfl) fun t fr w M E=>?_;refine fX (i:=1) E M U U U U U U U U U U U T.aG T.aG T.eh T.ef (M.reads 0 U) (by simp[ep];omega) fun o fr w M E=>?_;refine cw E<|a1 (y:=((i+1:Nat):Int)) 2 U U ((br ae ae).trans ae)<|ct 1 U fun fr E=>?_;exact⟨256-(i+1),by omega,i+1,_,U,by omega,E.lL [1,2] rfl,(M.sub (L':=[_]) (.cons _ (.refl _))).as (by rw[W3 hi])⟩
  ·obtain rfl:i=256:=by omega
   refine bA E<|ch 1 U U aN<|aU 3 U fun fr E=>?_;refine bi E U U ?_;have M:=M.as (L':=[.bytes 5 o ep]) (by rw[List.take_of_length_le (Nat.le_of_eq oN)]);exact⟨_,U,M.fin (.refl _) trivial⟩
theorem Zu(w0:World):bH prog 97 [] w0 (.agg (ao ep).toArray):=by
 refine enter (n:=57) func97 U U U ?_;intro fr E;have M:=ht (Has.nil w0);refine aV E<|bh (ob:=.cells _ 155) (fun g=>ai g 0) M 0 U (bT U T.Ly) fun aZ w M=>bh (ob:=.cells _ 155) (fun g=>ai g 0) M 0 U (bT U T.Ly) fun bQ w M=>ah (v:=b1 (1#8)) 0 U (hT U)<|ah (v:=b1 (1#8)) 0 U (hT U)<|bw 0 U fun fr E=>?_;refine cI (fun d fr w=>∃(i:Nat) (tl:List UInt8),d=255-i/\i<255/\tl.length=256/\(∀j,1<=j->j<=i->tl[(dE j).toNat]? =some ⟨fx (dE j)⟩)/\Env [(3,b1 (jm i)),(2,b1 (dE i)),(1,ai bQ 0),(0,ai aZ 0)] 57 fr/\Mem w0 (aS []) [.bb bQ (.cells (ao tl).toArray 155),.bb aZ (.cells (ao (List.replicate 256 0)).toArray 155)] (fun _=>True) w) (255) ?_ ?_
 ·exact⟨0,List.replicate 256 0,U,by decide,by simp,fun j aj an=>absurd aj ae,E.lL [0,1,2,3] rfl,M⟩
 ·clear E M;rintro d fr w ⟨i,tl,rfl,h5,km,x0,E,M⟩;have ap:=V3 h5;by_cases bE:l9 (jm i)&&& 128#8=0#8
  ·by_cases aI:i=254
   ·refine bA E<|bo M 2 U (ar U U T.tf) (uf) fun w M=>a1 0 U U (dx _ _)<|ah 3 U (fO (q:=1) U U U aN (g4 _ 1))<|a1 0 U U (dx _ _)<|ah 3 U (fO (q:=2) U U U aN (g4 _ 2))<|a1 0 U U (dx _ _)<|ah 3 U (fO (q:=4) U U U aN (g4 _ 4))<|a1 0 U U (dx _ _)<|a1 2 U U (sS _ (k:=128) U)<|ch 0 U U (Db bE)<|ah 4 U (fO (q:=1) U U U aN (g4 _ 1))<|ah 1 U (hV (q:=7) U U U aN)<|a1 0 U U (kt _ _)<|a1 0 U U (dx _ _)<|ah 1 U (fO (q:=2) U U U aN (g4 _ 2))<|ah 1 U (hV (q:=6) U U U aN)<|a1 0 U U (kt _ _)<|a1 0 U U (dx _ _)<|ah 1 U (fO (q:=3) U U U aN (g4 _ 3))<|ah 1 U (hV (q:=5) U U U aN)<|a1 0 U U (kt _ _)<|a1 0 U U (dx _ _)<|ah 1 U (fO (q:=4) U U U aN (g4 _ 4))<|ah 1 U (hV (q:=4) U U U aN)<|a1 0 U U (kt _ _)<|a1 0 U U (dx _ _)<|a1 0 U U (pZ _ (k:=99) U)<|ah (v:=ai _ (0+(dE i ^^^ eL (dE i)).toNat*1)) 0 U (dm (i:=(dE i ^^^ eL (dE i)).toNat) U U U (rfl) ((dE i ^^^ eL (dE i)).isLt) T.nt T.bf)<|bj (i:=0) (cs':=(ao (tl.set (dE i ^^^ eL (dE i)).toNat ⟨p8 (l9 (jm i))⟩)).toArray) M 0 U U (cy (v:=_) U U U T.bf (M.row (i:=0) U) (by rw[List.size_toArray,dj,km];have:=(dE i ^^^ eL (dE i)).isLt;simpa using this) (rfl) (sy)) U fun w M=>ei 1 U U (Dc (ap.1.trans (Hj aI)))<|fun fr E=>?_;have ij:=K3 ((List.length_set).trans km) (fun j aj an=>y8 h5 km x0 (ap.2.1 bE) ap.1 j aj ae);refine bN E<|ah (v:=ai _ (0+0*1)) 1 U (dm (i:=0) U U U (rfl) aN T.nt T.bf)<|bj (i:=0) (cs':=(ao ep).toArray) M 0 U U (cy (v:=_) U U U T.bf (M.row (i:=0) U) (by rw[List.size_toArray,dj,List.length_set,km];decide) (rfl) ((sy (x:=99#8)).trans (congrArg (fun l=>(ao l).toArray) ij))) U fun w M=>ah (v:=.agg (ao ep).toArray) 0 U (cW U U T.wQ (M.row (i:=0) U) (by rw[List.size_toArray,dj];rfl))<|bj (i:=1) (cs':=(ao ep).toArray) M 0 U U (cB (vs:=(ao ep).toArray) U U U T.Jd (by rw[List.size_toArray,dj];rfl) (M.row (i:=1) U) (rfl) (fun v aD=>c0 _ v aD)) U fun w M=>aU 0 U fun fr E=>?_;refine gC E U U T.wQ (M.row (i:=1) U) (by rw[List.size_toArray,dj];rfl) ?_;exact bX M
   ·refine bA E<|bo M 2 U (ar U U T.tf) (uf) fun w M=>a1 0 U U (dx _ _)<|ah 3 U (fO (q:=1) U U U aN (g4 _ 1))<|a1 0 U U (dx _ _)<|ah 3 U (fO (q:=2) U U U aN (g4 _ 2))<|a1 0 U U (dx _ _)<|ah 3 U (fO (q:=4) U U U aN (g4 _ 4))<|a1 0 U U (dx _ _)<|a1 2 U U (sS _ (k:=128) U)<|ch 0 U U (Db bE)<|ah 4 U (fO (q:=1) U U U aN (g4 _ 1))<|ah 1 U (hV (q:=7) U U U aN)<|a1 0 U U (kt _ _)<|a1 0 U U (dx _ _)<|ah 1 U (fO (q:=2) U U U aN (g4 _ 2))<|ah 1 U (hV (q:=6) U U U aN)<|a1 0 U U (kt _ _)<|a1 0 U U (dx _ _)<|ah 1 U (fO (q:=3) U U U aN (g4 _ 3))<|ah 1 U (hV (q:=5) U U U aN)<|a1 0 U U (kt _ _)<|a1 0 U U (dx _ _)<|ah 1 U (fO (q:=4) U U U aN (g4 _ 4))<|ah 1 U (hV (q:=4) U U U aN)<|a1 0 U U (kt _ _)<|a1 0 U U (dx _ _)<|a1 0 U U (pZ _ (k:=99) U)<|ah (v:=ai _ (0+(dE i ^^^ eL (dE i)).toNat*1)) 0 U (dm (i:=(dE i ^^^ eL (dE i)).toNat) U U U (rfl) ((dE i ^^^ eL (dE i)).isLt) T.nt T.bf)<|bj (i:=0) (cs':=(ao (tl.set (dE i ^^^ eL (dE i)).toNat ⟨p8 (l9 (jm i))⟩)).toArray) M 0 U U (cy (v:=_) U U U T.bf (M.row (i:=0) U) (by rw[List.size_toArray,dj,km];have:=(dE i ^^^ eL (dE i)).isLt;simpa using this) (rfl) (sy)) U fun w M=>ch 1 U U (De (by rw[ap.1];exact HB h5 aI))<|ct 1 U fun fr E=>?_;refine⟨255-(i+1),by omega,i+1,_,U,by omega,(List.length_set).trans km,y8 h5 km x0 (ap.2.1 bE) ap.1,?_,M⟩;rw[<-ap.1,<-ap.2.1 bE];exact((((Env.nil E).add E (t:=0) U).add E (t:=1) U).add E (t:=2) U).add E (t:=3) U
  ·by_cases aI:i=254
   ·refine bA E<|bo M 2 U (ar U U T.tf) (uf) fun w M=>a1 0 U U (dx _ _)<|ah 3 U (fO (q:=1) U U U aN (g4 _ 1))<|a1 0 U U (dx _ _)<|ah 3 U (fO (q:=2) U U U aN (g4 _ 2))<|a1 0 U U (dx _ _)<|ah 3 U (fO (q:=4) U U U aN (g4 _ 4))<|a1 0 U U (dx _ _)<|a1 2 U U (sS _ (k:=128) U)<|ei 0 U U (Dd bE)<|a1 2 U U (pZ _ (k:=9) U)<|ah 4 U (fO (q:=1) U U U aN (g4 _ 1))<|ah 1 U (hV (q:=7) U U U aN)<|a1 0 U U (kt _ _)<|a1 0 U U (dx _ _)<|ah 1 U (fO (q:=2) U U U aN (g4 _ 2))<|ah 1 U (hV (q:=6) U U U aN)<|a1 0 U U (kt _ _)<|a1 0 U U (dx _ _)<|ah 1 U (fO (q:=3) U U U aN (g4 _ 3))<|ah 1 U (hV (q:=5) U U U aN)<|a1 0 U U (kt _ _)<|a1 0 U U (dx _ _)<|ah 1 U (fO (q:=4) U U U aN (g4 _ 4))<|ah 1 U (hV (q:=4) U U U aN)<|a1 0 U U (kt _ _)<|a1 0 U U (dx _ _)<|a1 0 U U (pZ _ (k:=99) U)<|ah (v:=ai _ (0+(dE i ^^^ eL (dE i)).toNat*1)) 0 U (dm (i:=(dE i ^^^ eL (dE i)).toNat) U U U (rfl) ((dE i ^^^ eL (dE i)).isLt) T.nt T.bf)<|bj (i:=0) (cs':=(ao (tl.set (dE i ^^^ eL (dE i)).toNat ⟨p8 (l9 (jm i)^^^ 9#8)⟩)).toArray) M 0 U U (cy (v:=_) U U U T.bf (M.row (i:=0) U) (by rw[List.size_toArray,dj,km];have:=(dE i ^^^ eL (dE i)).isLt;simpa using this) (rfl) (sy)) U fun w M=>ei 1 U U (Dc (ap.1.trans (Hj aI)))<|fun fr E=>?_;have ij:=K3 ((List.length_set).trans km) (fun j aj an=>y8 h5 km x0 (ap.2.2 bE) ap.1 j aj ae);refine bN E<|ah (v:=ai _ (0+0*1)) 1 U (dm (i:=0) U U U (rfl) aN T.nt T.bf)<|bj (i:=0) (cs':=(ao ep).toArray) M 0 U U (cy (v:=_) U U U T.bf (M.row (i:=0) U) (by rw[List.size_toArray,dj,List.length_set,km];decide) (rfl) ((sy (x:=99#8)).trans (congrArg (fun l=>(ao l).toArray) ij))) U fun w M=>ah (v:=.agg (ao ep).toArray) 0 U (cW U U T.wQ (M.row (i:=0) U) (by rw[List.size_toArray,dj];rfl))<|bj (i:=1) (cs':=(ao ep).toArray) M 0 U U (cB (vs:=(ao ep).toArray) U U U T.Jd (by rw[List.size_toArray,dj];rfl) (M.row (i:=1) U) (rfl) (fun v aD=>c0 _ v aD)) U fun w M=>aU 0 U fun fr E=>?_;refine gC E U U T.wQ (M.row (i:=1) U) (by rw[List.size_toArray,dj];rfl) ?_;exact bX M
   ·refine bA E<|bo M 2 U (ar U U T.tf) (uf) fun w M=>a1 0 U U (dx _ _)<|ah 3 U (fO (q:=1) U U U aN (g4 _ 1))<|a1 0 U U (dx _ _)<|ah 3 U (fO (q:=2) U U U aN (g4 _ 2))<|a1 0 U U (dx _ _)<|ah 3 U (fO (q:=4) U U U aN (g4 _ 4))<|a1 0 U U (dx _ _)<|a1 2 U U (sS _ (k:=128) U)<|ei 0 U U (Dd bE)<|a1 2 U U (pZ _ (k:=9) U)<|ah 4 U (fO (q:=1) U U U aN (g4 _ 1))<|ah 1 U (hV (q:=7) U U U aN)<|a1 0 U U (kt _ _)<|a1 0 U U (dx _ _)<|ah 1 U (fO (q:=2) U U U aN (g4 _ 2))<|ah 1 U (hV (q:=6) U U U aN)<|a1 0 U U (kt _ _)<|a1 0 U U (dx _ _)<|ah 1 U (fO (q:=3) U U U aN (g4 _ 3))<|ah 1 U (hV (q:=5) U U U aN)<|a1 0 U U (kt _ _)<|a1 0 U U (dx _ _)<|ah 1 U (fO (q:=4) U U U aN (g4 _ 4))<|ah 1 U (hV (q:=4) U U U aN)<|a1 0 U U (kt _ _)<|a1 0 U U (dx _ _)<|a1 0 U U (pZ _ (k:=99) U)<|ah (v:=ai _ (0+(dE i ^^^ eL (dE i)).toNat*1)) 0 U (dm (i:=(dE i ^^^ eL (dE i)).toNat) U U U (rfl) ((dE i ^^^ eL (dE i)).isLt) T.nt T.bf)<|bj (i:=0) (cs':=(ao (tl.set (dE i ^^^ eL (dE i)).toNat ⟨p8 (l9 (jm i)^^^ 9#8)⟩)).toArray) M 0 U U (cy (v:=_) U U U T.bf (M.row (i:=0) U) (by rw[List.size_toArray,dj,km];have:=(dE i ^^^ eL (dE i)).isLt;simpa using this) (rfl) (sy)) U fun w M=>ch 1 U U (De (by rw[ap.1];exact HB h5 aI))<|ct 1 U fun fr E=>?_;refine⟨255-(i+1),by omega,i+1,_,U,by omega,(List.length_set).trans km,y8 h5 km x0 (ap.2.2 bE) ap.1,?_,M⟩;rw[<-ap.1,<-ap.2.2 bE];exact((((Env.nil E).add E (t:=0) U).add E (t:=1) U).add E (t:=2) U).add E (t:=3) U
end
section
open Go.RowKit Go.a2 Go.Proofs Go.Proofs.Tryz
abbrev a8(l:List UInt8)(i:Nat):dS:=(l.getD i 0).toBitVec
theorem js{l:List UInt8}{i:Nat}(h:i<l.length):(ao l).toArray[0+i*1]? =some (b1 (a8 l i)):=by
 rw[Nat.zero_add,List.getElem?_toArray];exact fS h
theorem zK{l:List UInt8}{i:Nat}{x:dS}{m:List UInt8}(h:l.set i ⟨x⟩=m):((ao l).toArray.toList.set (0+i*1) (b1 x)).toArray=(ao m).toArray:=by
 subst h;exact sy
def iz(a b:List UInt8):List UInt8:=(List.range 16).map fun i=>⟨a8 a i ^^^ a8 b i⟩
theorem rm(a b:List UInt8):(iz a b).length=16:=by simp[iz]
def ji(f:Nat->UInt8)(l:List UInt8)(i:Nat):List UInt8:=(List.range i).map f++l.drop i
theorem vO{f:Nat->UInt8}{l:List UInt8}{i:Nat}(h:i<=l.length):(ji f l i).length=l.length:=by simp[ji];omega
theorem U0{f:Nat->UInt8}{l:List UInt8}:ji f l 0=l:=rfl
theorem yr{f:Nat->UInt8}{l:List UInt8}{n:Nat}(h:l.length=n):ji f l n=(List.range n).map f:=by
 unfold ji;rw[List.drop_of_length_le ae,List.append_nil]
theorem U1{f:Nat->UInt8}{l:List UInt8}{i:Nat}(h:i<l.length):a8 (ji f l i) i=a8 l i:=by
 unfold a8 ji;rw[List.getD_eq_getElem?_getD,List.getD_eq_getElem?_getD,List.getElem?_append_right (by simp),List.length_map,List.length_range,Nat.sub_self,List.getElem?_drop,Nat.add_zero]
theorem yt{f:Nat->UInt8}{l:List UInt8}{i:Nat}(h:i<l.length):(ji f l i).set i (f i)=ji f l (i+1):=by
 unfold ji;rw[List.set_append_right _ _ (by simp),List.length_map,List.length_range,Nat.sub_self,List.range_succ,List.map_append,List.append_assoc,List.drop_eq_getElem_cons h];rfl
def Ee(s:List UInt8)(c:Nat):dS:=a8 s (4*c)^^^ a8 s (4*c+1)^^^ a8 s (4*c+2)^^^ a8 s (4*c+3)
def lO(s:List UInt8)(c i:Nat):dS:=a8 s (4*c+i)^^^ Ee s c ^^^ eL (a8 s (4*c+i)^^^ a8 s (4*c+(i+1)%4))
def nQ(s:List UInt8)(n:Nat):UInt8:=⟨lO s (n/4) (n%4)⟩
def kV(s:List UInt8):List UInt8:=(List.range 16).map (nQ s)
theorem r9(s:List UInt8):(kV s).length=16:=by simp[kV]
theorem T1{s z:List UInt8}{c i:Nat}(au:z.length=16)(aJ:c<4)(hi:i<4):(ji (nQ s) z (4*c+i)).set (4*c+i) ⟨lO s c i⟩=ji (nQ s) z (4*c+i+1):=by
 have e:(⟨lO s c i⟩:UInt8)=nQ s (4*c+i):=by
  unfold nQ;rw[show(4*c+i)/4=c by omega,show(4*c+i)%4=i by omega]
 rw[e];exact yt ae
def ea(k:List UInt8)(j:Nat):List UInt8:=(k.drop (12+4*j)).take 4
def sn(l:List UInt8)(r:dS):List UInt8:=[⟨fx (a8 l 1)^^^ r⟩,⟨fx (a8 l 2)⟩,⟨fx (a8 l 3)⟩,⟨fx (a8 l 0)⟩]
def iX(j:Nat):dS:=ue 1#8 ((j+3)/4)
def c8(k:List UInt8)(j:Nat):List UInt8:=if j%4=0 then sn (ea k j) (iX j)else ea k j
def newAt(k:List UInt8)(j i:Nat):UInt8:=⟨a8 k (4*j+i)^^^ a8 (c8 k j) i⟩
def HJ(k:List UInt8)(j:Nat):List UInt8:=(List.range 4).map (newAt k j)
def aX(key:List UInt8):Nat->List UInt8
 |0=>key
 |j+1=>aX key j++HJ (aX key j) j
theorem qQ{key:List UInt8}(h:key.length=16):∀j,(aX key j).length=16+4*j
 |0=>h
 |j+1=>by rw[aX,List.length_append,qQ h j];simp[HJ];omega
theorem tw{k:List UInt8}{j:Nat}(h:k.length=16+4*j):(ea k j).length=4:=by simp[ea];omega
theorem y9{k:List UInt8}{j:Nat}(h:k.length=16+4*j):(c8 k j).length=4:=by
 unfold c8;split
 ·rfl
 ·exact tw h
theorem Ix{j:Nat}(h:j%4=0):eL (iX j)=iX (j+1):=by
 unfold iX;rw[show(j+1+3)/4=(j+3)/4+1 by omega];rfl
theorem Iw{j:Nat}(h:¬j%4=0):iX j=iX (j+1):=by
 unfold iX;rw[show(j+1+3)/4=(j+3)/4 by omega]
theorem F9{a b:List UInt8}{i:Nat}(h:i<a.length):a8 (a++b) i=a8 a i:=by
 unfold a8;rw[List.getD_eq_getElem?_getD,List.getD_eq_getElem?_getD,List.getElem?_append_left h]
theorem tV{kv:Value}(x:dS):(kv::ao ep).toArray[1+x.toNat*1]? =some (b1 (fx x)):=by
 have ad:=x.isLt;rw[List.getElem?_toArray,Nat.mul_one,Nat.add_comm,List.getElem?_cons_succ];have:=gx (l:=ep) (k:=x.toNat) (by rw[oN];exact ad);rw[this];have e:ep[x.toNat]'(by rw[oN];exact ad)=⟨fx x⟩:=by
  unfold ep;rw[List.getElem_map,List.getElem_range,BitVec.ofNat_toNat,BitVec.setWidth_eq]
 rw[e];rfl
theorem HK{k:List UInt8}{j i:Nat}(h:i<4):(List.range i).map (newAt k j)++[newAt k j i]=(List.range (i+1)).map (newAt k j):=by
 rw[List.range_succ,List.map_append];rfl
theorem Es{l:List UInt8}{a b:Nat}:((((ao l).drop (a*1)).take ((b-a)*1)).drop 0).take 4=ao (((l.drop a).take (b-a)).take 4):=by
 rw[Nat.mul_one,Nat.mul_one,List.drop_zero,uH,qb,qb]
def EP(T NS:TypeId)(g:Nat)(kv:Value)(ks:List UInt8):List az:=[.bb g (.cells (kv::ao ep).toArray T),.row NS 16 kv 11 (ao ks)]
def jV(s:List UInt8):List UInt8:=(List.range 16).map fun i=>⟨fx (a8 s ((i+4*(i%4))%16))⟩
def eH(ks:List UInt8)(r:Nat):List UInt8:=(ks.drop (16*r)).take 16
def cH(ks b:List UInt8):Nat->List UInt8
 |0=>iz b (eH ks 0)
 |r+1=>iz (if r<9 then kV (jV (cH ks b r))else jV (cH ks b r)) (eH ks (r+1))
theorem ua(s:List UInt8):(jV s).length=16:=by simp[jV]
theorem nd(ks b:List UInt8):∀r,(cH ks b r).length=16
 |0=>rm _ _
 |r+1=>rm _ _
theorem BK{a b:List UInt8}{w0:World}(bm:a.length=16)(ak:b.length=16):bH prog 271 [.agg (ao a).toArray,.agg (ao b).toArray] w0 (.agg (ao (iz a b)).toArray):=by
 refine enter (n:=19) func271 U U U ?_;intro fr E;have M:=ht (Has.nil w0);refine aV E<|bh (ob:=.cells ((ao a).toArray) 162) (fun g=>ai g 0) M 0 U (cS (cs:=((ao a).toArray)) U U) fun aZ w M=>bh (ob:=.cells ((ao b).toArray) 162) (fun g=>ai g 0) M 0 U (cS (cs:=((ao b).toArray)) U U) fun bQ w M=>bh (ob:=.cells _ 162) (fun g=>ai g 0) M 0 U (bT U T.mg) fun cF w M=>bw 1 U fun fr E=>?_;refine cI (fun d fr w=>∃i:Nat,d=16-i/\i<=16/\Env [(6,aa (i:Int)),(4,ai cF 0),(3,ai bQ 0),(2,ai aZ 0)] 19 fr/\Mem w0 (aS []) [.bb cF (.cells (ao (List.replicate 16 0)).toArray 162),.bb bQ (.cells (ao b).toArray 162),.bb aZ (.cells (ao (ji (fun n=>(⟨a8 a n ^^^ a8 b n⟩:UInt8)) a i)).toArray 162)] (fun _=>True) w) (16) ?_ ?_
 ·exact⟨0,U,Nat.zero_le _,E.lL [2,3,4,6] rfl,M⟩
 ·clear E M;rintro d fr w ⟨i,rfl,hle,E,M⟩;by_cases hi:i<16
  ·refine bA E<|bD 0 U U ae<|bw 3 U fun fr E=>?_;refine(ii (B:=T.Kk) (Vs:=(.af _:: .af (ai _ (0+i*1)):: .af _:: .af _:: .af (ai _ (0+i*1)):: .af _:: .af _:: .af (ai _ (0+i*1))::[])) T.Y1 8 E T.mixed T.Y0 U U U (ej.e6 U) ⟨aw U U,
   aC U U (fun x w ad ab=>dm (i:=i) U U U (rfl) (hi) T.ic T.bf),
   aC U U (fun x w ad ab=>aE U U T.cq ((M.aQ ad).row (i:=2) U) ((js (l:=ji (fun n=>(⟨a8 a n ^^^ a8 b n⟩:UInt8)) a i) (by rw[vO ae];omega)).trans (by rw[U1 ae]))),
   aw U U,
   aC U U (fun x w ad ab=>dm (i:=i) U U U (rfl) (hi) T.ic T.bf),
   aC U U (fun x w ad ab=>aE U U T.cq ((M.aQ ad).row (i:=1) U) (js (l:=b) (i:=i) ae)),
   aC U U (fun x w ad ab=>num U (dx _ _)),
   aC U U (fun x w ad ab=>dm (i:=i) U U U (rfl) (hi) T.ic T.bf),ay⟩ ?_)
   intro x fr w ad ab E;have M:=M.ext ad;refine iq (i:=2) (cs':=(ao (ji (fun n=>(⟨a8 a n ^^^ a8 b n⟩:UInt8)) a (i+1))).toArray) E M U U U U U U (cy (v:=_) U U U T.bf (M.row (i:=2) U) (by rw[List.size_toArray,dj,vO ae];simp;omega) (rfl) (zK (yt (f:=(fun n=>(⟨a8 a n ^^^ a8 b n⟩:UInt8))) ae))) U fun fr w M E=>?_;refine cm E<|a1 (y:=((i+1:Nat):Int)) 0 U U ((br ae ae).trans ae)<|ct 1 U fun fr E=>?_;exact⟨16-(i+1),by omega,i+1,U,by omega,E.lL [2,3,4,6] rfl,M⟩
  ·obtain rfl:i=16:=by omega
   rw[yr bm]at M;refine bA E<|ch 0 U U aN<|ah (v:=.agg (ao (iz a b)).toArray) 1 U (cW U U T.jK (M.row (i:=2) U) ((List.size_toArray).trans ((dj _).trans (rm a b))))<|bj (i:=0) (cs':=(ao (iz a b)).toArray) M 0 U U (cB (vs:=(ao (iz a b)).toArray) U U U T.lz ((List.size_toArray).trans ((dj _).trans (rm a b))) (M.row (i:=0) U) (rfl) (fun v aD=>c0 _ v aD)) U fun w M=>aU 0 U fun fr E=>?_;refine gC E U U T.jK (M.row (i:=0) U) ((List.size_toArray).trans ((dj _).trans (rm a b))) ?_;exact bX M
theorem T3{s:List UInt8}{w0:World}(aP:s.length=16):bH prog 272 [.agg (ao s).toArray] w0 (.agg (ao (kV s)).toArray):=by
 refine enter (n:=60) func272 U U U ?_;intro fr E;have M:=ht (Has.nil w0);refine aV E<|bh (ob:=.cells ((ao s).toArray) 162) (fun g=>ai g 0) M 0 U (cS (cs:=((ao s).toArray)) U U) fun aZ w M=>bh (ob:=.cells _ 162) (fun g=>ai g 0) M 0 U (bT U T.mg) fun bQ w M=>bh (ob:=.cells _ 162) (fun g=>ai g 0) M 0 U (bT U T.mg) fun cF w M=>bw 1 U fun fr E=>?_;refine cI (fun d fr w=>∃c:Nat,d=4-c/\c<=4/\Env [(4,aa ((4*c:Nat):Int)),(3,ai cF 0),(2,ai bQ 0),(1,ai aZ 0)] 60 fr/\Mem w0 (aS []) [.bb cF (.cells (ao (ji (nQ s) (List.replicate 16 0) (4*c))).toArray 162),.bb bQ (.cells (ao (List.replicate 16 0)).toArray 162),.bb aZ (.cells (ao s).toArray 162)] (fun _=>True) w) (4) ?_ ?_
 ·exact⟨0,U,Nat.zero_le _,E.lL [1,2,3,4] rfl,M⟩
 ·clear E M;rintro d fr w ⟨c,rfl,hle,E,M⟩;by_cases aJ:c<4
  ·refine bA E<|bD 1 U U ae<|bw 1 U fun fr E=>?_;refine(dR (B:=T.Kl) (Vs:=(.af _:: .af (ai _ (0+(4*c)*1)):: .af _:: .af _:: .af (.int _ (((4*c+1:Nat):Int))):: .af (ai _ (0+(4*c+1)*1)):: .af _:: .af _:: .af _:: .af (.int _ (((4*c+2:Nat):Int))):: .af (ai _ (0+(4*c+2)*1)):: .af _:: .af _:: .af _:: .af (.int _ (((4*c+3:Nat):Int))):: .af (ai _ (0+(4*c+3)*1)):: .af _:: .af _:: .af _::[])) T.Y3 E T.mixed T.Y2 U (ej.e6 U) ⟨aw U U,
   aC U U (fun x w ad ab=>dm (i:=(4*c)) U U U (rfl) ae T.ic T.bf),
   aC U U (fun x w ad ab=>aE U U T.cq ((M.aQ ad).row (i:=2) U) (js (l:=s) (i:=(4*c)) ae)),
   aw U U,
   aC U U (fun x w ad ab=>num U ((br ae ae).trans ae)),
   aC U U (fun x w ad ab=>dm (i:=(4*c+1)) U U U (rfl) ae T.ic T.bf),
   aC U U (fun x w ad ab=>aE U U T.cq ((M.aQ ad).row (i:=2) U) (js (l:=s) (i:=(4*c+1)) ae)),
   aC U U (fun x w ad ab=>num U (dx _ _)),
   aw U U,
   aC U U (fun x w ad ab=>num U ((br ae ae).trans ae)),
   aC U U (fun x w ad ab=>dm (i:=(4*c+2)) U U U (rfl) ae T.ic T.bf),
   aC U U (fun x w ad ab=>aE U U T.cq ((M.aQ ad).row (i:=2) U) (js (l:=s) (i:=(4*c+2)) ae)),
   aC U U (fun x w ad ab=>num U (dx _ _)),
   aw U U,
   aC U U (fun x w ad ab=>num U ((br ae ae).trans ae)),
   aC U U (fun x w ad ab=>dm (i:=(4*c+3)) U U U (rfl) ae T.ic T.bf),
   aC U U (fun x w ad ab=>aE U U T.cq ((M.aQ ad).row (i:=2) U) (js (l:=s) (i:=(4*c+3)) ae)),
   aC U U (fun x w ad ab=>num U (dx _ _)),
   aw U U,ay⟩ ?_)
   intro x fr w ad ab E;have M:=M.ext ad;refine cm E<|bw 1 U fun fr E=>?_;refine cI (fun d fr w=>∃i:Nat,d=4-i/\i<=4/\Env [(29,aa (i:Int)),(5,b1 (Ee s c)),(4,aa ((4*c:Nat):Int)),(3,ai cF 0),(2,ai bQ 0),(1,ai aZ 0)] 60 fr/\Mem w0 (aS []) [.bb cF (.cells (ao (ji (nQ s) (List.replicate 16 0) (4*c+i))).toArray 162),.bb bQ (.cells (ao (List.replicate 16 0)).toArray 162),.bb aZ (.cells (ao s).toArray 162)] (fun _=>True) w) (4) ?_ ?_
   ·exact⟨0,U,Nat.zero_le _,E.lL [1,2,3,4,5,29] rfl,M⟩
   ·clear E M;rintro d fr w ⟨i,rfl,hle,E,M⟩;by_cases hi:i<4
    ·refine bA E<|bD 0 U U ae<|bw 3 U fun fr E=>?_;refine(ii (B:=T.Km) (Vs:=(.af _:: .af _:: .af (.int _ (((4*c+i:Nat):Int))):: .af _:: .af _:: .af (.int _ (((4*c+i:Nat):Int))):: .af (ai _ (0+(4*c+i)*1)):: .af _:: .af _:: .af _:: .af _:: .af _:: .af (.int _ (((4*c+i:Nat):Int))):: .af (ai _ (0+(4*c+i)*1)):: .af _:: .af _:: .af _:: .af (.int _ (((i+1:Nat):Int))):: .af (.int _ ((((i+1)%4:Nat):Int))):: .af (.int _ (((4*c+(i+1)%4:Nat):Int))):: .af (ai _ (0+(4*c+(i+1)%4)*1)):: .af _:: .af _:: .af _:: .af _:: .af (ai _ (0+(4*c+i)*1))::[])) T.Y5 26 E T.mixed T.Y4 U U U (ej.e6 U) ⟨aw U U,
   aw U U,
   aC U U (fun x w ad ab=>num U ((br ae ae).trans ae)),
   aw U U,
   aw U U,
   aC U U (fun x w ad ab=>num U ((br ae ae).trans ae)),
   aC U U (fun x w ad ab=>dm (i:=(4*c+i)) U U U (rfl) ae T.ic T.bf),
   aC U U (fun x w ad ab=>aE U U T.cq ((M.aQ ad).row (i:=2) U) (js (l:=s) (i:=(4*c+i)) ae)),
   aw U U,
   aC U U (fun x w ad ab=>num U (dx _ _)),
   aw U U,
   aw U U,
   aC U U (fun x w ad ab=>num U ((br ae ae).trans ae)),
   aC U U (fun x w ad ab=>dm (i:=(4*c+i)) U U U (rfl) ae T.ic T.bf),
   aC U U (fun x w ad ab=>aE U U T.cq ((M.aQ ad).row (i:=2) U) (js (l:=s) (i:=(4*c+i)) ae)),
   aw U U,
   aw U U,
   aC U U (fun x w ad ab=>num U ((br ae ae).trans ae)),
   aC U U (fun x w ad ab=>num U (kb _ _)),
   aC U U (fun x w ad ab=>num U ((br ae ae).trans ae)),
   aC U U (fun x w ad ab=>dm (i:=(4*c+(i+1)%4)) U U U (rfl) ae T.ic T.bf),
   aC U U (fun x w ad ab=>aE U U T.cq ((M.aQ ad).row (i:=2) U) (js (l:=s) (i:=(4*c+(i+1)%4)) ae)),
   aC U U (fun x w ad ab=>num U (dx _ _)),
   cE U U (fun x w ad ab=>⟨_,_,U,U,U,ar U U T.tf,(uf).ext⟩),
   aC U U (fun x w ad ab=>num U (dx _ _)),
   aC U U (fun x w ad ab=>dm (i:=(4*c+i)) U U U (rfl) ae T.ic T.bf),ay⟩ ?_)
     intro x fr w ad ab E;have M:=M.ext ad;refine iq (i:=0) (cs':=(ao (ji (nQ s) (List.replicate 16 0) (4*c+i+1))).toArray) E M U U U U U U (cy (v:=_) U U U T.bf (M.row (i:=0) U) (by rw[List.size_toArray,dj,vO (by simp;omega)];simp;omega) (rfl) (zK (T1 (s:=s) (z:=(List.replicate 16 0)) List.length_replicate aJ hi))) U fun fr w M E=>?_;refine cm E<|a1 (y:=((i+1:Nat):Int)) 0 U U ((br ae ae).trans ae)<|ct 1 U fun fr E=>?_;exact⟨4-(i+1),by omega,i+1,U,by omega,E.lL [1,2,3,4,5,29] rfl,M⟩
    ·obtain rfl:i=4:=by omega
     refine bA E<|ch 0 U U aN<|a1 (y:=((4*(c+1):Nat):Int)) 2 U U ((br ae ae).trans ae)<|ct 1 U fun fr E=>?_;exact⟨4-(c+1),by omega,c+1,U,by omega,E.lL [1,2,3,4] rfl,M⟩
  ·obtain rfl:c=4:=by omega
   have M:=M.as (L':=[.bb cF (.cells (ao (kV s)).toArray 162),_,_]) (by rw[show 4*4=16 from rfl,yr (List.length_replicate)];rfl);refine bA E<|ch 1 U U aN<|ah (v:=.agg (ao (kV s)).toArray) 1 U (cW U U T.jK (M.row (i:=0) U) ((List.size_toArray).trans ((dj _).trans (r9 s))))<|bj (i:=1) (cs':=(ao (kV s)).toArray) M 0 U U (cB (vs:=(ao (kV s)).toArray) U U U T.lz ((List.size_toArray).trans ((dj _).trans (r9 s))) (M.row (i:=1) U) (rfl) (fun v aD=>c0 _ v aD)) U fun w M=>aU 0 U fun fr E=>?_;refine gC E U U T.jK (M.row (i:=1) U) ((List.size_toArray).trans ((dj _).trans (r9 s))) ?_;exact bX M
end
section
open Go.RowKit Go.a2 Go.Proofs Go.Proofs.Tryz
theorem _root_.Go.a2.Mem.Up{w0 w:World}{O:Nat->Prop}{L:List az}{Φ:World->Prop}(M:Mem w0 O L Φ w)(e:TypeId):Mem w0 O (.row e 16 (.slice none 0 0) 0 []::L) Φ w:=
 M.jo (bd.refl w) _ (World.ownsRow_nil w 0 e 16) fun g al=>by simp[az.row,Value.ownBlock]at al
theorem x5{ks:List UInt8}{r:Nat}(h:16*r+16<=ks.length):(eH ks r).length=16:=by simp[eH];omega
theorem HL{E:List az}{e:TypeId}{v:Value}{a b:List UInt8}{x:dS}{c:UInt8}(h:c=⟨x⟩:=by rfl): [az.row e 1 v ((a++b).length+1) (ao (a++b)++[b1 x])]++E=az.bytes e v (a++(b++[c]))::E:=by
 subst h;unfold az.bytes;rw[<-List.append_assoc,sU (a++b),show(a++b++[(⟨x⟩:UInt8)]).length=(a++b).length+1 from List.length_append];rfl
theorem Tv{A:az}{e:TypeId}{kv bv:Value}{ks:List UInt8}{r:Nat}: [A,az.row e 16 kv (r+1) (ao (ks.take (16*r))++ao (eH ks r)),.sub bv ((ks.drop (16*r)).drop 16)]=[A,.row e 16 kv (r+1) (ao (ks.take (16*(r+1)))),.sub bv (ks.drop (16*(r+1)))]:=by
 rw[List.drop_drop,<-sU,show 16*(r+1)=16*r+16 by omega,List.take_add];rfl
theorem PF{ko:Value}{key:List UInt8}{w0:World}(ak:Bytes w0 ko key)(aI:key.length=16):aY prog 47 [ko] w0 [] (fun q:Nat×Value=>.tuple #[ai q.1 0,aa 0]) (fun q=>EP 159 162 q.1 q.2 (aX key 40)) (fun _=>True):=by
 refine enter (n:=159) func47 U U U ?_;intro fr E;have M:=Mem.begin (Φ:=fun w'=>Bytes w' ko key) (Has.nil w0) (fun w' h=>ak.bU h);refine aV E<|ah 3 U (bx U U U U T.aG (M.fact))<|fun fr E=>?_;rw[aI]at E;refine bN E<|ch 2 U U aN<|ah (v:=.bool _) 3 U U<|ah (v:=.bool _) 3 U U<|bo M 1 U (ar U U T.Rg) (Zu _) fun w M=>ah (v:=.agg (.slice none 0 0::ao ep).toArray) 0 U (Wh (s0:=1) (pre:=[.slice none 0 0]) (vs:=[.agg (ao ep).toArray]) (us:=.slice none 0 0::ao ep) U U T.ZS T.aaE U U U U (by simp[Value.cells,ep]))<|bh (ob:=.cells ((.slice none 0 0::ao ep).toArray) 159) (fun g=>ai g 0) M 0 U (cS (cs:=((.slice none 0 0::ao ep).toArray)) U U) fun aZ w M=>cv 1 U fun fr E=>?_;refine dM (sz:=1) (xs:=ao []) E M U U U U U (lP U T.aG U) (rfl) (Nat.le_refl _) aN (rfl) fun b fr w M E=>?_;refine cw E<|cv 1 U fun fr E=>?_;refine fX (i:=0) E M U U U U U U U U U U U T.aG T.aG T.eh T.ef (M.fact) (by simp[aI]) fun b fr w M E=>?_;refine cw E<|ah (v:=b1 (1#8)) 1 U (hT U)<|bw 2 U fun fr E=>?_;refine cI (fun d fr w=>∃(j:Nat) (bv:Value),d=40-j/\j<=40/\Env [(8,aa ((16+4*j:Nat):Int)),(7,b1 (iX j)),(6,bv),(5,ai aZ 0),(4,aa 16),(0,ko)] 159 fr/\Mem w0 (aS []) [.bytes 5 bv ((aX key j)),.bb aZ (.cells (.slice none 0 0::ao ep).toArray 159)] (fun w'=>Bytes w' ko key) w) (40) ?_ ?_
 ·have M:=M.aH 1 rfl;have M:=M.aH 1 rfl;exact⟨0,_,U,Nat.zero_le _,E.lL [0,4,5,6,7,8] rfl,M⟩
 ·clear E M;rintro d fr w ⟨j,bv,rfl,hle,E,M⟩;have hI:(aX key j).length=16+4*j:=qQ aI j;by_cases ax:j<40
  ·by_cases au:j%4=0
   ·have Ba:=tw hI;refine bA E<|a1 (y:=4) 2 U U (rfl)<|a1 (y:=11) 0 U U (rfl)<|a1 (y:=176) 0 U U (rfl)<|bD 0 U U ae<|a1 (y:=((12+4*j:Nat):Int)) 3 U U ((br ae ae).trans ae)<|ah 1 U (ew (lo:=12+4*j) (hi:=16+4*j) U (M.reads 0 U) U T.aG T.bf (⟨_,_,U,U⟩) (⟨_,_,U,U⟩) ae ae)<|ah 0 U (tQ U ((M.reads 0 U).cut (lo:=12+4*j) (hi:=16+4*j) ae ae) U T.o4 ae aN)<|ah (v:=.agg (ao (ea (aX key j) j)).toArray) 0 U (hU U ((M.reads 0 U).cut (lo:=12+4*j) (hi:=16+4*j) ae ae) U T.Ec ae ae (by rw[Es,show 16+4*j-(12+4*j)=4 by omega,List.take_take];rfl))<|bh (ob:=.cells #[_,_,_,_] 160) (fun g=>ai g 0) M 0 U (bT U T.Dz) fun bQ w M=>bj (i:=0) (cs':=(ao (ea (aX key j) j)).toArray) M 0 U U (cB (vs:=(ao (ea (aX key j) j)).toArray) U U U T.Cx ((List.size_toArray).trans ((dj _).trans (tw hI))) (M.row (i:=0) U) (rfl) (fun v aD=>c0 _ v aD)) U fun w M=>a1 (y:=(((16+4*j)%16:Nat):Int)) 2 U U (kb _ _)<|ei 0 U U (by simp;omega)<|bw 2 U fun fr E=>?_;refine(ii (B:=T.Kv) (Vs:=(.af _:: .af (ai _ (0+1*1)):: .af _:: .af _:: .af (ai _ 1):: .af (ai _ (1+(a8 (ea (aX key j) j) 1).toNat*1)):: .af _:: .af _:: .af _:: .af _:: .af (ai _ (0+2*1)):: .af _:: .af _:: .af (ai _ 1):: .af (ai _ (1+(a8 (ea (aX key j) j) 2).toNat*1)):: .af _:: .af _:: .af (ai _ (0+3*1)):: .af _:: .af _:: .af (ai _ 1):: .af (ai _ (1+(a8 (ea (aX key j) j) 3).toNat*1)):: .af _:: .af _:: .af (ai _ (0+0*1)):: .af _:: .af _:: .af (ai _ 1):: .af (ai _ (1+(a8 (ea (aX key j) j) 0).toNat*1)):: .af _:: .af (.agg (ao (sn (ea (aX key j) j) (iX j))).toArray)::[])) T.Zd 31 E T.mixed T.Zc U U U (ej.e6 U) ⟨aw U U,
   aC U U (fun x w ad ab=>dm (i:=1) U U U (rfl) aN T.o4 T.bf),
   aC U U (fun x w ad ab=>aE U U T.cq ((M.aQ ad).row (i:=0) U) (js ae)),
   aw U U,
   aw U U,
   aC U U (fun x w ad ab=>dm (i:=(a8 (ea (aX key j) j) 1).toNat) U U U (rfl) ((a8 (ea (aX key j) j) 1).isLt) T.nt T.bf),
   aC U U (fun x w ad ab=>aE U U T.cq ((M.aQ ad).row (i:=2) U) (tV _)),
   aw U U,
   aC U U (fun x w ad ab=>num U (dx _ _)),
   aw U U,
   aC U U (fun x w ad ab=>dm (i:=2) U U U (rfl) aN T.o4 T.bf),
   aC U U (fun x w ad ab=>aE U U T.cq ((M.aQ ad).row (i:=0) U) (js ae)),
   aw U U,
   aw U U,
   aC U U (fun x w ad ab=>dm (i:=(a8 (ea (aX key j) j) 2).toNat) U U U (rfl) ((a8 (ea (aX key j) j) 2).isLt) T.nt T.bf),
   aC U U (fun x w ad ab=>aE U U T.cq ((M.aQ ad).row (i:=2) U) (tV _)),
   aw U U,
   aC U U (fun x w ad ab=>dm (i:=3) U U U (rfl) aN T.o4 T.bf),
   aC U U (fun x w ad ab=>aE U U T.cq ((M.aQ ad).row (i:=0) U) (js ae)),
   aw U U,
   aw U U,
   aC U U (fun x w ad ab=>dm (i:=(a8 (ea (aX key j) j) 3).toNat) U U U (rfl) ((a8 (ea (aX key j) j) 3).isLt) T.nt T.bf),
   aC U U (fun x w ad ab=>aE U U T.cq ((M.aQ ad).row (i:=2) U) (tV _)),
   aw U U,
   aC U U (fun x w ad ab=>dm (i:=0) U U U (rfl) aN T.o4 T.bf),
   aC U U (fun x w ad ab=>aE U U T.cq ((M.aQ ad).row (i:=0) U) (js ae)),
   aw U U,
   aw U U,
   aC U U (fun x w ad ab=>dm (i:=(a8 (ea (aX key j) j) 0).toNat) U U U (rfl) ((a8 (ea (aX key j) j) 0).isLt) T.nt T.bf),
   aC U U (fun x w ad ab=>aE U U T.cq ((M.aQ ad).row (i:=2) U) (tV _)),
   aC U U (fun x w ad ab=>Cb (qs:=[(0,b1 (fx (a8 (ea (aX key j) j) 1)^^^ iX j)),(1,b1 (fx (a8 (ea (aX key j) j) 2))),(2,b1 (fx (a8 (ea (aX key j) j) 3))),(3,b1 (fx (a8 (ea (aX key j) j) 0)))]) (us':=(ao (sn (ea (aX key j) j) (iX j))).toArray) U U T.o4 T.bf T.Dz (Qc _ U _ _ _ _)),ay⟩ ?_)
    intro x fr w ad ab E;have M:=M.ext ad;refine iq (i:=0) (cs':=(ao (sn (ea (aX key j) j) (iX j))).toArray) E M U U U U U U (cB (vs:=(ao (sn (ea (aX key j) j) (iX j))).toArray) U U U T.Cx U (M.row (i:=0) U) ((List.size_toArray).trans ((dj _).trans Ba)) (fun v aD=>c0 _ v aD)) U fun fr w M E=>?_;refine cm E<|bo M 1 U (ar U U T.tf) (uf) fun w M=>fun fr E=>?_;have M:=M.as (L':=[.bb bQ (.cells (ao (c8 (aX key j) j)).toArray 160),_,_]) (by rw[show(c8 (aX key j) j)=sn (ea (aX key j) j) (iX j)from if_pos au];rfl);rw[Ix au]at E;refine bN E<|bw 2 U fun fr E=>?_;refine cI (fun d fr w=>∃(i:Nat) (bv:Value),d=4-i/\i<=4/\Env [(121,aa (i:Int)),(9,ai bQ 0),(8,aa ((16+4*j:Nat):Int)),(7,b1 (iX (j+1))),(6,bv),(5,ai aZ 0),(4,aa 16),(0,ko)] 159 fr/\Mem w0 (aS []) [.bytes 5 bv ((aX key j)++(List.range i).map (newAt (aX key j) j)),.bb bQ (.cells (ao (c8 (aX key j) j)).toArray 160),.bb aZ (.cells (.slice none 0 0::ao ep).toArray 159)] (fun w'=>Bytes w' ko key) w) (4) ?_ ?_
    ·have M:=M.aH 2 rfl;have M:=M.aH 1 rfl;have M:=M.aH 2 rfl;exact⟨0,_,U,Nat.zero_le _,E.lL [0,4,5,6,7,8,9,121] rfl,M.as (by rw[List.range_zero,List.map_nil,List.append_nil];rfl)⟩
    ·clear E M;rintro d fr w ⟨i,bv,rfl,hle,E,M⟩;have km:=y9 hI;by_cases hi:i<4
     ·refine bA E<|bD 0 U U ae<|fun fr E=>?_;have M:Mem _ _ ([.row 5 1 bv ((aX key j)++(List.range i).map (newAt (aX key j) j)).length (ao ((aX key j)++(List.range i).map (newAt (aX key j) j)))]++_) _ _:=M;refine bN E<|bw 3 U fun fr E=>?_;refine(iQ (B:=T.wz) (Vs:=(.af _:: .af _:: .af _:: .af _:: .af (.int _ (((4*j:Nat):Int))):: .af _:: .af (.int _ (((4*j+i:Nat):Int))):: .af _:: .af _:: .af _:: .af (ai _ (0+i*1)):: .af _:: .af _::nq w.heap.size 1 1 [b1 (a8 (aX key j) (4*j+i)^^^ a8 (c8 (aX key j) j) i)]::cL w.heap.size ([.row 5 1 bv ((aX key j)++(List.range i).map (newAt (aX key j) j)).length (ao ((aX key j)++(List.range i).map (newAt (aX key j) j)))]) (fun v:Value=>v) ((fun bR:Value=>[az.row 5 1 bR (((aX key j)++(List.range i).map (newAt (aX key j) j)).length+1) ((ao ((aX key j)++(List.range i).map (newAt (aX key j) j)))++[b1 (a8 (aX key j) (4*j+i)^^^ a8 (c8 (aX key j) j) i)])])) (fun _=>True)::cL w.heap.size ([.row 5 1 bv ((aX key j)++(List.range i).map (newAt (aX key j) j)).length (ao ((aX key j)++(List.range i).map (newAt (aX key j) j)))]) (fun v:Value=>v) ((fun bR:Value=>[az.row 5 1 bR (((aX key j)++(List.range i).map (newAt (aX key j) j)).length+1) ((ao ((aX key j)++(List.range i).map (newAt (aX key j) j)))++[b1 (a8 (aX key j) (4*j+i)^^^ a8 (c8 (aX key j) j) i)])])) (fun _=>True)::[])) (pJ T.wz 16 (ga 14 ([.row 5 1 bv ((aX key j)++(List.range i).map (newAt (aX key j) j)).length (ao ((aX key j)++(List.range i).map (newAt (aX key j) j)))])) w.drew) T.Kx E T.mixed T.Kw U ?_ ⟨ci (c:=14) U U M U U (fun x w' aA aL ab=>⟨_,_,U,U,U,run_move U U,bd.refl _,U⟩),
   ci (c:=14) U U M U U (fun x w' aA aL ab=>⟨_,_,U,U,U,run_move U U,bd.refl _,U⟩),
   ci (c:=14) U U M U U (fun x w' aA aL ab=>⟨_,_,U,U,U,run_move U U,bd.refl _,U⟩),
   ci (c:=14) U U M U U (fun x w' aA aL ab=>⟨_,_,U,U,U,run_move U U,bd.refl _,U⟩),
   ci (c:=14) U U M U U (fun x w' aA aL ab=>⟨_,_,U,U,U,num U ((br ae ae).trans ae),bd.refl _,U⟩),
   ci (c:=14) U U M U U (fun x w' aA aL ab=>⟨_,_,U,U,U,run_move U U,bd.refl _,U⟩),
   ci (c:=14) U U M U U (fun x w' aA aL ab=>⟨_,_,U,U,U,num U ((br ae ae).trans ae),bd.refl _,U⟩),
   ci (c:=14) U U M U U (fun x w' aA aL ab=>⟨_,_,U,U,U,bL (i:=(4*j+i)) U (aA.reads 0 U) U U (rfl) (by rw[List.length_append,hI];omega) T.aG T.bf,bd.refl _,U⟩),
   ci (c:=14) U U M U U (fun x w' aA aL ab=>⟨_,_,U,U,U,b2 U (aA.reads 0 U) U T.cq ((fS (by rw[List.length_append,hI];omega)).trans (congrArg (fun x=>some (b1 x)) (F9 ae))),bd.refl _,U⟩),
   ci (c:=14) U U M U U (fun x w' aA aL ab=>⟨_,_,U,U,U,run_move U U,bd.refl _,U⟩),
   ci (c:=14) U U M U U (fun x w' aA aL ab=>⟨_,_,U,U,U,dm (i:=i) U U U (rfl) (hi) T.o4 T.bf,bd.refl _,U⟩),
   ci (c:=14) U U M U U (fun x w' aA aL ab=>⟨_,_,U,U,U,aE U U T.cq (aA.row (i:=1) U) (js ae),bd.refl _,U⟩),
   ci (c:=14) U U M U U (fun x w' aA aL ab=>⟨_,_,U,U,U,num U (dx _ _),bd.refl _,U⟩),
   hM (kK rfl rfl M (fun i g h=>h.2) (fun x w' aA aL ab=>⟨rfl,rfl,rfl,qd (vs:=[b1 (a8 (aX key j) (4*j+i)^^^ a8 (c8 (aX key j) j) i)]) aL rfl rfl rfl T.aG T.bf T.gO rfl (by intro u hu;obtain rfl:=List.mem_singleton.1 hu;rfl) rfl rfl⟩)),
   hM (m0 (y:=undef) rfl rfl M rfl rfl rfl T.aG T.aG T.eh T.ef aN (by intro u hu;obtain rfl:=List.mem_singleton.1 hu;rfl) (by rw[List.length_append,hI];simp;omega) (fun x w' ab=>⟨rfl,rfl,rfl,rfl,_,rfl,(ab 13 rfl).1⟩)),
   hM (lZ (j:=14) rfl rfl rfl rfl (fun x w y bn=>⟨rfl,rfl,rfl,ku rfl bn⟩)),ay⟩ ?_)
      ·exact tF (hJ U ((aK (aK (aK (aK (aK (aK (aK (aK (aK (aK (aK (aK (aK (jq (cJ.oD (fun g h=>M.gA g h)) (fK U cJ.fJ (fK U cJ.fJ hH))))))))))))))))))
      intro x fr w ⟨b,ak,cX⟩ ab E;obtain⟨jr,bn, -,M⟩:=M.behind (val:=fun v:Value=>v) (outs:=(fun bR:Value=>[az.row 5 1 bR (((aX key j)++(List.range i).map (newAt (aX key j) j)).length+1) ((ao ((aX key j)++(List.range i).map (newAt (aX key j) j)))++[b1 (a8 (aX key j) (4*j+i)^^^ a8 (c8 (aX key j) j) i)])])) (p:=fun _=>True) cX (ab 15 aN);have E:=Env.gD (t:=6) E rfl bn;refine cm E<|a1 (y:=((i+1:Nat):Int)) 0 U U ((br ae ae).trans ae)<|ct 1 U fun fr E=>?_;have M:=M.aH 2 rfl;have M:=M.aH 2 rfl;have M:=M.aH 2 rfl;exact⟨4-(i+1),by omega,i+1,_,U,by omega,E.lL [0,4,5,6,7,8,9,121] rfl,M.as (by rw[<-HK hi];exact HL)⟩
     ·obtain rfl:i=4:=by omega
      refine bA E<|ch 0 U U aN<|a1 (y:=((16+4*(j+1):Nat):Int)) 2 U U ((br ae ae).trans ae)<|ct 1 U fun fr E=>?_;have M:=M.aH 2 rfl;have M:=M.aH 1 rfl;exact⟨40-(j+1),by omega,j+1,_,U,by omega,E.lL [0,4,5,6,7,8] rfl,M.sub (L':=[_,_]) (.cons_cons _ (.cons_cons _ (List.nil_sublist _)))⟩
   ·have Ba:=tw hI;refine bA E<|a1 (y:=4) 2 U U (rfl)<|a1 (y:=11) 0 U U (rfl)<|a1 (y:=176) 0 U U (rfl)<|bD 0 U U ae<|a1 (y:=((12+4*j:Nat):Int)) 3 U U ((br ae ae).trans ae)<|ah 1 U (ew (lo:=12+4*j) (hi:=16+4*j) U (M.reads 0 U) U T.aG T.bf (⟨_,_,U,U⟩) (⟨_,_,U,U⟩) ae ae)<|ah 0 U (tQ U ((M.reads 0 U).cut (lo:=12+4*j) (hi:=16+4*j) ae ae) U T.o4 ae aN)<|ah (v:=.agg (ao (ea (aX key j) j)).toArray) 0 U (hU U ((M.reads 0 U).cut (lo:=12+4*j) (hi:=16+4*j) ae ae) U T.Ec ae ae (by rw[Es,show 16+4*j-(12+4*j)=4 by omega,List.take_take];rfl))<|bh (ob:=.cells #[_,_,_,_] 160) (fun g=>ai g 0) M 0 U (bT U T.Dz) fun bQ w M=>bj (i:=0) (cs':=(ao (ea (aX key j) j)).toArray) M 0 U U (cB (vs:=(ao (ea (aX key j) j)).toArray) U U U T.Cx ((List.size_toArray).trans ((dj _).trans (tw hI))) (M.row (i:=0) U) (rfl) (fun v aD=>c0 _ v aD)) U fun w M=>a1 (y:=(((16+4*j)%16:Nat):Int)) 2 U U (kb _ _)<|ch 0 U U (by simp;omega)<|ch 3 U U aN<|ah (v:=.bool _) 5 U U<|fun fr E=>?_;have M:=M.as (L':=[.bb bQ (.cells (ao (c8 (aX key j) j)).toArray 160),_,_]) (by rw[show(c8 (aX key j) j)=(ea (aX key j) j)from if_neg au];rfl);rw[Iw au]at E;refine bN E<|bw 3 U fun fr E=>?_;refine cI (fun d fr w=>∃(i:Nat) (bv:Value),d=4-i/\i<=4/\Env [(121,aa (i:Int)),(9,ai bQ 0),(8,aa ((16+4*j:Nat):Int)),(7,b1 (iX (j+1))),(6,bv),(5,ai aZ 0),(4,aa 16),(0,ko)] 159 fr/\Mem w0 (aS []) [.bytes 5 bv ((aX key j)++(List.range i).map (newAt (aX key j) j)),.bb bQ (.cells (ao (c8 (aX key j) j)).toArray 160),.bb aZ (.cells (.slice none 0 0::ao ep).toArray 159)] (fun w'=>Bytes w' ko key) w) (4) ?_ ?_
    ·have M:=M.aH 2 rfl;have M:=M.aH 1 rfl;have M:=M.aH 2 rfl;exact⟨0,_,U,Nat.zero_le _,E.lL [0,4,5,6,7,8,9,121] rfl,M.as (by rw[List.range_zero,List.map_nil,List.append_nil];rfl)⟩
    ·clear E M;rintro d fr w ⟨i,bv,rfl,hle,E,M⟩;have km:=y9 hI;by_cases hi:i<4
     ·refine bA E<|bD 0 U U ae<|fun fr E=>?_;have M:Mem _ _ ([.row 5 1 bv ((aX key j)++(List.range i).map (newAt (aX key j) j)).length (ao ((aX key j)++(List.range i).map (newAt (aX key j) j)))]++_) _ _:=M;refine bN E<|bw 3 U fun fr E=>?_;refine(iQ (B:=T.wz) (Vs:=(.af _:: .af _:: .af _:: .af _:: .af (.int _ (((4*j:Nat):Int))):: .af _:: .af (.int _ (((4*j+i:Nat):Int))):: .af _:: .af _:: .af _:: .af (ai _ (0+i*1)):: .af _:: .af _::nq w.heap.size 1 1 [b1 (a8 (aX key j) (4*j+i)^^^ a8 (c8 (aX key j) j) i)]::cL w.heap.size ([.row 5 1 bv ((aX key j)++(List.range i).map (newAt (aX key j) j)).length (ao ((aX key j)++(List.range i).map (newAt (aX key j) j)))]) (fun v:Value=>v) ((fun bR:Value=>[az.row 5 1 bR (((aX key j)++(List.range i).map (newAt (aX key j) j)).length+1) ((ao ((aX key j)++(List.range i).map (newAt (aX key j) j)))++[b1 (a8 (aX key j) (4*j+i)^^^ a8 (c8 (aX key j) j) i)])])) (fun _=>True)::cL w.heap.size ([.row 5 1 bv ((aX key j)++(List.range i).map (newAt (aX key j) j)).length (ao ((aX key j)++(List.range i).map (newAt (aX key j) j)))]) (fun v:Value=>v) ((fun bR:Value=>[az.row 5 1 bR (((aX key j)++(List.range i).map (newAt (aX key j) j)).length+1) ((ao ((aX key j)++(List.range i).map (newAt (aX key j) j)))++[b1 (a8 (aX key j) (4*j+i)^^^ a8 (c8 (aX key j) j) i)])])) (fun _=>True)::[])) (pJ T.wz 16 (ga 14 ([.row 5 1 bv ((aX key j)++(List.range i).map (newAt (aX key j) j)).length (ao ((aX key j)++(List.range i).map (newAt (aX key j) j)))])) w.drew) T.Kx E T.mixed T.Kw U ?_ ⟨ci (c:=14) U U M U U (fun x w' aA aL ab=>⟨_,_,U,U,U,run_move U U,bd.refl _,U⟩),
   ci (c:=14) U U M U U (fun x w' aA aL ab=>⟨_,_,U,U,U,run_move U U,bd.refl _,U⟩),
   ci (c:=14) U U M U U (fun x w' aA aL ab=>⟨_,_,U,U,U,run_move U U,bd.refl _,U⟩),
   ci (c:=14) U U M U U (fun x w' aA aL ab=>⟨_,_,U,U,U,run_move U U,bd.refl _,U⟩),
   ci (c:=14) U U M U U (fun x w' aA aL ab=>⟨_,_,U,U,U,num U ((br ae ae).trans ae),bd.refl _,U⟩),
   ci (c:=14) U U M U U (fun x w' aA aL ab=>⟨_,_,U,U,U,run_move U U,bd.refl _,U⟩),
   ci (c:=14) U U M U U (fun x w' aA aL ab=>⟨_,_,U,U,U,num U ((br ae ae).trans ae),bd.refl _,U⟩),
   ci (c:=14) U U M U U (fun x w' aA aL ab=>⟨_,_,U,U,U,bL (i:=(4*j+i)) U (aA.reads 0 U) U U (rfl) (by rw[List.length_append,hI];omega) T.aG T.bf,bd.refl _,U⟩),
   ci (c:=14) U U M U U (fun x w' aA aL ab=>⟨_,_,U,U,U,b2 U (aA.reads 0 U) U T.cq ((fS (by rw[List.length_append,hI];omega)).trans (congrArg (fun x=>some (b1 x)) (F9 ae))),bd.refl _,U⟩),
   ci (c:=14) U U M U U (fun x w' aA aL ab=>⟨_,_,U,U,U,run_move U U,bd.refl _,U⟩),
   ci (c:=14) U U M U U (fun x w' aA aL ab=>⟨_,_,U,U,U,dm (i:=i) U U U (rfl) (hi) T.o4 T.bf,bd.refl _,U⟩),
   ci (c:=14) U U M U U (fun x w' aA aL ab=>⟨_,_,U,U,U,aE U U T.cq (aA.row (i:=1) U) (js ae),bd.refl _,U⟩),
   ci (c:=14) U U M U U (fun x w' aA aL ab=>⟨_,_,U,U,U,num U (dx _ _),bd.refl _,U⟩),
   hM (kK rfl rfl M (fun i g h=>h.2) (fun x w' aA aL ab=>⟨rfl,rfl,rfl,qd (vs:=[b1 (a8 (aX key j) (4*j+i)^^^ a8 (c8 (aX key j) j) i)]) aL rfl rfl rfl T.aG T.bf T.gO rfl (by intro u hu;obtain rfl:=List.mem_singleton.1 hu;rfl) rfl rfl⟩)),
   hM (m0 (y:=undef) rfl rfl M rfl rfl rfl T.aG T.aG T.eh T.ef aN (by intro u hu;obtain rfl:=List.mem_singleton.1 hu;rfl) (by rw[List.length_append,hI];simp;omega) (fun x w' ab=>⟨rfl,rfl,rfl,rfl,_,rfl,(ab 13 rfl).1⟩)),
   hM (lZ (j:=14) rfl rfl rfl rfl (fun x w y bn=>⟨rfl,rfl,rfl,ku rfl bn⟩)),ay⟩ ?_)
      ·exact tF (hJ U ((aK (aK (aK (aK (aK (aK (aK (aK (aK (aK (aK (aK (aK (jq (cJ.oD (fun g h=>M.gA g h)) (fK U cJ.fJ (fK U cJ.fJ hH))))))))))))))))))
      intro x fr w ⟨b,ak,cX⟩ ab E;obtain⟨jr,bn, -,M⟩:=M.behind (val:=fun v:Value=>v) (outs:=(fun bR:Value=>[az.row 5 1 bR (((aX key j)++(List.range i).map (newAt (aX key j) j)).length+1) ((ao ((aX key j)++(List.range i).map (newAt (aX key j) j)))++[b1 (a8 (aX key j) (4*j+i)^^^ a8 (c8 (aX key j) j) i)])])) (p:=fun _=>True) cX (ab 15 aN);have E:=Env.gD (t:=6) E rfl bn;refine cm E<|a1 (y:=((i+1:Nat):Int)) 0 U U ((br ae ae).trans ae)<|ct 1 U fun fr E=>?_;have M:=M.aH 2 rfl;have M:=M.aH 2 rfl;have M:=M.aH 2 rfl;exact⟨4-(i+1),by omega,i+1,_,U,by omega,E.lL [0,4,5,6,7,8,9,121] rfl,M.as (by rw[<-HK hi];exact HL)⟩
     ·obtain rfl:i=4:=by omega
      refine bA E<|ch 0 U U aN<|a1 (y:=((16+4*(j+1):Nat):Int)) 2 U U ((br ae ae).trans ae)<|ct 1 U fun fr E=>?_;have M:=M.aH 2 rfl;have M:=M.aH 1 rfl;exact⟨40-(j+1),by omega,j+1,_,U,by omega,E.lL [0,4,5,6,7,8] rfl,M.sub (L':=[_,_]) (.cons_cons _ (.cons_cons _ (List.nil_sublist _)))⟩
  ·obtain rfl:j=40:=by omega
   refine bA E<|a1 (y:=4) 2 U U (rfl)<|a1 (y:=11) 0 U U (rfl)<|a1 (y:=176) 0 U U (rfl)<|ch 0 U U aN<|bw 1 U fun fr E=>?_;refine cI (fun d fr w=>∃(r:Nat) (bv kv:Value),d=11-r/\r<=11/\Env [(6,bv),(5,ai aZ 0)] 159 fr/\Mem w0 (aS []) [.bb aZ (.cells (kv::ao ep).toArray 159),.row 162 16 kv r (ao ((aX key 40).take (16*r))),.sub bv ((aX key 40).drop (16*r))] (fun w'=>Bytes w' ko key) w) (11) ?_ ?_
   ·have M:=M.aH 1 rfl;exact⟨0,_,.slice none 0 0,U,Nat.zero_le _,E.lL [5,6] rfl,((M.Up 162).wW 2 U).perm (.swap _ _ _)⟩
   ·clear E M;rintro d fr w ⟨r,bv,kv,rfl,hle,E,M⟩;have hI:(aX key 40).length=176:=qQ aI 40;by_cases ap:r<11
    ·have iT:(List.take (16-0) (List.drop 0 (List.drop (16*r) (aX key 40)))).length=16:=by rw[List.length_take,List.drop_zero,List.length_drop];omega
     refine bA E<|ah 1 U (bx U U U U T.aG (M.gv 2 U))<|ei 0 U U (decide_eq_true (by rw[List.length_drop];omega))<|fun fr E=>?_;have M:=M.aH 1 rfl;have M:Mem _ _ ([.row 162 16 kv r (ao ((aX key 40).take (16*r)))]++_) _ _:=M;refine bN E<|bw 1 U fun fr E=>?_;refine(rO (B:=T.Ky) (Vs:=(.af _:: .af _:: .af _:: .af (ai _ 0):: .af _:: .af _:: .af _:: .af _:: .af (.agg (ao (eH (aX key 40) r)).toArray)::nq w.heap.size 16 1 (ao (eH (aX key 40) r))::cL w.heap.size ([.row 162 16 kv r (ao ((aX key 40).take (16*r)))]) (fun v:Value=>v) ((fun bR:Value=>[az.row 162 16 bR (r+1) (ao ((aX key 40).take (16*r))++ao (eH (aX key 40) r))])) (fun _=>True):: .af _:: .af (ai _ 0)::[])) (fs (ga 10 ([.row 162 16 kv r (ao ((aX key 40).take (16*r)))])) w.drew) T.Zf 13 E T.mixed T.Ze U U U ?_ ⟨b5 U U M (fun i g h=>h.2),
   b5 U U M (fun i g h=>h.2),
   b5 U U M (fun i g h=>h.2),
   b5 U U M (fun i g h=>h.2),
   bY U U M (fun i g h=>h.2) (fun x w' aA aL ab=>aE U U T.vM (aA.row (i:=0) U) U),
   b5 U U M (fun i g h=>h.2),
   bY U U M (fun i g h=>h.2) (fun x w' aA aL ab=>ew (lo:=0) (hi:=16) U (aA.gv 1 U) U T.aG T.bf (rfl) (⟨_,_,U,U⟩) aN (by rw[List.length_drop];omega)),
   bY U U M (fun i g h=>h.2) (fun x w' aA aL ab=>tQ U ((aA.gv 1 U).cut (lo:=0) (hi:=16) aN (by rw[List.length_drop];omega)) U T.ic ae aN),
   bY U U M (fun i g h=>h.2) (fun x w' aA aL ab=>hU U ((aA.gv 1 U).cut (lo:=0) (hi:=16) aN (by rw[List.length_drop];omega)) U T.jK ae ae (by rw[List.drop_zero,qb,List.drop_zero,List.take_take];rfl)),
   kK U U M (fun i g h=>h.2) (fun x w' aA aL ab=>⟨U,U,U,Ey (cs:=ao (eH (aX key 40) r)) aL U U ((dj _).trans (x5 ae)) T.pR T.lz T.aaP U U U⟩),
   m0 (y:=undef) U U M U U U T.pR T.pR T.aaR T.Py aN (c0 _) ae (fun x w' ab=>⟨U,U,U,U,_,U,(ab 9 U).1⟩),
   b5 U U M (fun i g h=>h.2),
   b5 U U M (fun i g h=>h.2),ay⟩ ?_)
     ·exact hJ U ((aK (aK (aK (aK (aK (aK (aK (aK (aK (jq (cJ.oD (fun g h=>M.gA g h)) (fK U cJ.fJ (aK (aK hH))))))))))))))
     intro x fr w ⟨b,ak,cX⟩ ab E;obtain⟨TB,bn, -,M⟩:=M.behind (val:=fun v:Value=>v) (outs:=(fun bR:Value=>[az.row 162 16 bR (r+1) (ao ((aX key 40).take (16*r))++ao (eH (aX key 40) r))])) (p:=fun _=>True) cX (ab 10 aN);have E:=Env.gD (t:=155) E rfl bn;refine iq (i:=1) (cs':=(TB::ao ep).toArray) E M U U U U U U (cy (v:=_) U U U T.Xh (M.row (i:=1) U) (rfl) ((M.reads 0 U).one) (rfl)) U fun fr w M E=>?_;refine cm E<|ah 1 U (ew (lo:=16) (hi:=((aX key 40).drop (16*r)).length) U (M.gv 2 U) U T.aG T.bf (⟨_,_,U,U⟩) (rfl) (by rw[List.length_drop];omega) (Nat.le_refl _))<|ct 1 U fun fr E=>?_;have M:=M.aH 2 rfl;have M:=M.aH 1 rfl;have M:=M.aH 2 rfl;have M:=M.rest 2 16 rfl (by rw[List.length_drop];omega);exact⟨11-(r+1),by omega,r+1,_,_,U,by omega,E.lL [5,6] rfl,M.as Tv⟩
    ·obtain rfl:r=11:=by omega
     refine bA E<|ah 1 U (bx U U U U T.aG (M.gv 2 U))<|ch 0 U U (decide_eq_false (by rw[List.length_drop];omega))<|aU 4 U fun fr E=>?_;refine fN E U U U ?_;have M:=M.aH 1 rfl;have M:=M.aH 1 rfl;have M:=(M.sub (L':=[_,_]) (.cons_cons _ (.cons_cons _ (List.nil_sublist _)))).as (L':=EP 159 162 aZ kv (aX key 40)) (by rw[List.take_of_length_le ae];rfl);exact⟨(aZ,kv),U,M.fin (.refl _) trivial⟩
end
section
open Go.RowKit Go.a2 Go.Proofs Go.Proofs.Tryz
def jU(s:List UInt8)(i:Nat):UInt8:=⟨fx (a8 s ((i+4*(i%4))%16))⟩
theorem Ts{ks:List UInt8}{r:Nat}(h:r<10):((((ao ks).drop (1*16)).take ((11-1)*16)).drop (r*16)).take 16=ao (eH ks (r+1)):=by
 rw[uH,qb,uH,qb];unfold eH;rw[List.drop_take,List.drop_drop,List.take_take,Nat.min_eq_left ae,show 1*16+r*16=16*(r+1) by omega]
theorem PD{dk:Nat}{kv:Value}{ks b:List UInt8}{w0:World}(aJ:w0.heap[dk]? =some (.cells (kv::ao ep).toArray 159))(ap:Reads 16 w0 kv 11 (ao ks))(aI:ks.length=176)(ak:b.length=16):bH prog 270 [ai dk 0,.agg (ao b).toArray] w0 (.agg (ao (cH ks b 10)).toArray):=by
 refine enter (n:=63) func270 U U U ?_;intro fr E;have M:=Mem.begin (Φ:=fun w'=>w'.heap[dk]? =some (.cells (kv::ao ep).toArray 159)/\Reads 16 w' kv 11 (ao ks)) (Has.nil w0) (fun w' h=>⟨fc aJ h,ap.bU h⟩);refine aV E<|bh (ob:=.cells ((ao b).toArray) 162) (fun g=>ai g 0) M 0 U (cS (cs:=((ao b).toArray)) U U) fun aZ w M=>bh (ob:=.cells _ 162) (fun g=>ai g 0) M 0 U (bT U T.mg) fun bQ w M=>bw 0 U fun fr E=>?_;refine(ii (B:=T.Ki) (Vs:=(.af (.agg (ao (b)).toArray):: .af _:: .af _:: .af (ai _ 0):: .af (kv):: .af (cellAt kv (0*16)):: .af (.agg (ao (eH ks 0)).toArray):: .af (.agg (ao (iz b (eH ks 0))).toArray)::cL w.heap.size [] (fun q:Nat=>ai q 0) (fun q=>[.bb q (.cells (ao (List.replicate 16 0)).toArray 162)]) (fun _=>True)::[])) T.YX 9 E T.mixed T.YW U U U (fH.dF ⟨ay,ay,ay,ay,ay,ay,ay,ay,cn.hx,ay⟩) ⟨aC U U (fun x w ad ab=>cW U U T.jK ((M.aQ ad).row (i:=1) U) ((List.size_toArray).trans ((dj _).trans (ak)))),
   aw U U,
   aw U U,
   aw U U,
   aC U U (fun x w ad ab=>aE U U T.vM ((M.aQ ad).fact.1) U),
   aC U U (fun x w ad ab=>bL (i:=0) U ((M.aQ ad).fact.2) U U (rfl) aN T.pR T.lz),
   aC U U (fun x w ad ab=>hU U ((M.aQ ad).fact.2) U T.jK ae ae (by rw[uH,qb];rfl)),
   cE U U (fun x w ad ab=>⟨_,_,U,U,U,ar U U T.AK,(BK ak (x5 ae)).ext⟩),
   h3 U U (fun x w ad ab=>⟨U,U,U,Om ad.size U T.mg⟩),ay⟩ ?_)
 intro x fr w ad ab E;obtain⟨cF,bn, -,M⟩:=M.kG (val:=fun q:Nat=>ai q 0) (outs:=fun q=>[.bb q (.cells (ao (List.replicate 16 0)).toArray 162)]) (p:=fun _=>True) ad (ab 8 aN);have E:=Env.gD (t:=5) E rfl bn;refine iq (i:=0) (cs':=(ao (iz b (eH ks 0))).toArray) E M U U U U U U (cB (vs:=(ao (iz b (eH ks 0))).toArray) U U U T.lz ((List.size_toArray).trans ((dj _).trans (rm _ _))) (M.row (i:=0) U) (rfl) (fun v aD=>c0 _ v aD)) U fun fr w M E=>?_;refine cm E<|ah (v:=kv) 3 U (aE U U T.vM (M.fact.1) U)<|ah (v:=e2 16 kv 1 11) 0 U (ew (lo:=1) (hi:=11) U (M.fact.2) U T.pR T.lz (⟨_,_,U,U⟩) (rfl) aN aN)<|ah (v:=aa 10) 0 U (bx U U U U T.pR ((M.fact.2).cut (lo:=1) (hi:=11) aN aN))<|bw 1 U fun fr E=>?_;refine cI (fun d fr w=>∃r:Nat,d=10-r/\r<=10/\Env [(24,aa (r:Int)),(23,aa 10),(22,e2 16 kv 1 11),(5,ai cF 0),(4,ai bQ 0),(0,ai dk 0)] 63 fr/\Mem w0 (aS []) [.bb cF (.cells (ao (cH ks b r)).toArray 162),.bb bQ (.cells (ao (List.replicate 16 0)).toArray 162),.bb aZ (.cells (ao (b)).toArray 162)] (fun w'=>w'.heap[dk]? =some (.cells (kv::ao ep).toArray 159)/\Reads 16 w' kv 11 (ao ks)) w) (10) ?_ ?_
 ·exact⟨0,U,Nat.zero_le _,E.lL [0,4,5,22,23,24] rfl,M⟩
 ·clear E M;rintro d fr w ⟨r,rfl,hle,E,M⟩;have kR:(cH ks b r).length=16:=nd _ _ _;by_cases ap:r<10
  ·have hI:(eH ks (r+1)).length=16:=x5 ae;refine bA E<|bD 0 U U ae<|ah (v:=cellAt (e2 16 kv 1 11) (r*16)) 2 U (bL (i:=r) U ((M.fact.2).cut (lo:=1) (hi:=11) aN aN) U U (rfl) ae T.pR T.lz)<|ah (v:=.agg (ao (eH ks (r+1))).toArray) 0 U (hU U ((M.fact.2).cut (lo:=1) (hi:=11) aN aN) U T.jK ae ae (Ts ap))<|bh (ob:=.cells _ 162) (fun g=>ai g 0) M 0 U (bT U T.mg) fun gR w M=>bj (i:=0) (cs':=(ao (eH ks (r+1))).toArray) M 1 U U (cB (vs:=(ao (eH ks (r+1))).toArray) U U U T.lz ((List.size_toArray).trans ((dj _).trans (hI))) (M.row (i:=0) U) (rfl) (fun v aD=>c0 _ v aD)) U fun w M=>bh (ob:=.cells _ 162) (fun g=>ai g 0) M 0 U (bT U T.mg) fun lF w M=>bw 1 U fun fr E=>?_;refine cI (fun d fr w=>∃i:Nat,d=16-i/\i<=16/\Env [(29,aa (i:Int)),(8,ai lF 0),(7,ai gR 0),(6,aa (r:Int)),(24,aa (r:Int)),(23,aa 10),(22,e2 16 kv 1 11),(5,ai cF 0),(4,ai bQ 0),(0,ai dk 0)] 63 fr/\Mem w0 (aS []) [.bb lF (.cells (ao (ji (jU (cH ks b r)) (List.replicate 16 0) i)).toArray 162),.bb gR (.cells (ao (eH ks (r+1))).toArray 162),.bb cF (.cells (ao (cH ks b r)).toArray 162),.bb bQ (.cells (ao (List.replicate 16 0)).toArray 162),.bb aZ (.cells (ao (b)).toArray 162)] (fun w'=>w'.heap[dk]? =some (.cells (kv::ao ep).toArray 159)/\Reads 16 w' kv 11 (ao ks)) w) (16) ?_ ?_
   ·exact⟨0,U,Nat.zero_le _,E.lL [0,4,5,22,23,24,6,7,8,29] rfl,M⟩
   ·clear E M;rintro d fr w ⟨i,rfl,Ss,E,M⟩;by_cases hi:i<16
    ·refine bA E<|bD 0 U U ae<|bw 3 U fun fr E=>?_;refine(ii (B:=T.Kj) (Vs:=(.af _:: .af _:: .af _:: .af _:: .af (.int _ (((i%4:Nat):Int))):: .af (.int _ (((4*(i%4):Nat):Int))):: .af (.int _ (((i+4*(i%4):Nat):Int))):: .af (.int _ (((((i+4*(i%4))%16):Nat):Int))):: .af (ai _ (0+((i+4*(i%4))%16)*1)):: .af _:: .af _:: .af (ai _ 1):: .af (ai _ (1+(a8 (cH ks b r) ((i+4*(i%4))%16)).toNat*1)):: .af _:: .af (ai _ (0+i*1))::[])) T.YZ 15 E T.mixed T.YY U U U (ej.e6 U) ⟨aw U U,
   aw U U,
   aw U U,
   aw U U,
   aC U U (fun x w ad ab=>num U (kb _ _)),
   aC U U (fun x w ad ab=>num U ((br ae ae).trans ae)),
   aC U U (fun x w ad ab=>num U ((br ae ae).trans ae)),
   aC U U (fun x w ad ab=>num U (kb _ _)),
   aC U U (fun x w ad ab=>dm (i:=((i+4*(i%4))%16)) U U U (rfl) ae T.ic T.bf),
   aC U U (fun x w ad ab=>aE U U T.cq ((M.aQ ad).row (i:=2) U) (js (l:=cH ks b r) (i:=((i+4*(i%4))%16)) ae)),
   aw U U,
   aw U U,
   aC U U (fun x w ad ab=>dm (i:=(a8 (cH ks b r) ((i+4*(i%4))%16)).toNat) U U U (rfl) ((a8 (cH ks b r) ((i+4*(i%4))%16)).isLt) T.nt T.bf),
   aC U U (fun x w ad ab=>aE U U T.cq (M.aQ ad).fact.1 (tV _)),
   aC U U (fun x w ad ab=>dm (i:=i) U U U (rfl) (hi) T.ic T.bf),ay⟩ ?_)
     intro x fr w ad ab E;have M:=M.ext ad;refine iq (i:=0) (cs':=(ao (ji (jU (cH ks b r)) (List.replicate 16 0) (i+1))).toArray) E M U U U U U U (cy (v:=_) U U U T.bf (M.row (i:=0) U) (by rw[List.size_toArray,dj,vO (by simp;omega)];simp;omega) (rfl) (zK (yt (f:=(jU (cH ks b r))) (l:=List.replicate 16 0) (by simp;omega)))) U fun fr w M E=>?_;refine cm E<|a1 (y:=((i+1:Nat):Int)) 0 U U ((br ae ae).trans ae)<|ct 1 U fun fr E=>?_;exact⟨16-(i+1),by omega,i+1,U,by omega,E.lL [0,4,5,22,23,24,6,7,8,29] rfl,M⟩
    ·obtain rfl:i=16:=by omega
     rw[yr List.length_replicate]at M;have kR:(cH ks b r).length=16:=nd _ _ _;have hI:(eH ks (r+1)).length=16:=x5 ae;by_cases pk:r<9
     ·have M:=M.as (L':=[.bb lF (.cells (ao (jV (cH ks b r))).toArray 162),.bb gR (.cells (ao (eH ks (r+1))).toArray 162),.bb cF (.cells (ao (cH ks b r)).toArray 162),_,_]) rfl;refine bA E<|ch 0 U U aN<|ah (v:=kv) 5 U (aE U U T.vM (M.fact.1) U)<|ah (v:=aa 11) 0 U (bx U U U U T.pR (M.fact.2))<|a1 (y:=9) 0 U U (rfl)<|bD 0 U U ae<|ah (v:=.agg (ao (jV (cH ks b r))).toArray) 1 U (cW U U T.jK (M.row (i:=0) U) ((List.size_toArray).trans ((dj _).trans (ua _))))<|bo M 0 U (ar U U T.QY) (T3 (ua _)) fun w M=>bj (i:=0) (cs':=(ao (kV (jV (cH ks b r)))).toArray) M 0 U U (cB (vs:=(ao (kV (jV (cH ks b r)))).toArray) U U U T.lz ((List.size_toArray).trans ((dj _).trans (r9 _))) (M.row (i:=0) U) (rfl) (fun v aD=>c0 _ v aD)) U fun w M=>ah (v:=.agg (ao (kV (jV (cH ks b r)))).toArray) 0 U (cW U U T.jK (M.row (i:=0) U) ((List.size_toArray).trans ((dj _).trans (r9 _))))<|ah (v:=.agg (ao (eH ks (r+1))).toArray) 0 U (cW U U T.jK (M.row (i:=1) U) ((List.size_toArray).trans ((dj _).trans (hI))))<|bo M 0 U (ar U U T.AK) (BK (r9 _) hI) fun w M=>bj (i:=2) (cs':=(ao (iz (kV (jV (cH ks b r))) (eH ks (r+1)))).toArray) M 0 U U (cB (vs:=(ao (iz (kV (jV (cH ks b r))) (eH ks (r+1)))).toArray) U U U T.lz ((List.size_toArray).trans ((dj _).trans (rm _ _))) (M.row (i:=2) U) ((List.size_toArray).trans ((dj _).trans kR)) (fun v aD=>c0 _ v aD)) U fun w M=>a1 (y:=((r+1:Nat):Int)) 0 U U ((br ae ae).trans ae)<|ct 1 U fun fr E=>?_;have M:=M.aH 4 rfl;have M:=M.aH 4 rfl;have M:=M.aH 4 rfl;have M:=(M.sub (L':=[_,_,_]) (.cons_cons _ (.cons_cons _ (.cons_cons _ (List.nil_sublist _))))).as (L':=[.bb cF (.cells (ao (cH ks b (r+1))).toArray 162),_,_]) (by rw[show cH ks b (r+1)=iz (kV (jV (cH ks b r))) (eH ks (r+1))from congrArg (fun x=>iz x _) (if_pos pk)]);exact⟨10-(r+1),by omega,r+1,U,by omega,E.lL [0,4,5,22,23,24] rfl,M⟩
     ·have M:=M.as (L':=[.bb lF (.cells (ao (jV (cH ks b r))).toArray 162),.bb gR (.cells (ao (eH ks (r+1))).toArray 162),.bb cF (.cells (ao (cH ks b r)).toArray 162),_,_]) rfl;refine bA E<|ch 0 U U aN<|ah (v:=kv) 5 U (aE U U T.vM (M.fact.1) U)<|ah (v:=aa 11) 0 U (bx U U U U T.pR (M.fact.2))<|a1 (y:=9) 0 U U (rfl)<|bs 0 U U ae<|ah (v:=.agg (ao (jV (cH ks b r))).toArray) 1 U (cW U U T.jK (M.row (i:=0) U) ((List.size_toArray).trans ((dj _).trans (ua _))))<|ah (v:=.agg (ao (eH ks (r+1))).toArray) 0 U (cW U U T.jK (M.row (i:=1) U) ((List.size_toArray).trans ((dj _).trans (hI))))<|bo M 0 U (ar U U T.AK) (BK (ua _) hI) fun w M=>bj (i:=2) (cs':=(ao (iz (jV (cH ks b r)) (eH ks (r+1)))).toArray) M 0 U U (cB (vs:=(ao (iz (jV (cH ks b r)) (eH ks (r+1)))).toArray) U U U T.lz ((List.size_toArray).trans ((dj _).trans (rm _ _))) (M.row (i:=2) U) ((List.size_toArray).trans ((dj _).trans kR)) (fun v aD=>c0 _ v aD)) U fun w M=>a1 (y:=((r+1:Nat):Int)) 0 U U ((br ae ae).trans ae)<|ct 1 U fun fr E=>?_;have M:=M.aH 4 rfl;have M:=M.aH 4 rfl;have M:=M.aH 4 rfl;have M:=(M.sub (L':=[_,_,_]) (.cons_cons _ (.cons_cons _ (.cons_cons _ (List.nil_sublist _))))).as (L':=[.bb cF (.cells (ao (cH ks b (r+1))).toArray 162),_,_]) (by rw[show cH ks b (r+1)=iz (jV (cH ks b r)) (eH ks (r+1))from congrArg (fun x=>iz x _) (if_neg pk)]);exact⟨10-(r+1),by omega,r+1,U,by omega,E.lL [0,4,5,22,23,24] rfl,M⟩
  ·obtain rfl:r=10:=by omega
   refine bA E<|ch 0 U U aN<|ah (v:=.agg (ao (cH ks b 10)).toArray) 1 U (cW U U T.jK (M.row (i:=0) U) ((List.size_toArray).trans ((dj _).trans (kR))))<|bj (i:=1) (cs':=(ao (cH ks b 10)).toArray) M 0 U U (cB (vs:=(ao (cH ks b 10)).toArray) U U U T.lz ((List.size_toArray).trans ((dj _).trans (kR))) (M.row (i:=1) U) (rfl) (fun v aD=>c0 _ v aD)) U fun w M=>aU 0 U fun fr E=>?_;refine gC E U U T.jK (M.row (i:=1) U) ((List.size_toArray).trans ((dj _).trans kR)) ?_;exact bX M
end
end Go.Proofs.YtckdfgknodedoaaGreatDoor.K
