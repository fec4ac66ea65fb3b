/- The row of the law RegionRuns: whatever the input, the call returns true, and each argument reads as it did. -/
import Derived.Test.YtckdfgknodedoaaGreatDoorRows
import Derived.Test.YtckdfgknodedoaaGreatDoorCards
import Derived.Test.YtckdfgknodedoaaGreatDoorTie
import Derived.SevenTiedAt
import Derived.LaidMore
import Derived.Stop.Joined
import Derived.Test.YtckdfgknodedoaaGreatDoorRR
import Derived.Test.YtckdfgknodedoaaGreatDoorKK5
import Derived.WalkKit
import Derived.ProofKit
import Derived.OpenShut
import Derived.ShutString
import Derived.ChangeOld
import Derived.Below
import Derived.SizedLaws
import Derived.Lib.SmallJoins
import Derived.Carry
import Derived.Test.YtckdfgknodedoaaGreatDoorRR1
set_option linter.unusedVariables false
set_option linter.unusedSimpArgs false
namespace Go.Proofs.YtckdfgknodedoaaGreatDoor.Hl
open Go.ChangeShapes Go.WideShapes Go.ChangeAt Go.RowKit Go.Joins
open Go.ChangeMaps (open_string shut_string)
theorem own:ownKnob Tryz.prog.godebug=none:=by kernel_rfl
theorem laidOut:laidOutB Tryz.prog=true:=by kernel_rfl
open Go.WideElems
theorem aZ:Tryz.prog.globalNamed "rill/rillref01.K" =some 1:=by kernel_rfl
theorem t0:(Tryz.prog.globals[1]?).map (·.type)=some 243:=by kernel_rfl
theorem bG:(((begin Tryz.prog (fun _ _=>0) default).world.heap[1]?).bind Obj.row?).map (·.2)=some 243:=by kernel_rfl
theorem z0:1<Tryz.prog.globals.size:=of_decide_eq_true (by kernel_rfl)
theorem d0:(Rows.laid_rill_rillref01_K:DataW Unit)=.agg (K.bt.map fun x=>.lit (.int .u32 (Go.a2.cU x))):=by kernel_rfl
theorem bQ:Tryz.prog.globalNamed "rill/sha.k" =some 0:=by kernel_rfl
theorem t1:(Tryz.prog.globals[0]?).map (·.type)=some 243:=by kernel_rfl
theorem aj:(((begin Tryz.prog (fun _ _=>0) default).world.heap[0]?).bind Obj.row?).map (·.2)=some 243:=by kernel_rfl
theorem zm:0<Tryz.prog.globals.size:=of_decide_eq_true (by kernel_rfl)
theorem d1:(Rows.laid_rill_sha_k:DataW Unit)=.agg (K.bt.map fun x=>.lit (.int .u32 (Go.a2.cU x))):=by kernel_rfl
theorem P2(os:Os)(args:Array Value):laidMetH Tryz.prog [("rill/rillref01.K",Rows.laid_rill_rillref01_K),("rill/sha.k",Rows.laid_rill_sha_k)] ((World.doorLaid Tryz.prog 19 os).forCall (fun _ _=>0) ⟨#[],args,[]⟩).memory:=
 laidMetH_of_parts3 (fuel:=8) (laidMet_of_run' 8 (by kernel_rfl) (by kernel_rfl)) (by kernel_rfl) (by kernel_rfl)
theorem UE{W:World}(h:laidMetH Tryz.prog [("rill/rillref01.K",Rows.laid_rill_rillref01_K),("rill/sha.k",Rows.laid_rill_sha_k)] W)(aP:W.ShapedOpen Tryz.prog):W.heap[1]? =some (.cells (Go.a2.a7 K.bt).toArray 243)/\W.heap[0]? =some (.cells (Go.a2.a7 K.bt).toArray 243):=by
 rw[MakeChecks.laidMetH_plain _ _ _ (by kernel_rfl)]at h;obtain⟨ps,⟨aa9,abK,aa2,aa7,abD,abG,Sj,GU,SU,vd,⟨aba,abL,aa3,aa8,abE,abH,rW,GV,SV,Sg,_,_⟩,_⟩,_,_⟩:=h;obtain rfl:=Option.some.inj (aZ.symm.trans Sj);obtain rfl:=Option.some.inj (t0.symm.trans GU);have ml:=Go.a2.Hh aP SU aZ z0 bG;rw[Go.a2.Hi Tryz.underlying243 Tryz.underlying227 (by kernel_rfl) (by kernel_rfl) vd d0]at ml;obtain rfl:=Option.some.inj (bQ.symm.trans rW);obtain rfl:=Option.some.inj (t1.symm.trans GV);have jc:=Go.a2.Hh aP SV bQ zm aj;rw[Go.a2.Hi Tryz.underlying243 Tryz.underlying227 (by kernel_rfl) (by kernel_rfl) Sg d1]at jc;exact⟨ml,jc⟩
set_option maxRecDepth 100000 in
theorem lifted(os:Os)(started:os.Started)(H:Type)(enc:TypeId×Value->H):
  ReturnsInHanded {} Tryz.checked os 3 .any (fun w args=>(Rows.regionRunsSpec.pre enc Tryz.prog Tryz.f3 [] false w args/\laidMetH Tryz.prog [("rill/rillref01.K",Rows.laid_rill_rillref01_K),("rill/sha.k",Rows.laid_rill_sha_k)] w)/\sizedMet enc Tryz.prog Tryz.f3 (OpenSpec.ofChange Rows.regionRunsSpec) false w args) (Rows.regionRunsSpec.post enc Tryz.prog Tryz.f3 false true false false):=by
 refine R3 (C:=Tryz.checked) (X:=fun w _=>laidMetH Tryz.prog [("rill/rillref01.K",Rows.laid_rill_rillref01_K),("rill/sha.k",Rows.laid_rill_sha_k)] w) (fun _ _ _ cc h=>h.of_heap cc) own started (by kernel_rfl) Tryz.func3
  (ChangeSpec.witness_shaped (enc:=enc) (C:=Tryz.checked) (os:=os) (X:=fun w _=>laidMetH Tryz.prog [("rill/rillref01.K",Rows.laid_rill_rillref01_K),("rill/sha.k",Rows.laid_rill_sha_k)] w) false (World.doorLaid Tryz.prog 19 os) #[.slice none 0 0,.slice none 0 0] 8 rfl (World.shaped_of_RefB (by kernel_rfl) (by kernel_rfl)) (by kernel_rfl) (by kernel_rfl) (by kernel_rfl) (P2 os _)) ?_
 intro W base args ds gs before GY Gi abg dd bJ;have kS:∀(j:Nat) t v,Tryz.f3.params[j]? =some t->args[j]? =some v->Value.okWide Tryz.prog W .any base t v:=GY;have R1:=Gi;obtain⟨p,q,Gc,u6,rfl,abh,abn⟩:=Gi;have aR:DataW.TrodAll enc Tryz.prog W 0 (fun _=>true) true Tryz.f3.params.toList args.toList ds p:=Gc;rw[Tryz.params3]at aR kS;obtain⟨v0,abN,d0,aa4,US,abF,R4,rfl,rfl,bG,Vt⟩:=trodAll_cons aR;obtain⟨v1,abO,d1,aa5,p1,BY,rfl,rfl,rfl,aj,pL⟩:=trodAll_cons Vt;obtain⟨rfl,rfl,rfl⟩:=trodAll_nil pL;obtain rfl:args= #[v0,v1]:=by cases args;simp_all
 obtain⟨rfl,rfl⟩:=trodVars_none u6;have G9:=bG;have TM:∀x∈US,x.block<W.heap.size:=by obtain⟨m,hm⟩:=G9;exact DataW.trod_lt m _ _ _ hm
 obtain⟨r6,ml⟩:=Go.a2.PA Tryz.underlying22 Tryz.underlying5 (by kernel_rfl) (kS 0 22 v0 rfl rfl) bG;have gk:=aj;have TN:∀x∈p1,x.block<W.heap.size:=by obtain⟨m,hm⟩:=gk;exact DataW.trod_lt m _ _ _ hm
 obtain⟨Hg,BC,jc,s1⟩:=Go.a2.UO (ti:=3) (tr:=45) (tb:=22) (tl:=46) (eb:=5) Tryz.underlying23 Tryz.underlying48 (by kernel_rfl) Tryz.underlying3 (by kernel_rfl) (by kernel_rfl) (by kernel_rfl) (by kernel_rfl) Tryz.underlying22 Tryz.underlying5 (by kernel_rfl) (by kernel_rfl) Tryz.underlying46 (by kernel_rfl) (by kernel_rfl) (kS 1 23 v1 rfl rfl) aj;obtain⟨w0,pX⟩:=UE dd bJ;clear Gc GY;refine(K.so (K.Nh ml BC jc s1 pX w0)).mono fun e zA ⟨he,zN⟩=>?_;subst he;exact⟨_,rfl,_,_,_,[],_,[],R1,trodAll_mk1 (shut_bool Tryz.underlying4 _),(trodAll_cons_mk (Below.trod laidOut (by kernel_rfl) (of_decide_eq_true (by kernel_rfl)) G9 zN TM) (trodAll_cons_mk (Below.trod laidOut (by kernel_rfl) (of_decide_eq_true (by kernel_rfl)) gk zN TN) trodAll_mk0)),rfl,zN.frame _,fun h=>by cases h⟩
theorem over:Rows.regionRunsRow.holds Tryz.pinned (OpenSpec.ofChange Rows.regionRunsSpec):=
 OpenClaim.holds_of_wide 3 Tryz.f3 rfl rfl rfl rfl rfl rfl rfl ⟨rfl,rfl,rfl,rfl,rfl⟩ rfl rfl rfl rfl rfl (by kernel_rfl) Tryz.func3 (by kernel_rfl)
  (of_decide_eq_true (by kernel_rfl)) (by unfold Func.isWrapper;first|(rw[if_pos (by decide+kernel)];kernel_rfl)|(rw[if_neg (by decide+kernel)];exact⟨rfl,rfl⟩))
  (fun os started H enc _=>lifted os started H enc)
theorem proved:Rows.RegionRunsSaid:=over
#print axioms proved
end Go.Proofs.YtckdfgknodedoaaGreatDoor.Hl
namespace Go.Proofs.YtckdfgknodedoaaGreatDoor
theorem regionRuns_holds:Rows.RegionRunsCardSaid:=
 Claim7.holds_tied_plain_at .later [] [.data,.data] true (true, "04a0b45ac7d0ded7d73077e2f412ec06d537507b127c30afbd5f98efc501a813") false
  Hl.proved (fun _ h=>by cases h) (by kernel_rfl) (fun _ h=>by cases h) regionRuns_row_tie rfl ⟨rfl,rfl⟩ (by kernel_rfl) rfl
  (fun f fn bu A6=>by
   obtain rfl:f=3:=Option.some.inj ((show Tryz.prog.funcNamed "rill/rilllaw14.RegionRuns" =some 3 by kernel_rfl).symm.trans bu)|>.symm;obtain rfl:fn=Tryz.f3:=(Option.some.inj (Tryz.func3.symm.trans A6)).symm;exact⟨by kernel_rfl,fun j t aM=>by
    rw[Tryz.params3]at aM;have hm:t∈[22,23]:=by simpa using Array.mem_of_getElem? aM
    have iS:([22,23].all fun u=> !Tryz.prog.wantsStandIn u)=true:=by kernel_rfl
    exact(show Tryz.prog.wantsStandIn t=false by simpa using List.all_eq_true.1 iS t hm)⟩)
  (by kernel_rfl)
#print axioms regionRuns_holds
end Go.Proofs.YtckdfgknodedoaaGreatDoor
