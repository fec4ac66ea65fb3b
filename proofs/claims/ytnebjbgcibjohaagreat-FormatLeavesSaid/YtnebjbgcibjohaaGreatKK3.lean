/- Contracts: Format. -/
import Derived.Test.YtnebjbgcibjohaaGreatKK
import Derived.Test.YtnebjbgcibjohaaGreatKK2
import Derived.Test.YtnebjbgcibjohaaGreatRR1
import Derived.Test.YtnebjbgcibjohaaGreatProg
import Derived.Test.YtnebjbgcibjohaaGreatRR
section
namespace Go.Proofs.YtnebjbgcibjohaaGreat.K
open Go.RowKit Go.Rill Go.Proofs
set_option linter.unusedVariables false
set_option linter.unusedSimpArgs false
structure FMR where
  err : Int
  A : AD
  v : Int
  ks : List NKey
  ts : List (List UInt8)
/-- What Format does, step by step. -/
def fm5 (A : AD) (v e : Int) (ks : List NKey) (ts : List (List UInt8)) : FMR := ⟨(raiseA A v (e * 1048576)).1, (raiseA A v (e * 1048576)).2.1, (raiseA A v (e * 1048576)).2.2, ks, ts⟩
def fm4 (A : AD) (v e : Int) (ks : List NKey) (ts : List (List UInt8)) : FMR := if ¬ A.sync.1 = 0 then ⟨A.sync.1, A.sync.2, v, ks, ts⟩ else fm5 A.sync.2 v e ks ts
def fm3 (A : AD) (v e : Int) (ks : List NKey) (ts : List (List UInt8)) (sm : List UInt8) : FMR := if ¬ (regW A ks (fRec e sm) 1).1 = 0 then ⟨(regW A ks (fRec e sm) 1).1, (regW A ks (fRec e sm) 1).2.1, v, (regW A ks (fRec e sm) 1).2.2, ts⟩ else fm4 (regW A ks (fRec e sm) 1).2.1 v e (regW A ks (fRec e sm) 1).2.2 ts
def fm2 (A : AD) (v e : Int) (ks : List NKey) (ts : List (List UInt8)) (s l b : Int) : FMR := if ¬ (superW A ks ts e s l b).err = 0 then ⟨(superW A ks ts e s l b).err, (superW A ks ts e s l b).A, v, (superW A ks ts e s l b).ks, (superW A ks ts e s l b).ts⟩ else fm3 (superW A ks ts e s l b).A v e (superW A ks ts e s l b).ks (superW A ks ts e s l b).ts (superW A ks ts e s l b).sum
def fm1 (A : AD) (v : Int) (ks : List NKey) (ts : List (List UInt8)) (s l b : Int) : FMR := if ¬ (raiseA A v (v + 1)).1 = 0 then ⟨(raiseA A v (v + 1)).1, (raiseA A v (v + 1)).2.1, (raiseA A v (v + 1)).2.2, ks, ts⟩ else fm2 (raiseA A v (v + 1)).2.1 (raiseA A v (v + 1)).2.2 (epochZ (v + 1)) ks ts s l b
def fmtF (A : AD) (v : Int) (ks : List NKey) (ts : List (List UInt8)) (s l b : Int) : FMR := if ¬ refZ A.n v s l b = 0 then ⟨refZ A.n v s l b, A, v, ks, ts⟩ else fm1 A v ks ts s l b
section
variable {A : AD} {v e s l b : Int} {ks : List NKey} {ts : List (List UInt8)} {sm : List UInt8}
theorem fmtF_no (h : ¬ refZ A.n v s l b = 0) : fmtF A v ks ts s l b = ⟨refZ A.n v s l b, A, v, ks, ts⟩ := if_pos h
theorem fmtF_go (h : refZ A.n v s l b = 0) : fmtF A v ks ts s l b = fm1 A v ks ts s l b := if_neg fun c => c h
theorem fm1_no (h : ¬ (raiseA A v (v + 1)).1 = 0) : fm1 A v ks ts s l b = ⟨(raiseA A v (v + 1)).1, (raiseA A v (v + 1)).2.1, (raiseA A v (v + 1)).2.2, ks, ts⟩ := if_pos h
theorem fm1_ok (h : (raiseA A v (v + 1)).1 = 0) : fm1 A v ks ts s l b = fm2 (raiseA A v (v + 1)).2.1 (raiseA A v (v + 1)).2.2 (epochZ (v + 1)) ks ts s l b := if_neg fun c => c h
theorem fm2_no (h : ¬ (superW A ks ts e s l b).err = 0) : fm2 A v e ks ts s l b = ⟨(superW A ks ts e s l b).err, (superW A ks ts e s l b).A, v, (superW A ks ts e s l b).ks, (superW A ks ts e s l b).ts⟩ := if_pos h
theorem fm2_ok (h : (superW A ks ts e s l b).err = 0) : fm2 A v e ks ts s l b = fm3 (superW A ks ts e s l b).A v e (superW A ks ts e s l b).ks (superW A ks ts e s l b).ts (superW A ks ts e s l b).sum := if_neg fun c => c h
theorem fm3_no (h : ¬ (regW A ks (fRec e sm) 1).1 = 0) : fm3 A v e ks ts sm = ⟨(regW A ks (fRec e sm) 1).1, (regW A ks (fRec e sm) 1).2.1, v, (regW A ks (fRec e sm) 1).2.2, ts⟩ := if_pos h
theorem fm3_ok (h : (regW A ks (fRec e sm) 1).1 = 0) : fm3 A v e ks ts sm = fm4 (regW A ks (fRec e sm) 1).2.1 v e (regW A ks (fRec e sm) 1).2.2 ts := if_neg fun c => c h
theorem fm4_no (h : ¬ A.sync.1 = 0) : fm4 A v e ks ts = ⟨A.sync.1, A.sync.2, v, ks, ts⟩ := if_pos h
theorem fm4_ok (h : A.sync.1 = 0) : fm4 A v e ks ts = fm5 A.sync.2 v e ks ts := if_neg fun c => c h
end
theorem refZ_in {n : Nat} {v s l b : Int} (h : refZ n v s l b = 0) : GMay s l b ∧ 3 + s * l ≤ (n : Int) ∧ ¬ v % 1048576 = 1048575 ∧ epochZ (v + 1) < 1099511627776 := by
  unfold refZ at h
  split at h
  · cases h
  · rename_i h1
    split at h
    · cases h
    · rename_i h2
      split at h
      · cases h
      · rename_i h3
        exact ⟨Decidable.not_not.1 h1, by omega, fun c => h3 (.inl c), by have := fun c => h3 (.inr c); omega⟩
theorem refZ_may {n : Nat} {v s l b : Int} (h : refZ n v s l b = 0) : GMay s l b := (refZ_in h).1
theorem ep_bnd {n : Nat} {v s l b : Int} (hv : 0 ≤ v) (h : refZ n v s l b = 0) : 0 ≤ epochZ (v + 1) ∧ epochZ (v + 1) ≤ 1099511627776 := by
  have h1 := (refZ_in h).2.2.2
  unfold epochZ at *
  omega
theorem ep_right {n : Nat} {v s l b : Int} (hv : 0 ≤ v) (h : refZ n v s l b = 0) : SRight (epochZ (v + 1)) 0 0 := by
  have := ep_bnd hv h
  exact ⟨⟨this.1, by decide, by decide⟩, ⟨this.2, by decide⟩, by decide⟩
theorem superW_ks (A : AD) (ks : List NKey) (ts : List (List UInt8)) (e s l b : Int) : (superW A ks ts e s l b).ks.length ≤ ks.length + 1 := by
  have h : (sealS ks e 0 (hdB 1 0) (geoB s l b)).length ≤ ks.length + 1 := by
    unfold sealS
    split
    · exact sealKs_len _ _
    · omega
  unfold superW
  split <;> exact h
set_option maxRecDepth 100000 in
theorem Format_no {D : DV} {N : NV} {g gk : Nat} {A : AD} {v s l b : Int} {w0 : World} (H : Has w0 [dkE D, nmE N, cE g gk v]) (hD : D.is g A) (hkz : N.ks.length + 2 ≤ 1099511627776) (htz : N.ts.length + 2 ≤ 1099511627776) (hv : 0 ≤ v) (hv2 : v ≤ 1152921504606846976) (hr : ¬ refZ A.n v s l b = 0) : Does Tryz.prog 20 [.pointer (some ⟨g, 0, none⟩), .pointer (some ⟨gk, 0, none⟩), .iface 31 (.pointer (some ⟨N.gn, 0, none⟩)), .agg #[.int .i64 s, .int .i64 l, .int .i64 b]] w0 [dkE D, nmE N, cE g gk v] (fun _ : DV × NV => .int .i64 (fmtF A v N.ks N.ts s l b).err) (fun x => [dkE x.1, nmE x.2, cE g gk (fmtF A v N.ks N.ts s l b).v]) (fun x => x.1.is g (fmtF A v N.ks N.ts s l b).A ∧ x.2.gn = N.gn ∧ x.2.ks = (fmtF A v N.ks N.ts s l b).ks ∧ x.2.ts = (fmtF A v N.ks N.ts s l b).ts) := by
  refine enter (n := 44) Tryz.func20 rfl rfl rfl ?_
  intro fr E
  have M : Mem w0 (feet [dkE D, nmE N, cE g gk v]) [dkE D, nmE N, cE g gk v] (fun _ => True) w0 := Mem.begin H (fun _ _ => trivial)
  refine code_region ?_
  refine snew (ob := .cells (#[.pointer (some ⟨g, 0, none⟩)]) 23) (fun g => .pointer (some ⟨g, 0, none⟩)) E M rfl rfl rfl rfl rfl (run_box1 (v := _) rfl rfl rfl) fun g0 fr w M E => ?_
  refine snew (ob := .cells (#[.pointer (some ⟨gk, 0, none⟩)]) 29) (fun g => .pointer (some ⟨g, 0, none⟩)) E M rfl rfl rfl rfl rfl (run_box1 (v := _) rfl rfl rfl) fun g1 fr w M E => ?_
  refine snew (ob := .cells (#[.iface 31 (.pointer (some ⟨N.gn, 0, none⟩))]) 84) (fun g => .pointer (some ⟨g, 0, none⟩)) E M rfl rfl rfl rfl rfl (run_box1 (v := _) rfl rfl rfl) fun g2 fr w M E => ?_
  refine snew (ob := .cells (#[.int .i64 s, .int .i64 l, .int .i64 b]) 35) (fun g => .pointer (some ⟨g, 0, none⟩)) E M rfl rfl rfl rfl rfl (run_boxN (cs := (#[.int .i64 s, .int .i64 l, .int .i64 b])) rfl rfl) fun g3 fr w M E => ?_
  refine sw E (run_assignC rfl) fun fr E => ?_
  refine seq_nil' ?_
  refine wp_seq ?_
  refine code_region ?_
  refine sw (v := .pointer (some ⟨g, 0, none⟩)) E (run_loadB rfl rfl T.one23 (M.row (i := 3) rfl) rfl) fun fr E => ?_
  refine sw (v := .pointer (some ⟨gk, 0, none⟩)) E (run_loadB rfl rfl T.one29 (M.row (i := 2) rfl) rfl) fun fr E => ?_
  refine sw (v := .agg #[.int .i64 s, .int .i64 l, .int .i64 b]) E (run_loadAll rfl rfl T.agg35 (M.row (i := 0) rfl) rfl) fun fr E => ?_
  refine sgive E M rfl rfl rfl rfl rfl (run_call rfl rfl T.fn33) (refused_x (M.has1 (i := 4) rfl) hD (M.row (i := 6) rfl) hv hv2) fun fr w M E => ?_
  refine ma E fun fr E => ?_
  refine seq_nil' ?_
  refine code_region ?_
  refine mv E fun fr E => ?_
  refine sw (v := .bool true) E (tst rfl (by simp [hr])) fun fr E => ?_
  refine seq_nil' ?_
  refine cond_true E rfl (rfl) ?_
  refine code_region ?_
  refine mv E fun fr E => ?_
  refine ma E fun fr E => ?_
  refine seq_nil' ?_
  refine wp_ret ?_
  refine then_ret ?_
  refine ret1 E rfl rfl ?_
  have M := M.pull 6 rfl
  have M := M.pull 6 rfl
  have M := M.pull 6 rfl
  rw [fmtF_no hr]
  exact ⟨(D, N), rfl, Mem.fin (L := [dkE D, nmE N, cE g gk v] ++ _) M (List.sublist_append_left _ _) ⟨hD, rfl, rfl, rfl⟩⟩

set_option maxHeartbeats 2000000 in
set_option maxRecDepth 100000 in
theorem Format_go {D : DV} {N : NV} {g gk : Nat} {A : AD} {v s l b : Int} {w0 : World} (H : Has w0 [dkE D, nmE N, cE g gk v]) (hD : D.is g A) (hkz : N.ks.length + 2 ≤ 1099511627776) (htz : N.ts.length + 2 ≤ 1099511627776) (hv : 0 ≤ v) (hv2 : v ≤ 1152921504606846976) (hr : refZ A.n v s l b = 0) (hg : GMay s l b) : Does Tryz.prog 20 [.pointer (some ⟨g, 0, none⟩), .pointer (some ⟨gk, 0, none⟩), .iface 31 (.pointer (some ⟨N.gn, 0, none⟩)), .agg #[.int .i64 s, .int .i64 l, .int .i64 b]] w0 [dkE D, nmE N, cE g gk v] (fun _ : DV × NV => .int .i64 (fmtF A v N.ks N.ts s l b).err) (fun x => [dkE x.1, nmE x.2, cE g gk (fmtF A v N.ks N.ts s l b).v]) (fun x => x.1.is g (fmtF A v N.ks N.ts s l b).A ∧ x.2.gn = N.gn ∧ x.2.ks = (fmtF A v N.ks N.ts s l b).ks ∧ x.2.ts = (fmtF A v N.ks N.ts s l b).ts) := by
  refine enter (n := 44) Tryz.func20 rfl rfl rfl ?_
  intro fr E
  have M : Mem w0 (feet [dkE D, nmE N, cE g gk v]) [dkE D, nmE N, cE g gk v] (fun _ => True) w0 := Mem.begin H (fun _ _ => trivial)
  refine code_region ?_
  refine snew (ob := .cells (#[.pointer (some ⟨g, 0, none⟩)]) 23) (fun g => .pointer (some ⟨g, 0, none⟩)) E M rfl rfl rfl rfl rfl (run_box1 (v := _) rfl rfl rfl) fun g0 fr w M E => ?_
  refine snew (ob := .cells (#[.pointer (some ⟨gk, 0, none⟩)]) 29) (fun g => .pointer (some ⟨g, 0, none⟩)) E M rfl rfl rfl rfl rfl (run_box1 (v := _) rfl rfl rfl) fun g1 fr w M E => ?_
  refine snew (ob := .cells (#[.iface 31 (.pointer (some ⟨N.gn, 0, none⟩))]) 84) (fun g => .pointer (some ⟨g, 0, none⟩)) E M rfl rfl rfl rfl rfl (run_box1 (v := _) rfl rfl rfl) fun g2 fr w M E => ?_
  refine snew (ob := .cells (#[.int .i64 s, .int .i64 l, .int .i64 b]) 35) (fun g => .pointer (some ⟨g, 0, none⟩)) E M rfl rfl rfl rfl rfl (run_boxN (cs := (#[.int .i64 s, .int .i64 l, .int .i64 b])) rfl rfl) fun g3 fr w M E => ?_
  refine sw E (run_assignC rfl) fun fr E => ?_
  refine seq_nil' ?_
  refine wp_seq ?_
  refine code_region ?_
  refine sw (v := .pointer (some ⟨g, 0, none⟩)) E (run_loadB rfl rfl T.one23 (M.row (i := 3) rfl) rfl) fun fr E => ?_
  refine sw (v := .pointer (some ⟨gk, 0, none⟩)) E (run_loadB rfl rfl T.one29 (M.row (i := 2) rfl) rfl) fun fr E => ?_
  refine sw (v := .agg #[.int .i64 s, .int .i64 l, .int .i64 b]) E (run_loadAll rfl rfl T.agg35 (M.row (i := 0) rfl) rfl) fun fr E => ?_
  refine sgive E M rfl rfl rfl rfl rfl (run_call rfl rfl T.fn33) (refused_x (M.has1 (i := 4) rfl) hD (M.row (i := 6) rfl) hv hv2) fun fr w M E => ?_
  rw [hr] at E
  refine ma E fun fr E => ?_
  refine seq_nil' ?_
  refine code_region ?_
  refine mv E fun fr E => ?_
  refine sw (v := .bool false) E (tst rfl (by simp [hr])) fun fr E => ?_
  refine seq_nil' ?_
  refine cond_false E rfl (rfl) ?_
  refine wp_skip ?_
  refine then_normal ?_
  refine code_region ?_
  refine sw (v := .pointer (some ⟨gk, 0, none⟩)) E (run_loadB rfl rfl T.one29 (M.row (i := 2) rfl) rfl) fun fr E => ?_
  refine sgive E M rfl rfl rfl rfl rfl (run_call rfl rfl T.fn11) (cValue_x (g := g) (M.row (i := 6) rfl)) fun fr w M E => ?_
  refine sw (v := .int _ (v + 1)) E (num rfl (i64_id (by omega) (by omega))) fun fr E => ?_
  refine sgive E M rfl rfl rfl rfl rfl (run_call rfl rfl T.fn34) (epoch_x (v := v + 1) (by omega) (by omega)) fun fr w M E => ?_
  refine snew (ob := .cells #[_] 3) (fun g => .pointer (some ⟨g, 0, none⟩)) E M rfl rfl rfl rfl rfl (run_alloc1 rfl T.zero3 rfl) fun g4 fr w M E => ?_
  refine sset (i := 0) (cs' := #[.int .i64 (epochZ (v + 1))]) E M rfl rfl rfl rfl rfl (run_store1' (v := _) rfl rfl rfl T.size3 (M.row (i := 0) rfl) (rfl) (rfl) (rfl)) rfl fun fr w M E => ?_
  refine seq_nil' ?_
  refine code_region ?_
  refine snew (ob := .cells _ 54) (fun g => .pointer (some ⟨g, 0, none⟩)) E M rfl rfl rfl rfl rfl (run_allocN rfl T.zero54) fun g5 fr w M E => ?_
  refine seq_nil' ?_
  refine wp_seq ?_
  refine code_region ?_
  refine sw (v := .func (.func 35) [].toArray [.pointer (some ⟨g1, 0, none⟩)].toArray) E (run_makeFuncs (us := []) (vs := [.pointer (some ⟨g1, 0, none⟩)]) rfl rfl rfl) fun fr E => ?_
  refine sw (v := .func (.func 36) [].toArray [.pointer (some ⟨g0, 0, none⟩), .pointer (some ⟨g2, 0, none⟩), .pointer (some ⟨g4, 0, none⟩), .pointer (some ⟨g3, 0, none⟩), .pointer (some ⟨g5, 0, none⟩)].toArray) E (run_makeFuncs (us := []) (vs := [.pointer (some ⟨g0, 0, none⟩), .pointer (some ⟨g2, 0, none⟩), .pointer (some ⟨g4, 0, none⟩), .pointer (some ⟨g3, 0, none⟩), .pointer (some ⟨g5, 0, none⟩)]) rfl rfl rfl) fun fr E => ?_
  refine sw (v := .func (.func 38) [].toArray [.pointer (some ⟨g0, 0, none⟩), .pointer (some ⟨g2, 0, none⟩), .pointer (some ⟨g4, 0, none⟩), .pointer (some ⟨g5, 0, none⟩)].toArray) E (run_makeFuncs (us := []) (vs := [.pointer (some ⟨g0, 0, none⟩), .pointer (some ⟨g2, 0, none⟩), .pointer (some ⟨g4, 0, none⟩), .pointer (some ⟨g5, 0, none⟩)]) rfl rfl rfl) fun fr E => ?_
  refine sw (v := .pointer (some ⟨g, 0, none⟩)) E (run_loadB rfl rfl T.one23 (M.row (i := 5) rfl) rfl) fun fr E => ?_
  refine sw (v := .func (.func 40) [.pointer (some ⟨g, 0, none⟩)].toArray [].toArray) E (run_makeFuncs (us := [.pointer (some ⟨g, 0, none⟩)]) (vs := []) rfl rfl rfl) fun fr E => ?_
  refine sw (v := .func (.func 41) [].toArray [.pointer (some ⟨g1, 0, none⟩), .pointer (some ⟨g4, 0, none⟩)].toArray) E (run_makeFuncs (us := []) (vs := [.pointer (some ⟨g1, 0, none⟩), .pointer (some ⟨g4, 0, none⟩)]) rfl rfl rfl) fun fr E => ?_
  refine srow (sz := 1) (xs := _) E M rfl rfl rfl rfl rfl (run_buildSliceA (us := [.func (.func 35) [].toArray [.pointer (some ⟨g1, 0, none⟩)].toArray, .func (.func 36) [].toArray [.pointer (some ⟨g0, 0, none⟩), .pointer (some ⟨g2, 0, none⟩), .pointer (some ⟨g4, 0, none⟩), .pointer (some ⟨g3, 0, none⟩), .pointer (some ⟨g5, 0, none⟩)].toArray, .func (.func 38) [].toArray [.pointer (some ⟨g0, 0, none⟩), .pointer (some ⟨g2, 0, none⟩), .pointer (some ⟨g4, 0, none⟩), .pointer (some ⟨g5, 0, none⟩)].toArray, .func (.func 40) [.pointer (some ⟨g, 0, none⟩)].toArray [].toArray, .func (.func 41) [].toArray [.pointer (some ⟨g1, 0, none⟩), .pointer (some ⟨g4, 0, none⟩)].toArray]) (vs := [.func (.func 35) [].toArray [.pointer (some ⟨g1, 0, none⟩)].toArray, .func (.func 36) [].toArray [.pointer (some ⟨g0, 0, none⟩), .pointer (some ⟨g2, 0, none⟩), .pointer (some ⟨g4, 0, none⟩), .pointer (some ⟨g3, 0, none⟩), .pointer (some ⟨g5, 0, none⟩)].toArray, .func (.func 38) [].toArray [.pointer (some ⟨g0, 0, none⟩), .pointer (some ⟨g2, 0, none⟩), .pointer (some ⟨g4, 0, none⟩), .pointer (some ⟨g5, 0, none⟩)].toArray, .func (.func 40) [.pointer (some ⟨g, 0, none⟩)].toArray [].toArray, .func (.func 41) [].toArray [.pointer (some ⟨g1, 0, none⟩), .pointer (some ⟨g4, 0, none⟩)].toArray]) rfl rfl rfl T.slice94 T.size90 T.zl90 rfl rfl rfl rfl rfl) (rfl) (Nat.le_refl _) (by decide) (rfl) fun fs fr w M E => ?_
  refine sw (v := .int .i64 _) E (run_lenR rfl rfl rfl rfl T.slice94 (M.reads 0 rfl)) fun fr E => ?_
  refine sw E (run_moveC rfl) fun fr E => ?_
  refine seq_nil' ?_
  refine wp_block ?_
  refine LoopWp.wp ?_
  refine LoopWp.step ?_
  by_cases h0 : (raiseA A v (v + 1)).1 = 0
  · refine code_region ?_
    refine sw (v := .bool true) E (tst rfl (by decide)) fun fr E => ?_
    refine seq_nil' ?_
    refine wp_seq ?_
    refine cond_true E rfl (rfl) ?_
    refine wp_skip ?_
    refine then_normal ?_
    refine wp_seq ?_
    refine wp_block ?_
    refine code_region ?_
    refine sw (v := cellAt fs (0 * 1)) E (run_indexR (i := 0) rfl (M.reads 0 rfl) rfl rfl (rfl) (by decide) T.slice94 T.size90) fun fr E => ?_
    refine sw (v := .func (.func 35) [].toArray [.pointer (some ⟨g1, 0, none⟩)].toArray) E (run_loadR rfl (M.reads 0 rfl) rfl T.one90 (rfl)) fun fr E => ?_
    refine ma E fun fr E => ?_
    refine seq_nil' ?_
    refine code_region ?_
    refine mv E fun fr E => ?_
    have M := M.pull 5 rfl
    have M := M.pull 9 rfl
    have M := M.pull 8 rfl
    refine scallI ([dkE D, cE g gk v, Ent.blk g1 (.cells #[.pointer (some ⟨gk, 0, none⟩)] 29)]) E M rfl rfl rfl rfl rfl (run_callF (us := []) (cs := [.pointer (some ⟨g1, 0, none⟩)]) rfl rfl T.fn35) rfl (fun H => fmt1_x (b1 := g1) H hD hv hv2) ?_
    rintro D1 fr w hD1 M E
    refine ma E fun fr E => ?_
    refine seq_nil' ?_
    refine code_region ?_
    refine mv E fun fr E => ?_
    refine sw (v := .bool false) E (tst rfl (by simp [h0])) fun fr E => ?_
    refine seq_nil' ?_
    refine cond_false E rfl (rfl) ?_
    refine wp_skip ?_
    refine block_normal ?_
    refine then_normal ?_
    refine code_last ?_
    refine sw (v := .int _ (1)) E (num rfl (rfl)) fun fr E => ?_
    refine mv E fun fr E => ?_
    refine seq_nil ?_
    refine then_any ?_
    refine LoopWp.step ?_
    by_cases h1 : (superW (raiseA A v (v + 1)).2.1 N.ks N.ts (epochZ (v + 1)) s l b).err = 0
    · refine code_region ?_
      refine sw (v := .bool true) E (tst rfl (by decide)) fun fr E => ?_
      refine seq_nil' ?_
      refine wp_seq ?_
      refine cond_true E rfl (rfl) ?_
      refine wp_skip ?_
      refine then_normal ?_
      refine wp_seq ?_
      refine wp_block ?_
      refine code_region ?_
      refine sw (v := cellAt fs (1 * 1)) E (run_indexR (i := 1) rfl (M.reads 3 rfl) rfl rfl (rfl) (by decide) T.slice94 T.size90) fun fr E => ?_
      refine sw (v := .func (.func 36) [].toArray [.pointer (some ⟨g0, 0, none⟩), .pointer (some ⟨g2, 0, none⟩), .pointer (some ⟨g4, 0, none⟩), .pointer (some ⟨g3, 0, none⟩), .pointer (some ⟨g5, 0, none⟩)].toArray) E (run_loadR rfl (M.reads 3 rfl) rfl T.one90 (rfl)) fun fr E => ?_
      refine ma E fun fr E => ?_
      refine seq_nil' ?_
      refine code_region ?_
      refine mv E fun fr E => ?_
      have M := M.pull 4 rfl
      have M := M.pull 6 rfl
      have M := M.pull 6 rfl
      have M := M.pull 7 rfl
      have M := M.pull 8 rfl
      have M := M.pull 9 rfl
      have M := M.pull 6 rfl
      refine scallI ([dkE D1, nmE N, Ent.blk g0 (.cells #[.pointer (some ⟨g, 0, none⟩)] 23), Ent.blk g2 (.cells #[.iface 31 (.pointer (some ⟨N.gn, 0, none⟩))] 84), Ent.blk g4 (.cells #[.int .i64 (epochZ (v + 1))] 3), Ent.blk g3 (.cells #[.int .i64 s, .int .i64 l, .int .i64 b] 35), Ent.blk g5 (.cells #[.int .u8 0, .int .u8 0, .int .u8 0, .int .u8 0, .int .u8 0, .int .u8 0, .int .u8 0, .int .u8 0, .int .u8 0, .int .u8 0, .int .u8 0, .int .u8 0, .int .u8 0, .int .u8 0, .int .u8 0, .int .u8 0, .int .u8 0, .int .u8 0, .int .u8 0, .int .u8 0, .int .u8 0, .int .u8 0, .int .u8 0, .int .u8 0, .int .u8 0, .int .u8 0, .int .u8 0, .int .u8 0, .int .u8 0, .int .u8 0, .int .u8 0, .int .u8 0] 54)]) E M rfl rfl rfl rfl rfl (run_callF (us := []) (cs := [.pointer (some ⟨g0, 0, none⟩), .pointer (some ⟨g2, 0, none⟩), .pointer (some ⟨g4, 0, none⟩), .pointer (some ⟨g3, 0, none⟩), .pointer (some ⟨g5, 0, none⟩)]) rfl rfl T.fn36) rfl (fun H => fmt2_x H hD1 (by omega) (by omega) hg (ep_right hv hr)) ?_
      rintro ⟨D2, N2⟩ fr w ⟨hD2, hn1, hn2, hn3⟩ M E
      refine ma E fun fr E => ?_
      refine seq_nil' ?_
      refine code_region ?_
      refine mv E fun fr E => ?_
      refine sw (v := .bool false) E (tst rfl (by simp [h1])) fun fr E => ?_
      refine seq_nil' ?_
      refine cond_false E rfl (rfl) ?_
      refine wp_skip ?_
      refine block_normal ?_
      refine then_normal ?_
      refine code_last ?_
      refine sw (v := .int _ (2)) E (num rfl (rfl)) fun fr E => ?_
      refine mv E fun fr E => ?_
      refine seq_nil ?_
      refine then_any ?_
      refine LoopWp.step ?_
      by_cases h2 : (regW (superW (raiseA A v (v + 1)).2.1 N.ks N.ts (epochZ (v + 1)) s l b).A (superW (raiseA A v (v + 1)).2.1 N.ks N.ts (epochZ (v + 1)) s l b).ks (fRec (epochZ (v + 1)) (superW (raiseA A v (v + 1)).2.1 N.ks N.ts (epochZ (v + 1)) s l b).sum) 1).1 = 0
      · refine code_region ?_
        refine sw (v := .bool true) E (tst rfl (by decide)) fun fr E => ?_
        refine seq_nil' ?_
        refine wp_seq ?_
        refine cond_true E rfl (rfl) ?_
        refine wp_skip ?_
        refine then_normal ?_
        refine wp_seq ?_
        refine wp_block ?_
        refine code_region ?_
        refine sw (v := cellAt fs (2 * 1)) E (run_indexR (i := 2) rfl (M.reads 9 rfl) rfl rfl (rfl) (by decide) T.slice94 T.size90) fun fr E => ?_
        refine sw (v := .func (.func 38) [].toArray [.pointer (some ⟨g0, 0, none⟩), .pointer (some ⟨g2, 0, none⟩), .pointer (some ⟨g4, 0, none⟩), .pointer (some ⟨g5, 0, none⟩)].toArray) E (run_loadR rfl (M.reads 9 rfl) rfl T.one90 (rfl)) fun fr E => ?_
        refine ma E fun fr E => ?_
        refine seq_nil' ?_
        refine code_region ?_
        refine mv E fun fr E => ?_
        have M := M.pull 6 rfl
        have M := M.pull 5 rfl
        have M := M.pull 5 rfl
        have M := M.pull 5 rfl
        have M := M.pull 5 rfl
        have M := M.pull 5 rfl
        refine scallI ([dkE D2, nmE N2, Ent.blk g0 (.cells #[.pointer (some ⟨g, 0, none⟩)] 23), Ent.blk g2 (.cells #[.iface 31 (.pointer (some ⟨N.gn, 0, none⟩))] 84), Ent.blk g4 (.cells #[.int .i64 (epochZ (v + 1))] 3), Ent.blk g5 (.cells (bc (superW (raiseA A v (v + 1)).2.1 N.ks N.ts (epochZ (v + 1)) s l b).sum).toArray 54)]) E M rfl rfl rfl rfl rfl (run_callF (us := []) (cs := [.pointer (some ⟨g0, 0, none⟩), .pointer (some ⟨g2, 0, none⟩), .pointer (some ⟨g4, 0, none⟩), .pointer (some ⟨g5, 0, none⟩)]) rfl rfl T.fn38) rfl (fun H => fmt3_y H (superW_sum _ _ _ _ _ _ _) hD2 (by rw [hn2]; have := superW_ks (raiseA A v (v + 1)).2.1 N.ks N.ts (epochZ (v + 1)) s l b; omega) hn1) ?_
        rintro ⟨D3, N3⟩ fr w ⟨hD3, hn4, hn5, hn6⟩ M E
        rw [hn2] at hD3 hn5 E
        refine ma E fun fr E => ?_
        refine seq_nil' ?_
        refine code_region ?_
        refine mv E fun fr E => ?_
        refine sw (v := .bool false) E (tst rfl (by simp [h2])) fun fr E => ?_
        refine seq_nil' ?_
        refine cond_false E rfl (rfl) ?_
        refine wp_skip ?_
        refine block_normal ?_
        refine then_normal ?_
        refine code_last ?_
        refine sw (v := .int _ (3)) E (num rfl (rfl)) fun fr E => ?_
        refine mv E fun fr E => ?_
        refine seq_nil ?_
        refine then_any ?_
        refine LoopWp.step ?_
        by_cases h3 : (regW (superW (raiseA A v (v + 1)).2.1 N.ks N.ts (epochZ (v + 1)) s l b).A (superW (raiseA A v (v + 1)).2.1 N.ks N.ts (epochZ (v + 1)) s l b).ks (fRec (epochZ (v + 1)) (superW (raiseA A v (v + 1)).2.1 N.ks N.ts (epochZ (v + 1)) s l b).sum) 1).2.1.sync.1 = 0
        · refine code_region ?_
          refine sw (v := .bool true) E (tst rfl (by decide)) fun fr E => ?_
          refine seq_nil' ?_
          refine wp_seq ?_
          refine cond_true E rfl (rfl) ?_
          refine wp_skip ?_
          refine then_normal ?_
          refine wp_seq ?_
          refine wp_block ?_
          refine code_region ?_
          refine sw (v := cellAt fs (3 * 1)) E (run_indexR (i := 3) rfl (M.reads 9 rfl) rfl rfl (rfl) (by decide) T.slice94 T.size90) fun fr E => ?_
          refine sw (v := .func (.func 40) [.pointer (some ⟨g, 0, none⟩)].toArray [].toArray) E (run_loadR rfl (M.reads 9 rfl) rfl T.one90 (rfl)) fun fr E => ?_
          refine ma E fun fr E => ?_
          refine seq_nil' ?_
          refine code_region ?_
          refine mv E fun fr E => ?_
          refine scallI ([dkE D3]) E M rfl rfl rfl rfl rfl (run_callF (us := [.pointer (some ⟨g, 0, none⟩)]) (cs := []) rfl rfl T.fn40) rfl (fun H => Sync_a H hD3) ?_
          rintro D4 fr w hD4 M E
          refine ma E fun fr E => ?_
          refine seq_nil' ?_
          refine code_region ?_
          refine mv E fun fr E => ?_
          refine sw (v := .bool false) E (tst rfl (by simp [h3])) fun fr E => ?_
          refine seq_nil' ?_
          refine cond_false E rfl (rfl) ?_
          refine wp_skip ?_
          refine block_normal ?_
          refine then_normal ?_
          refine code_last ?_
          refine sw (v := .int _ (4)) E (num rfl (rfl)) fun fr E => ?_
          refine mv E fun fr E => ?_
          refine seq_nil ?_
          refine then_any ?_
          refine LoopWp.step ?_
          by_cases h4 : (raiseA (regW (superW (raiseA A v (v + 1)).2.1 N.ks N.ts (epochZ (v + 1)) s l b).A (superW (raiseA A v (v + 1)).2.1 N.ks N.ts (epochZ (v + 1)) s l b).ks (fRec (epochZ (v + 1)) (superW (raiseA A v (v + 1)).2.1 N.ks N.ts (epochZ (v + 1)) s l b).sum) 1).2.1.sync.2 (raiseA A v (v + 1)).2.2 ((epochZ (v + 1)) * 1048576)).1 = 0
          · refine code_region ?_
            refine sw (v := .bool true) E (tst rfl (by decide)) fun fr E => ?_
            refine seq_nil' ?_
            refine wp_seq ?_
            refine cond_true E rfl (rfl) ?_
            refine wp_skip ?_
            refine then_normal ?_
            refine wp_seq ?_
            refine wp_block ?_
            refine code_region ?_
            refine sw (v := cellAt fs (4 * 1)) E (run_indexR (i := 4) rfl (M.reads 9 rfl) rfl rfl (rfl) (by decide) T.slice94 T.size90) fun fr E => ?_
            refine sw (v := .func (.func 41) [].toArray [.pointer (some ⟨g1, 0, none⟩), .pointer (some ⟨g4, 0, none⟩)].toArray) E (run_loadR rfl (M.reads 9 rfl) rfl T.one90 (rfl)) fun fr E => ?_
            refine ma E fun fr E => ?_
            refine seq_nil' ?_
            refine code_region ?_
            refine mv E fun fr E => ?_
            have M := M.pull 4 rfl
            have M := M.pull 8 rfl
            have M := M.pull 8 rfl
            have M := M.pull 3 rfl
            refine scallI ([dkE D4, cE g gk (raiseA A v (v + 1)).2.2, Ent.blk g1 (.cells #[.pointer (some ⟨gk, 0, none⟩)] 29), Ent.blk g4 (.cells #[.int .i64 (epochZ (v + 1))] 3)]) E M rfl rfl rfl rfl rfl (run_callF (us := []) (cs := [.pointer (some ⟨g1, 0, none⟩), .pointer (some ⟨g4, 0, none⟩)]) rfl rfl T.fn41) rfl (fun H => fmt5_x (b1 := g1) (b4 := g4) H hD4 (ep_bnd hv hr)) ?_
            rintro D5 fr w hD5 M E
            refine ma E fun fr E => ?_
            refine seq_nil' ?_
            refine code_region ?_
            refine mv E fun fr E => ?_
            refine sw (v := .bool false) E (tst rfl (by simp [h4])) fun fr E => ?_
            refine seq_nil' ?_
            refine cond_false E rfl (rfl) ?_
            refine wp_skip ?_
            refine block_normal ?_
            refine then_normal ?_
            refine code_last ?_
            refine sw (v := .int _ (5)) E (num rfl (rfl)) fun fr E => ?_
            refine mv E fun fr E => ?_
            refine seq_nil ?_
            refine then_any ?_
            refine LoopWp.step ?_
            refine code_region ?_
            refine sw (v := .bool false) E (tst rfl (by decide)) fun fr E => ?_
            refine seq_nil' ?_
            refine wp_seq ?_
            refine cond_false E rfl (rfl) ?_
            refine wp_exit ?_
            refine then_exit ?_
            refine then_exit ?_
            refine block_exit ?_
            refine then_normal ?_
            refine code_region ?_
            refine sw E (run_assignC rfl) fun fr E => ?_
            refine seq_nil' ?_
            refine wp_ret ?_
            refine ret1 E rfl rfl ?_
            have M := M.pull 1 rfl
            have M := M.pull 4 rfl
            have M := M.pull 2 rfl
            rw [fmtF_go hr, fm1_ok h0, fm2_ok h1, fm3_ok h2, fm4_ok h3, fm5, h4]
            exact ⟨(D5, N3), rfl, Mem.fin (L := [dkE D5, nmE N3, cE g gk (raiseA (regW (superW (raiseA A v (v + 1)).2.1 N.ks N.ts (epochZ (v + 1)) s l b).A (superW (raiseA A v (v + 1)).2.1 N.ks N.ts (epochZ (v + 1)) s l b).ks (fRec (epochZ (v + 1)) (superW (raiseA A v (v + 1)).2.1 N.ks N.ts (epochZ (v + 1)) s l b).sum) 1).2.1.sync.2 (raiseA A v (v + 1)).2.2 ((epochZ (v + 1)) * 1048576)).2.2] ++ _) M (List.sublist_append_left _ _) ⟨hD5, hn4, hn5, hn6.trans hn3⟩⟩
          · refine code_region ?_
            refine sw (v := .bool true) E (tst rfl (by decide)) fun fr E => ?_
            refine seq_nil' ?_
            refine wp_seq ?_
            refine cond_true E rfl (rfl) ?_
            refine wp_skip ?_
            refine then_normal ?_
            refine wp_seq ?_
            refine wp_block ?_
            refine code_region ?_
            refine sw (v := cellAt fs (4 * 1)) E (run_indexR (i := 4) rfl (M.reads 9 rfl) rfl rfl (rfl) (by decide) T.slice94 T.size90) fun fr E => ?_
            refine sw (v := .func (.func 41) [].toArray [.pointer (some ⟨g1, 0, none⟩), .pointer (some ⟨g4, 0, none⟩)].toArray) E (run_loadR rfl (M.reads 9 rfl) rfl T.one90 (rfl)) fun fr E => ?_
            refine ma E fun fr E => ?_
            refine seq_nil' ?_
            refine code_region ?_
            refine mv E fun fr E => ?_
            have M := M.pull 4 rfl
            have M := M.pull 8 rfl
            have M := M.pull 8 rfl
            have M := M.pull 3 rfl
            refine scallI ([dkE D4, cE g gk (raiseA A v (v + 1)).2.2, Ent.blk g1 (.cells #[.pointer (some ⟨gk, 0, none⟩)] 29), Ent.blk g4 (.cells #[.int .i64 (epochZ (v + 1))] 3)]) E M rfl rfl rfl rfl rfl (run_callF (us := []) (cs := [.pointer (some ⟨g1, 0, none⟩), .pointer (some ⟨g4, 0, none⟩)]) rfl rfl T.fn41) rfl (fun H => fmt5_x (b1 := g1) (b4 := g4) H hD4 (ep_bnd hv hr)) ?_
            rintro D5 fr w hD5 M E
            refine ma E fun fr E => ?_
            refine seq_nil' ?_
            refine code_region ?_
            refine mv E fun fr E => ?_
            refine sw (v := .bool true) E (tst rfl (by simp [h4])) fun fr E => ?_
            refine seq_nil' ?_
            refine cond_true E rfl (rfl) ?_
            refine code_region ?_
            refine mv E fun fr E => ?_
            refine ma E fun fr E => ?_
            refine seq_nil' ?_
            refine wp_ret ?_
            refine block_ret ?_
            refine then_ret ?_
            refine then_ret ?_
            refine block_ret ?_
            refine then_ret ?_
            refine ret1 E rfl rfl ?_
            have M := M.pull 1 rfl
            have M := M.pull 4 rfl
            have M := M.pull 2 rfl
            rw [fmtF_go hr, fm1_ok h0, fm2_ok h1, fm3_ok h2, fm4_ok h3, fm5]
            exact ⟨(D5, N3), rfl, Mem.fin (L := [dkE D5, nmE N3, cE g gk (raiseA (regW (superW (raiseA A v (v + 1)).2.1 N.ks N.ts (epochZ (v + 1)) s l b).A (superW (raiseA A v (v + 1)).2.1 N.ks N.ts (epochZ (v + 1)) s l b).ks (fRec (epochZ (v + 1)) (superW (raiseA A v (v + 1)).2.1 N.ks N.ts (epochZ (v + 1)) s l b).sum) 1).2.1.sync.2 (raiseA A v (v + 1)).2.2 ((epochZ (v + 1)) * 1048576)).2.2] ++ _) M (List.sublist_append_left _ _) ⟨hD5, hn4, hn5, hn6.trans hn3⟩⟩
        · refine code_region ?_
          refine sw (v := .bool true) E (tst rfl (by decide)) fun fr E => ?_
          refine seq_nil' ?_
          refine wp_seq ?_
          refine cond_true E rfl (rfl) ?_
          refine wp_skip ?_
          refine then_normal ?_
          refine wp_seq ?_
          refine wp_block ?_
          refine code_region ?_
          refine sw (v := cellAt fs (3 * 1)) E (run_indexR (i := 3) rfl (M.reads 9 rfl) rfl rfl (rfl) (by decide) T.slice94 T.size90) fun fr E => ?_
          refine sw (v := .func (.func 40) [.pointer (some ⟨g, 0, none⟩)].toArray [].toArray) E (run_loadR rfl (M.reads 9 rfl) rfl T.one90 (rfl)) fun fr E => ?_
          refine ma E fun fr E => ?_
          refine seq_nil' ?_
          refine code_region ?_
          refine mv E fun fr E => ?_
          refine scallI ([dkE D3]) E M rfl rfl rfl rfl rfl (run_callF (us := [.pointer (some ⟨g, 0, none⟩)]) (cs := []) rfl rfl T.fn40) rfl (fun H => Sync_a H hD3) ?_
          rintro D4 fr w hD4 M E
          refine ma E fun fr E => ?_
          refine seq_nil' ?_
          refine code_region ?_
          refine mv E fun fr E => ?_
          refine sw (v := .bool true) E (tst rfl (by simp [h3])) fun fr E => ?_
          refine seq_nil' ?_
          refine cond_true E rfl (rfl) ?_
          refine code_region ?_
          refine mv E fun fr E => ?_
          refine ma E fun fr E => ?_
          refine seq_nil' ?_
          refine wp_ret ?_
          refine block_ret ?_
          refine then_ret ?_
          refine then_ret ?_
          refine block_ret ?_
          refine then_ret ?_
          refine ret1 E rfl rfl ?_
          have M := M.pull 7 rfl
          have M := M.pull 2 rfl
          have M := M.pull 2 rfl
          rw [fmtF_go hr, fm1_ok h0, fm2_ok h1, fm3_ok h2, fm4_no h3]
          exact ⟨(D4, N3), rfl, Mem.fin (L := [dkE D4, nmE N3, cE g gk (raiseA A v (v + 1)).2.2] ++ _) M (List.sublist_append_left _ _) ⟨hD4, hn4, hn5, hn6.trans hn3⟩⟩
      · refine code_region ?_
        refine sw (v := .bool true) E (tst rfl (by decide)) fun fr E => ?_
        refine seq_nil' ?_
        refine wp_seq ?_
        refine cond_true E rfl (rfl) ?_
        refine wp_skip ?_
        refine then_normal ?_
        refine wp_seq ?_
        refine wp_block ?_
        refine code_region ?_
        refine sw (v := cellAt fs (2 * 1)) E (run_indexR (i := 2) rfl (M.reads 9 rfl) rfl rfl (rfl) (by decide) T.slice94 T.size90) fun fr E => ?_
        refine sw (v := .func (.func 38) [].toArray [.pointer (some ⟨g0, 0, none⟩), .pointer (some ⟨g2, 0, none⟩), .pointer (some ⟨g4, 0, none⟩), .pointer (some ⟨g5, 0, none⟩)].toArray) E (run_loadR rfl (M.reads 9 rfl) rfl T.one90 (rfl)) fun fr E => ?_
        refine ma E fun fr E => ?_
        refine seq_nil' ?_
        refine code_region ?_
        refine mv E fun fr E => ?_
        have M := M.pull 6 rfl
        have M := M.pull 5 rfl
        have M := M.pull 5 rfl
        have M := M.pull 5 rfl
        have M := M.pull 5 rfl
        have M := M.pull 5 rfl
        refine scallI ([dkE D2, nmE N2, Ent.blk g0 (.cells #[.pointer (some ⟨g, 0, none⟩)] 23), Ent.blk g2 (.cells #[.iface 31 (.pointer (some ⟨N.gn, 0, none⟩))] 84), Ent.blk g4 (.cells #[.int .i64 (epochZ (v + 1))] 3), Ent.blk g5 (.cells (bc (superW (raiseA A v (v + 1)).2.1 N.ks N.ts (epochZ (v + 1)) s l b).sum).toArray 54)]) E M rfl rfl rfl rfl rfl (run_callF (us := []) (cs := [.pointer (some ⟨g0, 0, none⟩), .pointer (some ⟨g2, 0, none⟩), .pointer (some ⟨g4, 0, none⟩), .pointer (some ⟨g5, 0, none⟩)]) rfl rfl T.fn38) rfl (fun H => fmt3_y H (superW_sum _ _ _ _ _ _ _) hD2 (by rw [hn2]; have := superW_ks (raiseA A v (v + 1)).2.1 N.ks N.ts (epochZ (v + 1)) s l b; omega) hn1) ?_
        rintro ⟨D3, N3⟩ fr w ⟨hD3, hn4, hn5, hn6⟩ M E
        rw [hn2] at hD3 hn5 E
        refine ma E fun fr E => ?_
        refine seq_nil' ?_
        refine code_region ?_
        refine mv E fun fr E => ?_
        refine sw (v := .bool true) E (tst rfl (by simp [h2])) fun fr E => ?_
        refine seq_nil' ?_
        refine cond_true E rfl (rfl) ?_
        refine code_region ?_
        refine mv E fun fr E => ?_
        refine ma E fun fr E => ?_
        refine seq_nil' ?_
        refine wp_ret ?_
        refine block_ret ?_
        refine then_ret ?_
        refine then_ret ?_
        refine block_ret ?_
        refine then_ret ?_
        refine ret1 E rfl rfl ?_
        have M := M.pull 7 rfl
        have M := M.pull 2 rfl
        have M := M.pull 2 rfl
        rw [fmtF_go hr, fm1_ok h0, fm2_ok h1, fm3_no h2]
        exact ⟨(D3, N3), rfl, Mem.fin (L := [dkE D3, nmE N3, cE g gk (raiseA A v (v + 1)).2.2] ++ _) M (List.sublist_append_left _ _) ⟨hD3, hn4, hn5, hn6.trans hn3⟩⟩
    · refine code_region ?_
      refine sw (v := .bool true) E (tst rfl (by decide)) fun fr E => ?_
      refine seq_nil' ?_
      refine wp_seq ?_
      refine cond_true E rfl (rfl) ?_
      refine wp_skip ?_
      refine then_normal ?_
      refine wp_seq ?_
      refine wp_block ?_
      refine code_region ?_
      refine sw (v := cellAt fs (1 * 1)) E (run_indexR (i := 1) rfl (M.reads 3 rfl) rfl rfl (rfl) (by decide) T.slice94 T.size90) fun fr E => ?_
      refine sw (v := .func (.func 36) [].toArray [.pointer (some ⟨g0, 0, none⟩), .pointer (some ⟨g2, 0, none⟩), .pointer (some ⟨g4, 0, none⟩), .pointer (some ⟨g3, 0, none⟩), .pointer (some ⟨g5, 0, none⟩)].toArray) E (run_loadR rfl (M.reads 3 rfl) rfl T.one90 (rfl)) fun fr E => ?_
      refine ma E fun fr E => ?_
      refine seq_nil' ?_
      refine code_region ?_
      refine mv E fun fr E => ?_
      have M := M.pull 4 rfl
      have M := M.pull 6 rfl
      have M := M.pull 6 rfl
      have M := M.pull 7 rfl
      have M := M.pull 8 rfl
      have M := M.pull 9 rfl
      have M := M.pull 6 rfl
      refine scallI ([dkE D1, nmE N, Ent.blk g0 (.cells #[.pointer (some ⟨g, 0, none⟩)] 23), Ent.blk g2 (.cells #[.iface 31 (.pointer (some ⟨N.gn, 0, none⟩))] 84), Ent.blk g4 (.cells #[.int .i64 (epochZ (v + 1))] 3), Ent.blk g3 (.cells #[.int .i64 s, .int .i64 l, .int .i64 b] 35), Ent.blk g5 (.cells #[.int .u8 0, .int .u8 0, .int .u8 0, .int .u8 0, .int .u8 0, .int .u8 0, .int .u8 0, .int .u8 0, .int .u8 0, .int .u8 0, .int .u8 0, .int .u8 0, .int .u8 0, .int .u8 0, .int .u8 0, .int .u8 0, .int .u8 0, .int .u8 0, .int .u8 0, .int .u8 0, .int .u8 0, .int .u8 0, .int .u8 0, .int .u8 0, .int .u8 0, .int .u8 0, .int .u8 0, .int .u8 0, .int .u8 0, .int .u8 0, .int .u8 0, .int .u8 0] 54)]) E M rfl rfl rfl rfl rfl (run_callF (us := []) (cs := [.pointer (some ⟨g0, 0, none⟩), .pointer (some ⟨g2, 0, none⟩), .pointer (some ⟨g4, 0, none⟩), .pointer (some ⟨g3, 0, none⟩), .pointer (some ⟨g5, 0, none⟩)]) rfl rfl T.fn36) rfl (fun H => fmt2_x H hD1 (by omega) (by omega) hg (ep_right hv hr)) ?_
      rintro ⟨D2, N2⟩ fr w ⟨hD2, hn1, hn2, hn3⟩ M E
      refine ma E fun fr E => ?_
      refine seq_nil' ?_
      refine code_region ?_
      refine mv E fun fr E => ?_
      refine sw (v := .bool true) E (tst rfl (by simp [h1])) fun fr E => ?_
      refine seq_nil' ?_
      refine cond_true E rfl (rfl) ?_
      refine code_region ?_
      refine mv E fun fr E => ?_
      refine ma E fun fr E => ?_
      refine seq_nil' ?_
      refine wp_ret ?_
      refine block_ret ?_
      refine then_ret ?_
      refine then_ret ?_
      refine block_ret ?_
      refine then_ret ?_
      refine ret1 E rfl rfl ?_
      have M := M.pull 7 rfl
      have M := M.pull 2 rfl
      have M := M.pull 2 rfl
      rw [fmtF_go hr, fm1_ok h0, fm2_no h1]
      exact ⟨(D2, N2), rfl, Mem.fin (L := [dkE D2, nmE N2, cE g gk (raiseA A v (v + 1)).2.2] ++ _) M (List.sublist_append_left _ _) ⟨hD2, hn1, hn2, hn3⟩⟩
  · refine code_region ?_
    refine sw (v := .bool true) E (tst rfl (by decide)) fun fr E => ?_
    refine seq_nil' ?_
    refine wp_seq ?_
    refine cond_true E rfl (rfl) ?_
    refine wp_skip ?_
    refine then_normal ?_
    refine wp_seq ?_
    refine wp_block ?_
    refine code_region ?_
    refine sw (v := cellAt fs (0 * 1)) E (run_indexR (i := 0) rfl (M.reads 0 rfl) rfl rfl (rfl) (by decide) T.slice94 T.size90) fun fr E => ?_
    refine sw (v := .func (.func 35) [].toArray [.pointer (some ⟨g1, 0, none⟩)].toArray) E (run_loadR rfl (M.reads 0 rfl) rfl T.one90 (rfl)) fun fr E => ?_
    refine ma E fun fr E => ?_
    refine seq_nil' ?_
    refine code_region ?_
    refine mv E fun fr E => ?_
    have M := M.pull 5 rfl
    have M := M.pull 9 rfl
    have M := M.pull 8 rfl
    refine scallI ([dkE D, cE g gk v, Ent.blk g1 (.cells #[.pointer (some ⟨gk, 0, none⟩)] 29)]) E M rfl rfl rfl rfl rfl (run_callF (us := []) (cs := [.pointer (some ⟨g1, 0, none⟩)]) rfl rfl T.fn35) rfl (fun H => fmt1_x (b1 := g1) H hD hv hv2) ?_
    rintro D1 fr w hD1 M E
    refine ma E fun fr E => ?_
    refine seq_nil' ?_
    refine code_region ?_
    refine mv E fun fr E => ?_
    refine sw (v := .bool true) E (tst rfl (by simp [h0])) fun fr E => ?_
    refine seq_nil' ?_
    refine cond_true E rfl (rfl) ?_
    refine code_region ?_
    refine mv E fun fr E => ?_
    refine ma E fun fr E => ?_
    refine seq_nil' ?_
    refine wp_ret ?_
    refine block_ret ?_
    refine then_ret ?_
    refine then_ret ?_
    refine block_ret ?_
    refine then_ret ?_
    refine ret1 E rfl rfl ?_
    have M := M.pull 1 rfl
    have M := M.pull 9 rfl
    have M := M.pull 2 rfl
    rw [fmtF_go hr, fm1_no h0]
    exact ⟨(D1, N), rfl, Mem.fin (L := [dkE D1, nmE N, cE g gk (raiseA A v (v + 1)).2.2] ++ _) M (List.sublist_append_left _ _) ⟨hD1, rfl, rfl, rfl⟩⟩

theorem Format_x {D : DV} {N : NV} {g gk : Nat} {A : AD} {v s l b : Int} {w0 : World} (H : Has w0 [dkE D, nmE N, cE g gk v]) (hD : D.is g A) (hkz : N.ks.length + 2 ≤ 1099511627776) (htz : N.ts.length + 2 ≤ 1099511627776) (hv : 0 ≤ v) (hv2 : v ≤ 1152921504606846976) : Does Tryz.prog 20 [.pointer (some ⟨g, 0, none⟩), .pointer (some ⟨gk, 0, none⟩), .iface 31 (.pointer (some ⟨N.gn, 0, none⟩)), .agg #[.int .i64 s, .int .i64 l, .int .i64 b]] w0 [dkE D, nmE N, cE g gk v] (fun _ : DV × NV => .int .i64 (fmtF A v N.ks N.ts s l b).err) (fun x => [dkE x.1, nmE x.2, cE g gk (fmtF A v N.ks N.ts s l b).v]) (fun x => x.1.is g (fmtF A v N.ks N.ts s l b).A ∧ x.2.gn = N.gn ∧ x.2.ks = (fmtF A v N.ks N.ts s l b).ks ∧ x.2.ts = (fmtF A v N.ks N.ts s l b).ts) := by
  by_cases hr : refZ A.n v s l b = 0
  · exact Format_go H hD hkz htz hv hv2 hr (refZ_may hr)
  · exact Format_no H hD hkz htz hv hv2 hr
theorem Format_y {D : DV} {N : NV} {g gk : Nat} {A : AD} {v s l b : Int} {w0 : World} (H : Has w0 [dkE D, nmE N, cE g gk v]) (hD : D.is g A) (hkz : N.ks.length + 2 ≤ 1099511627776) (htz : N.ts.length + 2 ≤ 1099511627776) (hv : 0 ≤ v) (hv2 : v ≤ 1152921504606846976) {a : Nat} (ha : N.gn = a) : Does Tryz.prog 20 [.pointer (some ⟨g, 0, none⟩), .pointer (some ⟨gk, 0, none⟩), .iface 31 (.pointer (some ⟨a, 0, none⟩)), .agg #[.int .i64 s, .int .i64 l, .int .i64 b]] w0 [dkE D, nmE N, cE g gk v] (fun _ : DV × NV => .int .i64 (fmtF A v N.ks N.ts s l b).err) (fun x => [dkE x.1, nmE x.2, cE g gk (fmtF A v N.ks N.ts s l b).v]) (fun x => x.1.is g (fmtF A v N.ks N.ts s l b).A ∧ x.2.gn = a ∧ x.2.ks = (fmtF A v N.ks N.ts s l b).ks ∧ x.2.ts = (fmtF A v N.ks N.ts s l b).ts) := by
  subst ha
  exact Format_x H hD hkz htz hv hv2
end Go.Proofs.YtnebjbgcibjohaaGreat.K
end
section
namespace Go.Proofs.YtnebjbgcibjohaaGreat.K
open Go.RowKit Go.Rill Go.Proofs
set_option linter.unusedVariables false
set_option linter.unusedSimpArgs false
/-- The power holds for an operation more. -/
def AD.go (A : AD) : Prop := A.off = false ∧ ¬ (A.armed = true ∧ A.left = 0)
def AD.tick (A : AD) : AD := { A with left := w64 (A.left - 1) }
theorem spend_ok {A : AD} (h : A.go) : A.spend = (0, A.tick) := by
  unfold AD.spend
  rw [if_neg (by rw [h.1]; decide), if_neg h.2]
  rfl
theorem write_ok {A : AD} {i : Int} {l : List UInt8} (h : A.go) (ht : A.there i) (hl : l.length ≤ 1024) : A.write i l = (0, A.put i l) := by
  unfold AD.write
  rw [if_neg (by rw [h.1]; decide), if_neg (fun c => c ht), if_neg (by omega), if_neg h.2]
  rfl
theorem write_cut {A : AD} {i : Int} {l : List UInt8} (h0 : A.off = false) (ha : A.armed = true) (hl0 : A.left = 0) (ht : A.there i) (hl : l.length ≤ 1024) : A.write i l = (12, { A with off := true }) := by
  unfold AD.write
  rw [if_neg (by rw [h0]; decide), if_neg (fun c => c ht), if_neg (by omega), if_pos ⟨ha, hl0⟩]
theorem raise_ok {A : AD} {v nv : Int} (h : A.go) (h1 : v < nv) (h2 : nv ≤ 1152921504606846976) : raiseA A v nv = (0, A.tick, nv) := by
  unfold raiseA
  rw [spend_ok h, if_neg (by omega), if_pos rfl]
theorem sectB_small (ks : List NKey) (kd e n at' : Int) {pl : List UInt8} (h : pl.length ≤ 900) : (sectB ks kd e n at' pl).length ≤ 1024 := by
  have h1 := sealB_len ks e n (hdB kd at') pl
  rw [sectB_len]
  omega
theorem geoB_len (s l b : Int) : (geoB s l b).length = 24 := by simp [geoB, be8_len]
theorem fRec_may {e : Int} {sm : List UInt8} (h : 1 ≤ e ∧ e ≤ 1099511627776) : (fRec e sm).May := ⟨⟨(by decide : RNum 1), h, h⟩, .inl ⟨rfl, rfl⟩, (by decide : RPl 0 0), (by decide : RPl 0 0)⟩
/-- The second region is written. -/
theorem regW_w {A : AD} {ks : List NKey} {r : Rec} (hr : r.Ok) (hm : r.May) {num : Int} (h0 : 0 ≤ num) (h1 : num ≤ 1099511627776) : regW A ks r num = ((A.write r.at' (sectB ks 2 r.epoch num r.at' r.bytes)).1, (A.write r.at' (sectB ks 2 r.epoch num r.at' r.bytes)).2, sealKs ks (r.key num)) := by
  have hs := right_of hm h0 h1
  have hin : inNum r.epoch ∧ inNum num := ⟨⟨hs.1.1, hs.2.1.1⟩, ⟨h0, h1⟩⟩
  unfold regW
  rw [if_pos ⟨hm, hs⟩]
  unfold sealS
  rw [if_pos hin]
section
variable {A : AD} {v s l b : Int} {ks : List NKey} {ts : List (List UInt8)}
abbrev fE (v : Int) : Int := epochZ (v + 1)
abbrev fK0 (v s l b : Int) : NKey := ⟨fE v, 0, hdB 1 0, geoB s l b⟩
abbrev fB0 (v s l b : Int) (ks : List NKey) : List UInt8 := sectB ks 1 (fE v) 0 0 (geoB s l b)
abbrev fKs1 (v s l b : Int) (ks : List NKey) : List NKey := sealKs ks (fK0 v s l b)
abbrev fSum (v s l b : Int) (ks : List NKey) (ts : List (List UInt8)) : List UInt8 := sumOf (textNo ts (fB0 v s l b ks))
abbrev fR (v s l b : Int) (ks : List NKey) (ts : List (List UInt8)) : Rec := fRec (fE v) (fSum v s l b ks ts)
abbrev fB2 (v s l b : Int) (ks : List NKey) (ts : List (List UInt8)) : List UInt8 := sectB (fKs1 v s l b ks) 2 (fE v) 1 2 (fR v s l b ks ts).bytes
abbrev fKs2 (v s l b : Int) (ks : List NKey) (ts : List (List UInt8)) : List NKey := sealKs (fKs1 v s l b ks) ((fR v s l b ks ts).key 1)
theorem fE_in {n : Nat} (hv : 0 ≤ v) (hr : refZ n v s l b = 0) : 2 ≤ fE v ∧ fE v ≤ 1099511627776 ∧ v + 1 < fE v * 1048576 ∧ fE v * 1048576 ≤ 1152921504606846976 ∧ v + 1 ≤ 1152921504606846976 := by
  have h1 := (refZ_in hr).2.2.2
  unfold fE
  unfold epochZ at *
  omega
theorem fR_ok : (fR v s l b ks ts).Ok := fRec_ok _ (sumOf_len _)
theorem fR_may {n : Nat} (hv : 0 ≤ v) (hr : refZ n v s l b = 0) : (fR v s l b ks ts).May := fRec_may (by have := fE_in hv hr; omega)
theorem there_of {n : Nat} (hn : A.n = n) (hr : refZ n v s l b = 0) {i : Int} (h0 : 0 ≤ i) (h1 : i ≤ 100) : A.there i := by
  obtain ⟨h2, h3, _⟩ := refZ_in hr
  have := gmay_sl h2
  unfold AD.there
  omega
theorem superW_s {e : Int} (he : 0 ≤ e ∧ e ≤ 1099511627776) (h : (A.write 0 (sectB ks 1 e 0 0 (geoB s l b))).1 = 0) : superW A ks ts e s l b = ⟨0, (A.write 0 (sectB ks 1 e 0 0 (geoB s l b))).2, sealKs ks ⟨e, 0, hdB 1 0, geoB s l b⟩, textKs ts (sectB ks 1 e 0 0 (geoB s l b)), sumOf (textNo ts (sectB ks 1 e 0 0 (geoB s l b)))⟩ := by
  unfold superW
  rw [if_pos h]
  unfold sealS
  rw [if_pos ⟨he, by decide, by decide⟩]
/-- What the disk has behind a whole Format. -/
def fmtA (A : AD) (b0 b2 : List UInt8) : AD := (((A.tick.put 0 b0).put 2 b2).sync.2).tick
theorem fmt_ok (h0 : A.off = false) (ha : A.armed = false) (hv : 0 ≤ v) (hr : refZ A.n v s l b = 0) : fmtF A v ks ts s l b = ⟨0, fmtA A (fB0 v s l b ks) (fB2 v s l b ks ts), fE v * 1048576, fKs2 v s l b ks ts, textKs ts (fB0 v s l b ks)⟩ := by
  obtain ⟨e1, e2, e3, e4, e5⟩ := fE_in hv hr
  have g0 : A.go := ⟨h0, by rw [ha]; simp⟩
  have r1 : raiseA A v (v + 1) = (0, A.tick, v + 1) := raise_ok g0 (by omega) e5
  have g1 : A.tick.go := ⟨h0, by show ¬ (A.armed = true ∧ _); rw [ha]; simp⟩
  have w0 : A.tick.write 0 (fB0 v s l b ks) = (0, A.tick.put 0 (fB0 v s l b ks)) := write_ok g1 (there_of (A := A.tick) rfl hr (by decide) (by decide)) (sectB_small _ _ _ _ _ (by rw [geoB_len]; decide))
  have s1 : superW A.tick ks ts (fE v) s l b = ⟨0, A.tick.put 0 (fB0 v s l b ks), fKs1 v s l b ks, textKs ts (fB0 v s l b ks), fSum v s l b ks ts⟩ := by
    rw [superW_s (by omega) (by rw [w0]), w0]
  have g2 : (A.tick.put 0 (fB0 v s l b ks)).go := ⟨h0, by show ¬ (A.armed = true ∧ _); rw [ha]; simp⟩
  have w2 : (A.tick.put 0 (fB0 v s l b ks)).write 2 (fB2 v s l b ks ts) = (0, (A.tick.put 0 (fB0 v s l b ks)).put 2 (fB2 v s l b ks ts)) := write_ok g2 (there_of (A := A.tick.put 0 (fB0 v s l b ks)) rfl hr (by decide) (by decide)) (sectB_small _ _ _ _ _ (by rw [Rec.bytes_len fR_ok]; decide))
  have r2 : regW (A.tick.put 0 (fB0 v s l b ks)) (fKs1 v s l b ks) (fR v s l b ks ts) 1 = (0, (A.tick.put 0 (fB0 v s l b ks)).put 2 (fB2 v s l b ks ts), fKs2 v s l b ks ts) := by
    rw [regW_w fR_ok (fR_may hv hr) (by decide) (by decide)]
    have := w2
    show ((AD.write _ 2 (fB2 v s l b ks ts)).1, (AD.write _ 2 (fB2 v s l b ks ts)).2, _) = _
    rw [this]
  have y : ((A.tick.put 0 (fB0 v s l b ks)).put 2 (fB2 v s l b ks ts)).sync = (0, ((A.tick.put 0 (fB0 v s l b ks)).put 2 (fB2 v s l b ks ts)).sync.2) := by
    unfold AD.sync
    rw [if_neg (by show ¬ A.off = true; rw [h0]; decide), if_neg (by show ¬ (A.armed = true ∧ _); rw [ha]; simp)]
  have g4 : (((A.tick.put 0 (fB0 v s l b ks)).put 2 (fB2 v s l b ks ts)).sync.2).go := by
    unfold AD.sync
    rw [if_neg (by show ¬ A.off = true; rw [h0]; decide), if_neg (by show ¬ (A.armed = true ∧ _); rw [ha]; simp)]
    exact ⟨h0, by show ¬ (A.armed = true ∧ _); rw [ha]; simp⟩
  have r5 : raiseA (((A.tick.put 0 (fB0 v s l b ks)).put 2 (fB2 v s l b ks ts)).sync.2) (v + 1) (fE v * 1048576) = (0, fmtA A (fB0 v s l b ks) (fB2 v s l b ks ts), fE v * 1048576) := raise_ok g4 e3 e4
  rw [fmtF_go hr, fm1_ok (by rw [r1]), r1, fm2_ok (by rw [s1]), s1, fm3_ok (by rw [r2]), r2, fm4_ok (by rw [y]), fm5, r5]
theorem tick_read (A : AD) (j : Nat) : A.tick.read j = A.read j := rfl
theorem fmtA_read {b0 b2 : List UInt8} (h0 : A.off = false) (ha : A.armed = false) (hl : A.last.length = A.n) {j : Nat} (hj : j < A.n) : (fmtA A b0 b2).read j = if j = 2 then b2 else if j = 0 then b0 else A.read j := by
  have e : (fmtA A b0 b2).read j = ((A.tick.put 0 b0).put 2 b2).read j := (tick_read _ _).trans (AD.read_sync (A := (A.tick.put 0 b0).put 2 b2) hl h0 (by show ¬ (A.armed = true ∧ _); rw [ha]; simp) hj)
  rw [e, put_read, put_read, tick_read]
  by_cases c : j = 2
  · rw [if_pos (by omega), if_pos c]
  · rw [if_neg (by omega), if_neg c]
    by_cases d : j = 0
    · rw [if_pos (by omega), if_pos d]
    · rw [if_neg (by omega), if_neg d]
theorem fmtA_eq {b0 b2 : List UInt8} (h0 : A.off = false) (ha : A.armed = false) : (fmtA A b0 b2).n = A.n ∧ (fmtA A b0 b2).off = false ∧ (fmtA A b0 b2).armed = false ∧ (fmtA A b0 b2).writes = w64 (w64 (A.writes + 1) + 1) := by
  unfold fmtA AD.sync
  rw [if_neg (by show ¬ A.off = true; rw [h0]; decide), if_neg (by show ¬ (A.armed = true ∧ _); rw [ha]; simp)]
  exact ⟨rfl, h0, ha, rfl⟩
/-- .. its record is told. -/
theorem fmt_one {A' : AD} {n : Nat} (hv : 0 ≤ v) (hr : refZ n v s l b = 0) (hrd : A'.read 2 = fB2 v s l b ks ts) : oneX A' (fKs2 v s l b ks ts) 2 = (fR v s l b ks ts, true) := by
  obtain ⟨m, h1, h2⟩ := seal_at (fKs1 v s l b ks) ((fR v s l b ks ts).key 1)
  exact one_at fR_ok (fR_may hv hr) (by decide) (by decide) rfl hrd h1 h2
end
end Go.Proofs.YtnebjbgcibjohaaGreat.K
end
section
namespace Go.Proofs.YtnebjbgcibjohaaGreat.K
open Go.RowKit Go.Rill Go.Proofs
set_option linter.unusedVariables false
set_option linter.unusedSimpArgs false
abbrev fwR : Rec := fR 0 18 32 4 [] []
def fwA : AD := fmtA (AD.new 579) (fB0 0 18 32 4 []) (fB2 0 18 32 4 [] [])
theorem fw_ref : refZ (AD.new 579).n 0 18 32 4 = 0 := by
  show refZ 579 0 18 32 4 = 0
  decide
theorem fw_ok : fmtF (AD.new 579) 0 [] [] 18 32 4 = ⟨0, fwA, 2097152, fKs2 0 18 32 4 [] [], textKs [] (fB0 0 18 32 4 [])⟩ := fmt_ok rfl rfl (by decide) fw_ref
theorem fw_ks1 : (fKs2 0 18 32 4 [] []).length ≤ 2 := Nat.le_trans (sealKs_len _ _) (Nat.succ_le_succ (sealKs_len _ _))
theorem fw_ks : (fKs2 0 18 32 4 [] []).length ≤ 1099511627776 := Nat.le_trans fw_ks1 (by decide)
theorem textKs_len (ts : List (List UInt8)) (l : List UInt8) : (textKs ts l).length ≤ ts.length + 1 := by
  unfold textKs
  split <;> simp
theorem fw_ts : (textKs [] (fB0 0 18 32 4 [])).length ≤ 1 := textKs_len _ _
theorem fw_read {j : Nat} (hj : j < 579) : fwA.read j = if j = 2 then fB2 0 18 32 4 [] [] else if j = 0 then fB0 0 18 32 4 [] else [] := by
  unfold fwA
  rw [fmtA_read rfl rfl (show (List.replicate 579 ([] : List UInt8)).length = 579 from List.length_replicate ..) hj, new_read]
theorem fw_all : allL fwA (fKs2 0 18 32 4 [] []) 2 = [fwR] := by
  have e1 : oneX fwA (fKs2 0 18 32 4 [] []) 1 = (Rec.zero, false) := one_nil (by rw [fw_read (by decide), if_neg (by decide), if_neg (by decide)])
  have e2 : oneX fwA (fKs2 0 18 32 4 [] []) 2 = (fwR, true) := fmt_one (n := 579) (by decide) (by decide) (by rw [fw_read (by decide), if_pos rfl])
  rw [allL_yes (by rw [one_bumps, e2]), allL_no (by rw [one_bumps, e1]), one_bumps, e2]
  rfl
theorem bumps_off (A : AD) : ∀ i, (bumps A i).off = A.off
  | 0 => rfl
  | i + 1 => bumps_off A i
theorem fwA_n : fwA.n = 579 := (fmtA_eq (A := AD.new 579) rfl rfl).1
theorem fwA_off : fwA.off = false := (fmtA_eq (A := AD.new 579) rfl rfl).2.1
theorem arm_n (A : AD) : (A.arm 2).n = A.n := rfl
theorem arm_off (A : AD) : (A.arm 2).off = A.off := rfl
theorem arm_armed (A : AD) : (A.arm 2).armed = true := rfl
theorem arm_left (A : AD) : (A.arm 2).left = 2 := rfl
/-- Cut off behind its second step. -/
theorem fw_cut (ks : List NKey) (ts : List (List UInt8)) : ∃ A4, (fmtF ((bumps fwA 2).arm 2) 2097152 ks ts 18 32 4).err = 12 ∧ (fmtF ((bumps fwA 2).arm 2) 2097152 ks ts 18 32 4).v = 2097153 ∧ (fmtF ((bumps fwA 2).arm 2) 2097152 ks ts 18 32 4).A = A4 := by
  obtain ⟨A, hA⟩ : ∃ A, A = (bumps fwA 2).arm 2 := ⟨_, rfl⟩
  have hn : A.n = 579 := (congrArg AD.n hA).trans ((arm_n (bumps fwA 2)).trans ((bumps_n fwA 2).trans fwA_n))
  have h0 : A.off = false := (congrArg AD.off hA).trans ((arm_off (bumps fwA 2)).trans ((bumps_off fwA 2).trans fwA_off))
  have ha : A.armed = true := (congrArg AD.armed hA).trans (arm_armed (bumps fwA 2))
  have hl : A.left = 2 := (congrArg AD.left hA).trans (arm_left (bumps fwA 2))
  rw [← hA]
  have hr : refZ A.n 2097152 18 32 4 = 0 := hn ▸ (by decide +kernel : refZ 579 2097152 18 32 4 = 0)
  have g0 : A.go := ⟨h0, by rw [hl]; simp⟩
  have r1 : raiseA A 2097152 (2097152 + 1) = (0, A.tick, 2097152 + 1) := raise_ok g0 (by decide) (by decide)
  have hl1 : A.tick.left = 1 := by show w64 (A.left - 1) = 1; rw [hl]; decide
  have g1 : A.tick.go := ⟨h0, by rw [hl1]; simp⟩
  have w0 : A.tick.write 0 (fB0 2097152 18 32 4 ks) = (0, A.tick.put 0 (fB0 2097152 18 32 4 ks)) := write_ok g1 (there_of (A := A.tick) rfl hr (by decide) (by decide)) (sectB_small _ _ _ _ _ (by rw [geoB_len]; decide))
  have s1 : superW A.tick ks ts (fE 2097152) 18 32 4 = ⟨0, A.tick.put 0 (fB0 2097152 18 32 4 ks), fKs1 2097152 18 32 4 ks, textKs ts (fB0 2097152 18 32 4 ks), fSum 2097152 18 32 4 ks ts⟩ := by
    rw [superW_s (by decide) (by rw [w0]), w0]
  have hl2 : (A.tick.put 0 (fB0 2097152 18 32 4 ks)).left = 0 := by show w64 (A.tick.left - 1) = 0; rw [hl1]; decide
  have w2 : (A.tick.put 0 (fB0 2097152 18 32 4 ks)).write 2 (fB2 2097152 18 32 4 ks ts) = (12, { A.tick.put 0 (fB0 2097152 18 32 4 ks) with off := true }) := write_cut h0 ha hl2 (there_of (A := A.tick.put 0 (fB0 2097152 18 32 4 ks)) rfl hr (by decide) (by decide)) (sectB_small _ _ _ _ _ (by rw [Rec.bytes_len fR_ok]; decide))
  have r2 : (regW (A.tick.put 0 (fB0 2097152 18 32 4 ks)) (fKs1 2097152 18 32 4 ks) (fR 2097152 18 32 4 ks ts) 1).1 = 12 := by
    rw [regW_w fR_ok (fR_may (by decide) hr) (by decide) (by decide)]
    show (AD.write _ 2 (fB2 2097152 18 32 4 ks ts)).1 = 12
    rw [w2]
  have e1 : fmtF A 2097152 ks ts 18 32 4 = fm2 A.tick (2097152 + 1) (fE 2097152) ks ts 18 32 4 := by rw [fmtF_go hr, fm1_ok (by rw [r1]), r1]
  have e2 : fm2 A.tick (2097152 + 1) (fE 2097152) ks ts 18 32 4 = fm3 (A.tick.put 0 (fB0 2097152 18 32 4 ks)) (2097152 + 1) (fE 2097152) (fKs1 2097152 18 32 4 ks) (textKs ts (fB0 2097152 18 32 4 ks)) (fSum 2097152 18 32 4 ks ts) := by rw [fm2_ok (by rw [s1]), s1]
  rw [e1, e2, fm3_no (by rw [r2]; decide)]
  exact ⟨_, r2, rfl, rfl⟩
set_option maxRecDepth 100000 in
theorem worksF_c (w0 : World) : Gives Tryz.prog 8 [] w0 (.bool true) := by
  refine enter (n := 72) Tryz.func8 rfl rfl rfl ?_
  intro fr E
  have M : Mem w0 (feet []) [] (fun _ => True) w0 := Mem.begin (Has.nil w0) (fun _ _ => trivial)
  refine code_region ?_
  refine sw E (run_assignC rfl) fun fr E => ?_
  refine seq_nil' ?_
  refine code_region ?_
  refine sgive E M rfl rfl rfl rfl rfl (run_call rfl rfl T.fn27) (Small_x) fun fr w M E => ?_
  refine snew (ob := .cells #[_, _, _] 35) (fun g => .pointer (some ⟨g, 0, none⟩)) E M rfl rfl rfl rfl rfl (run_allocN rfl T.zero35) fun g0 fr w M E => ?_
  refine sset (i := 0) (cs' := #[.int .i64 18, .int .i64 32, .int .i64 4]) E M rfl rfl rfl rfl rfl (run_storeAll (vs := #[.int .i64 18, .int .i64 32, .int .i64 4]) rfl rfl rfl T.size35 (rfl) (M.row (i := 0) rfl) rfl (by simp [Value.oneCell'])) rfl fun fr w M E => ?_
  refine seq_nil' ?_
  refine code_region ?_
  refine sw (v := .agg #[.int .i64 18, .int .i64 32, .int .i64 4]) E (run_loadAll rfl rfl T.agg35 (M.row (i := 0) rfl) rfl) fun fr E => ?_
  refine sgive E M rfl rfl rfl rfl rfl (run_call rfl rfl T.fn17) ((Sectors_ok (s := 18) (l := 32) (b := 4) (by decide))) fun fr w M E => ?_
  refine scall E M rfl rfl rfl rfl rfl (run_call rfl rfl T.fn6) (dNew_ok (k := 579) (by decide) (by decide)) rfl ?_
  rintro D0 fr w hD0 M E
  refine mv E fun fr E => ?_
  refine sw E (run_extract rfl rfl rfl) fun fr E => ?_
  refine sw E (run_extract rfl rfl rfl) fun fr E => ?_
  refine ma E fun fr E => ?_
  refine ma E fun fr E => ?_
  refine seq_nil' ?_
  refine wp_seq ?_
  refine code_region ?_
  refine mv E fun fr E => ?_
  refine sw (v := .bool false) E (tst rfl (rfl)) fun fr E => ?_
  refine seq_nil' ?_
  refine cond_false E rfl (rfl) ?_
  refine wp_skip ?_
  refine then_normal ?_
  refine code_region ?_
  refine mv E fun fr E => ?_
  refine scall E M rfl rfl rfl rfl rfl (run_call rfl rfl T.fn9) (cNew_x (g := D0.gd)) rfl ?_
  rintro gk fr w - M E
  refine ma E fun fr E => ?_
  refine seq_nil' ?_
  refine code_region ?_
  refine scall E M rfl rfl rfl rfl rfl (run_call rfl rfl T.fn10) (nNew_x _) rfl ?_
  rintro N0 fr w ⟨hk0, ht0⟩ M E
  refine ma E fun fr E => ?_
  refine seq_nil' ?_
  refine code_region ?_
  refine mv E fun fr E => ?_
  refine mv E fun fr E => ?_
  refine mv E fun fr E => ?_
  refine sw E (rfl) fun fr E => ?_
  refine sw (v := .agg #[.int .i64 18, .int .i64 32, .int .i64 4]) E (run_loadAll rfl rfl T.agg35 (M.row (i := 3) rfl) rfl) fun fr E => ?_
  have M := M.pull 1 rfl
  have M := M.pull 1 rfl
  have M := M.pull 2 rfl
  refine scallI ([dkE D0, nmE N0, cE D0.gd gk 0]) E M rfl rfl rfl rfl rfl (run_call rfl rfl T.fn20) rfl (fun H => Format_y (g := D0.gd) (gk := gk) (A := AD.new 579) (v := 0) (s := 18) (l := 32) (b := 4) H hD0 (by rw [hk0]; decide) (by rw [ht0]; decide) (by decide) (by decide) rfl) ?_
  rintro ⟨D1, N1⟩ fr w ⟨hD1, hg1, hk1, ht1⟩ M E
  rw [hk0, ht0] at hD1 hk1 ht1 M E
  rw [fw_ok] at hD1 hk1 ht1 M E
  refine ma E fun fr E => ?_
  refine seq_nil' ?_
  refine code_region ?_
  refine mv E fun fr E => ?_
  refine mv E fun fr E => ?_
  refine sw E (rfl) fun fr E => ?_
  refine scallI ([dkE D1, nmE N1]) E M rfl rfl rfl rfl rfl (run_call rfl rfl T.fn26) rfl (fun H => All_y (g := D0.gd) (A := fwA) (N := N1) H hD1 (by rw [hk1]; exact fw_ks) (by decide) hg1) ?_
  rintro ⟨al, D2⟩ fr w hD2 M E
  rw [hk1, fw_all] at M
  refine ma E fun fr E => ?_
  refine seq_nil' ?_
  refine code_region ?_
  refine mv E fun fr E => ?_
  have M := M.pull 1 rfl
  refine scallI ([dkE D2]) E M rfl rfl rfl rfl rfl (run_call rfl rfl T.fn28) rfl (fun H => Arm_a H hD2 2) ?_
  rintro D3 fr w hD3 M E
  refine seq_nil' ?_
  refine code_region ?_
  refine mv E fun fr E => ?_
  refine mv E fun fr E => ?_
  refine mv E fun fr E => ?_
  refine sw E (rfl) fun fr E => ?_
  refine sw (v := .agg #[.int .i64 18, .int .i64 32, .int .i64 4]) E (run_loadAll rfl rfl T.agg35 (M.row (i := 4) rfl) rfl) fun fr E => ?_
  have M := M.pull 3 rfl
  have M := M.pull 3 rfl
  have M := M.pull 2 rfl
  refine scallI ([dkE D3, nmE N1, cE D0.gd gk 2097152]) E M rfl rfl rfl rfl rfl (run_call rfl rfl T.fn20) rfl (fun H => Format_y (g := D0.gd) (gk := gk) (v := 2097152) (s := 18) (l := 32) (b := 4) H hD3 (by rw [hk1]; exact Nat.le_trans (Nat.add_le_add_right fw_ks1 2) (by decide)) (by rw [ht1]; exact Nat.le_trans (Nat.add_le_add_right fw_ts 2) (by decide)) (by decide) (by decide) hg1) ?_
  rintro ⟨D4, N4⟩ fr w ⟨hD4, hg4, hk4, ht4⟩ M E
  obtain ⟨A4, hf⟩ := fw_cut N1.ks N1.ts
  rw [hf.1] at E
  rw [hf.2.1] at M
  refine ma E fun fr E => ?_
  refine seq_nil' ?_
  refine code_region ?_
  refine mv E fun fr E => ?_
  refine scallI ([dkE D4]) E M rfl rfl rfl rfl rfl (run_call rfl rfl T.fn23) rfl (fun H => Crash_b H hD4 (.inl ⟨Reads.nil _ _, fun g hg => by cases hg⟩ : FarI _ _ (.slice none 0 0) [])) ?_
  rintro D5 fr w hD5 M E
  refine seq_nil' ?_
  refine code_region ?_
  refine mv E fun fr E => ?_
  refine sgive E M rfl rfl rfl rfl rfl (run_call rfl rfl T.fn11) (cValue_x (g := D0.gd) (M.row (i := 2) rfl)) fun fr w M E => ?_
  refine ma E fun fr E => ?_
  refine seq_nil' ?_
  refine code_region ?_
  refine mv E fun fr E => ?_
  refine sw (v := .bool true) E (tst rfl (rfl)) fun fr E => ?_
  refine mv E fun fr E => ?_
  refine mv E fun fr E => ?_
  refine sw (v := .bool true) E (tst rfl (rfl)) fun fr E => ?_
  refine sw (v := .bool _) E (rfl) fun fr E => ?_
  refine mv E fun fr E => ?_
  refine mv E fun fr E => ?_
  refine sw (v := .int .i64 _) E (run_lenR rfl rfl rfl rfl T.slice65 (M.reads 3 rfl)) fun fr E => ?_
  refine sw (v := .bool true) E (tst rfl (rfl)) fun fr E => ?_
  refine sw (v := .bool _) E (rfl) fun fr E => ?_
  refine mv E fun fr E => ?_
  refine mv E fun fr E => ?_
  refine sw (v := cellAt al (0 * 136)) E (run_indexR (i := 0) rfl (M.reads 3 rfl) rfl rfl (rfl) (by simp) T.slice65 T.size62) fun fr E => ?_
  refine sw (v := cellAt al (0 * 136 + 1)) E (run_fieldAddrR rfl (M.reads 3 rfl) rfl T.fld62_1 (by simp)) fun fr E => ?_
  refine sw (v := .int .i64 2) E (run_loadR rfl (M.reads 3 rfl) rfl T.one3 (rcs_stamp (l := [fwR]) (k := 0) (fun r hr => by rw [List.mem_singleton.1 hr]; exact fR_ok) (by simp))) fun fr E => ?_
  refine sw (v := .bool true) E (tst rfl (rfl)) fun fr E => ?_
  refine sw (v := .bool _) E (rfl) fun fr E => ?_
  refine mv E fun fr E => ?_
  refine mv E fun fr E => ?_
  refine sgive E M rfl rfl rfl rfl rfl (run_call rfl rfl T.fn14) (Level_x (by decide)) fun fr w M E => ?_
  refine sw (v := .bool true) E (tst rfl (rfl)) fun fr E => ?_
  refine sw (v := .bool _) E (rfl) fun fr E => ?_
  refine mv E fun fr E => ?_
  refine mv E fun fr E => ?_
  refine sgive E M rfl rfl rfl rfl rfl (run_call rfl rfl T.fn15) (Tries_x (by decide) (by decide)) fun fr w M E => ?_
  refine sw (v := .bool true) E (tst rfl (rfl)) fun fr E => ?_
  refine sw (v := .bool _) E (rfl) fun fr E => ?_
  refine ma E fun fr E => ?_
  refine seq_nil' ?_
  refine wp_ret ?_
  refine ret1 E rfl rfl ?_
  exact given M
end Go.Proofs.YtnebjbgcibjohaaGreat.K
end
section
namespace Go.Proofs.YtnebjbgcibjohaaGreat.K
open Go.RowKit Go.Rill Go.Proofs
set_option linter.unusedVariables false
set_option linter.unusedSimpArgs false
def LongF (l : List OpF) : Prop := 60 < l.length ∨ ∃ o ∈ l, 100 < o.ll.length ∨ 2048 < o.dl.length
instance (l : List OpF) : Decidable (LongF l) := by unfold LongF; infer_instance
section
variable {A : AD} {v : Int} {ks : List NKey} {ts : List (List UInt8)} {o : OpF}
end
end Go.Proofs.YtnebjbgcibjohaaGreat.K
end
section
namespace Go.Proofs.YtnebjbgcibjohaaGreat.K
open Go.RowKit Go.Rill Go.Proofs
set_option linter.unusedVariables false
set_option linter.unusedSimpArgs false
section
variable {G : Int} {st : List Int}
end
end Go.Proofs.YtnebjbgcibjohaaGreat.K
end
section
namespace Go.Proofs.YtnebjbgcibjohaaGreat.K
open Go.RowKit Go.Rill Go.Proofs
set_option linter.unusedVariables false
set_option linter.unusedSimpArgs false
end Go.Proofs.YtnebjbgcibjohaaGreat.K
end
section
namespace Go.Proofs.YtnebjbgcibjohaaGreat.K
open Go.RowKit Go.Rill Go.Proofs
set_option linter.unusedVariables false
set_option linter.unusedSimpArgs false
end Go.Proofs.YtnebjbgcibjohaaGreat.K
end
section
namespace Go.Proofs.YtnebjbgcibjohaaGreat.K
open Go.RowKit Go.Rill Go.Proofs
set_option linter.unusedVariables false
set_option linter.unusedSimpArgs false
/-- All that was sealed are records of these. -/
def Told (ks : List NKey) (told : List Rec) : Prop := ∀ k ∈ ks, ∃ r ∈ told, r.Ok ∧ r.May ∧ ∃ num, k = r.key num
theorem Told.nil (told : List Rec) : Told [] told := fun k hk => nomatch hk
theorem Told.more {ks : List NKey} {told : List Rec} (h : Told ks told) (r : Rec) : Told ks (told ++ [r]) := fun k hk => by
  obtain ⟨q, hq, h2⟩ := h k hk
  exact ⟨q, List.mem_append_left _ hq, h2⟩
theorem Told.sealed {ks : List NKey} {told : List Rec} (h : Told ks told) {A : AD} {r : Rec} (hr : r.Ok) (num : Int) : Told (regW A ks r num).2.2 (told ++ [r]) := by
  unfold regW
  split
  · rename_i hc
    show Told (sealS ks r.epoch num (hdB 2 (1 + r.gen.tmod 2)) r.bytes) _
    unfold sealS
    split
    · intro k hk
      unfold sealKs at hk
      split at hk
      · exact h.more r k hk
      · rcases List.mem_append.1 hk with hk | hk
        · exact h.more r k hk
        · rw [List.mem_singleton.1 hk]
          exact ⟨r, by simp, hr, hc.1, num, rfl⟩
    · exact h.more r
  · exact h.more r
end Go.Proofs.YtnebjbgcibjohaaGreat.K
end
section
namespace Go.Proofs.YtnebjbgcibjohaaGreat.K
open Go.RowKit Go.Rill Go.Proofs
set_option linter.unusedVariables false
set_option linter.unusedSimpArgs false
theorem AD.tamper_n (A : AD) (i : Int) (l : List UInt8) : (A.tamper i l).2.n = A.n := by
  unfold AD.tamper
  split
  · rfl
  · split <;> rfl
end Go.Proofs.YtnebjbgcibjohaaGreat.K
end
section
namespace Go.Proofs.YtnebjbgcibjohaaGreat.K
open Go.RowKit Go.Rill Go.Proofs
set_option linter.unusedVariables false
set_option linter.unusedSimpArgs false
end Go.Proofs.YtnebjbgcibjohaaGreat.K
end
section
namespace Go.Proofs.YtnebjbgcibjohaaGreat.K
open Go.RowKit Go.Rill Go.Proofs
set_option linter.unusedVariables false
set_option linter.unusedSimpArgs false
abbrev LV : Int := fE 0 * 1048576
section
variable {D1 D2 : DV} {ga ka gb kb : Nat} {A A' : AD} {w0 w w' : World} {f : Nat → Value} {v : Value}
def LQ1 (D1 : DV) (ga ka : Nat) (A : AD) (w0 w : World) : Prop := ∃ D, D.is ga A ∧ Has w [dkE D, cE ga ka LV] ∧ (∀ g, feet [dkE D, cE ga ka LV] g → feet [dkE D1, cE ga ka 0] g ∨ w0.heap.size ≤ g) ∧ Ch (feet [dkE D1, cE ga ka 0]) w0 w
def LP1 (D1 : DV) (ga ka : Nat) (w0 : World) (f : Nat → Value) (w : World) (v : Value) : Prop := ∃ N : NV, v = f N.gn ∧ N.ks = [] ∧ N.ts = [] ∧ Has w [dkE D1, cE ga ka 0, nmE N] ∧ (∀ g, feet [nmE N] g → w0.heap.size ≤ g) ∧ Ext w0 w
def LP2 (D1 : DV) (ga ka : Nat) (A : AD) (w0 : World) (f : Nat → Value) (w : World) (v : Value) : Prop := ∃ (N : NV) (D : DV), v = f N.gn ∧ N.ks = [] ∧ N.ts = [] ∧ D.is ga A ∧ Has w [dkE D, cE ga ka LV, nmE N] ∧ (∀ g, feet [dkE D, cE ga ka LV] g → feet [dkE D1, cE ga ka 0] g ∨ w0.heap.size ≤ g) ∧ (∀ g, feet [nmE N] g → w0.heap.size ≤ g) ∧ Ch (feet [dkE D1, cE ga ka 0]) w0 w
def LQ2 (D1 D2 : DV) (ga ka gb kb : Nat) (A A' : AD) (w0 w : World) : Prop := ∃ Da Db, Da.is ga A ∧ Db.is gb A' ∧ Has w [dkE Db, cE gb kb LV, dkE Da, cE ga ka LV] ∧ (∀ g, feet [dkE Db, cE gb kb LV, dkE Da, cE ga ka LV] g → feet [dkE D1, cE ga ka 0, dkE D2, cE gb kb 0] g ∨ w0.heap.size ≤ g) ∧ Ch (feet [dkE D1, cE ga ka 0, dkE D2, cE gb kb 0]) w0 w
theorem LQ1.ext (h : LQ1 D1 ga ka A w0 w) (hx : Ext w w') : LQ1 D1 ga ka A w0 w' := by
  obtain ⟨D, a, b, c, d⟩ := h
  exact ⟨D, a, b.ext hx, c, d.trans (Ch.of_ext hx)⟩
theorem LP1.ext (h : LP1 D1 ga ka w0 f w v) (hx : Ext w w') : LP1 D1 ga ka w0 f w' v := by
  obtain ⟨N, a, a2, a3, b, c, d⟩ := h
  exact ⟨N, a, a2, a3, b.ext hx, c, d.trans hx⟩
theorem LP2.ext (h : LP2 D1 ga ka A w0 f w v) (hx : Ext w w') : LP2 D1 ga ka A w0 f w' v := by
  obtain ⟨N, D, a, a2, a3, a4, b, c, c2, d⟩ := h
  exact ⟨N, D, a, a2, a3, a4, b.ext hx, c, c2, d.trans (Ch.of_ext hx)⟩
theorem LQ2.ext (h : LQ2 D1 D2 ga ka gb kb A A' w0 w) (hx : Ext w w') : LQ2 D1 D2 ga ka gb kb A A' w0 w' := by
  obtain ⟨Da, Db, a, a2, b, c, d⟩ := h
  exact ⟨Da, Db, a, a2, b.ext hx, c, d.trans (Ch.of_ext hx)⟩
theorem LP1.map {F : Nat → Value} (h : LP1 D1 ga ka w0 f w v) (u : Value) (e : ∀ g, v = f g → u = F g) : LP1 D1 ga ka w0 F w u := by
  obtain ⟨N, a, r⟩ := h
  exact ⟨N, e _ a, r⟩
theorem LP2.map {F : Nat → Value} (h : LP2 D1 ga ka A w0 f w v) (u : Value) (e : ∀ g, v = f g → u = F g) : LP2 D1 ga ka A w0 F w u := by
  obtain ⟨N, D, a, r⟩ := h
  exact ⟨N, D, e _ a, r⟩
theorem lv_pos : ¬ (LV : Int) = 0 := by decide
theorem cell_c {g k : Nat} {v : Int} {L : List Ent} (H : Has w L) (h : cE g k v ∈ L) : w.heap[k]? = some (.cells #[.pointer (some ⟨g, 0, none⟩), .int .i64 v] 77) := H.ents _ h
theorem cell_ne {g k : Nat} {v u : Int} (h1 : w.heap[k]? = some (.cells #[.pointer (some ⟨g, 0, none⟩), .int .i64 v] 77)) (h2 : w.heap[k]? = some (.cells #[.pointer (some ⟨g, 0, none⟩), .int .i64 u] 77)) : v = u := by
  rw [h1] at h2
  simpa using h2
theorem lt_of_has {L : List Ent} (H : Has w L) {g : Nat} (h : feet L g) : g < w.heap.size := by
  obtain ⟨e, he, hg⟩ := h
  exact H.lt e he g hg
theorem lq1_no (H : Has w0 [dkE D1, cE ga ka 0]) (hx : Ext w0 w) : ¬ LQ1 D1 ga ka A w0 w := fun ⟨D, _, b, _⟩ =>
  lv_pos (cell_ne (g := ga) (k := ka) (v := LV) (u := 0) (cell_c b (by simp)) (cell_c (H.ext hx) (by simp)))
theorem lq2_no (H : Has w0 [dkE D1, cE ga ka 0]) (hx : Ext w0 w) : ¬ LQ2 D1 D2 ga ka gb kb A A' w0 w := fun ⟨_, _, _, _, b, _⟩ =>
  lv_pos (cell_ne (g := ga) (k := ka) (v := LV) (u := 0) (cell_c b (by simp)) (cell_c (H.ext hx) (by simp)))
/-- The other disk, the other counter, are as they were. -/
theorem other_held (H : Has w0 ([dkE D1, cE ga ka 0] ++ [dkE D2, cE gb kb 0])) (hc : Ch (feet [dkE D1, cE ga ka 0]) w0 w) : Has w [dkE D2, cE gb kb 0] := by
  have hp := (List.pairwise_append.1 H.apart).2.2
  exact (H.sub (List.sublist_append_right _ _)).held hc.held fun g ⟨e, he, hg⟩ ⟨e', he', hg'⟩ => hp e' he' e he g hg' hg
theorem lq12 (H : Has w0 ([dkE D1, cE ga ka 0] ++ [dkE D2, cE gb kb 0])) (h : LQ1 D1 ga ka A w0 w) : ¬ LQ2 D1 D2 ga ka gb kb A A' w0 w := fun ⟨_, _, _, _, b, _⟩ => by
  obtain ⟨D, _, _, _, hc⟩ := h
  exact lv_pos (cell_ne (g := gb) (k := kb) (v := LV) (u := 0) (cell_c b (by simp)) (cell_c (other_held H hc) (by simp)))
/-- New, ahead of the first. -/
theorem new1 {S : World → Prop} (H : Has w0 [dkE D1, cE ga ka 0]) (hx : Ext w0 w) : ExtCall Tryz.prog 10 #[] w (lateSpec S (LP1 D1 ga ka w0 fun g => .pointer (some ⟨g, 0, none⟩))) :=
  (nNew_x w).mono fun en w' ⟨N, h1, h2, h3, h4, h5⟩ => by
    have hx2 : Ext w w' := (h2.mono fun g _ h => (feet_nil h).elim : Ch none' w w').ext
    have hN : ∀ g, feet [nmE N] g → w.heap.size ≤ g := fun g hg => (h4 g hg).elim (fun h => (feet_nil h).elim) id
    refine ⟨_, h1, hx2, .inr ⟨N, rfl, h5.1, h5.2, ((H.ext hx).ext hx2).append h3 fun g hg hg' => ?_, fun g hg => Nat.le_trans hx.size (hN g hg), hx.trans hx2⟩⟩
    have := lt_of_has (H.ext hx) hg
    have := hN g hg'
    omega
/-- .. between the two. -/
theorem new2 {S : World → Prop} (hq : LQ1 D1 ga ka A w0 w) : ExtCall Tryz.prog 10 #[] w (lateSpec S (LP2 D1 ga ka A w0 fun g => .pointer (some ⟨g, 0, none⟩))) :=
  (nNew_x w).mono fun en w' ⟨N, h1, h2, h3, h4, h5⟩ => by
    obtain ⟨D, a, b, c, d⟩ := hq
    have hx2 : Ext w w' := (h2.mono fun g _ h => (feet_nil h).elim : Ch none' w w').ext
    have hN : ∀ g, feet [nmE N] g → w.heap.size ≤ g := fun g hg => (h4 g hg).elim (fun h => (feet_nil h).elim) id
    refine ⟨_, h1, hx2, .inr ⟨N, D, rfl, h5.1, h5.2, a, (b.ext hx2).append h3 fun g hg hg' => ?_, c, fun g hg => Nat.le_trans d.held.size (hN g hg), d.trans (Ch.of_ext hx2)⟩⟩
    have := lt_of_has b hg
    have := hN g hg'
    omega
variable {s l b : Int}
/-- The first Format. -/
theorem fmt1c {B : AD} (hD : D1.is ga B) (h0 : B.off = false) (ha : B.armed = false) (hr : refZ B.n 0 s l b = 0) (h : LP1 D1 ga ka w0 f w v) : ∃ a, v = f a ∧ Calls Tryz.prog 20 #[.pointer (some ⟨ga, 0, none⟩), .pointer (some ⟨ka, 0, none⟩), .iface 31 (.pointer (some ⟨a, 0, none⟩)), .agg #[.int .i64 s, .int .i64 l, .int .i64 b]] w fun e w' => ∃ u, e = .returned u ∧ LQ1 D1 ga ka (fmtA B (fB0 0 s l b []) (fB2 0 s l b [] [])) w0 w' ∧ u = .int .i64 0 := by
  obtain ⟨N, rfl, n1, n2, H, fN, hx⟩ := h
  refine ⟨N.gn, rfl, ?_⟩
  have H2 : Has w [dkE D1, nmE N, cE ga ka 0] := ((H.mem.pull 2 rfl).pull 1 rfl).has
  have c := Format_y (s := s) (l := l) (b := b) H2 hD (by rw [n1]; decide) (by rw [n2]; decide) (by decide) (by decide) rfl
  rw [n1, n2, fmt_ok h0 ha (by decide) hr] at c
  refine c.mono fun en w' ⟨x, h1, h2, h3, h4, h5⟩ => ⟨_, h1, ⟨x.1, h5.1, h3.sub (.cons_cons _ (.cons _ (.refl _))), fun g hg => ?_, ?_⟩, rfl⟩
  · have hs : feet [dkE x.1, nmE x.2, cE ga ka LV] g := by
      obtain ⟨e, he, hg⟩ := hg
      exact ⟨e, (List.Sublist.cons_cons _ (.cons _ (.refl _)) : List.Sublist [dkE x.1, cE ga ka LV] [dkE x.1, nmE x.2, cE ga ka LV]).mem he, hg⟩
    rcases h4 g hs with ⟨e, he, hq⟩ | h
    · simp only [List.mem_cons, List.not_mem_nil, or_false] at he
      rcases he with rfl | rfl | rfl
      · exact .inl ⟨_, by simp, hq⟩
      · exact .inr (fN g ⟨_, by simp, hq⟩)
      · exact .inl ⟨_, by simp, hq⟩
    · exact .inr (Nat.le_trans hx.size h)
  · refine ((Ch.of_ext hx).trans (h2.mono fun g hg hq => ?_ : Ch (fun g => feet [dkE D1, cE ga ka 0] g ∨ w0.heap.size ≤ g) w w')).mono fun g hg hq => hq.elim id fun c => absurd hg (Nat.not_lt_of_le c)
    obtain ⟨e, he, hq⟩ := hq
    simp only [List.mem_cons, List.not_mem_nil, or_false] at he
    rcases he with rfl | rfl | rfl
    · exact .inl ⟨_, by simp, hq⟩
    · exact .inr (fN g ⟨_, by simp, hq⟩)
    · exact .inl ⟨_, by simp, hq⟩
/-- The second. -/
theorem fmt2c {B : AD} (H0 : Has w0 ([dkE D1, cE ga ka 0] ++ [dkE D2, cE gb kb 0])) (hD : D2.is gb B) (h0 : B.off = false) (ha : B.armed = false) (hr : refZ B.n 0 s l b = 0) (h : LP2 D1 ga ka A w0 f w v) : ∃ a, v = f a ∧ Calls Tryz.prog 20 #[.pointer (some ⟨gb, 0, none⟩), .pointer (some ⟨kb, 0, none⟩), .iface 31 (.pointer (some ⟨a, 0, none⟩)), .agg #[.int .i64 s, .int .i64 l, .int .i64 b]] w fun e w' => ∃ u, e = .returned u ∧ LQ2 D1 D2 ga ka gb kb A (fmtA B (fB0 0 s l b []) (fB2 0 s l b [] [])) w0 w' ∧ u = .int .i64 0 := by
  obtain ⟨N, D, rfl, n1, n2, hA, H, fD, fN, hc⟩ := h
  refine ⟨N.gn, rfl, ?_⟩
  have HO := other_held H0 hc
  have hp := (List.pairwise_append.1 H0.apart).2.2
  have old2 : ∀ g, feet [dkE D2, cE gb kb 0] g → g < w0.heap.size := fun g hg => lt_of_has (H0.sub (List.sublist_append_right _ _)) hg
  have H1 : Has w ([dkE D, cE ga ka LV, nmE N] ++ [dkE D2, cE gb kb 0]) := H.append HO fun g hg hg' => by
    have hlt := old2 g hg'
    have key : feet [dkE D, cE ga ka LV] g → False := fun q => by
      rcases fD g q with ⟨e, he, hq⟩ | h
      · obtain ⟨e', he', hq'⟩ := hg'
        exact hp e he e' he' g hq hq'
      · omega
    obtain ⟨e, he, hq⟩ := hg
    simp only [List.mem_cons, List.not_mem_nil, or_false] at he
    rcases he with rfl | rfl | rfl
    · exact key ⟨_, by simp, hq⟩
    · exact key ⟨_, by simp, hq⟩
    · have := fN g ⟨_, by simp, hq⟩
      omega
  have M1 : Mem w _ ([dkE D2, nmE N, cE gb kb 0] ++ [dkE D, cE ga ka LV]) _ w := ((H1.mem.pull 4 rfl).pull 3 rfl).pull 4 rfl
  have H2 : Has w [dkE D2, nmE N, cE gb kb 0] := M1.has.sub (List.sublist_append_left _ _)
  have c := Format_y (s := s) (l := l) (b := b) H2 hD (by rw [n1]; decide) (by rw [n2]; decide) (by decide) (by decide) rfl
  rw [n1, n2, fmt_ok h0 ha (by decide) hr] at c
  refine c.mono fun en w' ⟨x, h1, h2, h3, h4, h5⟩ => ⟨_, h1, ⟨D, x.1, hA, h5.1, ((M1.call h2 h3 h4).has).sub (.cons_cons _ (.cons _ (.refl _))), fun g hg => ?_, ?_⟩, rfl⟩
  · have hs : feet [dkE x.1, nmE x.2, cE gb kb LV] g ∨ feet [dkE D, cE ga ka LV] g := by
      obtain ⟨e, he, hg⟩ := hg
      simp only [List.mem_cons, List.not_mem_nil, or_false] at he
      rcases he with rfl | rfl | rfl | rfl
      · exact .inl ⟨_, by simp, hg⟩
      · exact .inl ⟨_, by simp, hg⟩
      · exact .inr ⟨_, by simp, hg⟩
      · exact .inr ⟨_, by simp, hg⟩
    rcases hs with hs | hs
    · rcases h4 g hs with ⟨e, he, hq⟩ | h
      · simp only [List.mem_cons, List.not_mem_nil, or_false] at he
        rcases he with rfl | rfl | rfl
        · exact .inl ⟨_, by simp, hq⟩
        · exact .inr (fN g ⟨_, by simp, hq⟩)
        · exact .inl ⟨_, by simp, hq⟩
      · exact .inr (Nat.le_trans hc.held.size h)
    · exact (fD g hs).imp (fun ⟨e, he, hq⟩ => ⟨e, by simp only [List.mem_cons, List.not_mem_nil, or_false] at he ⊢; rcases he with h | h <;> simp [h], hq⟩) id
  · refine ((hc.mono fun g hg hq => .inl ?_ : Ch (fun g => feet [dkE D1, cE ga ka 0, dkE D2, cE gb kb 0] g ∨ w0.heap.size ≤ g) w0 w).trans (h2.mono fun g hg hq => ?_)).mono fun g hg hq => hq.elim id fun c => absurd hg (Nat.not_lt_of_le c)
    · obtain ⟨e, he, hq⟩ := hq
      exact ⟨e, by simp only [List.mem_cons, List.not_mem_nil, or_false] at he ⊢; rcases he with h | h <;> simp [h], hq⟩
    · obtain ⟨e, he, hq⟩ := hq
      simp only [List.mem_cons, List.not_mem_nil, or_false] at he
      rcases he with rfl | rfl | rfl
      · exact .inl ⟨_, by simp, hq⟩
      · exact .inr (fN g ⟨_, by simp, hq⟩)
      · exact .inl ⟨_, by simp, hq⟩
end
end Go.Proofs.YtnebjbgcibjohaaGreat.K
end
section
namespace Go.Rill.T
open Go.Proofs
theorem fn12 : goFn Tryz.prog 12 = true := by kernel_rfl
theorem fn8 : goFn Tryz.prog 8 = true := by kernel_rfl
end Go.Rill.T
end
section
namespace Go.Proofs.YtnebjbgcibjohaaGreat.K
open Go.RowKit Go.Rill Go.Proofs
set_option linter.unusedVariables false
set_option linter.unusedSimpArgs false
theorem bneF {a b : Int} (h : a = b) : (a != b) = false := by simp [h]
theorem bneT {a b : Int} (h : ¬ a = b) : (a != b) = true := by simp [h]
end Go.Proofs.YtnebjbgcibjohaaGreat.K
end
section
namespace Go.Proofs.YtnebjbgcibjohaaGreat.K
open Go.RowKit Go.Rill Go.Proofs
set_option linter.unusedVariables false
set_option linter.unusedSimpArgs false
theorem leaves_ref {n : Nat} {s l b : Int} (hn : 3 + s * l = (n : Int)) (hg : GMay s l b) : refZ n 0 s l b = 0 := by
  unfold refZ
  rw [if_neg (fun c => c hg), if_neg (by omega), if_neg]
  unfold epochZ
  rintro (c | c) <;> omega
theorem tam_of {n i : Nat} {b : List UInt8} (hi : i < n) (hb : b.length ≤ 1024) : ((AD.new n).tamper (i : Int) b).2.off = false ∧ ((AD.new n).tamper (i : Int) b).2.armed = false ∧ ((AD.new n).tamper (i : Int) b).2.last.length = n ∧ ∀ j, j < n → ((AD.new n).tamper (i : Int) b).2.read j = if j = i then b else [] := by
  have e : (AD.new n).tamper (i : Int) b = (0, { AD.new n with last := (AD.new n).last.set i b, cache := [] }) := by
    unfold AD.tamper
    have ht : (AD.new n).there (i : Int) := ⟨Int.natCast_nonneg _, by show (i : Int) < (n : Int); omega⟩
    rw [if_neg (fun c => c ht), if_neg (by omega)]
    simp [AD.new]
  rw [e]
  refine ⟨rfl, rfl, by simp [AD.new], fun j hj => ?_⟩
  show (((List.replicate n ([] : List UInt8)).set i b)[j]?).getD [] = _
  rw [List.getElem?_set]
  by_cases c : i = j
  · subst c; simp [hi]
  · rw [if_neg c, if_neg (fun d => c d.symm)]; simp [hj]
set_option maxRecDepth 100000 in
theorem FormatLeaves_no {gs gl gb kk : Int} {bv : Value} {lb : List UInt8} {w0 : World} (hb : Bytes w0 bv lb) (hav : ∀ g, bv.ownBlock = some g → ¬ w0.heap.size ≤ g) (hgm : ¬ GMay gs gl gb) : Gives Tryz.prog 4 [.agg #[.int .i64 gs, .int .i64 gl, .int .i64 gb], .int .i64 kk, bv] w0 (.bool true) := by
  refine enter (n := 136) Tryz.func4 rfl rfl rfl ?_
  intro fr E
  have M : Mem w0 (feet []) [] (fun w' => Bytes w' bv lb) w0 := Mem.begin (Has.nil w0) (fun w' h => hb.held0 h)
  refine code_region ?_
  refine snew (ob := .cells (#[.int .i64 gs, .int .i64 gl, .int .i64 gb]) 35) (fun g => .pointer (some ⟨g, 0, none⟩)) E M rfl rfl rfl rfl rfl (run_boxN (cs := (#[.int .i64 gs, .int .i64 gl, .int .i64 gb])) rfl rfl) fun g0 fr w M E => ?_
  refine sw E (run_assignC rfl) fun fr E => ?_
  refine seq_nil' ?_
  refine wp_seq ?_
  refine code_region ?_
  refine sw (v := .agg #[.int .i64 gs, .int .i64 gl, .int .i64 gb]) E (run_loadAll rfl rfl T.agg35 (M.row (i := 0) rfl) rfl) fun fr E => ?_
  refine sgive E M rfl rfl rfl rfl rfl (run_call rfl rfl T.fn16) (Check_no hgm) fun fr w M E => ?_
  refine sw (v := .bool true) E (tst rfl (rfl)) fun fr E => ?_
  refine mv E fun fr E => ?_
  refine sno E rfl rfl rfl rfl fun fr E => ?_
  refine sno E rfl rfl rfl rfl fun fr E => ?_
  refine sno E rfl rfl rfl rfl fun fr E => ?_
  refine sw (v := .bool _) E (rfl) fun fr E => ?_
  refine seq_nil' ?_
  refine cond_true E rfl (rfl) ?_
  refine code_region ?_
  refine sgive E M rfl rfl rfl rfl rfl (run_call rfl rfl T.fn8) (worksF_c _) fun fr w M E => ?_
  refine ma E fun fr E => ?_
  refine seq_nil' ?_
  refine wp_ret ?_
  refine then_ret ?_
  refine ret1 E rfl rfl ?_
  exact given M

set_option maxRecDepth 100000 in
theorem FormatLeaves_long {gs gl gb kk : Int} {bv : Value} {lb : List UInt8} {w0 : World} (hb : Bytes w0 bv lb) (hav : ∀ g, bv.ownBlock = some g → ¬ w0.heap.size ≤ g) (hgm : GMay gs gl gb) (hl : 1024 < lb.length) : Gives Tryz.prog 4 [.agg #[.int .i64 gs, .int .i64 gl, .int .i64 gb], .int .i64 kk, bv] w0 (.bool true) := by
  refine enter (n := 136) Tryz.func4 rfl rfl rfl ?_
  intro fr E
  have M : Mem w0 (feet []) [] (fun w' => Bytes w' bv lb) w0 := Mem.begin (Has.nil w0) (fun w' h => hb.held0 h)
  refine code_region ?_
  refine snew (ob := .cells (#[.int .i64 gs, .int .i64 gl, .int .i64 gb]) 35) (fun g => .pointer (some ⟨g, 0, none⟩)) E M rfl rfl rfl rfl rfl (run_boxN (cs := (#[.int .i64 gs, .int .i64 gl, .int .i64 gb])) rfl rfl) fun g0 fr w M E => ?_
  refine sw E (run_assignC rfl) fun fr E => ?_
  refine seq_nil' ?_
  refine wp_seq ?_
  refine code_region ?_
  refine sw (v := .agg #[.int .i64 gs, .int .i64 gl, .int .i64 gb]) E (run_loadAll rfl rfl T.agg35 (M.row (i := 0) rfl) rfl) fun fr E => ?_
  refine sgive E M rfl rfl rfl rfl rfl (run_call rfl rfl T.fn16) (Check_ok hgm) fun fr w M E => ?_
  refine sw (v := .bool false) E (tst rfl (rfl)) fun fr E => ?_
  refine mv E fun fr E => ?_
  refine mv E fun fr E => ?_
  refine sw (v := .int .i64 _) E (run_lenR rfl rfl rfl rfl T.slice36 (M.fact)) fun fr E => ?_
  refine sw (v := .bool true) E (tst rfl (decide_eq_true (by omega))) fun fr E => ?_
  refine sw (v := .bool _) E (rfl) fun fr E => ?_
  refine seq_nil' ?_
  refine cond_true E rfl (rfl) ?_
  refine code_region ?_
  refine sgive E M rfl rfl rfl rfl rfl (run_call rfl rfl T.fn8) (worksF_c _) fun fr w M E => ?_
  refine ma E fun fr E => ?_
  refine seq_nil' ?_
  refine wp_ret ?_
  refine then_ret ?_
  refine ret1 E rfl rfl ?_
  exact given M

set_option maxHeartbeats 2000000 in
set_option maxRecDepth 100000 in
theorem FormatLeaves_in {gs gl gb kk : Int} {bv : Value} {lb : List UInt8} {w0 : World} (hb : Bytes w0 bv lb) (hav : ∀ g, bv.ownBlock = some g → ¬ w0.heap.size ≤ g) (hgm : GMay gs gl gb) (hl : lb.length ≤ 1024) {n : Nat} (hn : 3 + gs * gl = (n : Int)) (hn1 : 45 ≤ n) (hn2 : n ≤ 4096) : Gives Tryz.prog 4 [.agg #[.int .i64 gs, .int .i64 gl, .int .i64 gb], .int .i64 kk, bv] w0 (.bool true) := by
  refine enter (n := 136) Tryz.func4 rfl rfl rfl ?_
  intro fr E
  have M : Mem w0 (feet []) [] (fun w' => Bytes w' bv lb) w0 := Mem.begin (Has.nil w0) (fun w' h => hb.held0 h)
  refine code_region ?_
  refine snew (ob := .cells (#[.int .i64 gs, .int .i64 gl, .int .i64 gb]) 35) (fun g => .pointer (some ⟨g, 0, none⟩)) E M rfl rfl rfl rfl rfl (run_boxN (cs := (#[.int .i64 gs, .int .i64 gl, .int .i64 gb])) rfl rfl) fun g0 fr w M E => ?_
  refine sw E (run_assignC rfl) fun fr E => ?_
  refine seq_nil' ?_
  refine wp_seq ?_
  refine code_region ?_
  refine sw (v := .agg #[.int .i64 gs, .int .i64 gl, .int .i64 gb]) E (run_loadAll rfl rfl T.agg35 (M.row (i := 0) rfl) rfl) fun fr E => ?_
  refine sgive E M rfl rfl rfl rfl rfl (run_call rfl rfl T.fn16) (Check_ok hgm) fun fr w M E => ?_
  refine sw (v := .bool false) E (tst rfl (rfl)) fun fr E => ?_
  refine mv E fun fr E => ?_
  refine mv E fun fr E => ?_
  refine sw (v := .int .i64 _) E (run_lenR rfl rfl rfl rfl T.slice36 (M.fact)) fun fr E => ?_
  refine sw (v := .bool false) E (tst rfl (decide_eq_false (by omega))) fun fr E => ?_
  refine sw (v := .bool _) E (rfl) fun fr E => ?_
  refine seq_nil' ?_
  refine cond_false E rfl (rfl) ?_
  refine wp_skip ?_
  refine then_normal ?_
  refine code_region ?_
  refine sw (v := .agg #[.int .i64 gs, .int .i64 gl, .int .i64 gb]) E (run_loadAll rfl rfl T.agg35 (M.row (i := 0) rfl) rfl) fun fr E => ?_
  refine sgive E M rfl rfl rfl rfl rfl (run_call rfl rfl T.fn17) (Sectors_ok hgm) fun fr w M E => ?_
  rw [hn] at E
  refine scall E M rfl rfl rfl rfl rfl (run_call rfl rfl T.fn6) (dNew_ok (k := n) (by omega) (by omega)) rfl ?_
  rintro D1 fr w hD1 M E
  refine mv E fun fr E => ?_
  refine sw E (run_extract rfl rfl rfl) fun fr E => ?_
  refine sw E (run_extract rfl rfl rfl) fun fr E => ?_
  refine ma E fun fr E => ?_
  refine ma E fun fr E => ?_
  refine seq_nil' ?_
  refine code_region ?_
  refine sw (v := .agg #[.int .i64 gs, .int .i64 gl, .int .i64 gb]) E (run_loadAll rfl rfl T.agg35 (M.row (i := 1) rfl) rfl) fun fr E => ?_
  refine sgive E M rfl rfl rfl rfl rfl (run_call rfl rfl T.fn17) (Sectors_ok hgm) fun fr w M E => ?_
  rw [hn] at E
  refine scall E M rfl rfl rfl rfl rfl (run_call rfl rfl T.fn6) (dNew_ok (k := n) (by omega) (by omega)) rfl ?_
  rintro D2 fr w hD2 M E
  refine mv E fun fr E => ?_
  refine sw E (run_extract rfl rfl rfl) fun fr E => ?_
  refine sw E (run_extract rfl rfl rfl) fun fr E => ?_
  refine ma E fun fr E => ?_
  refine ma E fun fr E => ?_
  refine seq_nil' ?_
  refine wp_seq ?_
  refine code_region ?_
  refine mv E fun fr E => ?_
  refine sw (v := .bool false) E (tst rfl (rfl)) fun fr E => ?_
  refine mv E fun fr E => ?_
  refine mv E fun fr E => ?_
  refine sw (v := .bool false) E (tst rfl (rfl)) fun fr E => ?_
  refine sw (v := .bool _) E (rfl) fun fr E => ?_
  refine seq_nil' ?_
  refine cond_false E rfl (rfl) ?_
  refine wp_skip ?_
  refine then_normal ?_
  refine code_region ?_
  refine mv E fun fr E => ?_
  refine sgive E M rfl rfl rfl rfl rfl (run_call rfl rfl T.fn18) (Pick_x (k := kk) (m := 39) (by decide) (by decide)) fun fr w M E => ?_
  refine sw (v := .int _ (((2 + pickN kk 39 : Nat) : Int))) E (num rfl ((i64_id (by have := pickN_lt (k := kk) (m := 39) (by decide); omega) (by have := pickN_lt (k := kk) (m := 39) (by decide); omega)).trans (by omega))) fun fr E => ?_
  refine ma E fun fr E => ?_
  refine seq_nil' ?_
  refine code_cut (fun fr w => ∃ (D1 D2 : DV) (ga gb' at' : Nat), D1.is ga (AD.new n) ∧ D2.is gb' (AD.new n) ∧ (at' = 1 ∨ 3 ≤ at') ∧ at' ≤ 40 ∧ Env [(9, .pointer (some ⟨gb', 0, none⟩)), (7, .pointer (some ⟨ga, 0, none⟩)), (3, .pointer (some ⟨g0, 0, none⟩)), (2, bv), (1, .int .i64 (at' : Int))] 136 fr ∧ Mem w0 (feet []) [.blk g0 (.cells #[.int .i64 gs, .int .i64 gl, .int .i64 gb] 35), dkE D1, dkE D2] (fun w' => Bytes w' bv lb) w) ?_ ?_
  · by_cases hp0 : pickN kk 39 = 0
    · refine code_region ?_
      refine mv E fun fr E => ?_
      refine sw (v := .bool true) E (tst rfl (decide_eq_true (by omega))) fun fr E => ?_
      refine seq_nil' ?_
      refine cond_true E rfl (rfl) ?_
      refine code_last ?_
      refine sw E (run_assignC rfl) fun fr E => ?_
      refine seq_nil ?_
      refine then_any ?_
      have M := M.pull 1 rfl
      have M := M.pull 2 rfl
      exact ⟨D1, D2, _, _, 1, hD1, hD2, .inl rfl, by decide, (((((Env.nil E).add E (t := 1) rfl).add E (t := 2) rfl).add E (t := 3) rfl).add E (t := 7) rfl).add E (t := 9) rfl, Mem.take (L := [.blk g0 (.cells #[.int .i64 gs, .int .i64 gl, .int .i64 gb] 35), dkE D1, dkE D2]) M⟩
    · refine code_region ?_
      refine mv E fun fr E => ?_
      refine sw (v := .bool false) E (tst rfl (decide_eq_false (by omega))) fun fr E => ?_
      refine seq_nil' ?_
      refine cond_false E rfl (rfl) ?_
      refine wp_skip ?_
      refine then_any ?_
      have M := M.pull 1 rfl
      have M := M.pull 2 rfl
      exact ⟨D1, D2, _, _, 2 + pickN kk 39, hD1, hD2, .inr (by omega), by have := pickN_lt (k := kk) (m := 39) (by decide); omega, (((((Env.nil E).add E (t := 1) rfl).add E (t := 2) rfl).add E (t := 3) rfl).add E (t := 7) rfl).add E (t := 9) rfl, Mem.take (L := [.blk g0 (.cells #[.int .i64 gs, .int .i64 gl, .int .i64 gb] 35), dkE D1, dkE D2]) M⟩
  · rintro fr w ⟨D1, D2, ga, gb', at', hD1, hD2, hat, hat2, E, M⟩
    have hin : at' < n := by omega
    have tm := tam_of hin hl
    have hr1 : refZ (AD.new n).n 0 gs gl gb = 0 := leaves_ref hn hgm
    have hr2 : refZ (((AD.new n).tamper (at' : Int) lb).2).n 0 gs gl gb = 0 := by rw [AD.tamper_n]; exact hr1
    have hw2 : (fmtA (AD.new n) (fB0 0 gs gl gb []) (fB2 0 gs gl gb [] [])).writes = 2 := (fmtA_eq (A := AD.new n) rfl rfl).2.2.2
    refine code_region ?_
    refine mv E fun fr E => ?_
    refine mv E fun fr E => ?_
    refine mv E fun fr E => ?_
    have M := M.pull 2 rfl
    refine scallI ([dkE D2]) E M rfl rfl rfl rfl rfl (run_call rfl rfl T.fn19) rfl (fun H => Tamper_b (i := (at' : Int)) H hD2 (.inl ⟨M.fact, fun g hg hc => hav g hg ((M.own (dkE D2) (List.mem_cons_self ..) g hc).resolve_right feet_nil)⟩)) ?_
    rintro D2 fr w hD2 M E
    refine seq_nil' ?_
    refine code_region ?_
    refine mv E fun fr E => ?_
    refine scall E M rfl rfl rfl rfl rfl (run_call rfl rfl T.fn9) (cNew_x (g := ga)) rfl ?_
    rintro ka fr w - M E
    refine ma E fun fr E => ?_
    refine seq_nil' ?_
    refine code_region ?_
    refine mv E fun fr E => ?_
    refine scall E M rfl rfl rfl rfl rfl (run_call rfl rfl T.fn9) (cNew_x (g := gb')) rfl ?_
    rintro kb fr w - M E
    refine ma E fun fr E => ?_
    refine seq_nil' ?_
    refine wp_seq ?_
    have M := M.pull 3 rfl
    have M := M.pull 1 rfl
    have M := M.pull 3 rfl
    have M := M.pull 3 rfl
    have M := M.pull 4 rfl
    have M : Mem _ _ (([dkE D1, cE ga ka 0] ++ [dkE D2, cE gb' kb 0]) ++ _) _ w := M
    have H0 : Has w.drew ([dkE D1, cE ga ka 0] ++ [dkE D2, cE gb' kb 0]) := (M.has.sub (List.sublist_append_left _ _)).ext (Ext.drew w)
    have HA : Has w.drew [dkE D1, cE ga ka 0] := H0.sub (List.sublist_append_left _ _)
    have k1 : ∀ v, (LQ1 D1 ga ka (fmtA (AD.new n) (fB0 0 gs gl gb []) (fB2 0 gs gl gb [] [])) w.drew) v → Ch (feet ([dkE D1, cE ga ka 0] ++ [dkE D2, cE gb' kb 0])) w.drew v := fun v ⟨_, _, _, _, hc⟩ => hc.mono fun g _ ⟨e, he, hg⟩ => ⟨e, List.mem_append_left _ he, hg⟩
    have k2 : ∀ v, (LQ2 D1 D2 ga ka gb' kb (fmtA (AD.new n) (fB0 0 gs gl gb []) (fB2 0 gs gl gb [] [])) (fmtA ((AD.new n).tamper (at' : Int) lb).2 (fB0 0 gs gl gb []) (fB2 0 gs gl gb [] [])) w.drew) v → Ch (feet ([dkE D1, cE ga ka 0] ++ [dkE D2, cE gb' kb 0])) w.drew v := fun v ⟨_, _, _, _, _, _, hc⟩ => hc
    have noS : ∀ v, Ext w.drew v → ¬ ((LQ1 D1 ga ka (fmtA (AD.new n) (fB0 0 gs gl gb []) (fB2 0 gs gl gb [] [])) w.drew) v ∨ (LQ2 D1 D2 ga ka gb' kb (fmtA (AD.new n) (fB0 0 gs gl gb []) (fB2 0 gs gl gb [] [])) (fmtA ((AD.new n).tamper (at' : Int) lb).2 (fB0 0 gs gl gb []) (fB2 0 gs gl gb [] [])) w.drew) v) := fun v hx c => c.elim (lq1_no HA hx) (lq2_no HA hx)
    refine wp_seq (free_regR (B := T.tab4_13_b) (Vs := (.exact (.pointer (some ⟨ga, 0, none⟩)) :: .exact (.pointer (some ⟨ka, 0, none⟩)) :: lateSpec (fun w' => (LQ1 D1 ga ka (fmtA (AD.new n) (fB0 0 gs gl gb []) (fB2 0 gs gl gb [] [])) w.drew) w' ∨ (LQ2 D1 D2 ga ka gb' kb (fmtA (AD.new n) (fB0 0 gs gl gb []) (fB2 0 gs gl gb [] [])) (fmtA ((AD.new n).tamper (at' : Int) lb).2 (fB0 0 gs gl gb []) (fB2 0 gs gl gb [] [])) w.drew) w') (LP1 D1 ga ka w.drew (fun g => .pointer (some ⟨g, 0, none⟩))) :: lateSpec (fun w' => (LQ1 D1 ga ka (fmtA (AD.new n) (fB0 0 gs gl gb []) (fB2 0 gs gl gb [] [])) w.drew) w' ∨ (LQ2 D1 D2 ga ka gb' kb (fmtA (AD.new n) (fB0 0 gs gl gb []) (fB2 0 gs gl gb [] [])) (fmtA ((AD.new n).tamper (at' : Int) lb).2 (fB0 0 gs gl gb []) (fB2 0 gs gl gb [] [])) w.drew) w') (LP1 D1 ga ka w.drew (fun g => .iface 31 (.pointer (some ⟨g, 0, none⟩)))) :: .exact (.agg #[.int .i64 gs, .int .i64 gl, .int .i64 gb]) :: .exact (.int .i64 0) :: .exact (.bool false) :: .exact (.bool false) :: .exact (.pointer (some ⟨gb', 0, none⟩)) :: .exact (.pointer (some ⟨kb, 0, none⟩)) :: lateSpec (LQ2 D1 D2 ga ka gb' kb (fmtA (AD.new n) (fB0 0 gs gl gb []) (fB2 0 gs gl gb [] [])) (fmtA ((AD.new n).tamper (at' : Int) lb).2 (fB0 0 gs gl gb []) (fB2 0 gs gl gb [] [])) w.drew) (LP2 D1 ga ka (fmtA (AD.new n) (fB0 0 gs gl gb []) (fB2 0 gs gl gb [] [])) w.drew (fun g => .pointer (some ⟨g, 0, none⟩))) :: lateSpec (LQ2 D1 D2 ga ka gb' kb (fmtA (AD.new n) (fB0 0 gs gl gb []) (fB2 0 gs gl gb [] [])) (fmtA ((AD.new n).tamper (at' : Int) lb).2 (fB0 0 gs gl gb []) (fB2 0 gs gl gb [] [])) w.drew) (LP2 D1 ga ka (fmtA (AD.new n) (fB0 0 gs gl gb []) (fB2 0 gs gl gb [] [])) w.drew (fun g => .iface 31 (.pointer (some ⟨g, 0, none⟩)))) :: .exact (.agg #[.int .i64 gs, .int .i64 gl, .int .i64 gb]) :: .exact (.int .i64 0) :: .exact (.bool false) :: .exact (.bool false) :: .exact (.bool false) :: .exact (.pointer (some ⟨ga, 0, none⟩)) :: .exact (.int .i64 (fmtA (AD.new n) (fB0 0 gs gl gb []) (fB2 0 gs gl gb [] [])).writes) :: .exact (.bool false) :: .exact (.bool false) :: [])) (chainRoad 21 5 13 (LQ1 D1 ga ka (fmtA (AD.new n) (fB0 0 gs gl gb []) (fB2 0 gs gl gb [] [])) w.drew) (LQ2 D1 D2 ga ka gb' kb (fmtA (AD.new n) (fB0 0 gs gl gb []) (fB2 0 gs gl gb [] [])) (fmtA ((AD.new n).tamper (at' : Int) lb).2 (fB0 0 gs gl gb []) (fB2 0 gs gl gb [] [])) w.drew) w.drew) T.tab4_13_i E T.mixed T.tab4_13 rfl ?_ ⟨fc_val rfl rfl rfl rfl rfl M k1 k2 (fun x w' M' hp hk => ⟨_, rfl, rfl, rfl, run_move rfl rfl, rfl⟩),
      fc_val rfl rfl rfl rfl rfl M k1 k2 (fun x w' M' hp hk => ⟨_, rfl, rfl, rfl, run_move rfl rfl, rfl⟩),
      fc_ext rfl rfl rfl rfl rfl M k1 k2 (fun x w' M' hp hk => ⟨_, _, rfl, rfl, rfl, run_call rfl rfl T.fn10, new1 HA (hp.1 (by decide))⟩),
      fc_val rfl rfl rfl rfl rfl M k1 k2 (fun x w' M' hp hk => ⟨.iface 31 (x 2), rfl, rfl, rfl, rfl, (hk 2 rfl).imp id fun h => h.map _ (fun g e => congrArg (Value.iface 31) e)⟩),
      fc_val rfl rfl rfl rfl rfl M k1 k2 (fun x w' M' hp hk => ⟨_, rfl, rfl, rfl, run_loadAll rfl rfl T.agg35 (M'.row (i := 0) rfl) rfl, rfl⟩),
      fc_call rfl rfl rfl M k1 k2 (fun x w' M' hp hk => by
        have hx := hp.1 (by decide)
        rcases (hk 3 rfl : (fun w' => (LQ1 D1 ga ka (fmtA (AD.new n) (fB0 0 gs gl gb []) (fB2 0 gs gl gb [] [])) w.drew) w' ∨ (LQ2 D1 D2 ga ka gb' kb (fmtA (AD.new n) (fB0 0 gs gl gb []) (fB2 0 gs gl gb [] [])) (fmtA ((AD.new n).tamper (at' : Int) lb).2 (fB0 0 gs gl gb []) (fB2 0 gs gl gb [] [])) w.drew) w') w' ∨ LP1 D1 ga ka w.drew (fun g => .iface 31 (.pointer (some ⟨g, 0, none⟩))) w' (x 3)) with h | h
        · exact absurd h (noS _ hx)
        · obtain ⟨a, ha, hc⟩ := fmt1c (s := gs) (l := gl) (b := gb) hD1 rfl rfl hr1 h
          refine ⟨_, _, rfl, rfl, rfl, run_call rfl rfl T.fn20, ?_⟩
          show Calls _ _ #[.pointer (some ⟨ga, 0, none⟩), .pointer (some ⟨ka, 0, none⟩), x 3, .agg #[.int .i64 gs, .int .i64 gl, .int .i64 gb]] _ _
          rw [ha]
          exact hc.mono fun e w'' ⟨u, h1, h2, h3⟩ => ⟨u, h1, ⟨fun _ => h2, fun c => absurd c (by decide), fun c => absurd rfl c⟩, h3⟩),
      fc_val rfl rfl rfl rfl rfl M k1 k2 (fun x w' M' hp hk => ⟨_, rfl, rfl, rfl, tst rfl rfl, rfl⟩),
      fc_val rfl rfl rfl rfl rfl M k1 k2 (fun x w' M' hp hk => ⟨_, rfl, rfl, rfl, run_move rfl rfl, rfl⟩),
      fc_val rfl rfl rfl rfl rfl M k1 k2 (fun x w' M' hp hk => ⟨_, rfl, rfl, rfl, run_move rfl rfl, rfl⟩),
      fc_val rfl rfl rfl rfl rfl M k1 k2 (fun x w' M' hp hk => ⟨_, rfl, rfl, rfl, run_move rfl rfl, rfl⟩),
      fc_ext rfl rfl rfl rfl rfl M k1 k2 (fun x w' M' hp hk => ⟨_, _, rfl, rfl, rfl, run_call rfl rfl T.fn10, new2 (hp.2.1 (by decide) (by decide) (by decide))⟩),
      fc_val rfl rfl rfl rfl rfl M k1 k2 (fun x w' M' hp hk => ⟨.iface 31 (x 10), rfl, rfl, rfl, rfl, (hk 10 rfl).imp id fun h => h.map _ (fun g e => congrArg (Value.iface 31) e)⟩),
      fc_val rfl rfl rfl rfl rfl M k1 k2 (fun x w' M' hp hk => ⟨_, rfl, rfl, rfl, run_loadAll rfl rfl T.agg35 (M'.row (i := 0) rfl) rfl, rfl⟩),
      fc_call rfl rfl rfl M k1 k2 (fun x w' M' hp hk => by
        have hq : (LQ1 D1 ga ka (fmtA (AD.new n) (fB0 0 gs gl gb []) (fB2 0 gs gl gb [] [])) w.drew) w' := hp.2.1 (by decide) (by decide) (by decide)
        rcases (hk 11 rfl : (LQ2 D1 D2 ga ka gb' kb (fmtA (AD.new n) (fB0 0 gs gl gb []) (fB2 0 gs gl gb [] [])) (fmtA ((AD.new n).tamper (at' : Int) lb).2 (fB0 0 gs gl gb []) (fB2 0 gs gl gb [] [])) w.drew) w' ∨ LP2 D1 ga ka (fmtA (AD.new n) (fB0 0 gs gl gb []) (fB2 0 gs gl gb [] [])) w.drew (fun g => .iface 31 (.pointer (some ⟨g, 0, none⟩))) w' (x 11)) with h | h
        · exact absurd h (lq12 H0 hq)
        · obtain ⟨a, ha, hc⟩ := fmt2c (s := gs) (l := gl) (b := gb) H0 hD2 tm.1 tm.2.1 hr2 h
          refine ⟨_, _, rfl, rfl, rfl, run_call rfl rfl T.fn20, ?_⟩
          show Calls _ _ #[.pointer (some ⟨gb', 0, none⟩), .pointer (some ⟨kb, 0, none⟩), x 11, .agg #[.int .i64 gs, .int .i64 gl, .int .i64 gb]] _ _
          rw [ha]
          exact hc.mono fun e w'' ⟨u, h1, h2, h3⟩ => ⟨u, h1, ⟨fun c => absurd c (by decide), fun _ => ⟨hq, h2⟩, fun _ c => absurd rfl c⟩, h3⟩),
      fc_val rfl rfl rfl rfl rfl M k1 k2 (fun x w' M' hp hk => ⟨_, rfl, rfl, rfl, tst rfl rfl, rfl⟩),
      fc_val rfl rfl rfl rfl rfl M k1 k2 (fun x w' M' hp hk => ⟨_, rfl, rfl, rfl, rfl, rfl⟩),
      fc_val rfl rfl rfl rfl rfl M k1 k2 (fun x w' M' hp hk => ⟨_, rfl, rfl, rfl, run_move rfl rfl, rfl⟩),
      fc_val rfl rfl rfl rfl rfl M k1 k2 (fun x w' M' hp hk => ⟨_, rfl, rfl, rfl, run_move rfl rfl, rfl⟩),
      fc_ext rfl rfl rfl rfl rfl M k1 k2 (fun x w' M' hp hk => by
        obtain ⟨Da, Db, a1, a2, b1, _⟩ : (LQ2 D1 D2 ga ka gb' kb (fmtA (AD.new n) (fB0 0 gs gl gb []) (fB2 0 gs gl gb [] [])) (fmtA ((AD.new n).tamper (at' : Int) lb).2 (fB0 0 gs gl gb []) (fB2 0 gs gl gb [] [])) w.drew) w' := hp.2.2 (by decide) (by decide)
        exact ⟨_, _, rfl, rfl, rfl, run_call rfl rfl T.fn12, (Writes_g (g := ga) (A := (fmtA (AD.new n) (fB0 0 gs gl gb []) (fB2 0 gs gl gb [] []))) (b1.sub (.cons _ (.cons _ (.cons_cons _ (.cons _ .slnil))))) a1).ext⟩),
      fc_val rfl rfl rfl rfl rfl M k1 k2 (fun x w' M' hp hk => ⟨_, rfl, rfl, rfl, tst rfl (bneF hw2), rfl⟩),
      fc_val rfl rfl rfl rfl rfl M k1 k2 (fun x w' M' hp hk => ⟨_, rfl, rfl, rfl, rfl, rfl⟩), trivial⟩ ?_)
    · exact chain_ok (by decide) (fun v hx => lq1_no HA hx) (fun v v' hx h => h.ext hx) (fun v v' hx h => h.ext hx) rfl ⟨trivial, trivial, ⟨fun w w' v hx h => h.imp (fun h => h.imp (fun h => h.ext hx) fun h => h.ext hx) fun h => h.ext hx, fun w v h => .inl (.inr h), fun _ w v h => .inl (.inl h)⟩, ⟨fun w w' v hx h => h.imp (fun h => h.imp (fun h => h.ext hx) fun h => h.ext hx) fun h => h.ext hx, fun w v h => .inl (.inr h), fun _ w v h => .inl (.inl h)⟩, trivial, trivial, trivial, trivial, trivial, trivial, ⟨fun w w' v hx h => h.imp (fun h => h.ext hx) fun h => h.ext hx, fun w v h => .inl h, fun c => absurd c (by decide)⟩, ⟨fun w w' v hx h => h.imp (fun h => h.ext hx) fun h => h.ext hx, fun w v h => .inl h, fun c => absurd c (by decide)⟩, trivial, trivial, trivial, trivial, trivial, trivial, trivial, trivial, trivial, trivial⟩
    intro x fr w2 ⟨bb, hbb, hI⟩ hk E
    have hI : chainI _ _ _ w2 (bb 5) (bb 13) := hI
    rw [hbb 5 (by decide), hbb 13 (by decide)] at hI
    obtain ⟨Da, Db, hDa, hDb, HH, hf, hc⟩ : (LQ2 D1 D2 ga ka gb' kb (fmtA (AD.new n) (fB0 0 gs gl gb []) (fB2 0 gs gl gb [] [])) (fmtA ((AD.new n).tamper (at' : Int) lb).2 (fB0 0 gs gl gb []) (fB2 0 gs gl gb [] [])) w.drew) w2 := hI
    have M := Mem.call (ins := ([dkE D1, cE ga ka 0] ++ [dkE D2, cE gb' kb 0])) M ((Ch.of_ext (Ext.drew _)).trans hc) HH (fun g hg => hf g hg)
    refine then_normal ?_
    refine cond_false E rfl (rfl) ?_
    refine wp_skip ?_
    refine then_normal ?_
    refine wp_seq ?_
    refine code_region ?_
    refine sw E (run_assignC rfl) fun fr E => ?_
    refine seq_nil' ?_
    refine wp_block ?_
    refine loop_dec (fun d fr w => ∃ (i : Nat) (Da Db : DV) (A B : AD), d = 45 - i ∧ i ≤ 45 ∧ Da.is ga A ∧ Db.is gb' B ∧ A.n = n ∧ B.n = n ∧ (∀ j, j < 45 → A.read j = (if j = 2 then (fB2 0 gs gl gb [] []) else if j = 0 then (fB0 0 gs gl gb []) else [])) ∧ (∀ j, j < 45 → B.read j = (if j = 2 then (fB2 0 gs gl gb [] []) else if j = 0 then (fB0 0 gs gl gb []) else if j = at' then lb else [])) ∧ Env [(13, .int .i64 (i : Int)), (12, .pointer (some ⟨kb, 0, none⟩)), (11, .pointer (some ⟨ka, 0, none⟩)), (9, .pointer (some ⟨gb', 0, none⟩)), (7, .pointer (some ⟨ga, 0, none⟩)), (2, bv), (1, .int .i64 (at' : Int))] 136 fr ∧ Mem w0 (feet []) [dkE Da, cE ga ka LV, dkE Db, cE gb' kb LV] (fun w' => Bytes w' bv lb) w) (45) ?_ ?_
    · have M := M.pull 1 rfl
      have M := M.pull 1 rfl
      have M := M.pull 3 rfl
      have M := M.pull 3 rfl
      exact ⟨0, Da, Db, _, _, rfl, by decide, hDa, hDb, (fmtA_eq (A := AD.new n) rfl rfl).1, (fmtA_eq tm.1 tm.2.1).1.trans (AD.tamper_n _ _ _), fun j hj => (fmtA_read (A := AD.new n) rfl rfl (List.length_replicate ..) (by show j < n; omega)).trans (by rw [new_read]), fun j hj => (fmtA_read tm.1 tm.2.1 (tm.2.2.1.trans (AD.tamper_n (AD.new n) _ _).symm) (by rw [AD.tamper_n]; show j < n; omega)).trans (by rw [tm.2.2.2 j (by omega)]), (((((((Env.nil E).add E (t := 1) rfl).add E (t := 2) rfl).add E (t := 7) rfl).add E (t := 9) rfl).add E (t := 11) rfl).add E (t := 12) rfl).add E (t := 13) rfl, Mem.take (L := [dkE Da, cE ga ka LV, dkE Db, cE gb' kb LV]) M⟩
    · clear E M
      rintro d fr w ⟨i, Da, Db, A, B, rfl, hle, hDa, hDb, hAn, hBn, hr1', hr2', E, M⟩
      by_cases hi : i < 45
      · have r1 := hr1' i hi
        have r2 := hr2' i hi
        by_cases ha : i = at'
        · rw [if_neg (by omega), if_neg (by omega)] at r1
          rw [if_neg (by omega), if_neg (by omega), if_pos ha] at r2
          refine wp_seq ?_
          refine code_region ?_
          refine mv E fun fr E => ?_
          refine sw (v := .bool true) E (tst rfl (decide_eq_true (by omega))) fun fr E => ?_
          refine seq_nil' ?_
          refine cond_true E rfl (rfl) ?_
          refine wp_skip ?_
          refine then_normal ?_
          refine wp_seq ?_
          refine wp_block ?_
          refine code_region ?_
          refine mv E fun fr E => ?_
          refine mv E fun fr E => ?_
          refine scallI ([dkE Da]) E M rfl rfl rfl rfl rfl (run_call rfl rfl T.fn21) rfl (fun H => Read_a (j := i) H hDa (by omega)) ?_
          rintro ⟨c1, Da2⟩ fr w hDa2 M E
          refine mv E fun fr E => ?_
          refine sw E (run_extract rfl rfl rfl) fun fr E => ?_
          refine sw E (run_extract rfl rfl rfl) fun fr E => ?_
          refine ma E fun fr E => ?_
          refine ma E fun fr E => ?_
          refine seq_nil' ?_
          refine code_region ?_
          refine mv E fun fr E => ?_
          refine mv E fun fr E => ?_
          have M := M.pull 3 rfl
          refine scallI ([dkE Db]) E M rfl rfl rfl rfl rfl (run_call rfl rfl T.fn21) rfl (fun H => Read_a (j := i) H hDb (by omega)) ?_
          rintro ⟨c2, Db2⟩ fr w hDb2 M E
          refine mv E fun fr E => ?_
          refine sw E (run_extract rfl rfl rfl) fun fr E => ?_
          refine sw E (run_extract rfl rfl rfl) fun fr E => ?_
          refine ma E fun fr E => ?_
          refine ma E fun fr E => ?_
          refine seq_nil' ?_
          refine code_region ?_
          refine mv E fun fr E => ?_
          refine mv E fun fr E => ?_
          refine sw (v := .bool true) E (tst rfl (decide_eq_true (by omega))) fun fr E => ?_
          refine mv E fun fr E => ?_
          refine mv E fun fr E => ?_
          refine mv E fun fr E => ?_
          refine sgive E M rfl rfl rfl rfl rfl (run_call rfl rfl T.fn22) (SameBytes_x (M.bytes 0 rfl) M.fact (by rw [r2]; omega)) fun fr w M E => ?_
          rw [decide_eq_true (by rw [r2] : _ = _)] at E
          refine sw (v := .bool _) E (rfl) fun fr E => ?_
          refine sw (v := .bool _) E (rfl) fun fr E => ?_
          refine mv E fun fr E => ?_
          refine mv E fun fr E => ?_
          refine mv E fun fr E => ?_
          refine sw (v := .bool false) E (tst rfl (bneF (by omega))) fun fr E => ?_
          refine mv E fun fr E => ?_
          refine sno E rfl rfl rfl rfl fun fr E => ?_
          refine sno E rfl rfl rfl rfl fun fr E => ?_
          refine sno E rfl rfl rfl rfl fun fr E => ?_
          refine sno E rfl rfl rfl rfl fun fr E => ?_
          refine sw (v := .bool _) E (rfl) fun fr E => ?_
          refine sw (v := .bool _) E (rfl) fun fr E => ?_
          refine mv E fun fr E => ?_
          refine mv E fun fr E => ?_
          refine sw (v := .bool true) E (tst rfl (bneT (by omega))) fun fr E => ?_
          refine mv E fun fr E => ?_
          refine mv E fun fr E => ?_
          refine sw (v := .bool true) E (tst rfl (bneT (by omega))) fun fr E => ?_
          refine sw (v := .bool _) E (rfl) fun fr E => ?_
          refine mv E fun fr E => ?_
          refine mv E fun fr E => ?_
          refine sw (v := .int .i64 _) E (run_lenR rfl rfl rfl rfl T.slice36 (M.reads 2 rfl)) fun fr E => ?_
          refine sw (v := .bool false) E (tst rfl (bneF (by rw [r1]; rfl))) fun fr E => ?_
          refine sw (v := .bool _) E (rfl) fun fr E => ?_
          refine sw (v := .bool _) E (rfl) fun fr E => ?_
          refine seq_nil' ?_
          refine cond_false E rfl (rfl) ?_
          refine wp_skip ?_
          refine block_normal ?_
          refine then_normal ?_
          refine code_last ?_
          refine mv E fun fr E => ?_
          refine sw (v := .int _ (((i + 1 : Nat) : Int))) E (num rfl ((i64_id (by omega) (by omega)).trans (by omega))) fun fr E => ?_
          refine ma E fun fr E => ?_
          refine seq_nil ?_
          refine then_any ?_
          have M := M.pull 5 rfl
          have M := M.pull 2 rfl
          have M := M.pull 5 rfl
          have M := M.pull 5 rfl
          exact ⟨45 - (i + 1), by omega, i + 1, Da2, Db2, _, _, rfl, by omega, hDa2, hDb2, hAn, hBn, hr1', hr2', (((((((Env.nil E).add E (t := 1) rfl).add E (t := 2) rfl).add E (t := 7) rfl).add E (t := 9) rfl).add E (t := 11) rfl).add E (t := 12) rfl).add E (t := 13) rfl, Mem.take (L := [dkE Da2, cE ga ka LV, dkE Db2, cE gb' kb LV]) M⟩
        · by_cases hz0 : i = 0
          · rw [if_neg (by omega), if_pos hz0] at r1 r2
            refine wp_seq ?_
            refine code_region ?_
            refine mv E fun fr E => ?_
            refine sw (v := .bool true) E (tst rfl (decide_eq_true (by omega))) fun fr E => ?_
            refine seq_nil' ?_
            refine cond_true E rfl (rfl) ?_
            refine wp_skip ?_
            refine then_normal ?_
            refine wp_seq ?_
            refine wp_block ?_
            refine code_region ?_
            refine mv E fun fr E => ?_
            refine mv E fun fr E => ?_
            refine scallI ([dkE Da]) E M rfl rfl rfl rfl rfl (run_call rfl rfl T.fn21) rfl (fun H => Read_a (j := i) H hDa (by omega)) ?_
            rintro ⟨c1, Da2⟩ fr w hDa2 M E
            refine mv E fun fr E => ?_
            refine sw E (run_extract rfl rfl rfl) fun fr E => ?_
            refine sw E (run_extract rfl rfl rfl) fun fr E => ?_
            refine ma E fun fr E => ?_
            refine ma E fun fr E => ?_
            refine seq_nil' ?_
            refine code_region ?_
            refine mv E fun fr E => ?_
            refine mv E fun fr E => ?_
            have M := M.pull 3 rfl
            refine scallI ([dkE Db]) E M rfl rfl rfl rfl rfl (run_call rfl rfl T.fn21) rfl (fun H => Read_a (j := i) H hDb (by omega)) ?_
            rintro ⟨c2, Db2⟩ fr w hDb2 M E
            refine mv E fun fr E => ?_
            refine sw E (run_extract rfl rfl rfl) fun fr E => ?_
            refine sw E (run_extract rfl rfl rfl) fun fr E => ?_
            refine ma E fun fr E => ?_
            refine ma E fun fr E => ?_
            refine seq_nil' ?_
            refine code_region ?_
            refine mv E fun fr E => ?_
            refine mv E fun fr E => ?_
            refine sw (v := .bool false) E (tst rfl (decide_eq_false (by omega))) fun fr E => ?_
            refine mv E fun fr E => ?_
            refine sno E rfl rfl rfl rfl fun fr E => ?_
            refine sno E rfl rfl rfl rfl fun fr E => ?_
            refine sno E rfl rfl rfl rfl fun fr E => ?_
            refine sno E rfl rfl rfl rfl fun fr E => ?_
            refine sw (v := .bool _) E (rfl) fun fr E => ?_
            refine mv E fun fr E => ?_
            refine mv E fun fr E => ?_
            refine mv E fun fr E => ?_
            refine sw (v := .bool true) E (tst rfl (bneT (by omega))) fun fr E => ?_
            refine mv E fun fr E => ?_
            refine mv E fun fr E => ?_
            refine mv E fun fr E => ?_
            refine sgive E M rfl rfl rfl rfl rfl (run_call rfl rfl T.fn22) (SameBytes_x (M.bytes 2 rfl) (M.bytes 0 rfl) (by have := hDa.2.read_len i; omega)) fun fr w M E => ?_
            rw [decide_eq_true (by rw [r1, r2] : _ = _)] at E
            refine sw (v := .bool _) E (rfl) fun fr E => ?_
            refine sw (v := .bool _) E (rfl) fun fr E => ?_
            refine sw (v := .bool _) E (rfl) fun fr E => ?_
            refine mv E fun fr E => ?_
            refine mv E fun fr E => ?_
            refine sw (v := .bool false) E (tst rfl (bneF (by omega))) fun fr E => ?_
            refine mv E fun fr E => ?_
            refine sno E rfl rfl rfl rfl fun fr E => ?_
            refine sno E rfl rfl rfl rfl fun fr E => ?_
            refine sw (v := .bool _) E (rfl) fun fr E => ?_
            refine mv E fun fr E => ?_
            refine sno E rfl rfl rfl rfl fun fr E => ?_
            refine sno E rfl rfl rfl rfl fun fr E => ?_
            refine sno E rfl rfl rfl rfl fun fr E => ?_
            refine sw (v := .bool _) E (rfl) fun fr E => ?_
            refine sw (v := .bool _) E (rfl) fun fr E => ?_
            refine seq_nil' ?_
            refine cond_false E rfl (rfl) ?_
            refine wp_skip ?_
            refine block_normal ?_
            refine then_normal ?_
            refine code_last ?_
            refine mv E fun fr E => ?_
            refine sw (v := .int _ (((i + 1 : Nat) : Int))) E (num rfl ((i64_id (by omega) (by omega)).trans (by omega))) fun fr E => ?_
            refine ma E fun fr E => ?_
            refine seq_nil ?_
            refine then_any ?_
            have M := M.pull 5 rfl
            have M := M.pull 2 rfl
            have M := M.pull 5 rfl
            have M := M.pull 5 rfl
            exact ⟨45 - (i + 1), by omega, i + 1, Da2, Db2, _, _, rfl, by omega, hDa2, hDb2, hAn, hBn, hr1', hr2', (((((((Env.nil E).add E (t := 1) rfl).add E (t := 2) rfl).add E (t := 7) rfl).add E (t := 9) rfl).add E (t := 11) rfl).add E (t := 12) rfl).add E (t := 13) rfl, Mem.take (L := [dkE Da2, cE ga ka LV, dkE Db2, cE gb' kb LV]) M⟩
          · by_cases hz2 : i = 2
            · rw [if_pos hz2] at r1 r2
              refine wp_seq ?_
              refine code_region ?_
              refine mv E fun fr E => ?_
              refine sw (v := .bool true) E (tst rfl (decide_eq_true (by omega))) fun fr E => ?_
              refine seq_nil' ?_
              refine cond_true E rfl (rfl) ?_
              refine wp_skip ?_
              refine then_normal ?_
              refine wp_seq ?_
              refine wp_block ?_
              refine code_region ?_
              refine mv E fun fr E => ?_
              refine mv E fun fr E => ?_
              refine scallI ([dkE Da]) E M rfl rfl rfl rfl rfl (run_call rfl rfl T.fn21) rfl (fun H => Read_a (j := i) H hDa (by omega)) ?_
              rintro ⟨c1, Da2⟩ fr w hDa2 M E
              refine mv E fun fr E => ?_
              refine sw E (run_extract rfl rfl rfl) fun fr E => ?_
              refine sw E (run_extract rfl rfl rfl) fun fr E => ?_
              refine ma E fun fr E => ?_
              refine ma E fun fr E => ?_
              refine seq_nil' ?_
              refine code_region ?_
              refine mv E fun fr E => ?_
              refine mv E fun fr E => ?_
              have M := M.pull 3 rfl
              refine scallI ([dkE Db]) E M rfl rfl rfl rfl rfl (run_call rfl rfl T.fn21) rfl (fun H => Read_a (j := i) H hDb (by omega)) ?_
              rintro ⟨c2, Db2⟩ fr w hDb2 M E
              refine mv E fun fr E => ?_
              refine sw E (run_extract rfl rfl rfl) fun fr E => ?_
              refine sw E (run_extract rfl rfl rfl) fun fr E => ?_
              refine ma E fun fr E => ?_
              refine ma E fun fr E => ?_
              refine seq_nil' ?_
              refine code_region ?_
              refine mv E fun fr E => ?_
              refine mv E fun fr E => ?_
              refine sw (v := .bool false) E (tst rfl (decide_eq_false (by omega))) fun fr E => ?_
              refine mv E fun fr E => ?_
              refine sno E rfl rfl rfl rfl fun fr E => ?_
              refine sno E rfl rfl rfl rfl fun fr E => ?_
              refine sno E rfl rfl rfl rfl fun fr E => ?_
              refine sno E rfl rfl rfl rfl fun fr E => ?_
              refine sw (v := .bool _) E (rfl) fun fr E => ?_
              refine mv E fun fr E => ?_
              refine mv E fun fr E => ?_
              refine mv E fun fr E => ?_
              refine sw (v := .bool true) E (tst rfl (bneT (by omega))) fun fr E => ?_
              refine mv E fun fr E => ?_
              refine mv E fun fr E => ?_
              refine mv E fun fr E => ?_
              refine sgive E M rfl rfl rfl rfl rfl (run_call rfl rfl T.fn22) (SameBytes_x (M.bytes 2 rfl) (M.bytes 0 rfl) (by have := hDa.2.read_len i; omega)) fun fr w M E => ?_
              rw [decide_eq_true (by rw [r1, r2] : _ = _)] at E
              refine sw (v := .bool _) E (rfl) fun fr E => ?_
              refine sw (v := .bool _) E (rfl) fun fr E => ?_
              refine sw (v := .bool _) E (rfl) fun fr E => ?_
              refine mv E fun fr E => ?_
              refine mv E fun fr E => ?_
              refine sw (v := .bool true) E (tst rfl (bneT (by omega))) fun fr E => ?_
              refine mv E fun fr E => ?_
              refine mv E fun fr E => ?_
              refine sw (v := .bool false) E (tst rfl (bneF (by omega))) fun fr E => ?_
              refine sw (v := .bool _) E (rfl) fun fr E => ?_
              refine mv E fun fr E => ?_
              refine sno E rfl rfl rfl rfl fun fr E => ?_
              refine sno E rfl rfl rfl rfl fun fr E => ?_
              refine sno E rfl rfl rfl rfl fun fr E => ?_
              refine sw (v := .bool _) E (rfl) fun fr E => ?_
              refine sw (v := .bool _) E (rfl) fun fr E => ?_
              refine seq_nil' ?_
              refine cond_false E rfl (rfl) ?_
              refine wp_skip ?_
              refine block_normal ?_
              refine then_normal ?_
              refine code_last ?_
              refine mv E fun fr E => ?_
              refine sw (v := .int _ (((i + 1 : Nat) : Int))) E (num rfl ((i64_id (by omega) (by omega)).trans (by omega))) fun fr E => ?_
              refine ma E fun fr E => ?_
              refine seq_nil ?_
              refine then_any ?_
              have M := M.pull 5 rfl
              have M := M.pull 2 rfl
              have M := M.pull 5 rfl
              have M := M.pull 5 rfl
              exact ⟨45 - (i + 1), by omega, i + 1, Da2, Db2, _, _, rfl, by omega, hDa2, hDb2, hAn, hBn, hr1', hr2', (((((((Env.nil E).add E (t := 1) rfl).add E (t := 2) rfl).add E (t := 7) rfl).add E (t := 9) rfl).add E (t := 11) rfl).add E (t := 12) rfl).add E (t := 13) rfl, Mem.take (L := [dkE Da2, cE ga ka LV, dkE Db2, cE gb' kb LV]) M⟩
            · rw [if_neg hz2, if_neg hz0] at r1 r2
              rw [if_neg ha] at r2
              refine wp_seq ?_
              refine code_region ?_
              refine mv E fun fr E => ?_
              refine sw (v := .bool true) E (tst rfl (decide_eq_true (by omega))) fun fr E => ?_
              refine seq_nil' ?_
              refine cond_true E rfl (rfl) ?_
              refine wp_skip ?_
              refine then_normal ?_
              refine wp_seq ?_
              refine wp_block ?_
              refine code_region ?_
              refine mv E fun fr E => ?_
              refine mv E fun fr E => ?_
              refine scallI ([dkE Da]) E M rfl rfl rfl rfl rfl (run_call rfl rfl T.fn21) rfl (fun H => Read_a (j := i) H hDa (by omega)) ?_
              rintro ⟨c1, Da2⟩ fr w hDa2 M E
              refine mv E fun fr E => ?_
              refine sw E (run_extract rfl rfl rfl) fun fr E => ?_
              refine sw E (run_extract rfl rfl rfl) fun fr E => ?_
              refine ma E fun fr E => ?_
              refine ma E fun fr E => ?_
              refine seq_nil' ?_
              refine code_region ?_
              refine mv E fun fr E => ?_
              refine mv E fun fr E => ?_
              have M := M.pull 3 rfl
              refine scallI ([dkE Db]) E M rfl rfl rfl rfl rfl (run_call rfl rfl T.fn21) rfl (fun H => Read_a (j := i) H hDb (by omega)) ?_
              rintro ⟨c2, Db2⟩ fr w hDb2 M E
              refine mv E fun fr E => ?_
              refine sw E (run_extract rfl rfl rfl) fun fr E => ?_
              refine sw E (run_extract rfl rfl rfl) fun fr E => ?_
              refine ma E fun fr E => ?_
              refine ma E fun fr E => ?_
              refine seq_nil' ?_
              refine code_region ?_
              refine mv E fun fr E => ?_
              refine mv E fun fr E => ?_
              refine sw (v := .bool false) E (tst rfl (decide_eq_false (by omega))) fun fr E => ?_
              refine mv E fun fr E => ?_
              refine sno E rfl rfl rfl rfl fun fr E => ?_
              refine sno E rfl rfl rfl rfl fun fr E => ?_
              refine sno E rfl rfl rfl rfl fun fr E => ?_
              refine sno E rfl rfl rfl rfl fun fr E => ?_
              refine sw (v := .bool _) E (rfl) fun fr E => ?_
              refine mv E fun fr E => ?_
              refine mv E fun fr E => ?_
              refine mv E fun fr E => ?_
              refine sw (v := .bool true) E (tst rfl (bneT (by omega))) fun fr E => ?_
              refine mv E fun fr E => ?_
              refine mv E fun fr E => ?_
              refine mv E fun fr E => ?_
              refine sgive E M rfl rfl rfl rfl rfl (run_call rfl rfl T.fn22) (SameBytes_x (M.bytes 2 rfl) (M.bytes 0 rfl) (by have := hDa.2.read_len i; omega)) fun fr w M E => ?_
              rw [decide_eq_true (by rw [r1, r2] : _ = _)] at E
              refine sw (v := .bool _) E (rfl) fun fr E => ?_
              refine sw (v := .bool _) E (rfl) fun fr E => ?_
              refine sw (v := .bool _) E (rfl) fun fr E => ?_
              refine mv E fun fr E => ?_
              refine mv E fun fr E => ?_
              refine sw (v := .bool true) E (tst rfl (bneT (by omega))) fun fr E => ?_
              refine mv E fun fr E => ?_
              refine mv E fun fr E => ?_
              refine sw (v := .bool true) E (tst rfl (bneT (by omega))) fun fr E => ?_
              refine sw (v := .bool _) E (rfl) fun fr E => ?_
              refine mv E fun fr E => ?_
              refine mv E fun fr E => ?_
              refine sw (v := .int .i64 _) E (run_lenR rfl rfl rfl rfl T.slice36 (M.reads 2 rfl)) fun fr E => ?_
              refine sw (v := .bool false) E (tst rfl (bneF (by rw [r1]; rfl))) fun fr E => ?_
              refine sw (v := .bool _) E (rfl) fun fr E => ?_
              refine sw (v := .bool _) E (rfl) fun fr E => ?_
              refine seq_nil' ?_
              refine cond_false E rfl (rfl) ?_
              refine wp_skip ?_
              refine block_normal ?_
              refine then_normal ?_
              refine code_last ?_
              refine mv E fun fr E => ?_
              refine sw (v := .int _ (((i + 1 : Nat) : Int))) E (num rfl ((i64_id (by omega) (by omega)).trans (by omega))) fun fr E => ?_
              refine ma E fun fr E => ?_
              refine seq_nil ?_
              refine then_any ?_
              have M := M.pull 5 rfl
              have M := M.pull 2 rfl
              have M := M.pull 5 rfl
              have M := M.pull 5 rfl
              exact ⟨45 - (i + 1), by omega, i + 1, Da2, Db2, _, _, rfl, by omega, hDa2, hDb2, hAn, hBn, hr1', hr2', (((((((Env.nil E).add E (t := 1) rfl).add E (t := 2) rfl).add E (t := 7) rfl).add E (t := 9) rfl).add E (t := 11) rfl).add E (t := 12) rfl).add E (t := 13) rfl, Mem.take (L := [dkE Da2, cE ga ka LV, dkE Db2, cE gb' kb LV]) M⟩
      · obtain rfl : i = 45 := by omega
        refine wp_seq ?_
        refine code_region ?_
        refine mv E fun fr E => ?_
        refine sw (v := .bool false) E (tst rfl (decide_eq_false (by omega))) fun fr E => ?_
        refine seq_nil' ?_
        refine cond_false E rfl (rfl) ?_
        refine wp_exit ?_
        refine then_exit ?_
        refine then_exit ?_
        refine block_exit ?_
        refine then_normal ?_
        refine code_region ?_
        refine mv E fun fr E => ?_
        refine sgive E M rfl rfl rfl rfl rfl (run_call rfl rfl T.fn11) (cValue_x (g := ga) (M.row (i := 1) rfl)) fun fr w M E => ?_
        refine mv E fun fr E => ?_
        refine sgive E M rfl rfl rfl rfl rfl (run_call rfl rfl T.fn11) (cValue_x (g := gb') (M.row (i := 3) rfl)) fun fr w M E => ?_
        refine sw (v := .bool true) E (tst rfl (decide_eq_true rfl)) fun fr E => ?_
        refine mv E fun fr E => ?_
        refine sgive E M rfl rfl rfl rfl rfl (run_call rfl rfl T.fn8) (worksF_c _) fun fr w M E => ?_
        refine sw (v := .bool _) E (rfl) fun fr E => ?_
        refine ma E fun fr E => ?_
        refine seq_nil' ?_
        refine wp_ret ?_
        refine ret1 E rfl rfl ?_
        exact given M

/-- Whatever geometry, whatever bytes, wherever. -/
theorem FormatLeaves_x {gs gl gb kk : Int} {bv : Value} {lb : List UInt8} {w0 : World} (hb : Bytes w0 bv lb) : Gives Tryz.prog 4 [.agg #[.int .i64 gs, .int .i64 gl, .int .i64 gb], .int .i64 kk, bv] w0 (.bool true) := by
  have hav : ∀ g, bv.ownBlock = some g → ¬ w0.heap.size ≤ g := fun g hg hc => by
    rcases hb.2 with ⟨rfl, _⟩ | ⟨g', off, cap, rfl, _, _, h5, _⟩
    · cases hg
    · have e : g' = g := by simpa [Value.ownBlock] using hg
      omega
  by_cases hgm : GMay gs gl gb
  · by_cases hl : 1024 < lb.length
    · exact FormatLeaves_long hb hav hgm hl
    · have := gmay_sl hgm
      exact FormatLeaves_in (n := (3 + gs * gl).toNat) hb hav hgm (by omega) (by omega) (by omega) (by omega)
  · exact FormatLeaves_no hb hav hgm
end Go.Proofs.YtnebjbgcibjohaaGreat.K
end
