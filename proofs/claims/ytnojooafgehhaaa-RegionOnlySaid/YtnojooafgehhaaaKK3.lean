/- Contracts: run. -/
import Derived.Test.YtnojooafgehhaaaKK
import Derived.Test.YtnojooafgehhaaaKK2
import Derived.Test.YtnojooafgehhaaaProg
import Derived.Test.YtnojooafgehhaaaRR
import Derived.Test.YtnojooafgehhaaaRR1
section
namespace Go.Proofs.Ytnojooafgehhaaa.K
open Go.RowKit Go.Rill Go.Proofs
set_option linter.unusedVariables false
set_option linter.unusedSimpArgs false
set_option maxRecDepth 100000 in
theorem Read_out {gd gm : Nat} {lv rv : Value} {S : Dsk} {w0 : World} (H : Has w0 (dsk gd gm lv rv S)) (hS : S.Ok) {i : Int} (h : ¬ (0 ≤ i ∧ i < (S.n : Int))) : Does Try.prog 37 [.pointer (some ⟨gd, 0, none⟩), .int .i64 i] w0 (dsk gd gm lv rv S) (fun _ : Unit => .tuple #[.slice none 0 0, .int .i64 7]) (fun _ => dsk gd gm lv rv S) (fun _ => True) := by
  refine enter (n := 41) Try.func37 rfl rfl rfl ?_
  intro fr E
  have M : Mem w0 (feet (dsk gd gm lv rv S)) (dsk gd gm lv rv S) (fun _ => True) w0 := Mem.begin H (fun _ _ => trivial)
  refine code_region ?_
  refine sv (v := _) E rfl rfl rfl rfl rfl (run_assignC rfl) fun fr E => ?_
  refine sv (v := _) E rfl rfl rfl rfl rfl (run_assignC rfl) fun fr E => ?_
  refine seq_nil' ?_
  refine wp_seq ?_
  refine code_region ?_
  refine sv (v := _) E rfl rfl rfl rfl rfl (run_move rfl rfl) fun fr E => ?_
  refine sv (v := _) E rfl rfl rfl rfl rfl (run_move rfl rfl) fun fr E => ?_
  refine scallI (dsk gd gm lv rv S) E M rfl rfl rfl rfl rfl (run_call rfl rfl T.fn70) rfl (fun H => there_x H hS i) ?_
  rintro _ fr w - M E
  rw [decide_eq_false h] at E
  refine sv (v := .bool _) E rfl rfl rfl rfl rfl (rfl) fun fr E => ?_
  refine seq_nil' ?_
  refine cond_true E rfl (rfl) ?_
  refine code_region ?_
  refine sv (v := _) E rfl rfl rfl rfl rfl (run_assignC rfl) fun fr E => ?_
  refine sv (v := _) E rfl rfl rfl rfl rfl (run_assignC rfl) fun fr E => ?_
  refine seq_nil' ?_
  refine wp_ret ?_
  refine then_ret ?_
  refine ret2 E rfl rfl rfl ?_
  exact ⟨(), rfl, M.fin (List.Sublist.refl _) trivial⟩

theorem Read_o {D : DV} {g : Nat} {A : AD} {w0 : World} (H : Has w0 [dkE D]) (hD : D.is g A) {i : Int} (h : ¬ A.there i) : Does Try.prog 37 [.pointer (some ⟨g, 0, none⟩), .int .i64 i] w0 [dkE D] (fun _ : DV => .tuple #[.slice none 0 0, .int .i64 7]) (fun x => [dkE x]) (fun x => x.is g A) := by
  obtain ⟨gd, gm, lv, rv, S⟩ := D
  obtain ⟨hg, hA⟩ := hD
  have hg : gd = g := hg
  have hA : S.Abs A := hA
  subst hg
  exact Does.packed (B := fun _ : DV => []) (C := fun x => dk x) (fun _ => Read_out H.unpack1 hA.ok (by rw [hA.n]; exact h)) H fun _ _ => ⟨⟨gd, gm, lv, rv, S⟩, rfl, rfl, rfl, hA⟩

set_option maxRecDepth 100000 in
theorem run_0 {D : DV} {N : NV} {g : Nat} {A : AD} {o : OpT} {w0 : World} (H : Has w0 [dkE D, nmE N]) (hD : D.is g A) (hr : o.r.Ok) (hkz : N.ks.length ≤ 1099511627776) (hdb : FarB w0 (feet [dkE D, nmE N]) o.dv o.dl) (hli : FarI w0 (feet [dkE D, nmE N]) o.lv o.ll) (hk : o.k = 0) : Does Try.prog 36 [.pointer (some ⟨g, 0, none⟩), .iface 51 (.pointer (some ⟨N.gn, 0, none⟩)), .agg o.cells.toArray] w0 [dkE D, nmE N] (fun _ : DV × NV => .int .i64 (regW A N.ks o.r o.n).1) (fun x => [dkE x.1, nmE x.2]) (fun x => x.1.is g (regW A N.ks o.r o.n).2.1 ∧ x.2.gn = N.gn ∧ x.2.ks = (regW A N.ks o.r o.n).2.2 ∧ x.2.ts = N.ts) := by
  refine enter (n := 61) Try.func36 rfl rfl rfl ?_
  intro fr E
  have M : Mem w0 (feet [dkE D, nmE N]) [dkE D, nmE N] (fun w' => FarB w' (feet [dkE D, nmE N]) o.dv o.dl ∧ FarI w' (feet [dkE D, nmE N]) o.lv o.ll) w0 := Mem.begin H (fun w' h => ⟨hdb.held h, hli.held h⟩)
  refine code_region ?_
  refine snew (ob := .cells (o.cells.toArray) 67) (fun g => .pointer (some ⟨g, 0, none⟩)) E M rfl rfl rfl rfl rfl (run_boxN (cs := (o.cells.toArray)) rfl rfl) fun g0 fr w M E => ?_
  refine sv (v := _) E rfl rfl rfl rfl rfl (run_assignC rfl) fun fr E => ?_
  refine seq_nil' ?_
  refine wp_seq ?_
  refine code_region ?_
  refine sv (v := .pointer (some ⟨_, 0, none⟩)) E rfl rfl rfl rfl rfl (run_fieldAddr rfl rfl T.fld67_0) fun fr E => ?_
  refine sv (v := .int .i64 _) E rfl rfl rfl rfl rfl (run_loadB rfl rfl T.one3 (M.row (i := 0) rfl) OpT.c_k) fun fr E => ?_
  refine seq_nil' ?_
  refine wp_block ?_
  refine code_region ?_
  refine sv (v := .bool true) E rfl rfl rfl rfl rfl (tst rfl (decide_eq_true hk)) fun fr E => ?_
  refine sv (v := _) E rfl rfl rfl rfl rfl (run_assign rfl rfl) fun fr E => ?_
  refine seq_nil' ?_
  refine cond_true E rfl (rfl) ?_
  refine code_region ?_
  refine sv (v := _) E rfl rfl rfl rfl rfl (run_move rfl rfl) fun fr E => ?_
  refine sv (v := _) E rfl rfl rfl rfl rfl (run_move rfl rfl) fun fr E => ?_
  refine sv (v := .pointer (some ⟨_, 3, none⟩)) E rfl rfl rfl rfl rfl (run_fieldAddr rfl rfl T.fld67_3) fun fr E => ?_
  refine sv (v := .agg o.r.cells.toArray) E rfl rfl rfl rfl rfl (run_loadN' rfl rfl T.agg29 (M.row (i := 0) rfl) (by rw [OpT.size hr]; rfl) (OpT.c_r hr)) fun fr E => ?_
  refine sv (v := .pointer (some ⟨_, 1, none⟩)) E rfl rfl rfl rfl rfl (run_fieldAddr rfl rfl T.fld67_1) fun fr E => ?_
  refine sv (v := .int .i64 _) E rfl rfl rfl rfl rfl (run_loadB rfl rfl T.one3 (M.row (i := 0) rfl) OpT.c_n) fun fr E => ?_
  have M := M.pull 2 rfl
  have M := M.pull 2 rfl
  refine scallI ([dkE D, nmE N]) E M rfl rfl rfl rfl rfl (run_call rfl rfl T.fn26) rfl (fun H => rWrite_x H hD hr hkz) ?_
  rintro ⟨D1, N1⟩ fr w hx M E
  refine sv (v := _) E rfl rfl rfl rfl rfl (run_assign rfl rfl) fun fr E => ?_
  refine seq_nil' ?_
  refine wp_ret ?_
  refine block_ret ?_
  refine then_ret ?_
  refine ret1 E rfl rfl ?_
  have M := M.pull 1 rfl
  have M := M.pull 1 rfl
  exact ⟨(D1, N1), rfl, Mem.fin (L := [dkE D1, nmE N1] ++ _) M (List.sublist_append_left _ _) ⟨hx.1, hx.2⟩⟩

set_option maxRecDepth 100000 in
theorem run_1 {D : DV} {N : NV} {g : Nat} {A : AD} {o : OpT} {w0 : World} (H : Has w0 [dkE D, nmE N]) (hD : D.is g A) (hr : o.r.Ok) (hkz : N.ks.length ≤ 1099511627776) (hdb : FarB w0 (feet [dkE D, nmE N]) o.dv o.dl) (hli : FarI w0 (feet [dkE D, nmE N]) o.lv o.ll) (hk : o.k = 1) : Does Try.prog 36 [.pointer (some ⟨g, 0, none⟩), .iface 51 (.pointer (some ⟨N.gn, 0, none⟩)), .agg o.cells.toArray] w0 [dkE D, nmE N] (fun _ : DV × NV => .int .i64 (A.tamper o.n o.dl).1) (fun x => [dkE x.1, nmE x.2]) (fun x => x.1.is g (A.tamper o.n o.dl).2 ∧ x.2.gn = N.gn ∧ x.2.ks = N.ks ∧ x.2.ts = N.ts) := by
  refine enter (n := 61) Try.func36 rfl rfl rfl ?_
  intro fr E
  have M : Mem w0 (feet [dkE D, nmE N]) [dkE D, nmE N] (fun w' => FarB w' (feet [dkE D, nmE N]) o.dv o.dl ∧ FarI w' (feet [dkE D, nmE N]) o.lv o.ll) w0 := Mem.begin H (fun w' h => ⟨hdb.held h, hli.held h⟩)
  refine code_region ?_
  refine snew (ob := .cells (o.cells.toArray) 67) (fun g => .pointer (some ⟨g, 0, none⟩)) E M rfl rfl rfl rfl rfl (run_boxN (cs := (o.cells.toArray)) rfl rfl) fun g0 fr w M E => ?_
  refine sv (v := _) E rfl rfl rfl rfl rfl (run_assignC rfl) fun fr E => ?_
  refine seq_nil' ?_
  refine wp_seq ?_
  refine code_region ?_
  refine sv (v := .pointer (some ⟨_, 0, none⟩)) E rfl rfl rfl rfl rfl (run_fieldAddr rfl rfl T.fld67_0) fun fr E => ?_
  refine sv (v := .int .i64 _) E rfl rfl rfl rfl rfl (run_loadB rfl rfl T.one3 (M.row (i := 0) rfl) OpT.c_k) fun fr E => ?_
  refine seq_nil' ?_
  refine wp_block ?_
  refine code_region ?_
  refine sv (v := .bool false) E rfl rfl rfl rfl rfl (tst rfl (decide_eq_false (by omega))) fun fr E => ?_
  refine sv (v := _) E rfl rfl rfl rfl rfl (run_assign rfl rfl) fun fr E => ?_
  refine seq_nil' ?_
  refine cond_false E rfl (rfl) ?_
  refine code_region ?_
  refine sv (v := .bool true) E rfl rfl rfl rfl rfl (tst rfl (decide_eq_true hk)) fun fr E => ?_
  refine sv (v := _) E rfl rfl rfl rfl rfl (run_assign rfl rfl) fun fr E => ?_
  refine seq_nil' ?_
  refine cond_true E rfl (rfl) ?_
  refine code_region ?_
  refine sv (v := _) E rfl rfl rfl rfl rfl (run_move rfl rfl) fun fr E => ?_
  refine sv (v := .pointer (some ⟨_, 1, none⟩)) E rfl rfl rfl rfl rfl (run_fieldAddr rfl rfl T.fld67_1) fun fr E => ?_
  refine sv (v := .int .i64 _) E rfl rfl rfl rfl rfl (run_loadB rfl rfl T.one3 (M.row (i := 0) rfl) OpT.c_n) fun fr E => ?_
  refine sv (v := .pointer (some ⟨_, 139, none⟩)) E rfl rfl rfl rfl rfl (run_fieldAddr rfl rfl T.fld67_4) fun fr E => ?_
  refine sv (v := _) E rfl rfl rfl rfl rfl (run_loadB rfl rfl T.one30 (M.row (i := 0) rfl) (OpT.c_d hr)) fun fr E => ?_
  have M := M.pull 1 rfl
  refine scallI ([dkE D]) E M rfl rfl rfl rfl rfl (run_call rfl rfl T.fn35) rfl (fun H => Tamper_b H hD ((M.fact.1).less (fun g hg => ⟨dkE D, List.mem_cons_self .., hg⟩))) ?_
  rintro D1 fr w hD1 M E
  refine sv (v := _) E rfl rfl rfl rfl rfl (run_assign rfl rfl) fun fr E => ?_
  refine seq_nil' ?_
  refine wp_ret ?_
  refine block_ret ?_
  refine then_ret ?_
  refine ret1 E rfl rfl ?_
  have M := M.pull 2 rfl
  have M := M.pull 1 rfl
  exact ⟨(D1, N), rfl, Mem.fin (L := [dkE D1, nmE N] ++ _) M (List.sublist_append_left _ _) ⟨hD1, rfl, rfl, rfl⟩⟩

set_option maxRecDepth 100000 in
theorem run_3 {D : DV} {N : NV} {g : Nat} {A : AD} {o : OpT} {w0 : World} (H : Has w0 [dkE D, nmE N]) (hD : D.is g A) (hr : o.r.Ok) (hkz : N.ks.length ≤ 1099511627776) (hdb : FarB w0 (feet [dkE D, nmE N]) o.dv o.dl) (hli : FarI w0 (feet [dkE D, nmE N]) o.lv o.ll) (hk : o.k = 3) : Does Try.prog 36 [.pointer (some ⟨g, 0, none⟩), .iface 51 (.pointer (some ⟨N.gn, 0, none⟩)), .agg o.cells.toArray] w0 [dkE D, nmE N] (fun _ : DV × NV => .int .i64 A.sync.1) (fun x => [dkE x.1, nmE x.2]) (fun x => x.1.is g A.sync.2 ∧ x.2.gn = N.gn ∧ x.2.ks = N.ks ∧ x.2.ts = N.ts) := by
  refine enter (n := 61) Try.func36 rfl rfl rfl ?_
  intro fr E
  have M : Mem w0 (feet [dkE D, nmE N]) [dkE D, nmE N] (fun w' => FarB w' (feet [dkE D, nmE N]) o.dv o.dl ∧ FarI w' (feet [dkE D, nmE N]) o.lv o.ll) w0 := Mem.begin H (fun w' h => ⟨hdb.held h, hli.held h⟩)
  refine code_region ?_
  refine snew (ob := .cells (o.cells.toArray) 67) (fun g => .pointer (some ⟨g, 0, none⟩)) E M rfl rfl rfl rfl rfl (run_boxN (cs := (o.cells.toArray)) rfl rfl) fun g0 fr w M E => ?_
  refine sv (v := _) E rfl rfl rfl rfl rfl (run_assignC rfl) fun fr E => ?_
  refine seq_nil' ?_
  refine wp_seq ?_
  refine code_region ?_
  refine sv (v := .pointer (some ⟨_, 0, none⟩)) E rfl rfl rfl rfl rfl (run_fieldAddr rfl rfl T.fld67_0) fun fr E => ?_
  refine sv (v := .int .i64 _) E rfl rfl rfl rfl rfl (run_loadB rfl rfl T.one3 (M.row (i := 0) rfl) OpT.c_k) fun fr E => ?_
  refine seq_nil' ?_
  refine wp_block ?_
  refine code_region ?_
  refine sv (v := .bool false) E rfl rfl rfl rfl rfl (tst rfl (decide_eq_false (by omega))) fun fr E => ?_
  refine sv (v := _) E rfl rfl rfl rfl rfl (run_assign rfl rfl) fun fr E => ?_
  refine seq_nil' ?_
  refine cond_false E rfl (rfl) ?_
  refine code_region ?_
  refine sv (v := .bool false) E rfl rfl rfl rfl rfl (tst rfl (decide_eq_false (by omega))) fun fr E => ?_
  refine sv (v := _) E rfl rfl rfl rfl rfl (run_assign rfl rfl) fun fr E => ?_
  refine seq_nil' ?_
  refine cond_false E rfl (rfl) ?_
  refine code_region ?_
  refine sv (v := .bool false) E rfl rfl rfl rfl rfl (tst rfl (decide_eq_false (by omega))) fun fr E => ?_
  refine sv (v := _) E rfl rfl rfl rfl rfl (run_assign rfl rfl) fun fr E => ?_
  refine seq_nil' ?_
  refine cond_false E rfl (rfl) ?_
  refine code_region ?_
  refine sv (v := .bool true) E rfl rfl rfl rfl rfl (tst rfl (decide_eq_true hk)) fun fr E => ?_
  refine sv (v := _) E rfl rfl rfl rfl rfl (run_assign rfl rfl) fun fr E => ?_
  refine seq_nil' ?_
  refine cond_true E rfl (rfl) ?_
  refine code_region ?_
  refine sv (v := _) E rfl rfl rfl rfl rfl (run_move rfl rfl) fun fr E => ?_
  have M := M.pull 1 rfl
  refine scallI ([dkE D]) E M rfl rfl rfl rfl rfl (run_call rfl rfl T.fn32) rfl (fun H => Sync_a H hD) ?_
  rintro D1 fr w hD1 M E
  refine sv (v := _) E rfl rfl rfl rfl rfl (run_assign rfl rfl) fun fr E => ?_
  refine seq_nil' ?_
  refine wp_ret ?_
  refine block_ret ?_
  refine then_ret ?_
  refine ret1 E rfl rfl ?_
  have M := M.pull 2 rfl
  have M := M.pull 1 rfl
  exact ⟨(D1, N), rfl, Mem.fin (L := [dkE D1, nmE N] ++ _) M (List.sublist_append_left _ _) ⟨hD1, rfl, rfl, rfl⟩⟩

set_option maxRecDepth 100000 in
theorem run_4 {D : DV} {N : NV} {g : Nat} {A : AD} {o : OpT} {w0 : World} (H : Has w0 [dkE D, nmE N]) (hD : D.is g A) (hr : o.r.Ok) (hkz : N.ks.length ≤ 1099511627776) (hdb : FarB w0 (feet [dkE D, nmE N]) o.dv o.dl) (hli : FarI w0 (feet [dkE D, nmE N]) o.lv o.ll) (hk : o.k = 4) : Does Try.prog 36 [.pointer (some ⟨g, 0, none⟩), .iface 51 (.pointer (some ⟨N.gn, 0, none⟩)), .agg o.cells.toArray] w0 [dkE D, nmE N] (fun _ : DV × NV => .int .i64 0) (fun x => [dkE x.1, nmE x.2]) (fun x => x.1.is g (A.crash o.ll) ∧ x.2.gn = N.gn ∧ x.2.ks = N.ks ∧ x.2.ts = N.ts) := by
  refine enter (n := 61) Try.func36 rfl rfl rfl ?_
  intro fr E
  have M : Mem w0 (feet [dkE D, nmE N]) [dkE D, nmE N] (fun w' => FarB w' (feet [dkE D, nmE N]) o.dv o.dl ∧ FarI w' (feet [dkE D, nmE N]) o.lv o.ll) w0 := Mem.begin H (fun w' h => ⟨hdb.held h, hli.held h⟩)
  refine code_region ?_
  refine snew (ob := .cells (o.cells.toArray) 67) (fun g => .pointer (some ⟨g, 0, none⟩)) E M rfl rfl rfl rfl rfl (run_boxN (cs := (o.cells.toArray)) rfl rfl) fun g0 fr w M E => ?_
  refine sv (v := _) E rfl rfl rfl rfl rfl (run_assignC rfl) fun fr E => ?_
  refine seq_nil' ?_
  refine wp_seq ?_
  refine code_region ?_
  refine sv (v := .pointer (some ⟨_, 0, none⟩)) E rfl rfl rfl rfl rfl (run_fieldAddr rfl rfl T.fld67_0) fun fr E => ?_
  refine sv (v := .int .i64 _) E rfl rfl rfl rfl rfl (run_loadB rfl rfl T.one3 (M.row (i := 0) rfl) OpT.c_k) fun fr E => ?_
  refine seq_nil' ?_
  refine wp_block ?_
  refine code_region ?_
  refine sv (v := .bool false) E rfl rfl rfl rfl rfl (tst rfl (decide_eq_false (by omega))) fun fr E => ?_
  refine sv (v := _) E rfl rfl rfl rfl rfl (run_assign rfl rfl) fun fr E => ?_
  refine seq_nil' ?_
  refine cond_false E rfl (rfl) ?_
  refine code_region ?_
  refine sv (v := .bool false) E rfl rfl rfl rfl rfl (tst rfl (decide_eq_false (by omega))) fun fr E => ?_
  refine sv (v := _) E rfl rfl rfl rfl rfl (run_assign rfl rfl) fun fr E => ?_
  refine seq_nil' ?_
  refine cond_false E rfl (rfl) ?_
  refine code_region ?_
  refine sv (v := .bool false) E rfl rfl rfl rfl rfl (tst rfl (decide_eq_false (by omega))) fun fr E => ?_
  refine sv (v := _) E rfl rfl rfl rfl rfl (run_assign rfl rfl) fun fr E => ?_
  refine seq_nil' ?_
  refine cond_false E rfl (rfl) ?_
  refine code_region ?_
  refine sv (v := .bool false) E rfl rfl rfl rfl rfl (tst rfl (decide_eq_false (by omega))) fun fr E => ?_
  refine sv (v := _) E rfl rfl rfl rfl rfl (run_assign rfl rfl) fun fr E => ?_
  refine seq_nil' ?_
  refine cond_false E rfl (rfl) ?_
  refine code_region ?_
  refine sv (v := .bool true) E rfl rfl rfl rfl rfl (tst rfl (decide_eq_true hk)) fun fr E => ?_
  refine sv (v := _) E rfl rfl rfl rfl rfl (run_assign rfl rfl) fun fr E => ?_
  refine seq_nil' ?_
  refine cond_true E rfl (rfl) ?_
  refine code_last ?_
  refine sv (v := _) E rfl rfl rfl rfl rfl (run_move rfl rfl) fun fr E => ?_
  refine sv (v := .pointer (some ⟨_, 140, none⟩)) E rfl rfl rfl rfl rfl (run_fieldAddr rfl rfl T.fld67_5) fun fr E => ?_
  refine sv (v := _) E rfl rfl rfl rfl rfl (run_loadB rfl rfl T.one58 (M.row (i := 0) rfl) (OpT.c_l hr)) fun fr E => ?_
  have M := M.pull 1 rfl
  refine scallI ([dkE D]) E M rfl rfl rfl rfl rfl (run_call rfl rfl T.fn33) rfl (fun H => Crash_b H hD ((M.fact.2).less (fun g hg => ⟨dkE D, List.mem_cons_self .., hg⟩))) ?_
  rintro D1 fr w hD1 M E
  refine seq_nil ?_
  refine block_normal ?_
  refine then_normal ?_
  refine code_region ?_
  refine sv (v := _) E rfl rfl rfl rfl rfl (run_assignC rfl) fun fr E => ?_
  refine seq_nil' ?_
  refine wp_ret ?_
  refine ret1 E rfl rfl ?_
  have M := M.pull 2 rfl
  have M := M.pull 1 rfl
  exact ⟨(D1, N), rfl, Mem.fin (L := [dkE D1, nmE N] ++ _) M (List.sublist_append_left _ _) ⟨hD1, rfl, rfl, rfl⟩⟩

set_option maxRecDepth 100000 in
theorem run_5 {D : DV} {N : NV} {g : Nat} {A : AD} {o : OpT} {w0 : World} (H : Has w0 [dkE D, nmE N]) (hD : D.is g A) (hr : o.r.Ok) (hkz : N.ks.length ≤ 1099511627776) (hdb : FarB w0 (feet [dkE D, nmE N]) o.dv o.dl) (hli : FarI w0 (feet [dkE D, nmE N]) o.lv o.ll) (hk : o.k = 5) : Does Try.prog 36 [.pointer (some ⟨g, 0, none⟩), .iface 51 (.pointer (some ⟨N.gn, 0, none⟩)), .agg o.cells.toArray] w0 [dkE D, nmE N] (fun _ : DV × NV => .int .i64 0) (fun x => [dkE x.1, nmE x.2]) (fun x => x.1.is g (A.arm o.n) ∧ x.2.gn = N.gn ∧ x.2.ks = N.ks ∧ x.2.ts = N.ts) := by
  refine enter (n := 61) Try.func36 rfl rfl rfl ?_
  intro fr E
  have M : Mem w0 (feet [dkE D, nmE N]) [dkE D, nmE N] (fun w' => FarB w' (feet [dkE D, nmE N]) o.dv o.dl ∧ FarI w' (feet [dkE D, nmE N]) o.lv o.ll) w0 := Mem.begin H (fun w' h => ⟨hdb.held h, hli.held h⟩)
  refine code_region ?_
  refine snew (ob := .cells (o.cells.toArray) 67) (fun g => .pointer (some ⟨g, 0, none⟩)) E M rfl rfl rfl rfl rfl (run_boxN (cs := (o.cells.toArray)) rfl rfl) fun g0 fr w M E => ?_
  refine sv (v := _) E rfl rfl rfl rfl rfl (run_assignC rfl) fun fr E => ?_
  refine seq_nil' ?_
  refine wp_seq ?_
  refine code_region ?_
  refine sv (v := .pointer (some ⟨_, 0, none⟩)) E rfl rfl rfl rfl rfl (run_fieldAddr rfl rfl T.fld67_0) fun fr E => ?_
  refine sv (v := .int .i64 _) E rfl rfl rfl rfl rfl (run_loadB rfl rfl T.one3 (M.row (i := 0) rfl) OpT.c_k) fun fr E => ?_
  refine seq_nil' ?_
  refine wp_block ?_
  refine code_region ?_
  refine sv (v := .bool false) E rfl rfl rfl rfl rfl (tst rfl (decide_eq_false (by omega))) fun fr E => ?_
  refine sv (v := _) E rfl rfl rfl rfl rfl (run_assign rfl rfl) fun fr E => ?_
  refine seq_nil' ?_
  refine cond_false E rfl (rfl) ?_
  refine code_region ?_
  refine sv (v := .bool false) E rfl rfl rfl rfl rfl (tst rfl (decide_eq_false (by omega))) fun fr E => ?_
  refine sv (v := _) E rfl rfl rfl rfl rfl (run_assign rfl rfl) fun fr E => ?_
  refine seq_nil' ?_
  refine cond_false E rfl (rfl) ?_
  refine code_region ?_
  refine sv (v := .bool false) E rfl rfl rfl rfl rfl (tst rfl (decide_eq_false (by omega))) fun fr E => ?_
  refine sv (v := _) E rfl rfl rfl rfl rfl (run_assign rfl rfl) fun fr E => ?_
  refine seq_nil' ?_
  refine cond_false E rfl (rfl) ?_
  refine code_region ?_
  refine sv (v := .bool false) E rfl rfl rfl rfl rfl (tst rfl (decide_eq_false (by omega))) fun fr E => ?_
  refine sv (v := _) E rfl rfl rfl rfl rfl (run_assign rfl rfl) fun fr E => ?_
  refine seq_nil' ?_
  refine cond_false E rfl (rfl) ?_
  refine code_region ?_
  refine sv (v := .bool false) E rfl rfl rfl rfl rfl (tst rfl (decide_eq_false (by omega))) fun fr E => ?_
  refine sv (v := _) E rfl rfl rfl rfl rfl (run_assign rfl rfl) fun fr E => ?_
  refine seq_nil' ?_
  refine cond_false E rfl (rfl) ?_
  refine code_region ?_
  refine sv (v := .bool true) E rfl rfl rfl rfl rfl (tst rfl (decide_eq_true hk)) fun fr E => ?_
  refine sv (v := _) E rfl rfl rfl rfl rfl (run_assign rfl rfl) fun fr E => ?_
  refine seq_nil' ?_
  refine cond_true E rfl (rfl) ?_
  refine code_last ?_
  refine sv (v := _) E rfl rfl rfl rfl rfl (run_move rfl rfl) fun fr E => ?_
  refine sv (v := .pointer (some ⟨_, 1, none⟩)) E rfl rfl rfl rfl rfl (run_fieldAddr rfl rfl T.fld67_1) fun fr E => ?_
  refine sv (v := .int .i64 _) E rfl rfl rfl rfl rfl (run_loadB rfl rfl T.one3 (M.row (i := 0) rfl) OpT.c_n) fun fr E => ?_
  have M := M.pull 1 rfl
  refine scallI ([dkE D]) E M rfl rfl rfl rfl rfl (run_call rfl rfl T.fn69) rfl (fun H => Arm_a H hD o.n) ?_
  rintro D1 fr w hD1 M E
  refine seq_nil ?_
  refine block_normal ?_
  refine then_normal ?_
  refine code_region ?_
  refine sv (v := _) E rfl rfl rfl rfl rfl (run_assignC rfl) fun fr E => ?_
  refine seq_nil' ?_
  refine wp_ret ?_
  refine ret1 E rfl rfl ?_
  have M := M.pull 2 rfl
  have M := M.pull 1 rfl
  exact ⟨(D1, N), rfl, Mem.fin (L := [dkE D1, nmE N] ++ _) M (List.sublist_append_left _ _) ⟨hD1, rfl, rfl, rfl⟩⟩

set_option maxRecDepth 100000 in
theorem run_6 {D : DV} {N : NV} {g : Nat} {A : AD} {o : OpT} {w0 : World} (H : Has w0 [dkE D, nmE N]) (hD : D.is g A) (hr : o.r.Ok) (hkz : N.ks.length ≤ 1099511627776) (hdb : FarB w0 (feet [dkE D, nmE N]) o.dv o.dl) (hli : FarI w0 (feet [dkE D, nmE N]) o.lv o.ll) (hk : ¬ (0 ≤ o.k ∧ o.k ≤ 5)) : Does Try.prog 36 [.pointer (some ⟨g, 0, none⟩), .iface 51 (.pointer (some ⟨N.gn, 0, none⟩)), .agg o.cells.toArray] w0 [dkE D, nmE N] (fun _ : DV × NV => .int .i64 0) (fun x => [dkE x.1, nmE x.2]) (fun x => x.1.is g A ∧ x.2.gn = N.gn ∧ x.2.ks = N.ks ∧ x.2.ts = N.ts) := by
  refine enter (n := 61) Try.func36 rfl rfl rfl ?_
  intro fr E
  have M : Mem w0 (feet [dkE D, nmE N]) [dkE D, nmE N] (fun w' => FarB w' (feet [dkE D, nmE N]) o.dv o.dl ∧ FarI w' (feet [dkE D, nmE N]) o.lv o.ll) w0 := Mem.begin H (fun w' h => ⟨hdb.held h, hli.held h⟩)
  refine code_region ?_
  refine snew (ob := .cells (o.cells.toArray) 67) (fun g => .pointer (some ⟨g, 0, none⟩)) E M rfl rfl rfl rfl rfl (run_boxN (cs := (o.cells.toArray)) rfl rfl) fun g0 fr w M E => ?_
  refine sv (v := _) E rfl rfl rfl rfl rfl (run_assignC rfl) fun fr E => ?_
  refine seq_nil' ?_
  refine wp_seq ?_
  refine code_region ?_
  refine sv (v := .pointer (some ⟨_, 0, none⟩)) E rfl rfl rfl rfl rfl (run_fieldAddr rfl rfl T.fld67_0) fun fr E => ?_
  refine sv (v := .int .i64 _) E rfl rfl rfl rfl rfl (run_loadB rfl rfl T.one3 (M.row (i := 0) rfl) OpT.c_k) fun fr E => ?_
  refine seq_nil' ?_
  refine wp_block ?_
  refine code_region ?_
  refine sv (v := .bool false) E rfl rfl rfl rfl rfl (tst rfl (decide_eq_false (by omega))) fun fr E => ?_
  refine sv (v := _) E rfl rfl rfl rfl rfl (run_assign rfl rfl) fun fr E => ?_
  refine seq_nil' ?_
  refine cond_false E rfl (rfl) ?_
  refine code_region ?_
  refine sv (v := .bool false) E rfl rfl rfl rfl rfl (tst rfl (decide_eq_false (by omega))) fun fr E => ?_
  refine sv (v := _) E rfl rfl rfl rfl rfl (run_assign rfl rfl) fun fr E => ?_
  refine seq_nil' ?_
  refine cond_false E rfl (rfl) ?_
  refine code_region ?_
  refine sv (v := .bool false) E rfl rfl rfl rfl rfl (tst rfl (decide_eq_false (by omega))) fun fr E => ?_
  refine sv (v := _) E rfl rfl rfl rfl rfl (run_assign rfl rfl) fun fr E => ?_
  refine seq_nil' ?_
  refine cond_false E rfl (rfl) ?_
  refine code_region ?_
  refine sv (v := .bool false) E rfl rfl rfl rfl rfl (tst rfl (decide_eq_false (by omega))) fun fr E => ?_
  refine sv (v := _) E rfl rfl rfl rfl rfl (run_assign rfl rfl) fun fr E => ?_
  refine seq_nil' ?_
  refine cond_false E rfl (rfl) ?_
  refine code_region ?_
  refine sv (v := .bool false) E rfl rfl rfl rfl rfl (tst rfl (decide_eq_false (by omega))) fun fr E => ?_
  refine sv (v := _) E rfl rfl rfl rfl rfl (run_assign rfl rfl) fun fr E => ?_
  refine seq_nil' ?_
  refine cond_false E rfl (rfl) ?_
  refine code_region ?_
  refine sv (v := .bool false) E rfl rfl rfl rfl rfl (tst rfl (decide_eq_false (by omega))) fun fr E => ?_
  refine sv (v := _) E rfl rfl rfl rfl rfl (run_assign rfl rfl) fun fr E => ?_
  refine seq_nil' ?_
  refine cond_false E rfl (rfl) ?_
  refine wp_skip ?_
  refine block_normal ?_
  refine then_normal ?_
  refine code_region ?_
  refine sv (v := _) E rfl rfl rfl rfl rfl (run_assignC rfl) fun fr E => ?_
  refine seq_nil' ?_
  refine wp_ret ?_
  refine ret1 E rfl rfl ?_
  have M := M.pull 2 rfl
  have M := M.pull 2 rfl
  exact ⟨(D, N), rfl, Mem.fin (L := [dkE D, nmE N] ++ _) M (List.sublist_append_left _ _) ⟨hD, rfl, rfl, rfl⟩⟩

set_option maxRecDepth 100000 in
theorem run_2o {D : DV} {N : NV} {g : Nat} {A : AD} {o : OpT} {w0 : World} (H : Has w0 [dkE D, nmE N]) (hD : D.is g A) (hr : o.r.Ok) (hkz : N.ks.length ≤ 1099511627776) (hdb : FarB w0 (feet [dkE D, nmE N]) o.dv o.dl) (hli : FarI w0 (feet [dkE D, nmE N]) o.lv o.ll) (hk : o.k = 2) (h : ¬ A.there o.m) : Does Try.prog 36 [.pointer (some ⟨g, 0, none⟩), .iface 51 (.pointer (some ⟨N.gn, 0, none⟩)), .agg o.cells.toArray] w0 [dkE D, nmE N] (fun _ : DV × NV => .int .i64 7) (fun x => [dkE x.1, nmE x.2]) (fun x => x.1.is g A ∧ x.2.gn = N.gn ∧ x.2.ks = N.ks ∧ x.2.ts = N.ts) := by
  refine enter (n := 61) Try.func36 rfl rfl rfl ?_
  intro fr E
  have M : Mem w0 (feet [dkE D, nmE N]) [dkE D, nmE N] (fun w' => FarB w' (feet [dkE D, nmE N]) o.dv o.dl ∧ FarI w' (feet [dkE D, nmE N]) o.lv o.ll) w0 := Mem.begin H (fun w' h => ⟨hdb.held h, hli.held h⟩)
  refine code_region ?_
  refine snew (ob := .cells (o.cells.toArray) 67) (fun g => .pointer (some ⟨g, 0, none⟩)) E M rfl rfl rfl rfl rfl (run_boxN (cs := (o.cells.toArray)) rfl rfl) fun g0 fr w M E => ?_
  refine sv (v := _) E rfl rfl rfl rfl rfl (run_assignC rfl) fun fr E => ?_
  refine seq_nil' ?_
  refine wp_seq ?_
  refine code_region ?_
  refine sv (v := .pointer (some ⟨_, 0, none⟩)) E rfl rfl rfl rfl rfl (run_fieldAddr rfl rfl T.fld67_0) fun fr E => ?_
  refine sv (v := .int .i64 _) E rfl rfl rfl rfl rfl (run_loadB rfl rfl T.one3 (M.row (i := 0) rfl) OpT.c_k) fun fr E => ?_
  refine seq_nil' ?_
  refine wp_block ?_
  refine code_region ?_
  refine sv (v := .bool false) E rfl rfl rfl rfl rfl (tst rfl (decide_eq_false (by omega))) fun fr E => ?_
  refine sv (v := _) E rfl rfl rfl rfl rfl (run_assign rfl rfl) fun fr E => ?_
  refine seq_nil' ?_
  refine cond_false E rfl (rfl) ?_
  refine code_region ?_
  refine sv (v := .bool false) E rfl rfl rfl rfl rfl (tst rfl (decide_eq_false (by omega))) fun fr E => ?_
  refine sv (v := _) E rfl rfl rfl rfl rfl (run_assign rfl rfl) fun fr E => ?_
  refine seq_nil' ?_
  refine cond_false E rfl (rfl) ?_
  refine code_region ?_
  refine sv (v := .bool true) E rfl rfl rfl rfl rfl (tst rfl (decide_eq_true hk)) fun fr E => ?_
  refine sv (v := _) E rfl rfl rfl rfl rfl (run_assign rfl rfl) fun fr E => ?_
  refine seq_nil' ?_
  refine cond_true E rfl (rfl) ?_
  refine code_region ?_
  refine sv (v := _) E rfl rfl rfl rfl rfl (run_move rfl rfl) fun fr E => ?_
  refine sv (v := .pointer (some ⟨_, 2, none⟩)) E rfl rfl rfl rfl rfl (run_fieldAddr rfl rfl T.fld67_2) fun fr E => ?_
  refine sv (v := .int .i64 _) E rfl rfl rfl rfl rfl (run_loadB rfl rfl T.one3 (M.row (i := 0) rfl) OpT.c_m) fun fr E => ?_
  have M := M.pull 1 rfl
  refine scallI ([dkE D]) E M rfl rfl rfl rfl rfl (run_call rfl rfl T.fn37) rfl (fun H => Read_o H hD h) ?_
  rintro D1 fr w hD1 M E
  refine sv (v := _) E rfl rfl rfl rfl rfl (run_move rfl rfl) fun fr E => ?_
  refine sv (v := _) E rfl rfl rfl rfl rfl (run_extract rfl rfl rfl) fun fr E => ?_
  refine sv (v := _) E rfl rfl rfl rfl rfl (run_extract rfl rfl rfl) fun fr E => ?_
  refine sv (v := _) E rfl rfl rfl rfl rfl (run_assign rfl rfl) fun fr E => ?_
  refine sv (v := _) E rfl rfl rfl rfl rfl (run_assign rfl rfl) fun fr E => ?_
  refine seq_nil' ?_
  refine wp_seq ?_
  refine code_region ?_
  refine sv (v := _) E rfl rfl rfl rfl rfl (run_move rfl rfl) fun fr E => ?_
  refine sv (v := .bool true) E rfl rfl rfl rfl rfl (tst rfl (rfl)) fun fr E => ?_
  refine seq_nil' ?_
  refine cond_true E rfl (rfl) ?_
  refine code_region ?_
  refine sv (v := _) E rfl rfl rfl rfl rfl (run_move rfl rfl) fun fr E => ?_
  refine sv (v := _) E rfl rfl rfl rfl rfl (run_assign rfl rfl) fun fr E => ?_
  refine seq_nil' ?_
  refine wp_ret ?_
  refine then_ret ?_
  refine block_ret ?_
  refine then_ret ?_
  refine ret1 E rfl rfl ?_
  have M := M.pull 2 rfl
  have M := M.pull 1 rfl
  exact ⟨(D1, N), rfl, Mem.fin (L := [dkE D1, nmE N] ++ _) M (List.sublist_append_left _ _) ⟨hD1, rfl, rfl, rfl⟩⟩

set_option maxRecDepth 100000 in
theorem run_2i {D : DV} {N : NV} {g : Nat} {A : AD} {o : OpT} {w0 : World} (H : Has w0 [dkE D, nmE N]) (hD : D.is g A) (hr : o.r.Ok) (hkz : N.ks.length ≤ 1099511627776) (hdb : FarB w0 (feet [dkE D, nmE N]) o.dv o.dl) (hli : FarI w0 (feet [dkE D, nmE N]) o.lv o.ll) {j : Nat} (hk : o.k = 2) (hm : o.m = (j : Int)) (hj : j < A.n) : Does Try.prog 36 [.pointer (some ⟨g, 0, none⟩), .iface 51 (.pointer (some ⟨N.gn, 0, none⟩)), .agg o.cells.toArray] w0 [dkE D, nmE N] (fun _ : DV × NV => .int .i64 ((A.bump j).tamper o.n (A.read j)).1) (fun x => [dkE x.1, nmE x.2]) (fun x => x.1.is g ((A.bump j).tamper o.n (A.read j)).2 ∧ x.2.gn = N.gn ∧ x.2.ks = N.ks ∧ x.2.ts = N.ts) := by
  refine enter (n := 61) Try.func36 rfl rfl rfl ?_
  intro fr E
  have M : Mem w0 (feet [dkE D, nmE N]) [dkE D, nmE N] (fun w' => FarB w' (feet [dkE D, nmE N]) o.dv o.dl ∧ FarI w' (feet [dkE D, nmE N]) o.lv o.ll) w0 := Mem.begin H (fun w' h => ⟨hdb.held h, hli.held h⟩)
  refine code_region ?_
  refine snew (ob := .cells (o.cells.toArray) 67) (fun g => .pointer (some ⟨g, 0, none⟩)) E M rfl rfl rfl rfl rfl (run_boxN (cs := (o.cells.toArray)) rfl rfl) fun g0 fr w M E => ?_
  refine sv (v := _) E rfl rfl rfl rfl rfl (run_assignC rfl) fun fr E => ?_
  refine seq_nil' ?_
  refine wp_seq ?_
  refine code_region ?_
  refine sv (v := .pointer (some ⟨_, 0, none⟩)) E rfl rfl rfl rfl rfl (run_fieldAddr rfl rfl T.fld67_0) fun fr E => ?_
  refine sv (v := .int .i64 _) E rfl rfl rfl rfl rfl (run_loadB rfl rfl T.one3 (M.row (i := 0) rfl) OpT.c_k) fun fr E => ?_
  refine seq_nil' ?_
  refine wp_block ?_
  refine code_region ?_
  refine sv (v := .bool false) E rfl rfl rfl rfl rfl (tst rfl (decide_eq_false (by omega))) fun fr E => ?_
  refine sv (v := _) E rfl rfl rfl rfl rfl (run_assign rfl rfl) fun fr E => ?_
  refine seq_nil' ?_
  refine cond_false E rfl (rfl) ?_
  refine code_region ?_
  refine sv (v := .bool false) E rfl rfl rfl rfl rfl (tst rfl (decide_eq_false (by omega))) fun fr E => ?_
  refine sv (v := _) E rfl rfl rfl rfl rfl (run_assign rfl rfl) fun fr E => ?_
  refine seq_nil' ?_
  refine cond_false E rfl (rfl) ?_
  refine code_region ?_
  refine sv (v := .bool true) E rfl rfl rfl rfl rfl (tst rfl (decide_eq_true hk)) fun fr E => ?_
  refine sv (v := _) E rfl rfl rfl rfl rfl (run_assign rfl rfl) fun fr E => ?_
  refine seq_nil' ?_
  refine cond_true E rfl (rfl) ?_
  refine code_region ?_
  refine sv (v := _) E rfl rfl rfl rfl rfl (run_move rfl rfl) fun fr E => ?_
  refine sv (v := .pointer (some ⟨_, 2, none⟩)) E rfl rfl rfl rfl rfl (run_fieldAddr rfl rfl T.fld67_2) fun fr E => ?_
  refine sv (v := .int .i64 (j : Int)) E rfl rfl rfl rfl rfl (run_loadB rfl rfl T.one3 (M.row (i := 0) rfl) (by rw [← hm]; exact OpT.c_m)) fun fr E => ?_
  have M := M.pull 1 rfl
  refine scallI ([dkE D]) E M rfl rfl rfl rfl rfl (run_call rfl rfl T.fn37) rfl (fun H => Read_a H hD hj) ?_
  rintro ⟨c, D1⟩ fr w hD1 M E
  refine sv (v := _) E rfl rfl rfl rfl rfl (run_move rfl rfl) fun fr E => ?_
  refine sv (v := _) E rfl rfl rfl rfl rfl (run_extract rfl rfl rfl) fun fr E => ?_
  refine sv (v := _) E rfl rfl rfl rfl rfl (run_extract rfl rfl rfl) fun fr E => ?_
  refine sv (v := _) E rfl rfl rfl rfl rfl (run_assign rfl rfl) fun fr E => ?_
  refine sv (v := _) E rfl rfl rfl rfl rfl (run_assign rfl rfl) fun fr E => ?_
  refine seq_nil' ?_
  refine wp_seq ?_
  refine code_region ?_
  refine sv (v := _) E rfl rfl rfl rfl rfl (run_move rfl rfl) fun fr E => ?_
  refine sv (v := .bool false) E rfl rfl rfl rfl rfl (tst rfl (rfl)) fun fr E => ?_
  refine seq_nil' ?_
  refine cond_false E rfl (rfl) ?_
  refine wp_skip ?_
  refine then_normal ?_
  refine code_region ?_
  refine sv (v := _) E rfl rfl rfl rfl rfl (run_move rfl rfl) fun fr E => ?_
  refine sv (v := .pointer (some ⟨_, 1, none⟩)) E rfl rfl rfl rfl rfl (run_fieldAddr rfl rfl T.fld67_1) fun fr E => ?_
  refine sv (v := .int .i64 _) E rfl rfl rfl rfl rfl (run_loadB rfl rfl T.one3 (M.row (i := 2) rfl) OpT.c_n) fun fr E => ?_
  refine sv (v := _) E rfl rfl rfl rfl rfl (run_move rfl rfl) fun fr E => ?_
  have M := M.pull 1 rfl
  refine scallI ([dkE D1]) E M rfl rfl rfl rfl rfl (run_call rfl rfl T.fn35) rfl (fun H => Tamper_a H hD1 (M.bytes 1 rfl) (M.off (i := 0) (j := 1) rfl rfl rfl)) ?_
  rintro D2 fr w hD2 M E
  refine sv (v := _) E rfl rfl rfl rfl rfl (run_assign rfl rfl) fun fr E => ?_
  refine seq_nil' ?_
  refine wp_ret ?_
  refine block_ret ?_
  refine then_ret ?_
  refine ret1 E rfl rfl ?_
  have M := M.pull 3 rfl
  have M := M.pull 1 rfl
  exact ⟨(D2, N), rfl, Mem.fin (L := [dkE D2, nmE N] ++ _) M (List.sublist_append_left _ _) ⟨hD2, rfl, rfl, rfl⟩⟩

/-- What an operation answers, and leaves. -/
def runA (A : AD) (ks : List NKey) (o : OpT) : Int × AD × List NKey :=
  if o.k = 0 then regW A ks o.r o.n else if o.k = 1 then ((A.tamper o.n o.dl).1, (A.tamper o.n o.dl).2, ks)
  else if o.k = 2 then (if A.there o.m then (((A.bump o.m.toNat).tamper o.n (A.read o.m.toNat)).1, ((A.bump o.m.toNat).tamper o.n (A.read o.m.toNat)).2, ks) else (7, A, ks))
  else if o.k = 3 then (A.sync.1, A.sync.2, ks) else if o.k = 4 then (0, A.crash o.ll, ks) else if o.k = 5 then (0, A.arm o.n, ks) else (0, A, ks)
theorem run_x {D : DV} {N : NV} {g : Nat} {A : AD} {o : OpT} {w0 : World} (H : Has w0 [dkE D, nmE N]) (hD : D.is g A) (hr : o.r.Ok) (hkz : N.ks.length ≤ 1099511627776) (hdb : FarB w0 (feet [dkE D, nmE N]) o.dv o.dl) (hli : FarI w0 (feet [dkE D, nmE N]) o.lv o.ll) : Does Try.prog 36 [.pointer (some ⟨g, 0, none⟩), .iface 51 (.pointer (some ⟨N.gn, 0, none⟩)), .agg o.cells.toArray] w0 [dkE D, nmE N] (fun _ : DV × NV => .int .i64 (runA A N.ks o).1) (fun x => [dkE x.1, nmE x.2]) (fun x => x.1.is g (runA A N.ks o).2.1 ∧ x.2.gn = N.gn ∧ x.2.ks = (runA A N.ks o).2.2 ∧ x.2.ts = N.ts) := by
  by_cases h0 : o.k = 0
  · have e : runA A N.ks o = regW A N.ks o.r o.n := by unfold runA; rw [if_pos h0]
    rw [e]; exact run_0 H hD hr hkz hdb hli h0
  by_cases h1 : o.k = 1
  · have e : runA A N.ks o = ((A.tamper o.n o.dl).1, (A.tamper o.n o.dl).2, N.ks) := by unfold runA; rw [if_neg h0, if_pos h1]
    rw [e]; exact run_1 H hD hr hkz hdb hli h1
  by_cases h2 : o.k = 2
  · by_cases ht : A.there o.m
    · have e : runA A N.ks o = (((A.bump o.m.toNat).tamper o.n (A.read o.m.toNat)).1, ((A.bump o.m.toNat).tamper o.n (A.read o.m.toNat)).2, N.ks) := by unfold runA; rw [if_neg h0, if_neg h1, if_pos h2, if_pos ht]
      have ht' : 0 ≤ o.m ∧ o.m < (A.n : Int) := ht
      rw [e]; exact run_2i H hD hr hkz hdb hli h2 (by omega) (by omega)
    · have e : runA A N.ks o = (7, A, N.ks) := by unfold runA; rw [if_neg h0, if_neg h1, if_pos h2, if_neg ht]
      rw [e]; exact run_2o H hD hr hkz hdb hli h2 ht
  by_cases h3 : o.k = 3
  · have e : runA A N.ks o = (A.sync.1, A.sync.2, N.ks) := by unfold runA; rw [if_neg h0, if_neg h1, if_neg h2, if_pos h3]
    rw [e]; exact run_3 H hD hr hkz hdb hli h3
  by_cases h4 : o.k = 4
  · have e : runA A N.ks o = (0, A.crash o.ll, N.ks) := by unfold runA; rw [if_neg h0, if_neg h1, if_neg h2, if_neg h3, if_pos h4]
    rw [e]; exact run_4 H hD hr hkz hdb hli h4
  by_cases h5 : o.k = 5
  · have e : runA A N.ks o = (0, A.arm o.n, N.ks) := by unfold runA; rw [if_neg h0, if_neg h1, if_neg h2, if_neg h3, if_neg h4, if_pos h5]
    rw [e]; exact run_5 H hD hr hkz hdb hli h5
  have e : runA A N.ks o = (0, A, N.ks) := by unfold runA; rw [if_neg h0, if_neg h1, if_neg h2, if_neg h3, if_neg h4, if_neg h5]
  rw [e]; exact run_6 H hD hr hkz hdb hli (by omega)
end Go.Proofs.Ytnojooafgehhaaa.K
end
section
namespace Go.Proofs.Ytnojooafgehhaaa.K
open Go.RowKit Go.Rill Go.Proofs
set_option linter.unusedVariables false
set_option linter.unusedSimpArgs false
/-- All that was sealed are records of these. -/
def Told (ks : List NKey) (told : List Rec) : Prop := ∀ k ∈ ks, ∃ r ∈ told, r.Ok ∧ r.May ∧ ∃ num, k = r.key num
theorem Told.nil (told : List Rec) : Told [] told := fun k hk => nomatch hk
theorem Told.more {ks : List NKey} {told : List Rec} (h : Told ks told) (r : Rec) : Told ks (told ++ [r]) := fun k hk => by
  obtain ⟨q, hq, h2⟩ := h k hk
  exact ⟨q, List.mem_append_left _ hq, h2⟩
theorem Told.sealed {ks : List NKey} {told : List Rec} (h : Told ks told) {A : AD} {r : Rec} (hr : r.Ok) (num : Int) : Told (regW A ks r num).2.2 (told ++ [r]) := by
  unfold regW
  split
  · rename_i hc
    show Told (sealS ks r.epoch num (hdB 2 (1 + r.gen.tmod 2)) r.bytes) _
    unfold sealS
    split
    · intro k hk
      unfold sealKs at hk
      split at hk
      · exact h.more r k hk
      · rcases List.mem_append.1 hk with hk | hk
        · exact h.more r k hk
        · rw [List.mem_singleton.1 hk]
          exact ⟨r, by simp, hr, hc.1, num, rfl⟩
    · exact h.more r
  · exact h.more r
theorem nat_in {K : Type} [DecidableEq K] {k : K} : ∀ {ks : List K} {i m : Nat}, nat' k ks i = some m → k ∈ ks
  | [], _, _, h => by cases h
  | q :: ks, i, m, h => by
    unfold nat' at h
    split at h
    · rename_i e; subst e; exact List.mem_cons_self ..
    · exact List.mem_cons_of_mem _ (nat_in h)
theorem open_in {ks : List NKey} {e n : Int} {h l q : List UInt8} (ho : openN ks e n h l = some q) : (⟨e, n, h, q⟩ : NKey) ∈ ks := by
  unfold openN at ho
  split at ho
  · cases ho
  · split at ho
    · cases ho
    · rename_i m hm
      split at ho
      · injection ho with ho
        subst ho
        exact nat_in hm
      · cases ho
theorem one_told {A : AD} {ks : List NKey} {told : List Rec} (h : Told ks told) {j : Nat} {x : Rec} (ho : oneX A ks j = (x, true)) : x ∈ told ∧ 1 + x.gen.tmod 2 = (j : Int) := by
  unfold oneX at ho
  split at ho
  · simp at ho
  · rename_i e n q hs
    simp only [Prod.mk.injEq, decide_eq_true_eq] at ho
    obtain ⟨rfl, h0, he, hj⟩ := ho
    refine ⟨?_, hj⟩
    unfold sgetX at hs
    split at hs
    · rw [Option.map_eq_some_iff] at hs
      obtain ⟨q', h1, h2⟩ := hs
      simp only [Prod.mk.injEq] at h2
      obtain ⟨_, _, rfl⟩ := h2
      obtain ⟨r, hr, hok, hm, num, hk⟩ := h _ (open_in h1)
      have hq : q' = r.bytes := congrArg NKey.p hk
      rw [hq, getX_of hok hm]
      exact hr
    · cases hs
/-- What All tells: records handed in, the first of sector 1, the second of sector 2. -/
theorem all_told {A : AD} {ks : List NKey} {told : List Rec} (h : Told ks told) : (∀ x ∈ allL A ks 2, x ∈ told) ∧ (∀ a b, allL A ks 2 = [a, b] → 1 + a.gen.tmod 2 = 1 ∧ 1 + b.gen.tmod 2 = 2) := by
  have e1 := one_bumps A ks 0 1
  have e2 := one_bumps A ks 1 2
  have o1 : ∀ x, oneX A ks 1 = (x, true) → x ∈ told ∧ 1 + x.gen.tmod 2 = 1 := fun x hx => one_told h hx
  have o2 : ∀ x, oneX A ks 2 = (x, true) → x ∈ told ∧ 1 + x.gen.tmod 2 = 2 := fun x hx => one_told h hx
  have al : allL A ks 2 = (if (oneX A ks 1).2 = true then [(oneX A ks 1).1] else []) ++ (if (oneX A ks 2).2 = true then [(oneX A ks 2).1] else []) := by
    rw [allL, allL, allL, e1, e2, List.nil_append]
  rw [al]
  cases h1 : oneX A ks 1 with
  | mk x1 b1 =>
    cases h2 : oneX A ks 2 with
    | mk x2 b2 =>
      cases b1 <;> cases b2 <;> simp
      · exact (o2 x2 h2).1
      · exact (o1 x1 h1).1
      · refine ⟨⟨(o1 x1 h1).1, (o2 x2 h2).1⟩, ?_⟩
        have a1 := (o1 x1 h1).2
        have a2 := (o2 x2 h2).2
        omega
end Go.Proofs.Ytnojooafgehhaaa.K
end
section
namespace Go.Proofs.Ytnojooafgehhaaa.K
open Go.RowKit Go.Rill Go.Proofs
set_option linter.unusedVariables false
set_option linter.unusedSimpArgs false
theorem AD.tamper_n (A : AD) (i : Int) (l : List UInt8) : (A.tamper i l).2.n = A.n := by
  unfold AD.tamper
  split
  · rfl
  · split <;> rfl
theorem AD.write_n (A : AD) (i : Int) (l : List UInt8) : (A.write i l).2.n = A.n := by
  unfold AD.write
  split
  · rfl
  · split
    · rfl
    · split
      · rfl
      · split <;> rfl
theorem AD.sync_n (A : AD) : A.sync.2.n = A.n := by
  unfold AD.sync
  split
  · rfl
  · split <;> rfl
theorem regW_n (A : AD) (ks : List NKey) (r : Rec) (num : Int) : (regW A ks r num).2.1.n = A.n := by
  unfold regW
  split
  · exact AD.write_n _ _ _
  · rfl
theorem runA_n (A : AD) (ks : List NKey) (o : OpT) : (runA A ks o).2.1.n = A.n := by
  unfold runA
  split
  · exact regW_n _ _ _ _
  split
  · exact AD.tamper_n _ _ _
  split
  · split
    · exact AD.tamper_n _ _ _
    · rfl
  split
  · exact AD.sync_n A
  split
  · rfl
  split <;> rfl
theorem runA_ks {A : AD} {ks : List NKey} {o : OpT} (h : ¬ o.k = 0) : (runA A ks o).2.2 = ks := by
  unfold runA
  rw [if_neg h]
  split
  · rfl
  split
  · split <;> rfl
  split
  · rfl
  split
  · rfl
  split <;> rfl
theorem regW_len (A : AD) (ks : List NKey) (r : Rec) (num : Int) : (regW A ks r num).2.2.length ≤ ks.length + 1 := by
  unfold regW
  split
  · show (sealS ks r.epoch num (hdB 2 (1 + r.gen.tmod 2)) r.bytes).length ≤ _
    unfold sealS
    split
    · exact sealKs_len _ _
    · omega
  · exact Nat.le_succ _
theorem runA_len (A : AD) (ks : List NKey) (o : OpT) : (runA A ks o).2.2.length ≤ ks.length + 1 := by
  by_cases h : o.k = 0
  · unfold runA
    rw [if_pos h]
    exact regW_len _ _ _ _
  · rw [runA_ks h]
    exact Nat.le_succ _
theorem runA_told {A : AD} {ks : List NKey} {o : OpT} {told : List Rec} (h : Told ks told) (hr : o.r.Ok) (h0 : o.k = 0) : Told (runA A ks o).2.2 (told ++ [o.r]) := by
  unfold runA
  rw [if_pos h0]
  exact h.sealed hr o.n
end Go.Proofs.Ytnojooafgehhaaa.K
end
section
namespace Go.Rill.T
open Go.Proofs
theorem size67 : tySize Try.prog 67 141 = true := by kernel_rfl
theorem slice63 : tySlice Try.prog 63 67 = true := by kernel_rfl
end Go.Rill.T
end
section
namespace Go.Proofs.Ytnojooafgehhaaa.K
open Go.RowKit Go.Rill Go.Proofs
set_option linter.unusedVariables false
set_option linter.unusedSimpArgs false
def LongP (l : List OpT) : Prop := 60 < l.length ∨ ∃ o ∈ l, 1024 < o.dl.length ∨ 100 < o.ll.length
instance (l : List OpT) : Decidable (LongP l) := by unfold LongP; infer_instance
set_option maxRecDepth 100000 in
theorem long_60 {a : Value} {l : List OpT} {F : Nat → Prop} {w0 : World} (ha : Ops w0 F a l) (ho : OOk l) (hav : ∀ g, a.ownBlock = some g → ¬ F g) (h : 60 < l.length) : Gives Try.prog 34 [a] w0 (.bool (decide (LongP l))) := by
  refine enter (n := 29) Try.func34 rfl rfl rfl ?_
  intro fr E
  have M : Mem w0 (feet []) [] (fun w' => Ops w' F a l) w0 := Mem.begin (Has.nil w0) (fun w' h => Ops.held ha ⟨h.size, fun g hg _ => h.block g hg feet_nil⟩ hav)
  refine code_region ?_
  refine sv (v := _) E rfl rfl rfl rfl rfl (run_assignC rfl) fun fr E => ?_
  refine seq_nil' ?_
  refine wp_seq ?_
  refine code_region ?_
  refine sv (v := _) E rfl rfl rfl rfl rfl (run_move rfl rfl) fun fr E => ?_
  refine sv (v := .int .i64 _) E rfl rfl rfl rfl rfl (run_lenR rfl rfl rfl rfl T.slice63 (M.fact).1) fun fr E => ?_
  refine sv (v := .bool true) E rfl rfl rfl rfl rfl (tst rfl (decide_eq_true (by omega))) fun fr E => ?_
  refine seq_nil' ?_
  refine cond_true E rfl (rfl) ?_
  refine code_region ?_
  refine sv (v := _) E rfl rfl rfl rfl rfl (run_assignC rfl) fun fr E => ?_
  refine seq_nil' ?_
  refine wp_ret ?_
  refine then_ret ?_
  refine ret1 E rfl rfl ?_
  rw [decide_eq_true (show LongP l from .inl h)]
  exact given M

set_option maxRecDepth 100000 in
theorem long_in {a : Value} {l : List OpT} {F : Nat → Prop} {w0 : World} (ha : Ops w0 F a l) (ho : OOk l) (hav : ∀ g, a.ownBlock = some g → ¬ F g) (h : ¬ 60 < l.length) : Gives Try.prog 34 [a] w0 (.bool (decide (LongP l))) := by
  refine enter (n := 29) Try.func34 rfl rfl rfl ?_
  intro fr E
  have M : Mem w0 (feet []) [] (fun w' => Ops w' F a l) w0 := Mem.begin (Has.nil w0) (fun w' h => Ops.held ha ⟨h.size, fun g hg _ => h.block g hg feet_nil⟩ hav)
  refine code_region ?_
  refine sv (v := _) E rfl rfl rfl rfl rfl (run_assignC rfl) fun fr E => ?_
  refine seq_nil' ?_
  refine wp_seq ?_
  refine code_region ?_
  refine sv (v := _) E rfl rfl rfl rfl rfl (run_move rfl rfl) fun fr E => ?_
  refine sv (v := .int .i64 _) E rfl rfl rfl rfl rfl (run_lenR rfl rfl rfl rfl T.slice63 (M.fact).1) fun fr E => ?_
  refine sv (v := .bool false) E rfl rfl rfl rfl rfl (tst rfl (decide_eq_false (by omega))) fun fr E => ?_
  refine seq_nil' ?_
  refine cond_false E rfl (rfl) ?_
  refine wp_skip ?_
  refine then_normal ?_
  refine wp_seq ?_
  refine code_region ?_
  refine sv (v := _) E rfl rfl rfl rfl rfl (run_assignC rfl) fun fr E => ?_
  refine seq_nil' ?_
  refine wp_block ?_
  refine loop_dec (fun d fr w => ∃ i : Nat, d = l.length - i ∧ i ≤ l.length ∧ (∀ j, j < i → ∀ hj : j < l.length, ¬ (1024 < (l[j]).dl.length ∨ 100 < (l[j]).ll.length)) ∧ Env [(3, .int .i64 i), (0, a)] 29 fr ∧ Mem w0 (feet []) [] (fun w' => Ops w' F a l) w) (l.length) ?_ ?_
  · exact ⟨0, rfl, Nat.zero_le _, fun j hj => absurd hj (by omega), ((Env.nil E).add E (t := 0) rfl).add E (t := 3) rfl, M⟩
  · clear E M
    rintro d fr w ⟨i, rfl, hle, hno, E, M⟩
    by_cases hi : i < l.length
    · obtain ⟨b1, c1, e1⟩ := (M.fact.2 _ (List.getElem_mem hi)).1.slice
      obtain ⟨b2, c2, e2⟩ := (M.fact.2 _ (List.getElem_mem hi)).2.slice
      by_cases h1 : 1024 < (l[i]).dl.length
      · refine wp_seq ?_
        refine code_region ?_
        refine sv (v := _) E rfl rfl rfl rfl rfl (run_move rfl rfl) fun fr E => ?_
        refine sv (v := _) E rfl rfl rfl rfl rfl (run_move rfl rfl) fun fr E => ?_
        refine sv (v := .int .i64 _) E rfl rfl rfl rfl rfl (run_lenR rfl rfl rfl rfl T.slice63 (M.fact).1) fun fr E => ?_
        refine sv (v := .bool true) E rfl rfl rfl rfl rfl (tst rfl (decide_eq_true (by omega))) fun fr E => ?_
        refine seq_nil' ?_
        refine cond_true E rfl (rfl) ?_
        refine wp_skip ?_
        refine then_normal ?_
        refine wp_seq ?_
        refine wp_block ?_
        refine code_region ?_
        refine sv (v := _) E rfl rfl rfl rfl rfl (run_move rfl rfl) fun fr E => ?_
        refine sv (v := _) E rfl rfl rfl rfl rfl (run_move rfl rfl) fun fr E => ?_
        refine sv (v := cellAt a (i * 141)) E rfl rfl rfl rfl rfl (run_indexR (i := i) rfl (M.fact).1 rfl rfl (rfl) (hi) T.slice63 T.size67) fun fr E => ?_
        refine sv (v := _) E rfl rfl rfl rfl rfl (run_fieldAddrR rfl (M.fact).1 rfl T.fld67_4 (by omega)) fun fr E => ?_
        refine sv (v := .slice b1 (l[i]).dl.length c1) E rfl rfl rfl rfl rfl (run_loadR rfl (M.fact).1 rfl T.one30 (by rw [ocs_d ho hi, e1])) fun fr E => ?_
        refine sv (v := .int .i64 _) E rfl rfl rfl rfl rfl (run_len rfl rfl rfl rfl T.slice30) fun fr E => ?_
        refine sv (v := .bool true) E rfl rfl rfl rfl rfl (tst rfl (decide_eq_true (by omega))) fun fr E => ?_
        refine sv (v := _) E rfl rfl rfl rfl rfl (run_move rfl rfl) fun fr E => ?_
        refine sno E rfl rfl rfl rfl fun fr E => ?_
        refine sno E rfl rfl rfl rfl fun fr E => ?_
        refine sno E rfl rfl rfl rfl fun fr E => ?_
        refine sno E rfl rfl rfl rfl fun fr E => ?_
        refine sno E rfl rfl rfl rfl fun fr E => ?_
        refine sno E rfl rfl rfl rfl fun fr E => ?_
        refine sno E rfl rfl rfl rfl fun fr E => ?_
        refine sv (v := .bool _) E rfl rfl rfl rfl rfl (rfl) fun fr E => ?_
        refine seq_nil' ?_
        refine cond_true E rfl (rfl) ?_
        refine code_region ?_
        refine sv (v := _) E rfl rfl rfl rfl rfl (run_assignC rfl) fun fr E => ?_
        refine seq_nil' ?_
        refine wp_ret ?_
        refine block_ret ?_
        refine then_ret ?_
        refine then_ret ?_
        refine block_ret ?_
        refine then_ret ?_
        refine ret1 E rfl rfl ?_
        rw [decide_eq_true (show LongP l from .inr ⟨l[i], List.getElem_mem hi, by omega⟩)]
        exact given M
      · by_cases h2 : 100 < (l[i]).ll.length
        · refine wp_seq ?_
          refine code_region ?_
          refine sv (v := _) E rfl rfl rfl rfl rfl (run_move rfl rfl) fun fr E => ?_
          refine sv (v := _) E rfl rfl rfl rfl rfl (run_move rfl rfl) fun fr E => ?_
          refine sv (v := .int .i64 _) E rfl rfl rfl rfl rfl (run_lenR rfl rfl rfl rfl T.slice63 (M.fact).1) fun fr E => ?_
          refine sv (v := .bool true) E rfl rfl rfl rfl rfl (tst rfl (decide_eq_true (by omega))) fun fr E => ?_
          refine seq_nil' ?_
          refine cond_true E rfl (rfl) ?_
          refine wp_skip ?_
          refine then_normal ?_
          refine wp_seq ?_
          refine wp_block ?_
          refine code_region ?_
          refine sv (v := _) E rfl rfl rfl rfl rfl (run_move rfl rfl) fun fr E => ?_
          refine sv (v := _) E rfl rfl rfl rfl rfl (run_move rfl rfl) fun fr E => ?_
          refine sv (v := cellAt a (i * 141)) E rfl rfl rfl rfl rfl (run_indexR (i := i) rfl (M.fact).1 rfl rfl (rfl) (hi) T.slice63 T.size67) fun fr E => ?_
          refine sv (v := _) E rfl rfl rfl rfl rfl (run_fieldAddrR rfl (M.fact).1 rfl T.fld67_4 (by omega)) fun fr E => ?_
          refine sv (v := .slice b1 (l[i]).dl.length c1) E rfl rfl rfl rfl rfl (run_loadR rfl (M.fact).1 rfl T.one30 (by rw [ocs_d ho hi, e1])) fun fr E => ?_
          refine sv (v := .int .i64 _) E rfl rfl rfl rfl rfl (run_len rfl rfl rfl rfl T.slice30) fun fr E => ?_
          refine sv (v := .bool false) E rfl rfl rfl rfl rfl (tst rfl (decide_eq_false (by omega))) fun fr E => ?_
          refine sv (v := _) E rfl rfl rfl rfl rfl (run_move rfl rfl) fun fr E => ?_
          refine sv (v := _) E rfl rfl rfl rfl rfl (run_move rfl rfl) fun fr E => ?_
          refine sv (v := _) E rfl rfl rfl rfl rfl (run_move rfl rfl) fun fr E => ?_
          refine sv (v := cellAt a (i * 141)) E rfl rfl rfl rfl rfl (run_indexR (i := i) rfl (M.fact).1 rfl rfl (rfl) (hi) T.slice63 T.size67) fun fr E => ?_
          refine sv (v := _) E rfl rfl rfl rfl rfl (run_fieldAddrR rfl (M.fact).1 rfl T.fld67_5 (by omega)) fun fr E => ?_
          refine sv (v := .slice b2 (l[i]).ll.length c2) E rfl rfl rfl rfl rfl (run_loadR rfl (M.fact).1 rfl T.one58 (by rw [ocs_l ho hi, e2])) fun fr E => ?_
          refine sv (v := .int .i64 _) E rfl rfl rfl rfl rfl (run_len rfl rfl rfl rfl T.slice58) fun fr E => ?_
          refine sv (v := .bool true) E rfl rfl rfl rfl rfl (tst rfl (decide_eq_true (by omega))) fun fr E => ?_
          refine sv (v := .bool _) E rfl rfl rfl rfl rfl (rfl) fun fr E => ?_
          refine seq_nil' ?_
          refine cond_true E rfl (rfl) ?_
          refine code_region ?_
          refine sv (v := _) E rfl rfl rfl rfl rfl (run_assignC rfl) fun fr E => ?_
          refine seq_nil' ?_
          refine wp_ret ?_
          refine block_ret ?_
          refine then_ret ?_
          refine then_ret ?_
          refine block_ret ?_
          refine then_ret ?_
          refine ret1 E rfl rfl ?_
          rw [decide_eq_true (show LongP l from .inr ⟨l[i], List.getElem_mem hi, by omega⟩)]
          exact given M
        · refine wp_seq ?_
          refine code_region ?_
          refine sv (v := _) E rfl rfl rfl rfl rfl (run_move rfl rfl) fun fr E => ?_
          refine sv (v := _) E rfl rfl rfl rfl rfl (run_move rfl rfl) fun fr E => ?_
          refine sv (v := .int .i64 _) E rfl rfl rfl rfl rfl (run_lenR rfl rfl rfl rfl T.slice63 (M.fact).1) fun fr E => ?_
          refine sv (v := .bool true) E rfl rfl rfl rfl rfl (tst rfl (decide_eq_true (by omega))) fun fr E => ?_
          refine seq_nil' ?_
          refine cond_true E rfl (rfl) ?_
          refine wp_skip ?_
          refine then_normal ?_
          refine wp_seq ?_
          refine wp_block ?_
          refine code_region ?_
          refine sv (v := _) E rfl rfl rfl rfl rfl (run_move rfl rfl) fun fr E => ?_
          refine sv (v := _) E rfl rfl rfl rfl rfl (run_move rfl rfl) fun fr E => ?_
          refine sv (v := cellAt a (i * 141)) E rfl rfl rfl rfl rfl (run_indexR (i := i) rfl (M.fact).1 rfl rfl (rfl) (hi) T.slice63 T.size67) fun fr E => ?_
          refine sv (v := _) E rfl rfl rfl rfl rfl (run_fieldAddrR rfl (M.fact).1 rfl T.fld67_4 (by omega)) fun fr E => ?_
          refine sv (v := .slice b1 (l[i]).dl.length c1) E rfl rfl rfl rfl rfl (run_loadR rfl (M.fact).1 rfl T.one30 (by rw [ocs_d ho hi, e1])) fun fr E => ?_
          refine sv (v := .int .i64 _) E rfl rfl rfl rfl rfl (run_len rfl rfl rfl rfl T.slice30) fun fr E => ?_
          refine sv (v := .bool false) E rfl rfl rfl rfl rfl (tst rfl (decide_eq_false (by omega))) fun fr E => ?_
          refine sv (v := _) E rfl rfl rfl rfl rfl (run_move rfl rfl) fun fr E => ?_
          refine sv (v := _) E rfl rfl rfl rfl rfl (run_move rfl rfl) fun fr E => ?_
          refine sv (v := _) E rfl rfl rfl rfl rfl (run_move rfl rfl) fun fr E => ?_
          refine sv (v := cellAt a (i * 141)) E rfl rfl rfl rfl rfl (run_indexR (i := i) rfl (M.fact).1 rfl rfl (rfl) (hi) T.slice63 T.size67) fun fr E => ?_
          refine sv (v := _) E rfl rfl rfl rfl rfl (run_fieldAddrR rfl (M.fact).1 rfl T.fld67_5 (by omega)) fun fr E => ?_
          refine sv (v := .slice b2 (l[i]).ll.length c2) E rfl rfl rfl rfl rfl (run_loadR rfl (M.fact).1 rfl T.one58 (by rw [ocs_l ho hi, e2])) fun fr E => ?_
          refine sv (v := .int .i64 _) E rfl rfl rfl rfl rfl (run_len rfl rfl rfl rfl T.slice58) fun fr E => ?_
          refine sv (v := .bool false) E rfl rfl rfl rfl rfl (tst rfl (decide_eq_false (by omega))) fun fr E => ?_
          refine sv (v := .bool _) E rfl rfl rfl rfl rfl (rfl) fun fr E => ?_
          refine seq_nil' ?_
          refine cond_false E rfl (rfl) ?_
          refine wp_skip ?_
          refine block_normal ?_
          refine then_normal ?_
          refine code_last ?_
          refine sv (v := _) E rfl rfl rfl rfl rfl (run_move rfl rfl) fun fr E => ?_
          refine sv (v := .int _ (((i + 1 : Nat) : Int))) E rfl rfl rfl rfl rfl (num rfl ((i64_id (by omega) (by omega)).trans (by omega))) fun fr E => ?_
          refine sv (v := _) E rfl rfl rfl rfl rfl (run_assign rfl rfl) fun fr E => ?_
          refine seq_nil ?_
          refine then_any ?_
          refine ⟨l.length - (i + 1), by omega, i + 1, rfl, by omega, fun j hj hj2 => ?_, ((Env.nil E).add E (t := 0) rfl).add E (t := 3) rfl, M⟩
          rcases Nat.lt_or_eq_of_le (Nat.le_of_lt_succ hj) with h | rfl
          · exact hno j h hj2
          · omega
    · obtain rfl : i = l.length := by omega
      refine wp_seq ?_
      refine code_region ?_
      refine sv (v := _) E rfl rfl rfl rfl rfl (run_move rfl rfl) fun fr E => ?_
      refine sv (v := _) E rfl rfl rfl rfl rfl (run_move rfl rfl) fun fr E => ?_
      refine sv (v := .int .i64 _) E rfl rfl rfl rfl rfl (run_lenR rfl rfl rfl rfl T.slice63 (M.fact).1) fun fr E => ?_
      refine sv (v := .bool false) E rfl rfl rfl rfl rfl (tst rfl (decide_eq_false (by omega))) fun fr E => ?_
      refine seq_nil' ?_
      refine cond_false E rfl (rfl) ?_
      refine wp_exit ?_
      refine then_exit ?_
      refine then_exit ?_
      refine block_exit ?_
      refine then_normal ?_
      refine code_region ?_
      refine sv (v := _) E rfl rfl rfl rfl rfl (run_assignC rfl) fun fr E => ?_
      refine seq_nil' ?_
      refine wp_ret ?_
      refine ret1 E rfl rfl ?_
      rw [decide_eq_false (show ¬ LongP l from fun c => c.elim (fun c => by omega) fun ⟨o, hm, hc⟩ => by obtain ⟨j, hj, rfl⟩ := List.getElem_of_mem hm; exact hno j hj hj hc)]
      exact given M

theorem long_x {a : Value} {l : List OpT} {F : Nat → Prop} {w0 : World} (ha : Ops w0 F a l) (ho : OOk l) (hav : ∀ g, a.ownBlock = some g → ¬ F g) : Gives Try.prog 34 [a] w0 (.bool (decide (LongP l))) := by
  by_cases h : 60 < l.length
  · exact long_60 ha ho hav h
  · exact long_in ha ho hav h
end Go.Proofs.Ytnojooafgehhaaa.K
end
section
namespace Go.Proofs.Ytnojooafgehhaaa.K
open Go.RowKit Go.Rill Go.Proofs
set_option linter.unusedVariables false
set_option linter.unusedSimpArgs false
theorem _root_.Go.Rill.Does.args {α : Type} {P : Program} {f : FuncId} {xs ys : List Value} {w : World} {ins : List Ent} {val : α → Value} {outs : α → List Ent} {p : α → Prop} (h : Does P f xs w ins val outs p) (e : ys = xs) : Does P f ys w ins val outs p := e ▸ h
theorem two_of {α : Type} : ∀ {l : List α} (h : l.length = 2), l = [l[0], l[1]]
  | [_, _], _ => rfl
theorem _root_.Go.Rill.Reads.cell {w : World} {v : Value} {n sz : Nat} {xs : List Value} (h : Reads sz w v n xs) : v.cells = #[v] := by
  obtain ⟨b, c, rfl⟩ := h.slice
  rfl
theorem _root_.Go.Rill.Reads.oneC {w : World} {v : Value} {n sz : Nat} {xs : List Value} (h : Reads sz w v n xs) : v.oneCell' = true := by
  obtain ⟨b, c, rfl⟩ := h.slice
  rfl
theorem rcs_gen {l : List Rec} (h : Oks l) {k : Nat} (hk : k < l.length) : (rcs l)[k * 136 + 0]? = some (.int .i64 (l[k]).gen) := by
  rw [rcs_at h hk (by decide)]
  rfl
theorem _root_.Go.Rill.Mem.nilPool {w0 w : World} {O : Nat → Prop} {L : List Ent} {Φ : World → Prop} (M : Mem w0 O L Φ w) : Mem w0 O (.pool [] :: L) Φ w :=
  M.adopt (Ext.refl w) _ (fun p hp => nomatch hp) fun g hg => nomatch hg
theorem _root_.Go.Rill.Mem.nilSlice {w0 w : World} {O : Nat → Prop} {L : List Ent} {Φ : World → Prop} (M : Mem w0 O L Φ w) (e sz : Nat) : Mem w0 O (.row e sz (.slice none 0 0) 0 [] :: L) Φ w :=
  M.adopt (Ext.refl w) _ (World.ownsRow_nil w 0 e sz) fun g hg => by simp [Ent.row, Value.ownBlock] at hg
set_option maxRecDepth 100000 in
theorem RegionOnly_long {a : Value} {l : List OpT} {F : Nat → Prop} {w0 : World} (ha : Ops w0 F a l) (ho : OOk l) (hF : ∀ g, w0.heap.size ≤ g → F g) (hav : ∀ g, a.ownBlock = some g → ¬ F g) (hl : LongP l) : Gives Try.prog 10 [a] w0 (.bool true) := by
  refine enter (n := 138) Try.func10 rfl rfl rfl ?_
  intro fr E
  have M : Mem w0 (feet []) [] (fun w' => Ops w' F a l) w0 := Mem.begin (Has.nil w0) (fun w' h => Ops.held ha ⟨h.size, fun g hg _ => h.block g hg feet_nil⟩ hav)
  refine code_region ?_
  refine sv (v := _) E rfl rfl rfl rfl rfl (run_assignC rfl) fun fr E => ?_
  refine seq_nil' ?_
  refine wp_seq ?_
  refine code_region ?_
  refine sv (v := _) E rfl rfl rfl rfl rfl (run_move rfl rfl) fun fr E => ?_
  refine sgive E M rfl rfl rfl rfl rfl (run_call rfl rfl T.fn34) (long_x M.fact ho hav) fun fr w M E => ?_
  rw [decide_eq_true hl] at E
  refine seq_nil' ?_
  refine cond_true E rfl (rfl) ?_
  refine code_region ?_
  refine sgive E M rfl rfl rfl rfl rfl (run_call rfl rfl T.fn15) (works_c _) fun fr w M E => ?_
  refine sv (v := _) E rfl rfl rfl rfl rfl (run_assign rfl rfl) fun fr E => ?_
  refine seq_nil' ?_
  refine wp_ret ?_
  refine then_ret ?_
  refine ret1 E rfl rfl ?_
  exact given M

theorem run_y {D : DV} {N : NV} {g : Nat} {A : AD} {o : OpT} {w0 : World} (H : Has w0 [dkE D, nmE N]) (hD : D.is g A) (hr : o.r.Ok) (hkz : N.ks.length ≤ 1099511627776) (hdb : FarB w0 (feet [dkE D, nmE N]) o.dv o.dl) (hli : FarI w0 (feet [dkE D, nmE N]) o.lv o.ll) {a : Nat} (ha : N.gn = a) : Does Try.prog 36 [.pointer (some ⟨g, 0, none⟩), .iface 51 (.pointer (some ⟨a, 0, none⟩)), .agg o.cells.toArray] w0 [dkE D, nmE N] (fun _ : DV × NV => .int .i64 (runA A N.ks o).1) (fun x => [dkE x.1, nmE x.2]) (fun x => x.1.is g (runA A N.ks o).2.1 ∧ x.2.gn = a ∧ x.2.ks = (runA A N.ks o).2.2 ∧ x.2.ts = N.ts) := by
  subst ha
  exact run_x H hD hr hkz hdb hli

set_option maxHeartbeats 2000000 in
set_option maxRecDepth 100000 in
theorem RegionOnly_in {a : Value} {l : List OpT} {F : Nat → Prop} {w0 : World} (ha : Ops w0 F a l) (ho : OOk l) (hF : ∀ g, w0.heap.size ≤ g → F g) (hav : ∀ g, a.ownBlock = some g → ¬ F g) (hl : ¬ LongP l) : Gives Try.prog 10 [a] w0 (.bool true) := by
  refine enter (n := 138) Try.func10 rfl rfl rfl ?_
  intro fr E
  have M : Mem w0 (feet []) [] (fun w' => Ops w' F a l) w0 := Mem.begin (Has.nil w0) (fun w' h => Ops.held ha ⟨h.size, fun g hg _ => h.block g hg feet_nil⟩ hav)
  refine code_region ?_
  refine sv (v := _) E rfl rfl rfl rfl rfl (run_assignC rfl) fun fr E => ?_
  refine seq_nil' ?_
  refine wp_seq ?_
  refine code_region ?_
  refine sv (v := _) E rfl rfl rfl rfl rfl (run_move rfl rfl) fun fr E => ?_
  refine sgive E M rfl rfl rfl rfl rfl (run_call rfl rfl T.fn34) (long_x M.fact ho hav) fun fr w M E => ?_
  rw [decide_eq_false hl] at E
  refine seq_nil' ?_
  refine cond_false E rfl (rfl) ?_
  refine wp_skip ?_
  refine then_normal ?_
  refine code_region ?_
  refine scall E M rfl rfl rfl rfl rfl (run_call rfl rfl T.fn24) (dNew_ok (k := 4) (by decide) (by decide)) rfl ?_
  rintro D0 fr w hD0 M E
  refine sv (v := _) E rfl rfl rfl rfl rfl (run_move rfl rfl) fun fr E => ?_
  refine sv (v := _) E rfl rfl rfl rfl rfl (run_extract rfl rfl rfl) fun fr E => ?_
  refine sv (v := _) E rfl rfl rfl rfl rfl (run_extract rfl rfl rfl) fun fr E => ?_
  refine sv (v := _) E rfl rfl rfl rfl rfl (run_assign rfl rfl) fun fr E => ?_
  refine sv (v := _) E rfl rfl rfl rfl rfl (run_assign rfl rfl) fun fr E => ?_
  refine seq_nil' ?_
  refine code_region ?_
  refine scall E M rfl rfl rfl rfl rfl (run_call rfl rfl T.fn25) (nNew_x _) rfl ?_
  rintro N1 fr w ⟨hk1, ht1⟩ M E
  refine sv (v := _) E rfl rfl rfl rfl rfl (run_assign rfl rfl) fun fr E => ?_
  refine seq_nil' ?_
  refine code_region ?_
  refine scall E M rfl rfl rfl rfl rfl (run_call rfl rfl T.fn25) (nNew_x _) rfl ?_
  rintro N2 fr w ⟨hk2, ht2⟩ M E
  refine sv (v := _) E rfl rfl rfl rfl rfl (run_assign rfl rfl) fun fr E => ?_
  refine seq_nil' ?_
  obtain ⟨g, hgg⟩ : ∃ g, g = D0.gd := ⟨_, rfl⟩
  rw [← hgg] at hD0 E
  obtain ⟨g1, hg1⟩ : ∃ g1, g1 = N1.gn := ⟨_, rfl⟩
  rw [← hg1] at E
  obtain ⟨g2, hg2⟩ : ∃ g2, g2 = N2.gn := ⟨_, rfl⟩
  rw [← hg2] at E
  refine code_region ?_
  refine sv (v := _) E rfl rfl rfl rfl rfl (run_assignC rfl) fun fr E => ?_
  refine seq_nil' ?_
  refine code_region ?_
  refine sv (v := _) E rfl rfl rfl rfl rfl (run_assignC rfl) fun fr E => ?_
  refine seq_nil' ?_
  refine wp_seq ?_
  refine code_region ?_
  refine sv (v := _) E rfl rfl rfl rfl rfl (run_assignC rfl) fun fr E => ?_
  refine seq_nil' ?_
  refine wp_block ?_
  refine loop_dec (fun d fr w => ∃ (i : Nat) (D : DV) (A : AD) (N1 N2 : NV) (tv iv : Value) (told : List Rec) (vs : List Value) (ps : List (Value × List UInt8)), d = l.length - i ∧ i ≤ l.length ∧ D.is g A ∧ A.n = 4 ∧ N1.gn = g1 ∧ N1.ks.length ≤ i ∧ Told N1.ks told ∧ Oks told ∧ told.length ≤ i ∧ N2.gn = g2 ∧ (N2.ks = []) ∧ vs.length = 2 * i ∧ (∀ v ∈ vs, ∃ k, (v, k) ∈ ps ∧ k.length ≤ 1024) ∧ Env [(0, a), (3, .pointer (some ⟨g, 0, none⟩)), (5, .pointer (some ⟨g1, 0, none⟩)), (6, .pointer (some ⟨g2, 0, none⟩)), (7, tv), (8, iv), (9, .int .i64 i)] 138 fr ∧ Mem w0 (feet []) [.recs 29 tv told, .row 30 1 iv vs.length vs, .pool ps, dkE D, nmE N1, nmE N2] (fun w' => Ops w' F a l) w) (l.length) ?_ ?_
  · have M := (((M.pull 1 rfl).pull 2 rfl).nilPool.nilSlice 30 1).nilRecs 29
    exact ⟨0, D0, AD.new 4, N1, N2, _, _, [], [], [], rfl, Nat.zero_le _, hD0, rfl, hg1.symm, by rw [hk1]; exact Nat.le_refl _, by rw [hk1]; exact Told.nil _, (fun r hr => by cases hr), Nat.le_refl _, hg2.symm, hk2, rfl, (fun v hv => by cases hv), (((((((Env.nil E).add E (t := 9) rfl).add E (t := 8) rfl).add E (t := 7) rfl).add E (t := 6) rfl).add E (t := 5) rfl).add E (t := 3) rfl).add E (t := 0) rfl, M⟩
  · clear E M
    rintro d fr w ⟨i, D, A, N1, N2, tv, iv, told, vs, ps, rfl, hle, hD, hAn, hg1', hk1', hT, hok, htl, hg2', hz2, hvl, hvp, E, M⟩
    by_cases hi : i < l.length
    · obtain ⟨b1, c1, e1⟩ := (M.fact.2 _ (List.getElem_mem hi)).1.slice
      obtain ⟨b2, c2, e2⟩ := (M.fact.2 _ (List.getElem_mem hi)).2.slice
      have hoi := ho.get hi
      have h60 : ¬ 60 < l.length := fun c => hl (.inl c)
      refine wp_seq ?_
      refine code_region ?_
      refine sv (v := _) E rfl rfl rfl rfl rfl (run_move rfl rfl) fun fr E => ?_
      refine sv (v := _) E rfl rfl rfl rfl rfl (run_move rfl rfl) fun fr E => ?_
      refine sv (v := .int .i64 _) E rfl rfl rfl rfl rfl (run_lenR rfl rfl rfl rfl T.slice63 (M.fact).1) fun fr E => ?_
      refine sv (v := .bool true) E rfl rfl rfl rfl rfl (tst rfl (decide_eq_true (by omega))) fun fr E => ?_
      refine seq_nil' ?_
      refine cond_true E rfl (rfl) ?_
      refine wp_skip ?_
      refine then_normal ?_
      refine wp_seq ?_
      refine wp_block ?_
      refine code_region ?_
      refine sv (v := _) E rfl rfl rfl rfl rfl (run_move rfl rfl) fun fr E => ?_
      refine sv (v := _) E rfl rfl rfl rfl rfl (run_move rfl rfl) fun fr E => ?_
      refine sv (v := cellAt a (i * 141)) E rfl rfl rfl rfl rfl (run_indexR (i := i) rfl (M.fact).1 rfl rfl (rfl) (hi) T.slice63 T.size67) fun fr E => ?_
      refine sv (v := .agg (l[i]).cells.toArray) E rfl rfl rfl rfl rfl (run_loadRN (k := i * 141) rfl (M.fact).1 rfl T.agg67 (by omega) (by decide) (ocs_get ho hi)) fun fr E => ?_
      refine snew (ob := .cells _ 67) (fun g => .pointer (some ⟨g, 0, none⟩)) E M rfl rfl rfl rfl rfl (run_allocN rfl T.zero67) fun g0 fr w M E => ?_
      refine sset (i := 0) (cs' := (l[i]).cells.toArray) E M rfl rfl rfl rfl rfl (run_storeAll (vs := (l[i]).cells.toArray) rfl rfl rfl T.size67 (OpT.size hoi) (M.row (i := 0) rfl) rfl (fun v hv => OpT.ones hoi ⟨_, _, _, e1⟩ ⟨_, _, _, e2⟩ v (by simpa using hv))) rfl fun fr w M E => ?_
      refine seq_nil' ?_
      refine code_cut (fun fr w => ∃ (D : DV) (A : AD) (N1 N2 : NV) (tv iv : Value) (told : List Rec) (vs : List Value) (ps : List (Value × List UInt8)), D.is g A ∧ A.n = 4 ∧ N1.gn = g1 ∧ N1.ks.length ≤ i ∧ Told N1.ks told ∧ Oks told ∧ told.length ≤ i ∧ N2.gn = g2 ∧ (N2.ks = []) ∧ vs.length = 2 * i ∧ (∀ v ∈ vs, ∃ k, (v, k) ∈ ps ∧ k.length ≤ 1024) ∧ Env [(10, .pointer (some ⟨g0, 0, none⟩)), (0, a), (3, .pointer (some ⟨g, 0, none⟩)), (5, .pointer (some ⟨g1, 0, none⟩)), (6, .pointer (some ⟨g2, 0, none⟩)), (7, tv), (8, iv), (9, .int .i64 i)] 138 fr ∧ Mem w0 (feet []) [.blk g0 (.cells (l[i]).cells.toArray 67), .recs 29 tv told, .row 30 1 iv vs.length vs, .pool ps, dkE D, nmE N1, nmE N2] (fun w' => Ops w' F a l) w) ?_ ?_
      · by_cases h6 : (l[i]).k = 6
        · by_cases h0 : 0 < vs.length
          · obtain ⟨kk, hkk, hkl⟩ := hvp _ (List.getElem_mem (pickN_lt (k := (l[i]).m) h0))
            refine code_region ?_
            refine sv (v := .pointer (some ⟨_, 0, none⟩)) E rfl rfl rfl rfl rfl (run_fieldAddr rfl rfl T.fld67_0) fun fr E => ?_
            refine sv (v := .int .i64 _) E rfl rfl rfl rfl rfl (run_loadB rfl rfl T.one3 (M.row (i := 0) rfl) OpT.c_k) fun fr E => ?_
            refine sv (v := .bool true) E rfl rfl rfl rfl rfl (tst rfl (decide_eq_true h6)) fun fr E => ?_
            refine sv (v := _) E rfl rfl rfl rfl rfl (run_move rfl rfl) fun fr E => ?_
            refine sv (v := _) E rfl rfl rfl rfl rfl (run_move rfl rfl) fun fr E => ?_
            refine sv (v := .int .i64 _) E rfl rfl rfl rfl rfl (run_lenR rfl rfl rfl rfl T.slice65 (M.reads 2 rfl)) fun fr E => ?_
            refine sv (v := .bool true) E rfl rfl rfl rfl rfl (tst rfl (decide_eq_true (by omega))) fun fr E => ?_
            refine sv (v := .bool _) E rfl rfl rfl rfl rfl (rfl) fun fr E => ?_
            refine seq_nil' ?_
            refine cond_true E rfl (rfl) ?_
            have M := M.pull 4 rfl
            have M : Mem _ _ ([dkE D] ++ _) _ _ := M
            refine (free_regR (B := T.tab10_13_b) (Vs := (.exact _ :: .exact (.pointer (some ⟨_, 1, none⟩)) :: .exact (.int .i64 _) :: .exact _ :: .exact (.pointer (some ⟨_, 2, none⟩)) :: .exact (.int .i64 _) :: .exact _ :: .exact (.int .i64 _) :: .exact (.int .i64 (((pickN (l[i]).m vs.length) : Nat) : Int)) :: .exact (cellAt iv ((pickN (l[i]).m vs.length) * 1)) :: .exact ((vs[(pickN (l[i]).m vs.length)]'(pickN_lt h0))) :: CameI w.heap.size ([dkE D]) (fun _ : DV => .int .i64 (A.tamper (l[i]).n kk).1) (fun x => [dkE x]) (fun x => x.is g (A.tamper (l[i]).n kk).2) :: [])) (ownRoad (oneFs 11 ([dkE D])) w.drew) T.tab10_13_i E T.mixed T.tab10_13 rfl ?_ ⟨fr_val rfl rfl M (fun i g h => h.2) (fun x w' M' hB hk => ⟨_, _, rfl, rfl, rfl, run_move rfl rfl, Ext.refl _, rfl⟩),
      fr_val rfl rfl M (fun i g h => h.2) (fun x w' M' hB hk => ⟨_, _, rfl, rfl, rfl, run_fieldAddr rfl rfl T.fld67_1, Ext.refl _, rfl⟩),
      fr_val rfl rfl M (fun i g h => h.2) (fun x w' M' hB hk => ⟨_, _, rfl, rfl, rfl, run_loadB rfl rfl T.one3 (M'.row (i := 0) rfl) OpT.c_n, Ext.refl _, rfl⟩),
      fr_val rfl rfl M (fun i g h => h.2) (fun x w' M' hB hk => ⟨_, _, rfl, rfl, rfl, run_move rfl rfl, Ext.refl _, rfl⟩),
      fr_val rfl rfl M (fun i g h => h.2) (fun x w' M' hB hk => ⟨_, _, rfl, rfl, rfl, run_fieldAddr rfl rfl T.fld67_2, Ext.refl _, rfl⟩),
      fr_val rfl rfl M (fun i g h => h.2) (fun x w' M' hB hk => ⟨_, _, rfl, rfl, rfl, run_loadB rfl rfl T.one3 (M'.row (i := 0) rfl) OpT.c_m, Ext.refl _, rfl⟩),
      fr_val rfl rfl M (fun i g h => h.2) (fun x w' M' hB hk => ⟨_, _, rfl, rfl, rfl, run_move rfl rfl, Ext.refl _, rfl⟩),
      fr_val rfl rfl M (fun i g h => h.2) (fun x w' M' hB hk => ⟨_, _, rfl, rfl, rfl, run_lenR rfl rfl rfl rfl T.slice65 (M'.reads 2 rfl), Ext.refl _, rfl⟩),
      fr_ext rfl rfl M (fun i g h => h.2) (fun x w' M' hB hk => ⟨_, _, rfl, rfl, rfl, run_call rfl rfl T.fn28, (Pick_x (k := (l[i]).m) (m := vs.length) h0 (by omega)).ext⟩),
      fr_val rfl rfl M (fun i g h => h.2) (fun x w' M' hB hk => ⟨_, _, rfl, rfl, rfl, run_indexR (i := (pickN (l[i]).m vs.length)) rfl (M'.reads 2 rfl) rfl rfl (rfl) (pickN_lt h0) T.slice65 T.size30, Ext.refl _, rfl⟩),
      fr_val rfl rfl M (fun i g h => h.2) (fun x w' M' hB hk => ⟨_, _, rfl, rfl, rfl, run_loadR rfl (M'.reads 2 rfl) rfl T.one30 (by rw [Nat.mul_one]; exact List.getElem?_eq_getElem _), Ext.refl _, rfl⟩),
      fr_call (J := [dkE D]) rfl rfl M (fun i g h => h.2) M.front (fun j hj g hjg => absurd hjg.1 hj) (fun x w' M' H' hB hk => ⟨_, _, rfl, rfl, rfl, run_call rfl rfl T.fn35, (Tamper_b (l := kk) H' hD (.inl ⟨M'.pooled (i := 3) rfl hkk, M.poolOff (i := 0) (j := 3 + 1) rfl rfl rfl hkk⟩)).own (Fs := oneFs 11 ([dkE D])) (i := 11) hB (fun g hg => ⟨rfl, hg⟩)⟩), trivial⟩ ?_)
            · exact one_okW rfl ((allY_ex (allY_ex (allY_ex (allY_ex (allY_ex (allY_ex (allY_ex (allY_ex (allY_ex (allY_ex (allY_ex (allY_in rfl LastsR.came1 allY_nil)))))))))))))
            intro x fr w ⟨b, hb, hI⟩ hk E
            obtain ⟨D1, hy, hD1, M⟩ := M.behind (val := fun _ : DV => .int .i64 (A.tamper (l[i]).n kk).1) (outs := fun x => [dkE x]) (p := fun x => x.is g (A.tamper (l[i]).n kk).2) hI (hk 11 (by decide))
            refine then_any ?_
            have M := M.pull 6 rfl
            have M := M.pull 6 rfl
            have M := M.pull 2 rfl
            have M := M.pull 6 rfl
            have M := M.pull 6 rfl
            have M := M.pull 6 rfl
            have M := M.pull 6 rfl
            exact ⟨D1, _, N1, N2, _, _, told, vs, ps, hD1, ((AD.tamper_n _ _ _).trans hAn), hg1', hk1', hT, hok, htl, hg2', hz2, hvl, hvp, ((((((((Env.nil E).add E (t := 9) rfl).add E (t := 8) rfl).add E (t := 7) rfl).add E (t := 6) rfl).add E (t := 5) rfl).add E (t := 3) rfl).add E (t := 0) rfl).add E (t := 10) rfl, Mem.take (L := [.blk g0 (.cells (l[i]).cells.toArray 67), .recs 29 _ told, .row 30 1 _ vs.length vs, .pool ps, dkE D1, nmE N1, nmE N2]) M⟩
          · refine code_region ?_
            refine sv (v := .pointer (some ⟨_, 0, none⟩)) E rfl rfl rfl rfl rfl (run_fieldAddr rfl rfl T.fld67_0) fun fr E => ?_
            refine sv (v := .int .i64 _) E rfl rfl rfl rfl rfl (run_loadB rfl rfl T.one3 (M.row (i := 0) rfl) OpT.c_k) fun fr E => ?_
            refine sv (v := .bool true) E rfl rfl rfl rfl rfl (tst rfl (decide_eq_true h6)) fun fr E => ?_
            refine sv (v := _) E rfl rfl rfl rfl rfl (run_move rfl rfl) fun fr E => ?_
            refine sv (v := _) E rfl rfl rfl rfl rfl (run_move rfl rfl) fun fr E => ?_
            refine sv (v := .int .i64 _) E rfl rfl rfl rfl rfl (run_lenR rfl rfl rfl rfl T.slice65 (M.reads 2 rfl)) fun fr E => ?_
            refine sv (v := .bool false) E rfl rfl rfl rfl rfl (tst rfl (decide_eq_false (by omega))) fun fr E => ?_
            refine sv (v := .bool _) E rfl rfl rfl rfl rfl (rfl) fun fr E => ?_
            refine seq_nil' ?_
            refine cond_false E rfl (rfl) ?_
            refine wp_skip ?_
            refine then_any ?_
            have M := M.pull 6 rfl
            have M := M.pull 6 rfl
            have M := M.pull 6 rfl
            have M := M.pull 6 rfl
            have M := M.pull 6 rfl
            have M := M.pull 6 rfl
            have M := M.pull 6 rfl
            exact ⟨D, _, N1, N2, _, _, told, vs, ps, hD, hAn, hg1', hk1', hT, hok, htl, hg2', hz2, hvl, hvp, ((((((((Env.nil E).add E (t := 9) rfl).add E (t := 8) rfl).add E (t := 7) rfl).add E (t := 6) rfl).add E (t := 5) rfl).add E (t := 3) rfl).add E (t := 0) rfl).add E (t := 10) rfl, Mem.take (L := [.blk g0 (.cells (l[i]).cells.toArray 67), .recs 29 _ told, .row 30 1 _ vs.length vs, .pool ps, dkE D, nmE N1, nmE N2]) M⟩
        · refine code_region ?_
          refine sv (v := .pointer (some ⟨_, 0, none⟩)) E rfl rfl rfl rfl rfl (run_fieldAddr rfl rfl T.fld67_0) fun fr E => ?_
          refine sv (v := .int .i64 _) E rfl rfl rfl rfl rfl (run_loadB rfl rfl T.one3 (M.row (i := 0) rfl) OpT.c_k) fun fr E => ?_
          refine sv (v := .bool false) E rfl rfl rfl rfl rfl (tst rfl (decide_eq_false h6)) fun fr E => ?_
          refine sv (v := _) E rfl rfl rfl rfl rfl (run_move rfl rfl) fun fr E => ?_
          refine sno E rfl rfl rfl rfl fun fr E => ?_
          refine sno E rfl rfl rfl rfl fun fr E => ?_
          refine sno E rfl rfl rfl rfl fun fr E => ?_
          refine sv (v := .bool _) E rfl rfl rfl rfl rfl (rfl) fun fr E => ?_
          refine seq_nil' ?_
          refine cond_false E rfl (rfl) ?_
          refine wp_skip ?_
          refine then_any ?_
          have M := M.pull 6 rfl
          have M := M.pull 6 rfl
          have M := M.pull 6 rfl
          have M := M.pull 6 rfl
          have M := M.pull 6 rfl
          have M := M.pull 6 rfl
          have M := M.pull 6 rfl
          exact ⟨D, _, N1, N2, _, _, told, vs, ps, hD, hAn, hg1', hk1', hT, hok, htl, hg2', hz2, hvl, hvp, ((((((((Env.nil E).add E (t := 9) rfl).add E (t := 8) rfl).add E (t := 7) rfl).add E (t := 6) rfl).add E (t := 5) rfl).add E (t := 3) rfl).add E (t := 0) rfl).add E (t := 10) rfl, Mem.take (L := [.blk g0 (.cells (l[i]).cells.toArray 67), .recs 29 _ told, .row 30 1 _ vs.length vs, .pool ps, dkE D, nmE N1, nmE N2]) M⟩
      · rintro fr w ⟨D, A, N1, N2, tv, iv, told, vs, ps, hD, hAn, hg1', hk1', hT, hok, htl, hg2', hz2, hvl, hvp, E, M⟩
        refine code_cut (fun fr w => ∃ (D : DV) (A : AD) (N1 N2 : NV) (tv iv : Value) (told : List Rec) (vs : List Value) (ps : List (Value × List UInt8)), D.is g A ∧ A.n = 4 ∧ N1.gn = g1 ∧ N1.ks.length ≤ i ∧ Told N1.ks told ∧ Oks told ∧ told.length ≤ i ∧ N2.gn = g2 ∧ (¬ (l[i]).k = 7 → N2.ks = []) ∧ vs.length = 2 * i ∧ (∀ v ∈ vs, ∃ k, (v, k) ∈ ps ∧ k.length ≤ 1024) ∧ Env [(10, .pointer (some ⟨g0, 0, none⟩)), (0, a), (3, .pointer (some ⟨g, 0, none⟩)), (5, .pointer (some ⟨g1, 0, none⟩)), (6, .pointer (some ⟨g2, 0, none⟩)), (7, tv), (8, iv), (9, .int .i64 i)] 138 fr ∧ Mem w0 (feet []) [.blk g0 (.cells (l[i]).cells.toArray 67), .recs 29 tv told, .row 30 1 iv vs.length vs, .pool ps, dkE D, nmE N1, nmE N2] (fun w' => Ops w' F a l) w) ?_ ?_
        · by_cases h7 : (l[i]).k = 7
          · refine code_region ?_
            refine sv (v := .pointer (some ⟨_, 0, none⟩)) E rfl rfl rfl rfl rfl (run_fieldAddr rfl rfl T.fld67_0) fun fr E => ?_
            refine sv (v := .int .i64 _) E rfl rfl rfl rfl rfl (run_loadB rfl rfl T.one3 (M.row (i := 0) rfl) OpT.c_k) fun fr E => ?_
            refine sv (v := .bool true) E rfl rfl rfl rfl rfl (tst rfl (decide_eq_true h7)) fun fr E => ?_
            refine seq_nil' ?_
            refine cond_true E rfl (rfl) ?_
            refine code_last ?_
            refine sv (v := _) E rfl rfl rfl rfl rfl (run_move rfl rfl) fun fr E => ?_
            refine sv (v := _) E rfl rfl rfl rfl rfl (run_move rfl rfl) fun fr E => ?_
            refine sv (v := _) E rfl rfl rfl rfl rfl (rfl) fun fr E => ?_
            refine sv (v := .pointer (some ⟨_, 3, none⟩)) E rfl rfl rfl rfl rfl (run_fieldAddr rfl rfl T.fld67_3) fun fr E => ?_
            refine sv (v := .agg (l[i]).r.cells.toArray) E rfl rfl rfl rfl rfl (run_loadN' rfl rfl T.agg29 (M.row (i := 0) rfl) (by rw [OpT.size hoi]; rfl) (OpT.c_r hoi)) fun fr E => ?_
            refine sv (v := .pointer (some ⟨_, 1, none⟩)) E rfl rfl rfl rfl rfl (run_fieldAddr rfl rfl T.fld67_1) fun fr E => ?_
            refine sv (v := .int .i64 _) E rfl rfl rfl rfl rfl (run_loadB rfl rfl T.one3 (M.row (i := 0) rfl) OpT.c_n) fun fr E => ?_
            have M := M.pull 6 rfl
            have M := M.pull 5 rfl
            refine scallI ([dkE D, nmE N2]) E M rfl rfl rfl rfl rfl (run_call rfl rfl T.fn26) rfl (fun H => Does.args (rWrite_y (g := g) (A := A) (r := (l[i]'hi).r) (num := (l[i]'hi).n) H hD hoi (by rw [hz2]; decide) hg2') rfl) ?_
            rintro ⟨D1, N3⟩ fr w ⟨hD1, hg3, hk3, ht3⟩ M E
            refine seq_nil ?_
            refine then_any ?_
            have M := M.pull 1 rfl
            have M := M.pull 6 rfl
            have M := M.pull 2 rfl
            have M := M.pull 6 rfl
            have M := M.pull 6 rfl
            have M := M.pull 6 rfl
            have M := M.pull 6 rfl
            exact ⟨D1, _, N1, N3, _, _, told, vs, ps, hD1, (regW_n _ _ _ _).trans hAn, hg1', hk1', hT, hok, htl, hg3, fun c => absurd h7 c, hvl, hvp, ((((((((Env.nil E).add E (t := 9) rfl).add E (t := 8) rfl).add E (t := 7) rfl).add E (t := 6) rfl).add E (t := 5) rfl).add E (t := 3) rfl).add E (t := 0) rfl).add E (t := 10) rfl, Mem.take (L := [.blk g0 (.cells (l[i]).cells.toArray 67), .recs 29 _ told, .row 30 1 _ vs.length vs, .pool ps, dkE D1, nmE N1, nmE N3]) M⟩
          · refine code_region ?_
            refine sv (v := .pointer (some ⟨_, 0, none⟩)) E rfl rfl rfl rfl rfl (run_fieldAddr rfl rfl T.fld67_0) fun fr E => ?_
            refine sv (v := .int .i64 _) E rfl rfl rfl rfl rfl (run_loadB rfl rfl T.one3 (M.row (i := 0) rfl) OpT.c_k) fun fr E => ?_
            refine sv (v := .bool false) E rfl rfl rfl rfl rfl (tst rfl (decide_eq_false h7)) fun fr E => ?_
            refine seq_nil' ?_
            refine cond_false E rfl (rfl) ?_
            refine wp_skip ?_
            refine then_any ?_
            have M := M.pull 6 rfl
            have M := M.pull 6 rfl
            have M := M.pull 6 rfl
            have M := M.pull 6 rfl
            have M := M.pull 6 rfl
            have M := M.pull 6 rfl
            have M := M.pull 6 rfl
            exact ⟨D, _, N1, N2, _, _, told, vs, ps, hD, hAn, hg1', hk1', hT, hok, htl, hg2', fun _ => hz2, hvl, hvp, ((((((((Env.nil E).add E (t := 9) rfl).add E (t := 8) rfl).add E (t := 7) rfl).add E (t := 6) rfl).add E (t := 5) rfl).add E (t := 3) rfl).add E (t := 0) rfl).add E (t := 10) rfl, Mem.take (L := [.blk g0 (.cells (l[i]).cells.toArray 67), .recs 29 _ told, .row 30 1 _ vs.length vs, .pool ps, dkE D, nmE N1, nmE N2]) M⟩
        · rintro fr w ⟨D, A, N1, N2, tv, iv, told, vs, ps, hD, hAn, hg1', hk1', hT, hok, htl, hg2', hz2, hvl, hvp, E, M⟩
          refine code_region ?_
          refine sv (v := _) E rfl rfl rfl rfl rfl (run_move rfl rfl) fun fr E => ?_
          refine sv (v := _) E rfl rfl rfl rfl rfl (run_move rfl rfl) fun fr E => ?_
          refine sv (v := _) E rfl rfl rfl rfl rfl (rfl) fun fr E => ?_
          refine sv (v := .agg (l[i]).cells.toArray) E rfl rfl rfl rfl rfl (run_loadAll rfl rfl T.agg67 (M.row (i := 0) rfl) (OpT.size hoi)) fun fr E => ?_
          have M := M.pull 5 rfl
          have M := M.pull 5 rfl
          refine scallI ([dkE D, nmE N1]) E M rfl rfl rfl rfl rfl (run_call rfl rfl T.fn36) rfl (fun H => run_y (g := g) (A := A) (o := l[i]'hi) H hD hoi (by omega) ((M.fact.2 _ (List.getElem_mem hi)).1.less (fun q ⟨e', he', hq⟩ => hF q ((M.own e' ((List.sublist_append_left [dkE D, nmE N1] _).mem he') q hq).resolve_right feet_nil))) ((M.fact.2 _ (List.getElem_mem hi)).2.less (fun q ⟨e', he', hq⟩ => hF q ((M.own e' ((List.sublist_append_left [dkE D, nmE N1] _).mem he') q hq).resolve_right feet_nil))) hg1') ?_
          rintro ⟨D1, N3⟩ fr w ⟨hD1, hg3, hk3, ht3⟩ M E
          refine seq_nil' ?_
          refine code_cut (fun fr w => ∃ (D : DV) (A : AD) (N1 N2 : NV) (tv iv : Value) (told : List Rec) (vs : List Value) (ps : List (Value × List UInt8)), D.is g A ∧ A.n = 4 ∧ N1.gn = g1 ∧ N1.ks.length ≤ i + 1 ∧ Told N1.ks told ∧ Oks told ∧ told.length ≤ i + 1 ∧ N2.gn = g2 ∧ (¬ (l[i]).k = 7 → N2.ks = []) ∧ vs.length = 2 * i ∧ (∀ v ∈ vs, ∃ k, (v, k) ∈ ps ∧ k.length ≤ 1024) ∧ Env [(10, .pointer (some ⟨g0, 0, none⟩)), (0, a), (3, .pointer (some ⟨g, 0, none⟩)), (5, .pointer (some ⟨g1, 0, none⟩)), (6, .pointer (some ⟨g2, 0, none⟩)), (7, tv), (8, iv), (9, .int .i64 i)] 138 fr ∧ Mem w0 (feet []) [.blk g0 (.cells (l[i]).cells.toArray 67), .recs 29 tv told, .row 30 1 iv vs.length vs, .pool ps, dkE D, nmE N1, nmE N2] (fun w' => Ops w' F a l) w) ?_ ?_
          · by_cases h0 : (l[i]).k = 0
            · refine code_region ?_
              refine sv (v := .pointer (some ⟨_, 0, none⟩)) E rfl rfl rfl rfl rfl (run_fieldAddr rfl rfl T.fld67_0) fun fr E => ?_
              refine sv (v := .int .i64 _) E rfl rfl rfl rfl rfl (run_loadB rfl rfl T.one3 (M.row (i := 2) rfl) OpT.c_k) fun fr E => ?_
              refine sv (v := .bool true) E rfl rfl rfl rfl rfl (tst rfl (decide_eq_true h0)) fun fr E => ?_
              refine seq_nil' ?_
              refine cond_true E rfl (rfl) ?_
              refine code_last ?_
              refine sv (v := _) E rfl rfl rfl rfl rfl (run_move rfl rfl) fun fr E => ?_
              refine sv (v := .pointer (some ⟨_, 3, none⟩)) E rfl rfl rfl rfl rfl (run_fieldAddr rfl rfl T.fld67_3) fun fr E => ?_
              refine sv (v := .agg (l[i]).r.cells.toArray) E rfl rfl rfl rfl rfl (run_loadN' rfl rfl T.agg29 (M.row (i := 2) rfl) (by rw [OpT.size hoi]; rfl) (OpT.c_r hoi)) fun fr E => ?_
              refine srow (sz := 136) (xs := (l[i]).r.cells) E M rfl rfl rfl rfl rfl (run_buildSliceA (us := (l[i]).r.cells) (vs := [.agg (l[i]).r.cells.toArray]) rfl rfl rfl T.slice42 T.size29 T.zl29 rfl (by simp [Value.cells, Rec.len hoi]) rfl rfl (by simp [Value.cells])) (by simp [Rec.len hoi]) (Nat.le_refl _) (by decide) (by simp [List.take_of_length_le, Rec.len hoi]) fun one fr w M E => ?_
              refine sappRec (i := 4) (xs := told) (news := [(l[i]).r]) E M rfl rfl rfl rfl rfl rfl rfl rfl rfl rfl rfl T.slice42 T.slice42 T.zt29 T.by29 (recs1 (M.reads 0 rfl)) (by simp; omega) fun tv fr w M E => ?_
              refine sv (v := _) E rfl rfl rfl rfl rfl (run_assign rfl rfl) fun fr E => ?_
              refine seq_nil ?_
              refine then_any ?_
              have M := M.pull 7 rfl
              have M := M.pull 3 rfl
              have M := M.pull 3 rfl
              have M := M.pull 7 rfl
              have M := M.pull 7 rfl
              have M := M.pull 7 rfl
              have M := M.pull 7 rfl
              exact ⟨D1, _, N3, N2, _, _, (told ++ [(l[i]).r]), vs, ps, hD1, (runA_n _ _ _).trans hAn, hg3, (by have := runA_len A N1.ks l[i]; rw [hk3]; omega), (hk3 ▸ runA_told hT hoi h0), (fun r hr => (List.mem_append.1 hr).elim (hok r) fun h => (List.mem_singleton.1 h) ▸ hoi), (by simp; omega), hg2', hz2, hvl, hvp, ((((((((Env.nil E).add E (t := 9) rfl).add E (t := 8) rfl).add E (t := 7) rfl).add E (t := 6) rfl).add E (t := 5) rfl).add E (t := 3) rfl).add E (t := 0) rfl).add E (t := 10) rfl, Mem.take (L := [.blk g0 (.cells (l[i]).cells.toArray 67), .recs 29 _ (told ++ [(l[i]).r]), .row 30 1 _ vs.length vs, .pool ps, dkE D1, nmE N3, nmE N2]) M⟩
            · refine code_region ?_
              refine sv (v := .pointer (some ⟨_, 0, none⟩)) E rfl rfl rfl rfl rfl (run_fieldAddr rfl rfl T.fld67_0) fun fr E => ?_
              refine sv (v := .int .i64 _) E rfl rfl rfl rfl rfl (run_loadB rfl rfl T.one3 (M.row (i := 2) rfl) OpT.c_k) fun fr E => ?_
              refine sv (v := .bool false) E rfl rfl rfl rfl rfl (tst rfl (decide_eq_false h0)) fun fr E => ?_
              refine seq_nil' ?_
              refine cond_false E rfl (rfl) ?_
              refine wp_skip ?_
              refine then_any ?_
              have M := M.pull 6 rfl
              have M := M.pull 2 rfl
              have M := M.pull 2 rfl
              have M := M.pull 6 rfl
              have M := M.pull 6 rfl
              have M := M.pull 6 rfl
              have M := M.pull 6 rfl
              exact ⟨D1, _, N3, N2, _, _, told, vs, ps, hD1, (runA_n _ _ _).trans hAn, hg3, (by have := runA_len A N1.ks l[i]; rw [hk3]; omega), ((hk3.trans (runA_ks h0)) ▸ hT), hok, Nat.le_succ_of_le htl, hg2', hz2, hvl, hvp, ((((((((Env.nil E).add E (t := 9) rfl).add E (t := 8) rfl).add E (t := 7) rfl).add E (t := 6) rfl).add E (t := 5) rfl).add E (t := 3) rfl).add E (t := 0) rfl).add E (t := 10) rfl, Mem.take (L := [.blk g0 (.cells (l[i]).cells.toArray 67), .recs 29 _ told, .row 30 1 _ vs.length vs, .pool ps, dkE D1, nmE N3, nmE N2]) M⟩
          · rintro fr w ⟨D, A, N1, N2, tv, iv, told, vs, ps, hD, hAn, hg1', hk1', hT, hok, htl, hg2', hz2, hvl, hvp, E, M⟩
            refine code_region ?_
            refine sv (v := _) E rfl rfl rfl rfl rfl (run_move rfl rfl) fun fr E => ?_
            refine sv (v := _) E rfl rfl rfl rfl rfl (run_move rfl rfl) fun fr E => ?_
            refine sv (v := _) E rfl rfl rfl rfl rfl (rfl) fun fr E => ?_
            have M := M.pull 5 rfl
            have M := M.pull 5 rfl
            refine scallI ([dkE D, nmE N1]) E M rfl rfl rfl rfl rfl (run_call rfl rfl T.fn27) rfl (fun H => All_y (A := A) (N := N1) (g := g) H hD (by omega) (by rw [hAn]; decide) hg1') ?_
            rintro ⟨av, D2⟩ fr w hD2 M E
            have hall := all_told (A := A) hT
            have hall2 := allL_len A N1.ks 2
            obtain ⟨al, hal⟩ : ∃ al, al = allL A N1.ks 2 := ⟨_, rfl⟩
            rw [← hal] at M hall hall2
            have hoal : Oks al := fun r hr => hok r (hall.1 r hr)
            refine sv (v := _) E rfl rfl rfl rfl rfl (run_assign rfl rfl) fun fr E => ?_
            refine seq_nil' ?_
            refine wp_seq ?_
            refine code_region ?_
            refine sv (v := _) E rfl rfl rfl rfl rfl (run_assignC rfl) fun fr E => ?_
            refine seq_nil' ?_
            refine wp_block ?_
            refine loop_dec (fun d fr w => ∃ (k : Nat), d = al.length - k ∧ k ≤ al.length ∧ Env [(12, .int .i64 k), (11, av), (10, .pointer (some ⟨g0, 0, none⟩)), (0, a), (3, .pointer (some ⟨g, 0, none⟩)), (5, .pointer (some ⟨g1, 0, none⟩)), (6, .pointer (some ⟨g2, 0, none⟩)), (7, tv), (8, iv), (9, .int .i64 i)] 138 fr ∧ Mem w0 (feet []) [.recs 29 av al, .blk g0 (.cells (l[i]).cells.toArray 67), .recs 29 tv told, .row 30 1 iv vs.length vs, .pool ps, dkE D2, nmE N1, nmE N2] (fun w' => Ops w' F a l) w) (al.length) ?_ ?_
            · have M := M.pull 7 rfl
              have M := M.pull 3 rfl
              have M := M.pull 3 rfl
              have M := M.pull 7 rfl
              have M := M.pull 7 rfl
              have M := M.pull 7 rfl
              have M := M.pull 7 rfl
              have M := M.pull 7 rfl
              exact ⟨0, rfl, Nat.zero_le _, ((((((((((Env.nil E).add E (t := 9) rfl).add E (t := 8) rfl).add E (t := 7) rfl).add E (t := 6) rfl).add E (t := 5) rfl).add E (t := 3) rfl).add E (t := 0) rfl).add E (t := 10) rfl).add E (t := 11) rfl).add E (t := 12) rfl, M⟩
            · clear E M
              rintro d fr w ⟨k, rfl, hkl, E, M⟩
              by_cases hkk : k < al.length
              · rcases Nat.eq_zero_or_pos k with hk0 | hk0
                · refine wp_seq ?_
                  refine code_region ?_
                  refine sv (v := _) E rfl rfl rfl rfl rfl (run_move rfl rfl) fun fr E => ?_
                  refine sv (v := _) E rfl rfl rfl rfl rfl (run_move rfl rfl) fun fr E => ?_
                  refine sv (v := .int .i64 _) E rfl rfl rfl rfl rfl (run_lenR rfl rfl rfl rfl T.slice42 (M.reads 0 rfl)) fun fr E => ?_
                  refine sv (v := .bool true) E rfl rfl rfl rfl rfl (tst rfl (decide_eq_true (by omega))) fun fr E => ?_
                  refine seq_nil' ?_
                  refine cond_true E rfl (rfl) ?_
                  refine wp_skip ?_
                  refine then_normal ?_
                  refine wp_seq ?_
                  refine wp_block ?_
                  refine wp_seq (free_reg (B := T.tab10_23_b) (Vs := (.exact _ :: .exact _ :: .exact _ :: .exact (cellAt av (k * 136)) :: .exact (.agg (al[k]'hkk).cells.toArray) :: .exact (.bool true) :: .exact (.bool _) :: .exact _ :: .exact undef :: .exact undef :: .exact undef :: .exact (.bool _) :: .exact _ :: .exact _ :: .exact (.bool false) :: .exact _ :: .exact undef :: .exact undef :: .exact undef :: .exact undef :: .exact undef :: .exact undef :: .exact undef :: .exact undef :: .exact undef :: .exact undef :: .exact undef :: .exact undef :: .exact (.bool false) :: .exact (.bool _) :: [])) T.tab10_23_i E T.mixed T.tab10_23 rfl (AllS.lasts ⟨trivial, trivial, trivial, trivial, trivial, trivial, trivial, trivial, trivial, trivial, trivial, trivial, trivial, trivial, trivial, trivial, trivial, trivial, trivial, trivial, trivial, trivial, trivial, trivial, trivial, trivial, trivial, trivial, trivial, trivial, trivial⟩) ⟨fs_val rfl rfl (fun x w hx hk => ⟨_, _, rfl, rfl, rfl, run_move rfl rfl, Ext.refl _, rfl⟩),
      fs_val rfl rfl (fun x w hx hk => ⟨_, _, rfl, rfl, rfl, run_move rfl rfl, Ext.refl _, rfl⟩),
      fs_val rfl rfl (fun x w hx hk => ⟨_, _, rfl, rfl, rfl, run_move rfl rfl, Ext.refl _, rfl⟩),
      fs_val rfl rfl (fun x w hx hk => ⟨_, _, rfl, rfl, rfl, run_indexR (i := k) rfl ((M.ext ((Ext.drew _).trans hx)).reads 0 rfl) rfl rfl (rfl) (hkk) T.slice42 T.size29, Ext.refl _, rfl⟩),
      fs_val rfl rfl (fun x w hx hk => ⟨_, _, rfl, rfl, rfl, run_loadRN (k := k * 136) rfl ((M.ext ((Ext.drew _).trans hx)).reads 0 rfl) rfl T.agg29 (by omega) (by decide) (rcs_get hoal hkk), Ext.refl _, rfl⟩),
      fs_ext rfl rfl (fun x w hx hk => ⟨_, _, rfl, rfl, rfl, run_call rfl rfl T.fn30, (has_x (r := al[k]'hkk) ((M.ext ((Ext.drew _).trans hx)).reads 2 rfl) (hoal.get hkk) (hall.1 _ (List.getElem_mem hkk)) hok (by omega)).ext⟩),
      fs_val rfl rfl (fun x w hx hk => ⟨_, _, rfl, rfl, rfl, rfl, Ext.refl _, rfl⟩),
      fs_val rfl rfl (fun x w hx hk => ⟨_, _, rfl, rfl, rfl, run_move rfl rfl, Ext.refl _, rfl⟩),
      fs_no rfl rfl (fun x => ⟨rfl, rfl⟩),
      fs_no rfl rfl (fun x => ⟨rfl, rfl⟩),
      fs_no rfl rfl (fun x => ⟨rfl, rfl⟩),
      fs_val rfl rfl (fun x w hx hk => ⟨_, _, rfl, rfl, rfl, rfl, Ext.refl _, rfl⟩),
      fs_val rfl rfl (fun x w hx hk => ⟨_, _, rfl, rfl, rfl, run_move rfl rfl, Ext.refl _, rfl⟩),
      fs_val rfl rfl (fun x w hx hk => ⟨_, _, rfl, rfl, rfl, run_move rfl rfl, Ext.refl _, rfl⟩),
      fs_val rfl rfl (fun x w hx hk => ⟨_, _, rfl, rfl, rfl, tst rfl (decide_eq_false (by omega)), Ext.refl _, rfl⟩),
      fs_val rfl rfl (fun x w hx hk => ⟨_, _, rfl, rfl, rfl, run_move rfl rfl, Ext.refl _, rfl⟩),
      fs_no rfl rfl (fun x => ⟨rfl, rfl⟩),
      fs_no rfl rfl (fun x => ⟨rfl, rfl⟩),
      fs_no rfl rfl (fun x => ⟨rfl, rfl⟩),
      fs_no rfl rfl (fun x => ⟨rfl, rfl⟩),
      fs_no rfl rfl (fun x => ⟨rfl, rfl⟩),
      fs_no rfl rfl (fun x => ⟨rfl, rfl⟩),
      fs_no rfl rfl (fun x => ⟨rfl, rfl⟩),
      fs_no rfl rfl (fun x => ⟨rfl, rfl⟩),
      fs_no rfl rfl (fun x => ⟨rfl, rfl⟩),
      fs_no rfl rfl (fun x => ⟨rfl, rfl⟩),
      fs_no rfl rfl (fun x => ⟨rfl, rfl⟩),
      fs_no rfl rfl (fun x => ⟨rfl, rfl⟩),
      fs_val rfl rfl (fun x w hx hk => ⟨_, _, rfl, rfl, rfl, rfl, Ext.refl _, rfl⟩),
      fs_val rfl rfl (fun x w hx hk => ⟨_, _, rfl, rfl, rfl, rfl, Ext.refl _, rfl⟩), trivial⟩ ?_)
                  intro x fr w hx hk E
                  have M := M.ext hx
                  refine then_normal ?_
                  refine cond_false E rfl (rfl) ?_
                  refine wp_skip ?_
                  refine block_normal ?_
                  refine then_normal ?_
                  refine code_last ?_
                  refine sv (v := _) E rfl rfl rfl rfl rfl (run_move rfl rfl) fun fr E => ?_
                  refine sv (v := .int _ (((k + 1 : Nat) : Int))) E rfl rfl rfl rfl rfl (num rfl ((i64_id (by omega) (by omega)).trans (by omega))) fun fr E => ?_
                  refine sv (v := _) E rfl rfl rfl rfl rfl (run_assign rfl rfl) fun fr E => ?_
                  refine seq_nil ?_
                  refine then_any ?_
                  have M := M.pull 7 rfl
                  have M := M.pull 7 rfl
                  have M := M.pull 7 rfl
                  have M := M.pull 7 rfl
                  have M := M.pull 7 rfl
                  have M := M.pull 7 rfl
                  have M := M.pull 7 rfl
                  have M := M.pull 7 rfl
                  exact ⟨al.length - (k + 1), by omega, k + 1, rfl, by omega, ((((((((((Env.nil E).add E (t := 9) rfl).add E (t := 8) rfl).add E (t := 7) rfl).add E (t := 6) rfl).add E (t := 5) rfl).add E (t := 3) rfl).add E (t := 0) rfl).add E (t := 10) rfl).add E (t := 11) rfl).add E (t := 12) rfl, M⟩
                · have h2 : al.length = 2 := by omega
                  obtain rfl : k = 1 := by omega
                  have hz : 0 < al.length := by omega
                  have hgg := hall.2 (al[0]'hz) (al[1]'hkk) (two_of h2)
                  refine wp_seq ?_
                  refine code_region ?_
                  refine sv (v := _) E rfl rfl rfl rfl rfl (run_move rfl rfl) fun fr E => ?_
                  refine sv (v := _) E rfl rfl rfl rfl rfl (run_move rfl rfl) fun fr E => ?_
                  refine sv (v := .int .i64 _) E rfl rfl rfl rfl rfl (run_lenR rfl rfl rfl rfl T.slice42 (M.reads 0 rfl)) fun fr E => ?_
                  refine sv (v := .bool true) E rfl rfl rfl rfl rfl (tst rfl (decide_eq_true (by omega))) fun fr E => ?_
                  refine seq_nil' ?_
                  refine cond_true E rfl (rfl) ?_
                  refine wp_skip ?_
                  refine then_normal ?_
                  refine wp_seq ?_
                  refine wp_block ?_
                  refine wp_seq (free_reg (B := T.tab10_23_b) (Vs := (.exact _ :: .exact _ :: .exact _ :: .exact (cellAt av (1 * 136)) :: .exact (.agg (al[1]'hkk).cells.toArray) :: .exact (.bool true) :: .exact (.bool _) :: .exact _ :: .exact undef :: .exact undef :: .exact undef :: .exact (.bool _) :: .exact _ :: .exact _ :: .exact (.bool true) :: .exact _ :: .exact _ :: .exact _ :: .exact (cellAt av (1 * 136)) :: .exact (cellAt av (1 * 136 + 0)) :: .exact (.int .i64 (al[1]'hkk).gen) :: .exact (.int .i64 ((al[1]'hkk).gen.tmod 2)) :: .exact _ :: .exact (cellAt av (0 * 136)) :: .exact (cellAt av (0 * 136 + 0)) :: .exact (.int .i64 (al[0]'hz).gen) :: .exact (.int .i64 ((al[0]'hz).gen.tmod 2)) :: .exact (.bool false) :: .exact (.bool false) :: .exact (.bool _) :: [])) T.tab10_23_i E T.mixed T.tab10_23 rfl (AllS.lasts ⟨trivial, trivial, trivial, trivial, trivial, trivial, trivial, trivial, trivial, trivial, trivial, trivial, trivial, trivial, trivial, trivial, trivial, trivial, trivial, trivial, trivial, trivial, trivial, trivial, trivial, trivial, trivial, trivial, trivial, trivial, trivial⟩) ⟨fs_val rfl rfl (fun x w hx hk => ⟨_, _, rfl, rfl, rfl, run_move rfl rfl, Ext.refl _, rfl⟩),
      fs_val rfl rfl (fun x w hx hk => ⟨_, _, rfl, rfl, rfl, run_move rfl rfl, Ext.refl _, rfl⟩),
      fs_val rfl rfl (fun x w hx hk => ⟨_, _, rfl, rfl, rfl, run_move rfl rfl, Ext.refl _, rfl⟩),
      fs_val rfl rfl (fun x w hx hk => ⟨_, _, rfl, rfl, rfl, run_indexR (i := 1) rfl ((M.ext ((Ext.drew _).trans hx)).reads 0 rfl) rfl rfl (rfl) (hkk) T.slice42 T.size29, Ext.refl _, rfl⟩),
      fs_val rfl rfl (fun x w hx hk => ⟨_, _, rfl, rfl, rfl, run_loadRN (k := 1 * 136) rfl ((M.ext ((Ext.drew _).trans hx)).reads 0 rfl) rfl T.agg29 (by omega) (by decide) (rcs_get hoal hkk), Ext.refl _, rfl⟩),
      fs_ext rfl rfl (fun x w hx hk => ⟨_, _, rfl, rfl, rfl, run_call rfl rfl T.fn30, (has_x (r := al[1]'hkk) ((M.ext ((Ext.drew _).trans hx)).reads 2 rfl) (hoal.get hkk) (hall.1 _ (List.getElem_mem hkk)) hok (by omega)).ext⟩),
      fs_val rfl rfl (fun x w hx hk => ⟨_, _, rfl, rfl, rfl, rfl, Ext.refl _, rfl⟩),
      fs_val rfl rfl (fun x w hx hk => ⟨_, _, rfl, rfl, rfl, run_move rfl rfl, Ext.refl _, rfl⟩),
      fs_no rfl rfl (fun x => ⟨rfl, rfl⟩),
      fs_no rfl rfl (fun x => ⟨rfl, rfl⟩),
      fs_no rfl rfl (fun x => ⟨rfl, rfl⟩),
      fs_val rfl rfl (fun x w hx hk => ⟨_, _, rfl, rfl, rfl, rfl, Ext.refl _, rfl⟩),
      fs_val rfl rfl (fun x w hx hk => ⟨_, _, rfl, rfl, rfl, run_move rfl rfl, Ext.refl _, rfl⟩),
      fs_val rfl rfl (fun x w hx hk => ⟨_, _, rfl, rfl, rfl, run_move rfl rfl, Ext.refl _, rfl⟩),
      fs_val rfl rfl (fun x w hx hk => ⟨_, _, rfl, rfl, rfl, tst rfl (decide_eq_true (by omega)), Ext.refl _, rfl⟩),
      fs_val rfl rfl (fun x w hx hk => ⟨_, _, rfl, rfl, rfl, run_move rfl rfl, Ext.refl _, rfl⟩),
      fs_val rfl rfl (fun x w hx hk => ⟨_, _, rfl, rfl, rfl, run_move rfl rfl, Ext.refl _, rfl⟩),
      fs_val rfl rfl (fun x w hx hk => ⟨_, _, rfl, rfl, rfl, run_move rfl rfl, Ext.refl _, rfl⟩),
      fs_val rfl rfl (fun x w hx hk => ⟨_, _, rfl, rfl, rfl, run_indexR (i := 1) rfl ((M.ext ((Ext.drew _).trans hx)).reads 0 rfl) rfl rfl (rfl) (hkk) T.slice42 T.size29, Ext.refl _, rfl⟩),
      fs_val rfl rfl (fun x w hx hk => ⟨_, _, rfl, rfl, rfl, run_fieldAddrR rfl ((M.ext ((Ext.drew _).trans hx)).reads 0 rfl) rfl T.fld29_0 (by omega), Ext.refl _, rfl⟩),
      fs_val rfl rfl (fun x w hx hk => ⟨_, _, rfl, rfl, rfl, run_loadR rfl ((M.ext ((Ext.drew _).trans hx)).reads 0 rfl) rfl T.one3 (rcs_gen hoal hkk), Ext.refl _, rfl⟩),
      fs_val rfl rfl (fun x w hx hk => ⟨_, _, rfl, rfl, rfl, run_remK rfl rfl rfl (by decide) (by decide), Ext.refl _, rfl⟩),
      fs_val rfl rfl (fun x w hx hk => ⟨_, _, rfl, rfl, rfl, run_move rfl rfl, Ext.refl _, rfl⟩),
      fs_val rfl rfl (fun x w hx hk => ⟨_, _, rfl, rfl, rfl, run_indexR (i := 0) rfl ((M.ext ((Ext.drew _).trans hx)).reads 0 rfl) rfl rfl (rfl) (hz) T.slice42 T.size29, Ext.refl _, rfl⟩),
      fs_val rfl rfl (fun x w hx hk => ⟨_, _, rfl, rfl, rfl, run_fieldAddrR rfl ((M.ext ((Ext.drew _).trans hx)).reads 0 rfl) rfl T.fld29_0 (by omega), Ext.refl _, rfl⟩),
      fs_val rfl rfl (fun x w hx hk => ⟨_, _, rfl, rfl, rfl, run_loadR rfl ((M.ext ((Ext.drew _).trans hx)).reads 0 rfl) rfl T.one3 (rcs_gen hoal hz), Ext.refl _, rfl⟩),
      fs_val rfl rfl (fun x w hx hk => ⟨_, _, rfl, rfl, rfl, run_remK rfl rfl rfl (by decide) (by decide), Ext.refl _, rfl⟩),
      fs_val rfl rfl (fun x w hx hk => ⟨_, _, rfl, rfl, rfl, tst rfl (decide_eq_false (by omega)), Ext.refl _, rfl⟩),
      fs_val rfl rfl (fun x w hx hk => ⟨_, _, rfl, rfl, rfl, rfl, Ext.refl _, rfl⟩),
      fs_val rfl rfl (fun x w hx hk => ⟨_, _, rfl, rfl, rfl, rfl, Ext.refl _, rfl⟩), trivial⟩ ?_)
                  intro x fr w hx hk E
                  have M := M.ext hx
                  refine then_normal ?_
                  refine cond_false E rfl (rfl) ?_
                  refine wp_skip ?_
                  refine block_normal ?_
                  refine then_normal ?_
                  refine code_last ?_
                  refine sv (v := _) E rfl rfl rfl rfl rfl (run_move rfl rfl) fun fr E => ?_
                  refine sv (v := .int _ (((1 + 1 : Nat) : Int))) E rfl rfl rfl rfl rfl (num rfl ((i64_id (by omega) (by omega)).trans (by omega))) fun fr E => ?_
                  refine sv (v := _) E rfl rfl rfl rfl rfl (run_assign rfl rfl) fun fr E => ?_
                  refine seq_nil ?_
                  refine then_any ?_
                  have M := M.pull 7 rfl
                  have M := M.pull 7 rfl
                  have M := M.pull 7 rfl
                  have M := M.pull 7 rfl
                  have M := M.pull 7 rfl
                  have M := M.pull 7 rfl
                  have M := M.pull 7 rfl
                  have M := M.pull 7 rfl
                  exact ⟨al.length - (1 + 1), by omega, 1 + 1, rfl, by omega, ((((((((((Env.nil E).add E (t := 9) rfl).add E (t := 8) rfl).add E (t := 7) rfl).add E (t := 6) rfl).add E (t := 5) rfl).add E (t := 3) rfl).add E (t := 0) rfl).add E (t := 10) rfl).add E (t := 11) rfl).add E (t := 12) rfl, M⟩
              · by_cases h7 : (l[i]).k = 7
                · refine wp_seq ?_
                  refine code_region ?_
                  refine sv (v := _) E rfl rfl rfl rfl rfl (run_move rfl rfl) fun fr E => ?_
                  refine sv (v := _) E rfl rfl rfl rfl rfl (run_move rfl rfl) fun fr E => ?_
                  refine sv (v := .int .i64 _) E rfl rfl rfl rfl rfl (run_lenR rfl rfl rfl rfl T.slice42 (M.reads 0 rfl)) fun fr E => ?_
                  refine sv (v := .bool false) E rfl rfl rfl rfl rfl (tst rfl (decide_eq_false (by omega))) fun fr E => ?_
                  refine seq_nil' ?_
                  refine cond_false E rfl (rfl) ?_
                  refine wp_exit ?_
                  refine then_exit ?_
                  refine then_exit ?_
                  refine block_exit ?_
                  refine then_normal ?_
                  refine wp_seq ?_
                  refine code_region ?_
                  refine sv (v := .pointer (some ⟨_, 0, none⟩)) E rfl rfl rfl rfl rfl (run_fieldAddr rfl rfl T.fld67_0) fun fr E => ?_
                  refine sv (v := .int .i64 _) E rfl rfl rfl rfl rfl (run_loadB rfl rfl T.one3 (M.row (i := 1) rfl) OpT.c_k) fun fr E => ?_
                  refine sv (v := .bool true) E rfl rfl rfl rfl rfl (tst rfl (decide_eq_true h7)) fun fr E => ?_
                  refine seq_nil' ?_
                  refine cond_true E rfl (rfl) ?_
                  refine code_region ?_
                  refine sgive E M rfl rfl rfl rfl rfl (run_call rfl rfl T.fn15) (works_c _) fun fr w M E => ?_
                  refine sv (v := _) E rfl rfl rfl rfl rfl (run_assign rfl rfl) fun fr E => ?_
                  refine seq_nil' ?_
                  refine wp_ret ?_
                  refine then_ret ?_
                  refine block_ret ?_
                  refine then_ret ?_
                  refine then_ret ?_
                  refine block_ret ?_
                  refine then_ret ?_
                  refine ret1 E rfl rfl ?_
                  exact given M
                · refine wp_seq ?_
                  refine code_region ?_
                  refine sv (v := _) E rfl rfl rfl rfl rfl (run_move rfl rfl) fun fr E => ?_
                  refine sv (v := _) E rfl rfl rfl rfl rfl (run_move rfl rfl) fun fr E => ?_
                  refine sv (v := .int .i64 _) E rfl rfl rfl rfl rfl (run_lenR rfl rfl rfl rfl T.slice42 (M.reads 0 rfl)) fun fr E => ?_
                  refine sv (v := .bool false) E rfl rfl rfl rfl rfl (tst rfl (decide_eq_false (by omega))) fun fr E => ?_
                  refine seq_nil' ?_
                  refine cond_false E rfl (rfl) ?_
                  refine wp_exit ?_
                  refine then_exit ?_
                  refine then_exit ?_
                  refine block_exit ?_
                  refine then_normal ?_
                  refine wp_seq ?_
                  refine code_region ?_
                  refine sv (v := .pointer (some ⟨_, 0, none⟩)) E rfl rfl rfl rfl rfl (run_fieldAddr rfl rfl T.fld67_0) fun fr E => ?_
                  refine sv (v := .int .i64 _) E rfl rfl rfl rfl rfl (run_loadB rfl rfl T.one3 (M.row (i := 1) rfl) OpT.c_k) fun fr E => ?_
                  refine sv (v := .bool false) E rfl rfl rfl rfl rfl (tst rfl (decide_eq_false h7)) fun fr E => ?_
                  refine seq_nil' ?_
                  refine cond_false E rfl (rfl) ?_
                  refine wp_skip ?_
                  refine then_normal ?_
                  refine code_region ?_
                  refine sv (v := _) E rfl rfl rfl rfl rfl (run_assignC rfl) fun fr E => ?_
                  refine seq_nil' ?_
                  refine wp_block ?_
                  refine loop_dec (fun d fr w => ∃ (k : Nat) (D : DV) (A : AD) (iv : Value) (vs : List Value) (ps : List (Value × List UInt8)), d = 2 - k ∧ k ≤ 2 ∧ D.is g A ∧ A.n = 4 ∧ vs.length = 2 * i + k ∧ (∀ v ∈ vs, ∃ k, (v, k) ∈ ps ∧ k.length ≤ 1024) ∧ Env [(13, .int .i64 ((k + 1 : Nat) : Int)), (0, a), (3, .pointer (some ⟨g, 0, none⟩)), (5, .pointer (some ⟨g1, 0, none⟩)), (6, .pointer (some ⟨g2, 0, none⟩)), (7, tv), (8, iv), (9, .int .i64 i)] 138 fr ∧ Mem w0 (feet []) [.recs 29 tv told, .row 30 1 iv vs.length vs, .pool ps, dkE D, nmE N1, nmE N2] (fun w' => Ops w' F a l) w) (2) ?_ ?_
                  · have M := M.pull 7 rfl
                    have M := M.pull 7 rfl
                    have M := M.pull 7 rfl
                    have M := M.pull 7 rfl
                    have M := M.pull 7 rfl
                    have M := M.pull 7 rfl
                    exact ⟨0, D2, _, _, vs, ps, rfl, by decide, hD2, hAn, by omega, hvp, ((((((((Env.nil E).add E (t := 9) rfl).add E (t := 8) rfl).add E (t := 7) rfl).add E (t := 6) rfl).add E (t := 5) rfl).add E (t := 3) rfl).add E (t := 0) rfl).add E (t := 13) rfl, Mem.take (L := [.recs 29 _ told, .row 30 1 _ vs.length vs, .pool ps, dkE D2, nmE N1, nmE N2]) M⟩
                  · clear E M
                    rintro d fr w ⟨k, D, A, iv, vs, ps, rfl, hk2, hD, hAn, hvl, hvp, E, M⟩
                    by_cases hk : k < 2
                    · refine wp_seq ?_
                      refine code_region ?_
                      refine sv (v := _) E rfl rfl rfl rfl rfl (run_move rfl rfl) fun fr E => ?_
                      refine sv (v := .bool true) E rfl rfl rfl rfl rfl (tst rfl (decide_eq_true (by omega))) fun fr E => ?_
                      refine seq_nil' ?_
                      refine cond_true E rfl (rfl) ?_
                      refine wp_skip ?_
                      refine then_normal ?_
                      refine wp_seq ?_
                      refine wp_block ?_
                      refine code_region ?_
                      refine sv (v := _) E rfl rfl rfl rfl rfl (run_move rfl rfl) fun fr E => ?_
                      refine sv (v := _) E rfl rfl rfl rfl rfl (run_move rfl rfl) fun fr E => ?_
                      have M := M.pull 3 rfl
                      refine scallI ([dkE D]) E M rfl rfl rfl rfl rfl (run_call rfl rfl T.fn37) rfl (fun H => Does.args (Read_a (j := k + 1) H hD (by omega)) rfl) ?_
                      rintro ⟨c, D3⟩ fr w hD3 M E
                      refine sv (v := _) E rfl rfl rfl rfl rfl (run_move rfl rfl) fun fr E => ?_
                      refine sv (v := _) E rfl rfl rfl rfl rfl (run_extract rfl rfl rfl) fun fr E => ?_
                      refine sv (v := _) E rfl rfl rfl rfl rfl (run_extract rfl rfl rfl) fun fr E => ?_
                      refine sv (v := _) E rfl rfl rfl rfl rfl (run_assign rfl rfl) fun fr E => ?_
                      refine sv (v := _) E rfl rfl rfl rfl rfl (run_assign rfl rfl) fun fr E => ?_
                      refine seq_nil' ?_
                      refine code_last ?_
                      refine sv (v := _) E rfl rfl rfl rfl rfl (run_move rfl rfl) fun fr E => ?_
                      refine sv (v := _) E rfl rfl rfl rfl rfl (run_move rfl rfl) fun fr E => ?_
                      refine srow (sz := 1) (xs := _) E M rfl rfl rfl rfl rfl (run_buildSliceA (us := [c]) (vs := [c]) rfl rfl rfl T.slice65 T.size30 T.zl30 rfl (by simp [show c.cells = #[c] from Reads.cell (M.bytes 0 rfl)]) rfl rfl (by simp [show c.cells = #[c] from Reads.cell (M.bytes 0 rfl)])) (rfl) (Nat.le_refl _) (by decide) (rfl) fun im1 fr w M E => ?_
                      refine sapp (i := 4) E M rfl rfl rfl rfl rfl rfl rfl rfl rfl rfl rfl T.slice65 T.slice65 T.zt30 T.by30 (by decide) (M.reads 0 rfl) (fun u hu => (List.mem_singleton.1 hu) ▸ Reads.oneC (M.bytes 1 rfl)) (by omega) fun iv fr w M E => ?_
                      refine sv (v := _) E rfl rfl rfl rfl rfl (run_assign rfl rfl) fun fr E => ?_
                      refine seq_nil ?_
                      refine block_normal ?_
                      refine then_normal ?_
                      refine code_last ?_
                      refine sv (v := _) E rfl rfl rfl rfl rfl (run_move rfl rfl) fun fr E => ?_
                      refine sv (v := .int _ (((k + 1 + 1 : Nat) : Int))) E rfl rfl rfl rfl rfl (num rfl ((i64_id (by omega) (by omega)).trans (by omega))) fun fr E => ?_
                      refine sv (v := _) E rfl rfl rfl rfl rfl (run_assign rfl rfl) fun fr E => ?_
                      refine seq_nil ?_
                      refine then_any ?_
                      have M := M.pull 7 rfl
                      have M := M.pull 7 rfl
                      have M := M.pull 4 rfl
                      have M := M.pull 6 rfl
                      have M := M.pull 6 rfl
                      have M := M.pull 7 rfl
                      have M := M.pull 7 rfl
                      have M := ((M.pour).pull 2 rfl).pull 2 rfl
                      exact ⟨2 - (k + 1), by omega, k + 1, D3, _, _, vs ++ [c], (c, A.read (k + 1)) :: ps, rfl, by omega, hD3, hAn, by simp; omega, (fun v hv => (List.mem_append.1 hv).elim (fun h => (hvp v h).imp fun k q => ⟨List.mem_cons_of_mem _ q.1, q.2⟩) fun h => ⟨A.read (k + 1), (List.mem_singleton.1 h) ▸ List.mem_cons_self .., hD.2.read_len _⟩), ((((((((Env.nil E).add E (t := 9) rfl).add E (t := 8) rfl).add E (t := 7) rfl).add E (t := 6) rfl).add E (t := 5) rfl).add E (t := 3) rfl).add E (t := 0) rfl).add E (t := 13) rfl, (Mem.take (L := [.recs 29 _ told, .row 30 1 _ (vs.length + 1) (vs ++ [c]), .pool ((c, A.read (k + 1)) :: ps), dkE D3, nmE N1, nmE N2]) M).as (by simp)⟩
                    · refine wp_seq ?_
                      refine code_region ?_
                      refine sv (v := _) E rfl rfl rfl rfl rfl (run_move rfl rfl) fun fr E => ?_
                      refine sv (v := .bool false) E rfl rfl rfl rfl rfl (tst rfl (decide_eq_false (by omega))) fun fr E => ?_
                      refine seq_nil' ?_
                      refine cond_false E rfl (rfl) ?_
                      refine wp_exit ?_
                      refine then_exit ?_
                      refine then_exit ?_
                      refine block_exit ?_
                      refine block_normal ?_
                      refine then_normal ?_
                      refine code_last ?_
                      refine sv (v := _) E rfl rfl rfl rfl rfl (run_move rfl rfl) fun fr E => ?_
                      refine sv (v := .int _ (((i + 1 : Nat) : Int))) E rfl rfl rfl rfl rfl (num rfl ((i64_id (by omega) (by omega)).trans (by omega))) fun fr E => ?_
                      refine sv (v := _) E rfl rfl rfl rfl rfl (run_assign rfl rfl) fun fr E => ?_
                      refine seq_nil ?_
                      refine then_any ?_
                      have M := M.pull 5 rfl
                      have M := M.pull 5 rfl
                      have M := M.pull 5 rfl
                      have M := M.pull 5 rfl
                      have M := M.pull 5 rfl
                      have M := M.pull 5 rfl
                      exact ⟨l.length - (i + 1), by omega, i + 1, D, _, N1, N2, _, _, told, vs, ps, rfl, by omega, hD, hAn, hg1', hk1', hT, hok, htl, hg2', hz2 h7, by omega, hvp, (((((((Env.nil E).add E (t := 9) rfl).add E (t := 8) rfl).add E (t := 7) rfl).add E (t := 6) rfl).add E (t := 5) rfl).add E (t := 3) rfl).add E (t := 0) rfl, Mem.take (L := [.recs 29 _ told, .row 30 1 _ vs.length vs, .pool ps, dkE D, nmE N1, nmE N2]) M⟩
    · obtain rfl : i = l.length := by omega
      refine wp_seq ?_
      refine code_region ?_
      refine sv (v := _) E rfl rfl rfl rfl rfl (run_move rfl rfl) fun fr E => ?_
      refine sv (v := _) E rfl rfl rfl rfl rfl (run_move rfl rfl) fun fr E => ?_
      refine sv (v := .int .i64 _) E rfl rfl rfl rfl rfl (run_lenR rfl rfl rfl rfl T.slice63 (M.fact).1) fun fr E => ?_
      refine sv (v := .bool false) E rfl rfl rfl rfl rfl (tst rfl (decide_eq_false (by omega))) fun fr E => ?_
      refine seq_nil' ?_
      refine cond_false E rfl (rfl) ?_
      refine wp_exit ?_
      refine then_exit ?_
      refine then_exit ?_
      refine block_exit ?_
      refine then_normal ?_
      refine code_region ?_
      refine sgive E M rfl rfl rfl rfl rfl (run_call rfl rfl T.fn15) (works_c _) fun fr w M E => ?_
      refine sv (v := _) E rfl rfl rfl rfl rfl (run_assign rfl rfl) fun fr E => ?_
      refine seq_nil' ?_
      refine wp_ret ?_
      refine ret1 E rfl rfl ?_
      exact given M

/-- Whatever operations come in. -/
theorem RegionOnly_x {a : Value} {l : List OpT} {w0 : World} (hb : Reads 141 w0 a l.length (ocs l)) (ho : OOk l) (hs : ∀ o ∈ l, o.In w0) : Gives Try.prog 10 [a] w0 (.bool true) := by
  have ha : Ops w0 (fun g => w0.heap.size ≤ g) a l := Ops.old hb fun o h => (hs o h).2
  have hav : ∀ g, a.ownBlock = some g → ¬ w0.heap.size ≤ g := fun g hg hc => by
    rcases hb.2 with ⟨rfl, _⟩ | ⟨g', off, cap, rfl, _, _, h5, _⟩
    · cases hg
    · have e : g' = g := by simpa [Value.ownBlock] using hg
      omega
  by_cases hl : LongP l
  · exact RegionOnly_long ha ho (fun _ h => h) hav hl
  · exact RegionOnly_in ha ho (fun _ h => h) hav hl
end Go.Proofs.Ytnojooafgehhaaa.K
end
