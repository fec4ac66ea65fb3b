/- Contracts: format.epoch, refused, and Format's own functions. -/
import Derived.Test.YtnebjbgcibjohaaGreatKK
import Derived.Test.YtnebjbgcibjohaaGreatKK2
import Derived.Test.YtnebjbgcibjohaaGreatRR1
import Derived.Test.YtnebjbgcibjohaaGreatProg
import Derived.Test.YtnebjbgcibjohaaGreatRR
section
namespace Go.Proofs.YtnebjbgcibjohaaGreat.K
open Go.RowKit Go.Rill Go.Proofs
set_option linter.unusedVariables false
set_option linter.unusedSimpArgs false
/-- The epoch of a counter's value. -/
def epochZ (v : Int) : Int := v / 1048576 + 1 + v % 1048576
/-- What forbids a volume. -/
def refZ (n : Nat) (v s l b : Int) : Int := if ¬ GMay s l b then 15 else if (n : Int) < 3 + s * l then 7 else if v % 1048576 = 1048575 ∨ 1099511627776 ≤ epochZ (v + 1) then 17 else 0
set_option maxRecDepth 100000 in
theorem Len_d {gd gm : Nat} {lv rv : Value} {S : Dsk} {w0 : World} (H : Has w0 (dsk gd gm lv rv S)) (hS : S.Ok)  : Gives Tryz.prog 55 [.pointer (some ⟨gd, 0, none⟩)] w0 (.int .i64 (S.n : Int)) := by
  refine enter (n := 8) Tryz.func55 rfl rfl rfl ?_
  intro fr E
  have M : Mem w0 (feet []) [] (fun w' => Has w' (dsk gd gm lv rv S)) w0 := Mem.begin (Has.nil w0) (fun w' h => H.held h fun g hg c => feet_nil c)
  refine code_region ?_
  refine sw E (run_assignC rfl) fun fr E => ?_
  refine seq_nil' ?_
  refine code_region ?_
  refine mv E fun fr E => ?_
  refine sw E (run_nilCheck rfl rfl) fun fr E => ?_
  refine sw (v := .pointer (some ⟨_, 0, none⟩)) E (run_fieldAddr rfl rfl T.fld71_0) fun fr E => ?_
  refine sw E (run_loadB rfl rfl T.one68 (M.fact.ent 0 rfl) rfl) fun fr E => ?_
  refine sw (v := .int .i64 _) E (run_lenR rfl rfl rfl rfl T.slice68 (ownsRow_reads (M.fact.ent 1 rfl))) fun fr E => ?_
  refine ma E fun fr E => ?_
  refine seq_nil' ?_
  refine wp_ret ?_
  refine ret1 E rfl rfl ?_
  exact given M

theorem Len_g {D : DV} {g : Nat} {A : AD} {w0 : World} (H : Has w0 [dkE D]) (hD : D.is g A) : Gives Tryz.prog 55 [.pointer (some ⟨g, 0, none⟩)] w0 (.int .i64 (A.n : Int)) := by
  obtain ⟨gd, gm, lv, rv, S⟩ := D
  obtain ⟨hg, hA⟩ := hD
  have hg : gd = g := hg
  have hA : S.Abs A := hA
  subst hg
  rw [← hA.n]
  exact Len_d H.unpack1 hA.ok

set_option maxRecDepth 100000 in
theorem epoch_x {v : Int} {w0 : World} (hv : 0 ≤ v) (hv2 : v ≤ 2305843009213693952) : Gives Tryz.prog 34 [.int .i64 v] w0 (.int .i64 (epochZ v)) := by
  refine enter (n := 9) Tryz.func34 rfl rfl rfl ?_
  intro fr E
  have M : Mem w0 (feet []) [] (fun _ => True) w0 := Mem.begin (Has.nil w0) (fun _ _ => trivial)
  refine code_region ?_
  refine sw E (run_assignC rfl) fun fr E => ?_
  refine seq_nil' ?_
  refine code_region ?_
  refine mv E fun fr E => ?_
  refine sgive E M rfl rfl rfl rfl rfl (run_call rfl rfl T.fn14) (Level_x hv) fun fr w M E => ?_
  refine sw (v := .int _ (v / 1048576 + 1)) E (num rfl (i64_id (by omega) (by omega))) fun fr E => ?_
  refine mv E fun fr E => ?_
  refine sgive E M rfl rfl rfl rfl rfl (run_call rfl rfl T.fn15) (Tries_x hv (by omega)) fun fr w M E => ?_
  refine sw (v := .int _ (v / 1048576 + 1 + v % 1048576)) E (num rfl (i64_id (by omega) (by omega))) fun fr E => ?_
  refine ma E fun fr E => ?_
  refine seq_nil' ?_
  refine wp_ret ?_
  refine ret1 E rfl rfl ?_
  exact given M

set_option maxRecDepth 100000 in
theorem refused_geo {D : DV} {g gk : Nat} {A : AD} {v s l b : Int} {w0 : World} (H : Has w0 [dkE D]) (hD : D.is g A) (hc : w0.heap[gk]? = some (.cells #[.pointer (some ⟨g, 0, none⟩), .int .i64 (v)] 77)) (hv : 0 ≤ v) (hv2 : v ≤ 1152921504606846976) (hg : ¬ GMay s l b) : Gives Tryz.prog 33 [.pointer (some ⟨g, 0, none⟩), .pointer (some ⟨gk, 0, none⟩), .agg #[.int .i64 s, .int .i64 l, .int .i64 b]] w0 (.int .i64 15) := by
  refine enter (n := 30) Tryz.func33 rfl rfl rfl ?_
  intro fr E
  have M : Mem w0 (feet []) [] (fun w' => Has w' [dkE D] ∧ w'.heap[gk]? = some (.cells #[.pointer (some ⟨g, 0, none⟩), .int .i64 (v)] 77)) w0 := Mem.begin (Has.nil w0) (fun w' h => ⟨H.held h fun g hg c => feet_nil c, held_at hc h⟩)
  refine code_region ?_
  refine snew (ob := .cells (#[.int .i64 s, .int .i64 l, .int .i64 b]) 35) (fun g => .pointer (some ⟨g, 0, none⟩)) E M rfl rfl rfl rfl rfl (run_boxN (cs := (#[.int .i64 s, .int .i64 l, .int .i64 b])) rfl rfl) fun g0 fr w M E => ?_
  refine sw E (run_assignC rfl) fun fr E => ?_
  refine seq_nil' ?_
  refine code_region ?_
  refine mv E fun fr E => ?_
  refine sgive E M rfl rfl rfl rfl rfl (run_call rfl rfl T.fn11) (cValue_x M.fact.2) fun fr w M E => ?_
  refine ma E fun fr E => ?_
  refine seq_nil' ?_
  refine wp_seq ?_
  refine wp_block ?_
  refine code_region ?_
  refine sw (v := .agg #[.int .i64 s, .int .i64 l, .int .i64 b]) E (run_loadAll rfl rfl T.agg35 (M.row (i := 0) rfl) rfl) fun fr E => ?_
  refine sgive E M rfl rfl rfl rfl rfl (run_call rfl rfl T.fn16) (Check_no hg) fun fr w M E => ?_
  refine sw (v := .bool true) E (tst rfl (rfl)) fun fr E => ?_
  refine ma E fun fr E => ?_
  refine seq_nil' ?_
  refine cond_true E rfl (rfl) ?_
  refine code_region ?_
  refine sw E (run_assignC rfl) fun fr E => ?_
  refine seq_nil' ?_
  refine wp_ret ?_
  refine block_ret ?_
  refine then_ret ?_
  refine ret1 E rfl rfl ?_
  exact given M

set_option maxRecDepth 100000 in
theorem refused_low {D : DV} {g gk : Nat} {A : AD} {v s l b : Int} {w0 : World} (H : Has w0 [dkE D]) (hD : D.is g A) (hc : w0.heap[gk]? = some (.cells #[.pointer (some ⟨g, 0, none⟩), .int .i64 (v)] 77)) (hv : 0 ≤ v) (hv2 : v ≤ 1152921504606846976) (hg : GMay s l b) (hn : (A.n : Int) < 3 + s * l) : Gives Tryz.prog 33 [.pointer (some ⟨g, 0, none⟩), .pointer (some ⟨gk, 0, none⟩), .agg #[.int .i64 s, .int .i64 l, .int .i64 b]] w0 (.int .i64 7) := by
  refine enter (n := 30) Tryz.func33 rfl rfl rfl ?_
  intro fr E
  have M : Mem w0 (feet []) [] (fun w' => Has w' [dkE D] ∧ w'.heap[gk]? = some (.cells #[.pointer (some ⟨g, 0, none⟩), .int .i64 (v)] 77)) w0 := Mem.begin (Has.nil w0) (fun w' h => ⟨H.held h fun g hg c => feet_nil c, held_at hc h⟩)
  refine code_region ?_
  refine snew (ob := .cells (#[.int .i64 s, .int .i64 l, .int .i64 b]) 35) (fun g => .pointer (some ⟨g, 0, none⟩)) E M rfl rfl rfl rfl rfl (run_boxN (cs := (#[.int .i64 s, .int .i64 l, .int .i64 b])) rfl rfl) fun g0 fr w M E => ?_
  refine sw E (run_assignC rfl) fun fr E => ?_
  refine seq_nil' ?_
  refine code_region ?_
  refine mv E fun fr E => ?_
  refine sgive E M rfl rfl rfl rfl rfl (run_call rfl rfl T.fn11) (cValue_x M.fact.2) fun fr w M E => ?_
  refine ma E fun fr E => ?_
  refine seq_nil' ?_
  refine wp_seq ?_
  refine wp_block ?_
  refine code_region ?_
  refine sw (v := .agg #[.int .i64 s, .int .i64 l, .int .i64 b]) E (run_loadAll rfl rfl T.agg35 (M.row (i := 0) rfl) rfl) fun fr E => ?_
  refine sgive E M rfl rfl rfl rfl rfl (run_call rfl rfl T.fn16) (Check_ok hg) fun fr w M E => ?_
  refine sw (v := .bool false) E (tst rfl (rfl)) fun fr E => ?_
  refine ma E fun fr E => ?_
  refine seq_nil' ?_
  refine cond_false E rfl (rfl) ?_
  refine wp_seq (free_reg (B := T.tab33_4_b) (Vs := (.exact _ :: .exact (.int .i64 (A.n : Int)) :: .exact (.agg #[.int .i64 s, .int .i64 l, .int .i64 b]) :: .exact (.int .i64 (3 + s * l)) :: .exact (.bool true) :: .exact _ :: [])) T.tab33_4_i E T.mixed T.tab33_4 rfl (AllS.lasts ⟨trivial, trivial, trivial, trivial, trivial, trivial, trivial⟩) ⟨fv rfl rfl (fun x w hx hk => run_move rfl rfl),
      fs_ext rfl rfl (fun x w hx hk => ⟨_, _, rfl, rfl, rfl, run_call rfl rfl T.fn55, (Len_g (M.ext ((Ext.drew _).trans hx)).fact.1 hD).ext⟩),
      fv rfl rfl (fun x w hx hk => run_loadAll rfl rfl T.agg35 ((M.ext ((Ext.drew _).trans hx)).row (i := 0) rfl) rfl),
      fs_ext rfl rfl (fun x w hx hk => ⟨_, _, rfl, rfl, rfl, run_call rfl rfl T.fn17, (Sectors_ok hg).ext⟩),
      fv rfl rfl (fun x w hx hk => tst rfl (decide_eq_true hn)),
      fv rfl rfl (fun x w hx hk => run_assign rfl rfl), trivial⟩ ?_)
  intro x fr w hx hk E
  have M := M.ext hx
  refine then_normal ?_
  refine cond_true E rfl (rfl) ?_
  refine code_region ?_
  refine sw E (run_assignC rfl) fun fr E => ?_
  refine seq_nil' ?_
  refine wp_ret ?_
  refine block_ret ?_
  refine then_ret ?_
  refine ret1 E rfl rfl ?_
  exact given M

set_option maxRecDepth 100000 in
theorem refused_m1 {D : DV} {g gk : Nat} {A : AD} {v s l b : Int} {w0 : World} (H : Has w0 [dkE D]) (hD : D.is g A) (hc : w0.heap[gk]? = some (.cells #[.pointer (some ⟨g, 0, none⟩), .int .i64 (v)] 77)) (hv : 0 ≤ v) (hv2 : v ≤ 1152921504606846976) (hg : GMay s l b) (hn : ¬ (A.n : Int) < 3 + s * l) (ht : v % 1048576 = 1048575) : Gives Tryz.prog 33 [.pointer (some ⟨g, 0, none⟩), .pointer (some ⟨gk, 0, none⟩), .agg #[.int .i64 s, .int .i64 l, .int .i64 b]] w0 (.int .i64 17) := by
  refine enter (n := 30) Tryz.func33 rfl rfl rfl ?_
  intro fr E
  have M : Mem w0 (feet []) [] (fun w' => Has w' [dkE D] ∧ w'.heap[gk]? = some (.cells #[.pointer (some ⟨g, 0, none⟩), .int .i64 (v)] 77)) w0 := Mem.begin (Has.nil w0) (fun w' h => ⟨H.held h fun g hg c => feet_nil c, held_at hc h⟩)
  refine code_region ?_
  refine snew (ob := .cells (#[.int .i64 s, .int .i64 l, .int .i64 b]) 35) (fun g => .pointer (some ⟨g, 0, none⟩)) E M rfl rfl rfl rfl rfl (run_boxN (cs := (#[.int .i64 s, .int .i64 l, .int .i64 b])) rfl rfl) fun g0 fr w M E => ?_
  refine sw E (run_assignC rfl) fun fr E => ?_
  refine seq_nil' ?_
  refine code_region ?_
  refine mv E fun fr E => ?_
  refine sgive E M rfl rfl rfl rfl rfl (run_call rfl rfl T.fn11) (cValue_x M.fact.2) fun fr w M E => ?_
  refine ma E fun fr E => ?_
  refine seq_nil' ?_
  refine wp_seq ?_
  refine wp_block ?_
  refine code_region ?_
  refine sw (v := .agg #[.int .i64 s, .int .i64 l, .int .i64 b]) E (run_loadAll rfl rfl T.agg35 (M.row (i := 0) rfl) rfl) fun fr E => ?_
  refine sgive E M rfl rfl rfl rfl rfl (run_call rfl rfl T.fn16) (Check_ok hg) fun fr w M E => ?_
  refine sw (v := .bool false) E (tst rfl (rfl)) fun fr E => ?_
  refine ma E fun fr E => ?_
  refine seq_nil' ?_
  refine cond_false E rfl (rfl) ?_
  refine wp_seq (free_reg (B := T.tab33_4_b) (Vs := (.exact _ :: .exact (.int .i64 (A.n : Int)) :: .exact (.agg #[.int .i64 s, .int .i64 l, .int .i64 b]) :: .exact (.int .i64 (3 + s * l)) :: .exact (.bool false) :: .exact _ :: [])) T.tab33_4_i E T.mixed T.tab33_4 rfl (AllS.lasts ⟨trivial, trivial, trivial, trivial, trivial, trivial, trivial⟩) ⟨fv rfl rfl (fun x w hx hk => run_move rfl rfl),
      fs_ext rfl rfl (fun x w hx hk => ⟨_, _, rfl, rfl, rfl, run_call rfl rfl T.fn55, (Len_g (M.ext ((Ext.drew _).trans hx)).fact.1 hD).ext⟩),
      fv rfl rfl (fun x w hx hk => run_loadAll rfl rfl T.agg35 ((M.ext ((Ext.drew _).trans hx)).row (i := 0) rfl) rfl),
      fs_ext rfl rfl (fun x w hx hk => ⟨_, _, rfl, rfl, rfl, run_call rfl rfl T.fn17, (Sectors_ok hg).ext⟩),
      fv rfl rfl (fun x w hx hk => tst rfl (decide_eq_false hn)),
      fv rfl rfl (fun x w hx hk => run_assign rfl rfl), trivial⟩ ?_)
  intro x fr w hx hk E
  have M := M.ext hx
  refine then_normal ?_
  refine cond_false E rfl (rfl) ?_
  refine code_region ?_
  refine mv E fun fr E => ?_
  refine sgive E M rfl rfl rfl rfl rfl (run_call rfl rfl T.fn15) (Tries_x hv (by omega)) fun fr w M E => ?_
  refine sw (v := .bool true) E (tst rfl (decide_eq_true ht)) fun fr E => ?_
  refine mv E fun fr E => ?_
  refine sno E rfl rfl rfl rfl fun fr E => ?_
  refine sno E rfl rfl rfl rfl fun fr E => ?_
  refine sno E rfl rfl rfl rfl fun fr E => ?_
  refine sno E rfl rfl rfl rfl fun fr E => ?_
  refine sw (v := .bool _) E (rfl) fun fr E => ?_
  refine ma E fun fr E => ?_
  refine seq_nil' ?_
  refine cond_true E rfl (rfl) ?_
  refine code_region ?_
  refine sw E (run_assignC rfl) fun fr E => ?_
  refine seq_nil' ?_
  refine wp_ret ?_
  refine block_ret ?_
  refine then_ret ?_
  refine ret1 E rfl rfl ?_
  exact given M

set_option maxRecDepth 100000 in
theorem refused_m2 {D : DV} {g gk : Nat} {A : AD} {v s l b : Int} {w0 : World} (H : Has w0 [dkE D]) (hD : D.is g A) (hc : w0.heap[gk]? = some (.cells #[.pointer (some ⟨g, 0, none⟩), .int .i64 (v)] 77)) (hv : 0 ≤ v) (hv2 : v ≤ 1152921504606846976) (hg : GMay s l b) (hn : ¬ (A.n : Int) < 3 + s * l) (ht : ¬ v % 1048576 = 1048575) (he : 1099511627776 ≤ epochZ (v + 1)) : Gives Tryz.prog 33 [.pointer (some ⟨g, 0, none⟩), .pointer (some ⟨gk, 0, none⟩), .agg #[.int .i64 s, .int .i64 l, .int .i64 b]] w0 (.int .i64 17) := by
  refine enter (n := 30) Tryz.func33 rfl rfl rfl ?_
  intro fr E
  have M : Mem w0 (feet []) [] (fun w' => Has w' [dkE D] ∧ w'.heap[gk]? = some (.cells #[.pointer (some ⟨g, 0, none⟩), .int .i64 (v)] 77)) w0 := Mem.begin (Has.nil w0) (fun w' h => ⟨H.held h fun g hg c => feet_nil c, held_at hc h⟩)
  refine code_region ?_
  refine snew (ob := .cells (#[.int .i64 s, .int .i64 l, .int .i64 b]) 35) (fun g => .pointer (some ⟨g, 0, none⟩)) E M rfl rfl rfl rfl rfl (run_boxN (cs := (#[.int .i64 s, .int .i64 l, .int .i64 b])) rfl rfl) fun g0 fr w M E => ?_
  refine sw E (run_assignC rfl) fun fr E => ?_
  refine seq_nil' ?_
  refine code_region ?_
  refine mv E fun fr E => ?_
  refine sgive E M rfl rfl rfl rfl rfl (run_call rfl rfl T.fn11) (cValue_x M.fact.2) fun fr w M E => ?_
  refine ma E fun fr E => ?_
  refine seq_nil' ?_
  refine wp_seq ?_
  refine wp_block ?_
  refine code_region ?_
  refine sw (v := .agg #[.int .i64 s, .int .i64 l, .int .i64 b]) E (run_loadAll rfl rfl T.agg35 (M.row (i := 0) rfl) rfl) fun fr E => ?_
  refine sgive E M rfl rfl rfl rfl rfl (run_call rfl rfl T.fn16) (Check_ok hg) fun fr w M E => ?_
  refine sw (v := .bool false) E (tst rfl (rfl)) fun fr E => ?_
  refine ma E fun fr E => ?_
  refine seq_nil' ?_
  refine cond_false E rfl (rfl) ?_
  refine wp_seq (free_reg (B := T.tab33_4_b) (Vs := (.exact _ :: .exact (.int .i64 (A.n : Int)) :: .exact (.agg #[.int .i64 s, .int .i64 l, .int .i64 b]) :: .exact (.int .i64 (3 + s * l)) :: .exact (.bool false) :: .exact _ :: [])) T.tab33_4_i E T.mixed T.tab33_4 rfl (AllS.lasts ⟨trivial, trivial, trivial, trivial, trivial, trivial, trivial⟩) ⟨fv rfl rfl (fun x w hx hk => run_move rfl rfl),
      fs_ext rfl rfl (fun x w hx hk => ⟨_, _, rfl, rfl, rfl, run_call rfl rfl T.fn55, (Len_g (M.ext ((Ext.drew _).trans hx)).fact.1 hD).ext⟩),
      fv rfl rfl (fun x w hx hk => run_loadAll rfl rfl T.agg35 ((M.ext ((Ext.drew _).trans hx)).row (i := 0) rfl) rfl),
      fs_ext rfl rfl (fun x w hx hk => ⟨_, _, rfl, rfl, rfl, run_call rfl rfl T.fn17, (Sectors_ok hg).ext⟩),
      fv rfl rfl (fun x w hx hk => tst rfl (decide_eq_false hn)),
      fv rfl rfl (fun x w hx hk => run_assign rfl rfl), trivial⟩ ?_)
  intro x fr w hx hk E
  have M := M.ext hx
  refine then_normal ?_
  refine cond_false E rfl (rfl) ?_
  refine code_region ?_
  refine mv E fun fr E => ?_
  refine sgive E M rfl rfl rfl rfl rfl (run_call rfl rfl T.fn15) (Tries_x hv (by omega)) fun fr w M E => ?_
  refine sw (v := .bool false) E (tst rfl (decide_eq_false ht)) fun fr E => ?_
  refine mv E fun fr E => ?_
  refine mv E fun fr E => ?_
  refine sw (v := .int _ (v + 1)) E (num rfl (i64_id (by omega) (by omega))) fun fr E => ?_
  refine sgive E M rfl rfl rfl rfl rfl (run_call rfl rfl T.fn34) (epoch_x (v := v + 1) (by omega) (by omega)) fun fr w M E => ?_
  refine sw (v := .bool true) E (tst rfl (decide_eq_true he)) fun fr E => ?_
  refine sw (v := .bool _) E (rfl) fun fr E => ?_
  refine ma E fun fr E => ?_
  refine seq_nil' ?_
  refine cond_true E rfl (rfl) ?_
  refine code_region ?_
  refine sw E (run_assignC rfl) fun fr E => ?_
  refine seq_nil' ?_
  refine wp_ret ?_
  refine block_ret ?_
  refine then_ret ?_
  refine ret1 E rfl rfl ?_
  exact given M

set_option maxRecDepth 100000 in
theorem refused_ok {D : DV} {g gk : Nat} {A : AD} {v s l b : Int} {w0 : World} (H : Has w0 [dkE D]) (hD : D.is g A) (hc : w0.heap[gk]? = some (.cells #[.pointer (some ⟨g, 0, none⟩), .int .i64 (v)] 77)) (hv : 0 ≤ v) (hv2 : v ≤ 1152921504606846976) (hg : GMay s l b) (hn : ¬ (A.n : Int) < 3 + s * l) (ht : ¬ v % 1048576 = 1048575) (he : ¬ 1099511627776 ≤ epochZ (v + 1)) : Gives Tryz.prog 33 [.pointer (some ⟨g, 0, none⟩), .pointer (some ⟨gk, 0, none⟩), .agg #[.int .i64 s, .int .i64 l, .int .i64 b]] w0 (.int .i64 0) := by
  refine enter (n := 30) Tryz.func33 rfl rfl rfl ?_
  intro fr E
  have M : Mem w0 (feet []) [] (fun w' => Has w' [dkE D] ∧ w'.heap[gk]? = some (.cells #[.pointer (some ⟨g, 0, none⟩), .int .i64 (v)] 77)) w0 := Mem.begin (Has.nil w0) (fun w' h => ⟨H.held h fun g hg c => feet_nil c, held_at hc h⟩)
  refine code_region ?_
  refine snew (ob := .cells (#[.int .i64 s, .int .i64 l, .int .i64 b]) 35) (fun g => .pointer (some ⟨g, 0, none⟩)) E M rfl rfl rfl rfl rfl (run_boxN (cs := (#[.int .i64 s, .int .i64 l, .int .i64 b])) rfl rfl) fun g0 fr w M E => ?_
  refine sw E (run_assignC rfl) fun fr E => ?_
  refine seq_nil' ?_
  refine code_region ?_
  refine mv E fun fr E => ?_
  refine sgive E M rfl rfl rfl rfl rfl (run_call rfl rfl T.fn11) (cValue_x M.fact.2) fun fr w M E => ?_
  refine ma E fun fr E => ?_
  refine seq_nil' ?_
  refine wp_seq ?_
  refine wp_block ?_
  refine code_region ?_
  refine sw (v := .agg #[.int .i64 s, .int .i64 l, .int .i64 b]) E (run_loadAll rfl rfl T.agg35 (M.row (i := 0) rfl) rfl) fun fr E => ?_
  refine sgive E M rfl rfl rfl rfl rfl (run_call rfl rfl T.fn16) (Check_ok hg) fun fr w M E => ?_
  refine sw (v := .bool false) E (tst rfl (rfl)) fun fr E => ?_
  refine ma E fun fr E => ?_
  refine seq_nil' ?_
  refine cond_false E rfl (rfl) ?_
  refine wp_seq (free_reg (B := T.tab33_4_b) (Vs := (.exact _ :: .exact (.int .i64 (A.n : Int)) :: .exact (.agg #[.int .i64 s, .int .i64 l, .int .i64 b]) :: .exact (.int .i64 (3 + s * l)) :: .exact (.bool false) :: .exact _ :: [])) T.tab33_4_i E T.mixed T.tab33_4 rfl (AllS.lasts ⟨trivial, trivial, trivial, trivial, trivial, trivial, trivial⟩) ⟨fv rfl rfl (fun x w hx hk => run_move rfl rfl),
      fs_ext rfl rfl (fun x w hx hk => ⟨_, _, rfl, rfl, rfl, run_call rfl rfl T.fn55, (Len_g (M.ext ((Ext.drew _).trans hx)).fact.1 hD).ext⟩),
      fv rfl rfl (fun x w hx hk => run_loadAll rfl rfl T.agg35 ((M.ext ((Ext.drew _).trans hx)).row (i := 0) rfl) rfl),
      fs_ext rfl rfl (fun x w hx hk => ⟨_, _, rfl, rfl, rfl, run_call rfl rfl T.fn17, (Sectors_ok hg).ext⟩),
      fv rfl rfl (fun x w hx hk => tst rfl (decide_eq_false hn)),
      fv rfl rfl (fun x w hx hk => run_assign rfl rfl), trivial⟩ ?_)
  intro x fr w hx hk E
  have M := M.ext hx
  refine then_normal ?_
  refine cond_false E rfl (rfl) ?_
  refine code_region ?_
  refine mv E fun fr E => ?_
  refine sgive E M rfl rfl rfl rfl rfl (run_call rfl rfl T.fn15) (Tries_x hv (by omega)) fun fr w M E => ?_
  refine sw (v := .bool false) E (tst rfl (decide_eq_false ht)) fun fr E => ?_
  refine mv E fun fr E => ?_
  refine mv E fun fr E => ?_
  refine sw (v := .int _ (v + 1)) E (num rfl (i64_id (by omega) (by omega))) fun fr E => ?_
  refine sgive E M rfl rfl rfl rfl rfl (run_call rfl rfl T.fn34) (epoch_x (v := v + 1) (by omega) (by omega)) fun fr w M E => ?_
  refine sw (v := .bool false) E (tst rfl (decide_eq_false he)) fun fr E => ?_
  refine sw (v := .bool _) E (rfl) fun fr E => ?_
  refine ma E fun fr E => ?_
  refine seq_nil' ?_
  refine cond_false E rfl (rfl) ?_
  refine wp_skip ?_
  refine block_normal ?_
  refine then_normal ?_
  refine code_region ?_
  refine sw E (run_assignC rfl) fun fr E => ?_
  refine seq_nil' ?_
  refine wp_ret ?_
  refine ret1 E rfl rfl ?_
  exact given M

theorem refused_x {D : DV} {g gk : Nat} {A : AD} {v s l b : Int} {w0 : World} (H : Has w0 [dkE D]) (hD : D.is g A) (hc : w0.heap[gk]? = some (.cells #[.pointer (some ⟨g, 0, none⟩), .int .i64 (v)] 77)) (hv : 0 ≤ v) (hv2 : v ≤ 1152921504606846976) : Gives Tryz.prog 33 [.pointer (some ⟨g, 0, none⟩), .pointer (some ⟨gk, 0, none⟩), .agg #[.int .i64 s, .int .i64 l, .int .i64 b]] w0 (.int .i64 (refZ A.n v s l b)) := by
  unfold refZ
  by_cases hg : GMay s l b
  · rw [if_neg (fun c => c hg)]
    by_cases hn : (A.n : Int) < 3 + s * l
    · rw [if_pos hn]; exact refused_low H hD hc hv hv2 hg hn
    · rw [if_neg hn]
      by_cases ht : v % 1048576 = 1048575
      · rw [if_pos (.inl ht)]; exact refused_m1 H hD hc hv hv2 hg hn ht
      · by_cases he : 1099511627776 ≤ epochZ (v + 1)
        · rw [if_pos (.inr he)]; exact refused_m2 H hD hc hv hv2 hg hn ht he
        · rw [if_neg (fun c => c.elim ht he)]; exact refused_ok H hD hc hv hv2 hg hn ht he
  · rw [if_pos hg]; exact refused_geo H hD hc hv hv2 hg

set_option maxRecDepth 100000 in
theorem fmt1_x {D : DV} {g gk b1 : Nat} {A : AD} {v : Int} {w0 : World} (H : Has w0 [dkE D, cE g gk v, Ent.blk b1 (.cells #[.pointer (some ⟨gk, 0, none⟩)] 29)]) (hD : D.is g A) (hv : 0 ≤ v) (hv2 : v ≤ 1152921504606846976) : Does Tryz.prog 35 [.pointer (some ⟨b1, 0, none⟩)] w0 [dkE D, cE g gk v, Ent.blk b1 (.cells #[.pointer (some ⟨gk, 0, none⟩)] 29)] (fun _ : DV => .int .i64 (raiseA A v (v + 1)).1) (fun x => [dkE x, cE g gk (raiseA A v (v + 1)).2.2, Ent.blk b1 (.cells #[.pointer (some ⟨gk, 0, none⟩)] 29)]) (fun x => x.is g (raiseA A v (v + 1)).2.1) := by
  refine enter (n := 7) Tryz.func35 rfl rfl rfl ?_
  intro fr E
  have M : Mem w0 (feet [dkE D, cE g gk v, Ent.blk b1 (.cells #[.pointer (some ⟨gk, 0, none⟩)] 29)]) [dkE D, cE g gk v, Ent.blk b1 (.cells #[.pointer (some ⟨gk, 0, none⟩)] 29)] (fun _ => True) w0 := Mem.begin H (fun _ _ => trivial)
  refine code_region ?_
  refine sw E (run_assignC rfl) fun fr E => ?_
  refine seq_nil' ?_
  let w : World := w0
  have M : Mem _ _ ([dkE D, cE g gk v] ++ _) _ _ := M
  refine wp_seq (free_regR (B := T.tab35_1_b) (Vs := (.exact (.pointer (some ⟨gk, 0, none⟩)) :: .exact (.pointer (some ⟨gk, 0, none⟩)) :: .exact (.int .i64 v) :: .exact (.int _ (v + 1)) :: CameI w.heap.size ([dkE D, cE g gk v]) (fun _ : DV => .int .i64 (raiseA A v (v + 1)).1) (fun x => [dkE x, cE g gk (raiseA A v (v + 1)).2.2]) (fun x => x.is g (raiseA A v (v + 1)).2.1) :: CameI w.heap.size ([dkE D, cE g gk v]) (fun _ : DV => .int .i64 (raiseA A v (v + 1)).1) (fun x => [dkE x, cE g gk (raiseA A v (v + 1)).2.2]) (fun x => x.is g (raiseA A v (v + 1)).2.1) :: [])) (ownRoadW T.tab35_1_b 6 (oneFs 4 ([dkE D, cE g gk v])) w.drew) T.tab35_1_i E T.mixed T.tab35_1 rfl ?_ ⟨fr_valJ (c := 4) rfl rfl M rfl rfl (fun x w' M' hB hk => ⟨_, _, rfl, rfl, rfl, run_loadB rfl rfl T.one29 (M'.row (i := 2) rfl) rfl, Ext.refl _, rfl⟩),
      fr_valJ (c := 4) rfl rfl M rfl rfl (fun x w' M' hB hk => ⟨_, _, rfl, rfl, rfl, run_loadB rfl rfl T.one29 (M'.row (i := 2) rfl) rfl, Ext.refl _, rfl⟩),
      fr_extJ (c := 4) rfl rfl M rfl rfl (fun x w' M' hB hk => ⟨_, _, rfl, rfl, rfl, run_call rfl rfl T.fn11, (cValue_x (g := g) (M'.row (i := 1) rfl)).ext⟩),
      fr_valJ (c := 4) rfl rfl M rfl rfl (fun x w' M' hB hk => ⟨_, _, rfl, rfl, rfl, num rfl (i64_id (by omega) (by omega)), Ext.refl _, rfl⟩),
      wideF (fr_call (J := [dkE D, cE g gk v]) rfl rfl M (fun i g h => h.2) M.front (fun j hj g hjg => absurd hjg.1 hj) (fun x w' M' H' hB hk => ⟨_, _, rfl, rfl, rfl, run_call rfl rfl T.fn29, (Raise_x H' hD).own (Fs := oneFs 4 ([dkE D, cE g gk v])) (i := 4) hB (fun g hg => ⟨rfl, hg⟩)⟩)),
      wideF (fr_on (j := 4) rfl rfl rfl rfl (fun x w y hy => ⟨rfl, rfl, rfl, run_assignV rfl hy⟩)), trivial⟩ ?_)
  · exact ownRoadW_ok (one_okW rfl ((allY_ex (allY_ex (allY_ex (allY_ex (allY_in rfl LastsR.came1 (allY_in rfl LastsR.came1 allY_nil))))))))
  intro x fr w ⟨b, hb, hI⟩ hk E
  obtain ⟨D1, hy, hD1, M⟩ := M.behind (val := fun _ : DV => .int .i64 (raiseA A v (v + 1)).1) (outs := fun x => [dkE x, cE g gk (raiseA A v (v + 1)).2.2]) (p := fun x => x.is g (raiseA A v (v + 1)).2.1) hI (hk 5 (by decide))
  have E := Env.say (t := 1) E rfl hy
  refine then_normal ?_
  refine wp_ret ?_
  refine ret1 E rfl rfl ?_
  have M := M.pull 2 rfl
  have M := M.pull 2 rfl
  have M := M.pull 2 rfl
  exact ⟨D1, rfl, Mem.fin (L := [dkE D1, cE g gk (raiseA A v (v + 1)).2.2, Ent.blk b1 (.cells #[.pointer (some ⟨gk, 0, none⟩)] 29)] ++ _) M (List.sublist_append_left _ _) hD1⟩
end Go.Proofs.YtnebjbgcibjohaaGreat.K
end
section
namespace Go.Proofs.YtnebjbgcibjohaaGreat.K
open Go.RowKit Go.Rill Go.Proofs
set_option linter.unusedVariables false
set_option linter.unusedSimpArgs false
theorem _root_.Go.Rill.Does.args {α : Type} {P : Program} {f : FuncId} {xs ys : List Value} {w : World} {ins : List Ent} {val : α → Value} {outs : α → List Ent} {p : α → Prop} (h : Does P f xs w ins val outs p) (e : ys = xs) : Does P f ys w ins val outs p := e ▸ h
theorem sumOf_len (j : Nat) : (sumOf j).length = 32 := by simp [sumOf, be8_len]
theorem superW_sum (A : AD) (ks : List NKey) (ts : List (List UInt8)) (e s l b : Int) : (superW A ks ts e s l b).sum.length = 32 := by
  unfold superW
  split
  · exact sumOf_len _
  · simp
/-- The record that Format writes. -/
def fRec (e : Int) (sm : List UInt8) : Rec := ⟨1, e, e, sm, 0, List.replicate 32 0, 0, 0, 0, 0, sm, sm⟩
theorem fRec_ok (e : Int) {sm : List UInt8} (h : sm.length = 32) : (fRec e sm).Ok := ⟨h, by simp [fRec], h, h⟩
theorem part_step {place : Nat → Option (Nat × Nat)} {i off size : Nat} {v : Value} {rest : List (Nat × Value)} {pre mid post L : List Value} {r : Option (Array Value)} (hp : place i = some (off, size)) (hv : v.cells.size = size) (h1 : pre.length = off) (h2 : mid.length = size) (hL : L = pre ++ (mid ++ post)) (h : Instr.fill place (pre ++ (v.cells.toList ++ post)).toArray rest = r) : Instr.fill place L.toArray ((i, v) :: rest) = r := by
  subst hL h1 hv
  rw [← h]
  have hf : (v.cells.zipIdx.foldl (fun cs (x : Value × Nat) => cs.setIfInBounds (pre.length + x.2) x.1) (pre ++ (mid ++ post)).toArray) = (pre ++ (v.cells.toList ++ post)).toArray := by
    apply Array.toList_inj.1
    have := fold_set v.cells.toList 0 pre.length (pre ++ (mid ++ post)).toArray (by simp [h2])
    rw [← Array.foldl_toList]
    simp only [Array.toList_zipIdx]
    rw [this]
    simp only [Nat.add_zero, Array.length_toList, ← h2]
    rw [List.take_append, List.drop_append]
    rw [List.take_of_length_le (l := pre) (by omega), List.drop_of_length_le (l := pre) (by omega)]
    have e1 : pre.length + mid.length - pre.length = mid.length := by omega
    simp [e1]
  have hsz : ¬ ((decide (v.cells.size ≠ v.cells.size) || decide (pre.length + v.cells.size > (pre ++ (mid ++ post)).toArray.size)) = true) := by
    simp [h2]
  conv => lhs; unfold Instr.fill
  simp only [hp]
  rw [if_neg hsz]
  exact congrArg (fun c => Instr.fill place c _) hf
theorem fill_rec (e : Int) {sm : List UInt8} (h : sm.length = 32) : Instr.fill (fun i => (pieces 0 [1, 1, 1, 32, 33, 2, 2, 32, 32] 0)[i]?) Rec.zero.cells.toArray [(0, .int .i64 1), (1, .int .i64 e), (2, .int .i64 e), (3, .agg (bc sm).toArray), (7, .agg (bc sm).toArray), (8, .agg (bc sm).toArray)] = some (fRec e sm).cells.toArray := by
  have hb : (bc sm).length = 32 := by simp [bc, h]
  have hv : (Value.agg (bc sm).toArray).cells.size = 32 := hb
  obtain ⟨Z, hZ⟩ : ∃ Z, Z = bc (List.replicate 32 0) := ⟨_, rfl⟩
  have hz : Z.length = 32 := by simp [hZ, bc]
  have e0 : Rec.zero.cells = [iv 0] ++ ([] ++ (iv 0 :: iv 0 :: (Z ++ (iv 0 :: (Z ++ (iv 0 :: iv 0 :: iv 0 :: iv 0 :: (Z ++ Z))))))) := by rw [hZ]; rfl
  refine part_step (pre := []) (mid := [iv 0]) (post := iv 0 :: iv 0 :: (Z ++ (iv 0 :: (Z ++ (iv 0 :: iv 0 :: iv 0 :: iv 0 :: (Z ++ Z)))))) rfl rfl rfl rfl e0 ?_
  refine part_step (pre := [iv 1]) (mid := [iv 0]) (post := iv 0 :: (Z ++ (iv 0 :: (Z ++ (iv 0 :: iv 0 :: iv 0 :: iv 0 :: (Z ++ Z)))))) rfl rfl rfl rfl rfl ?_
  refine part_step (pre := [iv 1, iv e]) (mid := [iv 0]) (post := Z ++ (iv 0 :: (Z ++ (iv 0 :: iv 0 :: iv 0 :: iv 0 :: (Z ++ Z))))) rfl rfl rfl rfl rfl ?_
  refine part_step (pre := [iv 1, iv e, iv e]) (mid := Z) (post := iv 0 :: (Z ++ (iv 0 :: iv 0 :: iv 0 :: iv 0 :: (Z ++ Z)))) rfl hv rfl hz rfl ?_
  refine part_step (pre := [iv 1, iv e, iv e] ++ (bc sm ++ (iv 0 :: (Z ++ [iv 0, iv 0, iv 0, iv 0])))) (mid := Z) (post := Z) rfl hv (by simp [hb, hz]) hz (by simp [Value.cells]) ?_
  refine part_step (pre := [iv 1, iv e, iv e] ++ (bc sm ++ (iv 0 :: (Z ++ ([iv 0, iv 0, iv 0, iv 0] ++ bc sm))))) (mid := Z) (post := []) rfl hv (by simp [hb, hz]) hz (by simp [Value.cells]) ?_
  simp [Instr.fill, Rec.cells, fRec, Value.cells, hZ]
set_option maxRecDepth 100000 in
theorem fmt2_x {D : DV} {N : NV} {g b0 b2 b3 b4 b5 : Nat} {A : AD} {e s l b : Int} {w0 : World} (H : Has w0 [dkE D, nmE N, Ent.blk b0 (.cells #[.pointer (some ⟨g, 0, none⟩)] 23), Ent.blk b2 (.cells #[.iface 31 (.pointer (some ⟨N.gn, 0, none⟩))] 84), Ent.blk b4 (.cells #[.int .i64 e] 3), Ent.blk b3 (.cells #[.int .i64 s, .int .i64 l, .int .i64 b] 35), Ent.blk b5 (.cells #[.int .u8 0, .int .u8 0, .int .u8 0, .int .u8 0, .int .u8 0, .int .u8 0, .int .u8 0, .int .u8 0, .int .u8 0, .int .u8 0, .int .u8 0, .int .u8 0, .int .u8 0, .int .u8 0, .int .u8 0, .int .u8 0, .int .u8 0, .int .u8 0, .int .u8 0, .int .u8 0, .int .u8 0, .int .u8 0, .int .u8 0, .int .u8 0, .int .u8 0, .int .u8 0, .int .u8 0, .int .u8 0, .int .u8 0, .int .u8 0, .int .u8 0, .int .u8 0] 54)]) (hD : D.is g A) (hkz : N.ks.length ≤ 1099511627776) (htz : N.ts.length ≤ 1099511627776) (hg : GMay s l b) (hs : SRight e 0 0)  : Does Tryz.prog 36 [.pointer (some ⟨b0, 0, none⟩), .pointer (some ⟨b2, 0, none⟩), .pointer (some ⟨b4, 0, none⟩), .pointer (some ⟨b3, 0, none⟩), .pointer (some ⟨b5, 0, none⟩)] w0 [dkE D, nmE N, Ent.blk b0 (.cells #[.pointer (some ⟨g, 0, none⟩)] 23), Ent.blk b2 (.cells #[.iface 31 (.pointer (some ⟨N.gn, 0, none⟩))] 84), Ent.blk b4 (.cells #[.int .i64 e] 3), Ent.blk b3 (.cells #[.int .i64 s, .int .i64 l, .int .i64 b] 35), Ent.blk b5 (.cells #[.int .u8 0, .int .u8 0, .int .u8 0, .int .u8 0, .int .u8 0, .int .u8 0, .int .u8 0, .int .u8 0, .int .u8 0, .int .u8 0, .int .u8 0, .int .u8 0, .int .u8 0, .int .u8 0, .int .u8 0, .int .u8 0, .int .u8 0, .int .u8 0, .int .u8 0, .int .u8 0, .int .u8 0, .int .u8 0, .int .u8 0, .int .u8 0, .int .u8 0, .int .u8 0, .int .u8 0, .int .u8 0, .int .u8 0, .int .u8 0, .int .u8 0, .int .u8 0] 54)] (fun _ : DV × NV => .int .i64 (superW A N.ks N.ts e s l b).err) (fun x => [dkE x.1, nmE x.2, Ent.blk b0 (.cells #[.pointer (some ⟨g, 0, none⟩)] 23), Ent.blk b2 (.cells #[.iface 31 (.pointer (some ⟨N.gn, 0, none⟩))] 84), Ent.blk b4 (.cells #[.int .i64 e] 3), Ent.blk b3 (.cells #[.int .i64 s, .int .i64 l, .int .i64 b] 35), Ent.blk b5 (.cells (bc (superW A N.ks N.ts e s l b).sum).toArray 54)]) (fun x => x.1.is g (superW A N.ks N.ts e s l b).A ∧ x.2.gn = N.gn ∧ x.2.ks = (superW A N.ks N.ts e s l b).ks ∧ x.2.ts = (superW A N.ks N.ts e s l b).ts) := by
  refine enter (n := 15) Tryz.func36 rfl rfl rfl ?_
  intro fr E
  have M : Mem w0 (feet [dkE D, nmE N, Ent.blk b0 (.cells #[.pointer (some ⟨g, 0, none⟩)] 23), Ent.blk b2 (.cells #[.iface 31 (.pointer (some ⟨N.gn, 0, none⟩))] 84), Ent.blk b4 (.cells #[.int .i64 e] 3), Ent.blk b3 (.cells #[.int .i64 s, .int .i64 l, .int .i64 b] 35), Ent.blk b5 (.cells #[.int .u8 0, .int .u8 0, .int .u8 0, .int .u8 0, .int .u8 0, .int .u8 0, .int .u8 0, .int .u8 0, .int .u8 0, .int .u8 0, .int .u8 0, .int .u8 0, .int .u8 0, .int .u8 0, .int .u8 0, .int .u8 0, .int .u8 0, .int .u8 0, .int .u8 0, .int .u8 0, .int .u8 0, .int .u8 0, .int .u8 0, .int .u8 0, .int .u8 0, .int .u8 0, .int .u8 0, .int .u8 0, .int .u8 0, .int .u8 0, .int .u8 0, .int .u8 0] 54)]) [dkE D, nmE N, Ent.blk b0 (.cells #[.pointer (some ⟨g, 0, none⟩)] 23), Ent.blk b2 (.cells #[.iface 31 (.pointer (some ⟨N.gn, 0, none⟩))] 84), Ent.blk b4 (.cells #[.int .i64 e] 3), Ent.blk b3 (.cells #[.int .i64 s, .int .i64 l, .int .i64 b] 35), Ent.blk b5 (.cells #[.int .u8 0, .int .u8 0, .int .u8 0, .int .u8 0, .int .u8 0, .int .u8 0, .int .u8 0, .int .u8 0, .int .u8 0, .int .u8 0, .int .u8 0, .int .u8 0, .int .u8 0, .int .u8 0, .int .u8 0, .int .u8 0, .int .u8 0, .int .u8 0, .int .u8 0, .int .u8 0, .int .u8 0, .int .u8 0, .int .u8 0, .int .u8 0, .int .u8 0, .int .u8 0, .int .u8 0, .int .u8 0, .int .u8 0, .int .u8 0, .int .u8 0, .int .u8 0] 54)] (fun _ => True) w0 := Mem.begin H (fun _ _ => trivial)
  refine code_region ?_
  refine sw E (run_assignC rfl) fun fr E => ?_
  refine seq_nil' ?_
  refine code_region ?_
  refine sw (v := .pointer (some ⟨g, 0, none⟩)) E (run_loadB rfl rfl T.one23 (M.row (i := 2) rfl) rfl) fun fr E => ?_
  refine sw (v := .iface 31 (.pointer (some ⟨N.gn, 0, none⟩))) E (run_loadB rfl rfl T.one84 (M.row (i := 3) rfl) rfl) fun fr E => ?_
  refine sw (v := .int .i64 e) E (run_loadB rfl rfl T.one3 (M.row (i := 4) rfl) rfl) fun fr E => ?_
  refine sw (v := .agg #[.int .i64 s, .int .i64 l, .int .i64 b]) E (run_loadAll rfl rfl T.agg35 (M.row (i := 5) rfl) rfl) fun fr E => ?_
  refine scallI ([dkE D, nmE N]) E M rfl rfl rfl rfl rfl (run_call rfl rfl T.fn37) rfl (fun H => superWrite_y (g := g) (A := A) (e := e) (s := s) (l := l) (b := b) H hD hkz htz hg hs rfl) ?_
  rintro ⟨D1, N1⟩ fr w ⟨hD1, hN1, hN2, hN3⟩ M E
  refine mv E fun fr E => ?_
  refine sw E (run_extract rfl rfl rfl) fun fr E => ?_
  refine sw E (run_extract rfl rfl rfl) fun fr E => ?_
  refine sset (i := 6) (cs' := (bc (superW A N.ks N.ts e s l b).sum).toArray) E M rfl rfl rfl rfl rfl (run_storeAll (vs := (bc (superW A N.ks N.ts e s l b).sum).toArray) rfl rfl rfl T.size54 (by simp [superW_sum, bc]) (M.row (i := 6) rfl) rfl (fun v hv => bc_one v hv)) rfl fun fr w M E => ?_
  refine ma E fun fr E => ?_
  refine seq_nil' ?_
  refine code_region ?_
  refine mv E fun fr E => ?_
  refine ma E fun fr E => ?_
  refine seq_nil' ?_
  refine wp_ret ?_
  refine ret1 E rfl rfl ?_
  have M := M.pull 6 rfl
  have M := M.pull 6 rfl
  have M := M.pull 6 rfl
  have M := M.pull 6 rfl
  have M := M.pull 6 rfl
  have M := M.pull 6 rfl
  have M := M.pull 6 rfl
  exact ⟨(D1, N1), rfl, Mem.fin (L := [dkE D1, nmE N1, Ent.blk b0 (.cells #[.pointer (some ⟨g, 0, none⟩)] 23), Ent.blk b2 (.cells #[.iface 31 (.pointer (some ⟨N.gn, 0, none⟩))] 84), Ent.blk b4 (.cells #[.int .i64 e] 3), Ent.blk b3 (.cells #[.int .i64 s, .int .i64 l, .int .i64 b] 35), Ent.blk b5 (.cells (bc (superW A N.ks N.ts e s l b).sum).toArray 54)] ++ _) M (List.sublist_append_left _ _) ⟨hD1, hN1, hN2, hN3⟩⟩

set_option maxRecDepth 100000 in
theorem fmt3_x {D : DV} {N : NV} {g b0 b2 b4 b5 : Nat} {A : AD} {e : Int} {sm : List UInt8} {w0 : World} (H : Has w0 [dkE D, nmE N, Ent.blk b0 (.cells #[.pointer (some ⟨g, 0, none⟩)] 23), Ent.blk b2 (.cells #[.iface 31 (.pointer (some ⟨N.gn, 0, none⟩))] 84), Ent.blk b4 (.cells #[.int .i64 e] 3), Ent.blk b5 (.cells (bc sm).toArray 54)]) (hsm : sm.length = 32) (hD : D.is g A) (hkz : N.ks.length ≤ 1099511627776)  : Does Tryz.prog 38 [.pointer (some ⟨b0, 0, none⟩), .pointer (some ⟨b2, 0, none⟩), .pointer (some ⟨b4, 0, none⟩), .pointer (some ⟨b5, 0, none⟩)] w0 [dkE D, nmE N, Ent.blk b0 (.cells #[.pointer (some ⟨g, 0, none⟩)] 23), Ent.blk b2 (.cells #[.iface 31 (.pointer (some ⟨N.gn, 0, none⟩))] 84), Ent.blk b4 (.cells #[.int .i64 e] 3), Ent.blk b5 (.cells (bc sm).toArray 54)] (fun _ : DV × NV => .int .i64 (regW A N.ks (fRec e sm) 1).1) (fun x => [dkE x.1, nmE x.2, Ent.blk b0 (.cells #[.pointer (some ⟨g, 0, none⟩)] 23), Ent.blk b2 (.cells #[.iface 31 (.pointer (some ⟨N.gn, 0, none⟩))] 84), Ent.blk b4 (.cells #[.int .i64 e] 3), Ent.blk b5 (.cells (bc sm).toArray 54)]) (fun x => x.1.is g (regW A N.ks (fRec e sm) 1).2.1 ∧ x.2.gn = N.gn ∧ x.2.ks = (regW A N.ks (fRec e sm) 1).2.2 ∧ x.2.ts = N.ts) := by
  refine enter (n := 14) Tryz.func38 rfl rfl rfl ?_
  intro fr E
  have M : Mem w0 (feet [dkE D, nmE N, Ent.blk b0 (.cells #[.pointer (some ⟨g, 0, none⟩)] 23), Ent.blk b2 (.cells #[.iface 31 (.pointer (some ⟨N.gn, 0, none⟩))] 84), Ent.blk b4 (.cells #[.int .i64 e] 3), Ent.blk b5 (.cells (bc sm).toArray 54)]) [dkE D, nmE N, Ent.blk b0 (.cells #[.pointer (some ⟨g, 0, none⟩)] 23), Ent.blk b2 (.cells #[.iface 31 (.pointer (some ⟨N.gn, 0, none⟩))] 84), Ent.blk b4 (.cells #[.int .i64 e] 3), Ent.blk b5 (.cells (bc sm).toArray 54)] (fun _ => True) w0 := Mem.begin H (fun _ _ => trivial)
  refine code_region ?_
  refine sw E (run_assignC rfl) fun fr E => ?_
  refine seq_nil' ?_
  refine code_region ?_
  refine sw (v := .pointer (some ⟨g, 0, none⟩)) E (run_loadB rfl rfl T.one23 (M.row (i := 2) rfl) rfl) fun fr E => ?_
  refine sw (v := .iface 31 (.pointer (some ⟨N.gn, 0, none⟩))) E (run_loadB rfl rfl T.one84 (M.row (i := 3) rfl) rfl) fun fr E => ?_
  refine sw (v := .int .i64 e) E (run_loadB rfl rfl T.one3 (M.row (i := 4) rfl) rfl) fun fr E => ?_
  refine sw (v := .int .i64 e) E (run_loadB rfl rfl T.one3 (M.row (i := 4) rfl) rfl) fun fr E => ?_
  refine sw (v := .agg (bc sm).toArray) E (run_loadAll rfl rfl T.agg54 (M.row (i := 5) rfl) (by simp [bc, hsm])) fun fr E => ?_
  refine sw (v := .agg (bc sm).toArray) E (run_loadAll rfl rfl T.agg54 (M.row (i := 5) rfl) (by simp [bc, hsm])) fun fr E => ?_
  refine sw (v := .agg (bc sm).toArray) E (run_loadAll rfl rfl T.agg54 (M.row (i := 5) rfl) (by simp [bc, hsm])) fun fr E => ?_
  refine sw (v := .agg (fRec e sm).cells.toArray) E (run_buildQ (us := (fRec e sm).cells.toArray) (qs := [(0, .int .i64 1), (1, .int .i64 e), (2, .int .i64 e), (3, .agg (bc sm).toArray), (7, .agg (bc sm).toArray), (8, .agg (bc sm).toArray)]) rfl rfl T.ts62 T.zeroL62 (fill_rec e hsm)) fun fr E => ?_
  refine scallI ([dkE D, nmE N]) E M rfl rfl rfl rfl rfl (run_call rfl rfl T.fn39) rfl (fun H => Does.args (rWrite_y (g := g) (A := A) (r := fRec e sm) (num := 1) H hD (fRec_ok e hsm) hkz rfl) rfl) ?_
  rintro ⟨D1, N1⟩ fr w ⟨hD1, hN1, hN2, hN3⟩ M E
  refine ma E fun fr E => ?_
  refine seq_nil' ?_
  refine wp_ret ?_
  refine ret1 E rfl rfl ?_
  have M := M.pull 5 rfl
  have M := M.pull 5 rfl
  have M := M.pull 5 rfl
  have M := M.pull 5 rfl
  have M := M.pull 5 rfl
  have M := M.pull 5 rfl
  exact ⟨(D1, N1), rfl, Mem.fin (L := [dkE D1, nmE N1, Ent.blk b0 (.cells #[.pointer (some ⟨g, 0, none⟩)] 23), Ent.blk b2 (.cells #[.iface 31 (.pointer (some ⟨N.gn, 0, none⟩))] 84), Ent.blk b4 (.cells #[.int .i64 e] 3), Ent.blk b5 (.cells (bc sm).toArray 54)] ++ _) M (List.sublist_append_left _ _) ⟨hD1, hN1, hN2, hN3⟩⟩

theorem fmt3_y {a : Nat} {D : DV} {N : NV} {g b0 b2 b4 b5 : Nat} {A : AD} {e : Int} {sm : List UInt8} {w0 : World} (H : Has w0 [dkE D, nmE N, Ent.blk b0 (.cells #[.pointer (some ⟨g, 0, none⟩)] 23), Ent.blk b2 (.cells #[.iface 31 (.pointer (some ⟨a, 0, none⟩))] 84), Ent.blk b4 (.cells #[.int .i64 e] 3), Ent.blk b5 (.cells (bc sm).toArray 54)]) (hsm : sm.length = 32) (hD : D.is g A) (hkz : N.ks.length ≤ 1099511627776) (ha : N.gn = a) : Does Tryz.prog 38 [.pointer (some ⟨b0, 0, none⟩), .pointer (some ⟨b2, 0, none⟩), .pointer (some ⟨b4, 0, none⟩), .pointer (some ⟨b5, 0, none⟩)] w0 [dkE D, nmE N, Ent.blk b0 (.cells #[.pointer (some ⟨g, 0, none⟩)] 23), Ent.blk b2 (.cells #[.iface 31 (.pointer (some ⟨a, 0, none⟩))] 84), Ent.blk b4 (.cells #[.int .i64 e] 3), Ent.blk b5 (.cells (bc sm).toArray 54)] (fun _ : DV × NV => .int .i64 (regW A N.ks (fRec e sm) 1).1) (fun x => [dkE x.1, nmE x.2, Ent.blk b0 (.cells #[.pointer (some ⟨g, 0, none⟩)] 23), Ent.blk b2 (.cells #[.iface 31 (.pointer (some ⟨a, 0, none⟩))] 84), Ent.blk b4 (.cells #[.int .i64 e] 3), Ent.blk b5 (.cells (bc sm).toArray 54)]) (fun x => x.1.is g (regW A N.ks (fRec e sm) 1).2.1 ∧ x.2.gn = a ∧ x.2.ks = (regW A N.ks (fRec e sm) 1).2.2 ∧ x.2.ts = N.ts) := by
  subst ha
  exact fmt3_x H hsm hD hkz

set_option maxRecDepth 100000 in
theorem fmt5_x {D : DV} {g gk b1 b4 : Nat} {A : AD} {v e : Int} {w0 : World} (H : Has w0 [dkE D, cE g gk v, Ent.blk b1 (.cells #[.pointer (some ⟨gk, 0, none⟩)] 29), Ent.blk b4 (.cells #[.int .i64 e] 3)]) (hD : D.is g A) (he : 0 ≤ e ∧ e ≤ 1099511627776) : Does Tryz.prog 41 [.pointer (some ⟨b1, 0, none⟩), .pointer (some ⟨b4, 0, none⟩)] w0 [dkE D, cE g gk v, Ent.blk b1 (.cells #[.pointer (some ⟨gk, 0, none⟩)] 29), Ent.blk b4 (.cells #[.int .i64 e] 3)] (fun _ : DV => .int .i64 (raiseA A v (e * 1048576)).1) (fun x => [dkE x, cE g gk (raiseA A v (e * 1048576)).2.2, Ent.blk b1 (.cells #[.pointer (some ⟨gk, 0, none⟩)] 29), Ent.blk b4 (.cells #[.int .i64 e] 3)]) (fun x => x.is g (raiseA A v (e * 1048576)).2.1) := by
  refine enter (n := 7) Tryz.func41 rfl rfl rfl ?_
  intro fr E
  have M : Mem w0 (feet [dkE D, cE g gk v, Ent.blk b1 (.cells #[.pointer (some ⟨gk, 0, none⟩)] 29), Ent.blk b4 (.cells #[.int .i64 e] 3)]) [dkE D, cE g gk v, Ent.blk b1 (.cells #[.pointer (some ⟨gk, 0, none⟩)] 29), Ent.blk b4 (.cells #[.int .i64 e] 3)] (fun _ => True) w0 := Mem.begin H (fun _ _ => trivial)
  refine code_region ?_
  refine sw E (run_assignC rfl) fun fr E => ?_
  refine seq_nil' ?_
  let w : World := w0
  have M : Mem _ _ ([dkE D, cE g gk v] ++ _) _ _ := M
  refine wp_seq (free_regR (B := T.tab41_1_b) (Vs := (.exact (.pointer (some ⟨gk, 0, none⟩)) :: .exact (.int .i64 e) :: .exact (.int .i64 (e * 1048576)) :: CameI w.heap.size ([dkE D, cE g gk v]) (fun _ : DV => .int .i64 (raiseA A v (e * 1048576)).1) (fun x => [dkE x, cE g gk (raiseA A v (e * 1048576)).2.2]) (fun x => x.is g (raiseA A v (e * 1048576)).2.1) :: CameI w.heap.size ([dkE D, cE g gk v]) (fun _ : DV => .int .i64 (raiseA A v (e * 1048576)).1) (fun x => [dkE x, cE g gk (raiseA A v (e * 1048576)).2.2]) (fun x => x.is g (raiseA A v (e * 1048576)).2.1) :: [])) (ownRoad (oneFs 3 ([dkE D, cE g gk v])) w.drew) T.tab41_1_i E T.mixed T.tab41_1 rfl ?_ ⟨fr_val rfl rfl M (fun i g h => h.2) (fun x w' M' hB hk => ⟨_, _, rfl, rfl, rfl, run_loadB rfl rfl T.one29 (M'.row (i := 0) rfl) rfl, Ext.refl _, rfl⟩),
      fr_val rfl rfl M (fun i g h => h.2) (fun x w' M' hB hk => ⟨_, _, rfl, rfl, rfl, run_loadB rfl rfl T.one3 (M'.row (i := 1) rfl) rfl, Ext.refl _, rfl⟩),
      fr_ext rfl rfl M (fun i g h => h.2) (fun x w' M' hB hk => ⟨_, _, rfl, rfl, rfl, run_call rfl rfl T.fn42, (Make_x he).ext⟩),
      fr_call (J := [dkE D, cE g gk v]) rfl rfl M (fun i g h => h.2) M.front (fun j hj g hjg => absurd hjg.1 hj) (fun x w' M' H' hB hk => ⟨_, _, rfl, rfl, rfl, run_call rfl rfl T.fn29, (Raise_x H' hD).own (Fs := oneFs 3 ([dkE D, cE g gk v])) (i := 3) hB (fun g hg => ⟨rfl, hg⟩)⟩),
      fr_on (j := 3) rfl rfl rfl rfl (fun x w y hy => ⟨rfl, rfl, rfl, run_assignV rfl hy⟩), trivial⟩ ?_)
  · exact one_okW rfl ((allY_ex (allY_ex (allY_ex (allY_in rfl LastsR.came1 (allY_in rfl LastsR.came1 allY_nil))))))
  intro x fr w ⟨b, hb, hI⟩ hk E
  obtain ⟨D1, hy, hD1, M⟩ := M.behind (val := fun _ : DV => .int .i64 (raiseA A v (e * 1048576)).1) (outs := fun x => [dkE x, cE g gk (raiseA A v (e * 1048576)).2.2]) (p := fun x => x.is g (raiseA A v (e * 1048576)).2.1) hI (hk 4 (by decide))
  have E := Env.say (t := 2) E rfl hy
  refine then_normal ?_
  refine wp_ret ?_
  refine ret1 E rfl rfl ?_
  have M := M.pull 3 rfl
  have M := M.pull 3 rfl
  have M := M.pull 3 rfl
  have M := M.pull 3 rfl
  exact ⟨D1, rfl, Mem.fin (L := [dkE D1, cE g gk (raiseA A v (e * 1048576)).2.2, Ent.blk b1 (.cells #[.pointer (some ⟨gk, 0, none⟩)] 29), Ent.blk b4 (.cells #[.int .i64 e] 3)] ++ _) M (List.sublist_append_left _ _) hD1⟩
end Go.Proofs.YtnebjbgcibjohaaGreat.K
end
section
namespace Go.Proofs.YtnebjbgcibjohaaGreat.K
open Go.RowKit Go.Rill Go.Proofs
set_option linter.unusedVariables false
set_option linter.unusedSimpArgs false
structure FMR where
  err : Int
  A : AD
  v : Int
  ks : List NKey
  ts : List (List UInt8)
/-- What Format does, step by step. -/
def fm5 (A : AD) (v e : Int) (ks : List NKey) (ts : List (List UInt8)) : FMR := ⟨(raiseA A v (e * 1048576)).1, (raiseA A v (e * 1048576)).2.1, (raiseA A v (e * 1048576)).2.2, ks, ts⟩
def fm4 (A : AD) (v e : Int) (ks : List NKey) (ts : List (List UInt8)) : FMR := if ¬ A.sync.1 = 0 then ⟨A.sync.1, A.sync.2, v, ks, ts⟩ else fm5 A.sync.2 v e ks ts
def fm3 (A : AD) (v e : Int) (ks : List NKey) (ts : List (List UInt8)) (sm : List UInt8) : FMR := if ¬ (regW A ks (fRec e sm) 1).1 = 0 then ⟨(regW A ks (fRec e sm) 1).1, (regW A ks (fRec e sm) 1).2.1, v, (regW A ks (fRec e sm) 1).2.2, ts⟩ else fm4 (regW A ks (fRec e sm) 1).2.1 v e (regW A ks (fRec e sm) 1).2.2 ts
def fm2 (A : AD) (v e : Int) (ks : List NKey) (ts : List (List UInt8)) (s l b : Int) : FMR := if ¬ (superW A ks ts e s l b).err = 0 then ⟨(superW A ks ts e s l b).err, (superW A ks ts e s l b).A, v, (superW A ks ts e s l b).ks, (superW A ks ts e s l b).ts⟩ else fm3 (superW A ks ts e s l b).A v e (superW A ks ts e s l b).ks (superW A ks ts e s l b).ts (superW A ks ts e s l b).sum
def fm1 (A : AD) (v : Int) (ks : List NKey) (ts : List (List UInt8)) (s l b : Int) : FMR := if ¬ (raiseA A v (v + 1)).1 = 0 then ⟨(raiseA A v (v + 1)).1, (raiseA A v (v + 1)).2.1, (raiseA A v (v + 1)).2.2, ks, ts⟩ else fm2 (raiseA A v (v + 1)).2.1 (raiseA A v (v + 1)).2.2 (epochZ (v + 1)) ks ts s l b
def fmtF (A : AD) (v : Int) (ks : List NKey) (ts : List (List UInt8)) (s l b : Int) : FMR := if ¬ refZ A.n v s l b = 0 then ⟨refZ A.n v s l b, A, v, ks, ts⟩ else fm1 A v ks ts s l b
section
variable {A : AD} {v e s l b : Int} {ks : List NKey} {ts : List (List UInt8)} {sm : List UInt8}
theorem fmtF_no (h : ¬ refZ A.n v s l b = 0) : fmtF A v ks ts s l b = ⟨refZ A.n v s l b, A, v, ks, ts⟩ := if_pos h
theorem fmtF_go (h : refZ A.n v s l b = 0) : fmtF A v ks ts s l b = fm1 A v ks ts s l b := if_neg fun c => c h
theorem fm1_no (h : ¬ (raiseA A v (v + 1)).1 = 0) : fm1 A v ks ts s l b = ⟨(raiseA A v (v + 1)).1, (raiseA A v (v + 1)).2.1, (raiseA A v (v + 1)).2.2, ks, ts⟩ := if_pos h
theorem fm1_ok (h : (raiseA A v (v + 1)).1 = 0) : fm1 A v ks ts s l b = fm2 (raiseA A v (v + 1)).2.1 (raiseA A v (v + 1)).2.2 (epochZ (v + 1)) ks ts s l b := if_neg fun c => c h
theorem fm2_no (h : ¬ (superW A ks ts e s l b).err = 0) : fm2 A v e ks ts s l b = ⟨(superW A ks ts e s l b).err, (superW A ks ts e s l b).A, v, (superW A ks ts e s l b).ks, (superW A ks ts e s l b).ts⟩ := if_pos h
theorem fm2_ok (h : (superW A ks ts e s l b).err = 0) : fm2 A v e ks ts s l b = fm3 (superW A ks ts e s l b).A v e (superW A ks ts e s l b).ks (superW A ks ts e s l b).ts (superW A ks ts e s l b).sum := if_neg fun c => c h
theorem fm3_no (h : ¬ (regW A ks (fRec e sm) 1).1 = 0) : fm3 A v e ks ts sm = ⟨(regW A ks (fRec e sm) 1).1, (regW A ks (fRec e sm) 1).2.1, v, (regW A ks (fRec e sm) 1).2.2, ts⟩ := if_pos h
theorem fm3_ok (h : (regW A ks (fRec e sm) 1).1 = 0) : fm3 A v e ks ts sm = fm4 (regW A ks (fRec e sm) 1).2.1 v e (regW A ks (fRec e sm) 1).2.2 ts := if_neg fun c => c h
theorem fm4_no (h : ¬ A.sync.1 = 0) : fm4 A v e ks ts = ⟨A.sync.1, A.sync.2, v, ks, ts⟩ := if_pos h
theorem fm4_ok (h : A.sync.1 = 0) : fm4 A v e ks ts = fm5 A.sync.2 v e ks ts := if_neg fun c => c h
end
theorem refZ_in {n : Nat} {v s l b : Int} (h : refZ n v s l b = 0) : GMay s l b ∧ 3 + s * l ≤ (n : Int) ∧ ¬ v % 1048576 = 1048575 ∧ epochZ (v + 1) < 1099511627776 := by
  unfold refZ at h
  split at h
  · cases h
  · rename_i h1
    split at h
    · cases h
    · rename_i h2
      split at h
      · cases h
      · rename_i h3
        exact ⟨Decidable.not_not.1 h1, by omega, fun c => h3 (.inl c), by have := fun c => h3 (.inr c); omega⟩
theorem refZ_may {n : Nat} {v s l b : Int} (h : refZ n v s l b = 0) : GMay s l b := (refZ_in h).1
theorem ep_bnd {n : Nat} {v s l b : Int} (hv : 0 ≤ v) (h : refZ n v s l b = 0) : 0 ≤ epochZ (v + 1) ∧ epochZ (v + 1) ≤ 1099511627776 := by
  have h1 := (refZ_in h).2.2.2
  unfold epochZ at *
  omega
theorem ep_right {n : Nat} {v s l b : Int} (hv : 0 ≤ v) (h : refZ n v s l b = 0) : SRight (epochZ (v + 1)) 0 0 := by
  have := ep_bnd hv h
  exact ⟨⟨this.1, by decide, by decide⟩, ⟨this.2, by decide⟩, by decide⟩
theorem superW_ks (A : AD) (ks : List NKey) (ts : List (List UInt8)) (e s l b : Int) : (superW A ks ts e s l b).ks.length ≤ ks.length + 1 := by
  have h : (sealS ks e 0 (hdB 1 0) (geoB s l b)).length ≤ ks.length + 1 := by
    unfold sealS
    split
    · exact sealKs_len _ _
    · omega
  unfold superW
  split <;> exact h
set_option maxRecDepth 100000 in
theorem Format_no {D : DV} {N : NV} {g gk : Nat} {A : AD} {v s l b : Int} {w0 : World} (H : Has w0 [dkE D, nmE N, cE g gk v]) (hD : D.is g A) (hkz : N.ks.length + 2 ≤ 1099511627776) (htz : N.ts.length + 2 ≤ 1099511627776) (hv : 0 ≤ v) (hv2 : v ≤ 1152921504606846976) (hr : ¬ refZ A.n v s l b = 0) : Does Tryz.prog 20 [.pointer (some ⟨g, 0, none⟩), .pointer (some ⟨gk, 0, none⟩), .iface 31 (.pointer (some ⟨N.gn, 0, none⟩)), .agg #[.int .i64 s, .int .i64 l, .int .i64 b]] w0 [dkE D, nmE N, cE g gk v] (fun _ : DV × NV => .int .i64 (fmtF A v N.ks N.ts s l b).err) (fun x => [dkE x.1, nmE x.2, cE g gk (fmtF A v N.ks N.ts s l b).v]) (fun x => x.1.is g (fmtF A v N.ks N.ts s l b).A ∧ x.2.gn = N.gn ∧ x.2.ks = (fmtF A v N.ks N.ts s l b).ks ∧ x.2.ts = (fmtF A v N.ks N.ts s l b).ts) := by
  refine enter (n := 44) Tryz.func20 rfl rfl rfl ?_
  intro fr E
  have M : Mem w0 (feet [dkE D, nmE N, cE g gk v]) [dkE D, nmE N, cE g gk v] (fun _ => True) w0 := Mem.begin H (fun _ _ => trivial)
  refine code_region ?_
  refine snew (ob := .cells (#[.pointer (some ⟨g, 0, none⟩)]) 23) (fun g => .pointer (some ⟨g, 0, none⟩)) E M rfl rfl rfl rfl rfl (run_box1 (v := _) rfl rfl rfl) fun g0 fr w M E => ?_
  refine snew (ob := .cells (#[.pointer (some ⟨gk, 0, none⟩)]) 29) (fun g => .pointer (some ⟨g, 0, none⟩)) E M rfl rfl rfl rfl rfl (run_box1 (v := _) rfl rfl rfl) fun g1 fr w M E => ?_
  refine snew (ob := .cells (#[.iface 31 (.pointer (some ⟨N.gn, 0, none⟩))]) 84) (fun g => .pointer (some ⟨g, 0, none⟩)) E M rfl rfl rfl rfl rfl (run_box1 (v := _) rfl rfl rfl) fun g2 fr w M E => ?_
  refine snew (ob := .cells (#[.int .i64 s, .int .i64 l, .int .i64 b]) 35) (fun g => .pointer (some ⟨g, 0, none⟩)) E M rfl rfl rfl rfl rfl (run_boxN (cs := (#[.int .i64 s, .int .i64 l, .int .i64 b])) rfl rfl) fun g3 fr w M E => ?_
  refine sw E (run_assignC rfl) fun fr E => ?_
  refine seq_nil' ?_
  refine wp_seq ?_
  refine code_region ?_
  refine sw (v := .pointer (some ⟨g, 0, none⟩)) E (run_loadB rfl rfl T.one23 (M.row (i := 3) rfl) rfl) fun fr E => ?_
  refine sw (v := .pointer (some ⟨gk, 0, none⟩)) E (run_loadB rfl rfl T.one29 (M.row (i := 2) rfl) rfl) fun fr E => ?_
  refine sw (v := .agg #[.int .i64 s, .int .i64 l, .int .i64 b]) E (run_loadAll rfl rfl T.agg35 (M.row (i := 0) rfl) rfl) fun fr E => ?_
  refine sgive E M rfl rfl rfl rfl rfl (run_call rfl rfl T.fn33) (refused_x (M.has1 (i := 4) rfl) hD (M.row (i := 6) rfl) hv hv2) fun fr w M E => ?_
  refine ma E fun fr E => ?_
  refine seq_nil' ?_
  refine code_region ?_
  refine mv E fun fr E => ?_
  refine sw (v := .bool true) E (tst rfl (by simp [hr])) fun fr E => ?_
  refine seq_nil' ?_
  refine cond_true E rfl (rfl) ?_
  refine code_region ?_
  refine mv E fun fr E => ?_
  refine ma E fun fr E => ?_
  refine seq_nil' ?_
  refine wp_ret ?_
  refine then_ret ?_
  refine ret1 E rfl rfl ?_
  have M := M.pull 6 rfl
  have M := M.pull 6 rfl
  have M := M.pull 6 rfl
  rw [fmtF_no hr]
  exact ⟨(D, N), rfl, Mem.fin (L := [dkE D, nmE N, cE g gk v] ++ _) M (List.sublist_append_left _ _) ⟨hD, rfl, rfl, rfl⟩⟩

set_option maxHeartbeats 2000000 in
set_option maxRecDepth 100000 in
theorem Format_go {D : DV} {N : NV} {g gk : Nat} {A : AD} {v s l b : Int} {w0 : World} (H : Has w0 [dkE D, nmE N, cE g gk v]) (hD : D.is g A) (hkz : N.ks.length + 2 ≤ 1099511627776) (htz : N.ts.length + 2 ≤ 1099511627776) (hv : 0 ≤ v) (hv2 : v ≤ 1152921504606846976) (hr : refZ A.n v s l b = 0) (hg : GMay s l b) : Does Tryz.prog 20 [.pointer (some ⟨g, 0, none⟩), .pointer (some ⟨gk, 0, none⟩), .iface 31 (.pointer (some ⟨N.gn, 0, none⟩)), .agg #[.int .i64 s, .int .i64 l, .int .i64 b]] w0 [dkE D, nmE N, cE g gk v] (fun _ : DV × NV => .int .i64 (fmtF A v N.ks N.ts s l b).err) (fun x => [dkE x.1, nmE x.2, cE g gk (fmtF A v N.ks N.ts s l b).v]) (fun x => x.1.is g (fmtF A v N.ks N.ts s l b).A ∧ x.2.gn = N.gn ∧ x.2.ks = (fmtF A v N.ks N.ts s l b).ks ∧ x.2.ts = (fmtF A v N.ks N.ts s l b).ts) := by
  refine enter (n := 44) Tryz.func20 rfl rfl rfl ?_
  intro fr E
  have M : Mem w0 (feet [dkE D, nmE N, cE g gk v]) [dkE D, nmE N, cE g gk v] (fun _ => True) w0 := Mem.begin H (fun _ _ => trivial)
  refine code_region ?_
  refine snew (ob := .cells (#[.pointer (some ⟨g, 0, none⟩)]) 23) (fun g => .pointer (some ⟨g, 0, none⟩)) E M rfl rfl rfl rfl rfl (run_box1 (v := _) rfl rfl rfl) fun g0 fr w M E => ?_
  refine snew (ob := .cells (#[.pointer (some ⟨gk, 0, none⟩)]) 29) (fun g => .pointer (some ⟨g, 0, none⟩)) E M rfl rfl rfl rfl rfl (run_box1 (v := _) rfl rfl rfl) fun g1 fr w M E => ?_
  refine snew (ob := .cells (#[.iface 31 (.pointer (some ⟨N.gn, 0, none⟩))]) 84) (fun g => .pointer (some ⟨g, 0, none⟩)) E M rfl rfl rfl rfl rfl (run_box1 (v := _) rfl rfl rfl) fun g2 fr w M E => ?_
  refine snew (ob := .cells (#[.int .i64 s, .int .i64 l, .int .i64 b]) 35) (fun g => .pointer (some ⟨g, 0, none⟩)) E M rfl rfl rfl rfl rfl (run_boxN (cs := (#[.int .i64 s, .int .i64 l, .int .i64 b])) rfl rfl) fun g3 fr w M E => ?_
  refine sw E (run_assignC rfl) fun fr E => ?_
  refine seq_nil' ?_
  refine wp_seq ?_
  refine code_region ?_
  refine sw (v := .pointer (some ⟨g, 0, none⟩)) E (run_loadB rfl rfl T.one23 (M.row (i := 3) rfl) rfl) fun fr E => ?_
  refine sw (v := .pointer (some ⟨gk, 0, none⟩)) E (run_loadB rfl rfl T.one29 (M.row (i := 2) rfl) rfl) fun fr E => ?_
  refine sw (v := .agg #[.int .i64 s, .int .i64 l, .int .i64 b]) E (run_loadAll rfl rfl T.agg35 (M.row (i := 0) rfl) rfl) fun fr E => ?_
  refine sgive E M rfl rfl rfl rfl rfl (run_call rfl rfl T.fn33) (refused_x (M.has1 (i := 4) rfl) hD (M.row (i := 6) rfl) hv hv2) fun fr w M E => ?_
  rw [hr] at E
  refine ma E fun fr E => ?_
  refine seq_nil' ?_
  refine code_region ?_
  refine mv E fun fr E => ?_
  refine sw (v := .bool false) E (tst rfl (by simp [hr])) fun fr E => ?_
  refine seq_nil' ?_
  refine cond_false E rfl (rfl) ?_
  refine wp_skip ?_
  refine then_normal ?_
  refine code_region ?_
  refine sw (v := .pointer (some ⟨gk, 0, none⟩)) E (run_loadB rfl rfl T.one29 (M.row (i := 2) rfl) rfl) fun fr E => ?_
  refine sgive E M rfl rfl rfl rfl rfl (run_call rfl rfl T.fn11) (cValue_x (g := g) (M.row (i := 6) rfl)) fun fr w M E => ?_
  refine sw (v := .int _ (v + 1)) E (num rfl (i64_id (by omega) (by omega))) fun fr E => ?_
  refine sgive E M rfl rfl rfl rfl rfl (run_call rfl rfl T.fn34) (epoch_x (v := v + 1) (by omega) (by omega)) fun fr w M E => ?_
  refine snew (ob := .cells #[_] 3) (fun g => .pointer (some ⟨g, 0, none⟩)) E M rfl rfl rfl rfl rfl (run_alloc1 rfl T.zero3 rfl) fun g4 fr w M E => ?_
  refine sset (i := 0) (cs' := #[.int .i64 (epochZ (v + 1))]) E M rfl rfl rfl rfl rfl (run_store1' (v := _) rfl rfl rfl T.size3 (M.row (i := 0) rfl) (rfl) (rfl) (rfl)) rfl fun fr w M E => ?_
  refine seq_nil' ?_
  refine code_region ?_
  refine snew (ob := .cells _ 54) (fun g => .pointer (some ⟨g, 0, none⟩)) E M rfl rfl rfl rfl rfl (run_allocN rfl T.zero54) fun g5 fr w M E => ?_
  refine seq_nil' ?_
  refine wp_seq ?_
  refine code_region ?_
  refine sw (v := .func (.func 35) [].toArray [.pointer (some ⟨g1, 0, none⟩)].toArray) E (run_makeFuncs (us := []) (vs := [.pointer (some ⟨g1, 0, none⟩)]) rfl rfl rfl) fun fr E => ?_
  refine sw (v := .func (.func 36) [].toArray [.pointer (some ⟨g0, 0, none⟩), .pointer (some ⟨g2, 0, none⟩), .pointer (some ⟨g4, 0, none⟩), .pointer (some ⟨g3, 0, none⟩), .pointer (some ⟨g5, 0, none⟩)].toArray) E (run_makeFuncs (us := []) (vs := [.pointer (some ⟨g0, 0, none⟩), .pointer (some ⟨g2, 0, none⟩), .pointer (some ⟨g4, 0, none⟩), .pointer (some ⟨g3, 0, none⟩), .pointer (some ⟨g5, 0, none⟩)]) rfl rfl rfl) fun fr E => ?_
  refine sw (v := .func (.func 38) [].toArray [.pointer (some ⟨g0, 0, none⟩), .pointer (some ⟨g2, 0, none⟩), .pointer (some ⟨g4, 0, none⟩), .pointer (some ⟨g5, 0, none⟩)].toArray) E (run_makeFuncs (us := []) (vs := [.pointer (some ⟨g0, 0, none⟩), .pointer (some ⟨g2, 0, none⟩), .pointer (some ⟨g4, 0, none⟩), .pointer (some ⟨g5, 0, none⟩)]) rfl rfl rfl) fun fr E => ?_
  refine sw (v := .pointer (some ⟨g, 0, none⟩)) E (run_loadB rfl rfl T.one23 (M.row (i := 5) rfl) rfl) fun fr E => ?_
  refine sw (v := .func (.func 40) [.pointer (some ⟨g, 0, none⟩)].toArray [].toArray) E (run_makeFuncs (us := [.pointer (some ⟨g, 0, none⟩)]) (vs := []) rfl rfl rfl) fun fr E => ?_
  refine sw (v := .func (.func 41) [].toArray [.pointer (some ⟨g1, 0, none⟩), .pointer (some ⟨g4, 0, none⟩)].toArray) E (run_makeFuncs (us := []) (vs := [.pointer (some ⟨g1, 0, none⟩), .pointer (some ⟨g4, 0, none⟩)]) rfl rfl rfl) fun fr E => ?_
  refine srow (sz := 1) (xs := _) E M rfl rfl rfl rfl rfl (run_buildSliceA (us := [.func (.func 35) [].toArray [.pointer (some ⟨g1, 0, none⟩)].toArray, .func (.func 36) [].toArray [.pointer (some ⟨g0, 0, none⟩), .pointer (some ⟨g2, 0, none⟩), .pointer (some ⟨g4, 0, none⟩), .pointer (some ⟨g3, 0, none⟩), .pointer (some ⟨g5, 0, none⟩)].toArray, .func (.func 38) [].toArray [.pointer (some ⟨g0, 0, none⟩), .pointer (some ⟨g2, 0, none⟩), .pointer (some ⟨g4, 0, none⟩), .pointer (some ⟨g5, 0, none⟩)].toArray, .func (.func 40) [.pointer (some ⟨g, 0, none⟩)].toArray [].toArray, .func (.func 41) [].toArray [.pointer (some ⟨g1, 0, none⟩), .pointer (some ⟨g4, 0, none⟩)].toArray]) (vs := [.func (.func 35) [].toArray [.pointer (some ⟨g1, 0, none⟩)].toArray, .func (.func 36) [].toArray [.pointer (some ⟨g0, 0, none⟩), .pointer (some ⟨g2, 0, none⟩), .pointer (some ⟨g4, 0, none⟩), .pointer (some ⟨g3, 0, none⟩), .pointer (some ⟨g5, 0, none⟩)].toArray, .func (.func 38) [].toArray [.pointer (some ⟨g0, 0, none⟩), .pointer (some ⟨g2, 0, none⟩), .pointer (some ⟨g4, 0, none⟩), .pointer (some ⟨g5, 0, none⟩)].toArray, .func (.func 40) [.pointer (some ⟨g, 0, none⟩)].toArray [].toArray, .func (.func 41) [].toArray [.pointer (some ⟨g1, 0, none⟩), .pointer (some ⟨g4, 0, none⟩)].toArray]) rfl rfl rfl T.slice94 T.size90 T.zl90 rfl rfl rfl rfl rfl) (rfl) (Nat.le_refl _) (by decide) (rfl) fun fs fr w M E => ?_
  refine sw (v := .int .i64 _) E (run_lenR rfl rfl rfl rfl T.slice94 (M.reads 0 rfl)) fun fr E => ?_
  refine sw E (run_moveC rfl) fun fr E => ?_
  refine seq_nil' ?_
  refine wp_block ?_
  refine LoopWp.wp ?_
  refine LoopWp.step ?_
  by_cases h0 : (raiseA A v (v + 1)).1 = 0
  · refine code_region ?_
    refine sw (v := .bool true) E (tst rfl (by decide)) fun fr E => ?_
    refine seq_nil' ?_
    refine wp_seq ?_
    refine cond_true E rfl (rfl) ?_
    refine wp_skip ?_
    refine then_normal ?_
    refine wp_seq ?_
    refine wp_block ?_
    refine code_region ?_
    refine sw (v := cellAt fs (0 * 1)) E (run_indexR (i := 0) rfl (M.reads 0 rfl) rfl rfl (rfl) (by decide) T.slice94 T.size90) fun fr E => ?_
    refine sw (v := .func (.func 35) [].toArray [.pointer (some ⟨g1, 0, none⟩)].toArray) E (run_loadR rfl (M.reads 0 rfl) rfl T.one90 (rfl)) fun fr E => ?_
    refine ma E fun fr E => ?_
    refine seq_nil' ?_
    refine code_region ?_
    refine mv E fun fr E => ?_
    have M := M.pull 5 rfl
    have M := M.pull 9 rfl
    have M := M.pull 8 rfl
    refine scallI ([dkE D, cE g gk v, Ent.blk g1 (.cells #[.pointer (some ⟨gk, 0, none⟩)] 29)]) E M rfl rfl rfl rfl rfl (run_callF (us := []) (cs := [.pointer (some ⟨g1, 0, none⟩)]) rfl rfl T.fn35) rfl (fun H => fmt1_x (b1 := g1) H hD hv hv2) ?_
    rintro D1 fr w hD1 M E
    refine ma E fun fr E => ?_
    refine seq_nil' ?_
    refine code_region ?_
    refine mv E fun fr E => ?_
    refine sw (v := .bool false) E (tst rfl (by simp [h0])) fun fr E => ?_
    refine seq_nil' ?_
    refine cond_false E rfl (rfl) ?_
    refine wp_skip ?_
    refine block_normal ?_
    refine then_normal ?_
    refine code_last ?_
    refine sw (v := .int _ (1)) E (num rfl (rfl)) fun fr E => ?_
    refine mv E fun fr E => ?_
    refine seq_nil ?_
    refine then_any ?_
    refine LoopWp.step ?_
    by_cases h1 : (superW (raiseA A v (v + 1)).2.1 N.ks N.ts (epochZ (v + 1)) s l b).err = 0
    · refine code_region ?_
      refine sw (v := .bool true) E (tst rfl (by decide)) fun fr E => ?_
      refine seq_nil' ?_
      refine wp_seq ?_
      refine cond_true E rfl (rfl) ?_
      refine wp_skip ?_
      refine then_normal ?_
      refine wp_seq ?_
      refine wp_block ?_
      refine code_region ?_
      refine sw (v := cellAt fs (1 * 1)) E (run_indexR (i := 1) rfl (M.reads 3 rfl) rfl rfl (rfl) (by decide) T.slice94 T.size90) fun fr E => ?_
      refine sw (v := .func (.func 36) [].toArray [.pointer (some ⟨g0, 0, none⟩), .pointer (some ⟨g2, 0, none⟩), .pointer (some ⟨g4, 0, none⟩), .pointer (some ⟨g3, 0, none⟩), .pointer (some ⟨g5, 0, none⟩)].toArray) E (run_loadR rfl (M.reads 3 rfl) rfl T.one90 (rfl)) fun fr E => ?_
      refine ma E fun fr E => ?_
      refine seq_nil' ?_
      refine code_region ?_
      refine mv E fun fr E => ?_
      have M := M.pull 4 rfl
      have M := M.pull 6 rfl
      have M := M.pull 6 rfl
      have M := M.pull 7 rfl
      have M := M.pull 8 rfl
      have M := M.pull 9 rfl
      have M := M.pull 6 rfl
      refine scallI ([dkE D1, nmE N, Ent.blk g0 (.cells #[.pointer (some ⟨g, 0, none⟩)] 23), Ent.blk g2 (.cells #[.iface 31 (.pointer (some ⟨N.gn, 0, none⟩))] 84), Ent.blk g4 (.cells #[.int .i64 (epochZ (v + 1))] 3), Ent.blk g3 (.cells #[.int .i64 s, .int .i64 l, .int .i64 b] 35), Ent.blk g5 (.cells #[.int .u8 0, .int .u8 0, .int .u8 0, .int .u8 0, .int .u8 0, .int .u8 0, .int .u8 0, .int .u8 0, .int .u8 0, .int .u8 0, .int .u8 0, .int .u8 0, .int .u8 0, .int .u8 0, .int .u8 0, .int .u8 0, .int .u8 0, .int .u8 0, .int .u8 0, .int .u8 0, .int .u8 0, .int .u8 0, .int .u8 0, .int .u8 0, .int .u8 0, .int .u8 0, .int .u8 0, .int .u8 0, .int .u8 0, .int .u8 0, .int .u8 0, .int .u8 0] 54)]) E M rfl rfl rfl rfl rfl (run_callF (us := []) (cs := [.pointer (some ⟨g0, 0, none⟩), .pointer (some ⟨g2, 0, none⟩), .pointer (some ⟨g4, 0, none⟩), .pointer (some ⟨g3, 0, none⟩), .pointer (some ⟨g5, 0, none⟩)]) rfl rfl T.fn36) rfl (fun H => fmt2_x H hD1 (by omega) (by omega) hg (ep_right hv hr)) ?_
      rintro ⟨D2, N2⟩ fr w ⟨hD2, hn1, hn2, hn3⟩ M E
      refine ma E fun fr E => ?_
      refine seq_nil' ?_
      refine code_region ?_
      refine mv E fun fr E => ?_
      refine sw (v := .bool false) E (tst rfl (by simp [h1])) fun fr E => ?_
      refine seq_nil' ?_
      refine cond_false E rfl (rfl) ?_
      refine wp_skip ?_
      refine block_normal ?_
      refine then_normal ?_
      refine code_last ?_
      refine sw (v := .int _ (2)) E (num rfl (rfl)) fun fr E => ?_
      refine mv E fun fr E => ?_
      refine seq_nil ?_
      refine then_any ?_
      refine LoopWp.step ?_
      by_cases h2 : (regW (superW (raiseA A v (v + 1)).2.1 N.ks N.ts (epochZ (v + 1)) s l b).A (superW (raiseA A v (v + 1)).2.1 N.ks N.ts (epochZ (v + 1)) s l b).ks (fRec (epochZ (v + 1)) (superW (raiseA A v (v + 1)).2.1 N.ks N.ts (epochZ (v + 1)) s l b).sum) 1).1 = 0
      · refine code_region ?_
        refine sw (v := .bool true) E (tst rfl (by decide)) fun fr E => ?_
        refine seq_nil' ?_
        refine wp_seq ?_
        refine cond_true E rfl (rfl) ?_
        refine wp_skip ?_
        refine then_normal ?_
        refine wp_seq ?_
        refine wp_block ?_
        refine code_region ?_
        refine sw (v := cellAt fs (2 * 1)) E (run_indexR (i := 2) rfl (M.reads 9 rfl) rfl rfl (rfl) (by decide) T.slice94 T.size90) fun fr E => ?_
        refine sw (v := .func (.func 38) [].toArray [.pointer (some ⟨g0, 0, none⟩), .pointer (some ⟨g2, 0, none⟩), .pointer (some ⟨g4, 0, none⟩), .pointer (some ⟨g5, 0, none⟩)].toArray) E (run_loadR rfl (M.reads 9 rfl) rfl T.one90 (rfl)) fun fr E => ?_
        refine ma E fun fr E => ?_
        refine seq_nil' ?_
        refine code_region ?_
        refine mv E fun fr E => ?_
        have M := M.pull 6 rfl
        have M := M.pull 5 rfl
        have M := M.pull 5 rfl
        have M := M.pull 5 rfl
        have M := M.pull 5 rfl
        have M := M.pull 5 rfl
        refine scallI ([dkE D2, nmE N2, Ent.blk g0 (.cells #[.pointer (some ⟨g, 0, none⟩)] 23), Ent.blk g2 (.cells #[.iface 31 (.pointer (some ⟨N.gn, 0, none⟩))] 84), Ent.blk g4 (.cells #[.int .i64 (epochZ (v + 1))] 3), Ent.blk g5 (.cells (bc (superW (raiseA A v (v + 1)).2.1 N.ks N.ts (epochZ (v + 1)) s l b).sum).toArray 54)]) E M rfl rfl rfl rfl rfl (run_callF (us := []) (cs := [.pointer (some ⟨g0, 0, none⟩), .pointer (some ⟨g2, 0, none⟩), .pointer (some ⟨g4, 0, none⟩), .pointer (some ⟨g5, 0, none⟩)]) rfl rfl T.fn38) rfl (fun H => fmt3_y H (superW_sum _ _ _ _ _ _ _) hD2 (by rw [hn2]; have := superW_ks (raiseA A v (v + 1)).2.1 N.ks N.ts (epochZ (v + 1)) s l b; omega) hn1) ?_
        rintro ⟨D3, N3⟩ fr w ⟨hD3, hn4, hn5, hn6⟩ M E
        rw [hn2] at hD3 hn5 E
        refine ma E fun fr E => ?_
        refine seq_nil' ?_
        refine code_region ?_
        refine mv E fun fr E => ?_
        refine sw (v := .bool false) E (tst rfl (by simp [h2])) fun fr E => ?_
        refine seq_nil' ?_
        refine cond_false E rfl (rfl) ?_
        refine wp_skip ?_
        refine block_normal ?_
        refine then_normal ?_
        refine code_last ?_
        refine sw (v := .int _ (3)) E (num rfl (rfl)) fun fr E => ?_
        refine mv E fun fr E => ?_
        refine seq_nil ?_
        refine then_any ?_
        refine LoopWp.step ?_
        by_cases h3 : (regW (superW (raiseA A v (v + 1)).2.1 N.ks N.ts (epochZ (v + 1)) s l b).A (superW (raiseA A v (v + 1)).2.1 N.ks N.ts (epochZ (v + 1)) s l b).ks (fRec (epochZ (v + 1)) (superW (raiseA A v (v + 1)).2.1 N.ks N.ts (epochZ (v + 1)) s l b).sum) 1).2.1.sync.1 = 0
        · refine code_region ?_
          refine sw (v := .bool true) E (tst rfl (by decide)) fun fr E => ?_
          refine seq_nil' ?_
          refine wp_seq ?_
          refine cond_true E rfl (rfl) ?_
          refine wp_skip ?_
          refine then_normal ?_
          refine wp_seq ?_
          refine wp_block ?_
          refine code_region ?_
          refine sw (v := cellAt fs (3 * 1)) E (run_indexR (i := 3) rfl (M.reads 9 rfl) rfl rfl (rfl) (by decide) T.slice94 T.size90) fun fr E => ?_
          refine sw (v := .func (.func 40) [.pointer (some ⟨g, 0, none⟩)].toArray [].toArray) E (run_loadR rfl (M.reads 9 rfl) rfl T.one90 (rfl)) fun fr E => ?_
          refine ma E fun fr E => ?_
          refine seq_nil' ?_
          refine code_region ?_
          refine mv E fun fr E => ?_
          refine scallI ([dkE D3]) E M rfl rfl rfl rfl rfl (run_callF (us := [.pointer (some ⟨g, 0, none⟩)]) (cs := []) rfl rfl T.fn40) rfl (fun H => Sync_a H hD3) ?_
          rintro D4 fr w hD4 M E
          refine ma E fun fr E => ?_
          refine seq_nil' ?_
          refine code_region ?_
          refine mv E fun fr E => ?_
          refine sw (v := .bool false) E (tst rfl (by simp [h3])) fun fr E => ?_
          refine seq_nil' ?_
          refine cond_false E rfl (rfl) ?_
          refine wp_skip ?_
          refine block_normal ?_
          refine then_normal ?_
          refine code_last ?_
          refine sw (v := .int _ (4)) E (num rfl (rfl)) fun fr E => ?_
          refine mv E fun fr E => ?_
          refine seq_nil ?_
          refine then_any ?_
          refine LoopWp.step ?_
          by_cases h4 : (raiseA (regW (superW (raiseA A v (v + 1)).2.1 N.ks N.ts (epochZ (v + 1)) s l b).A (superW (raiseA A v (v + 1)).2.1 N.ks N.ts (epochZ (v + 1)) s l b).ks (fRec (epochZ (v + 1)) (superW (raiseA A v (v + 1)).2.1 N.ks N.ts (epochZ (v + 1)) s l b).sum) 1).2.1.sync.2 (raiseA A v (v + 1)).2.2 ((epochZ (v + 1)) * 1048576)).1 = 0
          · refine code_region ?_
            refine sw (v := .bool true) E (tst rfl (by decide)) fun fr E => ?_
            refine seq_nil' ?_
            refine wp_seq ?_
            refine cond_true E rfl (rfl) ?_
            refine wp_skip ?_
            refine then_normal ?_
            refine wp_seq ?_
            refine wp_block ?_
            refine code_region ?_
            refine sw (v := cellAt fs (4 * 1)) E (run_indexR (i := 4) rfl (M.reads 9 rfl) rfl rfl (rfl) (by decide) T.slice94 T.size90) fun fr E => ?_
            refine sw (v := .func (.func 41) [].toArray [.pointer (some ⟨g1, 0, none⟩), .pointer (some ⟨g4, 0, none⟩)].toArray) E (run_loadR rfl (M.reads 9 rfl) rfl T.one90 (rfl)) fun fr E => ?_
            refine ma E fun fr E => ?_
            refine seq_nil' ?_
            refine code_region ?_
            refine mv E fun fr E => ?_
            have M := M.pull 4 rfl
            have M := M.pull 8 rfl
            have M := M.pull 8 rfl
            have M := M.pull 3 rfl
            refine scallI ([dkE D4, cE g gk (raiseA A v (v + 1)).2.2, Ent.blk g1 (.cells #[.pointer (some ⟨gk, 0, none⟩)] 29), Ent.blk g4 (.cells #[.int .i64 (epochZ (v + 1))] 3)]) E M rfl rfl rfl rfl rfl (run_callF (us := []) (cs := [.pointer (some ⟨g1, 0, none⟩), .pointer (some ⟨g4, 0, none⟩)]) rfl rfl T.fn41) rfl (fun H => fmt5_x (b1 := g1) (b4 := g4) H hD4 (ep_bnd hv hr)) ?_
            rintro D5 fr w hD5 M E
            refine ma E fun fr E => ?_
            refine seq_nil' ?_
            refine code_region ?_
            refine mv E fun fr E => ?_
            refine sw (v := .bool false) E (tst rfl (by simp [h4])) fun fr E => ?_
            refine seq_nil' ?_
            refine cond_false E rfl (rfl) ?_
            refine wp_skip ?_
            refine block_normal ?_
            refine then_normal ?_
            refine code_last ?_
            refine sw (v := .int _ (5)) E (num rfl (rfl)) fun fr E => ?_
            refine mv E fun fr E => ?_
            refine seq_nil ?_
            refine then_any ?_
            refine LoopWp.step ?_
            refine code_region ?_
            refine sw (v := .bool false) E (tst rfl (by decide)) fun fr E => ?_
            refine seq_nil' ?_
            refine wp_seq ?_
            refine cond_false E rfl (rfl) ?_
            refine wp_exit ?_
            refine then_exit ?_
            refine then_exit ?_
            refine block_exit ?_
            refine then_normal ?_
            refine code_region ?_
            refine sw E (run_assignC rfl) fun fr E => ?_
            refine seq_nil' ?_
            refine wp_ret ?_
            refine ret1 E rfl rfl ?_
            have M := M.pull 1 rfl
            have M := M.pull 4 rfl
            have M := M.pull 2 rfl
            rw [fmtF_go hr, fm1_ok h0, fm2_ok h1, fm3_ok h2, fm4_ok h3, fm5, h4]
            exact ⟨(D5, N3), rfl, Mem.fin (L := [dkE D5, nmE N3, cE g gk (raiseA (regW (superW (raiseA A v (v + 1)).2.1 N.ks N.ts (epochZ (v + 1)) s l b).A (superW (raiseA A v (v + 1)).2.1 N.ks N.ts (epochZ (v + 1)) s l b).ks (fRec (epochZ (v + 1)) (superW (raiseA A v (v + 1)).2.1 N.ks N.ts (epochZ (v + 1)) s l b).sum) 1).2.1.sync.2 (raiseA A v (v + 1)).2.2 ((epochZ (v + 1)) * 1048576)).2.2] ++ _) M (List.sublist_append_left _ _) ⟨hD5, hn4, hn5, hn6.trans hn3⟩⟩
          · refine code_region ?_
            refine sw (v := .bool true) E (tst rfl (by decide)) fun fr E => ?_
            refine seq_nil' ?_
            refine wp_seq ?_
            refine cond_true E rfl (rfl) ?_
            refine wp_skip ?_
            refine then_normal ?_
            refine wp_seq ?_
            refine wp_block ?_
            refine code_region ?_
            refine sw (v := cellAt fs (4 * 1)) E (run_indexR (i := 4) rfl (M.reads 9 rfl) rfl rfl (rfl) (by decide) T.slice94 T.size90) fun fr E => ?_
            refine sw (v := .func (.func 41) [].toArray [.pointer (some ⟨g1, 0, none⟩), .pointer (some ⟨g4, 0, none⟩)].toArray) E (run_loadR rfl (M.reads 9 rfl) rfl T.one90 (rfl)) fun fr E => ?_
            refine ma E fun fr E => ?_
            refine seq_nil' ?_
            refine code_region ?_
            refine mv E fun fr E => ?_
            have M := M.pull 4 rfl
            have M := M.pull 8 rfl
            have M := M.pull 8 rfl
            have M := M.pull 3 rfl
            refine scallI ([dkE D4, cE g gk (raiseA A v (v + 1)).2.2, Ent.blk g1 (.cells #[.pointer (some ⟨gk, 0, none⟩)] 29), Ent.blk g4 (.cells #[.int .i64 (epochZ (v + 1))] 3)]) E M rfl rfl rfl rfl rfl (run_callF (us := []) (cs := [.pointer (some ⟨g1, 0, none⟩), .pointer (some ⟨g4, 0, none⟩)]) rfl rfl T.fn41) rfl (fun H => fmt5_x (b1 := g1) (b4 := g4) H hD4 (ep_bnd hv hr)) ?_
            rintro D5 fr w hD5 M E
            refine ma E fun fr E => ?_
            refine seq_nil' ?_
            refine code_region ?_
            refine mv E fun fr E => ?_
            refine sw (v := .bool true) E (tst rfl (by simp [h4])) fun fr E => ?_
            refine seq_nil' ?_
            refine cond_true E rfl (rfl) ?_
            refine code_region ?_
            refine mv E fun fr E => ?_
            refine ma E fun fr E => ?_
            refine seq_nil' ?_
            refine wp_ret ?_
            refine block_ret ?_
            refine then_ret ?_
            refine then_ret ?_
            refine block_ret ?_
            refine then_ret ?_
            refine ret1 E rfl rfl ?_
            have M := M.pull 1 rfl
            have M := M.pull 4 rfl
            have M := M.pull 2 rfl
            rw [fmtF_go hr, fm1_ok h0, fm2_ok h1, fm3_ok h2, fm4_ok h3, fm5]
            exact ⟨(D5, N3), rfl, Mem.fin (L := [dkE D5, nmE N3, cE g gk (raiseA (regW (superW (raiseA A v (v + 1)).2.1 N.ks N.ts (epochZ (v + 1)) s l b).A (superW (raiseA A v (v + 1)).2.1 N.ks N.ts (epochZ (v + 1)) s l b).ks (fRec (epochZ (v + 1)) (superW (raiseA A v (v + 1)).2.1 N.ks N.ts (epochZ (v + 1)) s l b).sum) 1).2.1.sync.2 (raiseA A v (v + 1)).2.2 ((epochZ (v + 1)) * 1048576)).2.2] ++ _) M (List.sublist_append_left _ _) ⟨hD5, hn4, hn5, hn6.trans hn3⟩⟩
        · refine code_region ?_
          refine sw (v := .bool true) E (tst rfl (by decide)) fun fr E => ?_
          refine seq_nil' ?_
          refine wp_seq ?_
          refine cond_true E rfl (rfl) ?_
          refine wp_skip ?_
          refine then_normal ?_
          refine wp_seq ?_
          refine wp_block ?_
          refine code_region ?_
          refine sw (v := cellAt fs (3 * 1)) E (run_indexR (i := 3) rfl (M.reads 9 rfl) rfl rfl (rfl) (by decide) T.slice94 T.size90) fun fr E => ?_
          refine sw (v := .func (.func 40) [.pointer (some ⟨g, 0, none⟩)].toArray [].toArray) E (run_loadR rfl (M.reads 9 rfl) rfl T.one90 (rfl)) fun fr E => ?_
          refine ma E fun fr E => ?_
          refine seq_nil' ?_
          refine code_region ?_
          refine mv E fun fr E => ?_
          refine scallI ([dkE D3]) E M rfl rfl rfl rfl rfl (run_callF (us := [.pointer (some ⟨g, 0, none⟩)]) (cs := []) rfl rfl T.fn40) rfl (fun H => Sync_a H hD3) ?_
          rintro D4 fr w hD4 M E
          refine ma E fun fr E => ?_
          refine seq_nil' ?_
          refine code_region ?_
          refine mv E fun fr E => ?_
          refine sw (v := .bool true) E (tst rfl (by simp [h3])) fun fr E => ?_
          refine seq_nil' ?_
          refine cond_true E rfl (rfl) ?_
          refine code_region ?_
          refine mv E fun fr E => ?_
          refine ma E fun fr E => ?_
          refine seq_nil' ?_
          refine wp_ret ?_
          refine block_ret ?_
          refine then_ret ?_
          refine then_ret ?_
          refine block_ret ?_
          refine then_ret ?_
          refine ret1 E rfl rfl ?_
          have M := M.pull 7 rfl
          have M := M.pull 2 rfl
          have M := M.pull 2 rfl
          rw [fmtF_go hr, fm1_ok h0, fm2_ok h1, fm3_ok h2, fm4_no h3]
          exact ⟨(D4, N3), rfl, Mem.fin (L := [dkE D4, nmE N3, cE g gk (raiseA A v (v + 1)).2.2] ++ _) M (List.sublist_append_left _ _) ⟨hD4, hn4, hn5, hn6.trans hn3⟩⟩
      · refine code_region ?_
        refine sw (v := .bool true) E (tst rfl (by decide)) fun fr E => ?_
        refine seq_nil' ?_
        refine wp_seq ?_
        refine cond_true E rfl (rfl) ?_
        refine wp_skip ?_
        refine then_normal ?_
        refine wp_seq ?_
        refine wp_block ?_
        refine code_region ?_
        refine sw (v := cellAt fs (2 * 1)) E (run_indexR (i := 2) rfl (M.reads 9 rfl) rfl rfl (rfl) (by decide) T.slice94 T.size90) fun fr E => ?_
        refine sw (v := .func (.func 38) [].toArray [.pointer (some ⟨g0, 0, none⟩), .pointer (some ⟨g2, 0, none⟩), .pointer (some ⟨g4, 0, none⟩), .pointer (some ⟨g5, 0, none⟩)].toArray) E (run_loadR rfl (M.reads 9 rfl) rfl T.one90 (rfl)) fun fr E => ?_
        refine ma E fun fr E => ?_
        refine seq_nil' ?_
        refine code_region ?_
        refine mv E fun fr E => ?_
        have M := M.pull 6 rfl
        have M := M.pull 5 rfl
        have M := M.pull 5 rfl
        have M := M.pull 5 rfl
        have M := M.pull 5 rfl
        have M := M.pull 5 rfl
        refine scallI ([dkE D2, nmE N2, Ent.blk g0 (.cells #[.pointer (some ⟨g, 0, none⟩)] 23), Ent.blk g2 (.cells #[.iface 31 (.pointer (some ⟨N.gn, 0, none⟩))] 84), Ent.blk g4 (.cells #[.int .i64 (epochZ (v + 1))] 3), Ent.blk g5 (.cells (bc (superW (raiseA A v (v + 1)).2.1 N.ks N.ts (epochZ (v + 1)) s l b).sum).toArray 54)]) E M rfl rfl rfl rfl rfl (run_callF (us := []) (cs := [.pointer (some ⟨g0, 0, none⟩), .pointer (some ⟨g2, 0, none⟩), .pointer (some ⟨g4, 0, none⟩), .pointer (some ⟨g5, 0, none⟩)]) rfl rfl T.fn38) rfl (fun H => fmt3_y H (superW_sum _ _ _ _ _ _ _) hD2 (by rw [hn2]; have := superW_ks (raiseA A v (v + 1)).2.1 N.ks N.ts (epochZ (v + 1)) s l b; omega) hn1) ?_
        rintro ⟨D3, N3⟩ fr w ⟨hD3, hn4, hn5, hn6⟩ M E
        rw [hn2] at hD3 hn5 E
        refine ma E fun fr E => ?_
        refine seq_nil' ?_
        refine code_region ?_
        refine mv E fun fr E => ?_
        refine sw (v := .bool true) E (tst rfl (by simp [h2])) fun fr E => ?_
        refine seq_nil' ?_
        refine cond_true E rfl (rfl) ?_
        refine code_region ?_
        refine mv E fun fr E => ?_
        refine ma E fun fr E => ?_
        refine seq_nil' ?_
        refine wp_ret ?_
        refine block_ret ?_
        refine then_ret ?_
        refine then_ret ?_
        refine block_ret ?_
        refine then_ret ?_
        refine ret1 E rfl rfl ?_
        have M := M.pull 7 rfl
        have M := M.pull 2 rfl
        have M := M.pull 2 rfl
        rw [fmtF_go hr, fm1_ok h0, fm2_ok h1, fm3_no h2]
        exact ⟨(D3, N3), rfl, Mem.fin (L := [dkE D3, nmE N3, cE g gk (raiseA A v (v + 1)).2.2] ++ _) M (List.sublist_append_left _ _) ⟨hD3, hn4, hn5, hn6.trans hn3⟩⟩
    · refine code_region ?_
      refine sw (v := .bool true) E (tst rfl (by decide)) fun fr E => ?_
      refine seq_nil' ?_
      refine wp_seq ?_
      refine cond_true E rfl (rfl) ?_
      refine wp_skip ?_
      refine then_normal ?_
      refine wp_seq ?_
      refine wp_block ?_
      refine code_region ?_
      refine sw (v := cellAt fs (1 * 1)) E (run_indexR (i := 1) rfl (M.reads 3 rfl) rfl rfl (rfl) (by decide) T.slice94 T.size90) fun fr E => ?_
      refine sw (v := .func (.func 36) [].toArray [.pointer (some ⟨g0, 0, none⟩), .pointer (some ⟨g2, 0, none⟩), .pointer (some ⟨g4, 0, none⟩), .pointer (some ⟨g3, 0, none⟩), .pointer (some ⟨g5, 0, none⟩)].toArray) E (run_loadR rfl (M.reads 3 rfl) rfl T.one90 (rfl)) fun fr E => ?_
      refine ma E fun fr E => ?_
      refine seq_nil' ?_
      refine code_region ?_
      refine mv E fun fr E => ?_
      have M := M.pull 4 rfl
      have M := M.pull 6 rfl
      have M := M.pull 6 rfl
      have M := M.pull 7 rfl
      have M := M.pull 8 rfl
      have M := M.pull 9 rfl
      have M := M.pull 6 rfl
      refine scallI ([dkE D1, nmE N, Ent.blk g0 (.cells #[.pointer (some ⟨g, 0, none⟩)] 23), Ent.blk g2 (.cells #[.iface 31 (.pointer (some ⟨N.gn, 0, none⟩))] 84), Ent.blk g4 (.cells #[.int .i64 (epochZ (v + 1))] 3), Ent.blk g3 (.cells #[.int .i64 s, .int .i64 l, .int .i64 b] 35), Ent.blk g5 (.cells #[.int .u8 0, .int .u8 0, .int .u8 0, .int .u8 0, .int .u8 0, .int .u8 0, .int .u8 0, .int .u8 0, .int .u8 0, .int .u8 0, .int .u8 0, .int .u8 0, .int .u8 0, .int .u8 0, .int .u8 0, .int .u8 0, .int .u8 0, .int .u8 0, .int .u8 0, .int .u8 0, .int .u8 0, .int .u8 0, .int .u8 0, .int .u8 0, .int .u8 0, .int .u8 0, .int .u8 0, .int .u8 0, .int .u8 0, .int .u8 0, .int .u8 0, .int .u8 0] 54)]) E M rfl rfl rfl rfl rfl (run_callF (us := []) (cs := [.pointer (some ⟨g0, 0, none⟩), .pointer (some ⟨g2, 0, none⟩), .pointer (some ⟨g4, 0, none⟩), .pointer (some ⟨g3, 0, none⟩), .pointer (some ⟨g5, 0, none⟩)]) rfl rfl T.fn36) rfl (fun H => fmt2_x H hD1 (by omega) (by omega) hg (ep_right hv hr)) ?_
      rintro ⟨D2, N2⟩ fr w ⟨hD2, hn1, hn2, hn3⟩ M E
      refine ma E fun fr E => ?_
      refine seq_nil' ?_
      refine code_region ?_
      refine mv E fun fr E => ?_
      refine sw (v := .bool true) E (tst rfl (by simp [h1])) fun fr E => ?_
      refine seq_nil' ?_
      refine cond_true E rfl (rfl) ?_
      refine code_region ?_
      refine mv E fun fr E => ?_
      refine ma E fun fr E => ?_
      refine seq_nil' ?_
      refine wp_ret ?_
      refine block_ret ?_
      refine then_ret ?_
      refine then_ret ?_
      refine block_ret ?_
      refine then_ret ?_
      refine ret1 E rfl rfl ?_
      have M := M.pull 7 rfl
      have M := M.pull 2 rfl
      have M := M.pull 2 rfl
      rw [fmtF_go hr, fm1_ok h0, fm2_no h1]
      exact ⟨(D2, N2), rfl, Mem.fin (L := [dkE D2, nmE N2, cE g gk (raiseA A v (v + 1)).2.2] ++ _) M (List.sublist_append_left _ _) ⟨hD2, hn1, hn2, hn3⟩⟩
  · refine code_region ?_
    refine sw (v := .bool true) E (tst rfl (by decide)) fun fr E => ?_
    refine seq_nil' ?_
    refine wp_seq ?_
    refine cond_true E rfl (rfl) ?_
    refine wp_skip ?_
    refine then_normal ?_
    refine wp_seq ?_
    refine wp_block ?_
    refine code_region ?_
    refine sw (v := cellAt fs (0 * 1)) E (run_indexR (i := 0) rfl (M.reads 0 rfl) rfl rfl (rfl) (by decide) T.slice94 T.size90) fun fr E => ?_
    refine sw (v := .func (.func 35) [].toArray [.pointer (some ⟨g1, 0, none⟩)].toArray) E (run_loadR rfl (M.reads 0 rfl) rfl T.one90 (rfl)) fun fr E => ?_
    refine ma E fun fr E => ?_
    refine seq_nil' ?_
    refine code_region ?_
    refine mv E fun fr E => ?_
    have M := M.pull 5 rfl
    have M := M.pull 9 rfl
    have M := M.pull 8 rfl
    refine scallI ([dkE D, cE g gk v, Ent.blk g1 (.cells #[.pointer (some ⟨gk, 0, none⟩)] 29)]) E M rfl rfl rfl rfl rfl (run_callF (us := []) (cs := [.pointer (some ⟨g1, 0, none⟩)]) rfl rfl T.fn35) rfl (fun H => fmt1_x (b1 := g1) H hD hv hv2) ?_
    rintro D1 fr w hD1 M E
    refine ma E fun fr E => ?_
    refine seq_nil' ?_
    refine code_region ?_
    refine mv E fun fr E => ?_
    refine sw (v := .bool true) E (tst rfl (by simp [h0])) fun fr E => ?_
    refine seq_nil' ?_
    refine cond_true E rfl (rfl) ?_
    refine code_region ?_
    refine mv E fun fr E => ?_
    refine ma E fun fr E => ?_
    refine seq_nil' ?_
    refine wp_ret ?_
    refine block_ret ?_
    refine then_ret ?_
    refine then_ret ?_
    refine block_ret ?_
    refine then_ret ?_
    refine ret1 E rfl rfl ?_
    have M := M.pull 1 rfl
    have M := M.pull 9 rfl
    have M := M.pull 2 rfl
    rw [fmtF_go hr, fm1_no h0]
    exact ⟨(D1, N), rfl, Mem.fin (L := [dkE D1, nmE N, cE g gk (raiseA A v (v + 1)).2.2] ++ _) M (List.sublist_append_left _ _) ⟨hD1, rfl, rfl, rfl⟩⟩

theorem Format_x {D : DV} {N : NV} {g gk : Nat} {A : AD} {v s l b : Int} {w0 : World} (H : Has w0 [dkE D, nmE N, cE g gk v]) (hD : D.is g A) (hkz : N.ks.length + 2 ≤ 1099511627776) (htz : N.ts.length + 2 ≤ 1099511627776) (hv : 0 ≤ v) (hv2 : v ≤ 1152921504606846976) : Does Tryz.prog 20 [.pointer (some ⟨g, 0, none⟩), .pointer (some ⟨gk, 0, none⟩), .iface 31 (.pointer (some ⟨N.gn, 0, none⟩)), .agg #[.int .i64 s, .int .i64 l, .int .i64 b]] w0 [dkE D, nmE N, cE g gk v] (fun _ : DV × NV => .int .i64 (fmtF A v N.ks N.ts s l b).err) (fun x => [dkE x.1, nmE x.2, cE g gk (fmtF A v N.ks N.ts s l b).v]) (fun x => x.1.is g (fmtF A v N.ks N.ts s l b).A ∧ x.2.gn = N.gn ∧ x.2.ks = (fmtF A v N.ks N.ts s l b).ks ∧ x.2.ts = (fmtF A v N.ks N.ts s l b).ts) := by
  by_cases hr : refZ A.n v s l b = 0
  · exact Format_go H hD hkz htz hv hv2 hr (refZ_may hr)
  · exact Format_no H hD hkz htz hv hv2 hr
theorem Format_y {D : DV} {N : NV} {g gk : Nat} {A : AD} {v s l b : Int} {w0 : World} (H : Has w0 [dkE D, nmE N, cE g gk v]) (hD : D.is g A) (hkz : N.ks.length + 2 ≤ 1099511627776) (htz : N.ts.length + 2 ≤ 1099511627776) (hv : 0 ≤ v) (hv2 : v ≤ 1152921504606846976) {a : Nat} (ha : N.gn = a) : Does Tryz.prog 20 [.pointer (some ⟨g, 0, none⟩), .pointer (some ⟨gk, 0, none⟩), .iface 31 (.pointer (some ⟨a, 0, none⟩)), .agg #[.int .i64 s, .int .i64 l, .int .i64 b]] w0 [dkE D, nmE N, cE g gk v] (fun _ : DV × NV => .int .i64 (fmtF A v N.ks N.ts s l b).err) (fun x => [dkE x.1, nmE x.2, cE g gk (fmtF A v N.ks N.ts s l b).v]) (fun x => x.1.is g (fmtF A v N.ks N.ts s l b).A ∧ x.2.gn = a ∧ x.2.ks = (fmtF A v N.ks N.ts s l b).ks ∧ x.2.ts = (fmtF A v N.ks N.ts s l b).ts) := by
  subst ha
  exact Format_x H hD hkz htz hv hv2
end Go.Proofs.YtnebjbgcibjohaaGreat.K
end
section
namespace Go.Proofs.YtnebjbgcibjohaaGreat.K
open Go.RowKit Go.Rill Go.Proofs
set_option linter.unusedVariables false
set_option linter.unusedSimpArgs false
/-- The power holds for an operation more. -/
def AD.go (A : AD) : Prop := A.off = false ∧ ¬ (A.armed = true ∧ A.left = 0)
def AD.tick (A : AD) : AD := { A with left := w64 (A.left - 1) }
theorem spend_ok {A : AD} (h : A.go) : A.spend = (0, A.tick) := by
  unfold AD.spend
  rw [if_neg (by rw [h.1]; decide), if_neg h.2]
  rfl
theorem write_ok {A : AD} {i : Int} {l : List UInt8} (h : A.go) (ht : A.there i) (hl : l.length ≤ 1024) : A.write i l = (0, A.put i l) := by
  unfold AD.write
  rw [if_neg (by rw [h.1]; decide), if_neg (fun c => c ht), if_neg (by omega), if_neg h.2]
  rfl
theorem write_cut {A : AD} {i : Int} {l : List UInt8} (h0 : A.off = false) (ha : A.armed = true) (hl0 : A.left = 0) (ht : A.there i) (hl : l.length ≤ 1024) : A.write i l = (12, { A with off := true }) := by
  unfold AD.write
  rw [if_neg (by rw [h0]; decide), if_neg (fun c => c ht), if_neg (by omega), if_pos ⟨ha, hl0⟩]
theorem raise_ok {A : AD} {v nv : Int} (h : A.go) (h1 : v < nv) (h2 : nv ≤ 1152921504606846976) : raiseA A v nv = (0, A.tick, nv) := by
  unfold raiseA
  rw [spend_ok h, if_neg (by omega), if_pos rfl]
theorem sectB_small (ks : List NKey) (kd e n at' : Int) {pl : List UInt8} (h : pl.length ≤ 900) : (sectB ks kd e n at' pl).length ≤ 1024 := by
  have h1 := sealB_len ks e n (hdB kd at') pl
  rw [sectB_len]
  omega
theorem geoB_len (s l b : Int) : (geoB s l b).length = 24 := by simp [geoB, be8_len]
theorem fRec_may {e : Int} {sm : List UInt8} (h : 1 ≤ e ∧ e ≤ 1099511627776) : (fRec e sm).May := ⟨⟨(by decide : RNum 1), h, h⟩, .inl ⟨rfl, rfl⟩, (by decide : RPl 0 0), (by decide : RPl 0 0)⟩
theorem fRec_at (e : Int) (sm : List UInt8) : (fRec e sm).at' = 2 := rfl
/-- The second region is written. -/
theorem regW_w {A : AD} {ks : List NKey} {r : Rec} (hr : r.Ok) (hm : r.May) {num : Int} (h0 : 0 ≤ num) (h1 : num ≤ 1099511627776) : regW A ks r num = ((A.write r.at' (sectB ks 2 r.epoch num r.at' r.bytes)).1, (A.write r.at' (sectB ks 2 r.epoch num r.at' r.bytes)).2, sealKs ks (r.key num)) := by
  have hs := right_of hm h0 h1
  have hin : inNum r.epoch ∧ inNum num := ⟨⟨hs.1.1, hs.2.1.1⟩, ⟨h0, h1⟩⟩
  unfold regW
  rw [if_pos ⟨hm, hs⟩]
  unfold sealS
  rw [if_pos hin]
section
variable {A : AD} {v s l b : Int} {ks : List NKey} {ts : List (List UInt8)}
abbrev fE (v : Int) : Int := epochZ (v + 1)
abbrev fK0 (v s l b : Int) : NKey := ⟨fE v, 0, hdB 1 0, geoB s l b⟩
abbrev fB0 (v s l b : Int) (ks : List NKey) : List UInt8 := sectB ks 1 (fE v) 0 0 (geoB s l b)
abbrev fKs1 (v s l b : Int) (ks : List NKey) : List NKey := sealKs ks (fK0 v s l b)
abbrev fSum (v s l b : Int) (ks : List NKey) (ts : List (List UInt8)) : List UInt8 := sumOf (textNo ts (fB0 v s l b ks))
abbrev fR (v s l b : Int) (ks : List NKey) (ts : List (List UInt8)) : Rec := fRec (fE v) (fSum v s l b ks ts)
abbrev fB2 (v s l b : Int) (ks : List NKey) (ts : List (List UInt8)) : List UInt8 := sectB (fKs1 v s l b ks) 2 (fE v) 1 2 (fR v s l b ks ts).bytes
abbrev fKs2 (v s l b : Int) (ks : List NKey) (ts : List (List UInt8)) : List NKey := sealKs (fKs1 v s l b ks) ((fR v s l b ks ts).key 1)
theorem fE_in {n : Nat} (hv : 0 ≤ v) (hr : refZ n v s l b = 0) : 2 ≤ fE v ∧ fE v ≤ 1099511627776 ∧ v + 1 < fE v * 1048576 ∧ fE v * 1048576 ≤ 1152921504606846976 ∧ v + 1 ≤ 1152921504606846976 := by
  have h1 := (refZ_in hr).2.2.2
  unfold fE
  unfold epochZ at *
  omega
theorem fR_ok : (fR v s l b ks ts).Ok := fRec_ok _ (sumOf_len _)
theorem fR_may {n : Nat} (hv : 0 ≤ v) (hr : refZ n v s l b = 0) : (fR v s l b ks ts).May := fRec_may (by have := fE_in hv hr; omega)
theorem there_of {n : Nat} (hn : A.n = n) (hr : refZ n v s l b = 0) {i : Int} (h0 : 0 ≤ i) (h1 : i ≤ 100) : A.there i := by
  obtain ⟨h2, h3, _⟩ := refZ_in hr
  have := gmay_sl h2
  unfold AD.there
  omega
theorem superW_s {e : Int} (he : 0 ≤ e ∧ e ≤ 1099511627776) (h : (A.write 0 (sectB ks 1 e 0 0 (geoB s l b))).1 = 0) : superW A ks ts e s l b = ⟨0, (A.write 0 (sectB ks 1 e 0 0 (geoB s l b))).2, sealKs ks ⟨e, 0, hdB 1 0, geoB s l b⟩, textKs ts (sectB ks 1 e 0 0 (geoB s l b)), sumOf (textNo ts (sectB ks 1 e 0 0 (geoB s l b)))⟩ := by
  unfold superW
  rw [if_pos h]
  unfold sealS
  rw [if_pos ⟨he, by decide, by decide⟩]
/-- What the disk has behind a whole Format. -/
def fmtA (A : AD) (b0 b2 : List UInt8) : AD := (((A.tick.put 0 b0).put 2 b2).sync.2).tick
theorem fmt_ok (h0 : A.off = false) (ha : A.armed = false) (hv : 0 ≤ v) (hr : refZ A.n v s l b = 0) : fmtF A v ks ts s l b = ⟨0, fmtA A (fB0 v s l b ks) (fB2 v s l b ks ts), fE v * 1048576, fKs2 v s l b ks ts, textKs ts (fB0 v s l b ks)⟩ := by
  obtain ⟨e1, e2, e3, e4, e5⟩ := fE_in hv hr
  have g0 : A.go := ⟨h0, by rw [ha]; simp⟩
  have r1 : raiseA A v (v + 1) = (0, A.tick, v + 1) := raise_ok g0 (by omega) e5
  have g1 : A.tick.go := ⟨h0, by show ¬ (A.armed = true ∧ _); rw [ha]; simp⟩
  have w0 : A.tick.write 0 (fB0 v s l b ks) = (0, A.tick.put 0 (fB0 v s l b ks)) := write_ok g1 (there_of (A := A.tick) rfl hr (by decide) (by decide)) (sectB_small _ _ _ _ _ (by rw [geoB_len]; decide))
  have s1 : superW A.tick ks ts (fE v) s l b = ⟨0, A.tick.put 0 (fB0 v s l b ks), fKs1 v s l b ks, textKs ts (fB0 v s l b ks), fSum v s l b ks ts⟩ := by
    rw [superW_s (by omega) (by rw [w0]), w0]
  have g2 : (A.tick.put 0 (fB0 v s l b ks)).go := ⟨h0, by show ¬ (A.armed = true ∧ _); rw [ha]; simp⟩
  have w2 : (A.tick.put 0 (fB0 v s l b ks)).write 2 (fB2 v s l b ks ts) = (0, (A.tick.put 0 (fB0 v s l b ks)).put 2 (fB2 v s l b ks ts)) := write_ok g2 (there_of (A := A.tick.put 0 (fB0 v s l b ks)) rfl hr (by decide) (by decide)) (sectB_small _ _ _ _ _ (by rw [Rec.bytes_len fR_ok]; decide))
  have r2 : regW (A.tick.put 0 (fB0 v s l b ks)) (fKs1 v s l b ks) (fR v s l b ks ts) 1 = (0, (A.tick.put 0 (fB0 v s l b ks)).put 2 (fB2 v s l b ks ts), fKs2 v s l b ks ts) := by
    rw [regW_w fR_ok (fR_may hv hr) (by decide) (by decide)]
    have := w2
    show ((AD.write _ 2 (fB2 v s l b ks ts)).1, (AD.write _ 2 (fB2 v s l b ks ts)).2, _) = _
    rw [this]
  have y : ((A.tick.put 0 (fB0 v s l b ks)).put 2 (fB2 v s l b ks ts)).sync = (0, ((A.tick.put 0 (fB0 v s l b ks)).put 2 (fB2 v s l b ks ts)).sync.2) := by
    unfold AD.sync
    rw [if_neg (by show ¬ A.off = true; rw [h0]; decide), if_neg (by show ¬ (A.armed = true ∧ _); rw [ha]; simp)]
  have g4 : (((A.tick.put 0 (fB0 v s l b ks)).put 2 (fB2 v s l b ks ts)).sync.2).go := by
    unfold AD.sync
    rw [if_neg (by show ¬ A.off = true; rw [h0]; decide), if_neg (by show ¬ (A.armed = true ∧ _); rw [ha]; simp)]
    exact ⟨h0, by show ¬ (A.armed = true ∧ _); rw [ha]; simp⟩
  have r5 : raiseA (((A.tick.put 0 (fB0 v s l b ks)).put 2 (fB2 v s l b ks ts)).sync.2) (v + 1) (fE v * 1048576) = (0, fmtA A (fB0 v s l b ks) (fB2 v s l b ks ts), fE v * 1048576) := raise_ok g4 e3 e4
  rw [fmtF_go hr, fm1_ok (by rw [r1]), r1, fm2_ok (by rw [s1]), s1, fm3_ok (by rw [r2]), r2, fm4_ok (by rw [y]), fm5, r5]
theorem tick_read (A : AD) (j : Nat) : A.tick.read j = A.read j := rfl
theorem fmtA_read {b0 b2 : List UInt8} (h0 : A.off = false) (ha : A.armed = false) (hl : A.last.length = A.n) {j : Nat} (hj : j < A.n) : (fmtA A b0 b2).read j = if j = 2 then b2 else if j = 0 then b0 else A.read j := by
  have e : (fmtA A b0 b2).read j = ((A.tick.put 0 b0).put 2 b2).read j := (tick_read _ _).trans (AD.read_sync (A := (A.tick.put 0 b0).put 2 b2) hl h0 (by show ¬ (A.armed = true ∧ _); rw [ha]; simp) hj)
  rw [e, put_read, put_read, tick_read]
  by_cases c : j = 2
  · rw [if_pos (by omega), if_pos c]
  · rw [if_neg (by omega), if_neg c]
    by_cases d : j = 0
    · rw [if_pos (by omega), if_pos d]
    · rw [if_neg (by omega), if_neg d]
theorem fmtA_eq {b0 b2 : List UInt8} (h0 : A.off = false) (ha : A.armed = false) : (fmtA A b0 b2).n = A.n ∧ (fmtA A b0 b2).off = false ∧ (fmtA A b0 b2).armed = false ∧ (fmtA A b0 b2).writes = w64 (w64 (A.writes + 1) + 1) := by
  unfold fmtA AD.sync
  rw [if_neg (by show ¬ A.off = true; rw [h0]; decide), if_neg (by show ¬ (A.armed = true ∧ _); rw [ha]; simp)]
  exact ⟨rfl, h0, ha, rfl⟩
/-- .. its record is told. -/
theorem fmt_one {A' : AD} {n : Nat} (hv : 0 ≤ v) (hr : refZ n v s l b = 0) (hrd : A'.read 2 = fB2 v s l b ks ts) : oneX A' (fKs2 v s l b ks ts) 2 = (fR v s l b ks ts, true) := by
  obtain ⟨m, h1, h2⟩ := seal_at (fKs1 v s l b ks) ((fR v s l b ks ts).key 1)
  exact one_at fR_ok (fR_may hv hr) (by decide) (by decide) rfl hrd h1 h2
end
end Go.Proofs.YtnebjbgcibjohaaGreat.K
end
section
namespace Go.Proofs.YtnebjbgcibjohaaGreat.K
open Go.RowKit Go.Rill Go.Proofs
set_option linter.unusedVariables false
set_option linter.unusedSimpArgs false
abbrev fwR : Rec := fR 0 18 32 4 [] []
def fwA : AD := fmtA (AD.new 579) (fB0 0 18 32 4 []) (fB2 0 18 32 4 [] [])
theorem fw_ref : refZ (AD.new 579).n 0 18 32 4 = 0 := by
  show refZ 579 0 18 32 4 = 0
  decide
theorem fw_ok : fmtF (AD.new 579) 0 [] [] 18 32 4 = ⟨0, fwA, 2097152, fKs2 0 18 32 4 [] [], textKs [] (fB0 0 18 32 4 [])⟩ := fmt_ok rfl rfl (by decide) fw_ref
theorem fw_ks1 : (fKs2 0 18 32 4 [] []).length ≤ 2 := Nat.le_trans (sealKs_len _ _) (Nat.succ_le_succ (sealKs_len _ _))
theorem fw_ks : (fKs2 0 18 32 4 [] []).length ≤ 1099511627776 := Nat.le_trans fw_ks1 (by decide)
theorem textKs_len (ts : List (List UInt8)) (l : List UInt8) : (textKs ts l).length ≤ ts.length + 1 := by
  unfold textKs
  split <;> simp
theorem fw_ts : (textKs [] (fB0 0 18 32 4 [])).length ≤ 1 := textKs_len _ _
theorem fw_read {j : Nat} (hj : j < 579) : fwA.read j = if j = 2 then fB2 0 18 32 4 [] [] else if j = 0 then fB0 0 18 32 4 [] else [] := by
  unfold fwA
  rw [fmtA_read rfl rfl (show (List.replicate 579 ([] : List UInt8)).length = 579 from List.length_replicate ..) hj, new_read]
theorem fw_all : allL fwA (fKs2 0 18 32 4 [] []) 2 = [fwR] := by
  have e1 : oneX fwA (fKs2 0 18 32 4 [] []) 1 = (Rec.zero, false) := one_nil (by rw [fw_read (by decide), if_neg (by decide), if_neg (by decide)])
  have e2 : oneX fwA (fKs2 0 18 32 4 [] []) 2 = (fwR, true) := fmt_one (n := 579) (by decide) (by decide) (by rw [fw_read (by decide), if_pos rfl])
  rw [allL_yes (by rw [one_bumps, e2]), allL_no (by rw [one_bumps, e1]), one_bumps, e2]
  rfl
theorem bumps_off (A : AD) : ∀ i, (bumps A i).off = A.off
  | 0 => rfl
  | i + 1 => bumps_off A i
theorem fwA_n : fwA.n = 579 := (fmtA_eq (A := AD.new 579) rfl rfl).1
theorem fwA_off : fwA.off = false := (fmtA_eq (A := AD.new 579) rfl rfl).2.1
theorem arm_n (A : AD) : (A.arm 2).n = A.n := rfl
theorem arm_off (A : AD) : (A.arm 2).off = A.off := rfl
theorem arm_armed (A : AD) : (A.arm 2).armed = true := rfl
theorem arm_left (A : AD) : (A.arm 2).left = 2 := rfl
/-- Cut off behind its second step. -/
theorem fw_cut (ks : List NKey) (ts : List (List UInt8)) : ∃ A4, (fmtF ((bumps fwA 2).arm 2) 2097152 ks ts 18 32 4).err = 12 ∧ (fmtF ((bumps fwA 2).arm 2) 2097152 ks ts 18 32 4).v = 2097153 ∧ (fmtF ((bumps fwA 2).arm 2) 2097152 ks ts 18 32 4).A = A4 := by
  obtain ⟨A, hA⟩ : ∃ A, A = (bumps fwA 2).arm 2 := ⟨_, rfl⟩
  have hn : A.n = 579 := (congrArg AD.n hA).trans ((arm_n (bumps fwA 2)).trans ((bumps_n fwA 2).trans fwA_n))
  have h0 : A.off = false := (congrArg AD.off hA).trans ((arm_off (bumps fwA 2)).trans ((bumps_off fwA 2).trans fwA_off))
  have ha : A.armed = true := (congrArg AD.armed hA).trans (arm_armed (bumps fwA 2))
  have hl : A.left = 2 := (congrArg AD.left hA).trans (arm_left (bumps fwA 2))
  rw [← hA]
  have hr : refZ A.n 2097152 18 32 4 = 0 := hn ▸ (by decide +kernel : refZ 579 2097152 18 32 4 = 0)
  have g0 : A.go := ⟨h0, by rw [hl]; simp⟩
  have r1 : raiseA A 2097152 (2097152 + 1) = (0, A.tick, 2097152 + 1) := raise_ok g0 (by decide) (by decide)
  have hl1 : A.tick.left = 1 := by show w64 (A.left - 1) = 1; rw [hl]; decide
  have g1 : A.tick.go := ⟨h0, by rw [hl1]; simp⟩
  have w0 : A.tick.write 0 (fB0 2097152 18 32 4 ks) = (0, A.tick.put 0 (fB0 2097152 18 32 4 ks)) := write_ok g1 (there_of (A := A.tick) rfl hr (by decide) (by decide)) (sectB_small _ _ _ _ _ (by rw [geoB_len]; decide))
  have s1 : superW A.tick ks ts (fE 2097152) 18 32 4 = ⟨0, A.tick.put 0 (fB0 2097152 18 32 4 ks), fKs1 2097152 18 32 4 ks, textKs ts (fB0 2097152 18 32 4 ks), fSum 2097152 18 32 4 ks ts⟩ := by
    rw [superW_s (by decide) (by rw [w0]), w0]
  have hl2 : (A.tick.put 0 (fB0 2097152 18 32 4 ks)).left = 0 := by show w64 (A.tick.left - 1) = 0; rw [hl1]; decide
  have w2 : (A.tick.put 0 (fB0 2097152 18 32 4 ks)).write 2 (fB2 2097152 18 32 4 ks ts) = (12, { A.tick.put 0 (fB0 2097152 18 32 4 ks) with off := true }) := write_cut h0 ha hl2 (there_of (A := A.tick.put 0 (fB0 2097152 18 32 4 ks)) rfl hr (by decide) (by decide)) (sectB_small _ _ _ _ _ (by rw [Rec.bytes_len fR_ok]; decide))
  have r2 : (regW (A.tick.put 0 (fB0 2097152 18 32 4 ks)) (fKs1 2097152 18 32 4 ks) (fR 2097152 18 32 4 ks ts) 1).1 = 12 := by
    rw [regW_w fR_ok (fR_may (by decide) hr) (by decide) (by decide)]
    show (AD.write _ 2 (fB2 2097152 18 32 4 ks ts)).1 = 12
    rw [w2]
  have e1 : fmtF A 2097152 ks ts 18 32 4 = fm2 A.tick (2097152 + 1) (fE 2097152) ks ts 18 32 4 := by rw [fmtF_go hr, fm1_ok (by rw [r1]), r1]
  have e2 : fm2 A.tick (2097152 + 1) (fE 2097152) ks ts 18 32 4 = fm3 (A.tick.put 0 (fB0 2097152 18 32 4 ks)) (2097152 + 1) (fE 2097152) (fKs1 2097152 18 32 4 ks) (textKs ts (fB0 2097152 18 32 4 ks)) (fSum 2097152 18 32 4 ks ts) := by rw [fm2_ok (by rw [s1]), s1]
  rw [e1, e2, fm3_no (by rw [r2]; decide)]
  exact ⟨_, r2, rfl, rfl⟩
set_option maxRecDepth 100000 in
theorem worksF_c (w0 : World) : Gives Tryz.prog 8 [] w0 (.bool true) := by
  refine enter (n := 72) Tryz.func8 rfl rfl rfl ?_
  intro fr E
  have M : Mem w0 (feet []) [] (fun _ => True) w0 := Mem.begin (Has.nil w0) (fun _ _ => trivial)
  refine code_region ?_
  refine sw E (run_assignC rfl) fun fr E => ?_
  refine seq_nil' ?_
  refine code_region ?_
  refine sgive E M rfl rfl rfl rfl rfl (run_call rfl rfl T.fn27) (Small_x) fun fr w M E => ?_
  refine snew (ob := .cells #[_, _, _] 35) (fun g => .pointer (some ⟨g, 0, none⟩)) E M rfl rfl rfl rfl rfl (run_allocN rfl T.zero35) fun g0 fr w M E => ?_
  refine sset (i := 0) (cs' := #[.int .i64 18, .int .i64 32, .int .i64 4]) E M rfl rfl rfl rfl rfl (run_storeAll (vs := #[.int .i64 18, .int .i64 32, .int .i64 4]) rfl rfl rfl T.size35 (rfl) (M.row (i := 0) rfl) rfl (by simp [Value.oneCell'])) rfl fun fr w M E => ?_
  refine seq_nil' ?_
  refine code_region ?_
  refine sw (v := .agg #[.int .i64 18, .int .i64 32, .int .i64 4]) E (run_loadAll rfl rfl T.agg35 (M.row (i := 0) rfl) rfl) fun fr E => ?_
  refine sgive E M rfl rfl rfl rfl rfl (run_call rfl rfl T.fn17) ((Sectors_ok (s := 18) (l := 32) (b := 4) (by decide))) fun fr w M E => ?_
  refine scall E M rfl rfl rfl rfl rfl (run_call rfl rfl T.fn6) (dNew_ok (k := 579) (by decide) (by decide)) rfl ?_
  rintro D0 fr w hD0 M E
  refine mv E fun fr E => ?_
  refine sw E (run_extract rfl rfl rfl) fun fr E => ?_
  refine sw E (run_extract rfl rfl rfl) fun fr E => ?_
  refine ma E fun fr E => ?_
  refine ma E fun fr E => ?_
  refine seq_nil' ?_
  refine wp_seq ?_
  refine code_region ?_
  refine mv E fun fr E => ?_
  refine sw (v := .bool false) E (tst rfl (rfl)) fun fr E => ?_
  refine seq_nil' ?_
  refine cond_false E rfl (rfl) ?_
  refine wp_skip ?_
  refine then_normal ?_
  refine code_region ?_
  refine mv E fun fr E => ?_
  refine scall E M rfl rfl rfl rfl rfl (run_call rfl rfl T.fn9) (cNew_x (g := D0.gd)) rfl ?_
  rintro gk fr w - M E
  refine ma E fun fr E => ?_
  refine seq_nil' ?_
  refine code_region ?_
  refine scall E M rfl rfl rfl rfl rfl (run_call rfl rfl T.fn10) (nNew_x _) rfl ?_
  rintro N0 fr w ⟨hk0, ht0⟩ M E
  refine ma E fun fr E => ?_
  refine seq_nil' ?_
  refine code_region ?_
  refine mv E fun fr E => ?_
  refine mv E fun fr E => ?_
  refine mv E fun fr E => ?_
  refine sw E (rfl) fun fr E => ?_
  refine sw (v := .agg #[.int .i64 18, .int .i64 32, .int .i64 4]) E (run_loadAll rfl rfl T.agg35 (M.row (i := 3) rfl) rfl) fun fr E => ?_
  have M := M.pull 1 rfl
  have M := M.pull 1 rfl
  have M := M.pull 2 rfl
  refine scallI ([dkE D0, nmE N0, cE D0.gd gk 0]) E M rfl rfl rfl rfl rfl (run_call rfl rfl T.fn20) rfl (fun H => Format_y (g := D0.gd) (gk := gk) (A := AD.new 579) (v := 0) (s := 18) (l := 32) (b := 4) H hD0 (by rw [hk0]; decide) (by rw [ht0]; decide) (by decide) (by decide) rfl) ?_
  rintro ⟨D1, N1⟩ fr w ⟨hD1, hg1, hk1, ht1⟩ M E
  rw [hk0, ht0] at hD1 hk1 ht1 M E
  rw [fw_ok] at hD1 hk1 ht1 M E
  refine ma E fun fr E => ?_
  refine seq_nil' ?_
  refine code_region ?_
  refine mv E fun fr E => ?_
  refine mv E fun fr E => ?_
  refine sw E (rfl) fun fr E => ?_
  refine scallI ([dkE D1, nmE N1]) E M rfl rfl rfl rfl rfl (run_call rfl rfl T.fn26) rfl (fun H => All_y (g := D0.gd) (A := fwA) (N := N1) H hD1 (by rw [hk1]; exact fw_ks) (by decide) hg1) ?_
  rintro ⟨al, D2⟩ fr w hD2 M E
  rw [hk1, fw_all] at M
  refine ma E fun fr E => ?_
  refine seq_nil' ?_
  refine code_region ?_
  refine mv E fun fr E => ?_
  have M := M.pull 1 rfl
  refine scallI ([dkE D2]) E M rfl rfl rfl rfl rfl (run_call rfl rfl T.fn28) rfl (fun H => Arm_a H hD2 2) ?_
  rintro D3 fr w hD3 M E
  refine seq_nil' ?_
  refine code_region ?_
  refine mv E fun fr E => ?_
  refine mv E fun fr E => ?_
  refine mv E fun fr E => ?_
  refine sw E (rfl) fun fr E => ?_
  refine sw (v := .agg #[.int .i64 18, .int .i64 32, .int .i64 4]) E (run_loadAll rfl rfl T.agg35 (M.row (i := 4) rfl) rfl) fun fr E => ?_
  have M := M.pull 3 rfl
  have M := M.pull 3 rfl
  have M := M.pull 2 rfl
  refine scallI ([dkE D3, nmE N1, cE D0.gd gk 2097152]) E M rfl rfl rfl rfl rfl (run_call rfl rfl T.fn20) rfl (fun H => Format_y (g := D0.gd) (gk := gk) (v := 2097152) (s := 18) (l := 32) (b := 4) H hD3 (by rw [hk1]; exact Nat.le_trans (Nat.add_le_add_right fw_ks1 2) (by decide)) (by rw [ht1]; exact Nat.le_trans (Nat.add_le_add_right fw_ts 2) (by decide)) (by decide) (by decide) hg1) ?_
  rintro ⟨D4, N4⟩ fr w ⟨hD4, hg4, hk4, ht4⟩ M E
  obtain ⟨A4, hf⟩ := fw_cut N1.ks N1.ts
  rw [hf.1] at E
  rw [hf.2.1] at M
  refine ma E fun fr E => ?_
  refine seq_nil' ?_
  refine code_region ?_
  refine mv E fun fr E => ?_
  refine scallI ([dkE D4]) E M rfl rfl rfl rfl rfl (run_call rfl rfl T.fn23) rfl (fun H => Crash_b H hD4 (.inl ⟨Reads.nil _ _, fun g hg => by cases hg⟩ : FarI _ _ (.slice none 0 0) [])) ?_
  rintro D5 fr w hD5 M E
  refine seq_nil' ?_
  refine code_region ?_
  refine mv E fun fr E => ?_
  refine sgive E M rfl rfl rfl rfl rfl (run_call rfl rfl T.fn11) (cValue_x (g := D0.gd) (M.row (i := 2) rfl)) fun fr w M E => ?_
  refine ma E fun fr E => ?_
  refine seq_nil' ?_
  refine code_region ?_
  refine mv E fun fr E => ?_
  refine sw (v := .bool true) E (tst rfl (rfl)) fun fr E => ?_
  refine mv E fun fr E => ?_
  refine mv E fun fr E => ?_
  refine sw (v := .bool true) E (tst rfl (rfl)) fun fr E => ?_
  refine sw (v := .bool _) E (rfl) fun fr E => ?_
  refine mv E fun fr E => ?_
  refine mv E fun fr E => ?_
  refine sw (v := .int .i64 _) E (run_lenR rfl rfl rfl rfl T.slice65 (M.reads 3 rfl)) fun fr E => ?_
  refine sw (v := .bool true) E (tst rfl (rfl)) fun fr E => ?_
  refine sw (v := .bool _) E (rfl) fun fr E => ?_
  refine mv E fun fr E => ?_
  refine mv E fun fr E => ?_
  refine sw (v := cellAt al (0 * 136)) E (run_indexR (i := 0) rfl (M.reads 3 rfl) rfl rfl (rfl) (by simp) T.slice65 T.size62) fun fr E => ?_
  refine sw (v := cellAt al (0 * 136 + 1)) E (run_fieldAddrR rfl (M.reads 3 rfl) rfl T.fld62_1 (by simp)) fun fr E => ?_
  refine sw (v := .int .i64 2) E (run_loadR rfl (M.reads 3 rfl) rfl T.one3 (rcs_stamp (l := [fwR]) (k := 0) (fun r hr => by rw [List.mem_singleton.1 hr]; exact fR_ok) (by simp))) fun fr E => ?_
  refine sw (v := .bool true) E (tst rfl (rfl)) fun fr E => ?_
  refine sw (v := .bool _) E (rfl) fun fr E => ?_
  refine mv E fun fr E => ?_
  refine mv E fun fr E => ?_
  refine sgive E M rfl rfl rfl rfl rfl (run_call rfl rfl T.fn14) (Level_x (by decide)) fun fr w M E => ?_
  refine sw (v := .bool true) E (tst rfl (rfl)) fun fr E => ?_
  refine sw (v := .bool _) E (rfl) fun fr E => ?_
  refine mv E fun fr E => ?_
  refine mv E fun fr E => ?_
  refine sgive E M rfl rfl rfl rfl rfl (run_call rfl rfl T.fn15) (Tries_x (by decide) (by decide)) fun fr w M E => ?_
  refine sw (v := .bool true) E (tst rfl (rfl)) fun fr E => ?_
  refine sw (v := .bool _) E (rfl) fun fr E => ?_
  refine ma E fun fr E => ?_
  refine seq_nil' ?_
  refine wp_ret ?_
  refine ret1 E rfl rfl ?_
  exact given M
end Go.Proofs.YtnebjbgcibjohaaGreat.K
end
section
namespace Go.Proofs.YtnebjbgcibjohaaGreat.K
open Go.RowKit Go.Rill Go.Proofs
set_option linter.unusedVariables false
set_option linter.unusedSimpArgs false
def LongF (l : List OpF) : Prop := 60 < l.length ∨ ∃ o ∈ l, 100 < o.ll.length ∨ 2048 < o.dl.length
instance (l : List OpF) : Decidable (LongF l) := by unfold LongF; infer_instance
/-- What an operation answers, and leaves. -/
def runF (A : AD) (v : Int) (ks : List NKey) (ts : List (List UInt8)) (o : OpF) : FMR :=
  if o.k = 0 then fmtF A v ks ts o.a o.b o.c else if o.k = 1 then ⟨0, A.arm o.n, v, ks, ts⟩ else if o.k = 2 then ⟨0, A.crash o.ll, v, ks, ts⟩
  else if o.k = 4 then ⟨(A.tamper o.n o.dl).1, (A.tamper o.n o.dl).2, v, ks, ts⟩ else ⟨0, A, v, ks, ts⟩
section
variable {A : AD} {v : Int} {ks : List NKey} {ts : List (List UInt8)} {o : OpF}
theorem runF_0' (h : o.k = 0) : runF A v ks ts o = fmtF A v ks ts o.a o.b o.c := if_pos h
theorem runF_1' (h : o.k = 1) : runF A v ks ts o = ⟨0, A.arm o.n, v, ks, ts⟩ := by unfold runF; rw [if_neg (by omega), if_pos h]
theorem runF_2' (h : o.k = 2) : runF A v ks ts o = ⟨0, A.crash o.ll, v, ks, ts⟩ := by unfold runF; rw [if_neg (by omega), if_neg (by omega), if_pos h]
theorem runF_4' (h : o.k = 4) : runF A v ks ts o = ⟨(A.tamper o.n o.dl).1, (A.tamper o.n o.dl).2, v, ks, ts⟩ := by unfold runF; rw [if_neg (by omega), if_neg (by omega), if_neg (by omega), if_pos h]
theorem runF_5' (h0 : ¬ o.k = 0) (h1 : ¬ o.k = 1) (h2 : ¬ o.k = 2) (h4 : ¬ o.k = 4) : runF A v ks ts o = ⟨0, A, v, ks, ts⟩ := by unfold runF; rw [if_neg h0, if_neg h1, if_neg h2, if_neg h4]
end
set_option maxRecDepth 100000 in
theorem longF_60 {a : Value} {l : List OpF} {F : Nat → Prop} {w0 : World} (ha : OpsF w0 F a l) (hav : ∀ g, a.ownBlock = some g → ¬ F g) (h : 60 < l.length) : Gives Tryz.prog 7 [a] w0 (.bool (decide (LongF l))) := by
  refine enter (n := 29) Tryz.func7 rfl rfl rfl ?_
  intro fr E
  have M : Mem w0 (feet []) [] (fun w' => OpsF w' F a l) w0 := Mem.begin (Has.nil w0) (fun w' h => OpsF.held ha ⟨h.size, fun g hg _ => h.block g hg feet_nil⟩ hav)
  refine code_region ?_
  refine sw E (run_assignC rfl) fun fr E => ?_
  refine seq_nil' ?_
  refine wp_seq ?_
  refine code_region ?_
  refine mv E fun fr E => ?_
  refine sw (v := .int .i64 _) E (run_lenR rfl rfl rfl rfl T.slice22 (M.fact).1) fun fr E => ?_
  refine sw (v := .bool true) E (tst rfl (decide_eq_true (by omega))) fun fr E => ?_
  refine seq_nil' ?_
  refine cond_true E rfl (rfl) ?_
  refine code_region ?_
  refine sw E (run_assignC rfl) fun fr E => ?_
  refine seq_nil' ?_
  refine wp_ret ?_
  refine then_ret ?_
  refine ret1 E rfl rfl ?_
  rw [decide_eq_true (show LongF l from .inl h)]
  exact given M

set_option maxRecDepth 100000 in
theorem longF_in {a : Value} {l : List OpF} {F : Nat → Prop} {w0 : World} (ha : OpsF w0 F a l) (hav : ∀ g, a.ownBlock = some g → ¬ F g) (h : ¬ 60 < l.length) : Gives Tryz.prog 7 [a] w0 (.bool (decide (LongF l))) := by
  refine enter (n := 29) Tryz.func7 rfl rfl rfl ?_
  intro fr E
  have M : Mem w0 (feet []) [] (fun w' => OpsF w' F a l) w0 := Mem.begin (Has.nil w0) (fun w' h => OpsF.held ha ⟨h.size, fun g hg _ => h.block g hg feet_nil⟩ hav)
  refine code_region ?_
  refine sw E (run_assignC rfl) fun fr E => ?_
  refine seq_nil' ?_
  refine wp_seq ?_
  refine code_region ?_
  refine mv E fun fr E => ?_
  refine sw (v := .int .i64 _) E (run_lenR rfl rfl rfl rfl T.slice22 (M.fact).1) fun fr E => ?_
  refine sw (v := .bool false) E (tst rfl (decide_eq_false (by omega))) fun fr E => ?_
  refine seq_nil' ?_
  refine cond_false E rfl (rfl) ?_
  refine wp_skip ?_
  refine then_normal ?_
  refine wp_seq ?_
  refine code_region ?_
  refine sw E (run_assignC rfl) fun fr E => ?_
  refine seq_nil' ?_
  refine wp_block ?_
  refine loop_dec (fun d fr w => ∃ i : Nat, d = l.length - i ∧ i ≤ l.length ∧ (∀ j, j < i → ∀ hj : j < l.length, ¬ (100 < (l[j]).ll.length ∨ 2048 < (l[j]).dl.length)) ∧ Env [(3, .int .i64 i), (0, a)] 29 fr ∧ Mem w0 (feet []) [] (fun w' => OpsF w' F a l) w) (l.length) ?_ ?_
  · exact ⟨0, rfl, Nat.zero_le _, fun j hj => absurd hj (by omega), ((Env.nil E).add E (t := 0) rfl).add E (t := 3) rfl, M⟩
  · clear E M
    rintro d fr w ⟨i, rfl, hle, hno, E, M⟩
    by_cases hi : i < l.length
    · obtain ⟨b1, c1, e1⟩ := (M.fact.2 _ (List.getElem_mem hi)).1.slice
      obtain ⟨b2, c2, e2⟩ := (M.fact.2 _ (List.getElem_mem hi)).2.slice
      by_cases h1 : 100 < (l[i]).ll.length
      · refine wp_seq ?_
        refine code_region ?_
        refine mv E fun fr E => ?_
        refine mv E fun fr E => ?_
        refine sw (v := .int .i64 _) E (run_lenR rfl rfl rfl rfl T.slice22 (M.fact).1) fun fr E => ?_
        refine sw (v := .bool true) E (tst rfl (decide_eq_true (by omega))) fun fr E => ?_
        refine seq_nil' ?_
        refine cond_true E rfl (rfl) ?_
        refine wp_skip ?_
        refine then_normal ?_
        refine wp_seq ?_
        refine wp_block ?_
        refine code_region ?_
        refine mv E fun fr E => ?_
        refine mv E fun fr E => ?_
        refine sw (v := cellAt a (i * 7)) E (run_indexR (i := i) rfl (M.fact).1 rfl rfl (rfl) (hi) T.slice22 T.size38) fun fr E => ?_
        refine sw E (run_fieldAddrR rfl (M.fact).1 rfl T.fld38_3 (by omega)) fun fr E => ?_
        refine sw (v := .slice b2 (l[i]).ll.length c2) E (run_loadR rfl (M.fact).1 rfl T.one33 (by rw [fcs_l hi, e2])) fun fr E => ?_
        refine sw (v := .int .i64 _) E (run_len rfl rfl rfl rfl T.slice33) fun fr E => ?_
        refine sw (v := .bool true) E (tst rfl (decide_eq_true (by omega))) fun fr E => ?_
        refine mv E fun fr E => ?_
        refine sno E rfl rfl rfl rfl fun fr E => ?_
        refine sno E rfl rfl rfl rfl fun fr E => ?_
        refine sno E rfl rfl rfl rfl fun fr E => ?_
        refine sno E rfl rfl rfl rfl fun fr E => ?_
        refine sno E rfl rfl rfl rfl fun fr E => ?_
        refine sno E rfl rfl rfl rfl fun fr E => ?_
        refine sno E rfl rfl rfl rfl fun fr E => ?_
        refine sw (v := .bool _) E (rfl) fun fr E => ?_
        refine seq_nil' ?_
        refine cond_true E rfl (rfl) ?_
        refine code_region ?_
        refine sw E (run_assignC rfl) fun fr E => ?_
        refine seq_nil' ?_
        refine wp_ret ?_
        refine block_ret ?_
        refine then_ret ?_
        refine then_ret ?_
        refine block_ret ?_
        refine then_ret ?_
        refine ret1 E rfl rfl ?_
        rw [decide_eq_true (show LongF l from .inr ⟨l[i], List.getElem_mem hi, by omega⟩)]
        exact given M
      · by_cases h2 : 2048 < (l[i]).dl.length
        · refine wp_seq ?_
          refine code_region ?_
          refine mv E fun fr E => ?_
          refine mv E fun fr E => ?_
          refine sw (v := .int .i64 _) E (run_lenR rfl rfl rfl rfl T.slice22 (M.fact).1) fun fr E => ?_
          refine sw (v := .bool true) E (tst rfl (decide_eq_true (by omega))) fun fr E => ?_
          refine seq_nil' ?_
          refine cond_true E rfl (rfl) ?_
          refine wp_skip ?_
          refine then_normal ?_
          refine wp_seq ?_
          refine wp_block ?_
          refine code_region ?_
          refine mv E fun fr E => ?_
          refine mv E fun fr E => ?_
          refine sw (v := cellAt a (i * 7)) E (run_indexR (i := i) rfl (M.fact).1 rfl rfl (rfl) (hi) T.slice22 T.size38) fun fr E => ?_
          refine sw E (run_fieldAddrR rfl (M.fact).1 rfl T.fld38_3 (by omega)) fun fr E => ?_
          refine sw (v := .slice b2 (l[i]).ll.length c2) E (run_loadR rfl (M.fact).1 rfl T.one33 (by rw [fcs_l hi, e2])) fun fr E => ?_
          refine sw (v := .int .i64 _) E (run_len rfl rfl rfl rfl T.slice33) fun fr E => ?_
          refine sw (v := .bool false) E (tst rfl (decide_eq_false (by omega))) fun fr E => ?_
          refine mv E fun fr E => ?_
          refine mv E fun fr E => ?_
          refine mv E fun fr E => ?_
          refine sw (v := cellAt a (i * 7)) E (run_indexR (i := i) rfl (M.fact).1 rfl rfl (rfl) (hi) T.slice22 T.size38) fun fr E => ?_
          refine sw E (run_fieldAddrR rfl (M.fact).1 rfl T.fld38_4 (by omega)) fun fr E => ?_
          refine sw (v := .slice b1 (l[i]).dl.length c1) E (run_loadR rfl (M.fact).1 rfl T.one36 (by rw [fcs_d hi, e1])) fun fr E => ?_
          refine sw (v := .int .i64 _) E (run_len rfl rfl rfl rfl T.slice36) fun fr E => ?_
          refine sw (v := .bool true) E (tst rfl (decide_eq_true (by omega))) fun fr E => ?_
          refine sw (v := .bool _) E (rfl) fun fr E => ?_
          refine seq_nil' ?_
          refine cond_true E rfl (rfl) ?_
          refine code_region ?_
          refine sw E (run_assignC rfl) fun fr E => ?_
          refine seq_nil' ?_
          refine wp_ret ?_
          refine block_ret ?_
          refine then_ret ?_
          refine then_ret ?_
          refine block_ret ?_
          refine then_ret ?_
          refine ret1 E rfl rfl ?_
          rw [decide_eq_true (show LongF l from .inr ⟨l[i], List.getElem_mem hi, by omega⟩)]
          exact given M
        · refine wp_seq ?_
          refine code_region ?_
          refine mv E fun fr E => ?_
          refine mv E fun fr E => ?_
          refine sw (v := .int .i64 _) E (run_lenR rfl rfl rfl rfl T.slice22 (M.fact).1) fun fr E => ?_
          refine sw (v := .bool true) E (tst rfl (decide_eq_true (by omega))) fun fr E => ?_
          refine seq_nil' ?_
          refine cond_true E rfl (rfl) ?_
          refine wp_skip ?_
          refine then_normal ?_
          refine wp_seq ?_
          refine wp_block ?_
          refine code_region ?_
          refine mv E fun fr E => ?_
          refine mv E fun fr E => ?_
          refine sw (v := cellAt a (i * 7)) E (run_indexR (i := i) rfl (M.fact).1 rfl rfl (rfl) (hi) T.slice22 T.size38) fun fr E => ?_
          refine sw E (run_fieldAddrR rfl (M.fact).1 rfl T.fld38_3 (by omega)) fun fr E => ?_
          refine sw (v := .slice b2 (l[i]).ll.length c2) E (run_loadR rfl (M.fact).1 rfl T.one33 (by rw [fcs_l hi, e2])) fun fr E => ?_
          refine sw (v := .int .i64 _) E (run_len rfl rfl rfl rfl T.slice33) fun fr E => ?_
          refine sw (v := .bool false) E (tst rfl (decide_eq_false (by omega))) fun fr E => ?_
          refine mv E fun fr E => ?_
          refine mv E fun fr E => ?_
          refine mv E fun fr E => ?_
          refine sw (v := cellAt a (i * 7)) E (run_indexR (i := i) rfl (M.fact).1 rfl rfl (rfl) (hi) T.slice22 T.size38) fun fr E => ?_
          refine sw E (run_fieldAddrR rfl (M.fact).1 rfl T.fld38_4 (by omega)) fun fr E => ?_
          refine sw (v := .slice b1 (l[i]).dl.length c1) E (run_loadR rfl (M.fact).1 rfl T.one36 (by rw [fcs_d hi, e1])) fun fr E => ?_
          refine sw (v := .int .i64 _) E (run_len rfl rfl rfl rfl T.slice36) fun fr E => ?_
          refine sw (v := .bool false) E (tst rfl (decide_eq_false (by omega))) fun fr E => ?_
          refine sw (v := .bool _) E (rfl) fun fr E => ?_
          refine seq_nil' ?_
          refine cond_false E rfl (rfl) ?_
          refine wp_skip ?_
          refine block_normal ?_
          refine then_normal ?_
          refine code_last ?_
          refine mv E fun fr E => ?_
          refine sw (v := .int _ (((i + 1 : Nat) : Int))) E (num rfl ((i64_id (by omega) (by omega)).trans (by omega))) fun fr E => ?_
          refine ma E fun fr E => ?_
          refine seq_nil ?_
          refine then_any ?_
          refine ⟨l.length - (i + 1), by omega, i + 1, rfl, by omega, fun j hj hj2 => ?_, ((Env.nil E).add E (t := 0) rfl).add E (t := 3) rfl, M⟩
          rcases Nat.lt_or_eq_of_le (Nat.le_of_lt_succ hj) with h | rfl
          · exact hno j h hj2
          · omega
    · obtain rfl : i = l.length := by omega
      refine wp_seq ?_
      refine code_region ?_
      refine mv E fun fr E => ?_
      refine mv E fun fr E => ?_
      refine sw (v := .int .i64 _) E (run_lenR rfl rfl rfl rfl T.slice22 (M.fact).1) fun fr E => ?_
      refine sw (v := .bool false) E (tst rfl (decide_eq_false (by omega))) fun fr E => ?_
      refine seq_nil' ?_
      refine cond_false E rfl (rfl) ?_
      refine wp_exit ?_
      refine then_exit ?_
      refine then_exit ?_
      refine block_exit ?_
      refine then_normal ?_
      refine code_region ?_
      refine sw E (run_assignC rfl) fun fr E => ?_
      refine seq_nil' ?_
      refine wp_ret ?_
      refine ret1 E rfl rfl ?_
      rw [decide_eq_false (show ¬ LongF l from fun c => c.elim (fun c => by omega) fun ⟨o, hm, hc⟩ => by obtain ⟨j, hj, rfl⟩ := List.getElem_of_mem hm; exact hno j hj hj hc)]
      exact given M

theorem longF_x {a : Value} {l : List OpF} {F : Nat → Prop} {w0 : World} (ha : OpsF w0 F a l) (hav : ∀ g, a.ownBlock = some g → ¬ F g) : Gives Tryz.prog 7 [a] w0 (.bool (decide (LongF l))) := by
  by_cases h : 60 < l.length
  · exact longF_60 ha hav h
  · exact longF_in ha hav h

set_option maxRecDepth 100000 in
theorem runF_0 {D : DV} {N : NV} {g gk : Nat} {A : AD} {v : Int} {o : OpF} {w0 : World} (H : Has w0 [dkE D, nmE N, cE g gk v]) (hD : D.is g A) (hkz : N.ks.length + 2 ≤ 1099511627776) (htz : N.ts.length + 2 ≤ 1099511627776) (hv : 0 ≤ v) (hv2 : v ≤ 1152921504606846976) (hdb : FarB w0 (feet [dkE D, nmE N, cE g gk v]) o.dv o.dl) (hli : FarI w0 (feet [dkE D, nmE N, cE g gk v]) o.lv o.ll) (hk : o.k = 0) : Does Tryz.prog 13 [.pointer (some ⟨g, 0, none⟩), .pointer (some ⟨gk, 0, none⟩), .iface 31 (.pointer (some ⟨N.gn, 0, none⟩)), .agg o.cells.toArray] w0 [dkE D, nmE N, cE g gk v] (fun _ : DV × NV => .int .i64 (fmtF A v N.ks N.ts o.a o.b o.c).err) (fun x => [dkE x.1, nmE x.2, cE g gk (fmtF A v N.ks N.ts o.a o.b o.c).v]) (fun x => x.1.is g (fmtF A v N.ks N.ts o.a o.b o.c).A ∧ x.2.gn = N.gn ∧ x.2.ks = (fmtF A v N.ks N.ts o.a o.b o.c).ks ∧ x.2.ts = (fmtF A v N.ks N.ts o.a o.b o.c).ts) := by
  refine enter (n := 45) Tryz.func13 rfl rfl rfl ?_
  intro fr E
  have M : Mem w0 (feet [dkE D, nmE N, cE g gk v]) [dkE D, nmE N, cE g gk v] (fun w' => FarB w' (feet [dkE D, nmE N, cE g gk v]) o.dv o.dl ∧ FarI w' (feet [dkE D, nmE N, cE g gk v]) o.lv o.ll) w0 := Mem.begin H (fun w' h => ⟨hdb.held h, hli.held h⟩)
  refine code_region ?_
  refine snew (ob := .cells (o.cells.toArray) 38) (fun g => .pointer (some ⟨g, 0, none⟩)) E M rfl rfl rfl rfl rfl (run_boxN (cs := (o.cells.toArray)) rfl rfl) fun g0 fr w M E => ?_
  refine sw E (run_assignC rfl) fun fr E => ?_
  refine seq_nil' ?_
  refine wp_seq ?_
  refine code_region ?_
  refine sw (v := .pointer (some ⟨_, 0, none⟩)) E (run_fieldAddr rfl rfl T.fld38_0) fun fr E => ?_
  refine sw (v := .int .i64 _) E (run_loadB rfl rfl T.one3 (M.row (i := 0) rfl) rfl) fun fr E => ?_
  refine seq_nil' ?_
  refine wp_block ?_
  refine code_region ?_
  refine sw (v := .bool true) E (tst rfl (decide_eq_true hk)) fun fr E => ?_
  refine ma E fun fr E => ?_
  refine seq_nil' ?_
  refine cond_true E rfl (rfl) ?_
  refine code_region ?_
  refine mv E fun fr E => ?_
  refine mv E fun fr E => ?_
  refine mv E fun fr E => ?_
  refine sw (v := .pointer (some ⟨_, 2, none⟩)) E (run_fieldAddr rfl rfl T.fld38_2) fun fr E => ?_
  refine sw (v := .agg #[.int .i64 o.a, .int .i64 o.b, .int .i64 o.c]) E (run_loadN' rfl rfl T.agg35 (M.row (i := 0) rfl) rfl rfl) fun fr E => ?_
  have M := M.pull 3 rfl
  have M := M.pull 3 rfl
  have M := M.pull 3 rfl
  refine scallI ([dkE D, nmE N, cE g gk v]) E M rfl rfl rfl rfl rfl (run_call rfl rfl T.fn20) rfl (fun H => Format_y H hD hkz htz hv hv2 rfl) ?_
  rintro ⟨D1, N1⟩ fr w hx M E
  refine ma E fun fr E => ?_
  refine seq_nil' ?_
  refine wp_ret ?_
  refine block_ret ?_
  refine then_ret ?_
  refine ret1 E rfl rfl ?_
  have M := M.pull 2 rfl
  have M := M.pull 2 rfl
  have M := M.pull 2 rfl
  exact ⟨(D1, N1), rfl, Mem.fin (L := [dkE D1, nmE N1, cE g gk (fmtF A v N.ks N.ts o.a o.b o.c).v] ++ _) M (List.sublist_append_left _ _) ⟨hx.1, hx.2⟩⟩

set_option maxRecDepth 100000 in
theorem runF_1 {D : DV} {N : NV} {g gk : Nat} {A : AD} {v : Int} {o : OpF} {w0 : World} (H : Has w0 [dkE D, nmE N, cE g gk v]) (hD : D.is g A) (hkz : N.ks.length + 2 ≤ 1099511627776) (htz : N.ts.length + 2 ≤ 1099511627776) (hv : 0 ≤ v) (hv2 : v ≤ 1152921504606846976) (hdb : FarB w0 (feet [dkE D, nmE N, cE g gk v]) o.dv o.dl) (hli : FarI w0 (feet [dkE D, nmE N, cE g gk v]) o.lv o.ll) (hk : o.k = 1) : Does Tryz.prog 13 [.pointer (some ⟨g, 0, none⟩), .pointer (some ⟨gk, 0, none⟩), .iface 31 (.pointer (some ⟨N.gn, 0, none⟩)), .agg o.cells.toArray] w0 [dkE D, nmE N, cE g gk v] (fun _ : DV × NV => .int .i64 0) (fun x => [dkE x.1, nmE x.2, cE g gk v]) (fun x => x.1.is g (A.arm o.n) ∧ x.2.gn = N.gn ∧ x.2.ks = N.ks ∧ x.2.ts = N.ts) := by
  refine enter (n := 45) Tryz.func13 rfl rfl rfl ?_
  intro fr E
  have M : Mem w0 (feet [dkE D, nmE N, cE g gk v]) [dkE D, nmE N, cE g gk v] (fun w' => FarB w' (feet [dkE D, nmE N, cE g gk v]) o.dv o.dl ∧ FarI w' (feet [dkE D, nmE N, cE g gk v]) o.lv o.ll) w0 := Mem.begin H (fun w' h => ⟨hdb.held h, hli.held h⟩)
  refine code_region ?_
  refine snew (ob := .cells (o.cells.toArray) 38) (fun g => .pointer (some ⟨g, 0, none⟩)) E M rfl rfl rfl rfl rfl (run_boxN (cs := (o.cells.toArray)) rfl rfl) fun g0 fr w M E => ?_
  refine sw E (run_assignC rfl) fun fr E => ?_
  refine seq_nil' ?_
  refine wp_seq ?_
  refine code_region ?_
  refine sw (v := .pointer (some ⟨_, 0, none⟩)) E (run_fieldAddr rfl rfl T.fld38_0) fun fr E => ?_
  refine sw (v := .int .i64 _) E (run_loadB rfl rfl T.one3 (M.row (i := 0) rfl) rfl) fun fr E => ?_
  refine seq_nil' ?_
  refine wp_block ?_
  refine code_region ?_
  refine sw (v := .bool false) E (tst rfl (decide_eq_false (by omega))) fun fr E => ?_
  refine ma E fun fr E => ?_
  refine seq_nil' ?_
  refine cond_false E rfl (rfl) ?_
  refine code_region ?_
  refine sw (v := .bool true) E (tst rfl (decide_eq_true hk)) fun fr E => ?_
  refine ma E fun fr E => ?_
  refine seq_nil' ?_
  refine cond_true E rfl (rfl) ?_
  refine code_last ?_
  refine mv E fun fr E => ?_
  refine sw (v := .pointer (some ⟨_, 1, none⟩)) E (run_fieldAddr rfl rfl T.fld38_1) fun fr E => ?_
  refine sw (v := .int .i64 _) E (run_loadB rfl rfl T.one3 (M.row (i := 0) rfl) rfl) fun fr E => ?_
  have M := M.pull 1 rfl
  refine scallI ([dkE D]) E M rfl rfl rfl rfl rfl (run_call rfl rfl T.fn28) rfl (fun H => Arm_a H hD o.n) ?_
  rintro D1 fr w hD1 M E
  refine seq_nil ?_
  refine block_normal ?_
  refine then_normal ?_
  refine code_region ?_
  refine sw E (run_assignC rfl) fun fr E => ?_
  refine seq_nil' ?_
  refine wp_ret ?_
  refine ret1 E rfl rfl ?_
  have M := M.pull 3 rfl
  have M := M.pull 3 rfl
  have M := M.pull 2 rfl
  exact ⟨(D1, N), rfl, Mem.fin (L := [dkE D1, nmE N, cE g gk v] ++ _) M (List.sublist_append_left _ _) ⟨hD1, rfl, rfl, rfl⟩⟩

set_option maxRecDepth 100000 in
theorem runF_2 {D : DV} {N : NV} {g gk : Nat} {A : AD} {v : Int} {o : OpF} {w0 : World} (H : Has w0 [dkE D, nmE N, cE g gk v]) (hD : D.is g A) (hkz : N.ks.length + 2 ≤ 1099511627776) (htz : N.ts.length + 2 ≤ 1099511627776) (hv : 0 ≤ v) (hv2 : v ≤ 1152921504606846976) (hdb : FarB w0 (feet [dkE D, nmE N, cE g gk v]) o.dv o.dl) (hli : FarI w0 (feet [dkE D, nmE N, cE g gk v]) o.lv o.ll) (hk : o.k = 2) : Does Tryz.prog 13 [.pointer (some ⟨g, 0, none⟩), .pointer (some ⟨gk, 0, none⟩), .iface 31 (.pointer (some ⟨N.gn, 0, none⟩)), .agg o.cells.toArray] w0 [dkE D, nmE N, cE g gk v] (fun _ : DV × NV => .int .i64 0) (fun x => [dkE x.1, nmE x.2, cE g gk v]) (fun x => x.1.is g (A.crash o.ll) ∧ x.2.gn = N.gn ∧ x.2.ks = N.ks ∧ x.2.ts = N.ts) := by
  refine enter (n := 45) Tryz.func13 rfl rfl rfl ?_
  intro fr E
  have M : Mem w0 (feet [dkE D, nmE N, cE g gk v]) [dkE D, nmE N, cE g gk v] (fun w' => FarB w' (feet [dkE D, nmE N, cE g gk v]) o.dv o.dl ∧ FarI w' (feet [dkE D, nmE N, cE g gk v]) o.lv o.ll) w0 := Mem.begin H (fun w' h => ⟨hdb.held h, hli.held h⟩)
  refine code_region ?_
  refine snew (ob := .cells (o.cells.toArray) 38) (fun g => .pointer (some ⟨g, 0, none⟩)) E M rfl rfl rfl rfl rfl (run_boxN (cs := (o.cells.toArray)) rfl rfl) fun g0 fr w M E => ?_
  refine sw E (run_assignC rfl) fun fr E => ?_
  refine seq_nil' ?_
  refine wp_seq ?_
  refine code_region ?_
  refine sw (v := .pointer (some ⟨_, 0, none⟩)) E (run_fieldAddr rfl rfl T.fld38_0) fun fr E => ?_
  refine sw (v := .int .i64 _) E (run_loadB rfl rfl T.one3 (M.row (i := 0) rfl) rfl) fun fr E => ?_
  refine seq_nil' ?_
  refine wp_block ?_
  refine code_region ?_
  refine sw (v := .bool false) E (tst rfl (decide_eq_false (by omega))) fun fr E => ?_
  refine ma E fun fr E => ?_
  refine seq_nil' ?_
  refine cond_false E rfl (rfl) ?_
  refine code_region ?_
  refine sw (v := .bool false) E (tst rfl (decide_eq_false (by omega))) fun fr E => ?_
  refine ma E fun fr E => ?_
  refine seq_nil' ?_
  refine cond_false E rfl (rfl) ?_
  refine code_region ?_
  refine sw (v := .bool true) E (tst rfl (decide_eq_true hk)) fun fr E => ?_
  refine ma E fun fr E => ?_
  refine seq_nil' ?_
  refine cond_true E rfl (rfl) ?_
  refine code_last ?_
  refine mv E fun fr E => ?_
  refine sw (v := .pointer (some ⟨_, 5, none⟩)) E (run_fieldAddr rfl rfl T.fld38_3) fun fr E => ?_
  refine sw E (run_loadB rfl rfl T.one33 (M.row (i := 0) rfl) rfl) fun fr E => ?_
  have M := M.pull 1 rfl
  refine scallI ([dkE D]) E M rfl rfl rfl rfl rfl (run_call rfl rfl T.fn23) rfl (fun H => Crash_b H hD ((M.fact.2).less (fun g hg => ⟨dkE D, List.mem_cons_self .., hg⟩))) ?_
  rintro D1 fr w hD1 M E
  refine seq_nil ?_
  refine block_normal ?_
  refine then_normal ?_
  refine code_region ?_
  refine sw E (run_assignC rfl) fun fr E => ?_
  refine seq_nil' ?_
  refine wp_ret ?_
  refine ret1 E rfl rfl ?_
  have M := M.pull 3 rfl
  have M := M.pull 3 rfl
  have M := M.pull 2 rfl
  exact ⟨(D1, N), rfl, Mem.fin (L := [dkE D1, nmE N, cE g gk v] ++ _) M (List.sublist_append_left _ _) ⟨hD1, rfl, rfl, rfl⟩⟩

set_option maxRecDepth 100000 in
theorem runF_4 {D : DV} {N : NV} {g gk : Nat} {A : AD} {v : Int} {o : OpF} {w0 : World} (H : Has w0 [dkE D, nmE N, cE g gk v]) (hD : D.is g A) (hkz : N.ks.length + 2 ≤ 1099511627776) (htz : N.ts.length + 2 ≤ 1099511627776) (hv : 0 ≤ v) (hv2 : v ≤ 1152921504606846976) (hdb : FarB w0 (feet [dkE D, nmE N, cE g gk v]) o.dv o.dl) (hli : FarI w0 (feet [dkE D, nmE N, cE g gk v]) o.lv o.ll) (hk : o.k = 4) : Does Tryz.prog 13 [.pointer (some ⟨g, 0, none⟩), .pointer (some ⟨gk, 0, none⟩), .iface 31 (.pointer (some ⟨N.gn, 0, none⟩)), .agg o.cells.toArray] w0 [dkE D, nmE N, cE g gk v] (fun _ : DV × NV => .int .i64 (A.tamper o.n o.dl).1) (fun x => [dkE x.1, nmE x.2, cE g gk v]) (fun x => x.1.is g (A.tamper o.n o.dl).2 ∧ x.2.gn = N.gn ∧ x.2.ks = N.ks ∧ x.2.ts = N.ts) := by
  refine enter (n := 45) Tryz.func13 rfl rfl rfl ?_
  intro fr E
  have M : Mem w0 (feet [dkE D, nmE N, cE g gk v]) [dkE D, nmE N, cE g gk v] (fun w' => FarB w' (feet [dkE D, nmE N, cE g gk v]) o.dv o.dl ∧ FarI w' (feet [dkE D, nmE N, cE g gk v]) o.lv o.ll) w0 := Mem.begin H (fun w' h => ⟨hdb.held h, hli.held h⟩)
  refine code_region ?_
  refine snew (ob := .cells (o.cells.toArray) 38) (fun g => .pointer (some ⟨g, 0, none⟩)) E M rfl rfl rfl rfl rfl (run_boxN (cs := (o.cells.toArray)) rfl rfl) fun g0 fr w M E => ?_
  refine sw E (run_assignC rfl) fun fr E => ?_
  refine seq_nil' ?_
  refine wp_seq ?_
  refine code_region ?_
  refine sw (v := .pointer (some ⟨_, 0, none⟩)) E (run_fieldAddr rfl rfl T.fld38_0) fun fr E => ?_
  refine sw (v := .int .i64 _) E (run_loadB rfl rfl T.one3 (M.row (i := 0) rfl) rfl) fun fr E => ?_
  refine seq_nil' ?_
  refine wp_block ?_
  refine code_region ?_
  refine sw (v := .bool false) E (tst rfl (decide_eq_false (by omega))) fun fr E => ?_
  refine ma E fun fr E => ?_
  refine seq_nil' ?_
  refine cond_false E rfl (rfl) ?_
  refine code_region ?_
  refine sw (v := .bool false) E (tst rfl (decide_eq_false (by omega))) fun fr E => ?_
  refine ma E fun fr E => ?_
  refine seq_nil' ?_
  refine cond_false E rfl (rfl) ?_
  refine code_region ?_
  refine sw (v := .bool false) E (tst rfl (decide_eq_false (by omega))) fun fr E => ?_
  refine ma E fun fr E => ?_
  refine seq_nil' ?_
  refine cond_false E rfl (rfl) ?_
  refine code_region ?_
  refine sw (v := .bool false) E (tst rfl (decide_eq_false (by omega))) fun fr E => ?_
  refine ma E fun fr E => ?_
  refine seq_nil' ?_
  refine cond_false E rfl (rfl) ?_
  refine code_region ?_
  refine sw (v := .bool true) E (tst rfl (decide_eq_true hk)) fun fr E => ?_
  refine ma E fun fr E => ?_
  refine seq_nil' ?_
  refine cond_true E rfl (rfl) ?_
  refine code_region ?_
  refine mv E fun fr E => ?_
  refine sw (v := .pointer (some ⟨_, 1, none⟩)) E (run_fieldAddr rfl rfl T.fld38_1) fun fr E => ?_
  refine sw (v := .int .i64 _) E (run_loadB rfl rfl T.one3 (M.row (i := 0) rfl) rfl) fun fr E => ?_
  refine sw (v := .pointer (some ⟨_, 6, none⟩)) E (run_fieldAddr rfl rfl T.fld38_4) fun fr E => ?_
  refine sw E (run_loadB rfl rfl T.one36 (M.row (i := 0) rfl) rfl) fun fr E => ?_
  have M := M.pull 1 rfl
  refine scallI ([dkE D]) E M rfl rfl rfl rfl rfl (run_call rfl rfl T.fn19) rfl (fun H => Tamper_b H hD ((M.fact.1).less (fun g hg => ⟨dkE D, List.mem_cons_self .., hg⟩))) ?_
  rintro D1 fr w hD1 M E
  refine ma E fun fr E => ?_
  refine seq_nil' ?_
  refine wp_ret ?_
  refine block_ret ?_
  refine then_ret ?_
  refine ret1 E rfl rfl ?_
  have M := M.pull 3 rfl
  have M := M.pull 3 rfl
  have M := M.pull 2 rfl
  exact ⟨(D1, N), rfl, Mem.fin (L := [dkE D1, nmE N, cE g gk v] ++ _) M (List.sublist_append_left _ _) ⟨hD1, rfl, rfl, rfl⟩⟩

set_option maxRecDepth 100000 in
theorem runF_5 {D : DV} {N : NV} {g gk : Nat} {A : AD} {v : Int} {o : OpF} {w0 : World} (H : Has w0 [dkE D, nmE N, cE g gk v]) (hD : D.is g A) (hkz : N.ks.length + 2 ≤ 1099511627776) (htz : N.ts.length + 2 ≤ 1099511627776) (hv : 0 ≤ v) (hv2 : v ≤ 1152921504606846976) (hdb : FarB w0 (feet [dkE D, nmE N, cE g gk v]) o.dv o.dl) (hli : FarI w0 (feet [dkE D, nmE N, cE g gk v]) o.lv o.ll) (hk : ¬ (0 ≤ o.k ∧ o.k ≤ 4)) : Does Tryz.prog 13 [.pointer (some ⟨g, 0, none⟩), .pointer (some ⟨gk, 0, none⟩), .iface 31 (.pointer (some ⟨N.gn, 0, none⟩)), .agg o.cells.toArray] w0 [dkE D, nmE N, cE g gk v] (fun _ : DV × NV => .int .i64 0) (fun x => [dkE x.1, nmE x.2, cE g gk v]) (fun x => x.1.is g A ∧ x.2.gn = N.gn ∧ x.2.ks = N.ks ∧ x.2.ts = N.ts) := by
  refine enter (n := 45) Tryz.func13 rfl rfl rfl ?_
  intro fr E
  have M : Mem w0 (feet [dkE D, nmE N, cE g gk v]) [dkE D, nmE N, cE g gk v] (fun w' => FarB w' (feet [dkE D, nmE N, cE g gk v]) o.dv o.dl ∧ FarI w' (feet [dkE D, nmE N, cE g gk v]) o.lv o.ll) w0 := Mem.begin H (fun w' h => ⟨hdb.held h, hli.held h⟩)
  refine code_region ?_
  refine snew (ob := .cells (o.cells.toArray) 38) (fun g => .pointer (some ⟨g, 0, none⟩)) E M rfl rfl rfl rfl rfl (run_boxN (cs := (o.cells.toArray)) rfl rfl) fun g0 fr w M E => ?_
  refine sw E (run_assignC rfl) fun fr E => ?_
  refine seq_nil' ?_
  refine wp_seq ?_
  refine code_region ?_
  refine sw (v := .pointer (some ⟨_, 0, none⟩)) E (run_fieldAddr rfl rfl T.fld38_0) fun fr E => ?_
  refine sw (v := .int .i64 _) E (run_loadB rfl rfl T.one3 (M.row (i := 0) rfl) rfl) fun fr E => ?_
  refine seq_nil' ?_
  refine wp_block ?_
  refine code_region ?_
  refine sw (v := .bool false) E (tst rfl (decide_eq_false (by omega))) fun fr E => ?_
  refine ma E fun fr E => ?_
  refine seq_nil' ?_
  refine cond_false E rfl (rfl) ?_
  refine code_region ?_
  refine sw (v := .bool false) E (tst rfl (decide_eq_false (by omega))) fun fr E => ?_
  refine ma E fun fr E => ?_
  refine seq_nil' ?_
  refine cond_false E rfl (rfl) ?_
  refine code_region ?_
  refine sw (v := .bool false) E (tst rfl (decide_eq_false (by omega))) fun fr E => ?_
  refine ma E fun fr E => ?_
  refine seq_nil' ?_
  refine cond_false E rfl (rfl) ?_
  refine code_region ?_
  refine sw (v := .bool false) E (tst rfl (decide_eq_false (by omega))) fun fr E => ?_
  refine ma E fun fr E => ?_
  refine seq_nil' ?_
  refine cond_false E rfl (rfl) ?_
  refine code_region ?_
  refine sw (v := .bool false) E (tst rfl (decide_eq_false (by omega))) fun fr E => ?_
  refine ma E fun fr E => ?_
  refine seq_nil' ?_
  refine cond_false E rfl (rfl) ?_
  refine wp_skip ?_
  refine block_normal ?_
  refine then_normal ?_
  refine code_region ?_
  refine sw E (run_assignC rfl) fun fr E => ?_
  refine seq_nil' ?_
  refine wp_ret ?_
  refine ret1 E rfl rfl ?_
  have M := M.pull 3 rfl
  have M := M.pull 3 rfl
  have M := M.pull 3 rfl
  exact ⟨(D, N), rfl, Mem.fin (L := [dkE D, nmE N, cE g gk v] ++ _) M (List.sublist_append_left _ _) ⟨hD, rfl, rfl, rfl⟩⟩

theorem runF_x {D : DV} {N : NV} {g gk : Nat} {A : AD} {v : Int} {o : OpF} {w0 : World} (H : Has w0 [dkE D, nmE N, cE g gk v]) (hD : D.is g A) (hkz : N.ks.length + 2 ≤ 1099511627776) (htz : N.ts.length + 2 ≤ 1099511627776) (hv : 0 ≤ v) (hv2 : v ≤ 1152921504606846976) (hdb : FarB w0 (feet [dkE D, nmE N, cE g gk v]) o.dv o.dl) (hli : FarI w0 (feet [dkE D, nmE N, cE g gk v]) o.lv o.ll) (h3 : ¬ o.k = 3) : Does Tryz.prog 13 [.pointer (some ⟨g, 0, none⟩), .pointer (some ⟨gk, 0, none⟩), .iface 31 (.pointer (some ⟨N.gn, 0, none⟩)), .agg o.cells.toArray] w0 [dkE D, nmE N, cE g gk v] (fun _ : DV × NV => .int .i64 (runF A v N.ks N.ts o).err) (fun x => [dkE x.1, nmE x.2, cE g gk (runF A v N.ks N.ts o).v]) (fun x => x.1.is g (runF A v N.ks N.ts o).A ∧ x.2.gn = N.gn ∧ x.2.ks = (runF A v N.ks N.ts o).ks ∧ x.2.ts = (runF A v N.ks N.ts o).ts) := by
  by_cases h0 : o.k = 0
  · rw [runF_0' h0]; exact runF_0 H hD hkz htz hv hv2 hdb hli h0
  by_cases h1 : o.k = 1
  · rw [runF_1' h1]; exact runF_1 H hD hkz htz hv hv2 hdb hli h1
  by_cases h2 : o.k = 2
  · rw [runF_2' h2]; exact runF_2 H hD hkz htz hv hv2 hdb hli h2
  by_cases h4 : o.k = 4
  · rw [runF_4' h4]; exact runF_4 H hD hkz htz hv hv2 hdb hli h4
  · rw [runF_5' h0 h1 h2 h4]; exact runF_5 H hD hkz htz hv hv2 hdb hli (by omega)
theorem runF_y {D : DV} {N : NV} {g gk : Nat} {A : AD} {v : Int} {o : OpF} {w0 : World} (H : Has w0 [dkE D, nmE N, cE g gk v]) (hD : D.is g A) (hkz : N.ks.length + 2 ≤ 1099511627776) (htz : N.ts.length + 2 ≤ 1099511627776) (hv : 0 ≤ v) (hv2 : v ≤ 1152921504606846976) (hdb : FarB w0 (feet [dkE D, nmE N, cE g gk v]) o.dv o.dl) (hli : FarI w0 (feet [dkE D, nmE N, cE g gk v]) o.lv o.ll) (h3 : ¬ o.k = 3) {a : Nat} (ha : N.gn = a) : Does Tryz.prog 13 [.pointer (some ⟨g, 0, none⟩), .pointer (some ⟨gk, 0, none⟩), .iface 31 (.pointer (some ⟨a, 0, none⟩)), .agg o.cells.toArray] w0 [dkE D, nmE N, cE g gk v] (fun _ : DV × NV => .int .i64 (runF A v N.ks N.ts o).err) (fun x => [dkE x.1, nmE x.2, cE g gk (runF A v N.ks N.ts o).v]) (fun x => x.1.is g (runF A v N.ks N.ts o).A ∧ x.2.gn = a ∧ x.2.ks = (runF A v N.ks N.ts o).ks ∧ x.2.ts = (runF A v N.ks N.ts o).ts) := by
  subst ha
  exact runF_x H hD hkz htz hv hv2 hdb hli h3
end Go.Proofs.YtnebjbgcibjohaaGreat.K
end
section
namespace Go.Proofs.YtnebjbgcibjohaaGreat.K
open Go.RowKit Go.Rill Go.Proofs
set_option linter.unusedVariables false
set_option linter.unusedSimpArgs false
section
variable {G : Int} {st : List Int}
end
end Go.Proofs.YtnebjbgcibjohaaGreat.K
end
section
namespace Go.Proofs.YtnebjbgcibjohaaGreat.K
open Go.RowKit Go.Rill Go.Proofs
set_option linter.unusedVariables false
set_option linter.unusedSimpArgs false
end Go.Proofs.YtnebjbgcibjohaaGreat.K
end
section
namespace Go.Proofs.YtnebjbgcibjohaaGreat.K
open Go.RowKit Go.Rill Go.Proofs
set_option linter.unusedVariables false
set_option linter.unusedSimpArgs false
end Go.Proofs.YtnebjbgcibjohaaGreat.K
end
section
namespace Go.Proofs.YtnebjbgcibjohaaGreat.K
open Go.RowKit Go.Rill Go.Proofs
set_option linter.unusedVariables false
set_option linter.unusedSimpArgs false
/-- All that was sealed are records of these. -/
def Told (ks : List NKey) (told : List Rec) : Prop := ∀ k ∈ ks, ∃ r ∈ told, r.Ok ∧ r.May ∧ ∃ num, k = r.key num
theorem Told.nil (told : List Rec) : Told [] told := fun k hk => nomatch hk
theorem Told.more {ks : List NKey} {told : List Rec} (h : Told ks told) (r : Rec) : Told ks (told ++ [r]) := fun k hk => by
  obtain ⟨q, hq, h2⟩ := h k hk
  exact ⟨q, List.mem_append_left _ hq, h2⟩
theorem Told.sealed {ks : List NKey} {told : List Rec} (h : Told ks told) {A : AD} {r : Rec} (hr : r.Ok) (num : Int) : Told (regW A ks r num).2.2 (told ++ [r]) := by
  unfold regW
  split
  · rename_i hc
    show Told (sealS ks r.epoch num (hdB 2 (1 + r.gen.tmod 2)) r.bytes) _
    unfold sealS
    split
    · intro k hk
      unfold sealKs at hk
      split at hk
      · exact h.more r k hk
      · rcases List.mem_append.1 hk with hk | hk
        · exact h.more r k hk
        · rw [List.mem_singleton.1 hk]
          exact ⟨r, by simp, hr, hc.1, num, rfl⟩
    · exact h.more r
  · exact h.more r
theorem nat_in {K : Type} [DecidableEq K] {k : K} : ∀ {ks : List K} {i m : Nat}, nat' k ks i = some m → k ∈ ks
  | [], _, _, h => by cases h
  | q :: ks, i, m, h => by
    unfold nat' at h
    split at h
    · rename_i e; subst e; exact List.mem_cons_self ..
    · exact List.mem_cons_of_mem _ (nat_in h)
theorem open_in {ks : List NKey} {e n : Int} {h l q : List UInt8} (ho : openN ks e n h l = some q) : (⟨e, n, h, q⟩ : NKey) ∈ ks := by
  unfold openN at ho
  split at ho
  · cases ho
  · split at ho
    · cases ho
    · rename_i m hm
      split at ho
      · injection ho with ho
        subst ho
        exact nat_in hm
      · cases ho
end Go.Proofs.YtnebjbgcibjohaaGreat.K
end
section
namespace Go.Proofs.YtnebjbgcibjohaaGreat.K
open Go.RowKit Go.Rill Go.Proofs
set_option linter.unusedVariables false
set_option linter.unusedSimpArgs false
theorem AD.tamper_n (A : AD) (i : Int) (l : List UInt8) : (A.tamper i l).2.n = A.n := by
  unfold AD.tamper
  split
  · rfl
  · split <;> rfl
theorem AD.write_n (A : AD) (i : Int) (l : List UInt8) : (A.write i l).2.n = A.n := by
  unfold AD.write
  split
  · rfl
  · split
    · rfl
    · split
      · rfl
      · split <;> rfl
theorem AD.sync_n (A : AD) : A.sync.2.n = A.n := by
  unfold AD.sync
  split
  · rfl
  · split <;> rfl
theorem regW_n (A : AD) (ks : List NKey) (r : Rec) (num : Int) : (regW A ks r num).2.1.n = A.n := by
  unfold regW
  split
  · exact AD.write_n _ _ _
  · rfl
theorem regW_len (A : AD) (ks : List NKey) (r : Rec) (num : Int) : (regW A ks r num).2.2.length ≤ ks.length + 1 := by
  unfold regW
  split
  · show (sealS ks r.epoch num (hdB 2 (1 + r.gen.tmod 2)) r.bytes).length ≤ _
    unfold sealS
    split
    · exact sealKs_len _ _
    · omega
  · exact Nat.le_succ _
end Go.Proofs.YtnebjbgcibjohaaGreat.K
end
section
namespace Go.Proofs.YtnebjbgcibjohaaGreat.K
open Go.RowKit Go.Rill Go.Proofs
set_option linter.unusedVariables false
set_option linter.unusedSimpArgs false
theorem spend_12 (A : AD) : (A.spend.1 = 0 ∨ A.spend.1 = 12) ∧ A.spend.2.n = A.n := by
  unfold AD.spend
  split
  · exact ⟨.inr rfl, rfl⟩
  · split
    · exact ⟨.inr rfl, rfl⟩
    · exact ⟨.inl rfl, rfl⟩
theorem sync_12 (A : AD) : A.sync.1 = 0 ∨ A.sync.1 = 12 := by
  unfold AD.sync
  split
  · exact .inr rfl
  · split
    · exact .inr rfl
    · exact .inl rfl
theorem write_12 {A : AD} {i : Int} {l : List UInt8} (ht : A.there i) (hl : l.length ≤ 1024) : (A.write i l).1 = 0 ∨ (A.write i l).1 = 12 := by
  unfold AD.write
  rw [if_neg (fun c : ¬ A.there i => c ht), if_neg (show ¬ 1024 < l.length by omega)]
  split
  · exact .inr rfl
  · split
    · exact .inr rfl
    · exact .inl rfl
theorem raise_12 {A : AD} {v nv : Int} (h1 : v < nv) (h2 : nv ≤ 1152921504606846976) : ((raiseA A v nv).1 = 0 ∧ (raiseA A v nv).2.2 = nv ∨ (raiseA A v nv).1 = 12 ∧ (raiseA A v nv).2.2 = v) ∧ (raiseA A v nv).2.1.n = A.n := by
  obtain ⟨h3, h4⟩ := spend_12 A
  unfold raiseA
  rw [if_neg (by omega)]
  split
  · rename_i h; exact ⟨.inl ⟨rfl, rfl⟩, h4⟩
  · rename_i h; exact ⟨.inr ⟨h3.resolve_left h, rfl⟩, h4⟩
theorem sealS_len (ks : List NKey) (e n : Int) (h p : List UInt8) : (sealS ks e n h p).length ≤ ks.length + 1 := by
  unfold sealS
  split
  · exact sealKs_len _ _
  · omega
theorem superW_12 {A : AD} {n : Nat} (hn : A.n = n) {v s l b : Int} {ks : List NKey} {ts : List (List UInt8)} {e : Int} (hr : refZ n v s l b = 0) : ((superW A ks ts e s l b).err = 0 ∨ (superW A ks ts e s l b).err = 12) ∧ (superW A ks ts e s l b).A.n = A.n ∧ (superW A ks ts e s l b).ks.length ≤ ks.length + 1 ∧ (superW A ks ts e s l b).ts.length ≤ ts.length + 1 := by
  have h := write_12 (A := A) (i := 0) (l := sectB ks 1 e 0 0 (geoB s l b)) (there_of hn hr (by decide) (by decide)) (sectB_small _ _ _ _ _ (by rw [geoB_len]; decide))
  unfold superW
  split
  · exact ⟨.inl rfl, AD.write_n _ _ _, sealS_len _ _ _ _ _, textKs_len _ _⟩
  · rename_i h0
    exact ⟨.inr (h.resolve_left h0), AD.write_n _ _ _, sealS_len _ _ _ _ _, Nat.le_succ _⟩
theorem regW_12 {A : AD} {n : Nat} (hn : A.n = n) {v s l b e : Int} {ks : List NKey} {sm : List UInt8} (he : 1 ≤ e ∧ e ≤ 1099511627776) (hs : sm.length = 32) (hr : refZ n v s l b = 0) : (regW A ks (fRec e sm) 1).1 = 0 ∨ (regW A ks (fRec e sm) 1).1 = 12 := by
  rw [regW_w (fRec_ok _ hs) (fRec_may he) (by decide) (by decide)]
  exact write_12 (there_of hn hr (by rw [fRec_at]; decide) (by rw [fRec_at]; decide)) (sectB_small _ _ _ _ _ (by rw [Rec.bytes_len (fRec_ok _ hs)]; decide))
/-- What a Format that is not refused leaves. -/
def Went (R : FMR) (n : Nat) (v : Int) (kn tn : Nat) : Prop := (R.err = 0 ∧ R.v = fE v * 1048576 ∨ R.err = 12 ∧ (R.v = v ∨ R.v = v + 1)) ∧ R.A.n = n ∧ R.ks.length ≤ kn + 2 ∧ R.ts.length ≤ tn + 1
theorem fmt_went {A : AD} {v s l b : Int} {ks : List NKey} {ts : List (List UInt8)} (hv : 0 ≤ v) (hr : refZ A.n v s l b = 0) : Went (fmtF A v ks ts s l b) A.n v ks.length ts.length := by
  obtain ⟨e1, e2, e3, e4, e5⟩ := fE_in hv hr
  rw [fmtF_go hr]
  obtain ⟨r1, n1⟩ := raise_12 (A := A) (v := v) (nv := v + 1) (by omega) e5
  rcases r1 with ⟨r1, v1⟩ | ⟨r1, v1⟩
  rotate_left
  · rw [fm1_no (by rw [r1]; decide)]
    exact ⟨.inr ⟨r1, .inl v1⟩, n1, Nat.le_add_right _ _, Nat.le_add_right _ _⟩
  rw [fm1_ok r1, v1]
  obtain ⟨A1, hA1⟩ : ∃ A1, A1 = (raiseA A v (v + 1)).2.1 := ⟨_, rfl⟩
  rw [← hA1] at n1 ⊢
  obtain ⟨s1, n2, k2, t2⟩ := superW_12 (ks := ks) (ts := ts) (e := epochZ (v + 1)) n1 hr
  have hsm := superW_sum A1 ks ts (epochZ (v + 1)) s l b
  by_cases s0 : (superW A1 ks ts (epochZ (v + 1)) s l b).err = 0
  rotate_left
  · rw [fm2_no s0]
    exact ⟨.inr ⟨s1.resolve_left s0, .inr rfl⟩, n2.trans n1, Nat.le_trans k2 (Nat.le_succ _), t2⟩
  rw [fm2_ok s0]
  obtain ⟨A2, hA2⟩ : ∃ A2, A2 = (superW A1 ks ts (epochZ (v + 1)) s l b).A := ⟨_, rfl⟩
  obtain ⟨K2, hK2⟩ : ∃ K2, K2 = (superW A1 ks ts (epochZ (v + 1)) s l b).ks := ⟨_, rfl⟩
  obtain ⟨T2, hT2⟩ : ∃ T2, T2 = (superW A1 ks ts (epochZ (v + 1)) s l b).ts := ⟨_, rfl⟩
  obtain ⟨sm, hsm2⟩ : ∃ sm, sm = (superW A1 ks ts (epochZ (v + 1)) s l b).sum := ⟨_, rfl⟩
  rw [← hA2] at n2 ⊢
  rw [← hK2] at k2 ⊢
  rw [← hT2] at t2 ⊢
  rw [← hsm2] at hsm ⊢
  have n2 := n2.trans n1
  have q1 := regW_12 (ks := K2) n2 (show 1 ≤ epochZ (v + 1) ∧ epochZ (v + 1) ≤ 1099511627776 by show 1 ≤ fE v ∧ fE v ≤ _; omega) hsm hr
  have k3 := regW_len A2 K2 (fRec (epochZ (v + 1)) sm) 1
  have n3 := (regW_n A2 K2 (fRec (epochZ (v + 1)) sm) 1).trans n2
  have k4 := Nat.le_trans k3 (Nat.add_le_add_right k2 1)
  by_cases q0 : (regW A2 K2 (fRec (epochZ (v + 1)) sm) 1).1 = 0
  rotate_left
  · rw [fm3_no q0]
    exact ⟨.inr ⟨q1.resolve_left q0, .inr rfl⟩, n3, k4, t2⟩
  rw [fm3_ok q0]
  obtain ⟨A3, hA3⟩ : ∃ A3, A3 = (regW A2 K2 (fRec (epochZ (v + 1)) sm) 1).2.1 := ⟨_, rfl⟩
  rw [← hA3] at n3 ⊢
  by_cases y0 : A3.sync.1 = 0
  rotate_left
  · rw [fm4_no y0]
    exact ⟨.inr ⟨(sync_12 A3).resolve_left y0, .inr rfl⟩, (AD.sync_n A3).trans n3, k4, t2⟩
  rw [fm4_ok y0]
  obtain ⟨r5, n5⟩ := raise_12 (A := A3.sync.2) (v := v + 1) (nv := epochZ (v + 1) * 1048576) e3 e4
  refine ⟨?_, n5.trans ((AD.sync_n A3).trans n3), k4, t2⟩
  rcases r5 with ⟨r5, v5⟩ | ⟨r5, v5⟩
  · exact .inl ⟨r5, v5⟩
  · exact .inr ⟨r5, .inr v5⟩
/-- What any operation leaves. -/
theorem run_went {A : AD} {v : Int} {ks : List NKey} {ts : List (List UInt8)} {o : OpF} (hv : 0 ≤ v) : (runF A v ks ts o).A.n = A.n ∧ (runF A v ks ts o).ks.length ≤ ks.length + 2 ∧ (runF A v ks ts o).ts.length ≤ ts.length + 1 ∧
    (¬ o.k = 0 → (runF A v ks ts o).v = v) ∧ (o.k = 0 → ¬ refZ A.n v o.a o.b o.c = 0 → (runF A v ks ts o).err = refZ A.n v o.a o.b o.c ∧ (runF A v ks ts o).v = v ∧ (runF A v ks ts o).A = A) ∧
    (o.k = 0 → refZ A.n v o.a o.b o.c = 0 → (runF A v ks ts o).err = 0 ∧ (runF A v ks ts o).v = fE v * 1048576 ∨ (runF A v ks ts o).err = 12 ∧ ((runF A v ks ts o).v = v ∨ (runF A v ks ts o).v = v + 1)) := by
  by_cases h0 : o.k = 0
  · rw [runF_0' h0]
    by_cases hr : refZ A.n v o.a o.b o.c = 0
    · obtain ⟨w1, w2, w3, w4⟩ := fmt_went (A := A) (ks := ks) (ts := ts) hv hr
      exact ⟨w2, w3, w4, fun c => absurd h0 c, fun _ c => absurd hr c, fun _ _ => w1⟩
    · rw [fmtF_no hr]
      exact ⟨rfl, Nat.le_add_right _ _, Nat.le_add_right _ _, fun _ => rfl, fun _ _ => ⟨rfl, rfl, rfl⟩, fun _ c => absurd c hr⟩
  have key : ∀ R : FMR, runF A v ks ts o = R → R.A.n = A.n → R.ks = ks → R.ts = ts → R.v = v → (runF A v ks ts o).A.n = A.n ∧ (runF A v ks ts o).ks.length ≤ ks.length + 2 ∧ (runF A v ks ts o).ts.length ≤ ts.length + 1 ∧ (¬ o.k = 0 → (runF A v ks ts o).v = v) := fun R e a b c d => by
    rw [e, b, c]
    exact ⟨a, Nat.le_add_right _ _, Nat.le_add_right _ _, fun _ => d⟩
  have all : (runF A v ks ts o).A.n = A.n ∧ (runF A v ks ts o).ks.length ≤ ks.length + 2 ∧ (runF A v ks ts o).ts.length ≤ ts.length + 1 ∧ (¬ o.k = 0 → (runF A v ks ts o).v = v) := by
    by_cases h1 : o.k = 1
    · exact key _ (runF_1' h1) rfl rfl rfl rfl
    by_cases h2 : o.k = 2
    · exact key _ (runF_2' h2) rfl rfl rfl rfl
    by_cases h4 : o.k = 4
    · exact key _ (runF_4' h4) (AD.tamper_n _ _ _) rfl rfl rfl
    · exact key _ (runF_5' h0 h1 h2 h4) rfl rfl rfl rfl
  exact ⟨all.1, all.2.1, all.2.2.1, all.2.2.2, fun c => absurd c h0, fun c => absurd c h0⟩
/-- The law's own words on a Format: numbers only. -/
theorem fmt_nums {n : Nat} {v s l b err nv : Int} (hv : 0 ≤ v) (hv2 : v ≤ 1152921504606846976) (h1 : ¬ refZ n v s l b = 0 → err = refZ n v s l b ∧ nv = v) (h2 : refZ n v s l b = 0 → err = 0 ∧ nv = fE v * 1048576 ∨ err = 12 ∧ (nv = v ∨ nv = v + 1)) :
    v ≤ nv ∧ nv ≤ 1152921504606846976 ∧ (¬ err = 0 → nv / 1048576 = v / 1048576) ∧ (¬ err = 0 → ¬ err = 12 → nv = v) ∧ (err = 0 → v / 1048576 < nv / 1048576 ∧ nv / 1048576 = v / 1048576 + v % 1048576 + 2) ∧ (¬ nv = v → v / 1048576 + v % 1048576 + 1 ≤ nv / 1048576 + nv % 1048576 ∧ v / 1048576 + v % 1048576 + 2 ≤ nv / 1048576 + nv % 1048576 + 1) := by
  by_cases hr : refZ n v s l b = 0
  · obtain ⟨e1, e2, e3, e4, e5⟩ := fE_in hv hr
    have hne := (refZ_in hr).2.2.1
    have hfe : fE v = (v + 1) / 1048576 + 1 + (v + 1) % 1048576 := rfl
    rcases h2 hr with ⟨a, b⟩ | ⟨a, b | b⟩
    · rw [a, b, Int.mul_ediv_cancel _ (by decide), Int.mul_emod_left]
      omega
    · rw [a, b]; omega
    · rw [a, b]; omega
  · obtain ⟨a, b⟩ := h1 hr
    have : ¬ err = 0 := by rw [a]; exact hr
    rw [b]; omega
/-- What the law needs of any operation. -/
theorem run_nums {A : AD} {v : Int} {ks : List NKey} {ts : List (List UInt8)} {o : OpF} {R : FMR} (hR : R = runF A v ks ts o) (hv : 0 ≤ v) (hv2 : v ≤ 1152921504606846976) : v ≤ R.v ∧ R.v ≤ 1152921504606846976 ∧ (¬ o.k = 0 → R.v = v) ∧ (¬ R.v = v → v / 1048576 + v % 1048576 + 1 ≤ R.v / 1048576 + R.v % 1048576 ∧ v / 1048576 + v % 1048576 + 2 ≤ R.v / 1048576 + R.v % 1048576 + 1) ∧
    (o.k = 0 → (¬ R.err = 0 → R.v / 1048576 = v / 1048576) ∧ (¬ R.err = 0 → ¬ R.err = 12 → R.v = v ∧ R.A = A) ∧ (R.err = 0 → v / 1048576 < R.v / 1048576 ∧ R.v / 1048576 = v / 1048576 + v % 1048576 + 2)) ∧ R.A.n = A.n ∧ R.ks.length ≤ ks.length + 2 ∧ R.ts.length ≤ ts.length + 1 := by
  obtain ⟨w1, w2, w3, w4, w5, w6⟩ := run_went (A := A) (ks := ks) (ts := ts) (o := o) hv
  rw [← hR] at w1 w2 w3 w4 w5 w6
  by_cases h0 : o.k = 0
  · obtain ⟨f1, f2, f3, f4, f5, f6⟩ := fmt_nums (n := A.n) (s := o.a) (l := o.b) (b := o.c) (err := R.err) (nv := R.v) hv hv2 (fun c => ⟨(w5 h0 c).1, (w5 h0 c).2.1⟩) (w6 h0)
    refine ⟨f1, f2, fun c => absurd h0 c, f6, fun _ => ⟨f3, fun c d => ⟨f4 c d, ?_⟩, f5⟩, w1, w2, w3⟩
    by_cases hr : refZ A.n v o.a o.b o.c = 0
    · rcases w6 h0 hr with ⟨e, _⟩ | ⟨e, _⟩
      · exact absurd e c
      · exact absurd e d
    · exact (w5 h0 hr).2.2
  · have e := w4 h0
    exact ⟨by omega, by omega, fun _ => e, fun c => absurd e c, fun c => absurd c h0, w1, w2, w3⟩
end Go.Proofs.YtnebjbgcibjohaaGreat.K
end
section
namespace Go.Rill.T
open Go.Proofs
theorem fn46 : goFn Tryz.prog 46 = true := by kernel_rfl
abbrev tab24_8_b : List Nat := [0, 0, 0, 6, 15, 31, 63]
abbrev tab24_8_i : List Nat := [0, 1, 2, 3, 4, 5, 6]
theorem tab24_8 : tabOk (regOps Tryz.f24 8) tab24_8_b 52 = true := by kernel_rfl
end Go.Rill.T
end
section
namespace Go.Proofs.YtnebjbgcibjohaaGreat.K
open Go.RowKit Go.Rill Go.Proofs
set_option linter.unusedVariables false
set_option linter.unusedSimpArgs false
theorem sget_ge {ks : List NKey} {kd at' : Int} {l : List UInt8} {x : Int × Int × List UInt8} (h : sgetX ks kd at' l = some x) : 17 ≤ l.length := by
  unfold sgetX at h
  split at h
  · rename_i c; omega
  · cases h
set_option maxRecDepth 100000 in
theorem superGet_l {b : Value} {l : List UInt8} {w0 : World} (hb : Bytes w0 b l) (hz : l.length ≤ 35184372088832) (he : rEnd (rst l 3) = 0) (hm : GMay (rInt (rst l 0)) (rInt (rst l 1)) (rInt (rst l 2))) : Gives Tryz.prog 46 [b] w0 (.tuple #[.agg #[.int .i64 (rInt (rst l 0)), .int .i64 (rInt (rst l 1)), .int .i64 (rInt (rst l 2))], .int .i64 0]) := by
  refine enter (n := 27) Tryz.func46 rfl rfl rfl ?_
  intro fr E
  have M : Mem w0 (feet []) [] (fun w' => Bytes w' b l) w0 := Mem.begin (Has.nil w0) (fun w' h => hb.held0 h)
  refine code_region ?_
  refine snew (ob := .cells #[_, _, _] 35) (fun g => .pointer (some ⟨g, 0, none⟩)) E M rfl rfl rfl rfl rfl (run_allocN rfl T.zero35) fun g0 fr w M E => ?_
  refine sw E (run_assignC rfl) fun fr E => ?_
  refine seq_nil' ?_
  refine code_region ?_
  refine mv E fun fr E => ?_
  refine scall E M rfl rfl rfl rfl rfl (run_call rfl rfl T.fn65) (Read_x M.fact hz) rfl ?_
  rintro ⟨g, rv0⟩ fr w - M E
  refine ma E fun fr E => ?_
  refine seq_nil' ?_
  refine code_region ?_
  refine mv E fun fr E => ?_
  refine scallI (rdr g rv0 (rst l 0).1 (rst l 0).2) E M rfl rfl rfl rfl rfl (run_call rfl rfl T.fn66) rfl (fun H => Reader_Int_x H (Nat.le_trans (rst_len l 0) hz)) ?_
  rintro rv1 fr w - M E
  refine mv E fun fr E => ?_
  refine scallI (rdr g rv1 (rst l 1).1 (rst l 1).2) E M rfl rfl rfl rfl rfl (run_call rfl rfl T.fn66) rfl (fun H => Reader_Int_x H (Nat.le_trans (rst_len l 1) hz)) ?_
  rintro rv2 fr w - M E
  refine mv E fun fr E => ?_
  refine scallI (rdr g rv2 (rst l 2).1 (rst l 2).2) E M rfl rfl rfl rfl rfl (run_call rfl rfl T.fn66) rfl (fun H => Reader_Int_x H (Nat.le_trans (rst_len l 2) hz)) ?_
  rintro rv3 fr w - M E
  refine sw (v := .agg ([_, _, _]).toArray) E (run_buildP (vs := [_, _, _]) (us := [_, _, _]) rfl rfl T.ts35 T.zeroL35 rfl rfl rfl rfl) fun fr E => ?_
  refine snew (ob := .cells #[_, _, _] 35) (fun g => .pointer (some ⟨g, 0, none⟩)) E M rfl rfl rfl rfl rfl (run_allocN rfl T.zero35) fun g1 fr w M E => ?_
  refine sset (i := 0) (cs' := #[_, _, _]) E M rfl rfl rfl rfl rfl (run_storeN' (vs := #[_, _, _]) rfl rfl rfl T.size35 rfl (M.row (i := 0) rfl) rfl rfl rfl) rfl fun fr w M E => ?_
  refine seq_nil' ?_
  refine code_region ?_
  refine mv E fun fr E => ?_
  have M := M.pull 2 rfl
  have M := M.pull 2 rfl
  refine scallI (rdr g rv3 (rst l 3).1 (rst l 3).2) E M rfl rfl rfl rfl rfl (run_call rfl rfl T.fn69) rfl (fun H => End_x H (Nat.le_trans (rst_len l 3) hz)) ?_
  rintro _ fr w - M E
  refine ma E fun fr E => ?_
  refine seq_nil' ?_
  refine wp_seq ?_
  refine code_region ?_
  refine mv E fun fr E => ?_
  refine sw (v := .bool true) E (tst rfl (decide_eq_true he)) fun fr E => ?_
  refine seq_nil' ?_
  refine cond_true E rfl (rfl) ?_
  refine code_last ?_
  refine sw (v := .agg #[.int .i64 (rInt (rst l 0)), .int .i64 (rInt (rst l 1)), .int .i64 (rInt (rst l 2))]) E (run_loadAll rfl rfl T.agg35 (M.row (i := 2) rfl) rfl) fun fr E => ?_
  refine sgive E M rfl rfl rfl rfl rfl (run_call rfl rfl T.fn16) (Check_ok hm) fun fr w M E => ?_
  refine ma E fun fr E => ?_
  refine seq_nil ?_
  refine then_normal ?_
  refine wp_seq ?_
  refine code_region ?_
  refine mv E fun fr E => ?_
  refine sw (v := .bool false) E (tst rfl (rfl)) fun fr E => ?_
  refine seq_nil' ?_
  refine cond_false E rfl (rfl) ?_
  refine wp_skip ?_
  refine then_normal ?_
  refine code_region ?_
  refine sw (v := .agg #[.int .i64 (rInt (rst l 0)), .int .i64 (rInt (rst l 1)), .int .i64 (rInt (rst l 2))]) E (run_loadAll rfl rfl T.agg35 (M.row (i := 2) rfl) rfl) fun fr E => ?_
  refine sset (i := 3) (cs' := #[_, _, _]) E M rfl rfl rfl rfl rfl (run_storeN' (vs := #[_, _, _]) rfl rfl rfl T.size35 rfl (M.row (i := 3) rfl) rfl rfl rfl) rfl fun fr w M E => ?_
  refine sw E (run_assignC rfl) fun fr E => ?_
  refine seq_nil' ?_
  refine wp_ret ?_
  refine retC2 E rfl rfl rfl T.agg35 (M.row (i := 3) rfl) (rfl) ?_
  exact given M

theorem geo_read {s l b : Int} (h : GMay s l b) : rEnd (rst (geoB s l b) 3) = 0 ∧ rInt (rst (geoB s l b) 0) = s ∧ rInt (rst (geoB s l b) 1) = l ∧ rInt (rst (geoB s l b) 2) = b := by
  obtain ⟨⟨a1, a2⟩, ⟨b1, b2⟩, c1, c2⟩ := span3 h.1
  have e0 : rst (geoB s l b) 0 = (be8 s ++ (be8 l ++ (be8 b ++ [])), false) := by show (geoB s l b, false) = _; simp [geoB, List.append_assoc]
  have e1 : rst (geoB s l b) 1 = (be8 l ++ (be8 b ++ []), false) := (congrArg (rNext 8) e0).trans (rNext_app (be8_len _))
  have e2 : rst (geoB s l b) 2 = (be8 b ++ [], false) := (congrArg (rNext 8) e1).trans (rNext_app (be8_len _))
  have e3 : rst (geoB s l b) 3 = ([], false) := (congrArg (rNext 8) e2).trans (rNext_app (be8_len _))
  refine ⟨by rw [e3]; rfl, ?_, ?_, ?_⟩
  · rw [e0]; exact rInt_app (by omega) (by omega)
  · rw [e1]; exact rInt_app (by omega) (by omega)
  · rw [e2]; exact rInt_app (by omega) (by omega)
theorem superGet_x {b : Value} {s l c : Int} {w0 : World} (hb : Bytes w0 b (geoB s l c)) (h : GMay s l c) : Gives Tryz.prog 46 [b] w0 (.tuple #[.agg #[.int .i64 s, .int .i64 l, .int .i64 c], .int .i64 0]) := by
  obtain ⟨h0, h1, h2, h3⟩ := geo_read h
  have := superGet_l hb (by rw [geoB_len]; decide) h0 (by rw [h1, h2, h3]; exact h)
  rwa [h1, h2, h3] at this

set_option maxRecDepth 100000 in
theorem superRead_x {D : DV} {N : NV} {g : Nat} {A : AD} {e s l b : Int} {w0 : World} (H : Has w0 [dkE D, nmE N]) (hD : D.is g A) (hn : 0 < A.n) (hkz : N.ks.length ≤ 1099511627776) (htz : N.ts.length ≤ 1099511627776) (hg : sgetX N.ks 1 0 (A.read 0) = some (e, 0, geoB s l b)) (hgm : GMay s l b)  : Does Tryz.prog 24 [.pointer (some ⟨g, 0, none⟩), .iface 31 (.pointer (some ⟨N.gn, 0, none⟩))] w0 [dkE D, nmE N] (fun _ : DV × NV => .tuple #[.agg #[.int .i64 s, .int .i64 l, .int .i64 b], .agg (bc (sumOf (textNo N.ts (A.read 0)))).toArray, .int .i64 0]) (fun x => [dkE x.1, nmE x.2]) (fun x => x.1.is g (A.bump 0) ∧ x.2.gn = N.gn ∧ x.2.ks = N.ks ∧ x.2.ts = textKs N.ts (A.read 0)) := by
  refine enter (n := 52) Tryz.func24 rfl rfl rfl ?_
  intro fr E
  have M : Mem w0 (feet [dkE D, nmE N]) [dkE D, nmE N] (fun _ => True) w0 := Mem.begin H (fun _ _ => trivial)
  refine code_region ?_
  refine snew (ob := .cells #[_, _, _] 35) (fun g => .pointer (some ⟨g, 0, none⟩)) E M rfl rfl rfl rfl rfl (run_allocN rfl T.zero35) fun g0 fr w M E => ?_
  refine snew (ob := .cells _ 54) (fun g => .pointer (some ⟨g, 0, none⟩)) E M rfl rfl rfl rfl rfl (run_allocN rfl T.zero54) fun g1 fr w M E => ?_
  refine sw E (run_assignC rfl) fun fr E => ?_
  refine seq_nil' ?_
  refine code_region ?_
  refine mv E fun fr E => ?_
  have M := M.pull 2 rfl
  refine scallI ([dkE D]) E M rfl rfl rfl rfl rfl (run_call rfl rfl T.fn21) rfl (fun H => Read_a (j := 0) H hD hn) ?_
  rintro ⟨c, D2⟩ fr w hD2 M E
  refine mv E fun fr E => ?_
  refine sw E (run_extract rfl rfl rfl) fun fr E => ?_
  refine sw E (run_extract rfl rfl rfl) fun fr E => ?_
  refine ma E fun fr E => ?_
  refine ma E fun fr E => ?_
  refine seq_nil' ?_
  refine wp_seq ?_
  refine code_region ?_
  refine mv E fun fr E => ?_
  refine sw (v := .int .i64 _) E (run_lenR rfl rfl rfl rfl T.slice36 (M.reads 0 rfl)) fun fr E => ?_
  refine sw (v := .bool false) E (tst rfl (decide_eq_false (by have := sget_ge hg; omega))) fun fr E => ?_
  refine seq_nil' ?_
  refine cond_false E rfl (rfl) ?_
  refine wp_skip ?_
  refine then_normal ?_
  refine code_region ?_
  refine mv E fun fr E => ?_
  refine mv E fun fr E => ?_
  refine scall E M rfl rfl rfl rfl rfl (run_call rfl rfl T.fn45) (sGet_yes (M.bytes 0 rfl) (M.has1 (i := 4) rfl) hkz hg) rfl ?_
  rintro q' fr w - M E
  refine mv E fun fr E => ?_
  refine sw E (run_extract rfl rfl rfl) fun fr E => ?_
  refine sw E (run_extract rfl rfl rfl) fun fr E => ?_
  refine snew (ob := .cells #[_, _, _, _, _] 99) (fun g => .pointer (some ⟨g, 0, none⟩)) E M rfl rfl rfl rfl rfl (run_allocN rfl T.zero99) fun g2 fr w M E => ?_
  refine sset (i := 0) (cs' := #[.int .i64 1, .int .i64 e, .int .i64 0, .int .i64 0, q']) E M rfl rfl rfl rfl rfl (run_storeN' (vs := #[.int .i64 1, .int .i64 e, .int .i64 0, .int .i64 0, q']) rfl rfl rfl T.size99 rfl (M.row (i := 0) rfl) rfl (by obtain ⟨b', c', e'⟩ := Reads.slice (M.reads 1 rfl); rw [e']; rfl) rfl) rfl fun fr w M E => ?_
  refine ma E fun fr E => ?_
  refine seq_nil' ?_
  refine code_region ?_
  refine sw (v := .pointer (some ⟨_, 4, none⟩)) E (run_fieldAddr rfl rfl T.fld99_4) fun fr E => ?_
  refine sw E (run_loadB rfl rfl T.one36 (M.row (i := 0) rfl) rfl) fun fr E => ?_
  refine sgive E M rfl rfl rfl rfl rfl (run_call rfl rfl T.fn46) (superGet_x (M.bytes 1 rfl) hgm) fun fr w M E => ?_
  refine mv E fun fr E => ?_
  refine sw E (run_extract rfl rfl rfl) fun fr E => ?_
  refine sw E (run_extract rfl rfl rfl) fun fr E => ?_
  refine snew (ob := .cells #[_, _, _] 35) (fun g => .pointer (some ⟨g, 0, none⟩)) E M rfl rfl rfl rfl rfl (run_allocN rfl T.zero35) fun g3 fr w M E => ?_
  refine sset (i := 0) (cs' := #[_, _, _]) E M rfl rfl rfl rfl rfl (run_storeN' (vs := #[_, _, _]) rfl rfl rfl T.size35 rfl (M.row (i := 0) rfl) rfl rfl rfl) rfl fun fr w M E => ?_
  refine ma E fun fr E => ?_
  refine seq_nil' ?_
  refine wp_seq ?_
  refine code_region ?_
  refine mv E fun fr E => ?_
  refine sw (v := .bool false) E (tst rfl (rfl)) fun fr E => ?_
  refine mv E fun fr E => ?_
  refine mv E fun fr E => ?_
  refine sw (v := .bool false) E (tst rfl (rfl)) fun fr E => ?_
  refine sw (v := .bool _) E (rfl) fun fr E => ?_
  refine mv E fun fr E => ?_
  refine sw (v := .pointer (some ⟨_, 2, none⟩)) E (run_fieldAddr rfl rfl T.fld99_2) fun fr E => ?_
  refine sw (v := .int .i64 _) E (run_loadB rfl rfl T.one3 (M.row (i := 1) rfl) rfl) fun fr E => ?_
  refine sw (v := .bool false) E (tst rfl (rfl)) fun fr E => ?_
  refine sw (v := .bool _) E (rfl) fun fr E => ?_
  refine seq_nil' ?_
  refine cond_false E rfl (rfl) ?_
  refine wp_skip ?_
  refine then_normal ?_
  have M := M.pull 5 rfl
  have M := M.pull 6 rfl
  have M := M.pull 7 rfl
  have hoff : ∀ q, c.ownBlock = some q → q ∉ (nmE N).foot := M.off (i := 0) (j := 3 + 3) rfl rfl rfl
  have M : Mem _ _ (([nmE N] ++ ([.blk g0 (.cells #[.int .i64 0, .int .i64 0, .int .i64 0] 35)] ++ [.blk g1 (.cells (bc (List.replicate 32 0)).toArray 54)])) ++ _) _ _ := M
  have hp := List.pairwise_append.1 (List.pairwise_append.1 M.apart).1
  have h45 : ∀ q, feet [.blk g0 (.cells #[.int .i64 0, .int .i64 0, .int .i64 0] 35)] q → ¬ feet [.blk g1 (.cells (bc (List.replicate 32 0)).toArray 54)] q := fun q ⟨x1, m1, q1⟩ ⟨x2, m2, q2⟩ => (List.pairwise_append.1 hp.2.1).2.2 x1 m1 x2 m2 q q1 q2
  have h34 : ∀ q, feet [nmE N] q → ¬ feet [.blk g0 (.cells #[.int .i64 0, .int .i64 0, .int .i64 0] 35)] q := fun q ⟨x1, m1, q1⟩ ⟨x2, m2, q2⟩ => hp.2.2 x1 m1 x2 (List.mem_append_left _ m2) q q1 q2
  have h35 : ∀ q, feet [nmE N] q → ¬ feet [.blk g1 (.cells (bc (List.replicate 32 0)).toArray 54)] q := fun q ⟨x1, m1, q1⟩ ⟨x2, m2, q2⟩ => hp.2.2 x1 m1 x2 (List.mem_append_right _ m2) q q1 q2
  have old : ∀ q, feet ([nmE N] ++ ([.blk g0 (.cells #[.int .i64 0, .int .i64 0, .int .i64 0] 35)] ++ [.blk g1 (.cells (bc (List.replicate 32 0)).toArray 54)])) q → q < w.heap.size := fun q ⟨x1, m1, q1⟩ => M.lt x1 (List.mem_append_left _ m1) q q1
  refine wp_seq (free_regR (B := T.tab24_8_b) (Vs := (.exact (.agg #[.int .i64 s, .int .i64 l, .int .i64 b]) :: .exact (.iface 31 (.pointer (some ⟨N.gn, 0, none⟩))) :: .exact c :: CameI w.heap.size ([nmE N]) (fun _ : NV => .agg (bc (sumOf (textNo N.ts (A.read 0)))).toArray) (fun y => [nmE y]) (fun y : NV => y.gn = N.gn ∧ y.ks = N.ks ∧ y.ts = textKs N.ts (A.read 0)) :: CameI w.heap.size ([.blk g0 (.cells #[.int .i64 0, .int .i64 0, .int .i64 0] 35)]) (fun _ : Unit => undef) (fun _ => [.blk g0 (.cells #[.int .i64 s, .int .i64 l, .int .i64 b] 35)]) (fun _ => True) :: CameI w.heap.size ([.blk g1 (.cells (bc (List.replicate 32 0)).toArray 54)]) (fun _ : Unit => undef) (fun _ => [.blk g1 (.cells (bc (sumOf (textNo N.ts (A.read 0)))).toArray 54)]) (fun _ => True) :: .exact (.int .i64 0) :: [])) (ownRoad (thrFs 3 4 5 ([nmE N]) ([.blk g0 (.cells #[.int .i64 0, .int .i64 0, .int .i64 0] 35)]) ([.blk g1 (.cells (bc (List.replicate 32 0)).toArray 54)])) w.drew) T.tab24_8_i E T.mixed T.tab24_8 rfl ?_ ⟨fr_val rfl rfl M (fun i g h => thrFs_in h) (fun x w' M' hB hk => ⟨_, _, rfl, rfl, rfl, run_loadAll rfl rfl T.agg35 (M'.row (i := 0) rfl) rfl, Ext.refl _, rfl⟩),
      fr_val rfl rfl M (fun i g h => thrFs_in h) (fun x w' M' hB hk => ⟨_, _, rfl, rfl, rfl, run_move rfl rfl, Ext.refl _, rfl⟩),
      fr_val rfl rfl M (fun i g h => thrFs_in h) (fun x w' M' hB hk => ⟨_, _, rfl, rfl, rfl, run_move rfl rfl, Ext.refl _, rfl⟩),
      fr_call (J := [nmE N]) rfl rfl M (fun i g h => thrFs_in h) (M.has.sub ((List.sublist_append_left _ _).trans (List.sublist_append_left _ _))) (fun j hj q h => h.elim (fun h => absurd h.1 hj) fun h => h.elim (fun h c => h34 q c h.2) fun h c => h35 q c h.2) (fun x w' M' H' hB hk => ⟨_, _, rfl, rfl, rfl, run_invoke rfl rfl T.meth31_Sum T.fn133, (Sum_p (N := N) H' (M'.bytes 3 rfl) hoff htz).own (Fs := thrFs 3 4 5 ([nmE N]) ([.blk g0 (.cells #[.int .i64 0, .int .i64 0, .int .i64 0] 35)]) ([.blk g1 (.cells (bc (List.replicate 32 0)).toArray 54)])) (i := 3) hB (fun q hq => Or.inl ⟨rfl, hq⟩)⟩),
      fr_setG (cs := #[.int .i64 0, .int .i64 0, .int .i64 0]) (cs' := #[.int .i64 s, .int .i64 l, .int .i64 b]) rfl rfl M (fun i g h => thrFs_in h) (M.has.sub ((List.sublist_append_left _ _).trans ((List.sublist_append_right _ _).trans (List.sublist_append_left _ _)))) (fun j hj q h => h.elim (fun h c => h34 q h.2 c) fun h => h.elim (fun h => absurd h.1 hj) fun h c => h45 q c h.2) (fun q hq => Or.inr (Or.inl ⟨rfl, hq⟩)) (fun x w' M' H' hB hk => ⟨rfl, rfl, rfl, run_storeAll (vs := #[.int .i64 s, .int .i64 l, .int .i64 b]) rfl rfl rfl T.size35 rfl (H'.ent 0 rfl) rfl (by simp [Value.oneCell'])⟩),
      fr_setG (cs := (bc (List.replicate 32 0)).toArray) (cs' := (bc (sumOf (textNo N.ts (A.read 0)))).toArray) rfl rfl M (fun i g h => thrFs_in h) (M.has.sub ((List.sublist_append_right _ _).trans ((List.sublist_append_right _ _).trans (List.sublist_append_left _ _)))) (fun j hj q h => h.elim (fun h c => h35 q h.2 c) fun h => h.elim (fun h c => h45 q h.2 c) fun h => absurd h.1 hj) (fun q hq => Or.inr (Or.inr ⟨rfl, hq⟩)) (fun x w' M' H' hB hk => ⟨rfl, rfl, rfl, by obtain ⟨y, hy, _⟩ := hk 3 rfl; exact run_storeAll (vs := (bc (sumOf (textNo N.ts (A.read 0)))).toArray) rfl rfl hy T.size54 rfl (H'.ent 0 rfl) rfl (fun v hv => bc_one v (by simpa using hv))⟩),
      fr_val rfl rfl M (fun i g h => thrFs_in h) (fun x w' M' hB hk => ⟨_, _, rfl, rfl, rfl, run_assignC rfl, Ext.refl _, rfl⟩), trivial⟩ ?_)
  · exact allG_ok rfl ⟨trivial, trivial, trivial, LastsR.came (fun q ⟨i, h0, h⟩ => old q (thrFs_in h)) (fun q ⟨i, h0, h⟩ c => h.elim (fun h => h0 h.1) fun h => h.elim (fun h => h34 q c h.2) fun h => h35 q c h.2), LastsR.came (fun q ⟨i, h0, h⟩ => old q (thrFs_in h)) (fun q ⟨i, h0, h⟩ c => h.elim (fun h => h34 q h.2 c) fun h => h.elim (fun h => h0 h.1) fun h => h45 q c h.2), LastsR.came (fun q ⟨i, h0, h⟩ => old q (thrFs_in h)) (fun q ⟨i, h0, h⟩ c => h.elim (fun h => h35 q h.2 c) fun h => h.elim (fun h => h45 q h.2 c) fun h => h0 h.1), trivial, trivial⟩
  intro x fr w ⟨bb, hb, hI⟩ hk E
  obtain ⟨N4, hy, ⟨hN4, hN5, hN6⟩, M⟩ := M.behind3 (val := fun _ : NV => .agg (bc (sumOf (textNo N.ts (A.read 0)))).toArray) (outs := fun y => [nmE y]) (p := fun y : NV => y.gn = N.gn ∧ y.ks = N.ks ∧ y.ts = textKs N.ts (A.read 0)) (K' := [.blk g0 (.cells #[.int .i64 s, .int .i64 l, .int .i64 b] 35)]) (I' := [.blk g1 (.cells (bc (sumOf (textNo N.ts (A.read 0)))).toArray 54)]) hI (hk 3 (by decide)) (hk 4 (by decide)) (hk 5 (by decide)) (fun q h => feet_one.2 (by have := feet_one.1 h; exact this)) (fun q h => feet_one.2 (by have := feet_one.1 h; exact this))
  refine then_normal ?_
  refine wp_ret ?_
  refine retCC3 E rfl rfl rfl rfl T.agg35 (M.row (i := 1) rfl) (rfl) T.agg54 (M.row (i := 2) rfl) (rfl) ?_
  have M := M.pull 7 rfl
  exact ⟨(D2, N4), rfl, Mem.fin (L := [dkE D2, nmE N4] ++ _) M (List.sublist_append_left _ _) ⟨hD2, hN4, hN5, hN6⟩⟩

theorem superRead_y {D : DV} {N : NV} {g : Nat} {A : AD} {e s l b : Int} {w0 : World} (H : Has w0 [dkE D, nmE N]) (hD : D.is g A) (hn : 0 < A.n) (hkz : N.ks.length ≤ 1099511627776) (htz : N.ts.length ≤ 1099511627776) (hg : sgetX N.ks 1 0 (A.read 0) = some (e, 0, geoB s l b)) (hgm : GMay s l b) {a : Nat} (ha : N.gn = a) : Does Tryz.prog 24 [.pointer (some ⟨g, 0, none⟩), .iface 31 (.pointer (some ⟨a, 0, none⟩))] w0 [dkE D, nmE N] (fun _ : DV × NV => .tuple #[.agg #[.int .i64 s, .int .i64 l, .int .i64 b], .agg (bc (sumOf (textNo N.ts (A.read 0)))).toArray, .int .i64 0]) (fun x => [dkE x.1, nmE x.2]) (fun x => x.1.is g (A.bump 0) ∧ x.2.gn = a ∧ x.2.ks = N.ks ∧ x.2.ts = textKs N.ts (A.read 0)) := by
  subst ha
  exact superRead_x H hD hn hkz htz hg hgm
end Go.Proofs.YtnebjbgcibjohaaGreat.K
end
section
namespace Go.Proofs.YtnebjbgcibjohaaGreat.K
open Go.RowKit Go.Rill Go.Proofs
set_option linter.unusedVariables false
set_option linter.unusedSimpArgs false
/-- All that was sealed are superblocks and second regions. -/
def HeadsOk (ks : List NKey) : Prop := ∀ k ∈ ks, k.h = hdB 1 0 ∨ k.h = hdB 2 2
theorem HeadsOk.seals {ks : List NKey} (h : HeadsOk ks) {k : NKey} (hk : k.h = hdB 1 0 ∨ k.h = hdB 2 2) : HeadsOk (sealKs ks k) := fun q hq => by
  unfold sealKs at hq
  split at hq
  · exact h q hq
  · rcases List.mem_append.1 hq with hq | hq
    · exact h q hq
    · rw [List.mem_singleton.1 hq]; exact hk
theorem HeadsOk.seal {ks : List NKey} (h : HeadsOk ks) {e n : Int} {hd p : List UInt8} (hk : hd = hdB 1 0 ∨ hd = hdB 2 2) : HeadsOk (sealS ks e n hd p) := by
  unfold sealS
  split
  · exact h.seals hk
  · exact h
theorem superW_heads {A : AD} {v s l b e : Int} {ks : List NKey} {ts : List (List UInt8)} (h : HeadsOk ks) : HeadsOk (superW A ks ts e s l b).ks := by
  unfold superW
  split
  · exact h.seal (.inl rfl)
  · exact h.seal (.inl rfl)
theorem regW_heads {A : AD} {e : Int} {sm : List UInt8} {ks : List NKey} (h : HeadsOk ks) : HeadsOk (regW A ks (fRec e sm) 1).2.2 := by
  unfold regW
  split
  · exact h.seal (.inr rfl)
  · exact h
theorem fmt_heads {A : AD} {v s l b : Int} {ks : List NKey} {ts : List (List UInt8)} (h : HeadsOk ks) : HeadsOk (fmtF A v ks ts s l b).ks := by
  unfold fmtF
  split
  · exact h
  unfold fm1
  split
  · exact h
  have h1 : ∀ A e, HeadsOk (superW A ks ts e s l b).ks := fun A e => superW_heads (v := v) h
  unfold fm2
  split
  · exact h1 _ _
  have h2 : ∀ A e A2 e2 sm, HeadsOk (regW A2 (superW A ks ts e s l b).ks (fRec e2 sm) 1).2.2 := fun A e A2 e2 sm => regW_heads (h1 A e)
  unfold fm3
  split
  · exact h2 _ _ _ _ _
  unfold fm4
  split
  · exact h2 _ _ _ _ _
  · exact h2 _ _ _ _ _
theorem run_heads {A : AD} {v : Int} {ks : List NKey} {ts : List (List UInt8)} {o : OpF} (h : HeadsOk ks) : HeadsOk (runF A v ks ts o).ks := by
  unfold runF
  split
  · exact fmt_heads h
  split
  · exact h
  split
  · exact h
  split
  · exact h
  · exact h
/-- .. and levels and tries go up by two at the most. -/
theorem run_up {A : AD} {v : Int} {ks : List NKey} {ts : List (List UInt8)} {o : OpF} {R : FMR} (hR : R = runF A v ks ts o) (hv : 0 ≤ v) : R.v / 1048576 + R.v % 1048576 ≤ v / 1048576 + v % 1048576 + 2 := by
  obtain ⟨w1, w2, w3, w4, w5, w6⟩ := run_went (A := A) (ks := ks) (ts := ts) (o := o) hv
  rw [← hR] at w4 w5 w6
  by_cases h0 : o.k = 0
  · by_cases hr : refZ A.n v o.a o.b o.c = 0
    · have hne := (refZ_in hr).2.2.1
      have hfe : fE v = (v + 1) / 1048576 + 1 + (v + 1) % 1048576 := rfl
      rcases w6 h0 hr with ⟨_, b⟩ | ⟨_, b | b⟩
      · rw [b, Int.mul_ediv_cancel _ (by decide), Int.mul_emod_left]; omega
      · rw [b]; omega
      · rw [b]; omega
    · rw [(w5 h0 hr).2.1]; omega
  · rw [w4 h0]; omega
/-- Sector 1 tells no record. -/
theorem one_heads {A : AD} {ks : List NKey} (h : HeadsOk ks) : (oneX A ks 1).2 = false := by
  unfold oneX
  split
  · rfl
  · rename_i e n q hs
    unfold sgetX at hs
    split at hs
    · rw [Option.map_eq_some_iff] at hs
      obtain ⟨q', h1, _⟩ := hs
      rcases h _ (open_in h1) with h2 | h2
      · exact absurd (show hdB 2 1 = hdB 1 0 from h2) (by decide)
      · exact absurd (show hdB 2 1 = hdB 2 2 from h2) (by decide)
    · cases hs
theorem late_ok (lv : Int) {r : Rec} (h : r.stamp = lv) : late lv r = false := by
  unfold late
  exact decide_eq_false (by omega)
theorem choice_one {lv : Int} {r : Rec} (h : r.stamp = lv) : choice lv [r] = some r := by
  unfold choice
  rw [List.filter_cons_of_pos (by rw [late_ok lv h]; rfl)]
  show some (pickR r [r]) = some r
  unfold pickR
  simp
section
variable {A : AD} {v s l b : Int} {ks : List NKey} {ts : List (List UInt8)}
theorem found_heads (h : HeadsOk ks) : HeadsOk (fKs2 v s l b ks ts) := (h.seals (.inl rfl)).seals (.inr rfl)
/-- What All tells behind a whole Format. -/
theorem found_all {A' : AD} {n : Nat} (h : HeadsOk ks) (hv : 0 ≤ v) (hr : refZ n v s l b = 0) (hrd : A'.read 2 = fB2 v s l b ks ts) : allL A' (fKs2 v s l b ks ts) 2 = [fR v s l b ks ts] := by
  have e2 : oneX A' (fKs2 v s l b ks ts) 2 = (fR v s l b ks ts, true) := fmt_one hv hr hrd
  rw [allL_yes (by rw [one_bumps, e2]), allL_no (by rw [one_bumps]; exact one_heads (found_heads h)), one_bumps, e2]
  rfl
theorem nat_seals {k q : NKey} {m : Nat} (h : nat' k ks 0 = some m) : nat' k (sealKs ks q) 0 = some m := by
  unfold sealKs
  split
  · exact h
  · exact nat_app h
/-- .. and the superblock is found. -/
theorem found_sget {n : Nat} (hv : 0 ≤ v) (hr : refZ n v s l b = 0) : sgetX (fKs2 v s l b ks ts) 1 0 (fB0 v s l b ks) = some (fE v, 0, geoB s l b) := by
  obtain ⟨m, h1, h2⟩ := seal_at ks (fK0 v s l b)
  exact sget_of (by decide) (ep_right hv hr) (by rw [geoB_len]; decide) (nat_seals h1) h2
theorem text_again (ts : List (List UInt8)) (x : List UInt8) : textNo (textKs ts x) x = textNo ts x := by
  unfold textKs
  split
  · rfl
  · rename_i h
    unfold textNo
    rw [nat_last h, nat_none h]
    simp
theorem crash_n (A : AD) (l : List Int) : (A.crash l).n = A.n := rfl
theorem found_ref (hn : A.n = 2051) (hv : 0 ≤ v) (hs : v / 1048576 + v % 1048576 ≤ 120) (hg : GMay s l b) : refZ A.n v s l b = 0 := by
  have := gmay_sl hg
  unfold refZ
  rw [if_neg (fun c => c hg), if_neg (by omega), if_neg]
  unfold epochZ
  rintro (c | c) <;> omega
theorem found_fE (hv : 0 ≤ v) (hs : v / 1048576 + v % 1048576 ≤ 120) : fE v = v / 1048576 + v % 1048576 + 2 := by
  show (v + 1) / 1048576 + 1 + (v + 1) % 1048576 = _
  omega
end
end Go.Proofs.YtnebjbgcibjohaaGreat.K
end
section
namespace Go.Proofs.YtnebjbgcibjohaaGreat.K
open Go.RowKit Go.Rill Go.Proofs
set_option linter.unusedVariables false
set_option linter.unusedSimpArgs false
theorem bneF2 {a b : Int} (h : a = b) : (a != b) = false := by simp [h]
theorem bneT2 {a b : Int} (h : ¬ a = b) : (a != b) = true := by simp [h]
theorem fR_stamp {v s l b : Int} {ks : List NKey} {ts : List (List UInt8)} (h1 : 2 ≤ fE v) (h2 : fE v ≤ 1099511627776) : StampIn (fR v s l b ks ts) := by
  show -9223372036854775808 ≤ fE v ∧ fE v ≤ 9223372036854775807
  omega
set_option maxRecDepth 100000 in
theorem FormatFound_long {gs gl gb : Int} {a : Value} {l : List OpF} {F : Nat → Prop} {w0 : World} (ha : OpsF w0 F a l) (hF : ∀ g, w0.heap.size ≤ g → F g) (hav : ∀ g, a.ownBlock = some g → ¬ F g) (hl : LongF l) : Gives Tryz.prog 5 [a, .agg #[.int .i64 gs, .int .i64 gl, .int .i64 gb]] w0 (.bool true) := by
  refine enter (n := 144) Tryz.func5 rfl rfl rfl ?_
  intro fr E
  have M : Mem w0 (feet []) [] (fun w' => OpsF w' F a l) w0 := Mem.begin (Has.nil w0) (fun w' h => OpsF.held ha ⟨h.size, fun g hg _ => h.block g hg feet_nil⟩ hav)
  refine code_region ?_
  refine snew (ob := .cells (#[.int .i64 gs, .int .i64 gl, .int .i64 gb]) 35) (fun g => .pointer (some ⟨g, 0, none⟩)) E M rfl rfl rfl rfl rfl (run_boxN (cs := (#[.int .i64 gs, .int .i64 gl, .int .i64 gb])) rfl rfl) fun g0 fr w M E => ?_
  refine sw E (run_assignC rfl) fun fr E => ?_
  refine seq_nil' ?_
  refine wp_seq ?_
  refine code_region ?_
  refine mv E fun fr E => ?_
  refine sgive E M rfl rfl rfl rfl rfl (run_call rfl rfl T.fn7) (longF_x M.fact hav) fun fr w M E => ?_
  rw [decide_eq_true hl] at E
  refine mv E fun fr E => ?_
  refine sno E rfl rfl rfl rfl fun fr E => ?_
  refine sno E rfl rfl rfl rfl fun fr E => ?_
  refine sno E rfl rfl rfl rfl fun fr E => ?_
  refine sw (v := .bool _) E (rfl) fun fr E => ?_
  refine seq_nil' ?_
  refine cond_true E rfl (rfl) ?_
  refine code_region ?_
  refine sgive E M rfl rfl rfl rfl rfl (run_call rfl rfl T.fn8) (worksF_c _) fun fr w M E => ?_
  refine ma E fun fr E => ?_
  refine seq_nil' ?_
  refine wp_ret ?_
  refine then_ret ?_
  refine ret1 E rfl rfl ?_
  exact given M

set_option maxRecDepth 100000 in
theorem FormatFound_no {gs gl gb : Int} {a : Value} {l : List OpF} {F : Nat → Prop} {w0 : World} (ha : OpsF w0 F a l) (hF : ∀ g, w0.heap.size ≤ g → F g) (hav : ∀ g, a.ownBlock = some g → ¬ F g) (hl : ¬ LongF l) (hgm : ¬ GMay gs gl gb) : Gives Tryz.prog 5 [a, .agg #[.int .i64 gs, .int .i64 gl, .int .i64 gb]] w0 (.bool true) := by
  refine enter (n := 144) Tryz.func5 rfl rfl rfl ?_
  intro fr E
  have M : Mem w0 (feet []) [] (fun w' => OpsF w' F a l) w0 := Mem.begin (Has.nil w0) (fun w' h => OpsF.held ha ⟨h.size, fun g hg _ => h.block g hg feet_nil⟩ hav)
  refine code_region ?_
  refine snew (ob := .cells (#[.int .i64 gs, .int .i64 gl, .int .i64 gb]) 35) (fun g => .pointer (some ⟨g, 0, none⟩)) E M rfl rfl rfl rfl rfl (run_boxN (cs := (#[.int .i64 gs, .int .i64 gl, .int .i64 gb])) rfl rfl) fun g0 fr w M E => ?_
  refine sw E (run_assignC rfl) fun fr E => ?_
  refine seq_nil' ?_
  refine wp_seq ?_
  refine code_region ?_
  refine mv E fun fr E => ?_
  refine sgive E M rfl rfl rfl rfl rfl (run_call rfl rfl T.fn7) (longF_x M.fact hav) fun fr w M E => ?_
  rw [decide_eq_false hl] at E
  refine mv E fun fr E => ?_
  refine sw (v := .agg #[.int .i64 gs, .int .i64 gl, .int .i64 gb]) E (run_loadAll rfl rfl T.agg35 (M.row (i := 0) rfl) rfl) fun fr E => ?_
  refine sgive E M rfl rfl rfl rfl rfl (run_call rfl rfl T.fn16) (Check_no hgm) fun fr w M E => ?_
  refine sw (v := .bool true) E (tst rfl (rfl)) fun fr E => ?_
  refine sw (v := .bool _) E (rfl) fun fr E => ?_
  refine seq_nil' ?_
  refine cond_true E rfl (rfl) ?_
  refine code_region ?_
  refine sgive E M rfl rfl rfl rfl rfl (run_call rfl rfl T.fn8) (worksF_c _) fun fr w M E => ?_
  refine ma E fun fr E => ?_
  refine seq_nil' ?_
  refine wp_ret ?_
  refine then_ret ?_
  refine ret1 E rfl rfl ?_
  exact given M

set_option maxHeartbeats 2000000 in
set_option maxRecDepth 100000 in
theorem FormatFound_in {gs gl gb : Int} {a : Value} {l : List OpF} {F : Nat → Prop} {w0 : World} (ha : OpsF w0 F a l) (hF : ∀ g, w0.heap.size ≤ g → F g) (hav : ∀ g, a.ownBlock = some g → ¬ F g) (hl : ¬ LongF l) (hgm : GMay gs gl gb) : Gives Tryz.prog 5 [a, .agg #[.int .i64 gs, .int .i64 gl, .int .i64 gb]] w0 (.bool true) := by
  refine enter (n := 144) Tryz.func5 rfl rfl rfl ?_
  intro fr E
  have M : Mem w0 (feet []) [] (fun w' => OpsF w' F a l) w0 := Mem.begin (Has.nil w0) (fun w' h => OpsF.held ha ⟨h.size, fun g hg _ => h.block g hg feet_nil⟩ hav)
  refine code_region ?_
  refine snew (ob := .cells (#[.int .i64 gs, .int .i64 gl, .int .i64 gb]) 35) (fun g => .pointer (some ⟨g, 0, none⟩)) E M rfl rfl rfl rfl rfl (run_boxN (cs := (#[.int .i64 gs, .int .i64 gl, .int .i64 gb])) rfl rfl) fun g0 fr w M E => ?_
  refine sw E (run_assignC rfl) fun fr E => ?_
  refine seq_nil' ?_
  refine wp_seq ?_
  refine code_region ?_
  refine mv E fun fr E => ?_
  refine sgive E M rfl rfl rfl rfl rfl (run_call rfl rfl T.fn7) (longF_x M.fact hav) fun fr w M E => ?_
  rw [decide_eq_false hl] at E
  refine mv E fun fr E => ?_
  refine sw (v := .agg #[.int .i64 gs, .int .i64 gl, .int .i64 gb]) E (run_loadAll rfl rfl T.agg35 (M.row (i := 0) rfl) rfl) fun fr E => ?_
  refine sgive E M rfl rfl rfl rfl rfl (run_call rfl rfl T.fn16) (Check_ok hgm) fun fr w M E => ?_
  refine sw (v := .bool false) E (tst rfl (rfl)) fun fr E => ?_
  refine sw (v := .bool _) E (rfl) fun fr E => ?_
  refine seq_nil' ?_
  refine cond_false E rfl (rfl) ?_
  refine wp_skip ?_
  refine then_normal ?_
  refine code_region ?_
  refine scall E M rfl rfl rfl rfl rfl (run_call rfl rfl T.fn6) (dNew_ok (k := 2051) (by decide) (by decide)) rfl ?_
  rintro D0 fr w hD0 M E
  refine mv E fun fr E => ?_
  refine sw E (run_extract rfl rfl rfl) fun fr E => ?_
  refine sw E (run_extract rfl rfl rfl) fun fr E => ?_
  refine ma E fun fr E => ?_
  refine ma E fun fr E => ?_
  refine seq_nil' ?_
  refine wp_seq ?_
  refine code_region ?_
  refine mv E fun fr E => ?_
  refine sw (v := .bool false) E (tst rfl (rfl)) fun fr E => ?_
  refine seq_nil' ?_
  refine cond_false E rfl (rfl) ?_
  refine wp_skip ?_
  refine then_normal ?_
  refine code_region ?_
  refine mv E fun fr E => ?_
  refine scall E M rfl rfl rfl rfl rfl (run_call rfl rfl T.fn9) (cNew_x (g := D0.gd)) rfl ?_
  rintro gk fr w - M E
  refine ma E fun fr E => ?_
  refine seq_nil' ?_
  refine code_region ?_
  refine scall E M rfl rfl rfl rfl rfl (run_call rfl rfl T.fn10) (nNew_x _) rfl ?_
  rintro N0 fr w ⟨hk0, ht0⟩ M E
  refine ma E fun fr E => ?_
  refine seq_nil' ?_
  refine wp_seq ?_
  obtain ⟨g, hgg⟩ : ∃ g, g = D0.gd := ⟨_, rfl⟩
  rw [← hgg] at hD0 E M
  obtain ⟨g1, hg1⟩ : ∃ g1, g1 = N0.gn := ⟨_, rfl⟩
  rw [← hg1] at E
  refine code_region ?_
  refine sw E (run_assignC rfl) fun fr E => ?_
  refine seq_nil' ?_
  refine wp_block ?_
  refine loop_dec (fun d fr w => ∃ (i : Nat) (D : DV) (A : AD) (N : NV) (v : Int), d = l.length - i ∧ i ≤ l.length ∧ D.is g A ∧ A.n = 2051 ∧ N.gn = g1 ∧ N.ks.length ≤ 2 * i ∧ N.ts.length ≤ 2 * i ∧ 0 ≤ v ∧ v ≤ 1152921504606846976 ∧ v / 1048576 + v % 1048576 ≤ 2 * (i : Nat) ∧ HeadsOk N.ks ∧ Env [(9, .int .i64 (i : Int)), (8, .pointer (some ⟨g1, 0, none⟩)), (7, .pointer (some ⟨gk, 0, none⟩)), (5, .pointer (some ⟨g, 0, none⟩)), (3, .pointer (some ⟨g0, 0, none⟩)), (0, a)] 144 fr ∧ Mem w0 (feet []) [.blk g0 (.cells #[.int .i64 gs, .int .i64 gl, .int .i64 gb] 35), dkE D, nmE N, cE g gk v] (fun w' => OpsF w' F a l) w) (l.length) ?_ ?_
  · have M := M.pull 1 rfl
    have M := M.pull 1 rfl
    have M := M.pull 2 rfl
    have M := M.pull 3 rfl
    exact ⟨0, D0, AD.new 2051, N0, 0, rfl, Nat.zero_le _, hD0, rfl, hg1.symm, by rw [hk0]; exact Nat.le_refl _, by rw [ht0]; exact Nat.le_refl _, by decide, by decide, by decide, (by rw [hk0]; exact fun k hk => nomatch hk), ((((((Env.nil E).add E (t := 0) rfl).add E (t := 3) rfl).add E (t := 5) rfl).add E (t := 7) rfl).add E (t := 8) rfl).add E (t := 9) rfl, M⟩
  · clear E M
    rintro d fr w ⟨i, D, A, N, v, rfl, hle, hD, hAn, hg1, hk0, ht0, hv, hv2, hs2, hh, E, M⟩
    by_cases hi : i < l.length
    · obtain ⟨b1, c1, e1⟩ := (M.fact.2 _ (List.getElem_mem hi)).1.slice
      obtain ⟨b2, c2, e2⟩ := (M.fact.2 _ (List.getElem_mem hi)).2.slice
      have h60 : ¬ 60 < l.length := fun c => hl (.inl c)
      by_cases h3 : (l[i]).k = 3
      · refine wp_seq ?_
        refine code_region ?_
        refine mv E fun fr E => ?_
        refine mv E fun fr E => ?_
        refine sw (v := .int .i64 _) E (run_lenR rfl rfl rfl rfl T.slice22 (M.fact).1) fun fr E => ?_
        refine sw (v := .bool true) E (tst rfl (decide_eq_true (by omega))) fun fr E => ?_
        refine seq_nil' ?_
        refine cond_true E rfl (rfl) ?_
        refine wp_skip ?_
        refine then_normal ?_
        refine wp_seq ?_
        refine wp_block ?_
        refine code_region ?_
        refine mv E fun fr E => ?_
        refine mv E fun fr E => ?_
        refine sw (v := cellAt a (i * 7)) E (run_indexR (i := i) rfl (M.fact).1 rfl rfl (rfl) (hi) T.slice22 T.size38) fun fr E => ?_
        refine sw E (run_fieldAddrR rfl (M.fact).1 rfl T.fld38_0 (by omega)) fun fr E => ?_
        refine sw (v := .int .i64 (l[i]).k) E (run_loadR rfl (M.fact).1 rfl T.one3 (fcs_k hi)) fun fr E => ?_
        refine sw (v := .bool false) E (tst rfl (bneF2 h3)) fun fr E => ?_
        refine seq_nil' ?_
        refine cond_false E rfl (rfl) ?_
        refine wp_skip ?_
        refine block_normal ?_
        refine then_normal ?_
        refine code_last ?_
        refine mv E fun fr E => ?_
        refine sw (v := .int _ (((i + 1 : Nat) : Int))) E (num rfl ((i64_id (by omega) (by omega)).trans (by omega))) fun fr E => ?_
        refine ma E fun fr E => ?_
        refine seq_nil ?_
        refine then_any ?_
        have M := M.pull 3 rfl
        have M := M.pull 3 rfl
        have M := M.pull 3 rfl
        have M := M.pull 3 rfl
        exact ⟨l.length - (i + 1), by omega, i + 1, D, A, N, v, rfl, by omega, hD, hAn, hg1, by omega, by omega, hv, hv2, by omega, hh, ((((((Env.nil E).add E (t := 0) rfl).add E (t := 3) rfl).add E (t := 5) rfl).add E (t := 7) rfl).add E (t := 8) rfl).add E (t := 9) rfl, Mem.take (L := [.blk g0 (.cells #[.int .i64 gs, .int .i64 gl, .int .i64 gb] 35), dkE D, nmE N, cE g gk v]) M⟩
      · refine wp_seq ?_
        refine code_region ?_
        refine mv E fun fr E => ?_
        refine mv E fun fr E => ?_
        refine sw (v := .int .i64 _) E (run_lenR rfl rfl rfl rfl T.slice22 (M.fact).1) fun fr E => ?_
        refine sw (v := .bool true) E (tst rfl (decide_eq_true (by omega))) fun fr E => ?_
        refine seq_nil' ?_
        refine cond_true E rfl (rfl) ?_
        refine wp_skip ?_
        refine then_normal ?_
        refine wp_seq ?_
        refine wp_block ?_
        refine code_region ?_
        refine mv E fun fr E => ?_
        refine mv E fun fr E => ?_
        refine sw (v := cellAt a (i * 7)) E (run_indexR (i := i) rfl (M.fact).1 rfl rfl (rfl) (hi) T.slice22 T.size38) fun fr E => ?_
        refine sw E (run_fieldAddrR rfl (M.fact).1 rfl T.fld38_0 (by omega)) fun fr E => ?_
        refine sw (v := .int .i64 (l[i]).k) E (run_loadR rfl (M.fact).1 rfl T.one3 (fcs_k hi)) fun fr E => ?_
        refine sw (v := .bool true) E (tst rfl (bneT2 h3)) fun fr E => ?_
        refine seq_nil' ?_
        refine cond_true E rfl (rfl) ?_
        refine code_last ?_
        refine mv E fun fr E => ?_
        refine mv E fun fr E => ?_
        refine mv E fun fr E => ?_
        refine sw E (rfl) fun fr E => ?_
        refine mv E fun fr E => ?_
        refine mv E fun fr E => ?_
        refine sw (v := cellAt a (i * 7)) E (run_indexR (i := i) rfl (M.fact).1 rfl rfl (rfl) (hi) T.slice22 T.size38) fun fr E => ?_
        refine sw (v := .agg (l[i]).cells.toArray) E (run_loadRN (k := i * 7) rfl (M.fact).1 rfl T.agg38 (by omega) (by decide) (fcs_get hi)) fun fr E => ?_
        have M := M.pull 3 rfl
        have M := M.pull 3 rfl
        have M := M.pull 3 rfl
        refine scallI ([dkE D, nmE N, cE g gk v]) E M rfl rfl rfl rfl rfl (run_call rfl rfl T.fn13) rfl (fun H => runF_y (g := g) (gk := gk) (A := A) (v := v) (o := l[i]'hi) H hD (by omega) (by omega) hv hv2 ((M.fact.2 _ (List.getElem_mem hi)).1.less (fun q ⟨e', he', hq⟩ => hF q ((M.own e' ((List.sublist_append_left [dkE D, nmE N, cE g gk v] _).mem he') q hq).resolve_right feet_nil))) ((M.fact.2 _ (List.getElem_mem hi)).2.less (fun q ⟨e', he', hq⟩ => hF q ((M.own e' ((List.sublist_append_left [dkE D, nmE N, cE g gk v] _).mem he') q hq).resolve_right feet_nil))) h3 hg1) ?_
        rintro ⟨D1, N1⟩ fr w ⟨hD1, hg2, hk2, ht2⟩ M E
        have hh2 : HeadsOk N1.ks := by rw [hk2]; exact run_heads hh
        obtain ⟨R, hR⟩ : ∃ R, R = runF A v N.ks N.ts (l[i]'hi) := ⟨_, rfl⟩
        rw [← hR] at hD1 hk2 ht2 M E
        obtain ⟨r1, r2, r3, r4, r5, r6, r7, r8⟩ := run_nums hR hv hv2
        have r9 := run_up hR hv
        have hk3 : N1.ks.length ≤ 2 * (i + 1) := by rw [hk2]; omega
        have ht3 : N1.ts.length ≤ 2 * (i + 1) := by rw [ht2]; omega
        have hv3 : 0 ≤ R.v := Int.le_trans hv r1
        refine seq_nil ?_
        refine block_normal ?_
        refine then_normal ?_
        refine code_last ?_
        refine mv E fun fr E => ?_
        refine sw (v := .int _ (((i + 1 : Nat) : Int))) E (num rfl ((i64_id (by omega) (by omega)).trans (by omega))) fun fr E => ?_
        refine ma E fun fr E => ?_
        refine seq_nil ?_
        refine then_any ?_
        have M := M.pull 2 rfl
        have M := M.pull 2 rfl
        have M := M.pull 2 rfl
        have M := M.pull 3 rfl
        exact ⟨l.length - (i + 1), by omega, i + 1, D1, R.A, N1, R.v, rfl, by omega, hD1, r6.trans hAn, hg2, hk3, ht3, hv3, r2, by omega, hh2, ((((((Env.nil E).add E (t := 0) rfl).add E (t := 3) rfl).add E (t := 5) rfl).add E (t := 7) rfl).add E (t := 8) rfl).add E (t := 9) rfl, Mem.take (L := [.blk g0 (.cells #[.int .i64 gs, .int .i64 gl, .int .i64 gb] 35), dkE D1, nmE N1, cE g gk R.v]) M⟩
    · obtain rfl : i = l.length := by omega
      have h60 : ¬ 60 < l.length := fun c => hl (.inl c)
      have hs120 : v / 1048576 + v % 1048576 ≤ 120 := by omega
      have hr : refZ (A.crash []).n v gs gl gb = 0 := found_ref ((crash_n A []).trans hAn) hv hs120 hgm
      obtain ⟨f1, f2, f3, f4, f5⟩ := fE_in hv hr
      refine wp_seq ?_
      refine code_region ?_
      refine mv E fun fr E => ?_
      refine mv E fun fr E => ?_
      refine sw (v := .int .i64 _) E (run_lenR rfl rfl rfl rfl T.slice22 (M.fact).1) fun fr E => ?_
      refine sw (v := .bool false) E (tst rfl (decide_eq_false (by omega))) fun fr E => ?_
      refine seq_nil' ?_
      refine cond_false E rfl (rfl) ?_
      refine wp_exit ?_
      refine then_exit ?_
      refine then_exit ?_
      refine block_exit ?_
      refine then_normal ?_
      refine code_region ?_
      refine mv E fun fr E => ?_
      have M := M.pull 1 rfl
      refine scallI ([dkE D]) E M rfl rfl rfl rfl rfl (run_call rfl rfl T.fn23) rfl (fun H => Crash_b H hD (.inl ⟨Reads.nil _ _, fun g hg => by cases hg⟩ : FarI _ _ (.slice none 0 0) [])) ?_
      rintro D2 fr w hD2 M E
      refine seq_nil' ?_
      refine code_region ?_
      refine mv E fun fr E => ?_
      refine sgive E M rfl rfl rfl rfl rfl (run_call rfl rfl T.fn11) (cValue_x (g := g) (M.row (i := 3) rfl)) fun fr w M E => ?_
      refine ma E fun fr E => ?_
      refine seq_nil' ?_
      refine wp_seq ?_
      refine code_region ?_
      refine mv E fun fr E => ?_
      refine mv E fun fr E => ?_
      refine mv E fun fr E => ?_
      refine sw E (rfl) fun fr E => ?_
      refine sw (v := .agg #[.int .i64 gs, .int .i64 gl, .int .i64 gb]) E (run_loadAll rfl rfl T.agg35 (M.row (i := 1) rfl) rfl) fun fr E => ?_
      have M := M.pull 3 rfl
      have M := M.pull 3 rfl
      have M := M.pull 2 rfl
      refine scallI ([dkE D2, nmE N, cE g gk v]) E M rfl rfl rfl rfl rfl (run_call rfl rfl T.fn20) rfl (fun H => Format_y (g := g) (gk := gk) (A := A.crash []) (v := v) (s := gs) (l := gl) (b := gb) H hD2 (by omega) (by omega) hv hv2 hg1) ?_
      rintro ⟨D3, N3⟩ fr w ⟨hD3, hg3, hk3, ht3⟩ M E
      rw [fmt_ok rfl rfl hv hr] at hD3 hk3 ht3 M E
      replace hD3 : D3.is g (fmtA (A.crash []) (fB0 v gs gl gb N.ks) (fB2 v gs gl gb N.ks N.ts)) := hD3
      replace hk3 : N3.ks = fKs2 v gs gl gb N.ks N.ts := hk3
      replace ht3 : N3.ts = textKs N.ts (fB0 v gs gl gb N.ks) := ht3
      have hN : (fmtA (A.crash []) (fB0 v gs gl gb N.ks) (fB2 v gs gl gb N.ks N.ts)).n = 2051 := (fmtA_eq (A := A.crash []) rfl rfl).1.trans ((crash_n A []).trans hAn)
      have rd0 : (fmtA (A.crash []) (fB0 v gs gl gb N.ks) (fB2 v gs gl gb N.ks N.ts)).read 0 = fB0 v gs gl gb N.ks := (fmtA_read (A := A.crash []) rfl rfl hD2.2.len (by rw [crash_n, hAn]; decide)).trans (by rw [if_neg (by decide), if_pos rfl])
      have rd2 : (fmtA (A.crash []) (fB0 v gs gl gb N.ks) (fB2 v gs gl gb N.ks N.ts)).read 2 = fB2 v gs gl gb N.ks N.ts := (fmtA_read (A := A.crash []) rfl rfl hD2.2.len (by rw [crash_n, hAn]; decide)).trans (by rw [if_pos rfl])
      have hkz3 : N3.ks.length ≤ 1099511627776 := by rw [hk3]; exact Nat.le_trans (sealKs_len _ _) (Nat.le_trans (Nat.succ_le_succ (sealKs_len _ _)) (by omega))
      have htz3 : N3.ts.length ≤ 1099511627776 := by rw [ht3]; exact Nat.le_trans (textKs_len _ _) (by omega)
      have hsg : sgetX N3.ks 1 0 ((fmtA (A.crash []) (fB0 v gs gl gb N.ks) (fB2 v gs gl gb N.ks N.ts)).read 0) = some (fE v, 0, geoB gs gl gb) := by rw [hk3, rd0]; exact found_sget hv hr
      have hsm : textNo N3.ts ((fmtA (A.crash []) (fB0 v gs gl gb N.ks) (fB2 v gs gl gb N.ks N.ts)).read 0) = textNo N.ts (fB0 v gs gl gb N.ks) := by rw [rd0, ht3]; exact text_again _ _
      refine sw (v := .bool false) E (tst rfl (rfl)) fun fr E => ?_
      refine seq_nil' ?_
      refine cond_false E rfl (rfl) ?_
      refine wp_skip ?_
      refine then_normal ?_
      refine code_region ?_
      refine mv E fun fr E => ?_
      refine sgive E M rfl rfl rfl rfl rfl (run_call rfl rfl T.fn11) (cValue_x (g := g) (M.row (i := 2) rfl)) fun fr w M E => ?_
      refine sgive E M rfl rfl rfl rfl rfl (run_call rfl rfl T.fn14) (Level_x (v := (fE v * 1048576)) (by omega)) fun fr w M E => ?_
      rw [Int.mul_ediv_cancel _ (by decide)] at E
      refine ma E fun fr E => ?_
      refine seq_nil' ?_
      refine code_region ?_
      refine mv E fun fr E => ?_
      refine mv E fun fr E => ?_
      refine sw E (rfl) fun fr E => ?_
      refine scallI ([dkE D3, nmE N3]) E M rfl rfl rfl rfl rfl (run_call rfl rfl T.fn24) rfl (fun H => superRead_y (A := (fmtA (A.crash []) (fB0 v gs gl gb N.ks) (fB2 v gs gl gb N.ks N.ts))) (N := N3) (s := gs) (l := gl) (b := gb) (e := fE v) H hD3 (by rw [hN]; decide) hkz3 htz3 hsg hgm hg3) ?_
      rintro ⟨D4, N4⟩ fr w ⟨hD4, hg4, hk4, ht4⟩ M E
      rw [hsm] at E
      refine mv E fun fr E => ?_
      refine sw E (run_extract rfl rfl rfl) fun fr E => ?_
      refine sw E (run_extract rfl rfl rfl) fun fr E => ?_
      refine sw E (run_extract rfl rfl rfl) fun fr E => ?_
      refine snew (ob := .cells #[_, _, _] 35) (fun g => .pointer (some ⟨g, 0, none⟩)) E M rfl rfl rfl rfl rfl (run_allocN rfl T.zero35) fun g1 fr w M E => ?_
      refine snew (ob := .cells _ 54) (fun g => .pointer (some ⟨g, 0, none⟩)) E M rfl rfl rfl rfl rfl (run_allocN rfl T.zero54) fun g2 fr w M E => ?_
      refine sset (i := 1) (cs' := #[.int .i64 gs, .int .i64 gl, .int .i64 gb]) E M rfl rfl rfl rfl rfl (run_storeN' (vs := #[_, _, _]) rfl rfl rfl T.size35 rfl (M.row (i := 1) rfl) rfl rfl rfl) rfl fun fr w M E => ?_
      refine sset (i := 0) (cs' := (bc (fSum v gs gl gb N.ks N.ts)).toArray) E M rfl rfl rfl rfl rfl (run_storeAll (vs := (bc (fSum v gs gl gb N.ks N.ts)).toArray) rfl rfl rfl T.size54 (rfl) (M.row (i := 0) rfl) rfl (fun v hv => bc_one v hv)) rfl fun fr w M E => ?_
      refine ma E fun fr E => ?_
      refine seq_nil' ?_
      refine code_region ?_
      refine mv E fun fr E => ?_
      refine mv E fun fr E => ?_
      refine sw E (rfl) fun fr E => ?_
      have M := M.pull 3 rfl
      have M := M.pull 3 rfl
      refine scallI ([dkE D4, nmE N4]) E M rfl rfl rfl rfl rfl (run_call rfl rfl T.fn26) rfl (fun H => All_y (g := g) (A := (fmtA (A.crash []) (fB0 v gs gl gb N.ks) (fB2 v gs gl gb N.ks N.ts)).bump 0) (N := N4) H hD4 (by rw [hk4]; exact hkz3) (by show 2 < (fmtA (A.crash []) (fB0 v gs gl gb N.ks) (fB2 v gs gl gb N.ks N.ts)).n; rw [hN]; decide) hg4) ?_
      rintro ⟨al, D5⟩ fr w hD5 M E
      rw [hk4, hk3, found_all (A' := (fmtA (A.crash []) (fB0 v gs gl gb N.ks) (fB2 v gs gl gb N.ks N.ts)).bump 0) hh hv hr rd2] at M
      refine mv E fun fr E => ?_
      refine sgive E M rfl rfl rfl rfl rfl (run_call rfl rfl T.fn25) (Choose_some (l := [(fR v gs gl gb N.ks N.ts)]) (lv := fE v) (r := (fR v gs gl gb N.ks N.ts)) (M.reads 0 rfl) (fun r hq => by rw [List.mem_singleton.1 hq]; exact fR_ok) (fun r hq => by rw [List.mem_singleton.1 hq]; exact fR_stamp f1 f2) (by omega) (by show 1 ≤ 300; decide) (choice_one rfl)) fun fr w M E => ?_
      refine mv E fun fr E => ?_
      refine sw E (run_extract rfl rfl rfl) fun fr E => ?_
      refine sw E (run_extract rfl rfl rfl) fun fr E => ?_
      refine snew (ob := .cells _ 62) (fun g => .pointer (some ⟨g, 0, none⟩)) E M rfl rfl rfl rfl rfl (run_allocN rfl T.zero62) fun g3 fr w M E => ?_
      refine sset (i := 0) (cs' := (fR v gs gl gb N.ks N.ts).cells.toArray) E M rfl rfl rfl rfl rfl (run_storeAll (vs := (fR v gs gl gb N.ks N.ts).cells.toArray) rfl rfl rfl T.size62 (Rec.size fR_ok) (M.row (i := 0) rfl) rfl (fun v hv => Rec.ones _ v hv)) rfl fun fr w M E => ?_
      refine ma E fun fr E => ?_
      refine seq_nil' ?_
      refine code_region ?_
      refine mv E fun fr E => ?_
      refine sw (v := .bool true) E (tst rfl (rfl)) fun fr E => ?_
      refine mv E fun fr E => ?_
      refine sw (v := .agg #[.int .i64 gs, .int .i64 gl, .int .i64 gb]) E (run_loadAll rfl rfl T.agg35 (M.row (i := 5) rfl) rfl) fun fr E => ?_
      refine sw (v := .agg #[.int .i64 gs, .int .i64 gl, .int .i64 gb]) E (run_loadAll rfl rfl T.agg35 (M.row (i := 7) rfl) rfl) fun fr E => ?_
      refine sw (v := .bool true) E (run_eqF (b := true) (xs := [.int .i64 gs, .int .i64 gl, .int .i64 gb]) (ys := [.int .i64 gs, .int .i64 gl, .int .i64 gb]) rfl rfl rfl T.flat35 rfl rfl (by simp)) fun fr E => ?_
      refine sw (v := .bool _) E (rfl) fun fr E => ?_
      refine mv E fun fr E => ?_
      refine mv E fun fr E => ?_
      refine sw (v := .bool _) E (rfl) fun fr E => ?_
      refine mv E fun fr E => ?_
      refine sw (v := .pointer (some ⟨_, 3, none⟩)) E (run_fieldAddr rfl rfl T.fld62_3) fun fr E => ?_
      refine sw (v := .agg (bc (fSum v gs gl gb N.ks N.ts)).toArray) E (run_loadN' (vs := (bc (fSum v gs gl gb N.ks N.ts)).toArray) rfl rfl T.agg54 (M.row (i := 0) rfl) (by rw [Rec.size fR_ok]; rfl) (congrArg List.toArray (Rec.m_super fR_ok))) fun fr E => ?_
      refine sw (v := .agg (bc (fSum v gs gl gb N.ks N.ts)).toArray) E (run_loadAll rfl rfl T.agg54 (M.row (i := 4) rfl) rfl) fun fr E => ?_
      refine sw (v := .bool true) E (run_eqF (b := true) (xs := (bc (fSum v gs gl gb N.ks N.ts))) (ys := (bc (fSum v gs gl gb N.ks N.ts))) rfl rfl rfl T.flat54 (fit_bc _) (fit_bc _) (by simp)) fun fr E => ?_
      refine sw (v := .bool _) E (rfl) fun fr E => ?_
      refine mv E fun fr E => ?_
      refine sw (v := .pointer (some ⟨_, 1, none⟩)) E (run_fieldAddr rfl rfl T.fld62_1) fun fr E => ?_
      refine sw (v := .int .i64 (fE v)) E (run_loadB rfl rfl T.one3 (M.row (i := 0) rfl) Rec.c_stamp) fun fr E => ?_
      refine mv E fun fr E => ?_
      refine sw (v := .bool true) E (tst rfl (decide_eq_true rfl)) fun fr E => ?_
      refine sw (v := .bool _) E (rfl) fun fr E => ?_
      refine mv E fun fr E => ?_
      refine sw (v := .pointer (some ⟨_, 2, none⟩)) E (run_fieldAddr rfl rfl T.fld62_2) fun fr E => ?_
      refine sw (v := .int .i64 (fE v)) E (run_loadB rfl rfl T.one3 (M.row (i := 0) rfl) Rec.c_epoch) fun fr E => ?_
      refine mv E fun fr E => ?_
      refine sw (v := .bool true) E (tst rfl (decide_eq_true rfl)) fun fr E => ?_
      refine sw (v := .bool _) E (rfl) fun fr E => ?_
      refine mv E fun fr E => ?_
      refine sw (v := .pointer (some ⟨_, 0, none⟩)) E (run_fieldAddr rfl rfl T.fld62_0) fun fr E => ?_
      refine sw (v := .int .i64 (1)) E (run_loadB rfl rfl T.one3 (M.row (i := 0) rfl) Rec.c_gen) fun fr E => ?_
      refine sw (v := .bool true) E (tst rfl (decide_eq_true rfl)) fun fr E => ?_
      refine sw (v := .bool _) E (rfl) fun fr E => ?_
      refine mv E fun fr E => ?_
      refine sw (v := .pointer (some ⟨_, 35, none⟩)) E (run_fieldAddr rfl rfl T.fld62_4) fun fr E => ?_
      refine sw (v := .agg (iv 0 :: bc (List.replicate 32 0)).toArray) E (run_loadN' (vs := (iv 0 :: bc (List.replicate 32 0)).toArray) rfl rfl T.agg58 (M.row (i := 0) rfl) (by rw [Rec.size fR_ok]; rfl) (congrArg List.toArray (Rec.m_root fR_ok))) fun fr E => ?_
      refine sw (v := .agg ((iv 0 :: bc (List.replicate 32 0))).toArray) E (run_buildP (vs := []) (us := (iv 0 :: bc (List.replicate 32 0))) rfl rfl T.ts58 T.zeroL58 (rfl) rfl rfl (rfl)) fun fr E => ?_
      refine sw (v := .bool true) E (run_eqF (b := true) (xs := (iv 0 :: bc (List.replicate 32 0))) (ys := (iv 0 :: bc (List.replicate 32 0))) rfl rfl rfl T.flat58 (fit_ref rfl) (fit_ref rfl) (by simp)) fun fr E => ?_
      refine sw (v := .bool _) E (rfl) fun fr E => ?_
      refine mv E fun fr E => ?_
      refine mv E fun fr E => ?_
      refine mv E fun fr E => ?_
      refine sgive E M rfl rfl rfl rfl rfl (run_call rfl rfl T.fn14) (Level_x (v := v) hv) fun fr w M E => ?_
      refine mv E fun fr E => ?_
      refine sgive E M rfl rfl rfl rfl rfl (run_call rfl rfl T.fn15) (Tries_x (v := v) hv (by omega)) fun fr w M E => ?_
      refine sw (v := .int _ (v / 1048576 + v % 1048576)) E (num rfl (i64_id (by omega) (by omega))) fun fr E => ?_
      refine sw (v := .int _ (v / 1048576 + v % 1048576 + 2)) E (num rfl (i64_id (by omega) (by omega))) fun fr E => ?_
      refine sw (v := .bool true) E (tst rfl (decide_eq_true (found_fE hv hs120))) fun fr E => ?_
      refine sw (v := .bool _) E (rfl) fun fr E => ?_
      refine mv E fun fr E => ?_
      refine mv E fun fr E => ?_
      refine sgive E M rfl rfl rfl rfl rfl (run_call rfl rfl T.fn11) (cValue_x (g := g) (M.row (i := 6) rfl)) fun fr w M E => ?_
      refine sgive E M rfl rfl rfl rfl rfl (run_call rfl rfl T.fn15) (Tries_x (v := (fE v * 1048576)) (by omega) (by omega)) fun fr w M E => ?_
      refine sw (v := .bool true) E (tst rfl (decide_eq_true (Int.mul_emod_left _ _))) fun fr E => ?_
      refine sw (v := .bool _) E (rfl) fun fr E => ?_
      refine mv E fun fr E => ?_
      refine sgive E M rfl rfl rfl rfl rfl (run_call rfl rfl T.fn8) (worksF_c _) fun fr w M E => ?_
      refine sw (v := .bool _) E (rfl) fun fr E => ?_
      refine ma E fun fr E => ?_
      refine seq_nil' ?_
      refine wp_ret ?_
      refine ret1 E rfl rfl ?_
      exact given M

/-- Whatever operations come in, whatever geometry. -/
theorem FormatFound_x {gs gl gb : Int} {a : Value} {l : List OpF} {w0 : World} (hb : Reads 7 w0 a l.length (fcs l)) (hs : ∀ o ∈ l, o.In w0) : Gives Tryz.prog 5 [a, .agg #[.int .i64 gs, .int .i64 gl, .int .i64 gb]] w0 (.bool true) := by
  have ha : OpsF w0 (fun g => w0.heap.size ≤ g) a l := OpsF.old hb fun o h => hs o h
  have hav : ∀ g, a.ownBlock = some g → ¬ w0.heap.size ≤ g := fun g hg hc => by
    rcases hb.2 with ⟨rfl, _⟩ | ⟨g', off, cap, rfl, _, _, h5, _⟩
    · cases hg
    · have e : g' = g := by simpa [Value.ownBlock] using hg
      omega
  by_cases hl : LongF l
  · exact FormatFound_long ha (fun _ h => h) hav hl
  · by_cases hgm : GMay gs gl gb
    · exact FormatFound_in ha (fun _ h => h) hav hl hgm
    · exact FormatFound_no ha (fun _ h => h) hav hl hgm
end Go.Proofs.YtnebjbgcibjohaaGreat.K
end
