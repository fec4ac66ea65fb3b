/- The law GeoGrows: its walk. -/
import Derived.Test.YtallgbdcolfleaaRTypes
import Derived.Test.YtallgbdcolfleaaGeoPlainGeoGrows
import Derived.Test.YtallgbdcolfleaaRCode
namespace Go.Proofs.Ytallgbdcolfleaa.GeoLaws
open Go.RowKit Go.Rill Go.Proofs.YtallgbdcolfleaaW.PrintWords Go.Proofs.YtallgbdcolfleaaW.PrintMore Go.Proofs.Ytallgbdcolfleaa.PGeoGrows Go.Proofs.Ytallgbdcolfleaa.GeoPlainGeoGrows
set_option linter.unusedVariables false
namespace Grows
theorem check_x (s l b : Int) (w : World) : ExtCall Try.prog 9 #[.agg #[.int .i64 s, .int .i64 l, .int .i64 b]] w (.exact (.int .i64 (if GOK s l b then 0 else 15))) := ExtCall.of (geo_Check.calls 4 s l b _ w (check_eq 0 s l b))
theorem check_ok {s l b : Int} (h : GOK s l b) (w : World) : ExtCall Try.prog 9 #[.agg #[.int .i64 s, .int .i64 l, .int .i64 b]] w (.exact (.int .i64 0)) := by have := check_x s l b w; rwa [if_pos h] at this
theorem check_no {s l b : Int} (h : ¬ GOK s l b) (w : World) : ExtCall Try.prog 9 #[.agg #[.int .i64 s, .int .i64 l, .int .i64 b]] w (.exact (.int .i64 15)) := by have := check_x s l b w; rwa [if_neg h] at this
theorem works_x (w : World) : ExtCall Try.prog 10 #[] w (.exact (.bool true)) := ExtCall.of (rilllaw10_works.calls 4 _ w (works_eq 0))
theorem at_x (s l b p q : Int) (w : World) : ExtCall Try.prog 11 #[.agg #[.int .i64 s, .int .i64 l, .int .i64 b], .agg #[.int .i64 p, .int .i64 q]] w (.exact (.int .i64 (if GOK s l b ∧ Pl s l p q then 3 + p * l + q else 0))) := ExtCall.of (geo_At.calls 4 s l b p q _ w (at_eq 0 s l b p q))
theorem at_in {s l b p q : Int} (h : GOK s l b) (hp : Pl s l p q) (w : World) : ExtCall Try.prog 11 #[.agg #[.int .i64 s, .int .i64 l, .int .i64 b], .agg #[.int .i64 p, .int .i64 q]] w (.exact (.int .i64 (3 + p * l + q))) := by have := at_x s l b p q w; rwa [if_pos ⟨h, hp⟩] at this
theorem at_out {s l b p q : Int} (h : GOK s l b) (hp : ¬ Pl s l p q) (w : World) : ExtCall Try.prog 11 #[.agg #[.int .i64 s, .int .i64 l, .int .i64 b], .agg #[.int .i64 p, .int .i64 q]] w (.exact (.int .i64 0)) := by have := at_x s l b p q w; rwa [if_neg (fun c => hp c.2)] at this
theorem sectors_x {s l b : Int} (h : GOK s l b) (w : World) : ExtCall Try.prog 12 #[.agg #[.int .i64 s, .int .i64 l, .int .i64 b]] w (.exact (.int .i64 (3 + s * l))) := by have := ExtCall.of (geo_Sectors.calls 4 s l b _ w (sectors_eq 0 s l b)); rwa [if_pos h] at this
theorem need_x {s l b : Int} (m : Int) (h : GOK s l b) (w : World) : ExtCall Try.prog 13 #[.agg #[.int .i64 s, .int .i64 l, .int .i64 b], .int .i64 m] w (.exact (.int .i64 (needZ l (mn (mx m 0) 64)))) := by have := ExtCall.of (geo_Need.calls 4 s l b m _ w (needs_eq 0 s l b m)); rwa [if_pos h] at this
theorem lean_x {s l b : Int} (h : GOK s l b) (w : World) : ExtCall Try.prog 14 #[.agg #[.int .i64 s, .int .i64 l, .int .i64 b]] w (.exact (.int .i64 (leanZ l))) := by have := ExtCall.of (geo_Lean.calls 4 s l b _ w (leans_eq 0 s l b)); rwa [if_pos h] at this

set_option maxRecDepth 100000 in
theorem no (s l b p q m : Int) (w : World) (h : ¬ GOK s l b) : ExtCall Try.prog 3 #[.agg #[.int .i64 s, .int .i64 l, .int .i64 b], .agg #[.int .i64 p, .int .i64 q], .int .i64 m] w (.exact (.bool true)) := by
  refine enter Try.func3 rfl rfl rfl ?_
  intro a E
  have M : Mem w 0 [] (fun _ => True) w := Mem.start (fun _ _ => trivial)
  refine code_region ?_
  refine snew (ob := .cells #[_, _, _] 23) (fun g => .pointer (some ⟨g, 0, none⟩)) E M rfl rfl rfl rfl rfl (run_boxN (cs := #[_, _, _]) rfl rfl) ?_; clear E M; intro g0 a w M E
  refine snew (ob := .cells #[_, _] 25) (fun g => .pointer (some ⟨g, 0, none⟩)) E M rfl rfl rfl rfl rfl (run_boxN (cs := #[_, _]) rfl rfl) ?_; clear E M; intro g1 a w M E
  refine sv (v := .bool _) E rfl rfl rfl rfl rfl (rfl) ?_; clear E; intro a E
  refine seq_nil' ?_
  refine wp_seq ?_
  refine code_region ?_
  refine sv (v := .agg #[_, _, _]) E rfl rfl rfl rfl rfl (run_loadAll rfl rfl T.agg23 (M.row (i := 1) rfl) rfl) ?_; clear E; intro a E
  refine sextv E M rfl rfl rfl rfl rfl (run_call rfl rfl T.fn9) ((check_no h _)) ?_; clear E M; intro a w M E
  refine sv (v := .bool _) E rfl rfl rfl rfl rfl (rfl) ?_; clear E; intro a E
  refine seq_nil' ?_
  refine cond_true E rfl (rfl) ?_
  refine code_region ?_
  refine sextv E M rfl rfl rfl rfl rfl (run_call rfl rfl T.fn10) ((works_x _)) ?_; clear E M; intro a w M E
  refine sv (v := .bool _) E rfl rfl rfl rfl rfl (rfl) ?_; clear E; intro a E
  refine seq_nil' ?_
  refine wp_ret ?_
  refine then_ret ?_
  refine ret1 E rfl rfl ?_
  exact ⟨_, rfl, M.below, rfl⟩
set_option maxRecDepth 100000 in
theorem most1 (s l b p q m : Int) (w : World) (h : GOK s l b) (s0 : 16 ≤ s) (s1 : s ≤ 32) (b0 : 1 ≤ b) (b1 : b ≤ 64) (l0 : 32 ≤ l) (l1 : l ≤ 64) (hb : b = 1) (hs : s = 32) (h1 : ¬ GOK (s + 1) l b) : ExtCall Try.prog 3 #[.agg #[.int .i64 s, .int .i64 l, .int .i64 b], .agg #[.int .i64 p, .int .i64 q], .int .i64 m] w (.exact (.bool true)) := by
  refine enter Try.func3 rfl rfl rfl ?_
  intro a E
  have M : Mem w 0 [] (fun _ => True) w := Mem.start (fun _ _ => trivial)
  refine code_region ?_
  refine snew (ob := .cells #[_, _, _] 23) (fun g => .pointer (some ⟨g, 0, none⟩)) E M rfl rfl rfl rfl rfl (run_boxN (cs := #[_, _, _]) rfl rfl) ?_; clear E M; intro g0 a w M E
  refine snew (ob := .cells #[_, _] 25) (fun g => .pointer (some ⟨g, 0, none⟩)) E M rfl rfl rfl rfl rfl (run_boxN (cs := #[_, _]) rfl rfl) ?_; clear E M; intro g1 a w M E
  refine sv (v := .bool _) E rfl rfl rfl rfl rfl (rfl) ?_; clear E; intro a E
  refine seq_nil' ?_
  refine wp_seq ?_
  refine code_region ?_
  refine sv (v := .agg #[_, _, _]) E rfl rfl rfl rfl rfl (run_loadAll rfl rfl T.agg23 (M.row (i := 1) rfl) rfl) ?_; clear E; intro a E
  refine sextv E M rfl rfl rfl rfl rfl (run_call rfl rfl T.fn9) (check_ok h _) ?_; clear E M; intro a w M E
  refine sv (v := .bool _) E rfl rfl rfl rfl rfl (rfl) ?_; clear E; intro a E
  refine seq_nil' ?_
  refine cond_false E rfl (rfl) ?_
  refine wp_skip ?_
  refine then_normal ?_
  refine code_region ?_
  refine sv (v := .agg #[_, _, _]) E rfl rfl rfl rfl rfl (run_loadAll rfl rfl T.agg23 (M.row (i := 1) rfl) rfl) ?_; clear E; intro a E
  refine snew (ob := .cells #[_, _, _] 23) (fun g => .pointer (some ⟨g, 0, none⟩)) E M rfl rfl rfl rfl rfl (run_allocN rfl T.zero23) ?_; clear E M; intro g2 a w M E
  refine sset (i := 0) (cs' := #[_, _, _]) (L' := [_, _, _]) E M rfl rfl rfl rfl rfl (run_storeN' (vs := #[_, _, _]) rfl rfl rfl T.size23 rfl (M.row (i := 0) rfl) rfl rfl rfl) rfl ?_; clear E M; intro a w M E
  refine seq_nil' ?_
  refine code_region ?_
  refine sv (v := .pointer (some ⟨_, 0, none⟩)) E rfl rfl rfl rfl rfl (run_fieldAddr rfl rfl T.fld23_0) ?_; clear E; intro a E
  refine sv (v := .int .i64 _) E rfl rfl rfl rfl rfl (run_loadB rfl rfl T.one3 (M.row (i := 0) rfl) rfl) ?_; clear E; intro a E
  refine sv (v := .int _ (s + 1)) E rfl rfl rfl rfl rfl (num rfl (i64_id (by omega) (by omega))) ?_; clear E; intro a E
  refine sv (v := .pointer (some ⟨_, 0, none⟩)) E rfl rfl rfl rfl rfl (run_fieldAddr rfl rfl T.fld23_0) ?_; clear E; intro a E
  refine sset (i := 0) (cs' := #[_, _, _]) (L' := [_, _, _]) E M rfl rfl rfl rfl rfl (run_store1' (v := .int .i64 _) rfl rfl rfl T.size3 (M.row (i := 0) rfl) rfl rfl rfl) rfl ?_; clear E M; intro a w M E
  refine seq_nil' ?_
  refine code_region ?_
  refine sv (v := .agg #[_, _, _]) E rfl rfl rfl rfl rfl (run_loadAll rfl rfl T.agg23 (M.row (i := 2) rfl) rfl) ?_; clear E; intro a E
  refine snew (ob := .cells #[_, _, _] 23) (fun g => .pointer (some ⟨g, 0, none⟩)) E M rfl rfl rfl rfl rfl (run_allocN rfl T.zero23) ?_; clear E M; intro g3 a w M E
  refine sset (i := 0) (cs' := #[_, _, _]) (L' := [_, _, _, _]) E M rfl rfl rfl rfl rfl (run_storeN' (vs := #[_, _, _]) rfl rfl rfl T.size23 rfl (M.row (i := 0) rfl) rfl rfl rfl) rfl ?_; clear E M; intro a w M E
  refine seq_nil' ?_
  refine code_region ?_
  refine sv (v := .pointer (some ⟨_, 2, none⟩)) E rfl rfl rfl rfl rfl (run_fieldAddr rfl rfl T.fld23_2) ?_; clear E; intro a E
  refine sv (v := .int .i64 _) E rfl rfl rfl rfl rfl (run_loadB rfl rfl T.one3 (M.row (i := 0) rfl) rfl) ?_; clear E; intro a E
  refine sv (v := .int _ (b - 1)) E rfl rfl rfl rfl rfl (num rfl (i64_id (by omega) (by omega))) ?_; clear E; intro a E
  refine sv (v := .pointer (some ⟨_, 2, none⟩)) E rfl rfl rfl rfl rfl (run_fieldAddr rfl rfl T.fld23_2) ?_; clear E; intro a E
  refine sset (i := 0) (cs' := #[_, _, _]) (L' := [_, _, _, _]) E M rfl rfl rfl rfl rfl (run_store1' (v := .int .i64 _) rfl rfl rfl T.size3 (M.row (i := 0) rfl) rfl rfl rfl) rfl ?_; clear E M; intro a w M E
  refine seq_nil' ?_
  refine wp_seq ?_
  refine code_region ?_
  refine sv (v := .pointer (some ⟨_, 2, none⟩)) E rfl rfl rfl rfl rfl (run_fieldAddr rfl rfl T.fld23_2) ?_; clear E; intro a E
  refine sv (v := .int .i64 _) E rfl rfl rfl rfl rfl (run_loadB rfl rfl T.one3 (M.row (i := 3) rfl) rfl) ?_; clear E; intro a E
  refine sv (v := .bool false) E rfl rfl rfl rfl rfl (tst rfl (by simp; omega)) ?_; clear E; intro a E
  refine sv (v := .bool _) E rfl rfl rfl rfl rfl (rfl) ?_; clear E; intro a E
  refine sno E rfl rfl rfl rfl ?_; clear E; intro a E
  refine sno E rfl rfl rfl rfl ?_; clear E; intro a E
  refine sno E rfl rfl rfl rfl ?_; clear E; intro a E
  refine sv (v := .bool _) E rfl rfl rfl rfl rfl (rfl) ?_; clear E; intro a E
  refine seq_nil' ?_
  refine cond_false E rfl (rfl) ?_
  refine wp_skip ?_
  refine then_normal ?_
  refine wp_seq ?_
  refine code_region ?_
  refine sv (v := .pointer (some ⟨_, 0, none⟩)) E rfl rfl rfl rfl rfl (run_fieldAddr rfl rfl T.fld23_0) ?_; clear E; intro a E
  refine sv (v := .int .i64 _) E rfl rfl rfl rfl rfl (run_loadB rfl rfl T.one3 (M.row (i := 3) rfl) rfl) ?_; clear E; intro a E
  refine sv (v := .bool _) E rfl rfl rfl rfl rfl (rfl) ?_; clear E; intro a E
  refine seq_nil' ?_
  refine cond_true E rfl (by simp [hs]) ?_
  refine code_region ?_
  refine sv (v := .agg #[_, _, _]) E rfl rfl rfl rfl rfl (run_loadAll rfl rfl T.agg23 (M.row (i := 1) rfl) rfl) ?_; clear E; intro a E
  refine sextv E M rfl rfl rfl rfl rfl (run_call rfl rfl T.fn9) (check_no h1 _) ?_; clear E M; intro a w M E
  refine sv (v := .bool _) E rfl rfl rfl rfl rfl (rfl) ?_; clear E; intro a E
  refine sv (v := .bool _) E rfl rfl rfl rfl rfl (rfl) ?_; clear E; intro a E
  refine sextv E M rfl rfl rfl rfl rfl (run_call rfl rfl T.fn10) (works_x _) ?_; clear E M; intro a w M E
  refine sv (v := .bool _) E rfl rfl rfl rfl rfl (rfl) ?_; clear E; intro a E
  refine sv (v := .bool _) E rfl rfl rfl rfl rfl (rfl) ?_; clear E; intro a E
  refine seq_nil' ?_
  refine wp_ret ?_
  refine then_ret ?_
  refine ret1 E rfl rfl ?_
  exact ⟨_, rfl, M.below, rfl⟩
set_option maxRecDepth 100000 in
theorem there1 (s l b p q m : Int) (w : World) (h : GOK s l b) (s0 : 16 ≤ s) (s1 : s ≤ 32) (b0 : 1 ≤ b) (b1 : b ≤ 64) (l0 : 32 ≤ l) (l1 : l ≤ 64) (hb : b = 1) (hs : s < 32) (h1 : GOK (s + 1) l b) (sl : 512 ≤ s * l ∧ s * l ≤ 2048) (hp : Pl s l p q) (hp2 : Pl (s + 1) l p q) (pp : 0 ≤ p * l) : ExtCall Try.prog 3 #[.agg #[.int .i64 s, .int .i64 l, .int .i64 b], .agg #[.int .i64 p, .int .i64 q], .int .i64 m] w (.exact (.bool true)) := by
  refine enter Try.func3 rfl rfl rfl ?_
  intro a E
  have M : Mem w 0 [] (fun _ => True) w := Mem.start (fun _ _ => trivial)
  refine code_region ?_
  refine snew (ob := .cells #[_, _, _] 23) (fun g => .pointer (some ⟨g, 0, none⟩)) E M rfl rfl rfl rfl rfl (run_boxN (cs := #[_, _, _]) rfl rfl) ?_; clear E M; intro g0 a w M E
  refine snew (ob := .cells #[_, _] 25) (fun g => .pointer (some ⟨g, 0, none⟩)) E M rfl rfl rfl rfl rfl (run_boxN (cs := #[_, _]) rfl rfl) ?_; clear E M; intro g1 a w M E
  refine sv (v := .bool _) E rfl rfl rfl rfl rfl (rfl) ?_; clear E; intro a E
  refine seq_nil' ?_
  refine wp_seq ?_
  refine code_region ?_
  refine sv (v := .agg #[_, _, _]) E rfl rfl rfl rfl rfl (run_loadAll rfl rfl T.agg23 (M.row (i := 1) rfl) rfl) ?_; clear E; intro a E
  refine sextv E M rfl rfl rfl rfl rfl (run_call rfl rfl T.fn9) (check_ok h _) ?_; clear E M; intro a w M E
  refine sv (v := .bool _) E rfl rfl rfl rfl rfl (rfl) ?_; clear E; intro a E
  refine seq_nil' ?_
  refine cond_false E rfl (rfl) ?_
  refine wp_skip ?_
  refine then_normal ?_
  refine code_region ?_
  refine sv (v := .agg #[_, _, _]) E rfl rfl rfl rfl rfl (run_loadAll rfl rfl T.agg23 (M.row (i := 1) rfl) rfl) ?_; clear E; intro a E
  refine snew (ob := .cells #[_, _, _] 23) (fun g => .pointer (some ⟨g, 0, none⟩)) E M rfl rfl rfl rfl rfl (run_allocN rfl T.zero23) ?_; clear E M; intro g2 a w M E
  refine sset (i := 0) (cs' := #[_, _, _]) (L' := [_, _, _]) E M rfl rfl rfl rfl rfl (run_storeN' (vs := #[_, _, _]) rfl rfl rfl T.size23 rfl (M.row (i := 0) rfl) rfl rfl rfl) rfl ?_; clear E M; intro a w M E
  refine seq_nil' ?_
  refine code_region ?_
  refine sv (v := .pointer (some ⟨_, 0, none⟩)) E rfl rfl rfl rfl rfl (run_fieldAddr rfl rfl T.fld23_0) ?_; clear E; intro a E
  refine sv (v := .int .i64 _) E rfl rfl rfl rfl rfl (run_loadB rfl rfl T.one3 (M.row (i := 0) rfl) rfl) ?_; clear E; intro a E
  refine sv (v := .int _ (s + 1)) E rfl rfl rfl rfl rfl (num rfl (i64_id (by omega) (by omega))) ?_; clear E; intro a E
  refine sv (v := .pointer (some ⟨_, 0, none⟩)) E rfl rfl rfl rfl rfl (run_fieldAddr rfl rfl T.fld23_0) ?_; clear E; intro a E
  refine sset (i := 0) (cs' := #[_, _, _]) (L' := [_, _, _]) E M rfl rfl rfl rfl rfl (run_store1' (v := .int .i64 _) rfl rfl rfl T.size3 (M.row (i := 0) rfl) rfl rfl rfl) rfl ?_; clear E M; intro a w M E
  refine seq_nil' ?_
  refine code_region ?_
  refine sv (v := .agg #[_, _, _]) E rfl rfl rfl rfl rfl (run_loadAll rfl rfl T.agg23 (M.row (i := 2) rfl) rfl) ?_; clear E; intro a E
  refine snew (ob := .cells #[_, _, _] 23) (fun g => .pointer (some ⟨g, 0, none⟩)) E M rfl rfl rfl rfl rfl (run_allocN rfl T.zero23) ?_; clear E M; intro g3 a w M E
  refine sset (i := 0) (cs' := #[_, _, _]) (L' := [_, _, _, _]) E M rfl rfl rfl rfl rfl (run_storeN' (vs := #[_, _, _]) rfl rfl rfl T.size23 rfl (M.row (i := 0) rfl) rfl rfl rfl) rfl ?_; clear E M; intro a w M E
  refine seq_nil' ?_
  refine code_region ?_
  refine sv (v := .pointer (some ⟨_, 2, none⟩)) E rfl rfl rfl rfl rfl (run_fieldAddr rfl rfl T.fld23_2) ?_; clear E; intro a E
  refine sv (v := .int .i64 _) E rfl rfl rfl rfl rfl (run_loadB rfl rfl T.one3 (M.row (i := 0) rfl) rfl) ?_; clear E; intro a E
  refine sv (v := .int _ (b - 1)) E rfl rfl rfl rfl rfl (num rfl (i64_id (by omega) (by omega))) ?_; clear E; intro a E
  refine sv (v := .pointer (some ⟨_, 2, none⟩)) E rfl rfl rfl rfl rfl (run_fieldAddr rfl rfl T.fld23_2) ?_; clear E; intro a E
  refine sset (i := 0) (cs' := #[_, _, _]) (L' := [_, _, _, _]) E M rfl rfl rfl rfl rfl (run_store1' (v := .int .i64 _) rfl rfl rfl T.size3 (M.row (i := 0) rfl) rfl rfl rfl) rfl ?_; clear E M; intro a w M E
  refine seq_nil' ?_
  refine wp_seq ?_
  refine code_region ?_
  refine sv (v := .pointer (some ⟨_, 2, none⟩)) E rfl rfl rfl rfl rfl (run_fieldAddr rfl rfl T.fld23_2) ?_; clear E; intro a E
  refine sv (v := .int .i64 _) E rfl rfl rfl rfl rfl (run_loadB rfl rfl T.one3 (M.row (i := 3) rfl) rfl) ?_; clear E; intro a E
  refine sv (v := .bool false) E rfl rfl rfl rfl rfl (tst rfl (by simp; omega)) ?_; clear E; intro a E
  refine sv (v := .bool _) E rfl rfl rfl rfl rfl (rfl) ?_; clear E; intro a E
  refine sno E rfl rfl rfl rfl ?_; clear E; intro a E
  refine sno E rfl rfl rfl rfl ?_; clear E; intro a E
  refine sno E rfl rfl rfl rfl ?_; clear E; intro a E
  refine sv (v := .bool _) E rfl rfl rfl rfl rfl (rfl) ?_; clear E; intro a E
  refine seq_nil' ?_
  refine cond_false E rfl (rfl) ?_
  refine wp_skip ?_
  refine then_normal ?_
  refine wp_seq ?_
  refine code_region ?_
  refine sv (v := .pointer (some ⟨_, 0, none⟩)) E rfl rfl rfl rfl rfl (run_fieldAddr rfl rfl T.fld23_0) ?_; clear E; intro a E
  refine sv (v := .int .i64 _) E rfl rfl rfl rfl rfl (run_loadB rfl rfl T.one3 (M.row (i := 3) rfl) rfl) ?_; clear E; intro a E
  refine sv (v := .bool _) E rfl rfl rfl rfl rfl (rfl) ?_; clear E; intro a E
  refine seq_nil' ?_
  refine cond_false E rfl (by simp; omega) ?_
  refine wp_skip ?_
  refine then_normal ?_
  refine code_region ?_
  refine sv (v := .agg #[_, _, _]) E rfl rfl rfl rfl rfl (run_loadAll rfl rfl T.agg23 (M.row (i := 3) rfl) rfl) ?_; clear E; intro a E
  refine sv (v := .agg #[_, _]) E rfl rfl rfl rfl rfl (run_loadAll rfl rfl T.agg25 (M.row (i := 2) rfl) rfl) ?_; clear E; intro a E
  refine sextv E M rfl rfl rfl rfl rfl (run_call rfl rfl T.fn11) (at_in h hp _) ?_; clear E M; intro a w M E
  refine sv (v := .int .i64 _) E rfl rfl rfl rfl rfl (rfl) ?_; clear E; intro a E
  refine seq_nil' ?_
  refine wp_seq (free_reg (B := T.tab3_12_b) (Vs := (.exact (.agg #[_, _, _]) :: .exact (.int .i64 _) :: .exact (.bool true) :: .exact (.bool _) :: .exact (.agg #[_, _, _]) :: .exact (.int .i64 _) :: .exact (.agg #[_, _, _]) :: .exact (.int .i64 _) :: .exact (.pointer (some ⟨_, 1, none⟩)) :: .exact (.int .i64 _) :: .exact (.int _ (3 + (s + 1) * l)) :: .exact (.bool true) :: .exact (.bool _) :: .exact (.bool _) :: .exact (.agg #[_, _, _]) :: .exact (.int .i64 _) :: .exact (.int .i64 _) :: .exact (.agg #[_, _, _]) :: .exact (.int .i64 _) :: .exact (.int .i64 _) :: .exact (.bool true) :: .exact (.bool _) :: .exact (.bool _) :: .exact (.agg #[_, _, _]) :: .exact (.int .i64 _) :: .exact (.agg #[_, _, _]) :: .exact (.int .i64 _) :: .exact (.bool true) :: .exact (.bool _) :: .exact (.bool _) :: .exact (.int .i64 _) :: .exact (.bool false) :: .exact (.bool _) :: .exact (.agg #[_, _, _]) :: .exact (.agg #[_, _]) :: .exact (.int .i64 _) :: .exact (.int .i64 _) :: .exact (.bool true) :: .exact (.bool _) :: .exact (.bool _) :: .exact (.bool _) :: .exact (.bool _) :: .exact (.bool _) :: .exact (.bool _) :: [])) T.tab3_12_i E T.mixed T.tab3_12 rfl (Lasts.of_exact rfl) ⟨fs_val rfl rfl (fun x w hx hk => ⟨_, _, rfl, rfl, rfl, run_loadAll rfl rfl T.agg23 ((M.ext ((Ext.drew _).trans hx)).row (i := 1) rfl) rfl, Ext.refl _, rfl⟩),
      fs_ext rfl rfl (fun x w hx hk => ⟨_, _, rfl, rfl, rfl, run_call rfl rfl T.fn9, check_ok h1 _⟩),
      fs_val rfl rfl (fun x w hx hk => ⟨_, _, rfl, rfl, rfl, tst rfl (rfl), Ext.refl _, rfl⟩),
      fs_val rfl rfl (fun x w hx hk => ⟨_, _, rfl, rfl, rfl, rfl, Ext.refl _, rfl⟩),
      fs_val rfl rfl (fun x w hx hk => ⟨_, _, rfl, rfl, rfl, run_loadAll rfl rfl T.agg23 ((M.ext ((Ext.drew _).trans hx)).row (i := 1) rfl) rfl, Ext.refl _, rfl⟩),
      fs_ext rfl rfl (fun x w hx hk => ⟨_, _, rfl, rfl, rfl, run_call rfl rfl T.fn12, sectors_x h1 _⟩),
      fs_val rfl rfl (fun x w hx hk => ⟨_, _, rfl, rfl, rfl, run_loadAll rfl rfl T.agg23 ((M.ext ((Ext.drew _).trans hx)).row (i := 3) rfl) rfl, Ext.refl _, rfl⟩),
      fs_ext rfl rfl (fun x w hx hk => ⟨_, _, rfl, rfl, rfl, run_call rfl rfl T.fn12, sectors_x h _⟩),
      fs_val rfl rfl (fun x w hx hk => ⟨_, _, rfl, rfl, rfl, run_fieldAddr rfl rfl T.fld23_1, Ext.refl _, rfl⟩),
      fs_val rfl rfl (fun x w hx hk => ⟨_, _, rfl, rfl, rfl, run_loadB rfl rfl T.one3 ((M.ext ((Ext.drew _).trans hx)).row (i := 3) rfl) rfl, Ext.refl _, rfl⟩),
      fs_val rfl rfl (fun x w hx hk => ⟨_, _, rfl, rfl, rfl, num rfl (by rw [Int.add_mul, Int.one_mul]; exact (i64_id (by omega) (by omega)).trans (by omega)), Ext.refl _, rfl⟩),
      fs_val rfl rfl (fun x w hx hk => ⟨_, _, rfl, rfl, rfl, tst rfl (by simp), Ext.refl _, rfl⟩),
      fs_val rfl rfl (fun x w hx hk => ⟨_, _, rfl, rfl, rfl, rfl, Ext.refl _, rfl⟩),
      fs_val rfl rfl (fun x w hx hk => ⟨_, _, rfl, rfl, rfl, rfl, Ext.refl _, rfl⟩),
      fs_val rfl rfl (fun x w hx hk => ⟨_, _, rfl, rfl, rfl, run_loadAll rfl rfl T.agg23 ((M.ext ((Ext.drew _).trans hx)).row (i := 1) rfl) rfl, Ext.refl _, rfl⟩),
      fs_val rfl rfl (fun x w hx hk => ⟨_, _, rfl, rfl, rfl, rfl, Ext.refl _, rfl⟩),
      fs_ext rfl rfl (fun x w hx hk => ⟨_, _, rfl, rfl, rfl, run_call rfl rfl T.fn13, need_x m h1 _⟩),
      fs_val rfl rfl (fun x w hx hk => ⟨_, _, rfl, rfl, rfl, run_loadAll rfl rfl T.agg23 ((M.ext ((Ext.drew _).trans hx)).row (i := 3) rfl) rfl, Ext.refl _, rfl⟩),
      fs_val rfl rfl (fun x w hx hk => ⟨_, _, rfl, rfl, rfl, rfl, Ext.refl _, rfl⟩),
      fs_ext rfl rfl (fun x w hx hk => ⟨_, _, rfl, rfl, rfl, run_call rfl rfl T.fn13, need_x m h _⟩),
      fs_val rfl rfl (fun x w hx hk => ⟨_, _, rfl, rfl, rfl, tst rfl (by simp), Ext.refl _, rfl⟩),
      fs_val rfl rfl (fun x w hx hk => ⟨_, _, rfl, rfl, rfl, rfl, Ext.refl _, rfl⟩),
      fs_val rfl rfl (fun x w hx hk => ⟨_, _, rfl, rfl, rfl, rfl, Ext.refl _, rfl⟩),
      fs_val rfl rfl (fun x w hx hk => ⟨_, _, rfl, rfl, rfl, run_loadAll rfl rfl T.agg23 ((M.ext ((Ext.drew _).trans hx)).row (i := 1) rfl) rfl, Ext.refl _, rfl⟩),
      fs_ext rfl rfl (fun x w hx hk => ⟨_, _, rfl, rfl, rfl, run_call rfl rfl T.fn14, lean_x h1 _⟩),
      fs_val rfl rfl (fun x w hx hk => ⟨_, _, rfl, rfl, rfl, run_loadAll rfl rfl T.agg23 ((M.ext ((Ext.drew _).trans hx)).row (i := 3) rfl) rfl, Ext.refl _, rfl⟩),
      fs_ext rfl rfl (fun x w hx hk => ⟨_, _, rfl, rfl, rfl, run_call rfl rfl T.fn14, lean_x h _⟩),
      fs_val rfl rfl (fun x w hx hk => ⟨_, _, rfl, rfl, rfl, tst rfl (by simp), Ext.refl _, rfl⟩),
      fs_val rfl rfl (fun x w hx hk => ⟨_, _, rfl, rfl, rfl, rfl, Ext.refl _, rfl⟩),
      fs_val rfl rfl (fun x w hx hk => ⟨_, _, rfl, rfl, rfl, rfl, Ext.refl _, rfl⟩),
      fs_val rfl rfl (fun x w hx hk => ⟨_, _, rfl, rfl, rfl, rfl, Ext.refl _, rfl⟩),
      fs_val rfl rfl (fun x w hx hk => ⟨_, _, rfl, rfl, rfl, tst rfl (by simp; have := hp.2.2.1; omega), Ext.refl _, rfl⟩),
      fs_val rfl rfl (fun x w hx hk => ⟨_, _, rfl, rfl, rfl, rfl, Ext.refl _, rfl⟩),
      fs_val rfl rfl (fun x w hx hk => ⟨_, _, rfl, rfl, rfl, run_loadAll rfl rfl T.agg23 ((M.ext ((Ext.drew _).trans hx)).row (i := 1) rfl) rfl, Ext.refl _, rfl⟩),
      fs_val rfl rfl (fun x w hx hk => ⟨_, _, rfl, rfl, rfl, run_loadAll rfl rfl T.agg25 ((M.ext ((Ext.drew _).trans hx)).row (i := 2) rfl) rfl, Ext.refl _, rfl⟩),
      fs_ext rfl rfl (fun x w hx hk => ⟨_, _, rfl, rfl, rfl, run_call rfl rfl T.fn11, at_in h1 hp2 _⟩),
      fs_val rfl rfl (fun x w hx hk => ⟨_, _, rfl, rfl, rfl, rfl, Ext.refl _, rfl⟩),
      fs_val rfl rfl (fun x w hx hk => ⟨_, _, rfl, rfl, rfl, tst rfl (by simp), Ext.refl _, rfl⟩),
      fs_val rfl rfl (fun x w hx hk => ⟨_, _, rfl, rfl, rfl, rfl, Ext.refl _, rfl⟩),
      fs_val rfl rfl (fun x w hx hk => ⟨_, _, rfl, rfl, rfl, rfl, Ext.refl _, rfl⟩),
      fs_val rfl rfl (fun x w hx hk => ⟨_, _, rfl, rfl, rfl, rfl, Ext.refl _, rfl⟩),
      fs_ext rfl rfl (fun x w hx hk => ⟨_, _, rfl, rfl, rfl, run_call rfl rfl T.fn10, works_x _⟩),
      fs_val rfl rfl (fun x w hx hk => ⟨_, _, rfl, rfl, rfl, rfl, Ext.refl _, rfl⟩),
      fs_val rfl rfl (fun x w hx hk => ⟨_, _, rfl, rfl, rfl, rfl, Ext.refl _, rfl⟩), trivial⟩ ?_)
  intro x a2 w2 hx hk E2; have M2 := M.ext hx; clear hx hk E M; have E := E2; have M := M2; clear E2 M2; refine then_normal ?_
  refine wp_ret ?_
  refine ret1 E rfl rfl ?_
  exact ⟨_, rfl, M.below, rfl⟩
set_option maxRecDepth 100000 in
theorem there01 (s l b p q m : Int) (w : World) (h : GOK s l b) (s0 : 16 ≤ s) (s1 : s ≤ 32) (b0 : 1 ≤ b) (b1 : b ≤ 64) (l0 : 32 ≤ l) (l1 : l ≤ 64) (hb : b = 1) (hs : s < 32) (h1 : GOK (s + 1) l b) (sl : 512 ≤ s * l ∧ s * l ≤ 2048) (hp : ¬ Pl s l p q) : ExtCall Try.prog 3 #[.agg #[.int .i64 s, .int .i64 l, .int .i64 b], .agg #[.int .i64 p, .int .i64 q], .int .i64 m] w (.exact (.bool true)) := by
  refine enter Try.func3 rfl rfl rfl ?_
  intro a E
  have M : Mem w 0 [] (fun _ => True) w := Mem.start (fun _ _ => trivial)
  refine code_region ?_
  refine snew (ob := .cells #[_, _, _] 23) (fun g => .pointer (some ⟨g, 0, none⟩)) E M rfl rfl rfl rfl rfl (run_boxN (cs := #[_, _, _]) rfl rfl) ?_; clear E M; intro g0 a w M E
  refine snew (ob := .cells #[_, _] 25) (fun g => .pointer (some ⟨g, 0, none⟩)) E M rfl rfl rfl rfl rfl (run_boxN (cs := #[_, _]) rfl rfl) ?_; clear E M; intro g1 a w M E
  refine sv (v := .bool _) E rfl rfl rfl rfl rfl (rfl) ?_; clear E; intro a E
  refine seq_nil' ?_
  refine wp_seq ?_
  refine code_region ?_
  refine sv (v := .agg #[_, _, _]) E rfl rfl rfl rfl rfl (run_loadAll rfl rfl T.agg23 (M.row (i := 1) rfl) rfl) ?_; clear E; intro a E
  refine sextv E M rfl rfl rfl rfl rfl (run_call rfl rfl T.fn9) (check_ok h _) ?_; clear E M; intro a w M E
  refine sv (v := .bool _) E rfl rfl rfl rfl rfl (rfl) ?_; clear E; intro a E
  refine seq_nil' ?_
  refine cond_false E rfl (rfl) ?_
  refine wp_skip ?_
  refine then_normal ?_
  refine code_region ?_
  refine sv (v := .agg #[_, _, _]) E rfl rfl rfl rfl rfl (run_loadAll rfl rfl T.agg23 (M.row (i := 1) rfl) rfl) ?_; clear E; intro a E
  refine snew (ob := .cells #[_, _, _] 23) (fun g => .pointer (some ⟨g, 0, none⟩)) E M rfl rfl rfl rfl rfl (run_allocN rfl T.zero23) ?_; clear E M; intro g2 a w M E
  refine sset (i := 0) (cs' := #[_, _, _]) (L' := [_, _, _]) E M rfl rfl rfl rfl rfl (run_storeN' (vs := #[_, _, _]) rfl rfl rfl T.size23 rfl (M.row (i := 0) rfl) rfl rfl rfl) rfl ?_; clear E M; intro a w M E
  refine seq_nil' ?_
  refine code_region ?_
  refine sv (v := .pointer (some ⟨_, 0, none⟩)) E rfl rfl rfl rfl rfl (run_fieldAddr rfl rfl T.fld23_0) ?_; clear E; intro a E
  refine sv (v := .int .i64 _) E rfl rfl rfl rfl rfl (run_loadB rfl rfl T.one3 (M.row (i := 0) rfl) rfl) ?_; clear E; intro a E
  refine sv (v := .int _ (s + 1)) E rfl rfl rfl rfl rfl (num rfl (i64_id (by omega) (by omega))) ?_; clear E; intro a E
  refine sv (v := .pointer (some ⟨_, 0, none⟩)) E rfl rfl rfl rfl rfl (run_fieldAddr rfl rfl T.fld23_0) ?_; clear E; intro a E
  refine sset (i := 0) (cs' := #[_, _, _]) (L' := [_, _, _]) E M rfl rfl rfl rfl rfl (run_store1' (v := .int .i64 _) rfl rfl rfl T.size3 (M.row (i := 0) rfl) rfl rfl rfl) rfl ?_; clear E M; intro a w M E
  refine seq_nil' ?_
  refine code_region ?_
  refine sv (v := .agg #[_, _, _]) E rfl rfl rfl rfl rfl (run_loadAll rfl rfl T.agg23 (M.row (i := 2) rfl) rfl) ?_; clear E; intro a E
  refine snew (ob := .cells #[_, _, _] 23) (fun g => .pointer (some ⟨g, 0, none⟩)) E M rfl rfl rfl rfl rfl (run_allocN rfl T.zero23) ?_; clear E M; intro g3 a w M E
  refine sset (i := 0) (cs' := #[_, _, _]) (L' := [_, _, _, _]) E M rfl rfl rfl rfl rfl (run_storeN' (vs := #[_, _, _]) rfl rfl rfl T.size23 rfl (M.row (i := 0) rfl) rfl rfl rfl) rfl ?_; clear E M; intro a w M E
  refine seq_nil' ?_
  refine code_region ?_
  refine sv (v := .pointer (some ⟨_, 2, none⟩)) E rfl rfl rfl rfl rfl (run_fieldAddr rfl rfl T.fld23_2) ?_; clear E; intro a E
  refine sv (v := .int .i64 _) E rfl rfl rfl rfl rfl (run_loadB rfl rfl T.one3 (M.row (i := 0) rfl) rfl) ?_; clear E; intro a E
  refine sv (v := .int _ (b - 1)) E rfl rfl rfl rfl rfl (num rfl (i64_id (by omega) (by omega))) ?_; clear E; intro a E
  refine sv (v := .pointer (some ⟨_, 2, none⟩)) E rfl rfl rfl rfl rfl (run_fieldAddr rfl rfl T.fld23_2) ?_; clear E; intro a E
  refine sset (i := 0) (cs' := #[_, _, _]) (L' := [_, _, _, _]) E M rfl rfl rfl rfl rfl (run_store1' (v := .int .i64 _) rfl rfl rfl T.size3 (M.row (i := 0) rfl) rfl rfl rfl) rfl ?_; clear E M; intro a w M E
  refine seq_nil' ?_
  refine wp_seq ?_
  refine code_region ?_
  refine sv (v := .pointer (some ⟨_, 2, none⟩)) E rfl rfl rfl rfl rfl (run_fieldAddr rfl rfl T.fld23_2) ?_; clear E; intro a E
  refine sv (v := .int .i64 _) E rfl rfl rfl rfl rfl (run_loadB rfl rfl T.one3 (M.row (i := 3) rfl) rfl) ?_; clear E; intro a E
  refine sv (v := .bool false) E rfl rfl rfl rfl rfl (tst rfl (by simp; omega)) ?_; clear E; intro a E
  refine sv (v := .bool _) E rfl rfl rfl rfl rfl (rfl) ?_; clear E; intro a E
  refine sno E rfl rfl rfl rfl ?_; clear E; intro a E
  refine sno E rfl rfl rfl rfl ?_; clear E; intro a E
  refine sno E rfl rfl rfl rfl ?_; clear E; intro a E
  refine sv (v := .bool _) E rfl rfl rfl rfl rfl (rfl) ?_; clear E; intro a E
  refine seq_nil' ?_
  refine cond_false E rfl (rfl) ?_
  refine wp_skip ?_
  refine then_normal ?_
  refine wp_seq ?_
  refine code_region ?_
  refine sv (v := .pointer (some ⟨_, 0, none⟩)) E rfl rfl rfl rfl rfl (run_fieldAddr rfl rfl T.fld23_0) ?_; clear E; intro a E
  refine sv (v := .int .i64 _) E rfl rfl rfl rfl rfl (run_loadB rfl rfl T.one3 (M.row (i := 3) rfl) rfl) ?_; clear E; intro a E
  refine sv (v := .bool _) E rfl rfl rfl rfl rfl (rfl) ?_; clear E; intro a E
  refine seq_nil' ?_
  refine cond_false E rfl (by simp; omega) ?_
  refine wp_skip ?_
  refine then_normal ?_
  refine code_region ?_
  refine sv (v := .agg #[_, _, _]) E rfl rfl rfl rfl rfl (run_loadAll rfl rfl T.agg23 (M.row (i := 3) rfl) rfl) ?_; clear E; intro a E
  refine sv (v := .agg #[_, _]) E rfl rfl rfl rfl rfl (run_loadAll rfl rfl T.agg25 (M.row (i := 2) rfl) rfl) ?_; clear E; intro a E
  refine sextv E M rfl rfl rfl rfl rfl (run_call rfl rfl T.fn11) (at_out h hp _) ?_; clear E M; intro a w M E
  refine sv (v := .int .i64 _) E rfl rfl rfl rfl rfl (rfl) ?_; clear E; intro a E
  refine seq_nil' ?_
  refine wp_seq (free_reg (B := T.tab3_12_b) (Vs := (.exact (.agg #[_, _, _]) :: .exact (.int .i64 _) :: .exact (.bool true) :: .exact (.bool _) :: .exact (.agg #[_, _, _]) :: .exact (.int .i64 _) :: .exact (.agg #[_, _, _]) :: .exact (.int .i64 _) :: .exact (.pointer (some ⟨_, 1, none⟩)) :: .exact (.int .i64 _) :: .exact (.int _ (3 + (s + 1) * l)) :: .exact (.bool true) :: .exact (.bool _) :: .exact (.bool _) :: .exact (.agg #[_, _, _]) :: .exact (.int .i64 _) :: .exact (.int .i64 _) :: .exact (.agg #[_, _, _]) :: .exact (.int .i64 _) :: .exact (.int .i64 _) :: .exact (.bool true) :: .exact (.bool _) :: .exact (.bool _) :: .exact (.agg #[_, _, _]) :: .exact (.int .i64 _) :: .exact (.agg #[_, _, _]) :: .exact (.int .i64 _) :: .exact (.bool true) :: .exact (.bool _) :: .exact (.bool _) :: .exact (.int .i64 _) :: .exact (.bool true) :: .exact (.bool _) :: .exact undef :: .exact undef :: .exact undef :: .exact undef :: .exact undef :: .exact (.bool _) :: .exact (.bool _) :: .exact (.bool _) :: .exact (.bool _) :: .exact (.bool _) :: .exact (.bool _) :: [])) T.tab3_12_i E T.mixed T.tab3_12 rfl (Lasts.of_exact rfl) ⟨fs_val rfl rfl (fun x w hx hk => ⟨_, _, rfl, rfl, rfl, run_loadAll rfl rfl T.agg23 ((M.ext ((Ext.drew _).trans hx)).row (i := 1) rfl) rfl, Ext.refl _, rfl⟩),
      fs_ext rfl rfl (fun x w hx hk => ⟨_, _, rfl, rfl, rfl, run_call rfl rfl T.fn9, check_ok h1 _⟩),
      fs_val rfl rfl (fun x w hx hk => ⟨_, _, rfl, rfl, rfl, tst rfl (rfl), Ext.refl _, rfl⟩),
      fs_val rfl rfl (fun x w hx hk => ⟨_, _, rfl, rfl, rfl, rfl, Ext.refl _, rfl⟩),
      fs_val rfl rfl (fun x w hx hk => ⟨_, _, rfl, rfl, rfl, run_loadAll rfl rfl T.agg23 ((M.ext ((Ext.drew _).trans hx)).row (i := 1) rfl) rfl, Ext.refl _, rfl⟩),
      fs_ext rfl rfl (fun x w hx hk => ⟨_, _, rfl, rfl, rfl, run_call rfl rfl T.fn12, sectors_x h1 _⟩),
      fs_val rfl rfl (fun x w hx hk => ⟨_, _, rfl, rfl, rfl, run_loadAll rfl rfl T.agg23 ((M.ext ((Ext.drew _).trans hx)).row (i := 3) rfl) rfl, Ext.refl _, rfl⟩),
      fs_ext rfl rfl (fun x w hx hk => ⟨_, _, rfl, rfl, rfl, run_call rfl rfl T.fn12, sectors_x h _⟩),
      fs_val rfl rfl (fun x w hx hk => ⟨_, _, rfl, rfl, rfl, run_fieldAddr rfl rfl T.fld23_1, Ext.refl _, rfl⟩),
      fs_val rfl rfl (fun x w hx hk => ⟨_, _, rfl, rfl, rfl, run_loadB rfl rfl T.one3 ((M.ext ((Ext.drew _).trans hx)).row (i := 3) rfl) rfl, Ext.refl _, rfl⟩),
      fs_val rfl rfl (fun x w hx hk => ⟨_, _, rfl, rfl, rfl, num rfl (by rw [Int.add_mul, Int.one_mul]; exact (i64_id (by omega) (by omega)).trans (by omega)), Ext.refl _, rfl⟩),
      fs_val rfl rfl (fun x w hx hk => ⟨_, _, rfl, rfl, rfl, tst rfl (by simp), Ext.refl _, rfl⟩),
      fs_val rfl rfl (fun x w hx hk => ⟨_, _, rfl, rfl, rfl, rfl, Ext.refl _, rfl⟩),
      fs_val rfl rfl (fun x w hx hk => ⟨_, _, rfl, rfl, rfl, rfl, Ext.refl _, rfl⟩),
      fs_val rfl rfl (fun x w hx hk => ⟨_, _, rfl, rfl, rfl, run_loadAll rfl rfl T.agg23 ((M.ext ((Ext.drew _).trans hx)).row (i := 1) rfl) rfl, Ext.refl _, rfl⟩),
      fs_val rfl rfl (fun x w hx hk => ⟨_, _, rfl, rfl, rfl, rfl, Ext.refl _, rfl⟩),
      fs_ext rfl rfl (fun x w hx hk => ⟨_, _, rfl, rfl, rfl, run_call rfl rfl T.fn13, need_x m h1 _⟩),
      fs_val rfl rfl (fun x w hx hk => ⟨_, _, rfl, rfl, rfl, run_loadAll rfl rfl T.agg23 ((M.ext ((Ext.drew _).trans hx)).row (i := 3) rfl) rfl, Ext.refl _, rfl⟩),
      fs_val rfl rfl (fun x w hx hk => ⟨_, _, rfl, rfl, rfl, rfl, Ext.refl _, rfl⟩),
      fs_ext rfl rfl (fun x w hx hk => ⟨_, _, rfl, rfl, rfl, run_call rfl rfl T.fn13, need_x m h _⟩),
      fs_val rfl rfl (fun x w hx hk => ⟨_, _, rfl, rfl, rfl, tst rfl (by simp), Ext.refl _, rfl⟩),
      fs_val rfl rfl (fun x w hx hk => ⟨_, _, rfl, rfl, rfl, rfl, Ext.refl _, rfl⟩),
      fs_val rfl rfl (fun x w hx hk => ⟨_, _, rfl, rfl, rfl, rfl, Ext.refl _, rfl⟩),
      fs_val rfl rfl (fun x w hx hk => ⟨_, _, rfl, rfl, rfl, run_loadAll rfl rfl T.agg23 ((M.ext ((Ext.drew _).trans hx)).row (i := 1) rfl) rfl, Ext.refl _, rfl⟩),
      fs_ext rfl rfl (fun x w hx hk => ⟨_, _, rfl, rfl, rfl, run_call rfl rfl T.fn14, lean_x h1 _⟩),
      fs_val rfl rfl (fun x w hx hk => ⟨_, _, rfl, rfl, rfl, run_loadAll rfl rfl T.agg23 ((M.ext ((Ext.drew _).trans hx)).row (i := 3) rfl) rfl, Ext.refl _, rfl⟩),
      fs_ext rfl rfl (fun x w hx hk => ⟨_, _, rfl, rfl, rfl, run_call rfl rfl T.fn14, lean_x h _⟩),
      fs_val rfl rfl (fun x w hx hk => ⟨_, _, rfl, rfl, rfl, tst rfl (by simp), Ext.refl _, rfl⟩),
      fs_val rfl rfl (fun x w hx hk => ⟨_, _, rfl, rfl, rfl, rfl, Ext.refl _, rfl⟩),
      fs_val rfl rfl (fun x w hx hk => ⟨_, _, rfl, rfl, rfl, rfl, Ext.refl _, rfl⟩),
      fs_val rfl rfl (fun x w hx hk => ⟨_, _, rfl, rfl, rfl, rfl, Ext.refl _, rfl⟩),
      fs_val rfl rfl (fun x w hx hk => ⟨_, _, rfl, rfl, rfl, tst rfl (rfl), Ext.refl _, rfl⟩),
      fs_val rfl rfl (fun x w hx hk => ⟨_, _, rfl, rfl, rfl, rfl, Ext.refl _, rfl⟩),
      fs_no rfl rfl (fun x => ⟨rfl, rfl⟩),
      fs_no rfl rfl (fun x => ⟨rfl, rfl⟩),
      fs_no rfl rfl (fun x => ⟨rfl, rfl⟩),
      fs_no rfl rfl (fun x => ⟨rfl, rfl⟩),
      fs_no rfl rfl (fun x => ⟨rfl, rfl⟩),
      fs_val rfl rfl (fun x w hx hk => ⟨_, _, rfl, rfl, rfl, rfl, Ext.refl _, rfl⟩),
      fs_val rfl rfl (fun x w hx hk => ⟨_, _, rfl, rfl, rfl, rfl, Ext.refl _, rfl⟩),
      fs_val rfl rfl (fun x w hx hk => ⟨_, _, rfl, rfl, rfl, rfl, Ext.refl _, rfl⟩),
      fs_ext rfl rfl (fun x w hx hk => ⟨_, _, rfl, rfl, rfl, run_call rfl rfl T.fn10, works_x _⟩),
      fs_val rfl rfl (fun x w hx hk => ⟨_, _, rfl, rfl, rfl, rfl, Ext.refl _, rfl⟩),
      fs_val rfl rfl (fun x w hx hk => ⟨_, _, rfl, rfl, rfl, rfl, Ext.refl _, rfl⟩), trivial⟩ ?_)
  intro x a2 w2 hx hk E2; have M2 := M.ext hx; clear hx hk E M; have E := E2; have M := M2; clear E2 M2; refine then_normal ?_
  refine wp_ret ?_
  refine ret1 E rfl rfl ?_
  exact ⟨_, rfl, M.below, rfl⟩
set_option maxRecDepth 100000 in
theorem most (s l b p q m : Int) (w : World) (h : GOK s l b) (s0 : 16 ≤ s) (s1 : s ≤ 32) (b0 : 1 ≤ b) (b1 : b ≤ 64) (l0 : 32 ≤ l) (l1 : l ≤ 64) (hb : 1 < b) (h2 : GOK s l (b - 1)) (hs : s = 32) (h1 : ¬ GOK (s + 1) l b) : ExtCall Try.prog 3 #[.agg #[.int .i64 s, .int .i64 l, .int .i64 b], .agg #[.int .i64 p, .int .i64 q], .int .i64 m] w (.exact (.bool true)) := by
  refine enter Try.func3 rfl rfl rfl ?_
  intro a E
  have M : Mem w 0 [] (fun _ => True) w := Mem.start (fun _ _ => trivial)
  refine code_region ?_
  refine snew (ob := .cells #[_, _, _] 23) (fun g => .pointer (some ⟨g, 0, none⟩)) E M rfl rfl rfl rfl rfl (run_boxN (cs := #[_, _, _]) rfl rfl) ?_; clear E M; intro g0 a w M E
  refine snew (ob := .cells #[_, _] 25) (fun g => .pointer (some ⟨g, 0, none⟩)) E M rfl rfl rfl rfl rfl (run_boxN (cs := #[_, _]) rfl rfl) ?_; clear E M; intro g1 a w M E
  refine sv (v := .bool _) E rfl rfl rfl rfl rfl (rfl) ?_; clear E; intro a E
  refine seq_nil' ?_
  refine wp_seq ?_
  refine code_region ?_
  refine sv (v := .agg #[_, _, _]) E rfl rfl rfl rfl rfl (run_loadAll rfl rfl T.agg23 (M.row (i := 1) rfl) rfl) ?_; clear E; intro a E
  refine sextv E M rfl rfl rfl rfl rfl (run_call rfl rfl T.fn9) (check_ok h _) ?_; clear E M; intro a w M E
  refine sv (v := .bool _) E rfl rfl rfl rfl rfl (rfl) ?_; clear E; intro a E
  refine seq_nil' ?_
  refine cond_false E rfl (rfl) ?_
  refine wp_skip ?_
  refine then_normal ?_
  refine code_region ?_
  refine sv (v := .agg #[_, _, _]) E rfl rfl rfl rfl rfl (run_loadAll rfl rfl T.agg23 (M.row (i := 1) rfl) rfl) ?_; clear E; intro a E
  refine snew (ob := .cells #[_, _, _] 23) (fun g => .pointer (some ⟨g, 0, none⟩)) E M rfl rfl rfl rfl rfl (run_allocN rfl T.zero23) ?_; clear E M; intro g2 a w M E
  refine sset (i := 0) (cs' := #[_, _, _]) (L' := [_, _, _]) E M rfl rfl rfl rfl rfl (run_storeN' (vs := #[_, _, _]) rfl rfl rfl T.size23 rfl (M.row (i := 0) rfl) rfl rfl rfl) rfl ?_; clear E M; intro a w M E
  refine seq_nil' ?_
  refine code_region ?_
  refine sv (v := .pointer (some ⟨_, 0, none⟩)) E rfl rfl rfl rfl rfl (run_fieldAddr rfl rfl T.fld23_0) ?_; clear E; intro a E
  refine sv (v := .int .i64 _) E rfl rfl rfl rfl rfl (run_loadB rfl rfl T.one3 (M.row (i := 0) rfl) rfl) ?_; clear E; intro a E
  refine sv (v := .int _ (s + 1)) E rfl rfl rfl rfl rfl (num rfl (i64_id (by omega) (by omega))) ?_; clear E; intro a E
  refine sv (v := .pointer (some ⟨_, 0, none⟩)) E rfl rfl rfl rfl rfl (run_fieldAddr rfl rfl T.fld23_0) ?_; clear E; intro a E
  refine sset (i := 0) (cs' := #[_, _, _]) (L' := [_, _, _]) E M rfl rfl rfl rfl rfl (run_store1' (v := .int .i64 _) rfl rfl rfl T.size3 (M.row (i := 0) rfl) rfl rfl rfl) rfl ?_; clear E M; intro a w M E
  refine seq_nil' ?_
  refine code_region ?_
  refine sv (v := .agg #[_, _, _]) E rfl rfl rfl rfl rfl (run_loadAll rfl rfl T.agg23 (M.row (i := 2) rfl) rfl) ?_; clear E; intro a E
  refine snew (ob := .cells #[_, _, _] 23) (fun g => .pointer (some ⟨g, 0, none⟩)) E M rfl rfl rfl rfl rfl (run_allocN rfl T.zero23) ?_; clear E M; intro g3 a w M E
  refine sset (i := 0) (cs' := #[_, _, _]) (L' := [_, _, _, _]) E M rfl rfl rfl rfl rfl (run_storeN' (vs := #[_, _, _]) rfl rfl rfl T.size23 rfl (M.row (i := 0) rfl) rfl rfl rfl) rfl ?_; clear E M; intro a w M E
  refine seq_nil' ?_
  refine code_region ?_
  refine sv (v := .pointer (some ⟨_, 2, none⟩)) E rfl rfl rfl rfl rfl (run_fieldAddr rfl rfl T.fld23_2) ?_; clear E; intro a E
  refine sv (v := .int .i64 _) E rfl rfl rfl rfl rfl (run_loadB rfl rfl T.one3 (M.row (i := 0) rfl) rfl) ?_; clear E; intro a E
  refine sv (v := .int _ (b - 1)) E rfl rfl rfl rfl rfl (num rfl (i64_id (by omega) (by omega))) ?_; clear E; intro a E
  refine sv (v := .pointer (some ⟨_, 2, none⟩)) E rfl rfl rfl rfl rfl (run_fieldAddr rfl rfl T.fld23_2) ?_; clear E; intro a E
  refine sset (i := 0) (cs' := #[_, _, _]) (L' := [_, _, _, _]) E M rfl rfl rfl rfl rfl (run_store1' (v := .int .i64 _) rfl rfl rfl T.size3 (M.row (i := 0) rfl) rfl rfl rfl) rfl ?_; clear E M; intro a w M E
  refine seq_nil' ?_
  refine wp_seq ?_
  refine code_region ?_
  refine sv (v := .pointer (some ⟨_, 2, none⟩)) E rfl rfl rfl rfl rfl (run_fieldAddr rfl rfl T.fld23_2) ?_; clear E; intro a E
  refine sv (v := .int .i64 _) E rfl rfl rfl rfl rfl (run_loadB rfl rfl T.one3 (M.row (i := 3) rfl) rfl) ?_; clear E; intro a E
  refine sv (v := .bool true) E rfl rfl rfl rfl rfl (tst rfl (by simp; omega)) ?_; clear E; intro a E
  refine sv (v := .bool _) E rfl rfl rfl rfl rfl (rfl) ?_; clear E; intro a E
  refine sv (v := .agg #[_, _, _]) E rfl rfl rfl rfl rfl (run_loadAll rfl rfl T.agg23 (M.row (i := 0) rfl) rfl) ?_; clear E; intro a E
  refine sextv E M rfl rfl rfl rfl rfl (run_call rfl rfl T.fn9) (check_ok h2 _) ?_; clear E M; intro a w M E
  refine sv (v := .bool _) E rfl rfl rfl rfl rfl (rfl) ?_; clear E; intro a E
  refine sv (v := .bool _) E rfl rfl rfl rfl rfl (rfl) ?_; clear E; intro a E
  refine seq_nil' ?_
  refine cond_false E rfl (rfl) ?_
  refine wp_skip ?_
  refine then_normal ?_
  refine wp_seq ?_
  refine code_region ?_
  refine sv (v := .pointer (some ⟨_, 0, none⟩)) E rfl rfl rfl rfl rfl (run_fieldAddr rfl rfl T.fld23_0) ?_; clear E; intro a E
  refine sv (v := .int .i64 _) E rfl rfl rfl rfl rfl (run_loadB rfl rfl T.one3 (M.row (i := 3) rfl) rfl) ?_; clear E; intro a E
  refine sv (v := .bool _) E rfl rfl rfl rfl rfl (rfl) ?_; clear E; intro a E
  refine seq_nil' ?_
  refine cond_true E rfl (by simp [hs]) ?_
  refine code_region ?_
  refine sv (v := .agg #[_, _, _]) E rfl rfl rfl rfl rfl (run_loadAll rfl rfl T.agg23 (M.row (i := 1) rfl) rfl) ?_; clear E; intro a E
  refine sextv E M rfl rfl rfl rfl rfl (run_call rfl rfl T.fn9) (check_no h1 _) ?_; clear E M; intro a w M E
  refine sv (v := .bool _) E rfl rfl rfl rfl rfl (rfl) ?_; clear E; intro a E
  refine sv (v := .bool _) E rfl rfl rfl rfl rfl (rfl) ?_; clear E; intro a E
  refine sextv E M rfl rfl rfl rfl rfl (run_call rfl rfl T.fn10) (works_x _) ?_; clear E M; intro a w M E
  refine sv (v := .bool _) E rfl rfl rfl rfl rfl (rfl) ?_; clear E; intro a E
  refine sv (v := .bool _) E rfl rfl rfl rfl rfl (rfl) ?_; clear E; intro a E
  refine seq_nil' ?_
  refine wp_ret ?_
  refine then_ret ?_
  refine ret1 E rfl rfl ?_
  exact ⟨_, rfl, M.below, rfl⟩
set_option maxRecDepth 100000 in
theorem there (s l b p q m : Int) (w : World) (h : GOK s l b) (s0 : 16 ≤ s) (s1 : s ≤ 32) (b0 : 1 ≤ b) (b1 : b ≤ 64) (l0 : 32 ≤ l) (l1 : l ≤ 64) (hb : 1 < b) (h2 : GOK s l (b - 1)) (hs : s < 32) (h1 : GOK (s + 1) l b) (sl : 512 ≤ s * l ∧ s * l ≤ 2048) (hp : Pl s l p q) (hp2 : Pl (s + 1) l p q) (pp : 0 ≤ p * l) : ExtCall Try.prog 3 #[.agg #[.int .i64 s, .int .i64 l, .int .i64 b], .agg #[.int .i64 p, .int .i64 q], .int .i64 m] w (.exact (.bool true)) := by
  refine enter Try.func3 rfl rfl rfl ?_
  intro a E
  have M : Mem w 0 [] (fun _ => True) w := Mem.start (fun _ _ => trivial)
  refine code_region ?_
  refine snew (ob := .cells #[_, _, _] 23) (fun g => .pointer (some ⟨g, 0, none⟩)) E M rfl rfl rfl rfl rfl (run_boxN (cs := #[_, _, _]) rfl rfl) ?_; clear E M; intro g0 a w M E
  refine snew (ob := .cells #[_, _] 25) (fun g => .pointer (some ⟨g, 0, none⟩)) E M rfl rfl rfl rfl rfl (run_boxN (cs := #[_, _]) rfl rfl) ?_; clear E M; intro g1 a w M E
  refine sv (v := .bool _) E rfl rfl rfl rfl rfl (rfl) ?_; clear E; intro a E
  refine seq_nil' ?_
  refine wp_seq ?_
  refine code_region ?_
  refine sv (v := .agg #[_, _, _]) E rfl rfl rfl rfl rfl (run_loadAll rfl rfl T.agg23 (M.row (i := 1) rfl) rfl) ?_; clear E; intro a E
  refine sextv E M rfl rfl rfl rfl rfl (run_call rfl rfl T.fn9) (check_ok h _) ?_; clear E M; intro a w M E
  refine sv (v := .bool _) E rfl rfl rfl rfl rfl (rfl) ?_; clear E; intro a E
  refine seq_nil' ?_
  refine cond_false E rfl (rfl) ?_
  refine wp_skip ?_
  refine then_normal ?_
  refine code_region ?_
  refine sv (v := .agg #[_, _, _]) E rfl rfl rfl rfl rfl (run_loadAll rfl rfl T.agg23 (M.row (i := 1) rfl) rfl) ?_; clear E; intro a E
  refine snew (ob := .cells #[_, _, _] 23) (fun g => .pointer (some ⟨g, 0, none⟩)) E M rfl rfl rfl rfl rfl (run_allocN rfl T.zero23) ?_; clear E M; intro g2 a w M E
  refine sset (i := 0) (cs' := #[_, _, _]) (L' := [_, _, _]) E M rfl rfl rfl rfl rfl (run_storeN' (vs := #[_, _, _]) rfl rfl rfl T.size23 rfl (M.row (i := 0) rfl) rfl rfl rfl) rfl ?_; clear E M; intro a w M E
  refine seq_nil' ?_
  refine code_region ?_
  refine sv (v := .pointer (some ⟨_, 0, none⟩)) E rfl rfl rfl rfl rfl (run_fieldAddr rfl rfl T.fld23_0) ?_; clear E; intro a E
  refine sv (v := .int .i64 _) E rfl rfl rfl rfl rfl (run_loadB rfl rfl T.one3 (M.row (i := 0) rfl) rfl) ?_; clear E; intro a E
  refine sv (v := .int _ (s + 1)) E rfl rfl rfl rfl rfl (num rfl (i64_id (by omega) (by omega))) ?_; clear E; intro a E
  refine sv (v := .pointer (some ⟨_, 0, none⟩)) E rfl rfl rfl rfl rfl (run_fieldAddr rfl rfl T.fld23_0) ?_; clear E; intro a E
  refine sset (i := 0) (cs' := #[_, _, _]) (L' := [_, _, _]) E M rfl rfl rfl rfl rfl (run_store1' (v := .int .i64 _) rfl rfl rfl T.size3 (M.row (i := 0) rfl) rfl rfl rfl) rfl ?_; clear E M; intro a w M E
  refine seq_nil' ?_
  refine code_region ?_
  refine sv (v := .agg #[_, _, _]) E rfl rfl rfl rfl rfl (run_loadAll rfl rfl T.agg23 (M.row (i := 2) rfl) rfl) ?_; clear E; intro a E
  refine snew (ob := .cells #[_, _, _] 23) (fun g => .pointer (some ⟨g, 0, none⟩)) E M rfl rfl rfl rfl rfl (run_allocN rfl T.zero23) ?_; clear E M; intro g3 a w M E
  refine sset (i := 0) (cs' := #[_, _, _]) (L' := [_, _, _, _]) E M rfl rfl rfl rfl rfl (run_storeN' (vs := #[_, _, _]) rfl rfl rfl T.size23 rfl (M.row (i := 0) rfl) rfl rfl rfl) rfl ?_; clear E M; intro a w M E
  refine seq_nil' ?_
  refine code_region ?_
  refine sv (v := .pointer (some ⟨_, 2, none⟩)) E rfl rfl rfl rfl rfl (run_fieldAddr rfl rfl T.fld23_2) ?_; clear E; intro a E
  refine sv (v := .int .i64 _) E rfl rfl rfl rfl rfl (run_loadB rfl rfl T.one3 (M.row (i := 0) rfl) rfl) ?_; clear E; intro a E
  refine sv (v := .int _ (b - 1)) E rfl rfl rfl rfl rfl (num rfl (i64_id (by omega) (by omega))) ?_; clear E; intro a E
  refine sv (v := .pointer (some ⟨_, 2, none⟩)) E rfl rfl rfl rfl rfl (run_fieldAddr rfl rfl T.fld23_2) ?_; clear E; intro a E
  refine sset (i := 0) (cs' := #[_, _, _]) (L' := [_, _, _, _]) E M rfl rfl rfl rfl rfl (run_store1' (v := .int .i64 _) rfl rfl rfl T.size3 (M.row (i := 0) rfl) rfl rfl rfl) rfl ?_; clear E M; intro a w M E
  refine seq_nil' ?_
  refine wp_seq ?_
  refine code_region ?_
  refine sv (v := .pointer (some ⟨_, 2, none⟩)) E rfl rfl rfl rfl rfl (run_fieldAddr rfl rfl T.fld23_2) ?_; clear E; intro a E
  refine sv (v := .int .i64 _) E rfl rfl rfl rfl rfl (run_loadB rfl rfl T.one3 (M.row (i := 3) rfl) rfl) ?_; clear E; intro a E
  refine sv (v := .bool true) E rfl rfl rfl rfl rfl (tst rfl (by simp; omega)) ?_; clear E; intro a E
  refine sv (v := .bool _) E rfl rfl rfl rfl rfl (rfl) ?_; clear E; intro a E
  refine sv (v := .agg #[_, _, _]) E rfl rfl rfl rfl rfl (run_loadAll rfl rfl T.agg23 (M.row (i := 0) rfl) rfl) ?_; clear E; intro a E
  refine sextv E M rfl rfl rfl rfl rfl (run_call rfl rfl T.fn9) (check_ok h2 _) ?_; clear E M; intro a w M E
  refine sv (v := .bool _) E rfl rfl rfl rfl rfl (rfl) ?_; clear E; intro a E
  refine sv (v := .bool _) E rfl rfl rfl rfl rfl (rfl) ?_; clear E; intro a E
  refine seq_nil' ?_
  refine cond_false E rfl (rfl) ?_
  refine wp_skip ?_
  refine then_normal ?_
  refine wp_seq ?_
  refine code_region ?_
  refine sv (v := .pointer (some ⟨_, 0, none⟩)) E rfl rfl rfl rfl rfl (run_fieldAddr rfl rfl T.fld23_0) ?_; clear E; intro a E
  refine sv (v := .int .i64 _) E rfl rfl rfl rfl rfl (run_loadB rfl rfl T.one3 (M.row (i := 3) rfl) rfl) ?_; clear E; intro a E
  refine sv (v := .bool _) E rfl rfl rfl rfl rfl (rfl) ?_; clear E; intro a E
  refine seq_nil' ?_
  refine cond_false E rfl (by simp; omega) ?_
  refine wp_skip ?_
  refine then_normal ?_
  refine code_region ?_
  refine sv (v := .agg #[_, _, _]) E rfl rfl rfl rfl rfl (run_loadAll rfl rfl T.agg23 (M.row (i := 3) rfl) rfl) ?_; clear E; intro a E
  refine sv (v := .agg #[_, _]) E rfl rfl rfl rfl rfl (run_loadAll rfl rfl T.agg25 (M.row (i := 2) rfl) rfl) ?_; clear E; intro a E
  refine sextv E M rfl rfl rfl rfl rfl (run_call rfl rfl T.fn11) (at_in h hp _) ?_; clear E M; intro a w M E
  refine sv (v := .int .i64 _) E rfl rfl rfl rfl rfl (rfl) ?_; clear E; intro a E
  refine seq_nil' ?_
  refine wp_seq (free_reg (B := T.tab3_12_b) (Vs := (.exact (.agg #[_, _, _]) :: .exact (.int .i64 _) :: .exact (.bool true) :: .exact (.bool _) :: .exact (.agg #[_, _, _]) :: .exact (.int .i64 _) :: .exact (.agg #[_, _, _]) :: .exact (.int .i64 _) :: .exact (.pointer (some ⟨_, 1, none⟩)) :: .exact (.int .i64 _) :: .exact (.int _ (3 + (s + 1) * l)) :: .exact (.bool true) :: .exact (.bool _) :: .exact (.bool _) :: .exact (.agg #[_, _, _]) :: .exact (.int .i64 _) :: .exact (.int .i64 _) :: .exact (.agg #[_, _, _]) :: .exact (.int .i64 _) :: .exact (.int .i64 _) :: .exact (.bool true) :: .exact (.bool _) :: .exact (.bool _) :: .exact (.agg #[_, _, _]) :: .exact (.int .i64 _) :: .exact (.agg #[_, _, _]) :: .exact (.int .i64 _) :: .exact (.bool true) :: .exact (.bool _) :: .exact (.bool _) :: .exact (.int .i64 _) :: .exact (.bool false) :: .exact (.bool _) :: .exact (.agg #[_, _, _]) :: .exact (.agg #[_, _]) :: .exact (.int .i64 _) :: .exact (.int .i64 _) :: .exact (.bool true) :: .exact (.bool _) :: .exact (.bool _) :: .exact (.bool _) :: .exact (.bool _) :: .exact (.bool _) :: .exact (.bool _) :: [])) T.tab3_12_i E T.mixed T.tab3_12 rfl (Lasts.of_exact rfl) ⟨fs_val rfl rfl (fun x w hx hk => ⟨_, _, rfl, rfl, rfl, run_loadAll rfl rfl T.agg23 ((M.ext ((Ext.drew _).trans hx)).row (i := 1) rfl) rfl, Ext.refl _, rfl⟩),
      fs_ext rfl rfl (fun x w hx hk => ⟨_, _, rfl, rfl, rfl, run_call rfl rfl T.fn9, check_ok h1 _⟩),
      fs_val rfl rfl (fun x w hx hk => ⟨_, _, rfl, rfl, rfl, tst rfl (rfl), Ext.refl _, rfl⟩),
      fs_val rfl rfl (fun x w hx hk => ⟨_, _, rfl, rfl, rfl, rfl, Ext.refl _, rfl⟩),
      fs_val rfl rfl (fun x w hx hk => ⟨_, _, rfl, rfl, rfl, run_loadAll rfl rfl T.agg23 ((M.ext ((Ext.drew _).trans hx)).row (i := 1) rfl) rfl, Ext.refl _, rfl⟩),
      fs_ext rfl rfl (fun x w hx hk => ⟨_, _, rfl, rfl, rfl, run_call rfl rfl T.fn12, sectors_x h1 _⟩),
      fs_val rfl rfl (fun x w hx hk => ⟨_, _, rfl, rfl, rfl, run_loadAll rfl rfl T.agg23 ((M.ext ((Ext.drew _).trans hx)).row (i := 3) rfl) rfl, Ext.refl _, rfl⟩),
      fs_ext rfl rfl (fun x w hx hk => ⟨_, _, rfl, rfl, rfl, run_call rfl rfl T.fn12, sectors_x h _⟩),
      fs_val rfl rfl (fun x w hx hk => ⟨_, _, rfl, rfl, rfl, run_fieldAddr rfl rfl T.fld23_1, Ext.refl _, rfl⟩),
      fs_val rfl rfl (fun x w hx hk => ⟨_, _, rfl, rfl, rfl, run_loadB rfl rfl T.one3 ((M.ext ((Ext.drew _).trans hx)).row (i := 3) rfl) rfl, Ext.refl _, rfl⟩),
      fs_val rfl rfl (fun x w hx hk => ⟨_, _, rfl, rfl, rfl, num rfl (by rw [Int.add_mul, Int.one_mul]; exact (i64_id (by omega) (by omega)).trans (by omega)), Ext.refl _, rfl⟩),
      fs_val rfl rfl (fun x w hx hk => ⟨_, _, rfl, rfl, rfl, tst rfl (by simp), Ext.refl _, rfl⟩),
      fs_val rfl rfl (fun x w hx hk => ⟨_, _, rfl, rfl, rfl, rfl, Ext.refl _, rfl⟩),
      fs_val rfl rfl (fun x w hx hk => ⟨_, _, rfl, rfl, rfl, rfl, Ext.refl _, rfl⟩),
      fs_val rfl rfl (fun x w hx hk => ⟨_, _, rfl, rfl, rfl, run_loadAll rfl rfl T.agg23 ((M.ext ((Ext.drew _).trans hx)).row (i := 1) rfl) rfl, Ext.refl _, rfl⟩),
      fs_val rfl rfl (fun x w hx hk => ⟨_, _, rfl, rfl, rfl, rfl, Ext.refl _, rfl⟩),
      fs_ext rfl rfl (fun x w hx hk => ⟨_, _, rfl, rfl, rfl, run_call rfl rfl T.fn13, need_x m h1 _⟩),
      fs_val rfl rfl (fun x w hx hk => ⟨_, _, rfl, rfl, rfl, run_loadAll rfl rfl T.agg23 ((M.ext ((Ext.drew _).trans hx)).row (i := 3) rfl) rfl, Ext.refl _, rfl⟩),
      fs_val rfl rfl (fun x w hx hk => ⟨_, _, rfl, rfl, rfl, rfl, Ext.refl _, rfl⟩),
      fs_ext rfl rfl (fun x w hx hk => ⟨_, _, rfl, rfl, rfl, run_call rfl rfl T.fn13, need_x m h _⟩),
      fs_val rfl rfl (fun x w hx hk => ⟨_, _, rfl, rfl, rfl, tst rfl (by simp), Ext.refl _, rfl⟩),
      fs_val rfl rfl (fun x w hx hk => ⟨_, _, rfl, rfl, rfl, rfl, Ext.refl _, rfl⟩),
      fs_val rfl rfl (fun x w hx hk => ⟨_, _, rfl, rfl, rfl, rfl, Ext.refl _, rfl⟩),
      fs_val rfl rfl (fun x w hx hk => ⟨_, _, rfl, rfl, rfl, run_loadAll rfl rfl T.agg23 ((M.ext ((Ext.drew _).trans hx)).row (i := 1) rfl) rfl, Ext.refl _, rfl⟩),
      fs_ext rfl rfl (fun x w hx hk => ⟨_, _, rfl, rfl, rfl, run_call rfl rfl T.fn14, lean_x h1 _⟩),
      fs_val rfl rfl (fun x w hx hk => ⟨_, _, rfl, rfl, rfl, run_loadAll rfl rfl T.agg23 ((M.ext ((Ext.drew _).trans hx)).row (i := 3) rfl) rfl, Ext.refl _, rfl⟩),
      fs_ext rfl rfl (fun x w hx hk => ⟨_, _, rfl, rfl, rfl, run_call rfl rfl T.fn14, lean_x h _⟩),
      fs_val rfl rfl (fun x w hx hk => ⟨_, _, rfl, rfl, rfl, tst rfl (by simp), Ext.refl _, rfl⟩),
      fs_val rfl rfl (fun x w hx hk => ⟨_, _, rfl, rfl, rfl, rfl, Ext.refl _, rfl⟩),
      fs_val rfl rfl (fun x w hx hk => ⟨_, _, rfl, rfl, rfl, rfl, Ext.refl _, rfl⟩),
      fs_val rfl rfl (fun x w hx hk => ⟨_, _, rfl, rfl, rfl, rfl, Ext.refl _, rfl⟩),
      fs_val rfl rfl (fun x w hx hk => ⟨_, _, rfl, rfl, rfl, tst rfl (by simp; have := hp.2.2.1; omega), Ext.refl _, rfl⟩),
      fs_val rfl rfl (fun x w hx hk => ⟨_, _, rfl, rfl, rfl, rfl, Ext.refl _, rfl⟩),
      fs_val rfl rfl (fun x w hx hk => ⟨_, _, rfl, rfl, rfl, run_loadAll rfl rfl T.agg23 ((M.ext ((Ext.drew _).trans hx)).row (i := 1) rfl) rfl, Ext.refl _, rfl⟩),
      fs_val rfl rfl (fun x w hx hk => ⟨_, _, rfl, rfl, rfl, run_loadAll rfl rfl T.agg25 ((M.ext ((Ext.drew _).trans hx)).row (i := 2) rfl) rfl, Ext.refl _, rfl⟩),
      fs_ext rfl rfl (fun x w hx hk => ⟨_, _, rfl, rfl, rfl, run_call rfl rfl T.fn11, at_in h1 hp2 _⟩),
      fs_val rfl rfl (fun x w hx hk => ⟨_, _, rfl, rfl, rfl, rfl, Ext.refl _, rfl⟩),
      fs_val rfl rfl (fun x w hx hk => ⟨_, _, rfl, rfl, rfl, tst rfl (by simp), Ext.refl _, rfl⟩),
      fs_val rfl rfl (fun x w hx hk => ⟨_, _, rfl, rfl, rfl, rfl, Ext.refl _, rfl⟩),
      fs_val rfl rfl (fun x w hx hk => ⟨_, _, rfl, rfl, rfl, rfl, Ext.refl _, rfl⟩),
      fs_val rfl rfl (fun x w hx hk => ⟨_, _, rfl, rfl, rfl, rfl, Ext.refl _, rfl⟩),
      fs_ext rfl rfl (fun x w hx hk => ⟨_, _, rfl, rfl, rfl, run_call rfl rfl T.fn10, works_x _⟩),
      fs_val rfl rfl (fun x w hx hk => ⟨_, _, rfl, rfl, rfl, rfl, Ext.refl _, rfl⟩),
      fs_val rfl rfl (fun x w hx hk => ⟨_, _, rfl, rfl, rfl, rfl, Ext.refl _, rfl⟩), trivial⟩ ?_)
  intro x a2 w2 hx hk E2; have M2 := M.ext hx; clear hx hk E M; have E := E2; have M := M2; clear E2 M2; refine then_normal ?_
  refine wp_ret ?_
  refine ret1 E rfl rfl ?_
  exact ⟨_, rfl, M.below, rfl⟩
set_option maxRecDepth 100000 in
theorem there0 (s l b p q m : Int) (w : World) (h : GOK s l b) (s0 : 16 ≤ s) (s1 : s ≤ 32) (b0 : 1 ≤ b) (b1 : b ≤ 64) (l0 : 32 ≤ l) (l1 : l ≤ 64) (hb : 1 < b) (h2 : GOK s l (b - 1)) (hs : s < 32) (h1 : GOK (s + 1) l b) (sl : 512 ≤ s * l ∧ s * l ≤ 2048) (hp : ¬ Pl s l p q) : ExtCall Try.prog 3 #[.agg #[.int .i64 s, .int .i64 l, .int .i64 b], .agg #[.int .i64 p, .int .i64 q], .int .i64 m] w (.exact (.bool true)) := by
  refine enter Try.func3 rfl rfl rfl ?_
  intro a E
  have M : Mem w 0 [] (fun _ => True) w := Mem.start (fun _ _ => trivial)
  refine code_region ?_
  refine snew (ob := .cells #[_, _, _] 23) (fun g => .pointer (some ⟨g, 0, none⟩)) E M rfl rfl rfl rfl rfl (run_boxN (cs := #[_, _, _]) rfl rfl) ?_; clear E M; intro g0 a w M E
  refine snew (ob := .cells #[_, _] 25) (fun g => .pointer (some ⟨g, 0, none⟩)) E M rfl rfl rfl rfl rfl (run_boxN (cs := #[_, _]) rfl rfl) ?_; clear E M; intro g1 a w M E
  refine sv (v := .bool _) E rfl rfl rfl rfl rfl (rfl) ?_; clear E; intro a E
  refine seq_nil' ?_
  refine wp_seq ?_
  refine code_region ?_
  refine sv (v := .agg #[_, _, _]) E rfl rfl rfl rfl rfl (run_loadAll rfl rfl T.agg23 (M.row (i := 1) rfl) rfl) ?_; clear E; intro a E
  refine sextv E M rfl rfl rfl rfl rfl (run_call rfl rfl T.fn9) (check_ok h _) ?_; clear E M; intro a w M E
  refine sv (v := .bool _) E rfl rfl rfl rfl rfl (rfl) ?_; clear E; intro a E
  refine seq_nil' ?_
  refine cond_false E rfl (rfl) ?_
  refine wp_skip ?_
  refine then_normal ?_
  refine code_region ?_
  refine sv (v := .agg #[_, _, _]) E rfl rfl rfl rfl rfl (run_loadAll rfl rfl T.agg23 (M.row (i := 1) rfl) rfl) ?_; clear E; intro a E
  refine snew (ob := .cells #[_, _, _] 23) (fun g => .pointer (some ⟨g, 0, none⟩)) E M rfl rfl rfl rfl rfl (run_allocN rfl T.zero23) ?_; clear E M; intro g2 a w M E
  refine sset (i := 0) (cs' := #[_, _, _]) (L' := [_, _, _]) E M rfl rfl rfl rfl rfl (run_storeN' (vs := #[_, _, _]) rfl rfl rfl T.size23 rfl (M.row (i := 0) rfl) rfl rfl rfl) rfl ?_; clear E M; intro a w M E
  refine seq_nil' ?_
  refine code_region ?_
  refine sv (v := .pointer (some ⟨_, 0, none⟩)) E rfl rfl rfl rfl rfl (run_fieldAddr rfl rfl T.fld23_0) ?_; clear E; intro a E
  refine sv (v := .int .i64 _) E rfl rfl rfl rfl rfl (run_loadB rfl rfl T.one3 (M.row (i := 0) rfl) rfl) ?_; clear E; intro a E
  refine sv (v := .int _ (s + 1)) E rfl rfl rfl rfl rfl (num rfl (i64_id (by omega) (by omega))) ?_; clear E; intro a E
  refine sv (v := .pointer (some ⟨_, 0, none⟩)) E rfl rfl rfl rfl rfl (run_fieldAddr rfl rfl T.fld23_0) ?_; clear E; intro a E
  refine sset (i := 0) (cs' := #[_, _, _]) (L' := [_, _, _]) E M rfl rfl rfl rfl rfl (run_store1' (v := .int .i64 _) rfl rfl rfl T.size3 (M.row (i := 0) rfl) rfl rfl rfl) rfl ?_; clear E M; intro a w M E
  refine seq_nil' ?_
  refine code_region ?_
  refine sv (v := .agg #[_, _, _]) E rfl rfl rfl rfl rfl (run_loadAll rfl rfl T.agg23 (M.row (i := 2) rfl) rfl) ?_; clear E; intro a E
  refine snew (ob := .cells #[_, _, _] 23) (fun g => .pointer (some ⟨g, 0, none⟩)) E M rfl rfl rfl rfl rfl (run_allocN rfl T.zero23) ?_; clear E M; intro g3 a w M E
  refine sset (i := 0) (cs' := #[_, _, _]) (L' := [_, _, _, _]) E M rfl rfl rfl rfl rfl (run_storeN' (vs := #[_, _, _]) rfl rfl rfl T.size23 rfl (M.row (i := 0) rfl) rfl rfl rfl) rfl ?_; clear E M; intro a w M E
  refine seq_nil' ?_
  refine code_region ?_
  refine sv (v := .pointer (some ⟨_, 2, none⟩)) E rfl rfl rfl rfl rfl (run_fieldAddr rfl rfl T.fld23_2) ?_; clear E; intro a E
  refine sv (v := .int .i64 _) E rfl rfl rfl rfl rfl (run_loadB rfl rfl T.one3 (M.row (i := 0) rfl) rfl) ?_; clear E; intro a E
  refine sv (v := .int _ (b - 1)) E rfl rfl rfl rfl rfl (num rfl (i64_id (by omega) (by omega))) ?_; clear E; intro a E
  refine sv (v := .pointer (some ⟨_, 2, none⟩)) E rfl rfl rfl rfl rfl (run_fieldAddr rfl rfl T.fld23_2) ?_; clear E; intro a E
  refine sset (i := 0) (cs' := #[_, _, _]) (L' := [_, _, _, _]) E M rfl rfl rfl rfl rfl (run_store1' (v := .int .i64 _) rfl rfl rfl T.size3 (M.row (i := 0) rfl) rfl rfl rfl) rfl ?_; clear E M; intro a w M E
  refine seq_nil' ?_
  refine wp_seq ?_
  refine code_region ?_
  refine sv (v := .pointer (some ⟨_, 2, none⟩)) E rfl rfl rfl rfl rfl (run_fieldAddr rfl rfl T.fld23_2) ?_; clear E; intro a E
  refine sv (v := .int .i64 _) E rfl rfl rfl rfl rfl (run_loadB rfl rfl T.one3 (M.row (i := 3) rfl) rfl) ?_; clear E; intro a E
  refine sv (v := .bool true) E rfl rfl rfl rfl rfl (tst rfl (by simp; omega)) ?_; clear E; intro a E
  refine sv (v := .bool _) E rfl rfl rfl rfl rfl (rfl) ?_; clear E; intro a E
  refine sv (v := .agg #[_, _, _]) E rfl rfl rfl rfl rfl (run_loadAll rfl rfl T.agg23 (M.row (i := 0) rfl) rfl) ?_; clear E; intro a E
  refine sextv E M rfl rfl rfl rfl rfl (run_call rfl rfl T.fn9) (check_ok h2 _) ?_; clear E M; intro a w M E
  refine sv (v := .bool _) E rfl rfl rfl rfl rfl (rfl) ?_; clear E; intro a E
  refine sv (v := .bool _) E rfl rfl rfl rfl rfl (rfl) ?_; clear E; intro a E
  refine seq_nil' ?_
  refine cond_false E rfl (rfl) ?_
  refine wp_skip ?_
  refine then_normal ?_
  refine wp_seq ?_
  refine code_region ?_
  refine sv (v := .pointer (some ⟨_, 0, none⟩)) E rfl rfl rfl rfl rfl (run_fieldAddr rfl rfl T.fld23_0) ?_; clear E; intro a E
  refine sv (v := .int .i64 _) E rfl rfl rfl rfl rfl (run_loadB rfl rfl T.one3 (M.row (i := 3) rfl) rfl) ?_; clear E; intro a E
  refine sv (v := .bool _) E rfl rfl rfl rfl rfl (rfl) ?_; clear E; intro a E
  refine seq_nil' ?_
  refine cond_false E rfl (by simp; omega) ?_
  refine wp_skip ?_
  refine then_normal ?_
  refine code_region ?_
  refine sv (v := .agg #[_, _, _]) E rfl rfl rfl rfl rfl (run_loadAll rfl rfl T.agg23 (M.row (i := 3) rfl) rfl) ?_; clear E; intro a E
  refine sv (v := .agg #[_, _]) E rfl rfl rfl rfl rfl (run_loadAll rfl rfl T.agg25 (M.row (i := 2) rfl) rfl) ?_; clear E; intro a E
  refine sextv E M rfl rfl rfl rfl rfl (run_call rfl rfl T.fn11) (at_out h hp _) ?_; clear E M; intro a w M E
  refine sv (v := .int .i64 _) E rfl rfl rfl rfl rfl (rfl) ?_; clear E; intro a E
  refine seq_nil' ?_
  refine wp_seq (free_reg (B := T.tab3_12_b) (Vs := (.exact (.agg #[_, _, _]) :: .exact (.int .i64 _) :: .exact (.bool true) :: .exact (.bool _) :: .exact (.agg #[_, _, _]) :: .exact (.int .i64 _) :: .exact (.agg #[_, _, _]) :: .exact (.int .i64 _) :: .exact (.pointer (some ⟨_, 1, none⟩)) :: .exact (.int .i64 _) :: .exact (.int _ (3 + (s + 1) * l)) :: .exact (.bool true) :: .exact (.bool _) :: .exact (.bool _) :: .exact (.agg #[_, _, _]) :: .exact (.int .i64 _) :: .exact (.int .i64 _) :: .exact (.agg #[_, _, _]) :: .exact (.int .i64 _) :: .exact (.int .i64 _) :: .exact (.bool true) :: .exact (.bool _) :: .exact (.bool _) :: .exact (.agg #[_, _, _]) :: .exact (.int .i64 _) :: .exact (.agg #[_, _, _]) :: .exact (.int .i64 _) :: .exact (.bool true) :: .exact (.bool _) :: .exact (.bool _) :: .exact (.int .i64 _) :: .exact (.bool true) :: .exact (.bool _) :: .exact undef :: .exact undef :: .exact undef :: .exact undef :: .exact undef :: .exact (.bool _) :: .exact (.bool _) :: .exact (.bool _) :: .exact (.bool _) :: .exact (.bool _) :: .exact (.bool _) :: [])) T.tab3_12_i E T.mixed T.tab3_12 rfl (Lasts.of_exact rfl) ⟨fs_val rfl rfl (fun x w hx hk => ⟨_, _, rfl, rfl, rfl, run_loadAll rfl rfl T.agg23 ((M.ext ((Ext.drew _).trans hx)).row (i := 1) rfl) rfl, Ext.refl _, rfl⟩),
      fs_ext rfl rfl (fun x w hx hk => ⟨_, _, rfl, rfl, rfl, run_call rfl rfl T.fn9, check_ok h1 _⟩),
      fs_val rfl rfl (fun x w hx hk => ⟨_, _, rfl, rfl, rfl, tst rfl (rfl), Ext.refl _, rfl⟩),
      fs_val rfl rfl (fun x w hx hk => ⟨_, _, rfl, rfl, rfl, rfl, Ext.refl _, rfl⟩),
      fs_val rfl rfl (fun x w hx hk => ⟨_, _, rfl, rfl, rfl, run_loadAll rfl rfl T.agg23 ((M.ext ((Ext.drew _).trans hx)).row (i := 1) rfl) rfl, Ext.refl _, rfl⟩),
      fs_ext rfl rfl (fun x w hx hk => ⟨_, _, rfl, rfl, rfl, run_call rfl rfl T.fn12, sectors_x h1 _⟩),
      fs_val rfl rfl (fun x w hx hk => ⟨_, _, rfl, rfl, rfl, run_loadAll rfl rfl T.agg23 ((M.ext ((Ext.drew _).trans hx)).row (i := 3) rfl) rfl, Ext.refl _, rfl⟩),
      fs_ext rfl rfl (fun x w hx hk => ⟨_, _, rfl, rfl, rfl, run_call rfl rfl T.fn12, sectors_x h _⟩),
      fs_val rfl rfl (fun x w hx hk => ⟨_, _, rfl, rfl, rfl, run_fieldAddr rfl rfl T.fld23_1, Ext.refl _, rfl⟩),
      fs_val rfl rfl (fun x w hx hk => ⟨_, _, rfl, rfl, rfl, run_loadB rfl rfl T.one3 ((M.ext ((Ext.drew _).trans hx)).row (i := 3) rfl) rfl, Ext.refl _, rfl⟩),
      fs_val rfl rfl (fun x w hx hk => ⟨_, _, rfl, rfl, rfl, num rfl (by rw [Int.add_mul, Int.one_mul]; exact (i64_id (by omega) (by omega)).trans (by omega)), Ext.refl _, rfl⟩),
      fs_val rfl rfl (fun x w hx hk => ⟨_, _, rfl, rfl, rfl, tst rfl (by simp), Ext.refl _, rfl⟩),
      fs_val rfl rfl (fun x w hx hk => ⟨_, _, rfl, rfl, rfl, rfl, Ext.refl _, rfl⟩),
      fs_val rfl rfl (fun x w hx hk => ⟨_, _, rfl, rfl, rfl, rfl, Ext.refl _, rfl⟩),
      fs_val rfl rfl (fun x w hx hk => ⟨_, _, rfl, rfl, rfl, run_loadAll rfl rfl T.agg23 ((M.ext ((Ext.drew _).trans hx)).row (i := 1) rfl) rfl, Ext.refl _, rfl⟩),
      fs_val rfl rfl (fun x w hx hk => ⟨_, _, rfl, rfl, rfl, rfl, Ext.refl _, rfl⟩),
      fs_ext rfl rfl (fun x w hx hk => ⟨_, _, rfl, rfl, rfl, run_call rfl rfl T.fn13, need_x m h1 _⟩),
      fs_val rfl rfl (fun x w hx hk => ⟨_, _, rfl, rfl, rfl, run_loadAll rfl rfl T.agg23 ((M.ext ((Ext.drew _).trans hx)).row (i := 3) rfl) rfl, Ext.refl _, rfl⟩),
      fs_val rfl rfl (fun x w hx hk => ⟨_, _, rfl, rfl, rfl, rfl, Ext.refl _, rfl⟩),
      fs_ext rfl rfl (fun x w hx hk => ⟨_, _, rfl, rfl, rfl, run_call rfl rfl T.fn13, need_x m h _⟩),
      fs_val rfl rfl (fun x w hx hk => ⟨_, _, rfl, rfl, rfl, tst rfl (by simp), Ext.refl _, rfl⟩),
      fs_val rfl rfl (fun x w hx hk => ⟨_, _, rfl, rfl, rfl, rfl, Ext.refl _, rfl⟩),
      fs_val rfl rfl (fun x w hx hk => ⟨_, _, rfl, rfl, rfl, rfl, Ext.refl _, rfl⟩),
      fs_val rfl rfl (fun x w hx hk => ⟨_, _, rfl, rfl, rfl, run_loadAll rfl rfl T.agg23 ((M.ext ((Ext.drew _).trans hx)).row (i := 1) rfl) rfl, Ext.refl _, rfl⟩),
      fs_ext rfl rfl (fun x w hx hk => ⟨_, _, rfl, rfl, rfl, run_call rfl rfl T.fn14, lean_x h1 _⟩),
      fs_val rfl rfl (fun x w hx hk => ⟨_, _, rfl, rfl, rfl, run_loadAll rfl rfl T.agg23 ((M.ext ((Ext.drew _).trans hx)).row (i := 3) rfl) rfl, Ext.refl _, rfl⟩),
      fs_ext rfl rfl (fun x w hx hk => ⟨_, _, rfl, rfl, rfl, run_call rfl rfl T.fn14, lean_x h _⟩),
      fs_val rfl rfl (fun x w hx hk => ⟨_, _, rfl, rfl, rfl, tst rfl (by simp), Ext.refl _, rfl⟩),
      fs_val rfl rfl (fun x w hx hk => ⟨_, _, rfl, rfl, rfl, rfl, Ext.refl _, rfl⟩),
      fs_val rfl rfl (fun x w hx hk => ⟨_, _, rfl, rfl, rfl, rfl, Ext.refl _, rfl⟩),
      fs_val rfl rfl (fun x w hx hk => ⟨_, _, rfl, rfl, rfl, rfl, Ext.refl _, rfl⟩),
      fs_val rfl rfl (fun x w hx hk => ⟨_, _, rfl, rfl, rfl, tst rfl (rfl), Ext.refl _, rfl⟩),
      fs_val rfl rfl (fun x w hx hk => ⟨_, _, rfl, rfl, rfl, rfl, Ext.refl _, rfl⟩),
      fs_no rfl rfl (fun x => ⟨rfl, rfl⟩),
      fs_no rfl rfl (fun x => ⟨rfl, rfl⟩),
      fs_no rfl rfl (fun x => ⟨rfl, rfl⟩),
      fs_no rfl rfl (fun x => ⟨rfl, rfl⟩),
      fs_no rfl rfl (fun x => ⟨rfl, rfl⟩),
      fs_val rfl rfl (fun x w hx hk => ⟨_, _, rfl, rfl, rfl, rfl, Ext.refl _, rfl⟩),
      fs_val rfl rfl (fun x w hx hk => ⟨_, _, rfl, rfl, rfl, rfl, Ext.refl _, rfl⟩),
      fs_val rfl rfl (fun x w hx hk => ⟨_, _, rfl, rfl, rfl, rfl, Ext.refl _, rfl⟩),
      fs_ext rfl rfl (fun x w hx hk => ⟨_, _, rfl, rfl, rfl, run_call rfl rfl T.fn10, works_x _⟩),
      fs_val rfl rfl (fun x w hx hk => ⟨_, _, rfl, rfl, rfl, rfl, Ext.refl _, rfl⟩),
      fs_val rfl rfl (fun x w hx hk => ⟨_, _, rfl, rfl, rfl, rfl, Ext.refl _, rfl⟩), trivial⟩ ?_)
  intro x a2 w2 hx hk E2; have M2 := M.ext hx; clear hx hk E M; have E := E2; have M := M2; clear E2 M2; refine then_normal ?_
  refine wp_ret ?_
  refine ret1 E rfl rfl ?_
  exact ⟨_, rfl, M.below, rfl⟩
theorem more_ok {s l b : Int} (h : GOK s l b) (hs : s < 32) : GOK (s + 1) l b := by
  obtain ⟨⟨s0, s1, l0, l1, b0, b1⟩, hh⟩ := h
  refine ⟨⟨by omega, by omega, l0, l1, b0, b1⟩, ?_⟩
  have ⟨e0, e1⟩ := lean_bd l0 l1
  have : (s + 1 - needZ l b - 14) * (leanZ l + 1) = (s - needZ l b - 14) * (leanZ l + 1) + (leanZ l + 1) := by
    rw [show s + 1 - needZ l b - 14 = (s - needZ l b - 14) + 1 by omega, Int.add_mul, Int.one_mul]
  omega
theorem less_ok {s l b : Int} (h : GOK s l b) (hb : 1 < b) : GOK s l (b - 1) := by
  obtain ⟨⟨s0, s1, l0, l1, b0, b1⟩, hh⟩ := h
  refine ⟨⟨s0, s1, l0, l1, by omega, by omega⟩, ?_⟩
  have ⟨e0, e1⟩ := lean_bd l0 l1
  have hn : needZ l (b - 1) ≤ needZ l b := by
    unfold needZ
    rcases slots_cases l0 l1 with h | h | h | h | h | h | h | h | h | h | h | h | h | h | h | h | h | h | h | h | h | h | h | h | h | h | h | h | h | h | h | h | h <;> subst h <;> omega
  have hm : (s - needZ l b - 14) * (leanZ l + 1) ≤ (s - needZ l (b - 1) - 14) * (leanZ l + 1) := Int.mul_le_mul_of_nonneg_right (by omega) (by omega)
  omega
theorem pl_pos {s l p q : Int} (h : Pl s l p q) (s1 : s ≤ 32) (l0 : 32 ≤ l) (l1 : l ≤ 64) : 0 ≤ p * l := (pl_bd h.1 (by have := h.2.1; omega) l0 l1).1
theorem all (s l b p q m : Int) (w : World) : ExtCall Try.prog 3 #[.agg #[.int .i64 s, .int .i64 l, .int .i64 b], .agg #[.int .i64 p, .int .i64 q], .int .i64 m] w (.exact (.bool true)) := by
  by_cases h : GOK s l b
  · have h' := h
    obtain ⟨⟨s0, s1, l0, l1, b0, b1⟩, _⟩ := h'
    have sl := sl_bd s0 s1 l0 l1
    by_cases hb : b = 1
    · by_cases hs : s = 32
      · exact most1 s l b p q m w h s0 s1 b0 b1 l0 l1 hb hs (fun c => by have := c.1.2.1; omega)
      · by_cases hp : Pl s l p q
        · exact there1 s l b p q m w h s0 s1 b0 b1 l0 l1 hb (by omega) (more_ok h (by omega)) sl hp ⟨hp.1, by have := hp.2.1; omega, hp.2.2.1, hp.2.2.2⟩ (pl_pos hp s1 l0 l1)
        · exact there01 s l b p q m w h s0 s1 b0 b1 l0 l1 hb (by omega) (more_ok h (by omega)) sl hp
    · by_cases hs : s = 32
      · exact most s l b p q m w h s0 s1 b0 b1 l0 l1 (by omega) (less_ok h (by omega)) hs (fun c => by have := c.1.2.1; omega)
      · by_cases hp : Pl s l p q
        · exact there s l b p q m w h s0 s1 b0 b1 l0 l1 (by omega) (less_ok h (by omega)) (by omega) (more_ok h (by omega)) sl hp ⟨hp.1, by have := hp.2.1; omega, hp.2.2.1, hp.2.2.2⟩ (pl_pos hp s1 l0 l1)
        · exact there0 s l b p q m w h s0 s1 b0 b1 l0 l1 (by omega) (less_ok h (by omega)) (by omega) (more_ok h (by omega)) sl hp
  · exact no s l b p q m w h
theorem _root_.Go.Proofs.Ytallgbdcolfleaa.GeoLaws.GeoGrows_walk (s l b p q m : Int) (w : World) (_ : (Lit.int .i64 s).wf = true) (_ : (Lit.int .i64 l).wf = true) (_ : (Lit.int .i64 b).wf = true) (_ : (Lit.int .i64 p).wf = true) (_ : (Lit.int .i64 q).wf = true) (_ : (Lit.int .i64 m).wf = true) :
    Calls Try.prog 3 #[.agg #[.int .i64 s, .int .i64 l, .int .i64 b], .agg #[.int .i64 p, .int .i64 q], .int .i64 m] w fun e w' => e = .returned (.bool true) ∧ Below w.heap.size w w' :=
  (all s l b p q m w).mono fun _ _ ⟨_, he, hb, hv⟩ => ⟨by rw [he]; cases hv; rfl, hb⟩
end Grows
end Go.Proofs.Ytallgbdcolfleaa.GeoLaws
