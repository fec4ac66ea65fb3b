/- The law GeoLean: its walk. -/
import Derived.Test.YtallgbdcolfleaaRTypes
import Derived.Test.YtallgbdcolfleaaGeoPlainGeoLean
import Derived.Test.YtallgbdcolfleaaRCode
namespace Go.Proofs.Ytallgbdcolfleaa.GeoLaws
open Go.RowKit Go.Rill Go.Proofs.YtallgbdcolfleaaW.PrintWords Go.Proofs.YtallgbdcolfleaaW.PrintMore Go.Proofs.Ytallgbdcolfleaa.PGeoLean Go.Proofs.Ytallgbdcolfleaa.GeoPlainGeoLean
set_option linter.unusedVariables false
namespace Leans
theorem check_x (s l b : Int) (w : World) : ExtCall Try.prog 9 #[.agg #[.int .i64 s, .int .i64 l, .int .i64 b]] w (.exact (.int .i64 (if GOK s l b then 0 else 15))) := ExtCall.of (geo_Check.calls 4 s l b _ w (check_eq 0 s l b))
theorem check_ok {s l b : Int} (h : GOK s l b) (w : World) : ExtCall Try.prog 9 #[.agg #[.int .i64 s, .int .i64 l, .int .i64 b]] w (.exact (.int .i64 0)) := by have := check_x s l b w; rwa [if_pos h] at this
theorem check_no {s l b : Int} (h : ¬ GOK s l b) (w : World) : ExtCall Try.prog 9 #[.agg #[.int .i64 s, .int .i64 l, .int .i64 b]] w (.exact (.int .i64 15)) := by have := check_x s l b w; rwa [if_neg h] at this
theorem works_x (w : World) : ExtCall Try.prog 10 #[] w (.exact (.bool true)) := ExtCall.of (rilllaw10_works.calls 4 _ w (works_eq 0))
theorem lean_x {s l b : Int} (h : GOK s l b) (w : World) : ExtCall Try.prog 14 #[.agg #[.int .i64 s, .int .i64 l, .int .i64 b]] w (.exact (.int .i64 (leanZ l))) := by have := ExtCall.of (geo_Lean.calls 4 s l b _ w (leans_eq 0 s l b)); rwa [if_pos h] at this
theorem reserve_x {s l b m : Int} (h : GOK s l b) (m0 : 0 ≤ m) (m1 : m ≤ 64) (w : World) : ExtCall Try.prog 17 #[.agg #[.int .i64 s, .int .i64 l, .int .i64 b], .int .i64 m] w (.exact (.int .i64 (needZ l m + 8))) := by
  have := ExtCall.of (geo_Reserve.calls 4 s l b m _ w (reserve_eq 0 s l b m))
  have e : mn (mx m 0) 64 = m := by unfold mn mx; omega
  rwa [if_pos h, e] at this
theorem pick_x (x n : Int) (hn : 1 ≤ n) (h1 : n ≤ 9223372036854775807) : ∃ r, (∀ w, ExtCall Try.prog 16 #[.int .i64 x, .int .i64 n] w (.exact (.int .i64 r))) ∧ 0 ≤ r ∧ r < n := by
  have key : ∃ r, rillkit_Pick.f x n = some r ∧ 0 ≤ r ∧ r < n := by
    unfold rillkit_Pick.f
    rw [if_neg (by omega), if_neg (by omega)]
    have h2 := Int.tmod_lt_of_pos x (show 0 < n by omega)
    have h3 : -n < Int.tmod x n := by
      have := Int.tmod_lt_of_pos (-x) (show 0 < n by omega)
      rw [Int.neg_tmod] at this; omega
    split
    · rw [wrap_id (by omega) (by omega)]; exact ⟨_, rfl, by omega, by omega⟩
    · exact ⟨_, rfl, by omega, by omega⟩
  obtain ⟨r, h, r0, r1⟩ := key
  exact ⟨r, fun w => ExtCall.of ((rillkit_Pick.calls x n r w h).mono fun _ _ ⟨he, hd⟩ => ⟨he, hd.below⟩), r0, r1⟩
/-- What is known of the slice: each of its places. -/
def Cells (a : Option Addr) (n : Nat) (zs : List Int) (w : World) : Prop := ∀ i, i < n → ∃ g off, a = some ⟨g, off, none⟩ ∧ w.cell? ⟨g, off + i, none⟩ = some (.int .i64 (zs.getD i 0))
theorem Cells.held {a : Option Addr} {n : Nat} {zs : List Int} {w w' : World} (h : Cells a n zs w) (H : Held [] w w') : Cells a n zs w' := by
  intro i hi
  obtain ⟨g, off, e, hc⟩ := h i hi
  have hb := World.block_lt_of_cell? w _ hc
  exact ⟨g, off, e, (World.cell?_of_block (w := w) (H.block g hb (fun _ h => by cases h))).trans hc⟩

theorem need_le {l m b : Int} (l0 : 32 ≤ l) (l1 : l ≤ 64) (m0 : 0 ≤ m) (m1 : m ≤ b) (b1 : b ≤ 64) : needZ l m ≤ needZ l b := by
  unfold needZ
  rcases slots_cases l0 l1 with h | h | h | h | h | h | h | h | h | h | h | h | h | h | h | h | h | h | h | h | h | h | h | h | h | h | h | h | h | h | h | h | h <;> subst h <;> omega
theorem kk_lt {s l b kk : Int} {r : Int} (h : GOK s l b) (k1 : kk < r + 14) (nb : r ≤ needZ l b) : kk < s := by
  obtain ⟨⟨s0, s1, l0, l1, b0, b1⟩, hh⟩ := h
  obtain ⟨e0, e1⟩ := lean_bd l0 l1
  by_cases c : s - needZ l b - 14 ≤ 0
  · have := Int.mul_le_mul_of_nonneg_right c (show 0 ≤ leanZ l + 1 by omega)
    rw [Int.zero_mul] at this
    omega
  · omega
theorem key {s l b kk : Int} {r : Int} (h : GOK s l b) (k1 : kk < r + 14) (nb : r ≤ needZ l b) : b + 9 < (s - kk) * (leanZ l + 1) := by
  obtain ⟨⟨s0, s1, l0, l1, b0, b1⟩, hh⟩ := h
  obtain ⟨e0, e1⟩ := lean_bd l0 l1
  have := Int.mul_le_mul_of_nonneg_right (show s - needZ l b - 14 ≤ s - kk by omega) (show 0 ≤ leanZ l + 1 by omega)
  omega

set_option maxRecDepth 100000 in
theorem no (s l b m k : Int) (a : Option Addr) (n c : Nat) (zs : List Int) (w0 : World) (hz : Cells a n zs w0) (h : ¬ GOK s l b) : ExtCall Try.prog 5 #[.agg #[.int .i64 s, .int .i64 l, .int .i64 b], .int .i64 m, .int .i64 k, .slice a n c] w0 (.exact (.bool true)) := by
  refine enter (n := 82) Try.func5 rfl rfl rfl ?_
  intro fr E
  have M : Mem w0 0 [] (Cells a n zs) w0 := Mem.start (fun _ h => hz.held h)
  refine code_region ?_
  refine snew (ob := .cells #[_, _, _] 23) (fun g => .pointer (some ⟨g, 0, none⟩)) E M rfl rfl rfl rfl rfl (run_boxN (cs := #[_, _, _]) rfl rfl) ?_; clear E M; intro g0 fr w M E
  refine sv (v := .bool _) E rfl rfl rfl rfl rfl (rfl) ?_; clear E; intro fr E
  refine seq_nil' ?_
  refine wp_seq ?_
  refine code_region ?_
  refine sv (v := .agg #[_, _, _]) E rfl rfl rfl rfl rfl (run_loadAll rfl rfl T.agg23 (M.row (i := 0) rfl) rfl) ?_; clear E; intro fr E
  refine sextv E M rfl rfl rfl rfl rfl (run_call rfl rfl T.fn9) (check_no h _) ?_; clear E M; intro fr w M E
  refine sv (v := .bool _) E rfl rfl rfl rfl rfl (rfl) ?_; clear E; intro fr E
  refine sv (v := .bool _) E rfl rfl rfl rfl rfl (rfl) ?_; clear E; intro fr E
  refine sno E rfl rfl rfl rfl ?_; clear E; intro fr E
  refine sno E rfl rfl rfl rfl ?_; clear E; intro fr E
  refine sno E rfl rfl rfl rfl ?_; clear E; intro fr E
  refine sv (v := .bool _) E rfl rfl rfl rfl rfl (rfl) ?_; clear E; intro fr E
  refine seq_nil' ?_
  refine cond_true E rfl (rfl) ?_
  refine code_region ?_
  refine sextv E M rfl rfl rfl rfl rfl (run_call rfl rfl T.fn10) (works_x _) ?_; clear E M; intro fr w M E
  refine sv (v := .bool _) E rfl rfl rfl rfl rfl (rfl) ?_; clear E; intro fr E
  refine seq_nil' ?_
  refine wp_ret ?_
  refine then_ret ?_
  refine ret1 E rfl rfl ?_
  exact ⟨_, rfl, M.below, rfl⟩
set_option maxRecDepth 100000 in
theorem long (s l b m k : Int) (a : Option Addr) (n c : Nat) (zs : List Int) (w0 : World) (hz : Cells a n zs w0) (h : GOK s l b) (hn : 1000 < n) : ExtCall Try.prog 5 #[.agg #[.int .i64 s, .int .i64 l, .int .i64 b], .int .i64 m, .int .i64 k, .slice a n c] w0 (.exact (.bool true)) := by
  refine enter (n := 82) Try.func5 rfl rfl rfl ?_
  intro fr E
  have M : Mem w0 0 [] (Cells a n zs) w0 := Mem.start (fun _ h => hz.held h)
  refine code_region ?_
  refine snew (ob := .cells #[_, _, _] 23) (fun g => .pointer (some ⟨g, 0, none⟩)) E M rfl rfl rfl rfl rfl (run_boxN (cs := #[_, _, _]) rfl rfl) ?_; clear E M; intro g0 fr w M E
  refine sv (v := .bool _) E rfl rfl rfl rfl rfl (rfl) ?_; clear E; intro fr E
  refine seq_nil' ?_
  refine wp_seq ?_
  refine code_region ?_
  refine sv (v := .agg #[_, _, _]) E rfl rfl rfl rfl rfl (run_loadAll rfl rfl T.agg23 (M.row (i := 0) rfl) rfl) ?_; clear E; intro fr E
  refine sextv E M rfl rfl rfl rfl rfl (run_call rfl rfl T.fn9) (check_ok h _) ?_; clear E M; intro fr w M E
  refine sv (v := .bool false) E rfl rfl rfl rfl rfl (tst rfl (rfl)) ?_; clear E; intro fr E
  refine sv (v := .bool _) E rfl rfl rfl rfl rfl (rfl) ?_; clear E; intro fr E
  refine sv (v := .slice _ _ _) E rfl rfl rfl rfl rfl (rfl) ?_; clear E; intro fr E
  refine sv (v := .int .i64 _) E rfl rfl rfl rfl rfl (run_len rfl rfl rfl rfl T.slice35) ?_; clear E; intro fr E
  refine sv (v := .bool true) E rfl rfl rfl rfl rfl (tst rfl (by simp; omega)) ?_; clear E; intro fr E
  refine sv (v := .bool _) E rfl rfl rfl rfl rfl (rfl) ?_; clear E; intro fr E
  refine seq_nil' ?_
  refine cond_true E rfl (rfl) ?_
  refine code_region ?_
  refine sextv E M rfl rfl rfl rfl rfl (run_call rfl rfl T.fn10) (works_x _) ?_; clear E M; intro fr w M E
  refine sv (v := .bool _) E rfl rfl rfl rfl rfl (rfl) ?_; clear E; intro fr E
  refine seq_nil' ?_
  refine wp_ret ?_
  refine then_ret ?_
  refine ret1 E rfl rfl ?_
  exact ⟨_, rfl, M.below, rfl⟩
set_option maxRecDepth 100000 in
theorem loop (s l b m k : Int) (a : Option Addr) (n c : Nat) (zs : List Int) (w0 : World) (hz : Cells a n zs w0) (h : GOK s l b) (hn : ¬ 1000 < n) : ExtCall Try.prog 5 #[.agg #[.int .i64 s, .int .i64 l, .int .i64 b], .int .i64 m, .int .i64 k, .slice a n c] w0 (.exact (.bool true)) := by
  refine enter (n := 82) Try.func5 rfl rfl rfl ?_
  intro fr E
  have M : Mem w0 0 [] (Cells a n zs) w0 := Mem.start (fun _ h => hz.held h)
  have h' := h
  obtain ⟨⟨s0, s1, l0, l1, b0, b1⟩, hh⟩ := h'
  obtain ⟨e0, e1⟩ := lean_bd l0 l1
  obtain ⟨mm, hm1, m0, m1⟩ := pick_x m (b + 1) (by omega) (by omega)
  obtain ⟨n0, n1⟩ := need_bd l0 l1 (m := mm) m0 (by omega)
  obtain ⟨kk, hk1, k0, k1⟩ := pick_x k (needZ l mm + 14) (by omega) (by omega)
  have nb := need_le (m := mm) (b := b) l0 l1 m0 (by omega) (by omega)
  have hks : kk < s := kk_lt h k1 nb
  have hkey : b + 9 < (s - kk) * (leanZ l + 1) := key h k1 nb
  refine code_region ?_
  refine snew (ob := .cells #[_, _, _] 23) (fun g => .pointer (some ⟨g, 0, none⟩)) E M rfl rfl rfl rfl rfl (run_boxN (cs := #[_, _, _]) rfl rfl) ?_; clear E M; intro g0 fr w M E
  refine sv (v := .bool _) E rfl rfl rfl rfl rfl (rfl) ?_; clear E; intro fr E
  refine seq_nil' ?_
  refine wp_seq ?_
  refine code_region ?_
  refine sv (v := .agg #[_, _, _]) E rfl rfl rfl rfl rfl (run_loadAll rfl rfl T.agg23 (M.row (i := 0) rfl) rfl) ?_; clear E; intro fr E
  refine sextv E M rfl rfl rfl rfl rfl (run_call rfl rfl T.fn9) (check_ok h _) ?_; clear E M; intro fr w M E
  refine sv (v := .bool false) E rfl rfl rfl rfl rfl (tst rfl (rfl)) ?_; clear E; intro fr E
  refine sv (v := .bool _) E rfl rfl rfl rfl rfl (rfl) ?_; clear E; intro fr E
  refine sv (v := .slice _ _ _) E rfl rfl rfl rfl rfl (rfl) ?_; clear E; intro fr E
  refine sv (v := .int .i64 _) E rfl rfl rfl rfl rfl (run_len rfl rfl rfl rfl T.slice35) ?_; clear E; intro fr E
  refine sv (v := .bool false) E rfl rfl rfl rfl rfl (tst rfl (by simp; omega)) ?_; clear E; intro fr E
  refine sv (v := .bool _) E rfl rfl rfl rfl rfl (rfl) ?_; clear E; intro fr E
  refine seq_nil' ?_
  refine cond_false E rfl (rfl) ?_
  refine wp_skip ?_
  refine then_normal ?_
  refine code_region ?_
  refine sv (v := .int .i64 _) E rfl rfl rfl rfl rfl (rfl) ?_; clear E; intro fr E
  refine sv (v := .pointer (some ⟨_, 2, none⟩)) E rfl rfl rfl rfl rfl (run_fieldAddr rfl rfl T.fld23_2) ?_; clear E; intro fr E
  refine sv (v := .int .i64 _) E rfl rfl rfl rfl rfl (run_loadB rfl rfl T.one3 (M.row (i := 0) rfl) rfl) ?_; clear E; intro fr E
  refine sv (v := .int _ (b + 1)) E rfl rfl rfl rfl rfl (num rfl (i64_id (by omega) (by omega))) ?_; clear E; intro fr E
  refine sextv E M rfl rfl rfl rfl rfl (run_call rfl rfl T.fn16) (hm1 _) ?_; clear E M; intro fr w M E
  refine sv (v := .int .i64 _) E rfl rfl rfl rfl rfl (rfl) ?_; clear E; intro fr E
  refine seq_nil' ?_
  refine code_region ?_
  refine sv (v := .int .i64 _) E rfl rfl rfl rfl rfl (rfl) ?_; clear E; intro fr E
  refine sv (v := .agg #[_, _, _]) E rfl rfl rfl rfl rfl (run_loadAll rfl rfl T.agg23 (M.row (i := 0) rfl) rfl) ?_; clear E; intro fr E
  refine sv (v := .int .i64 _) E rfl rfl rfl rfl rfl (rfl) ?_; clear E; intro fr E
  refine sextv E M rfl rfl rfl rfl rfl (run_call rfl rfl T.fn17) (reserve_x h m0 (by omega) _) ?_; clear E M; intro fr w M E
  refine sv (v := .int _ (needZ l mm + 14)) E rfl rfl rfl rfl rfl (num rfl ((i64_id (by omega) (by omega)).trans (by omega))) ?_; clear E; intro fr E
  refine sextv E M rfl rfl rfl rfl rfl (run_call rfl rfl T.fn16) (hk1 _) ?_; clear E M; intro fr w M E
  refine sv (v := .int .i64 _) E rfl rfl rfl rfl rfl (rfl) ?_; clear E; intro fr E
  refine seq_nil' ?_
  refine code_region ?_
  refine sv (v := .pointer (some ⟨_, 2, none⟩)) E rfl rfl rfl rfl rfl (run_fieldAddr rfl rfl T.fld23_2) ?_; clear E; intro fr E
  refine sv (v := .int .i64 _) E rfl rfl rfl rfl rfl (run_loadB rfl rfl T.one3 (M.row (i := 0) rfl) rfl) ?_; clear E; intro fr E
  refine sv (v := .int _ (b + 9)) E rfl rfl rfl rfl rfl (num rfl (i64_id (by omega) (by omega))) ?_; clear E; intro fr E
  refine sv (v := .int .i64 _) E rfl rfl rfl rfl rfl (rfl) ?_; clear E; intro fr E
  refine seq_nil' ?_
  refine code_region ?_
  refine sv (v := .bool _) E rfl rfl rfl rfl rfl (rfl) ?_; clear E; intro fr E
  refine seq_nil' ?_
  refine wp_seq ?_
  refine code_region ?_
  refine sv (v := .int .i64 _) E rfl rfl rfl rfl rfl (rfl) ?_; clear E; intro fr E
  refine sv (v := .int .i64 _) E rfl rfl rfl rfl rfl (rfl) ?_; clear E; intro fr E
  refine seq_nil' ?_
  refine wp_block ?_
  refine loop_dec (fun d fr w => ∃ (i left : Int) (fl : Bool), d = (s - i).toNat ∧ (kk ≤ i ∧ i ≤ s ∧ 0 ≤ left ∧ left ≤ b + 9 ∧ (fl = false → left ≤ b + 9 - (i - kk) * (leanZ l + 1)) ∧ (i = s → fl = true)) ∧ Env [(11, .int .i64 i), (10, .bool fl), (9, .int .i64 left), (4, .pointer (some ⟨g0, 0, none⟩)), (3, .slice a n c), (2, .int .i64 kk)] 82 fr ∧ Mem w0 0 [(g0, .cells #[.int .i64 s, .int .i64 l, .int .i64 b] 23)] (Cells a n zs) w) ((s - kk).toNat) ?_ ?_
  · refine ⟨kk, b + 9, false, rfl, ⟨by omega, by omega, by omega, by omega, by intro; rw [Int.sub_self, Int.zero_mul]; omega, by intro; omega⟩, ((((((Env.nil E).add E (t := 2) rfl).add E (t := 3) rfl).add E (t := 4) rfl).add E (t := 9) rfl).add E (t := 10) rfl).add E (t := 11) rfl, M⟩
  · clear E M
    rintro d fr w ⟨i, left, fl, rfl, ⟨i0, i1, q0, q1, q2, q3⟩, E, M⟩
    by_cases hs : i = s
    · obtain rfl : fl = true := q3 hs
      refine wp_seq ?_
      refine code_region ?_
      refine sv (v := .int .i64 _) E rfl rfl rfl rfl rfl (rfl) ?_; clear E; intro fr E
      refine sv (v := .pointer (some ⟨_, 0, none⟩)) E rfl rfl rfl rfl rfl (run_fieldAddr rfl rfl T.fld23_0) ?_; clear E; intro fr E
      refine sv (v := .int .i64 _) E rfl rfl rfl rfl rfl (run_loadB rfl rfl T.one3 (M.row (i := 0) rfl) rfl) ?_; clear E; intro fr E
      refine sv (v := .bool _) E rfl rfl rfl rfl rfl (rfl) ?_; clear E; intro fr E
      refine seq_nil' ?_
      refine cond_false E rfl (by simp; omega) ?_
      refine wp_exit ?_
      refine then_exit ?_
      refine then_exit ?_
      refine block_exit ?_
      refine then_normal ?_
      refine code_region ?_
      refine sv (v := .bool _) E rfl rfl rfl rfl rfl (rfl) ?_; clear E; intro fr E
      refine sv (v := .bool _) E rfl rfl rfl rfl rfl (rfl) ?_; clear E; intro fr E
      refine sextv E M rfl rfl rfl rfl rfl (run_call rfl rfl T.fn10) (works_x _) ?_; clear E M; intro fr w M E
      refine sv (v := .bool _) E rfl rfl rfl rfl rfl (rfl) ?_; clear E; intro fr E
      refine sv (v := .bool _) E rfl rfl rfl rfl rfl (rfl) ?_; clear E; intro fr E
      refine seq_nil' ?_
      refine wp_ret ?_
      refine ret1 E rfl rfl ?_
      exact ⟨_, rfl, M.below, rfl⟩
    · by_cases hm : i - kk < n
      · by_cases hl : i = s - 1
        · cases fl with
          | true =>
            obtain ⟨j, hj⟩ : ∃ j : Nat, i - kk = j := ⟨(i - kk).toNat, by omega⟩
            obtain ⟨g, off, ha, hcell⟩ := M.fact j (by omega)
            subst ha
            clear hcell
            obtain ⟨x, hx, x0, x1⟩ := pick_x (zs.getD j 0) (left + 1) (by omega) (by omega)
            refine wp_seq ?_
            refine code_region ?_
            refine sv (v := .int .i64 _) E rfl rfl rfl rfl rfl (rfl) ?_; clear E; intro fr E
            refine sv (v := .pointer (some ⟨_, 0, none⟩)) E rfl rfl rfl rfl rfl (run_fieldAddr rfl rfl T.fld23_0) ?_; clear E; intro fr E
            refine sv (v := .int .i64 _) E rfl rfl rfl rfl rfl (run_loadB rfl rfl T.one3 (M.row (i := 0) rfl) rfl) ?_; clear E; intro fr E
            refine sv (v := .bool _) E rfl rfl rfl rfl rfl (rfl) ?_; clear E; intro fr E
            refine seq_nil' ?_
            refine cond_true E rfl (by simp; omega) ?_
            refine wp_skip ?_
            refine then_normal ?_
            refine wp_seq ?_
            refine wp_block ?_
            refine code_region ?_
            refine sv (v := .int .i64 _) E rfl rfl rfl rfl rfl (rfl) ?_; clear E; intro fr E
            refine seq_nil' ?_
            refine wp_seq ?_
            refine code_region ?_
            refine sv (v := .int .i64 _) E rfl rfl rfl rfl rfl (rfl) ?_; clear E; intro fr E
            refine sv (v := .int .i64 _) E rfl rfl rfl rfl rfl (rfl) ?_; clear E; intro fr E
            refine sv (v := .int _ (i - kk)) E rfl rfl rfl rfl rfl (num rfl (i64_id (by omega) (by omega))) ?_; clear E; intro fr E
            refine sv (v := .slice _ _ _) E rfl rfl rfl rfl rfl (rfl) ?_; clear E; intro fr E
            refine sv (v := .int .i64 _) E rfl rfl rfl rfl rfl (run_len rfl rfl rfl rfl T.slice35) ?_; clear E; intro fr E
            refine sv (v := .bool true) E rfl rfl rfl rfl rfl (tst rfl (by simp; omega)) ?_; clear E; intro fr E
            refine seq_nil' ?_
            refine cond_true E rfl (rfl) ?_
            obtain ⟨_, _, ha, hcell⟩ := M.fact j (by omega)
            cases ha
            refine code_last ?_
            refine sv (v := .slice _ _ _) E rfl rfl rfl rfl rfl (rfl) ?_; clear E; intro fr E
            refine sv (v := .int .i64 _) E rfl rfl rfl rfl rfl (rfl) ?_; clear E; intro fr E
            refine sv (v := .int .i64 _) E rfl rfl rfl rfl rfl (rfl) ?_; clear E; intro fr E
            refine sv (v := .int _ (i - kk)) E rfl rfl rfl rfl rfl (num rfl (i64_id (by omega) (by omega))) ?_; clear E; intro fr E
            refine sv (v := .pointer (some ⟨_, _, none⟩)) E rfl rfl rfl rfl rfl (run_index1 (i := j) rfl rfl rfl (by omega) (by omega) T.slice35 T.size3) ?_; clear E; intro fr E
            refine sv (v := .int .i64 _) E rfl rfl rfl rfl rfl (run_load1 rfl rfl T.one3 (hcell)) ?_; clear E; intro fr E
            refine sv (v := .int .i64 _) E rfl rfl rfl rfl rfl (rfl) ?_; clear E; intro fr E
            refine sv (v := .int _ (left + 1)) E rfl rfl rfl rfl rfl (num rfl (i64_id (by omega) (by omega))) ?_; clear E; intro fr E
            refine sextv E M rfl rfl rfl rfl rfl (run_call rfl rfl T.fn16) (hx _) ?_; clear E M; intro fr w M E
            refine sv (v := .int .i64 _) E rfl rfl rfl rfl rfl (rfl) ?_; clear E; intro fr E
            refine seq_nil ?_
            refine then_normal ?_
            refine wp_seq ?_
            refine code_region ?_
            refine sv (v := .int .i64 _) E rfl rfl rfl rfl rfl (rfl) ?_; clear E; intro fr E
            refine sv (v := .pointer (some ⟨_, 0, none⟩)) E rfl rfl rfl rfl rfl (run_fieldAddr rfl rfl T.fld23_0) ?_; clear E; intro fr E
            refine sv (v := .int .i64 _) E rfl rfl rfl rfl rfl (run_loadB rfl rfl T.one3 (M.row (i := 0) rfl) rfl) ?_; clear E; intro fr E
            refine sv (v := .int _ (s - 1)) E rfl rfl rfl rfl rfl (num rfl (i64_id (by omega) (by omega))) ?_; clear E; intro fr E
            refine sv (v := .bool true) E rfl rfl rfl rfl rfl (tst rfl (by simp; omega)) ?_; clear E; intro fr E
            refine sv (v := .bool _) E rfl rfl rfl rfl rfl (rfl) ?_; clear E; intro fr E
            refine sv (v := .bool _) E rfl rfl rfl rfl rfl (rfl) ?_; clear E; intro fr E
            refine sv (v := .bool _) E rfl rfl rfl rfl rfl (rfl) ?_; clear E; intro fr E
            refine sv (v := .bool _) E rfl rfl rfl rfl rfl (rfl) ?_; clear E; intro fr E
            refine seq_nil' ?_
            refine cond_false E rfl (rfl) ?_
            refine wp_skip ?_
            refine then_normal ?_
            refine code_region ?_
            refine sv (v := .int .i64 _) E rfl rfl rfl rfl rfl (rfl) ?_; clear E; intro fr E
            refine sv (v := .int .i64 _) E rfl rfl rfl rfl rfl (rfl) ?_; clear E; intro fr E
            refine sv (v := .int _ (left - x)) E rfl rfl rfl rfl rfl (num rfl (i64_id (by omega) (by omega))) ?_; clear E; intro fr E
            refine sv (v := .int .i64 _) E rfl rfl rfl rfl rfl (rfl) ?_; clear E; intro fr E
            refine seq_nil' ?_
            refine code_last ?_
            refine sv (v := .bool _) E rfl rfl rfl rfl rfl (rfl) ?_; clear E; intro fr E
            refine sv (v := .bool _) E rfl rfl rfl rfl rfl (rfl) ?_; clear E; intro fr E
            refine sno E rfl rfl rfl rfl ?_; clear E; intro fr E
            refine sno E rfl rfl rfl rfl ?_; clear E; intro fr E
            refine sno E rfl rfl rfl rfl ?_; clear E; intro fr E
            refine sno E rfl rfl rfl rfl ?_; clear E; intro fr E
            refine sv (v := .bool _) E rfl rfl rfl rfl rfl (rfl) ?_; clear E; intro fr E
            refine sv (v := .bool _) E rfl rfl rfl rfl rfl (rfl) ?_; clear E; intro fr E
            refine seq_nil ?_
            refine block_normal ?_
            refine then_normal ?_
            refine code_last ?_
            refine sv (v := .int .i64 _) E rfl rfl rfl rfl rfl (rfl) ?_; clear E; intro fr E
            refine sv (v := .int _ (i + 1)) E rfl rfl rfl rfl rfl (num rfl (i64_id (by omega) (by omega))) ?_; clear E; intro fr E
            refine sv (v := .int .i64 _) E rfl rfl rfl rfl rfl (rfl) ?_; clear E; intro fr E
            refine seq_nil ?_
            refine then_any ?_
            have e1 : (i + 1 - kk) * (leanZ l + 1) = (i - kk) * (leanZ l + 1) + (leanZ l + 1) := by rw [show i + 1 - kk = (i - kk) + 1 by omega, Int.add_mul, Int.one_mul]
            refine ⟨(s - (i + 1)).toNat, by omega, i + 1, left - x, _, rfl, ⟨by omega, by omega, by omega, by omega, ?_, ?_⟩, ((((((Env.nil E).add E (t := 2) rfl).add E (t := 3) rfl).add E (t := 4) rfl).add E (t := 9) rfl).add E (t := 10) rfl).add E (t := 11) rfl, M⟩
            · intro hf; cases hf
            · intro _; rfl
          | false =>
            obtain ⟨j, hj⟩ : ∃ j : Nat, i - kk = j := ⟨(i - kk).toNat, by omega⟩
            obtain ⟨g, off, ha, hcell⟩ := M.fact j (by omega)
            subst ha
            clear hcell
            obtain ⟨x, hx, x0, x1⟩ := pick_x (zs.getD j 0) (left + 1) (by omega) (by omega)
            refine wp_seq ?_
            refine code_region ?_
            refine sv (v := .int .i64 _) E rfl rfl rfl rfl rfl (rfl) ?_; clear E; intro fr E
            refine sv (v := .pointer (some ⟨_, 0, none⟩)) E rfl rfl rfl rfl rfl (run_fieldAddr rfl rfl T.fld23_0) ?_; clear E; intro fr E
            refine sv (v := .int .i64 _) E rfl rfl rfl rfl rfl (run_loadB rfl rfl T.one3 (M.row (i := 0) rfl) rfl) ?_; clear E; intro fr E
            refine sv (v := .bool _) E rfl rfl rfl rfl rfl (rfl) ?_; clear E; intro fr E
            refine seq_nil' ?_
            refine cond_true E rfl (by simp; omega) ?_
            refine wp_skip ?_
            refine then_normal ?_
            refine wp_seq ?_
            refine wp_block ?_
            refine code_region ?_
            refine sv (v := .int .i64 _) E rfl rfl rfl rfl rfl (rfl) ?_; clear E; intro fr E
            refine seq_nil' ?_
            refine wp_seq ?_
            refine code_region ?_
            refine sv (v := .int .i64 _) E rfl rfl rfl rfl rfl (rfl) ?_; clear E; intro fr E
            refine sv (v := .int .i64 _) E rfl rfl rfl rfl rfl (rfl) ?_; clear E; intro fr E
            refine sv (v := .int _ (i - kk)) E rfl rfl rfl rfl rfl (num rfl (i64_id (by omega) (by omega))) ?_; clear E; intro fr E
            refine sv (v := .slice _ _ _) E rfl rfl rfl rfl rfl (rfl) ?_; clear E; intro fr E
            refine sv (v := .int .i64 _) E rfl rfl rfl rfl rfl (run_len rfl rfl rfl rfl T.slice35) ?_; clear E; intro fr E
            refine sv (v := .bool true) E rfl rfl rfl rfl rfl (tst rfl (by simp; omega)) ?_; clear E; intro fr E
            refine seq_nil' ?_
            refine cond_true E rfl (rfl) ?_
            obtain ⟨_, _, ha, hcell⟩ := M.fact j (by omega)
            cases ha
            refine code_last ?_
            refine sv (v := .slice _ _ _) E rfl rfl rfl rfl rfl (rfl) ?_; clear E; intro fr E
            refine sv (v := .int .i64 _) E rfl rfl rfl rfl rfl (rfl) ?_; clear E; intro fr E
            refine sv (v := .int .i64 _) E rfl rfl rfl rfl rfl (rfl) ?_; clear E; intro fr E
            refine sv (v := .int _ (i - kk)) E rfl rfl rfl rfl rfl (num rfl (i64_id (by omega) (by omega))) ?_; clear E; intro fr E
            refine sv (v := .pointer (some ⟨_, _, none⟩)) E rfl rfl rfl rfl rfl (run_index1 (i := j) rfl rfl rfl (by omega) (by omega) T.slice35 T.size3) ?_; clear E; intro fr E
            refine sv (v := .int .i64 _) E rfl rfl rfl rfl rfl (run_load1 rfl rfl T.one3 (hcell)) ?_; clear E; intro fr E
            refine sv (v := .int .i64 _) E rfl rfl rfl rfl rfl (rfl) ?_; clear E; intro fr E
            refine sv (v := .int _ (left + 1)) E rfl rfl rfl rfl rfl (num rfl (i64_id (by omega) (by omega))) ?_; clear E; intro fr E
            refine sextv E M rfl rfl rfl rfl rfl (run_call rfl rfl T.fn16) (hx _) ?_; clear E M; intro fr w M E
            refine sv (v := .int .i64 _) E rfl rfl rfl rfl rfl (rfl) ?_; clear E; intro fr E
            refine seq_nil ?_
            refine then_normal ?_
            refine wp_seq ?_
            refine code_region ?_
            refine sv (v := .int .i64 _) E rfl rfl rfl rfl rfl (rfl) ?_; clear E; intro fr E
            refine sv (v := .pointer (some ⟨_, 0, none⟩)) E rfl rfl rfl rfl rfl (run_fieldAddr rfl rfl T.fld23_0) ?_; clear E; intro fr E
            refine sv (v := .int .i64 _) E rfl rfl rfl rfl rfl (run_loadB rfl rfl T.one3 (M.row (i := 0) rfl) rfl) ?_; clear E; intro fr E
            refine sv (v := .int _ (s - 1)) E rfl rfl rfl rfl rfl (num rfl (i64_id (by omega) (by omega))) ?_; clear E; intro fr E
            refine sv (v := .bool true) E rfl rfl rfl rfl rfl (tst rfl (by simp; omega)) ?_; clear E; intro fr E
            refine sv (v := .bool _) E rfl rfl rfl rfl rfl (rfl) ?_; clear E; intro fr E
            refine sv (v := .bool _) E rfl rfl rfl rfl rfl (rfl) ?_; clear E; intro fr E
            refine sv (v := .bool _) E rfl rfl rfl rfl rfl (rfl) ?_; clear E; intro fr E
            refine sv (v := .bool _) E rfl rfl rfl rfl rfl (rfl) ?_; clear E; intro fr E
            refine seq_nil' ?_
            refine cond_true E rfl (rfl) ?_
            refine code_last ?_
            refine sv (v := .int .i64 _) E rfl rfl rfl rfl rfl (rfl) ?_; clear E; intro fr E
            refine sv (v := .int .i64 _) E rfl rfl rfl rfl rfl (rfl) ?_; clear E; intro fr E
            refine seq_nil ?_
            refine then_normal ?_
            refine code_region ?_
            refine sv (v := .int .i64 _) E rfl rfl rfl rfl rfl (rfl) ?_; clear E; intro fr E
            refine sv (v := .int .i64 _) E rfl rfl rfl rfl rfl (rfl) ?_; clear E; intro fr E
            refine sv (v := .int _ (left - left)) E rfl rfl rfl rfl rfl (num rfl (i64_id (by omega) (by omega))) ?_; clear E; intro fr E
            refine sv (v := .int .i64 _) E rfl rfl rfl rfl rfl (rfl) ?_; clear E; intro fr E
            refine seq_nil' ?_
            refine code_last ?_
            refine sv (v := .bool _) E rfl rfl rfl rfl rfl (rfl) ?_; clear E; intro fr E
            refine sv (v := .bool _) E rfl rfl rfl rfl rfl (rfl) ?_; clear E; intro fr E
            refine sv (v := .int .i64 _) E rfl rfl rfl rfl rfl (rfl) ?_; clear E; intro fr E
            refine sv (v := .agg #[_, _, _]) E rfl rfl rfl rfl rfl (run_loadAll rfl rfl T.agg23 (M.row (i := 0) rfl) rfl) ?_; clear E; intro fr E
            refine sextv E M rfl rfl rfl rfl rfl (run_call rfl rfl T.fn14) (lean_x h _) ?_; clear E M; intro fr w M E
            refine sv (v := .bool _) E rfl rfl rfl rfl rfl (rfl) ?_; clear E; intro fr E
            refine sv (v := .bool _) E rfl rfl rfl rfl rfl (rfl) ?_; clear E; intro fr E
            refine sv (v := .bool _) E rfl rfl rfl rfl rfl (rfl) ?_; clear E; intro fr E
            refine seq_nil ?_
            refine block_normal ?_
            refine then_normal ?_
            refine code_last ?_
            refine sv (v := .int .i64 _) E rfl rfl rfl rfl rfl (rfl) ?_; clear E; intro fr E
            refine sv (v := .int _ (i + 1)) E rfl rfl rfl rfl rfl (num rfl (i64_id (by omega) (by omega))) ?_; clear E; intro fr E
            refine sv (v := .int .i64 _) E rfl rfl rfl rfl rfl (rfl) ?_; clear E; intro fr E
            refine seq_nil ?_
            refine then_any ?_
            have e1 : (i + 1 - kk) * (leanZ l + 1) = (i - kk) * (leanZ l + 1) + (leanZ l + 1) := by rw [show i + 1 - kk = (i - kk) + 1 by omega, Int.add_mul, Int.one_mul]
            refine ⟨(s - (i + 1)).toNat, by omega, i + 1, left - left, _, rfl, ⟨by omega, by omega, by omega, by omega, ?_, ?_⟩, ((((((Env.nil E).add E (t := 2) rfl).add E (t := 3) rfl).add E (t := 4) rfl).add E (t := 9) rfl).add E (t := 10) rfl).add E (t := 11) rfl, M⟩
            · intro hf; have hf := of_decide_eq_false hf; have := q2 rfl; have : i + 1 = s := (by omega); rw [← this] at hkey; omega
            · intro _; refine decide_eq_true ?_; have := q2 rfl; have : i + 1 = s := (by omega); rw [← this] at hkey; omega
        · cases fl with
          | true =>
            obtain ⟨j, hj⟩ : ∃ j : Nat, i - kk = j := ⟨(i - kk).toNat, by omega⟩
            obtain ⟨g, off, ha, hcell⟩ := M.fact j (by omega)
            subst ha
            clear hcell
            obtain ⟨x, hx, x0, x1⟩ := pick_x (zs.getD j 0) (left + 1) (by omega) (by omega)
            refine wp_seq ?_
            refine code_region ?_
            refine sv (v := .int .i64 _) E rfl rfl rfl rfl rfl (rfl) ?_; clear E; intro fr E
            refine sv (v := .pointer (some ⟨_, 0, none⟩)) E rfl rfl rfl rfl rfl (run_fieldAddr rfl rfl T.fld23_0) ?_; clear E; intro fr E
            refine sv (v := .int .i64 _) E rfl rfl rfl rfl rfl (run_loadB rfl rfl T.one3 (M.row (i := 0) rfl) rfl) ?_; clear E; intro fr E
            refine sv (v := .bool _) E rfl rfl rfl rfl rfl (rfl) ?_; clear E; intro fr E
            refine seq_nil' ?_
            refine cond_true E rfl (by simp; omega) ?_
            refine wp_skip ?_
            refine then_normal ?_
            refine wp_seq ?_
            refine wp_block ?_
            refine code_region ?_
            refine sv (v := .int .i64 _) E rfl rfl rfl rfl rfl (rfl) ?_; clear E; intro fr E
            refine seq_nil' ?_
            refine wp_seq ?_
            refine code_region ?_
            refine sv (v := .int .i64 _) E rfl rfl rfl rfl rfl (rfl) ?_; clear E; intro fr E
            refine sv (v := .int .i64 _) E rfl rfl rfl rfl rfl (rfl) ?_; clear E; intro fr E
            refine sv (v := .int _ (i - kk)) E rfl rfl rfl rfl rfl (num rfl (i64_id (by omega) (by omega))) ?_; clear E; intro fr E
            refine sv (v := .slice _ _ _) E rfl rfl rfl rfl rfl (rfl) ?_; clear E; intro fr E
            refine sv (v := .int .i64 _) E rfl rfl rfl rfl rfl (run_len rfl rfl rfl rfl T.slice35) ?_; clear E; intro fr E
            refine sv (v := .bool true) E rfl rfl rfl rfl rfl (tst rfl (by simp; omega)) ?_; clear E; intro fr E
            refine seq_nil' ?_
            refine cond_true E rfl (rfl) ?_
            obtain ⟨_, _, ha, hcell⟩ := M.fact j (by omega)
            cases ha
            refine code_last ?_
            refine sv (v := .slice _ _ _) E rfl rfl rfl rfl rfl (rfl) ?_; clear E; intro fr E
            refine sv (v := .int .i64 _) E rfl rfl rfl rfl rfl (rfl) ?_; clear E; intro fr E
            refine sv (v := .int .i64 _) E rfl rfl rfl rfl rfl (rfl) ?_; clear E; intro fr E
            refine sv (v := .int _ (i - kk)) E rfl rfl rfl rfl rfl (num rfl (i64_id (by omega) (by omega))) ?_; clear E; intro fr E
            refine sv (v := .pointer (some ⟨_, _, none⟩)) E rfl rfl rfl rfl rfl (run_index1 (i := j) rfl rfl rfl (by omega) (by omega) T.slice35 T.size3) ?_; clear E; intro fr E
            refine sv (v := .int .i64 _) E rfl rfl rfl rfl rfl (run_load1 rfl rfl T.one3 (hcell)) ?_; clear E; intro fr E
            refine sv (v := .int .i64 _) E rfl rfl rfl rfl rfl (rfl) ?_; clear E; intro fr E
            refine sv (v := .int _ (left + 1)) E rfl rfl rfl rfl rfl (num rfl (i64_id (by omega) (by omega))) ?_; clear E; intro fr E
            refine sextv E M rfl rfl rfl rfl rfl (run_call rfl rfl T.fn16) (hx _) ?_; clear E M; intro fr w M E
            refine sv (v := .int .i64 _) E rfl rfl rfl rfl rfl (rfl) ?_; clear E; intro fr E
            refine seq_nil ?_
            refine then_normal ?_
            refine wp_seq ?_
            refine code_region ?_
            refine sv (v := .int .i64 _) E rfl rfl rfl rfl rfl (rfl) ?_; clear E; intro fr E
            refine sv (v := .pointer (some ⟨_, 0, none⟩)) E rfl rfl rfl rfl rfl (run_fieldAddr rfl rfl T.fld23_0) ?_; clear E; intro fr E
            refine sv (v := .int .i64 _) E rfl rfl rfl rfl rfl (run_loadB rfl rfl T.one3 (M.row (i := 0) rfl) rfl) ?_; clear E; intro fr E
            refine sv (v := .int _ (s - 1)) E rfl rfl rfl rfl rfl (num rfl (i64_id (by omega) (by omega))) ?_; clear E; intro fr E
            refine sv (v := .bool false) E rfl rfl rfl rfl rfl (tst rfl (by simp; omega)) ?_; clear E; intro fr E
            refine sv (v := .bool _) E rfl rfl rfl rfl rfl (rfl) ?_; clear E; intro fr E
            refine sno E rfl rfl rfl rfl ?_; clear E; intro fr E
            refine sno E rfl rfl rfl rfl ?_; clear E; intro fr E
            refine sv (v := .bool _) E rfl rfl rfl rfl rfl (rfl) ?_; clear E; intro fr E
            refine seq_nil' ?_
            refine cond_false E rfl (rfl) ?_
            refine wp_skip ?_
            refine then_normal ?_
            refine code_region ?_
            refine sv (v := .int .i64 _) E rfl rfl rfl rfl rfl (rfl) ?_; clear E; intro fr E
            refine sv (v := .int .i64 _) E rfl rfl rfl rfl rfl (rfl) ?_; clear E; intro fr E
            refine sv (v := .int _ (left - x)) E rfl rfl rfl rfl rfl (num rfl (i64_id (by omega) (by omega))) ?_; clear E; intro fr E
            refine sv (v := .int .i64 _) E rfl rfl rfl rfl rfl (rfl) ?_; clear E; intro fr E
            refine seq_nil' ?_
            refine code_last ?_
            refine sv (v := .bool _) E rfl rfl rfl rfl rfl (rfl) ?_; clear E; intro fr E
            refine sv (v := .bool _) E rfl rfl rfl rfl rfl (rfl) ?_; clear E; intro fr E
            refine sno E rfl rfl rfl rfl ?_; clear E; intro fr E
            refine sno E rfl rfl rfl rfl ?_; clear E; intro fr E
            refine sno E rfl rfl rfl rfl ?_; clear E; intro fr E
            refine sno E rfl rfl rfl rfl ?_; clear E; intro fr E
            refine sv (v := .bool _) E rfl rfl rfl rfl rfl (rfl) ?_; clear E; intro fr E
            refine sv (v := .bool _) E rfl rfl rfl rfl rfl (rfl) ?_; clear E; intro fr E
            refine seq_nil ?_
            refine block_normal ?_
            refine then_normal ?_
            refine code_last ?_
            refine sv (v := .int .i64 _) E rfl rfl rfl rfl rfl (rfl) ?_; clear E; intro fr E
            refine sv (v := .int _ (i + 1)) E rfl rfl rfl rfl rfl (num rfl (i64_id (by omega) (by omega))) ?_; clear E; intro fr E
            refine sv (v := .int .i64 _) E rfl rfl rfl rfl rfl (rfl) ?_; clear E; intro fr E
            refine seq_nil ?_
            refine then_any ?_
            have e1 : (i + 1 - kk) * (leanZ l + 1) = (i - kk) * (leanZ l + 1) + (leanZ l + 1) := by rw [show i + 1 - kk = (i - kk) + 1 by omega, Int.add_mul, Int.one_mul]
            refine ⟨(s - (i + 1)).toNat, by omega, i + 1, left - x, _, rfl, ⟨by omega, by omega, by omega, by omega, ?_, ?_⟩, ((((((Env.nil E).add E (t := 2) rfl).add E (t := 3) rfl).add E (t := 4) rfl).add E (t := 9) rfl).add E (t := 10) rfl).add E (t := 11) rfl, M⟩
            · intro hf; cases hf
            · intro _; rfl
          | false =>
            obtain ⟨j, hj⟩ : ∃ j : Nat, i - kk = j := ⟨(i - kk).toNat, by omega⟩
            obtain ⟨g, off, ha, hcell⟩ := M.fact j (by omega)
            subst ha
            clear hcell
            obtain ⟨x, hx, x0, x1⟩ := pick_x (zs.getD j 0) (left + 1) (by omega) (by omega)
            refine wp_seq ?_
            refine code_region ?_
            refine sv (v := .int .i64 _) E rfl rfl rfl rfl rfl (rfl) ?_; clear E; intro fr E
            refine sv (v := .pointer (some ⟨_, 0, none⟩)) E rfl rfl rfl rfl rfl (run_fieldAddr rfl rfl T.fld23_0) ?_; clear E; intro fr E
            refine sv (v := .int .i64 _) E rfl rfl rfl rfl rfl (run_loadB rfl rfl T.one3 (M.row (i := 0) rfl) rfl) ?_; clear E; intro fr E
            refine sv (v := .bool _) E rfl rfl rfl rfl rfl (rfl) ?_; clear E; intro fr E
            refine seq_nil' ?_
            refine cond_true E rfl (by simp; omega) ?_
            refine wp_skip ?_
            refine then_normal ?_
            refine wp_seq ?_
            refine wp_block ?_
            refine code_region ?_
            refine sv (v := .int .i64 _) E rfl rfl rfl rfl rfl (rfl) ?_; clear E; intro fr E
            refine seq_nil' ?_
            refine wp_seq ?_
            refine code_region ?_
            refine sv (v := .int .i64 _) E rfl rfl rfl rfl rfl (rfl) ?_; clear E; intro fr E
            refine sv (v := .int .i64 _) E rfl rfl rfl rfl rfl (rfl) ?_; clear E; intro fr E
            refine sv (v := .int _ (i - kk)) E rfl rfl rfl rfl rfl (num rfl (i64_id (by omega) (by omega))) ?_; clear E; intro fr E
            refine sv (v := .slice _ _ _) E rfl rfl rfl rfl rfl (rfl) ?_; clear E; intro fr E
            refine sv (v := .int .i64 _) E rfl rfl rfl rfl rfl (run_len rfl rfl rfl rfl T.slice35) ?_; clear E; intro fr E
            refine sv (v := .bool true) E rfl rfl rfl rfl rfl (tst rfl (by simp; omega)) ?_; clear E; intro fr E
            refine seq_nil' ?_
            refine cond_true E rfl (rfl) ?_
            obtain ⟨_, _, ha, hcell⟩ := M.fact j (by omega)
            cases ha
            refine code_last ?_
            refine sv (v := .slice _ _ _) E rfl rfl rfl rfl rfl (rfl) ?_; clear E; intro fr E
            refine sv (v := .int .i64 _) E rfl rfl rfl rfl rfl (rfl) ?_; clear E; intro fr E
            refine sv (v := .int .i64 _) E rfl rfl rfl rfl rfl (rfl) ?_; clear E; intro fr E
            refine sv (v := .int _ (i - kk)) E rfl rfl rfl rfl rfl (num rfl (i64_id (by omega) (by omega))) ?_; clear E; intro fr E
            refine sv (v := .pointer (some ⟨_, _, none⟩)) E rfl rfl rfl rfl rfl (run_index1 (i := j) rfl rfl rfl (by omega) (by omega) T.slice35 T.size3) ?_; clear E; intro fr E
            refine sv (v := .int .i64 _) E rfl rfl rfl rfl rfl (run_load1 rfl rfl T.one3 (hcell)) ?_; clear E; intro fr E
            refine sv (v := .int .i64 _) E rfl rfl rfl rfl rfl (rfl) ?_; clear E; intro fr E
            refine sv (v := .int _ (left + 1)) E rfl rfl rfl rfl rfl (num rfl (i64_id (by omega) (by omega))) ?_; clear E; intro fr E
            refine sextv E M rfl rfl rfl rfl rfl (run_call rfl rfl T.fn16) (hx _) ?_; clear E M; intro fr w M E
            refine sv (v := .int .i64 _) E rfl rfl rfl rfl rfl (rfl) ?_; clear E; intro fr E
            refine seq_nil ?_
            refine then_normal ?_
            refine wp_seq ?_
            refine code_region ?_
            refine sv (v := .int .i64 _) E rfl rfl rfl rfl rfl (rfl) ?_; clear E; intro fr E
            refine sv (v := .pointer (some ⟨_, 0, none⟩)) E rfl rfl rfl rfl rfl (run_fieldAddr rfl rfl T.fld23_0) ?_; clear E; intro fr E
            refine sv (v := .int .i64 _) E rfl rfl rfl rfl rfl (run_loadB rfl rfl T.one3 (M.row (i := 0) rfl) rfl) ?_; clear E; intro fr E
            refine sv (v := .int _ (s - 1)) E rfl rfl rfl rfl rfl (num rfl (i64_id (by omega) (by omega))) ?_; clear E; intro fr E
            refine sv (v := .bool false) E rfl rfl rfl rfl rfl (tst rfl (by simp; omega)) ?_; clear E; intro fr E
            refine sv (v := .bool _) E rfl rfl rfl rfl rfl (rfl) ?_; clear E; intro fr E
            refine sno E rfl rfl rfl rfl ?_; clear E; intro fr E
            refine sno E rfl rfl rfl rfl ?_; clear E; intro fr E
            refine sv (v := .bool _) E rfl rfl rfl rfl rfl (rfl) ?_; clear E; intro fr E
            refine seq_nil' ?_
            refine cond_false E rfl (rfl) ?_
            refine wp_skip ?_
            refine then_normal ?_
            refine code_region ?_
            refine sv (v := .int .i64 _) E rfl rfl rfl rfl rfl (rfl) ?_; clear E; intro fr E
            refine sv (v := .int .i64 _) E rfl rfl rfl rfl rfl (rfl) ?_; clear E; intro fr E
            refine sv (v := .int _ (left - x)) E rfl rfl rfl rfl rfl (num rfl (i64_id (by omega) (by omega))) ?_; clear E; intro fr E
            refine sv (v := .int .i64 _) E rfl rfl rfl rfl rfl (rfl) ?_; clear E; intro fr E
            refine seq_nil' ?_
            refine code_last ?_
            refine sv (v := .bool _) E rfl rfl rfl rfl rfl (rfl) ?_; clear E; intro fr E
            refine sv (v := .bool _) E rfl rfl rfl rfl rfl (rfl) ?_; clear E; intro fr E
            refine sv (v := .int .i64 _) E rfl rfl rfl rfl rfl (rfl) ?_; clear E; intro fr E
            refine sv (v := .agg #[_, _, _]) E rfl rfl rfl rfl rfl (run_loadAll rfl rfl T.agg23 (M.row (i := 0) rfl) rfl) ?_; clear E; intro fr E
            refine sextv E M rfl rfl rfl rfl rfl (run_call rfl rfl T.fn14) (lean_x h _) ?_; clear E M; intro fr w M E
            refine sv (v := .bool _) E rfl rfl rfl rfl rfl (rfl) ?_; clear E; intro fr E
            refine sv (v := .bool _) E rfl rfl rfl rfl rfl (rfl) ?_; clear E; intro fr E
            refine sv (v := .bool _) E rfl rfl rfl rfl rfl (rfl) ?_; clear E; intro fr E
            refine seq_nil ?_
            refine block_normal ?_
            refine then_normal ?_
            refine code_last ?_
            refine sv (v := .int .i64 _) E rfl rfl rfl rfl rfl (rfl) ?_; clear E; intro fr E
            refine sv (v := .int _ (i + 1)) E rfl rfl rfl rfl rfl (num rfl (i64_id (by omega) (by omega))) ?_; clear E; intro fr E
            refine sv (v := .int .i64 _) E rfl rfl rfl rfl rfl (rfl) ?_; clear E; intro fr E
            refine seq_nil ?_
            refine then_any ?_
            have e1 : (i + 1 - kk) * (leanZ l + 1) = (i - kk) * (leanZ l + 1) + (leanZ l + 1) := by rw [show i + 1 - kk = (i - kk) + 1 by omega, Int.add_mul, Int.one_mul]
            refine ⟨(s - (i + 1)).toNat, by omega, i + 1, left - x, _, rfl, ⟨by omega, by omega, by omega, by omega, ?_, ?_⟩, ((((((Env.nil E).add E (t := 2) rfl).add E (t := 3) rfl).add E (t := 4) rfl).add E (t := 9) rfl).add E (t := 10) rfl).add E (t := 11) rfl, M⟩
            · intro hf; have hf := of_decide_eq_false hf; have := q2 rfl; omega
            · intro he; exact absurd he (by omega)
      · by_cases hl : i = s - 1
        · cases fl with
          | true =>
            refine wp_seq ?_
            refine code_region ?_
            refine sv (v := .int .i64 _) E rfl rfl rfl rfl rfl (rfl) ?_; clear E; intro fr E
            refine sv (v := .pointer (some ⟨_, 0, none⟩)) E rfl rfl rfl rfl rfl (run_fieldAddr rfl rfl T.fld23_0) ?_; clear E; intro fr E
            refine sv (v := .int .i64 _) E rfl rfl rfl rfl rfl (run_loadB rfl rfl T.one3 (M.row (i := 0) rfl) rfl) ?_; clear E; intro fr E
            refine sv (v := .bool _) E rfl rfl rfl rfl rfl (rfl) ?_; clear E; intro fr E
            refine seq_nil' ?_
            refine cond_true E rfl (by simp; omega) ?_
            refine wp_skip ?_
            refine then_normal ?_
            refine wp_seq ?_
            refine wp_block ?_
            refine code_region ?_
            refine sv (v := .int .i64 _) E rfl rfl rfl rfl rfl (rfl) ?_; clear E; intro fr E
            refine seq_nil' ?_
            refine wp_seq ?_
            refine code_region ?_
            refine sv (v := .int .i64 _) E rfl rfl rfl rfl rfl (rfl) ?_; clear E; intro fr E
            refine sv (v := .int .i64 _) E rfl rfl rfl rfl rfl (rfl) ?_; clear E; intro fr E
            refine sv (v := .int _ (i - kk)) E rfl rfl rfl rfl rfl (num rfl (i64_id (by omega) (by omega))) ?_; clear E; intro fr E
            refine sv (v := .slice _ _ _) E rfl rfl rfl rfl rfl (rfl) ?_; clear E; intro fr E
            refine sv (v := .int .i64 _) E rfl rfl rfl rfl rfl (run_len rfl rfl rfl rfl T.slice35) ?_; clear E; intro fr E
            refine sv (v := .bool false) E rfl rfl rfl rfl rfl (tst rfl (by simp; omega)) ?_; clear E; intro fr E
            refine seq_nil' ?_
            refine cond_false E rfl (rfl) ?_
            refine wp_skip ?_
            refine then_normal ?_
            refine wp_seq ?_
            refine code_region ?_
            refine sv (v := .int .i64 _) E rfl rfl rfl rfl rfl (rfl) ?_; clear E; intro fr E
            refine sv (v := .pointer (some ⟨_, 0, none⟩)) E rfl rfl rfl rfl rfl (run_fieldAddr rfl rfl T.fld23_0) ?_; clear E; intro fr E
            refine sv (v := .int .i64 _) E rfl rfl rfl rfl rfl (run_loadB rfl rfl T.one3 (M.row (i := 0) rfl) rfl) ?_; clear E; intro fr E
            refine sv (v := .int _ (s - 1)) E rfl rfl rfl rfl rfl (num rfl (i64_id (by omega) (by omega))) ?_; clear E; intro fr E
            refine sv (v := .bool true) E rfl rfl rfl rfl rfl (tst rfl (by simp; omega)) ?_; clear E; intro fr E
            refine sv (v := .bool _) E rfl rfl rfl rfl rfl (rfl) ?_; clear E; intro fr E
            refine sv (v := .bool _) E rfl rfl rfl rfl rfl (rfl) ?_; clear E; intro fr E
            refine sv (v := .bool _) E rfl rfl rfl rfl rfl (rfl) ?_; clear E; intro fr E
            refine sv (v := .bool _) E rfl rfl rfl rfl rfl (rfl) ?_; clear E; intro fr E
            refine seq_nil' ?_
            refine cond_false E rfl (rfl) ?_
            refine wp_skip ?_
            refine then_normal ?_
            refine code_region ?_
            refine sv (v := .int .i64 _) E rfl rfl rfl rfl rfl (rfl) ?_; clear E; intro fr E
            refine sv (v := .int .i64 _) E rfl rfl rfl rfl rfl (rfl) ?_; clear E; intro fr E
            refine sv (v := .int _ (left - 0)) E rfl rfl rfl rfl rfl (num rfl (i64_id (by omega) (by omega))) ?_; clear E; intro fr E
            refine sv (v := .int .i64 _) E rfl rfl rfl rfl rfl (rfl) ?_; clear E; intro fr E
            refine seq_nil' ?_
            refine code_last ?_
            refine sv (v := .bool _) E rfl rfl rfl rfl rfl (rfl) ?_; clear E; intro fr E
            refine sv (v := .bool _) E rfl rfl rfl rfl rfl (rfl) ?_; clear E; intro fr E
            refine sno E rfl rfl rfl rfl ?_; clear E; intro fr E
            refine sno E rfl rfl rfl rfl ?_; clear E; intro fr E
            refine sno E rfl rfl rfl rfl ?_; clear E; intro fr E
            refine sno E rfl rfl rfl rfl ?_; clear E; intro fr E
            refine sv (v := .bool _) E rfl rfl rfl rfl rfl (rfl) ?_; clear E; intro fr E
            refine sv (v := .bool _) E rfl rfl rfl rfl rfl (rfl) ?_; clear E; intro fr E
            refine seq_nil ?_
            refine block_normal ?_
            refine then_normal ?_
            refine code_last ?_
            refine sv (v := .int .i64 _) E rfl rfl rfl rfl rfl (rfl) ?_; clear E; intro fr E
            refine sv (v := .int _ (i + 1)) E rfl rfl rfl rfl rfl (num rfl (i64_id (by omega) (by omega))) ?_; clear E; intro fr E
            refine sv (v := .int .i64 _) E rfl rfl rfl rfl rfl (rfl) ?_; clear E; intro fr E
            refine seq_nil ?_
            refine then_any ?_
            have e1 : (i + 1 - kk) * (leanZ l + 1) = (i - kk) * (leanZ l + 1) + (leanZ l + 1) := by rw [show i + 1 - kk = (i - kk) + 1 by omega, Int.add_mul, Int.one_mul]
            refine ⟨(s - (i + 1)).toNat, by omega, i + 1, left - 0, _, rfl, ⟨by omega, by omega, by omega, by omega, ?_, ?_⟩, ((((((Env.nil E).add E (t := 2) rfl).add E (t := 3) rfl).add E (t := 4) rfl).add E (t := 9) rfl).add E (t := 10) rfl).add E (t := 11) rfl, M⟩
            · intro hf; cases hf
            · intro _; rfl
          | false =>
            refine wp_seq ?_
            refine code_region ?_
            refine sv (v := .int .i64 _) E rfl rfl rfl rfl rfl (rfl) ?_; clear E; intro fr E
            refine sv (v := .pointer (some ⟨_, 0, none⟩)) E rfl rfl rfl rfl rfl (run_fieldAddr rfl rfl T.fld23_0) ?_; clear E; intro fr E
            refine sv (v := .int .i64 _) E rfl rfl rfl rfl rfl (run_loadB rfl rfl T.one3 (M.row (i := 0) rfl) rfl) ?_; clear E; intro fr E
            refine sv (v := .bool _) E rfl rfl rfl rfl rfl (rfl) ?_; clear E; intro fr E
            refine seq_nil' ?_
            refine cond_true E rfl (by simp; omega) ?_
            refine wp_skip ?_
            refine then_normal ?_
            refine wp_seq ?_
            refine wp_block ?_
            refine code_region ?_
            refine sv (v := .int .i64 _) E rfl rfl rfl rfl rfl (rfl) ?_; clear E; intro fr E
            refine seq_nil' ?_
            refine wp_seq ?_
            refine code_region ?_
            refine sv (v := .int .i64 _) E rfl rfl rfl rfl rfl (rfl) ?_; clear E; intro fr E
            refine sv (v := .int .i64 _) E rfl rfl rfl rfl rfl (rfl) ?_; clear E; intro fr E
            refine sv (v := .int _ (i - kk)) E rfl rfl rfl rfl rfl (num rfl (i64_id (by omega) (by omega))) ?_; clear E; intro fr E
            refine sv (v := .slice _ _ _) E rfl rfl rfl rfl rfl (rfl) ?_; clear E; intro fr E
            refine sv (v := .int .i64 _) E rfl rfl rfl rfl rfl (run_len rfl rfl rfl rfl T.slice35) ?_; clear E; intro fr E
            refine sv (v := .bool false) E rfl rfl rfl rfl rfl (tst rfl (by simp; omega)) ?_; clear E; intro fr E
            refine seq_nil' ?_
            refine cond_false E rfl (rfl) ?_
            refine wp_skip ?_
            refine then_normal ?_
            refine wp_seq ?_
            refine code_region ?_
            refine sv (v := .int .i64 _) E rfl rfl rfl rfl rfl (rfl) ?_; clear E; intro fr E
            refine sv (v := .pointer (some ⟨_, 0, none⟩)) E rfl rfl rfl rfl rfl (run_fieldAddr rfl rfl T.fld23_0) ?_; clear E; intro fr E
            refine sv (v := .int .i64 _) E rfl rfl rfl rfl rfl (run_loadB rfl rfl T.one3 (M.row (i := 0) rfl) rfl) ?_; clear E; intro fr E
            refine sv (v := .int _ (s - 1)) E rfl rfl rfl rfl rfl (num rfl (i64_id (by omega) (by omega))) ?_; clear E; intro fr E
            refine sv (v := .bool true) E rfl rfl rfl rfl rfl (tst rfl (by simp; omega)) ?_; clear E; intro fr E
            refine sv (v := .bool _) E rfl rfl rfl rfl rfl (rfl) ?_; clear E; intro fr E
            refine sv (v := .bool _) E rfl rfl rfl rfl rfl (rfl) ?_; clear E; intro fr E
            refine sv (v := .bool _) E rfl rfl rfl rfl rfl (rfl) ?_; clear E; intro fr E
            refine sv (v := .bool _) E rfl rfl rfl rfl rfl (rfl) ?_; clear E; intro fr E
            refine seq_nil' ?_
            refine cond_true E rfl (rfl) ?_
            refine code_last ?_
            refine sv (v := .int .i64 _) E rfl rfl rfl rfl rfl (rfl) ?_; clear E; intro fr E
            refine sv (v := .int .i64 _) E rfl rfl rfl rfl rfl (rfl) ?_; clear E; intro fr E
            refine seq_nil ?_
            refine then_normal ?_
            refine code_region ?_
            refine sv (v := .int .i64 _) E rfl rfl rfl rfl rfl (rfl) ?_; clear E; intro fr E
            refine sv (v := .int .i64 _) E rfl rfl rfl rfl rfl (rfl) ?_; clear E; intro fr E
            refine sv (v := .int _ (left - left)) E rfl rfl rfl rfl rfl (num rfl (i64_id (by omega) (by omega))) ?_; clear E; intro fr E
            refine sv (v := .int .i64 _) E rfl rfl rfl rfl rfl (rfl) ?_; clear E; intro fr E
            refine seq_nil' ?_
            refine code_last ?_
            refine sv (v := .bool _) E rfl rfl rfl rfl rfl (rfl) ?_; clear E; intro fr E
            refine sv (v := .bool _) E rfl rfl rfl rfl rfl (rfl) ?_; clear E; intro fr E
            refine sv (v := .int .i64 _) E rfl rfl rfl rfl rfl (rfl) ?_; clear E; intro fr E
            refine sv (v := .agg #[_, _, _]) E rfl rfl rfl rfl rfl (run_loadAll rfl rfl T.agg23 (M.row (i := 0) rfl) rfl) ?_; clear E; intro fr E
            refine sextv E M rfl rfl rfl rfl rfl (run_call rfl rfl T.fn14) (lean_x h _) ?_; clear E M; intro fr w M E
            refine sv (v := .bool _) E rfl rfl rfl rfl rfl (rfl) ?_; clear E; intro fr E
            refine sv (v := .bool _) E rfl rfl rfl rfl rfl (rfl) ?_; clear E; intro fr E
            refine sv (v := .bool _) E rfl rfl rfl rfl rfl (rfl) ?_; clear E; intro fr E
            refine seq_nil ?_
            refine block_normal ?_
            refine then_normal ?_
            refine code_last ?_
            refine sv (v := .int .i64 _) E rfl rfl rfl rfl rfl (rfl) ?_; clear E; intro fr E
            refine sv (v := .int _ (i + 1)) E rfl rfl rfl rfl rfl (num rfl (i64_id (by omega) (by omega))) ?_; clear E; intro fr E
            refine sv (v := .int .i64 _) E rfl rfl rfl rfl rfl (rfl) ?_; clear E; intro fr E
            refine seq_nil ?_
            refine then_any ?_
            have e1 : (i + 1 - kk) * (leanZ l + 1) = (i - kk) * (leanZ l + 1) + (leanZ l + 1) := by rw [show i + 1 - kk = (i - kk) + 1 by omega, Int.add_mul, Int.one_mul]
            refine ⟨(s - (i + 1)).toNat, by omega, i + 1, left - left, _, rfl, ⟨by omega, by omega, by omega, by omega, ?_, ?_⟩, ((((((Env.nil E).add E (t := 2) rfl).add E (t := 3) rfl).add E (t := 4) rfl).add E (t := 9) rfl).add E (t := 10) rfl).add E (t := 11) rfl, M⟩
            · intro hf; have hf := of_decide_eq_false hf; have := q2 rfl; have : i + 1 = s := (by omega); rw [← this] at hkey; omega
            · intro _; refine decide_eq_true ?_; have := q2 rfl; have : i + 1 = s := (by omega); rw [← this] at hkey; omega
        · cases fl with
          | true =>
            refine wp_seq ?_
            refine code_region ?_
            refine sv (v := .int .i64 _) E rfl rfl rfl rfl rfl (rfl) ?_; clear E; intro fr E
            refine sv (v := .pointer (some ⟨_, 0, none⟩)) E rfl rfl rfl rfl rfl (run_fieldAddr rfl rfl T.fld23_0) ?_; clear E; intro fr E
            refine sv (v := .int .i64 _) E rfl rfl rfl rfl rfl (run_loadB rfl rfl T.one3 (M.row (i := 0) rfl) rfl) ?_; clear E; intro fr E
            refine sv (v := .bool _) E rfl rfl rfl rfl rfl (rfl) ?_; clear E; intro fr E
            refine seq_nil' ?_
            refine cond_true E rfl (by simp; omega) ?_
            refine wp_skip ?_
            refine then_normal ?_
            refine wp_seq ?_
            refine wp_block ?_
            refine code_region ?_
            refine sv (v := .int .i64 _) E rfl rfl rfl rfl rfl (rfl) ?_; clear E; intro fr E
            refine seq_nil' ?_
            refine wp_seq ?_
            refine code_region ?_
            refine sv (v := .int .i64 _) E rfl rfl rfl rfl rfl (rfl) ?_; clear E; intro fr E
            refine sv (v := .int .i64 _) E rfl rfl rfl rfl rfl (rfl) ?_; clear E; intro fr E
            refine sv (v := .int _ (i - kk)) E rfl rfl rfl rfl rfl (num rfl (i64_id (by omega) (by omega))) ?_; clear E; intro fr E
            refine sv (v := .slice _ _ _) E rfl rfl rfl rfl rfl (rfl) ?_; clear E; intro fr E
            refine sv (v := .int .i64 _) E rfl rfl rfl rfl rfl (run_len rfl rfl rfl rfl T.slice35) ?_; clear E; intro fr E
            refine sv (v := .bool false) E rfl rfl rfl rfl rfl (tst rfl (by simp; omega)) ?_; clear E; intro fr E
            refine seq_nil' ?_
            refine cond_false E rfl (rfl) ?_
            refine wp_skip ?_
            refine then_normal ?_
            refine wp_seq ?_
            refine code_region ?_
            refine sv (v := .int .i64 _) E rfl rfl rfl rfl rfl (rfl) ?_; clear E; intro fr E
            refine sv (v := .pointer (some ⟨_, 0, none⟩)) E rfl rfl rfl rfl rfl (run_fieldAddr rfl rfl T.fld23_0) ?_; clear E; intro fr E
            refine sv (v := .int .i64 _) E rfl rfl rfl rfl rfl (run_loadB rfl rfl T.one3 (M.row (i := 0) rfl) rfl) ?_; clear E; intro fr E
            refine sv (v := .int _ (s - 1)) E rfl rfl rfl rfl rfl (num rfl (i64_id (by omega) (by omega))) ?_; clear E; intro fr E
            refine sv (v := .bool false) E rfl rfl rfl rfl rfl (tst rfl (by simp; omega)) ?_; clear E; intro fr E
            refine sv (v := .bool _) E rfl rfl rfl rfl rfl (rfl) ?_; clear E; intro fr E
            refine sno E rfl rfl rfl rfl ?_; clear E; intro fr E
            refine sno E rfl rfl rfl rfl ?_; clear E; intro fr E
            refine sv (v := .bool _) E rfl rfl rfl rfl rfl (rfl) ?_; clear E; intro fr E
            refine seq_nil' ?_
            refine cond_false E rfl (rfl) ?_
            refine wp_skip ?_
            refine then_normal ?_
            refine code_region ?_
            refine sv (v := .int .i64 _) E rfl rfl rfl rfl rfl (rfl) ?_; clear E; intro fr E
            refine sv (v := .int .i64 _) E rfl rfl rfl rfl rfl (rfl) ?_; clear E; intro fr E
            refine sv (v := .int _ (left - 0)) E rfl rfl rfl rfl rfl (num rfl (i64_id (by omega) (by omega))) ?_; clear E; intro fr E
            refine sv (v := .int .i64 _) E rfl rfl rfl rfl rfl (rfl) ?_; clear E; intro fr E
            refine seq_nil' ?_
            refine code_last ?_
            refine sv (v := .bool _) E rfl rfl rfl rfl rfl (rfl) ?_; clear E; intro fr E
            refine sv (v := .bool _) E rfl rfl rfl rfl rfl (rfl) ?_; clear E; intro fr E
            refine sno E rfl rfl rfl rfl ?_; clear E; intro fr E
            refine sno E rfl rfl rfl rfl ?_; clear E; intro fr E
            refine sno E rfl rfl rfl rfl ?_; clear E; intro fr E
            refine sno E rfl rfl rfl rfl ?_; clear E; intro fr E
            refine sv (v := .bool _) E rfl rfl rfl rfl rfl (rfl) ?_; clear E; intro fr E
            refine sv (v := .bool _) E rfl rfl rfl rfl rfl (rfl) ?_; clear E; intro fr E
            refine seq_nil ?_
            refine block_normal ?_
            refine then_normal ?_
            refine code_last ?_
            refine sv (v := .int .i64 _) E rfl rfl rfl rfl rfl (rfl) ?_; clear E; intro fr E
            refine sv (v := .int _ (i + 1)) E rfl rfl rfl rfl rfl (num rfl (i64_id (by omega) (by omega))) ?_; clear E; intro fr E
            refine sv (v := .int .i64 _) E rfl rfl rfl rfl rfl (rfl) ?_; clear E; intro fr E
            refine seq_nil ?_
            refine then_any ?_
            have e1 : (i + 1 - kk) * (leanZ l + 1) = (i - kk) * (leanZ l + 1) + (leanZ l + 1) := by rw [show i + 1 - kk = (i - kk) + 1 by omega, Int.add_mul, Int.one_mul]
            refine ⟨(s - (i + 1)).toNat, by omega, i + 1, left - 0, _, rfl, ⟨by omega, by omega, by omega, by omega, ?_, ?_⟩, ((((((Env.nil E).add E (t := 2) rfl).add E (t := 3) rfl).add E (t := 4) rfl).add E (t := 9) rfl).add E (t := 10) rfl).add E (t := 11) rfl, M⟩
            · intro hf; cases hf
            · intro _; rfl
          | false =>
            refine wp_seq ?_
            refine code_region ?_
            refine sv (v := .int .i64 _) E rfl rfl rfl rfl rfl (rfl) ?_; clear E; intro fr E
            refine sv (v := .pointer (some ⟨_, 0, none⟩)) E rfl rfl rfl rfl rfl (run_fieldAddr rfl rfl T.fld23_0) ?_; clear E; intro fr E
            refine sv (v := .int .i64 _) E rfl rfl rfl rfl rfl (run_loadB rfl rfl T.one3 (M.row (i := 0) rfl) rfl) ?_; clear E; intro fr E
            refine sv (v := .bool _) E rfl rfl rfl rfl rfl (rfl) ?_; clear E; intro fr E
            refine seq_nil' ?_
            refine cond_true E rfl (by simp; omega) ?_
            refine wp_skip ?_
            refine then_normal ?_
            refine wp_seq ?_
            refine wp_block ?_
            refine code_region ?_
            refine sv (v := .int .i64 _) E rfl rfl rfl rfl rfl (rfl) ?_; clear E; intro fr E
            refine seq_nil' ?_
            refine wp_seq ?_
            refine code_region ?_
            refine sv (v := .int .i64 _) E rfl rfl rfl rfl rfl (rfl) ?_; clear E; intro fr E
            refine sv (v := .int .i64 _) E rfl rfl rfl rfl rfl (rfl) ?_; clear E; intro fr E
            refine sv (v := .int _ (i - kk)) E rfl rfl rfl rfl rfl (num rfl (i64_id (by omega) (by omega))) ?_; clear E; intro fr E
            refine sv (v := .slice _ _ _) E rfl rfl rfl rfl rfl (rfl) ?_; clear E; intro fr E
            refine sv (v := .int .i64 _) E rfl rfl rfl rfl rfl (run_len rfl rfl rfl rfl T.slice35) ?_; clear E; intro fr E
            refine sv (v := .bool false) E rfl rfl rfl rfl rfl (tst rfl (by simp; omega)) ?_; clear E; intro fr E
            refine seq_nil' ?_
            refine cond_false E rfl (rfl) ?_
            refine wp_skip ?_
            refine then_normal ?_
            refine wp_seq ?_
            refine code_region ?_
            refine sv (v := .int .i64 _) E rfl rfl rfl rfl rfl (rfl) ?_; clear E; intro fr E
            refine sv (v := .pointer (some ⟨_, 0, none⟩)) E rfl rfl rfl rfl rfl (run_fieldAddr rfl rfl T.fld23_0) ?_; clear E; intro fr E
            refine sv (v := .int .i64 _) E rfl rfl rfl rfl rfl (run_loadB rfl rfl T.one3 (M.row (i := 0) rfl) rfl) ?_; clear E; intro fr E
            refine sv (v := .int _ (s - 1)) E rfl rfl rfl rfl rfl (num rfl (i64_id (by omega) (by omega))) ?_; clear E; intro fr E
            refine sv (v := .bool false) E rfl rfl rfl rfl rfl (tst rfl (by simp; omega)) ?_; clear E; intro fr E
            refine sv (v := .bool _) E rfl rfl rfl rfl rfl (rfl) ?_; clear E; intro fr E
            refine sno E rfl rfl rfl rfl ?_; clear E; intro fr E
            refine sno E rfl rfl rfl rfl ?_; clear E; intro fr E
            refine sv (v := .bool _) E rfl rfl rfl rfl rfl (rfl) ?_; clear E; intro fr E
            refine seq_nil' ?_
            refine cond_false E rfl (rfl) ?_
            refine wp_skip ?_
            refine then_normal ?_
            refine code_region ?_
            refine sv (v := .int .i64 _) E rfl rfl rfl rfl rfl (rfl) ?_; clear E; intro fr E
            refine sv (v := .int .i64 _) E rfl rfl rfl rfl rfl (rfl) ?_; clear E; intro fr E
            refine sv (v := .int _ (left - 0)) E rfl rfl rfl rfl rfl (num rfl (i64_id (by omega) (by omega))) ?_; clear E; intro fr E
            refine sv (v := .int .i64 _) E rfl rfl rfl rfl rfl (rfl) ?_; clear E; intro fr E
            refine seq_nil' ?_
            refine code_last ?_
            refine sv (v := .bool _) E rfl rfl rfl rfl rfl (rfl) ?_; clear E; intro fr E
            refine sv (v := .bool _) E rfl rfl rfl rfl rfl (rfl) ?_; clear E; intro fr E
            refine sv (v := .int .i64 _) E rfl rfl rfl rfl rfl (rfl) ?_; clear E; intro fr E
            refine sv (v := .agg #[_, _, _]) E rfl rfl rfl rfl rfl (run_loadAll rfl rfl T.agg23 (M.row (i := 0) rfl) rfl) ?_; clear E; intro fr E
            refine sextv E M rfl rfl rfl rfl rfl (run_call rfl rfl T.fn14) (lean_x h _) ?_; clear E M; intro fr w M E
            refine sv (v := .bool _) E rfl rfl rfl rfl rfl (rfl) ?_; clear E; intro fr E
            refine sv (v := .bool _) E rfl rfl rfl rfl rfl (rfl) ?_; clear E; intro fr E
            refine sv (v := .bool _) E rfl rfl rfl rfl rfl (rfl) ?_; clear E; intro fr E
            refine seq_nil ?_
            refine block_normal ?_
            refine then_normal ?_
            refine code_last ?_
            refine sv (v := .int .i64 _) E rfl rfl rfl rfl rfl (rfl) ?_; clear E; intro fr E
            refine sv (v := .int _ (i + 1)) E rfl rfl rfl rfl rfl (num rfl (i64_id (by omega) (by omega))) ?_; clear E; intro fr E
            refine sv (v := .int .i64 _) E rfl rfl rfl rfl rfl (rfl) ?_; clear E; intro fr E
            refine seq_nil ?_
            refine then_any ?_
            have e1 : (i + 1 - kk) * (leanZ l + 1) = (i - kk) * (leanZ l + 1) + (leanZ l + 1) := by rw [show i + 1 - kk = (i - kk) + 1 by omega, Int.add_mul, Int.one_mul]
            refine ⟨(s - (i + 1)).toNat, by omega, i + 1, left - 0, _, rfl, ⟨by omega, by omega, by omega, by omega, ?_, ?_⟩, ((((((Env.nil E).add E (t := 2) rfl).add E (t := 3) rfl).add E (t := 4) rfl).add E (t := 9) rfl).add E (t := 10) rfl).add E (t := 11) rfl, M⟩
            · intro hf; have hf := of_decide_eq_false hf; have := q2 rfl; omega
            · intro he; exact absurd he (by omega)
theorem all (s l b m k : Int) (a : Option Addr) (n c : Nat) (zs : List Int) (w0 : World) (hz : Cells a n zs w0) : ExtCall Try.prog 5 #[.agg #[.int .i64 s, .int .i64 l, .int .i64 b], .int .i64 m, .int .i64 k, .slice a n c] w0 (.exact (.bool true)) := by
  by_cases h : GOK s l b
  · by_cases hn : 1000 < n
    · exact long s l b m k a n c zs w0 hz h hn
    · exact loop s l b m k a n c zs w0 hz h hn
  · exact no s l b m k a n c zs w0 hz h
theorem _root_.Go.Proofs.Ytallgbdcolfleaa.GeoLaws.GeoLean_walk (s l b m k : Int) (a : Option Addr) (n c : Nat) (zs : List Int) (w : World) (_ : (Lit.int .i64 s).wf = true) (_ : (Lit.int .i64 l).wf = true) (_ : (Lit.int .i64 b).wf = true) (_ : (Lit.int .i64 m).wf = true) (_ : (Lit.int .i64 k).wf = true)
    (hr : (a = none ∧ n = 0 ∧ c = 0 ∧ zs = []) ∨ ∃ x, a = some x ∧ n ≤ c ∧ c ≤ maxLen ∧ zs.length = c ∧ (∀ i, i < zs.length → w.cell? (x.add i) = some (.int .i64 (zs.getD i 0))) ∧ ∀ n ∈ zs, (Lit.int .i64 n).wf = true) :
    Calls Try.prog 5 #[.agg #[.int .i64 s, .int .i64 l, .int .i64 b], .int .i64 m, .int .i64 k, .slice a n c] w fun e w' => e = .returned (.bool true) ∧ Below w.heap.size w w' := by
  refine (all s l b m k a n c zs w ?_).mono fun _ _ ⟨_, he, hb, hv⟩ => ⟨by rw [he]; cases hv; rfl, hb⟩
  intro i hi
  rcases hr with ⟨_, rfl, _⟩ | ⟨x, rfl, hl, _, hz, hc, _⟩
  · omega
  · have h0 := hc 0 (by omega)
    have h1 := hc i (by omega)
    obtain ⟨g, off, sp⟩ := x
    have : sp = none := by
      cases sp with
      | none => rfl
      | some q =>
        have e0 : (⟨g, off, some q⟩ : Addr).add 0 = ⟨g, off, some q⟩ := rfl
        rw [e0] at h0
        unfold World.cell? at h0
        split at h0 <;> simp at h0
    subst this
    rw [Rill.add_plain] at h1
    exact ⟨g, off, rfl, h1⟩
end Leans
end Go.Proofs.Ytallgbdcolfleaa.GeoLaws
