/- Contracts: places in the small geometry; entries held against entries. -/
import Derived.Test.YtnebjbgcibjohaaKK
import Derived.Test.YtnebjbgcibjohaaKK1
import Derived.Test.YtnebjbgcibjohaaRR1
section
namespace Go.Proofs.Ytnebjbgcibjohaa.K
open Go.RowKit Go.Rill Go.Proofs
set_option linter.unusedVariables false
set_option linter.unusedSimpArgs false
theorem Ety.fit {e : Ety} (h : e.Ok) : Fit ([.i64] ++ [.i64] ++ [.i64] ++ List.replicate 32 .u8) e.cells := by
  have one : ∀ n : Int, Fit [.i64] [iv n] := fun n => rfl
  exact (((one e.k).app (one e.b)).app (one e.s)).app (fit_sum h)
theorem Ety.cells_inj {a b : Ety} (h : a.cells = b.cells) : a = b := by
  obtain ⟨a1, a2, a3, a4⟩ := a
  obtain ⟨b1, b2, b3, b4⟩ := b
  simp only [Ety.cells, iv, List.cons.injEq, Value.int.injEq, true_and] at h
  obtain ⟨rfl, rfl, rfl, h4⟩ := h
  rw [bc_inj h4]
theorem run_neF {P : Program} {ρ : Operand → Value} {o : Oper} {w : World} {t t' : TypeId} {X Y : Operand} {xs ys : List Value} {ks : List IntKind} {b : Bool} (ho : o.op = .binOp .neq t X Y t') (hX : ρ X = .agg xs.toArray) (hY : ρ Y = .agg ys.toArray) (ht : tyFlat P t ks = true) (hx : Fit ks xs) (hy : Fit ks ys) (hb : b = true ↔ xs = ys) :
    (execOp ρ o).run P w = .ok (.value (.bool (!b))) w := by
  simp only [tyFlat, Bool.and_eq_true, Bool.not_eq_true', beq_iff_eq] at ht
  obtain ⟨⟨h1, h2⟩, h3⟩ := ht
  obtain ⟨r, hr, hrb⟩ := flat_eq 10000 t ks h1 w xs ys hx hy
  simp only [mkv, h2, Bool.false_eq_true, if_false] at hr
  have e : r = b := by rw [Bool.eq_iff_iff, hrb, hb]
  subst e
  have hg := run_eqGuard_agg (P := P) w .neq t X Y xs.toArray ys.toArray h3
  have he := run_neq_struct (P := P) w t xs.toArray ys.toArray
  rw [hr, Result.andThen_ok] at he
  simp only [execOp, ho, hX, hY, Sem.run_bind, hg, Result.andThen_ok, he]
  rfl
set_option maxRecDepth 100000 in
theorem At_x {sg sl : Int} {w0 : World} (h1 : 0 ≤ sg ∧ sg ≤ 19) (h2 : 0 ≤ sl ∧ sl ≤ 31) : Gives Try.prog 23 [.agg #[.int .i64 20, .int .i64 32, .int .i64 4], .agg #[.int .i64 sg, .int .i64 sl]] w0 (.int .i64 (3 + sg * 32 + sl)) := by
  refine enter (n := 34) Try.func23 rfl rfl rfl ?_
  intro fr E
  have M : Mem w0 (feet []) [] (fun _ => True) w0 := Mem.begin (Has.nil w0) (fun _ _ => trivial)
  refine code_region ?_
  refine snew (ob := .cells (#[.int .i64 20, .int .i64 32, .int .i64 4]) 46) (fun g => .pointer (some ⟨g, 0, none⟩)) E M rfl rfl rfl rfl rfl (run_boxN (cs := (#[.int .i64 20, .int .i64 32, .int .i64 4])) rfl rfl) fun g0 fr w M E => ?_
  refine snew (ob := .cells (#[.int .i64 sg, .int .i64 sl]) 26) (fun g => .pointer (some ⟨g, 0, none⟩)) E M rfl rfl rfl rfl rfl (run_boxN (cs := (#[.int .i64 sg, .int .i64 sl])) rfl rfl) fun g1 fr w M E => ?_
  refine sw E (run_assignC rfl) fun fr E => ?_
  refine seq_nil' ?_
  refine wp_seq ?_
  refine code_region ?_
  refine sw (v := .agg #[.int .i64 20, .int .i64 32, .int .i64 4]) E (run_loadAll rfl rfl T.agg46 (M.row (i := 1) rfl) rfl) fun fr E => ?_
  refine sgive E M rfl rfl rfl rfl rfl (run_call rfl rfl T.fn36) (gmay_x (r := true) (decide_eq_true (by decide))) fun fr w M E => ?_
  refine sw (v := .bool _) E (rfl) fun fr E => ?_
  refine mv E fun fr E => ?_
  refine sw (v := .pointer (some ⟨_, 0, none⟩)) E (run_fieldAddr rfl rfl T.fld26_0) fun fr E => ?_
  refine sw (v := .int .i64 sg) E (run_loadB rfl rfl T.one3 (M.row (i := 0) rfl) rfl) fun fr E => ?_
  refine sw (v := .pointer (some ⟨_, 0, none⟩)) E (run_fieldAddr rfl rfl T.fld46_0) fun fr E => ?_
  refine sw (v := .int .i64 20) E (run_loadB rfl rfl T.one3 (M.row (i := 1) rfl) rfl) fun fr E => ?_
  refine sw (v := .int _ (19)) E (num rfl (rfl)) fun fr E => ?_
  refine sw (v := .agg ([_, _, _]).toArray) E (run_buildP (vs := [_, _, _]) (us := [_, _, _]) rfl rfl T.ts96 T.zeroL96 rfl rfl rfl rfl) fun fr E => ?_
  refine sw (v := .pointer (some ⟨_, 1, none⟩)) E (run_fieldAddr rfl rfl T.fld26_1) fun fr E => ?_
  refine sw (v := .int .i64 sl) E (run_loadB rfl rfl T.one3 (M.row (i := 0) rfl) rfl) fun fr E => ?_
  refine sw (v := .pointer (some ⟨_, 1, none⟩)) E (run_fieldAddr rfl rfl T.fld46_1) fun fr E => ?_
  refine sw (v := .int .i64 32) E (run_loadB rfl rfl T.one3 (M.row (i := 1) rfl) rfl) fun fr E => ?_
  refine sw (v := .int _ (31)) E (num rfl (rfl)) fun fr E => ?_
  refine sw (v := .agg ([_, _, _]).toArray) E (run_buildP (vs := [_, _, _]) (us := [_, _, _]) rfl rfl T.ts96 T.zeroL96 rfl rfl rfl rfl) fun fr E => ?_
  refine srow (sz := 3) (xs := _) E M rfl rfl rfl rfl rfl (run_buildSliceA (us := [.int .i64 sg, .int .i64 0, .int .i64 19, .int .i64 sl, .int .i64 0, .int .i64 31]) (vs := [.agg #[.int .i64 sg, .int .i64 0, .int .i64 19], .agg #[.int .i64 sl, .int .i64 0, .int .i64 31]]) rfl rfl rfl T.slice119 T.size96 T.zl96 rfl rfl rfl rfl rfl) (rfl) (Nat.le_refl _) (by decide) (rfl) fun g2 fr w M E => ?_
  refine sgive E M rfl rfl rfl rfl rfl (run_call rfl rfl T.fn37) (gwithin_x (l := [(sg, 0, 19), (sl, 0, 31)]) (M.reads 0 rfl) (show 2 ≤ 1000 by decide) (decide_eq_true (by simp [SpanP]; omega))) fun fr w M E => ?_
  refine sw (v := .bool _) E (rfl) fun fr E => ?_
  refine sw (v := .bool _) E (rfl) fun fr E => ?_
  refine seq_nil' ?_
  refine cond_false E rfl (rfl) ?_
  refine wp_skip ?_
  refine then_normal ?_
  refine code_region ?_
  refine sw (v := .pointer (some ⟨_, 0, none⟩)) E (run_fieldAddr rfl rfl T.fld26_0) fun fr E => ?_
  refine sw (v := .int .i64 sg) E (run_loadB rfl rfl T.one3 (M.row (i := 1) rfl) rfl) fun fr E => ?_
  refine sw (v := .pointer (some ⟨_, 1, none⟩)) E (run_fieldAddr rfl rfl T.fld46_1) fun fr E => ?_
  refine sw (v := .int .i64 32) E (run_loadB rfl rfl T.one3 (M.row (i := 2) rfl) rfl) fun fr E => ?_
  refine sw (v := .int _ (sg * 32)) E (num rfl (i64_id (by omega) (by omega))) fun fr E => ?_
  refine sw (v := .int _ (3 + sg * 32)) E (num rfl (i64_id (by omega) (by omega))) fun fr E => ?_
  refine sw (v := .pointer (some ⟨_, 1, none⟩)) E (run_fieldAddr rfl rfl T.fld26_1) fun fr E => ?_
  refine sw (v := .int .i64 sl) E (run_loadB rfl rfl T.one3 (M.row (i := 1) rfl) rfl) fun fr E => ?_
  refine sw (v := .int _ (3 + sg * 32 + sl)) E (num rfl (i64_id (by omega) (by omega))) fun fr E => ?_
  refine ma E fun fr E => ?_
  refine seq_nil' ?_
  refine wp_ret ?_
  refine ret1 E rfl rfl ?_
  exact given M

set_option maxRecDepth 100000 in
theorem SameEntries_len {a b : Value} {l k : List Ety} {w0 : World} (ha : Reads 35 w0 a l.length (ecs l)) (hb : Reads 35 w0 b k.length (ecs k)) (hol : EOk l) (hok : EOk k) (hz : l.length ≤ 1000) (hn : ¬ l.length = k.length) : Gives Try.prog 26 [a, b] w0 (.bool (decide (l = k))) := by
  refine enter (n := 26) Try.func26 rfl rfl rfl ?_
  intro fr E
  have M : Mem w0 (feet []) [] (fun w' => Reads 35 w' a l.length (ecs l) ∧ Reads 35 w' b k.length (ecs k)) w0 := Mem.begin (Has.nil w0) (fun w' h => ⟨Reads.held0 ha h, Reads.held0 hb h⟩)
  refine code_region ?_
  refine sw E (run_assignC rfl) fun fr E => ?_
  refine seq_nil' ?_
  refine wp_seq ?_
  refine code_region ?_
  refine mv E fun fr E => ?_
  refine sw (v := .int .i64 _) E (run_lenR rfl rfl rfl rfl T.slice37 (M.fact).1) fun fr E => ?_
  refine mv E fun fr E => ?_
  refine sw (v := .int .i64 _) E (run_lenR rfl rfl rfl rfl T.slice37 (M.fact).2) fun fr E => ?_
  refine sw (v := .bool true) E (tst rfl (bneTB (by omega))) fun fr E => ?_
  refine seq_nil' ?_
  refine cond_true E rfl (rfl) ?_
  refine code_region ?_
  refine sw E (run_assignC rfl) fun fr E => ?_
  refine seq_nil' ?_
  refine wp_ret ?_
  refine then_ret ?_
  refine ret1 E rfl rfl ?_
  rw [decide_eq_false (fun c : l = k => hn (congrArg List.length c))]
  exact given M

set_option maxRecDepth 100000 in
theorem SameEntries_in {a b : Value} {l k : List Ety} {w0 : World} (ha : Reads 35 w0 a l.length (ecs l)) (hb : Reads 35 w0 b k.length (ecs k)) (hol : EOk l) (hok : EOk k) (hz : l.length ≤ 1000) (hn : l.length = k.length) : Gives Try.prog 26 [a, b] w0 (.bool (decide (l = k))) := by
  refine enter (n := 26) Try.func26 rfl rfl rfl ?_
  intro fr E
  have M : Mem w0 (feet []) [] (fun w' => Reads 35 w' a l.length (ecs l) ∧ Reads 35 w' b k.length (ecs k)) w0 := Mem.begin (Has.nil w0) (fun w' h => ⟨Reads.held0 ha h, Reads.held0 hb h⟩)
  refine code_region ?_
  refine sw E (run_assignC rfl) fun fr E => ?_
  refine seq_nil' ?_
  refine wp_seq ?_
  refine code_region ?_
  refine mv E fun fr E => ?_
  refine sw (v := .int .i64 _) E (run_lenR rfl rfl rfl rfl T.slice37 (M.fact).1) fun fr E => ?_
  refine mv E fun fr E => ?_
  refine sw (v := .int .i64 _) E (run_lenR rfl rfl rfl rfl T.slice37 (M.fact).2) fun fr E => ?_
  refine sw (v := .bool false) E (tst rfl (bneFB (by omega))) fun fr E => ?_
  refine seq_nil' ?_
  refine cond_false E rfl (rfl) ?_
  refine wp_skip ?_
  refine then_normal ?_
  refine wp_seq ?_
  refine code_region ?_
  refine sw E (run_assignC rfl) fun fr E => ?_
  refine seq_nil' ?_
  refine wp_block ?_
  refine loop_dec (fun d fr w => ∃ i : Nat, d = l.length - i ∧ i ≤ l.length ∧ (∀ j, j < i → ∀ (h1 : j < l.length) (h2 : j < k.length), l[j] = k[j]) ∧ Env [(5, .int .i64 i), (1, b), (0, a)] 26 fr ∧ Mem w0 (feet []) [] (fun w' => Reads 35 w' a l.length (ecs l) ∧ Reads 35 w' b k.length (ecs k)) w) (l.length) ?_ ?_
  · exact ⟨0, rfl, Nat.zero_le _, fun j hj => absurd hj (by omega), (((Env.nil E).add E (t := 0) rfl).add E (t := 1) rfl).add E (t := 5) rfl, M⟩
  · clear E M
    rintro d fr w ⟨i, rfl, hle, hall, E, M⟩
    by_cases hi : i < l.length
    · by_cases hq : l[i] = k[i]'(by omega)
      · refine wp_seq ?_
        refine code_region ?_
        refine mv E fun fr E => ?_
        refine mv E fun fr E => ?_
        refine sw (v := .int .i64 _) E (run_lenR rfl rfl rfl rfl T.slice37 (M.fact).1) fun fr E => ?_
        refine sw (v := .bool true) E (tst rfl (decide_eq_true (by omega))) fun fr E => ?_
        refine seq_nil' ?_
        refine cond_true E rfl (rfl) ?_
        refine wp_skip ?_
        refine then_normal ?_
        refine wp_seq ?_
        refine wp_block ?_
        refine wp_seq (free_reg (B := T.tab26_6_b) (Vs := (.exact _ :: .exact _ :: .exact (cellAt a (i * 35)) :: .exact (.agg (l[i]).cells.toArray) :: .exact _ :: .exact _ :: .exact (cellAt b (i * 35)) :: .exact (.agg (k[i]'(by omega)).cells.toArray) :: .exact (.bool false) :: [])) T.tab26_6_i E T.mixed T.tab26_6 rfl (AllS.lasts ⟨trivial, trivial, trivial, trivial, trivial, trivial, trivial, trivial, trivial, trivial⟩) ⟨fv rfl rfl (fun x w hx hk => run_move rfl rfl),
      fv rfl rfl (fun x w hx hk => run_move rfl rfl),
      fv rfl rfl (fun x w hx hk => run_indexR (i := i) rfl ((M.ext ((Ext.drew _).trans hx)).fact).1 rfl rfl (rfl) (hi) T.slice37 T.size83),
      fv rfl rfl (fun x w hx hk => run_loadRN (k := i * 35) rfl ((M.ext ((Ext.drew _).trans hx)).fact).1 rfl T.agg83 (by omega) (by decide) (ecs_get hol hi)),
      fv rfl rfl (fun x w hx hk => run_move rfl rfl),
      fv rfl rfl (fun x w hx hk => run_move rfl rfl),
      fv rfl rfl (fun x w hx hk => run_indexR (i := i) rfl ((M.ext ((Ext.drew _).trans hx)).fact).2 rfl rfl (rfl) ((by omega)) T.slice37 T.size83),
      fv rfl rfl (fun x w hx hk => run_loadRN (k := i * 35) rfl ((M.ext ((Ext.drew _).trans hx)).fact).2 rfl T.agg83 (by omega) (by decide) (ecs_get hok (by omega))),
      fv rfl rfl (fun x w hx hk => run_neF (b := true) (xs := (l[i]).cells) (ys := (k[i]'(by omega)).cells) rfl rfl rfl T.flat83 (Ety.fit (hol.get hi)) (Ety.fit (hok.get (by omega))) (by simp [hq])), trivial⟩ ?_)
        intro x fr w hx hk E
        have M := M.ext hx
        refine then_normal ?_
        refine cond_false E rfl (rfl) ?_
        refine wp_skip ?_
        refine block_normal ?_
        refine then_normal ?_
        refine code_last ?_
        refine mv E fun fr E => ?_
        refine sw (v := .int _ (((i + 1 : Nat) : Int))) E (num rfl ((i64_id (by omega) (by omega)).trans (by omega))) fun fr E => ?_
        refine ma E fun fr E => ?_
        refine seq_nil ?_
        refine then_any ?_
        refine ⟨l.length - (i + 1), by omega, i + 1, rfl, by omega, fun j hj h1 h2 => ?_, (((Env.nil E).add E (t := 0) rfl).add E (t := 1) rfl).add E (t := 5) rfl, M⟩
        rcases Nat.lt_or_eq_of_le (Nat.le_of_lt_succ hj) with h | rfl
        · exact hall j h h1 h2
        · exact hq
      · refine wp_seq ?_
        refine code_region ?_
        refine mv E fun fr E => ?_
        refine mv E fun fr E => ?_
        refine sw (v := .int .i64 _) E (run_lenR rfl rfl rfl rfl T.slice37 (M.fact).1) fun fr E => ?_
        refine sw (v := .bool true) E (tst rfl (decide_eq_true (by omega))) fun fr E => ?_
        refine seq_nil' ?_
        refine cond_true E rfl (rfl) ?_
        refine wp_skip ?_
        refine then_normal ?_
        refine wp_seq ?_
        refine wp_block ?_
        refine wp_seq (free_reg (B := T.tab26_6_b) (Vs := (.exact _ :: .exact _ :: .exact (cellAt a (i * 35)) :: .exact (.agg (l[i]).cells.toArray) :: .exact _ :: .exact _ :: .exact (cellAt b (i * 35)) :: .exact (.agg (k[i]'(by omega)).cells.toArray) :: .exact (.bool true) :: [])) T.tab26_6_i E T.mixed T.tab26_6 rfl (AllS.lasts ⟨trivial, trivial, trivial, trivial, trivial, trivial, trivial, trivial, trivial, trivial⟩) ⟨fv rfl rfl (fun x w hx hk => run_move rfl rfl),
      fv rfl rfl (fun x w hx hk => run_move rfl rfl),
      fv rfl rfl (fun x w hx hk => run_indexR (i := i) rfl ((M.ext ((Ext.drew _).trans hx)).fact).1 rfl rfl (rfl) (hi) T.slice37 T.size83),
      fv rfl rfl (fun x w hx hk => run_loadRN (k := i * 35) rfl ((M.ext ((Ext.drew _).trans hx)).fact).1 rfl T.agg83 (by omega) (by decide) (ecs_get hol hi)),
      fv rfl rfl (fun x w hx hk => run_move rfl rfl),
      fv rfl rfl (fun x w hx hk => run_move rfl rfl),
      fv rfl rfl (fun x w hx hk => run_indexR (i := i) rfl ((M.ext ((Ext.drew _).trans hx)).fact).2 rfl rfl (rfl) ((by omega)) T.slice37 T.size83),
      fv rfl rfl (fun x w hx hk => run_loadRN (k := i * 35) rfl ((M.ext ((Ext.drew _).trans hx)).fact).2 rfl T.agg83 (by omega) (by decide) (ecs_get hok (by omega))),
      fv rfl rfl (fun x w hx hk => run_neF (b := false) (xs := (l[i]).cells) (ys := (k[i]'(by omega)).cells) rfl rfl rfl T.flat83 (Ety.fit (hol.get hi)) (Ety.fit (hok.get (by omega))) (by simp only [Bool.false_eq_true, false_iff]; exact fun c => hq (Ety.cells_inj c))), trivial⟩ ?_)
        intro x fr w hx hk E
        have M := M.ext hx
        refine then_normal ?_
        refine cond_true E rfl (rfl) ?_
        refine code_region ?_
        refine sw E (run_assignC rfl) fun fr E => ?_
        refine seq_nil' ?_
        refine wp_ret ?_
        refine block_ret ?_
        refine then_ret ?_
        refine then_ret ?_
        refine block_ret ?_
        refine then_ret ?_
        refine ret1 E rfl rfl ?_
        rw [decide_eq_false (fun c : l = k => hq (by subst c; rfl))]
        exact given M
    · obtain rfl : i = l.length := by omega
      refine wp_seq ?_
      refine code_region ?_
      refine mv E fun fr E => ?_
      refine mv E fun fr E => ?_
      refine sw (v := .int .i64 _) E (run_lenR rfl rfl rfl rfl T.slice37 (M.fact).1) fun fr E => ?_
      refine sw (v := .bool false) E (tst rfl (decide_eq_false (by omega))) fun fr E => ?_
      refine seq_nil' ?_
      refine cond_false E rfl (rfl) ?_
      refine wp_exit ?_
      refine then_exit ?_
      refine then_exit ?_
      refine block_exit ?_
      refine then_normal ?_
      refine code_region ?_
      refine sw E (run_assignC rfl) fun fr E => ?_
      refine seq_nil' ?_
      refine wp_ret ?_
      refine ret1 E rfl rfl ?_
      rw [decide_eq_true (List.ext_getElem hn fun j h1 h2 => hall j h1 h1 h2)]
      exact given M

theorem SameEntries_x {a b : Value} {l k : List Ety} {w0 : World} (ha : Reads 35 w0 a l.length (ecs l)) (hb : Reads 35 w0 b k.length (ecs k)) (hol : EOk l) (hok : EOk k) (hz : l.length ≤ 1000) : Gives Try.prog 26 [a, b] w0 (.bool (decide (l = k))) := by
  by_cases hn : l.length = k.length
  · exact SameEntries_in ha hb hol hok hz hn
  · exact SameEntries_len ha hb hol hok hz hn
end Go.Proofs.Ytnebjbgcibjohaa.K
end
section
namespace Go.Proofs.Ytnebjbgcibjohaa.K
open Go.RowKit Go.Rill Go.Proofs
set_option linter.unusedVariables false
set_option linter.unusedSimpArgs false
set_option maxRecDepth 100000 in
theorem SameSummary_x {s : Smy} {a b : Value} {w0 : World} (hs : s.Ok) (h16 : s.es.length ≤ 16) (ha : Reads 35 w0 a s.es.length (ecs s.es)) (hb : Reads 35 w0 b s.es.length (ecs s.es)) : Gives Try.prog 9 [.agg (s.cells a).toArray, .agg (s.cells b).toArray] w0 (.bool true) := by
  refine enter (n := 31) Try.func9 rfl rfl rfl ?_
  intro fr E
  have M : Mem w0 (feet []) [] (fun w' => Reads 35 w' a s.es.length (ecs s.es) ∧ Reads 35 w' b s.es.length (ecs s.es)) w0 := Mem.begin (Has.nil w0) (fun w' h => ⟨Reads.held0 ha h, Reads.held0 hb h⟩)
  refine code_region ?_
  refine snew (ob := .cells ((s.cells a).toArray) 39) (fun g => .pointer (some ⟨g, 0, none⟩)) E M rfl rfl rfl rfl rfl (run_boxN (cs := ((s.cells a).toArray)) rfl rfl) fun g0 fr w M E => ?_
  refine snew (ob := .cells ((s.cells b).toArray) 39) (fun g => .pointer (some ⟨g, 0, none⟩)) E M rfl rfl rfl rfl rfl (run_boxN (cs := ((s.cells b).toArray)) rfl rfl) fun g1 fr w M E => ?_
  refine sw E (run_assignC rfl) fun fr E => ?_
  refine seq_nil' ?_
  refine code_region ?_
  refine sw (v := .pointer (some ⟨_, 0, none⟩)) E (run_fieldAddr rfl rfl T.fld39_0) fun fr E => ?_
  refine sw (v := .int .i64 s.st) E (run_loadB rfl rfl T.one3 (M.row (i := 1) rfl) Smy.c_st) fun fr E => ?_
  refine sw (v := .pointer (some ⟨_, 0, none⟩)) E (run_fieldAddr rfl rfl T.fld39_0) fun fr E => ?_
  refine sw (v := .int .i64 s.st) E (run_loadB rfl rfl T.one3 (M.row (i := 0) rfl) Smy.c_st) fun fr E => ?_
  refine sw (v := .bool true) E (tst rfl (decide_eq_true rfl)) fun fr E => ?_
  refine mv E fun fr E => ?_
  refine sw (v := .pointer (some ⟨_, 1, none⟩)) E (run_fieldAddr rfl rfl T.fld39_1) fun fr E => ?_
  refine sw (v := .agg (bc s.prev).toArray) E (run_loadN' (vs := (bc s.prev).toArray) rfl rfl T.agg28 (M.row (i := 1) rfl) (by rw [Smy.size hs]; rfl) (congrArg List.toArray (Smy.m_prev hs))) fun fr E => ?_
  refine sw (v := .pointer (some ⟨_, 1, none⟩)) E (run_fieldAddr rfl rfl T.fld39_1) fun fr E => ?_
  refine sw (v := .agg (bc s.prev).toArray) E (run_loadN' (vs := (bc s.prev).toArray) rfl rfl T.agg28 (M.row (i := 0) rfl) (by rw [Smy.size hs]; rfl) (congrArg List.toArray (Smy.m_prev hs))) fun fr E => ?_
  refine sw (v := .bool true) E (run_eqF (b := true) (xs := bc s.prev) (ys := bc s.prev) rfl rfl rfl T.flat28 (fit_sum hs.1) (fit_sum hs.1) (by simp)) fun fr E => ?_
  refine sw (v := .bool _) E (rfl) fun fr E => ?_
  refine mv E fun fr E => ?_
  refine sw (v := .pointer (some ⟨_, 33, none⟩)) E (run_fieldAddr rfl rfl T.fld39_2) fun fr E => ?_
  refine sw (v := .int .i64 s.next) E (run_loadB rfl rfl T.one3 (M.row (i := 1) rfl) (Smy.c_next hs)) fun fr E => ?_
  refine sw (v := .pointer (some ⟨_, 33, none⟩)) E (run_fieldAddr rfl rfl T.fld39_2) fun fr E => ?_
  refine sw (v := .int .i64 s.next) E (run_loadB rfl rfl T.one3 (M.row (i := 0) rfl) (Smy.c_next hs)) fun fr E => ?_
  refine sw (v := .bool true) E (tst rfl (decide_eq_true rfl)) fun fr E => ?_
  refine sw (v := .bool _) E (rfl) fun fr E => ?_
  refine mv E fun fr E => ?_
  refine sw (v := .pointer (some ⟨_, 34, none⟩)) E (run_fieldAddr rfl rfl T.fld39_3) fun fr E => ?_
  refine sw E (run_loadB rfl rfl T.one37 (M.row (i := 1) rfl) (Smy.c_es hs)) fun fr E => ?_
  refine sw (v := .pointer (some ⟨_, 34, none⟩)) E (run_fieldAddr rfl rfl T.fld39_3) fun fr E => ?_
  refine sw E (run_loadB rfl rfl T.one37 (M.row (i := 0) rfl) (Smy.c_es hs)) fun fr E => ?_
  refine sgive E M rfl rfl rfl rfl rfl (run_call rfl rfl T.fn26) (SameEntries_x (l := s.es) (k := s.es) M.fact.1 M.fact.2 hs.2 hs.2 (by omega)) fun fr w M E => ?_
  rw [decide_eq_true (rfl : s.es = s.es)] at E
  refine sw (v := .bool _) E (rfl) fun fr E => ?_
  refine ma E fun fr E => ?_
  refine seq_nil' ?_
  refine wp_ret ?_
  refine ret1 E rfl rfl ?_
  exact given M

set_option maxRecDepth 100000 in
theorem goes_on {sg sl nx : Int} {w0 : World} (h1 : 0 ≤ sg ∧ sg ≤ 19) (h2 : 0 ≤ sl ∧ sl < 31) (hn : nx = -1) : Gives Try.prog 41 [.agg #[.int .i64 20, .int .i64 32, .int .i64 4], .agg #[.int .i64 sg, .int .i64 sl], .int .i64 nx] w0 (.tuple #[.agg #[.int .i64 sg, .int .i64 (sl + 1)], .bool true]) := by
  refine enter (n := 38) Try.func41 rfl rfl rfl ?_
  intro fr E
  have M : Mem w0 (feet []) [] (fun _ => True) w0 := Mem.begin (Has.nil w0) (fun _ _ => trivial)
  refine code_region ?_
  refine snew (ob := .cells (#[.int .i64 20, .int .i64 32, .int .i64 4]) 46) (fun g => .pointer (some ⟨g, 0, none⟩)) E M rfl rfl rfl rfl rfl (run_boxN (cs := (#[.int .i64 20, .int .i64 32, .int .i64 4])) rfl rfl) fun g0 fr w M E => ?_
  refine snew (ob := .cells (#[.int .i64 sg, .int .i64 sl]) 26) (fun g => .pointer (some ⟨g, 0, none⟩)) E M rfl rfl rfl rfl rfl (run_boxN (cs := (#[.int .i64 sg, .int .i64 sl])) rfl rfl) fun g1 fr w M E => ?_
  refine snew (ob := .cells #[_, _] 26) (fun g => .pointer (some ⟨g, 0, none⟩)) E M rfl rfl rfl rfl rfl (run_allocN rfl T.zero26) fun g2 fr w M E => ?_
  refine sw E (run_assignC rfl) fun fr E => ?_
  refine seq_nil' ?_
  refine wp_seq ?_
  refine code_region ?_
  refine sw (v := .pointer (some ⟨_, 1, none⟩)) E (run_fieldAddr rfl rfl T.fld26_1) fun fr E => ?_
  refine sw (v := .int .i64 sl) E (run_loadB rfl rfl T.one3 (M.row (i := 1) rfl) rfl) fun fr E => ?_
  refine sw (v := .pointer (some ⟨_, 1, none⟩)) E (run_fieldAddr rfl rfl T.fld46_1) fun fr E => ?_
  refine sw (v := .int .i64 32) E (run_loadB rfl rfl T.one3 (M.row (i := 2) rfl) rfl) fun fr E => ?_
  refine sw (v := .int _ (31)) E (num rfl (rfl)) fun fr E => ?_
  refine sw (v := .bool true) E (tst rfl (decide_eq_true (by omega))) fun fr E => ?_
  refine seq_nil' ?_
  refine cond_true E rfl (rfl) ?_
  refine code_region ?_
  refine sw (v := .pointer (some ⟨_, 0, none⟩)) E (run_fieldAddr rfl rfl T.fld26_0) fun fr E => ?_
  refine sw (v := .int .i64 sg) E (run_loadB rfl rfl T.one3 (M.row (i := 1) rfl) rfl) fun fr E => ?_
  refine sw (v := .pointer (some ⟨_, 1, none⟩)) E (run_fieldAddr rfl rfl T.fld26_1) fun fr E => ?_
  refine sw (v := .int .i64 sl) E (run_loadB rfl rfl T.one3 (M.row (i := 1) rfl) rfl) fun fr E => ?_
  refine sw (v := .int _ (sl + 1)) E (num rfl (i64_id (by omega) (by omega))) fun fr E => ?_
  refine sw (v := .agg ([_, _]).toArray) E (run_buildP (vs := [_, _]) (us := [_, _]) rfl rfl T.ts26 T.zeroL26 rfl rfl rfl rfl) fun fr E => ?_
  refine mv E fun fr E => ?_
  refine sw (v := .bool true) E (tst rfl (decide_eq_true hn)) fun fr E => ?_
  refine sset (i := 0) (cs' := #[.int .i64 sg, .int .i64 (sl + 1)]) E M rfl rfl rfl rfl rfl (run_storeN' (vs := #[_, _]) rfl rfl rfl T.size26 rfl (M.row (i := 0) rfl) rfl rfl rfl) rfl fun fr w M E => ?_
  refine ma E fun fr E => ?_
  refine seq_nil' ?_
  refine wp_ret ?_
  refine then_ret ?_
  refine retC2 E rfl rfl rfl T.agg26 (M.row (i := 0) rfl) (rfl) ?_
  exact given M

set_option maxRecDepth 100000 in
theorem goes_end {sg sl nx : Int} {w0 : World} (h1 : 0 ≤ sg ∧ sg ≤ 19) (h2 : sl = 31) (hn : 0 ≤ nx ∧ nx ≤ 19) (hne : ¬ nx = sg) : Gives Try.prog 41 [.agg #[.int .i64 20, .int .i64 32, .int .i64 4], .agg #[.int .i64 sg, .int .i64 sl], .int .i64 nx] w0 (.tuple #[.agg #[.int .i64 nx, .int .i64 0], .bool true]) := by
  refine enter (n := 38) Try.func41 rfl rfl rfl ?_
  intro fr E
  have M : Mem w0 (feet []) [] (fun _ => True) w0 := Mem.begin (Has.nil w0) (fun _ _ => trivial)
  refine code_region ?_
  refine snew (ob := .cells (#[.int .i64 20, .int .i64 32, .int .i64 4]) 46) (fun g => .pointer (some ⟨g, 0, none⟩)) E M rfl rfl rfl rfl rfl (run_boxN (cs := (#[.int .i64 20, .int .i64 32, .int .i64 4])) rfl rfl) fun g0 fr w M E => ?_
  refine snew (ob := .cells (#[.int .i64 sg, .int .i64 sl]) 26) (fun g => .pointer (some ⟨g, 0, none⟩)) E M rfl rfl rfl rfl rfl (run_boxN (cs := (#[.int .i64 sg, .int .i64 sl])) rfl rfl) fun g1 fr w M E => ?_
  refine snew (ob := .cells #[_, _] 26) (fun g => .pointer (some ⟨g, 0, none⟩)) E M rfl rfl rfl rfl rfl (run_allocN rfl T.zero26) fun g2 fr w M E => ?_
  refine sw E (run_assignC rfl) fun fr E => ?_
  refine seq_nil' ?_
  refine wp_seq ?_
  refine code_region ?_
  refine sw (v := .pointer (some ⟨_, 1, none⟩)) E (run_fieldAddr rfl rfl T.fld26_1) fun fr E => ?_
  refine sw (v := .int .i64 sl) E (run_loadB rfl rfl T.one3 (M.row (i := 1) rfl) rfl) fun fr E => ?_
  refine sw (v := .pointer (some ⟨_, 1, none⟩)) E (run_fieldAddr rfl rfl T.fld46_1) fun fr E => ?_
  refine sw (v := .int .i64 32) E (run_loadB rfl rfl T.one3 (M.row (i := 2) rfl) rfl) fun fr E => ?_
  refine sw (v := .int _ (31)) E (num rfl (rfl)) fun fr E => ?_
  refine sw (v := .bool false) E (tst rfl (decide_eq_false (by omega))) fun fr E => ?_
  refine seq_nil' ?_
  refine cond_false E rfl (rfl) ?_
  refine wp_skip ?_
  refine then_normal ?_
  have M : Mem _ _ ([.blk g2 (.cells #[.int .i64 0, .int .i64 0] 26)] ++ _) _ _ := M
  refine wp_seq (free_regR (B := T.tab41_3_b) (Vs := (.exact _ :: .exact (.agg (([.int .i64 nx, .int .i64 0] : List Value)).toArray) :: .exact _ :: .exact (.bool true) :: .exact _ :: .exact _ :: .exact (.pointer (some ⟨_, 0, none⟩)) :: .exact (.int .i64 20) :: .exact (.bool true) :: .exact (.bool _) :: .exact _ :: .exact _ :: .exact (.pointer (some ⟨_, 0, none⟩)) :: .exact (.int .i64 sg) :: .exact (.bool true) :: .exact (.bool _) :: CameI w.heap.size ([.blk g2 (.cells #[.int .i64 0, .int .i64 0] 26)]) (fun _ : Unit => undef) (fun _ => [.blk g2 (.cells #[.int .i64 nx, .int .i64 0] 26)]) (fun _ => True) :: .exact _ :: [])) (ownRoad (oneFs 16 ([.blk g2 (.cells #[.int .i64 0, .int .i64 0] 26)])) w.drew) T.tab41_3_i E T.mixed T.tab41_3 rfl ?_ ⟨fr_val rfl rfl M (fun i g h => h.2) (fun x w' M' hB hk => ⟨_, _, rfl, rfl, rfl, run_move rfl rfl, Ext.refl _, rfl⟩),
      fr_val rfl rfl M (fun i g h => h.2) (fun x w' M' hB hk => ⟨_, _, rfl, rfl, rfl, run_buildP (vs := [.int .i64 nx]) (us := ([.int .i64 nx, .int .i64 0] : List Value)) rfl rfl T.ts26 T.zeroL26 (rfl) rfl rfl (rfl), Ext.refl _, rfl⟩),
      fr_val rfl rfl M (fun i g h => h.2) (fun x w' M' hB hk => ⟨_, _, rfl, rfl, rfl, run_move rfl rfl, Ext.refl _, rfl⟩),
      fr_val rfl rfl M (fun i g h => h.2) (fun x w' M' hB hk => ⟨_, _, rfl, rfl, rfl, tst rfl (decide_eq_true (by omega)), Ext.refl _, rfl⟩),
      fr_val rfl rfl M (fun i g h => h.2) (fun x w' M' hB hk => ⟨_, _, rfl, rfl, rfl, run_move rfl rfl, Ext.refl _, rfl⟩),
      fr_val rfl rfl M (fun i g h => h.2) (fun x w' M' hB hk => ⟨_, _, rfl, rfl, rfl, run_move rfl rfl, Ext.refl _, rfl⟩),
      fr_val rfl rfl M (fun i g h => h.2) (fun x w' M' hB hk => ⟨_, _, rfl, rfl, rfl, run_fieldAddr rfl rfl T.fld46_0, Ext.refl _, rfl⟩),
      fr_val rfl rfl M (fun i g h => h.2) (fun x w' M' hB hk => ⟨_, _, rfl, rfl, rfl, run_loadB rfl rfl T.one3 (M'.row (i := 1) rfl) rfl, Ext.refl _, rfl⟩),
      fr_val rfl rfl M (fun i g h => h.2) (fun x w' M' hB hk => ⟨_, _, rfl, rfl, rfl, tst rfl (decide_eq_true (by omega)), Ext.refl _, rfl⟩),
      fr_val rfl rfl M (fun i g h => h.2) (fun x w' M' hB hk => ⟨_, _, rfl, rfl, rfl, rfl, Ext.refl _, rfl⟩),
      fr_val rfl rfl M (fun i g h => h.2) (fun x w' M' hB hk => ⟨_, _, rfl, rfl, rfl, run_move rfl rfl, Ext.refl _, rfl⟩),
      fr_val rfl rfl M (fun i g h => h.2) (fun x w' M' hB hk => ⟨_, _, rfl, rfl, rfl, run_move rfl rfl, Ext.refl _, rfl⟩),
      fr_val rfl rfl M (fun i g h => h.2) (fun x w' M' hB hk => ⟨_, _, rfl, rfl, rfl, run_fieldAddr rfl rfl T.fld26_0, Ext.refl _, rfl⟩),
      fr_val rfl rfl M (fun i g h => h.2) (fun x w' M' hB hk => ⟨_, _, rfl, rfl, rfl, run_loadB rfl rfl T.one3 (M'.row (i := 0) rfl) rfl, Ext.refl _, rfl⟩),
      fr_val rfl rfl M (fun i g h => h.2) (fun x w' M' hB hk => ⟨_, _, rfl, rfl, rfl, tst rfl (bneTB hne), Ext.refl _, rfl⟩),
      fr_val rfl rfl M (fun i g h => h.2) (fun x w' M' hB hk => ⟨_, _, rfl, rfl, rfl, rfl, Ext.refl _, rfl⟩),
      fr_set rfl rfl M (fun x w' M' H' hB hk => ⟨rfl, rfl, rfl, run_storeAll (vs := #[.int .i64 nx, .int .i64 0]) rfl rfl rfl T.size26 (rfl) (H'.ent 0 rfl) rfl (by simp [Value.oneCell'])⟩),
      fr_val rfl rfl M (fun i g h => h.2) (fun x w' M' hB hk => ⟨_, _, rfl, rfl, rfl, run_assign rfl rfl, Ext.refl _, rfl⟩), trivial⟩ ?_)
  · exact one_okW rfl ((allY_ex (allY_ex (allY_ex (allY_ex (allY_ex (allY_ex (allY_ex (allY_ex (allY_ex (allY_ex (allY_ex (allY_ex (allY_ex (allY_ex (allY_ex (allY_ex (allY_in rfl LastsR.came1 (allY_ex allY_nil)))))))))))))))))))
  intro x fr w ⟨b, hb, hI⟩ hk E
  obtain ⟨u, hy, -, M⟩ := M.behind (val := fun _ : Unit => undef) (outs := fun _ => [.blk g2 (.cells #[.int .i64 nx, .int .i64 0] 26)]) (p := fun _ => True) hI (hk 16 (by decide))
  refine then_normal ?_
  refine wp_ret ?_
  refine retC2 E rfl rfl rfl T.agg26 (M.row (i := 0) rfl) (rfl) ?_
  exact given M
end Go.Proofs.Ytnebjbgcibjohaa.K
end
section
namespace Go.Proofs.Ytnebjbgcibjohaa.K
open Go.RowKit Go.Rill Go.Proofs
set_option linter.unusedVariables false
set_option linter.unusedSimpArgs false
/-- A log's cells: its disk, its names, its place, the last digest, its lists, its count. -/
def lgc (d a : Nat) (sg sl : Int) (prev : List UInt8) (lf lsm : Value) (n : Int) : List Value := .pointer (some ⟨d, 0, none⟩) :: .pointer (some ⟨a, 0, none⟩) :: .int .i64 sg :: .int .i64 sl :: (bc prev ++ [lf, lsm, .int .i64 n])
section
variable {d a : Nat} {sg sl n : Int} {prev : List UInt8} {lf lsm : Value}
theorem lgc_size (h : prev.length = 32) : (lgc d a sg sl prev lf lsm n).toArray.size = 39 := by simp [lgc, h]
theorem lgc_n (h : prev.length = 32) : (lgc d a sg sl prev lf lsm n).toArray[38]? = some (.int .i64 n) := by
  simp only [List.getElem?_toArray, lgc, List.getElem?_cons_succ]
  rw [List.getElem?_append_right (by simp [h])]
  simp [h]
theorem lgc_setn (h : prev.length = 32) (m : Int) : (lgc d a sg sl prev lf lsm n).set 38 (.int .i64 m) = lgc d a sg sl prev lf lsm m := by
  unfold lgc
  have e : (bc prev ++ [lf, lsm, (.int .i64 n : Value)]).set 34 (.int .i64 m) = bc prev ++ [lf, lsm, .int .i64 m] := by
    rw [List.set_append_right _ _ (by simp [h])]
    simp [h]
  exact congrArg (fun t => (.pointer (some ⟨d, 0, none⟩) : Value) :: .pointer (some ⟨a, 0, none⟩) :: .int .i64 sg :: .int .i64 sl :: t) e
end
set_option maxRecDepth 100000 in
theorem begin_x (w0 : World) : Does Try.prog 21 [] w0 [] (fun x : Nat × DV × NV => .pointer (some ⟨x.1, 0, none⟩)) (fun x => [.blk x.1 (.cells (lgc x.2.1.gd x.2.2.gn 2 0 (List.replicate 32 0) (.slice none 0 0) (.slice none 0 0) 0).toArray 34), dkE x.2.1, nmE x.2.2]) (fun x => x.2.1.is x.2.1.gd (AD.new 643) ∧ x.2.2.ks = [] ∧ x.2.2.ts = []) := by
  refine enter (n := 14) Try.func21 rfl rfl rfl ?_
  intro fr E
  have M : Mem w0 (feet []) [] (fun _ => True) w0 := Mem.begin (Has.nil w0) (fun _ _ => trivial)
  refine code_region ?_
  refine sw E (run_assignC rfl) fun fr E => ?_
  refine seq_nil' ?_
  refine code_region ?_
  refine scall E M rfl rfl rfl rfl rfl (run_call rfl rfl T.fn32) (dNew_ok (k := 643) (by decide) (by decide)) rfl ?_
  rintro D0 fr w hD0 M E
  refine mv E fun fr E => ?_
  refine sw E (run_extract rfl rfl rfl) fun fr E => ?_
  refine sw E (run_extract rfl rfl rfl) fun fr E => ?_
  refine ma E fun fr E => ?_
  refine ma E fun fr E => ?_
  refine seq_nil' ?_
  refine wp_seq ?_
  refine code_region ?_
  refine mv E fun fr E => ?_
  refine sw (v := .bool false) E (tst rfl (rfl)) fun fr E => ?_
  refine seq_nil' ?_
  refine cond_false E rfl (rfl) ?_
  refine wp_skip ?_
  refine then_normal ?_
  refine code_region ?_
  refine mv E fun fr E => ?_
  refine scall E M rfl rfl rfl rfl rfl (run_call rfl rfl T.fn33) (nNew_x _) rfl ?_
  rintro N0 fr w ⟨hk0, ht0⟩ M E
  refine sw (v := .agg (([.int .i64 2, .int .i64 0] : List Value)).toArray) E (run_buildP (vs := [.int .i64 2]) (us := ([.int .i64 2, .int .i64 0] : List Value)) rfl rfl T.ts26 T.zeroL26 (rfl) rfl rfl (rfl)) fun fr E => ?_
  refine sw (v := .agg ((lgc D0.gd N0.gn 2 0 (List.replicate 32 0) (.slice none 0 0) (.slice none 0 0) 0)).toArray) E (run_buildP (vs := [.pointer (some ⟨D0.gd, 0, none⟩), .pointer (some ⟨N0.gn, 0, none⟩), .agg ([.int .i64 2, .int .i64 0] : List Value).toArray]) (us := (lgc D0.gd N0.gn 2 0 (List.replicate 32 0) (.slice none 0 0) (.slice none 0 0) 0)) rfl rfl T.ts34 T.zeroL34 (rfl) rfl rfl (rfl)) fun fr E => ?_
  refine snew (ob := .cells ((lgc D0.gd N0.gn 2 0 (List.replicate 32 0) (.slice none 0 0) (.slice none 0 0) 0).toArray) 34) (fun g => .pointer (some ⟨g, 0, none⟩)) E M rfl rfl rfl rfl rfl (run_boxN (cs := ((lgc D0.gd N0.gn 2 0 (List.replicate 32 0) (.slice none 0 0) (.slice none 0 0) 0).toArray)) rfl rfl) fun g0 fr w M E => ?_
  refine ma E fun fr E => ?_
  refine seq_nil' ?_
  refine wp_ret ?_
  refine ret1 E rfl rfl ?_
  have M := M.pull 1 rfl
  have M := M.pull 2 rfl
  have M := M.pull 2 rfl
  exact ⟨(g0, D0, N0), rfl, Mem.fin (L := [.blk g0 (.cells (lgc D0.gd N0.gn 2 0 (List.replicate 32 0) (.slice none 0 0) (.slice none 0 0) 0).toArray 34), dkE D0, nmE N0] ++ _) M (List.sublist_append_left _ _) ⟨hD0, hk0, ht0⟩⟩

set_option maxRecDepth 100000 in
theorem logPut_x {D : DV} {N : NV} {g gl : Nat} {A : AD} {kd sg sl n : Int} {prev : List UInt8} {lf lsm pv : Value} {pl : List UInt8} {w0 : World} (H : Has w0 [.blk gl (.cells (lgc g N.gn sg sl prev lf lsm n).toArray 34), dkE D, nmE N]) (hD : D.is g A) (hp : prev.length = 32) (hsg : 0 ≤ sg ∧ sg ≤ 19) (hsl : 0 ≤ sl ∧ sl ≤ 31) (hn : 0 ≤ n ∧ n ≤ 1000) (hkd : 1 ≤ kd ∧ kd ≤ 5) (hb : Bytes w0 pv pl) (hf : ∀ q, pv.ownBlock = some q → ¬ feet [.blk gl (.cells (lgc g N.gn sg sl prev lf lsm n).toArray 34), dkE D, nmE N] q) (hpl : pl.length ≤ 975) (hkz : N.ks.length ≤ 1099511627776) (htz : N.ts.length ≤ 1099511627776) : Does Try.prog 34 [.pointer (some ⟨gl, 0, none⟩), .int .i64 kd, pv] w0 [.blk gl (.cells (lgc g N.gn sg sl prev lf lsm n).toArray 34), dkE D, nmE N] (fun _ : DV × NV => .agg (bc (sumOf (textNo N.ts (sectB N.ks kd 7 (n + 1) (3 + sg * 32 + sl) pl)))).toArray) (fun x => [.blk gl (.cells (lgc g N.gn sg (sl + 1) prev lf lsm (n + 1)).toArray 34), dkE x.1, nmE x.2]) (fun x => x.1.is g (A.tamper (3 + sg * 32 + sl) (sectB N.ks kd 7 (n + 1) (3 + sg * 32 + sl) pl)).2 ∧ x.2.gn = N.gn ∧ x.2.ks = sealS N.ks 7 (n + 1) (hdB kd (3 + sg * 32 + sl)) pl ∧ x.2.ts = textKs N.ts (sectB N.ks kd 7 (n + 1) (3 + sg * 32 + sl) pl)) := by
  refine enter (n := 72) Try.func34 rfl rfl rfl ?_
  intro fr E
  have M : Mem w0 (feet [.blk gl (.cells (lgc g N.gn sg sl prev lf lsm n).toArray 34), dkE D, nmE N]) [.blk gl (.cells (lgc g N.gn sg sl prev lf lsm n).toArray 34), dkE D, nmE N] (fun w' => Bytes w' pv pl) w0 := Mem.begin H (fun w' h => Reads.held hb h hf)
  refine code_region ?_
  refine snew (ob := .cells _ 28) (fun g => .pointer (some ⟨g, 0, none⟩)) E M rfl rfl rfl rfl rfl (run_allocN rfl T.zero28) fun g0 fr w M E => ?_
  refine seq_nil' ?_
  refine code_region ?_
  refine mv E fun fr E => ?_
  refine sw E (run_nilCheck rfl rfl) fun fr E => ?_
  refine sw (v := .pointer (some ⟨_, 38, none⟩)) E (run_fieldAddr rfl rfl T.fld34_6) fun fr E => ?_
  refine sw (v := .int .i64 n) E (run_loadB rfl rfl T.one3 (M.row (i := 1) rfl) (lgc_n hp)) fun fr E => ?_
  refine sw (v := .int _ (n + 1)) E (num rfl (i64_id (by omega) (by omega))) fun fr E => ?_
  refine sw E (run_nilCheck rfl rfl) fun fr E => ?_
  refine sw (v := .pointer (some ⟨_, 38, none⟩)) E (run_fieldAddr rfl rfl T.fld34_6) fun fr E => ?_
  refine sset (i := 1) (cs' := (lgc g N.gn sg sl prev lf lsm (n + 1)).toArray) E M rfl rfl rfl rfl rfl (run_store1' (v := _) rfl rfl rfl T.size3 (M.row (i := 1) rfl) (by rw [lgc_size hp]; rfl) (rfl) (congrArg List.toArray (lgc_setn hp (n + 1)))) rfl fun fr w M E => ?_
  refine seq_nil' ?_
  refine wp_seq (free_reg (B := T.tab34_2_b) (Vs := (.exact _ :: .exact _ :: .exact (.pointer (some ⟨_, 2, none⟩)) :: .exact (.pointer (some ⟨_, 2, none⟩)) :: .exact (.int .i64 sg) :: .exact (.int _ (sg * 32)) :: .exact (.int _ (3 + sg * 32)) :: .exact _ :: .exact _ :: .exact (.pointer (some ⟨_, 2, none⟩)) :: .exact (.pointer (some ⟨_, 3, none⟩)) :: .exact (.int .i64 sl) :: .exact (.int _ (3 + sg * 32 + sl)) :: .exact _ :: [])) T.tab34_2_i E T.mixed T.tab34_2 rfl (AllS.lasts ⟨trivial, trivial, trivial, trivial, trivial, trivial, trivial, trivial, trivial, trivial, trivial, trivial, trivial, trivial, trivial⟩) ⟨fv rfl rfl (fun x w hx hk => run_move rfl rfl),
      fv rfl rfl (fun x w hx hk => run_nilCheck rfl rfl),
      fv rfl rfl (fun x w hx hk => run_fieldAddr rfl rfl T.fld34_2),
      fv rfl rfl (fun x w hx hk => run_fieldAddr rfl rfl T.fld26_0),
      fv rfl rfl (fun x w hx hk => run_loadB rfl rfl T.one3 ((M.ext ((Ext.drew _).trans hx)).row (i := 1) rfl) rfl),
      fv rfl rfl (fun x w hx hk => num rfl (i64_id (by omega) (by omega))),
      fv rfl rfl (fun x w hx hk => num rfl (i64_id (by omega) (by omega))),
      fv rfl rfl (fun x w hx hk => run_move rfl rfl),
      fv rfl rfl (fun x w hx hk => run_nilCheck rfl rfl),
      fv rfl rfl (fun x w hx hk => run_fieldAddr rfl rfl T.fld34_2),
      fv rfl rfl (fun x w hx hk => run_fieldAddr rfl rfl T.fld26_1),
      fv rfl rfl (fun x w hx hk => run_loadB rfl rfl T.one3 ((M.ext ((Ext.drew _).trans hx)).row (i := 1) rfl) rfl),
      fv rfl rfl (fun x w hx hk => num rfl (i64_id (by omega) (by omega))),
      fv rfl rfl (fun x w hx hk => run_assign rfl rfl), trivial⟩ ?_)
  intro x fr w hx hk E
  have M := M.ext hx
  refine then_normal ?_
  have M := M.pull 3 rfl
  have M : Mem _ _ ([nmE N] ++ _) _ _ := M
  refine wp_seq (free_regR (B := T.tab34_3_b) (Vs := (.exact _ :: .exact _ :: .exact (.pointer (some ⟨_, 1, none⟩)) :: .exact (.pointer (some ⟨N.gn, 0, none⟩)) :: .exact (.iface 30 (.pointer (some ⟨N.gn, 0, none⟩))) :: .exact _ :: .exact _ :: .exact _ :: .exact (.pointer (some ⟨_, 38, none⟩)) :: .exact (.int .i64 (n + 1)) :: .exact _ :: .exact _ :: .exact (.agg (([.int .i64 kd, .int .i64 7, .int .i64 (n + 1), .int .i64 (3 + sg * 32 + sl), pv] : List Value)).toArray) :: CameI w.heap.size ([nmE N]) (fun x : Value × NV => .tuple #[x.1, .int .i64 0]) (fun x => [Ent.bytes 5 x.1 (sectB N.ks kd 7 (n + 1) (3 + sg * 32 + sl) pl), nmE x.2]) (fun x => x.2.gn = N.gn ∧ x.2.ks = sealS N.ks 7 (n + 1) (hdB kd (3 + sg * 32 + sl)) pl ∧ x.2.ts = N.ts) :: CameI w.heap.size ([nmE N]) (fun x : Value × NV => .tuple #[x.1, .int .i64 0]) (fun x => [Ent.bytes 5 x.1 (sectB N.ks kd 7 (n + 1) (3 + sg * 32 + sl) pl), nmE x.2]) (fun x => x.2.gn = N.gn ∧ x.2.ks = sealS N.ks 7 (n + 1) (hdB kd (3 + sg * 32 + sl)) pl ∧ x.2.ts = N.ts) :: CameI w.heap.size ([nmE N]) (fun x : Value × NV => x.1) (fun x => [Ent.bytes 5 x.1 (sectB N.ks kd 7 (n + 1) (3 + sg * 32 + sl) pl), nmE x.2]) (fun x => x.2.gn = N.gn ∧ x.2.ks = sealS N.ks 7 (n + 1) (hdB kd (3 + sg * 32 + sl)) pl ∧ x.2.ts = N.ts) :: .exact (.int .i64 0) :: CameI w.heap.size ([nmE N]) (fun x : Value × NV => x.1) (fun x => [Ent.bytes 5 x.1 (sectB N.ks kd 7 (n + 1) (3 + sg * 32 + sl) pl), nmE x.2]) (fun x => x.2.gn = N.gn ∧ x.2.ks = sealS N.ks 7 (n + 1) (hdB kd (3 + sg * 32 + sl)) pl ∧ x.2.ts = N.ts) :: .exact _ :: [])) (ownRoad (oneFs 13 ([nmE N])) w.drew) T.tab34_3_i E T.mixed T.tab34_3 rfl ?_ ⟨fr_val rfl rfl M (fun i g h => h.2) (fun x w' M' hB hk => ⟨_, _, rfl, rfl, rfl, run_move rfl rfl, Ext.refl _, rfl⟩),
      fr_val rfl rfl M (fun i g h => h.2) (fun x w' M' hB hk => ⟨_, _, rfl, rfl, rfl, run_nilCheck rfl rfl, Ext.refl _, rfl⟩),
      fr_val rfl rfl M (fun i g h => h.2) (fun x w' M' hB hk => ⟨_, _, rfl, rfl, rfl, run_fieldAddr rfl rfl T.fld34_1, Ext.refl _, rfl⟩),
      fr_val rfl rfl M (fun i g h => h.2) (fun x w' M' hB hk => ⟨_, _, rfl, rfl, rfl, run_loadB rfl rfl T.one30 (M'.row (i := 1) rfl) rfl, Ext.refl _, rfl⟩),
      fr_val rfl rfl M (fun i g h => h.2) (fun x w' M' hB hk => ⟨_, _, rfl, rfl, rfl, rfl, Ext.refl _, rfl⟩),
      fr_val rfl rfl M (fun i g h => h.2) (fun x w' M' hB hk => ⟨_, _, rfl, rfl, rfl, run_move rfl rfl, Ext.refl _, rfl⟩),
      fr_val rfl rfl M (fun i g h => h.2) (fun x w' M' hB hk => ⟨_, _, rfl, rfl, rfl, run_move rfl rfl, Ext.refl _, rfl⟩),
      fr_val rfl rfl M (fun i g h => h.2) (fun x w' M' hB hk => ⟨_, _, rfl, rfl, rfl, run_nilCheck rfl rfl, Ext.refl _, rfl⟩),
      fr_val rfl rfl M (fun i g h => h.2) (fun x w' M' hB hk => ⟨_, _, rfl, rfl, rfl, run_fieldAddr rfl rfl T.fld34_6, Ext.refl _, rfl⟩),
      fr_val rfl rfl M (fun i g h => h.2) (fun x w' M' hB hk => ⟨_, _, rfl, rfl, rfl, run_loadB rfl rfl T.one3 (M'.row (i := 1) rfl) (lgc_n hp), Ext.refl _, rfl⟩),
      fr_val rfl rfl M (fun i g h => h.2) (fun x w' M' hB hk => ⟨_, _, rfl, rfl, rfl, run_move rfl rfl, Ext.refl _, rfl⟩),
      fr_val rfl rfl M (fun i g h => h.2) (fun x w' M' hB hk => ⟨_, _, rfl, rfl, rfl, run_move rfl rfl, Ext.refl _, rfl⟩),
      fr_val rfl rfl M (fun i g h => h.2) (fun x w' M' hB hk => ⟨_, _, rfl, rfl, rfl, run_buildP (vs := [.int .i64 kd, .int .i64 7, .int .i64 (n + 1), .int .i64 (3 + sg * 32 + sl), pv]) (us := ([.int .i64 kd, .int .i64 7, .int .i64 (n + 1), .int .i64 (3 + sg * 32 + sl), pv] : List Value)) rfl rfl T.ts98 T.zeroL98 (by obtain ⟨b', c', e'⟩ := Reads.slice (M'.fact : Bytes _ _ _); rw [e']; simp [Value.cells]) rfl rfl (by obtain ⟨b', c', e'⟩ := Reads.slice (M'.fact : Bytes _ _ _); rw [e']; simp [Value.cells]), Ext.refl _, rfl⟩),
      fr_call (J := [nmE N]) rfl rfl M (fun i g h => h.2) M.front (fun j hj g hjg => absurd hjg.1 hj) (fun x w' M' H' hB hk => ⟨_, _, rfl, rfl, rfl, run_call rfl rfl T.fn45, (sPut_ok (N := N) (kd := kd) (e := 7) (n := n + 1) (at' := (3 + sg * 32 + sl)) (M'.fact) H' (fun q hq c => hf q hq ⟨nmE N, by simp, c⟩) hkz (by omega) (by omega) ⟨⟨by decide, by omega, by omega⟩, ⟨by decide, by omega⟩, by omega⟩ (by omega)).own (Fs := oneFs 13 ([nmE N])) (i := 13) hB (fun g hg => ⟨rfl, hg⟩)⟩),
      fr_on (j := 13) rfl rfl rfl rfl (fun x w y hy => ⟨rfl, rfl, rfl, run_moveV rfl hy⟩),
      fr_on (j := 14) rfl rfl rfl rfl (fun x w y hy => ⟨rfl, rfl, rfl, run_extractV rfl hy rfl⟩),
      fr_of (j := 14) rfl rfl rfl rfl (fun x w y hy => ⟨rfl, rfl, rfl, run_extractV rfl hy rfl⟩),
      fr_on (j := 15) rfl rfl rfl rfl (fun x w y hy => ⟨rfl, rfl, rfl, run_assignV rfl hy⟩),
      fr_val rfl rfl M (fun i g h => h.2) (fun x w' M' hB hk => ⟨_, _, rfl, rfl, rfl, run_assign rfl rfl, Ext.refl _, rfl⟩), trivial⟩ ?_)
  · exact one_okW rfl ((allY_ex (allY_ex (allY_ex (allY_ex (allY_ex (allY_ex (allY_ex (allY_ex (allY_ex (allY_ex (allY_ex (allY_ex (allY_ex (allY_in rfl LastsR.came1 (allY_in rfl LastsR.came1 (allY_in rfl LastsR.came1 (allY_ex (allY_in rfl LastsR.came1 (allY_ex allY_nil))))))))))))))))))))
  intro x fr w ⟨b, hb, hI⟩ hk E
  obtain ⟨⟨b, N2⟩, hy, ⟨hN1, hN2, hN3⟩, M⟩ := M.behind (val := fun x : Value × NV => x.1) (outs := fun x => [Ent.bytes 5 x.1 (sectB N.ks kd 7 (n + 1) (3 + sg * 32 + sl) pl), nmE x.2]) (p := fun x => x.2.gn = N.gn ∧ x.2.ks = sealS N.ks 7 (n + 1) (hdB kd (3 + sg * 32 + sl)) pl ∧ x.2.ts = N.ts) hI (hk 17 (by decide))
  have E := Env.say (t := 8) E rfl hy
  refine then_normal ?_
  refine wp_seq ?_
  refine code_region ?_
  refine mv E fun fr E => ?_
  refine sw (v := .bool false) E (tst rfl (rfl)) fun fr E => ?_
  refine seq_nil' ?_
  refine cond_false E rfl (rfl) ?_
  refine wp_skip ?_
  refine then_normal ?_
  refine code_region ?_
  refine mv E fun fr E => ?_
  refine sw E (run_nilCheck rfl rfl) fun fr E => ?_
  refine sw (v := .pointer (some ⟨_, 0, none⟩)) E (run_fieldAddr rfl rfl T.fld34_0) fun fr E => ?_
  refine sw E (run_loadB rfl rfl T.one29 (M.row (i := 3) rfl) rfl) fun fr E => ?_
  refine mv E fun fr E => ?_
  refine mv E fun fr E => ?_
  have M := M.pull 4 rfl
  refine scallI ([dkE D]) E M rfl rfl rfl rfl rfl (run_call rfl rfl T.fn14) rfl (fun H => Tamper_a H hD (M.bytes 1 rfl) (M.off (i := 0) (j := 1) rfl rfl rfl)) ?_
  rintro D2 fr w hD2 M E
  refine seq_nil' ?_
  refine code_region ?_
  refine mv E fun fr E => ?_
  refine sw E (run_nilCheck rfl rfl) fun fr E => ?_
  refine sw (v := .pointer (some ⟨_, 2, none⟩)) E (run_fieldAddr rfl rfl T.fld34_2) fun fr E => ?_
  refine sw (v := .pointer (some ⟨_, 3, none⟩)) E (run_fieldAddr rfl rfl T.fld26_1) fun fr E => ?_
  refine sw (v := .int .i64 sl) E (run_loadB rfl rfl T.one3 (M.row (i := 4) rfl) rfl) fun fr E => ?_
  refine sw (v := .int _ (sl + 1)) E (num rfl (i64_id (by omega) (by omega))) fun fr E => ?_
  refine sw E (run_nilCheck rfl rfl) fun fr E => ?_
  refine sw (v := .pointer (some ⟨_, 2, none⟩)) E (run_fieldAddr rfl rfl T.fld34_2) fun fr E => ?_
  refine sw (v := .pointer (some ⟨_, 3, none⟩)) E (run_fieldAddr rfl rfl T.fld26_1) fun fr E => ?_
  refine sset (i := 4) (cs' := (lgc g N.gn sg (sl + 1) prev lf lsm (n + 1)).toArray) E M rfl rfl rfl rfl rfl (run_store1' (v := _) rfl rfl rfl T.size3 (M.row (i := 4) rfl) (by rw [lgc_size hp]; rfl) (rfl) (rfl)) rfl fun fr w M E => ?_
  refine seq_nil' ?_
  refine code_region ?_
  refine mv E fun fr E => ?_
  refine sw E (run_nilCheck rfl rfl) fun fr E => ?_
  refine sw (v := .pointer (some ⟨_, 1, none⟩)) E (run_fieldAddr rfl rfl T.fld34_1) fun fr E => ?_
  refine sw E (run_loadB rfl rfl T.one30 (M.row (i := 4) rfl) rfl) fun fr E => ?_
  refine mv E fun fr E => ?_
  have M := M.pull 2 rfl
  refine scallI ([nmE N2]) E M rfl rfl rfl rfl rfl (run_call rfl rfl T.fn46) rfl (fun H => by rw [← hN1]; exact Sum_p (N := N2) H (M.bytes 2 rfl) (M.off (i := 0) (j := 2) rfl rfl rfl) (by rw [hN3]; exact htz)) ?_
  rintro N4 fr w ⟨hN4, hN5, hN6⟩ M E
  refine sset (i := 3) (cs' := (bc (sumOf (textNo N2.ts (sectB N.ks kd 7 (n + 1) (3 + sg * 32 + sl) pl)))).toArray) E M rfl rfl rfl rfl rfl (run_storeAll (vs := (bc (sumOf (textNo N2.ts (sectB N.ks kd 7 (n + 1) (3 + sg * 32 + sl) pl)))).toArray) rfl rfl rfl T.size28 (rfl) (M.row (i := 3) rfl) rfl (fun v hv => bc_one v hv)) rfl fun fr w M E => ?_
  refine seq_nil' ?_
  refine wp_ret ?_
  refine retC E rfl rfl T.agg28 (M.row (i := 3) rfl) (rfl) ?_
  have M := M.pull 1 rfl
  have M := M.pull 4 rfl
  rw [← hN3]
  exact ⟨(D2, N4), rfl, Mem.fin (L := [.blk gl (.cells (lgc g N.gn sg (sl + 1) prev lf lsm (n + 1)).toArray 34), dkE D2, nmE N4] ++ _) M (List.sublist_append_left _ _) ⟨hD2, hN4.trans hN1, hN5.trans hN2, hN6⟩⟩
end Go.Proofs.Ytnebjbgcibjohaa.K
end
section
namespace Go.Proofs.Ytnebjbgcibjohaa.K
open Go.RowKit Go.Rill Go.Proofs
set_option linter.unusedVariables false
set_option linter.unusedSimpArgs false
def toldF : List (List UInt8) → List Ety → Int → List (List UInt8) → Bool × List (List UInt8)
  | ts, [], _, bs => (decide (bs = []), ts)
  | ts, e :: r, fr, bs => if e.k = 2 then toldF ts r fr bs else match bs with
    | [] => (false, ts)
    | b :: k => if ¬ e.s = fr then (false, ts) else if ¬ e.sum = sumOf (textNo ts b) then (false, textKs ts b) else toldF (textKs ts b) r (fr + 1) k
theorem sumOf_len (j : Nat) : (sumOf j).length = 32 := by simp [sumOf, be8_len]
theorem textKs_len1 (ts : List (List UInt8)) (l : List UInt8) : (textKs ts l).length ≤ ts.length + 1 := by
  unfold textKs
  split <;> simp
section
variable {ts : List (List UInt8)} {e : Ety} {r : List Ety} {fr : Int} {bs k : List (List UInt8)} {b : List UInt8}
theorem told_trim (h : e.k = 2) : toldF ts (e :: r) fr bs = toldF ts r fr bs := by
  cases bs <;> simp only [toldF, if_pos h]
theorem told_none (h : ¬ e.k = 2) : toldF ts (e :: r) fr [] = (false, ts) := by simp only [toldF, if_neg h]
theorem told_slot (h : ¬ e.k = 2) (h2 : ¬ e.s = fr) : toldF ts (e :: r) fr (b :: k) = (false, ts) := by
  simp only [toldF, if_neg h, if_pos h2]
theorem told_sum (h : ¬ e.k = 2) (h2 : e.s = fr) (h3 : ¬ e.sum = sumOf (textNo ts b)) : toldF ts (e :: r) fr (b :: k) = (false, textKs ts b) := by
  simp only [toldF, if_neg h, if_neg (fun c : ¬ e.s = fr => c h2), if_pos h3]
theorem told_go (h : ¬ e.k = 2) (h2 : e.s = fr) (h3 : e.sum = sumOf (textNo ts b)) : toldF ts (e :: r) fr (b :: k) = toldF (textKs ts b) r (fr + 1) k := by
  simp only [toldF, if_neg h, if_neg (fun c : ¬ e.s = fr => c h2), if_neg (fun c : ¬ e.sum = sumOf (textNo ts b) => c h3)]
end
theorem told_cut {ps : List (Value × List UInt8)} {j : Nat} {w : World} {cv : Value} (h : Reads 1 w cv (ps.length - j) ((ps.drop j).map (·.1))) (hj : j < ps.length) : Reads 1 w (cutV 1 cv 1 (ps.length - j)) (ps.length - (j + 1)) ((ps.drop (j + 1)).map (·.1)) := by
  have := h.cut (lo := 1) (hi := ps.length - j) (by omega) (Nat.le_refl _)
  have e : ((((ps.drop j).map (·.1)).drop (1 * 1)).take ((ps.length - j - 1) * 1)) = (ps.drop (j + 1)).map (·.1) := by
    rw [← List.map_drop, List.drop_drop]
    exact List.take_of_length_le (by simp; omega)
  rw [e] at this
  exact this
theorem told_end {ps : List (Value × List UInt8)} {j : Nat} (hj : j ≤ ps.length) : (decide (((ps.length - j : Nat) : Int) = 0)) = decide ((ps.drop j).map (·.2) = []) := by
  by_cases h : j = ps.length
  · subst h; simp
  · have h1 : ¬ ((ps.length - j : Nat) : Int) = 0 := by omega
    have h2 : ¬ (ps.drop j).map (·.2) = [] := fun c => by
      have := congrArg List.length c
      simp at this
      omega
    rw [decide_eq_false h1, decide_eq_false h2]
set_option maxHeartbeats 1000000 in
set_option maxRecDepth 100000 in
theorem told_x {N : NV} {a : Nat} {ev rv : Value} {l : List Ety} {from' : Int} {ps : List (Value × List UInt8)} {w0 : World} (H : Has w0 [nmE N]) (ha : N.gn = a) (hol : EOk l) (hz : l.length ≤ 1000) (hzp : ps.length ≤ 1000) (hfr : 0 ≤ from' ∧ from' ≤ 1000) (hr : Reads 35 w0 ev l.length (ecs l)) (hv : Reads 1 w0 rv ps.length (ps.map (·.1))) (hq : ∀ q ∈ ps, Bytes w0 q.1 q.2) (f1 : ∀ q, ev.ownBlock = some q → ¬ feet [nmE N] q) (f2 : ∀ q, rv.ownBlock = some q → ¬ feet [nmE N] q) (f3 : ∀ p ∈ ps, ∀ q, p.1.ownBlock = some q → ¬ feet [nmE N] q ∧ q < w0.heap.size) (htz : N.ts.length + l.length ≤ 1099511627776) : Does Try.prog 40 [.iface 30 (.pointer (some ⟨a, 0, none⟩)), ev, .int .i64 from', rv] w0 [nmE N] (fun _ : NV => .bool (toldF N.ts l from' (ps.map (·.2))).1) (fun x => [nmE x]) (fun x => x.gn = a ∧ x.ks = N.ks ∧ x.ts = (toldF N.ts l from' (ps.map (·.2))).2) := by
  refine enter (n := 50) Try.func40 rfl rfl rfl ?_
  intro fr E
  have M : Mem w0 (feet [nmE N]) [nmE N] (fun w' => Reads 35 w' ev l.length (ecs l) ∧ Reads 1 w' rv ps.length (ps.map (·.1)) ∧ ∀ q ∈ ps, Bytes w' q.1 q.2) w0 := Mem.begin H (fun w' h => ⟨Reads.held hr h f1, Reads.held hv h f2, fun q hq' => Reads.held (hq q hq') h fun g hg => (f3 q hq' g hg).1⟩)
  refine code_region ?_
  refine sw E (run_assignC rfl) fun fr E => ?_
  refine seq_nil' ?_
  refine wp_seq ?_
  refine code_region ?_
  refine mv E fun fr E => ?_
  refine sw (v := .int .i64 _) E (run_lenR rfl rfl rfl rfl T.slice37 (M.fact.1)) fun fr E => ?_
  refine sw E (run_moveC rfl) fun fr E => ?_
  refine seq_nil' ?_
  refine wp_block ?_
  refine loop_dec (fun d fr w => ∃ (i j : Nat) (fr1 : Int) (cv : Value) (Nc : NV), d = l.length - i ∧ i ≤ l.length ∧ j ≤ ps.length ∧ j ≤ i ∧ Nc.gn = a ∧ Nc.ks = N.ks ∧ Nc.ts.length ≤ N.ts.length + i ∧ (0 ≤ fr1 ∧ fr1 ≤ 1000 + j) ∧ (toldF N.ts l from' (ps.map (·.2))) = toldF Nc.ts (l.drop i) fr1 ((ps.drop j).map (·.2)) ∧ (∀ w', Reads 1 w' rv ps.length (ps.map (·.1)) → Reads 1 w' cv (ps.length - j) ((ps.drop j).map (·.1))) ∧ Env [(13, .int .i64 (i : Int)), (12, .int .i64 (l.length : Int)), (11, ev), (3, cv), (2, .int .i64 fr1), (0, .iface 30 (.pointer (some ⟨a, 0, none⟩)))] 50 fr ∧ Mem w0 (feet [nmE N]) [nmE Nc] (fun w' => Reads 35 w' ev l.length (ecs l) ∧ Reads 1 w' rv ps.length (ps.map (·.1)) ∧ ∀ q ∈ ps, Bytes w' q.1 q.2) w) (l.length) ?_ ?_
  · exact ⟨0, 0, from', rv, N, rfl, Nat.zero_le _, Nat.zero_le _, Nat.le_refl _, ha, rfl, Nat.le_refl _, by omega, rfl, fun w' h => h, ((((((Env.nil E).add E (t := 0) rfl).add E (t := 2) rfl).add E (t := 3) rfl).add E (t := 11) rfl).add E (t := 12) rfl).add E (t := 13) rfl, M⟩
  · clear E M
    rintro d fr w ⟨i, j, fr1, cv, Nc, rfl, hle, hj, hji, hga, hks, htl, hfe, htf, hcv, E, M⟩
    subst hga
    by_cases hi : i < l.length
    · have he := hol.get hi
      have hdr := List.drop_eq_getElem_cons hi
      by_cases h2 : (l[i]).k = 2
      · refine code_region ?_
        refine sw (v := .bool true) E (tst rfl (decide_eq_true (by omega))) fun fr E => ?_
        refine seq_nil' ?_
        refine wp_seq ?_
        refine cond_true E rfl (rfl) ?_
        refine wp_skip ?_
        refine then_normal ?_
        refine wp_seq ?_
        refine wp_block ?_
        refine code_region ?_
        refine sw (v := cellAt ev (i * 35)) E (run_indexR (i := i) rfl (M.fact.1) rfl rfl (rfl) (hi) T.slice37 T.size83) fun fr E => ?_
        refine sw (v := .agg (l[i]).cells.toArray) E (run_loadRN (k := i * 35) rfl (M.fact.1) rfl T.agg83 (by omega) (by decide) (ecs_get hol hi)) fun fr E => ?_
        refine snew (ob := .cells _ 83) (fun g => .pointer (some ⟨g, 0, none⟩)) E M rfl rfl rfl rfl rfl (run_allocN rfl T.zero83) fun g0 fr w M E => ?_
        refine sset (i := 0) (cs' := (l[i]).cells.toArray) E M rfl rfl rfl rfl rfl (run_storeAll (vs := (l[i]).cells.toArray) rfl rfl rfl T.size83 (Ety.size he) (M.row (i := 0) rfl) rfl (fun u hu => Ety.ones _ u (by simpa using hu))) rfl fun fr w M E => ?_
        refine seq_nil' ?_
        refine wp_seq ?_
        refine code_region ?_
        refine sw (v := .pointer (some ⟨_, 0, none⟩)) E (run_fieldAddr rfl rfl T.fld83_0) fun fr E => ?_
        refine sw (v := .int .i64 (l[i]).k) E (run_loadB rfl rfl T.one3 (M.row (i := 0) rfl) Ety.c_k) fun fr E => ?_
        refine sw (v := .bool true) E (tst rfl (decide_eq_true h2)) fun fr E => ?_
        refine seq_nil' ?_
        refine cond_true E rfl (rfl) ?_
        refine wp_exit ?_
        refine then_exit ?_
        refine block_exit ?_
        refine then_normal ?_
        refine code_last ?_
        refine sw (v := .int _ (((i + 1 : Nat) : Int))) E (num rfl ((i64_id (by omega) (by omega)).trans (by omega))) fun fr E => ?_
        refine mv E fun fr E => ?_
        refine seq_nil ?_
        refine then_any ?_
        have M := M.pull 1 rfl
        exact ⟨l.length - (i + 1), by omega, i + 1, j, fr1, cv, Nc, rfl, by omega, hj, by omega, rfl, hks, by omega, by omega, by rw [htf, hdr, told_trim h2], hcv, ((((((Env.nil E).add E (t := 0) rfl).add E (t := 2) rfl).add E (t := 3) rfl).add E (t := 11) rfl).add E (t := 12) rfl).add E (t := 13) rfl, Mem.take (L := [nmE Nc]) M⟩
      · by_cases hjl : j < ps.length
        · have hdp : (ps.drop j).map (·.2) = (ps[j]).2 :: (ps.drop (j + 1)).map (·.2) := by rw [List.drop_eq_getElem_cons hjl]; rfl
          have hlc : (ps.length - j) = ((ps.drop j).map (·.1)).length := by simp
          by_cases h3 : (l[i]).s = fr1
          · by_cases h4 : (l[i]).sum = sumOf (textNo Nc.ts (ps[j]).2)
            · refine code_region ?_
              refine sw (v := .bool true) E (tst rfl (decide_eq_true (by omega))) fun fr E => ?_
              refine seq_nil' ?_
              refine wp_seq ?_
              refine cond_true E rfl (rfl) ?_
              refine wp_skip ?_
              refine then_normal ?_
              refine wp_seq ?_
              refine wp_block ?_
              refine code_region ?_
              refine sw (v := cellAt ev (i * 35)) E (run_indexR (i := i) rfl (M.fact.1) rfl rfl (rfl) (hi) T.slice37 T.size83) fun fr E => ?_
              refine sw (v := .agg (l[i]).cells.toArray) E (run_loadRN (k := i * 35) rfl (M.fact.1) rfl T.agg83 (by omega) (by decide) (ecs_get hol hi)) fun fr E => ?_
              refine snew (ob := .cells _ 83) (fun g => .pointer (some ⟨g, 0, none⟩)) E M rfl rfl rfl rfl rfl (run_allocN rfl T.zero83) fun g0 fr w M E => ?_
              refine sset (i := 0) (cs' := (l[i]).cells.toArray) E M rfl rfl rfl rfl rfl (run_storeAll (vs := (l[i]).cells.toArray) rfl rfl rfl T.size83 (Ety.size he) (M.row (i := 0) rfl) rfl (fun u hu => Ety.ones _ u (by simpa using hu))) rfl fun fr w M E => ?_
              refine seq_nil' ?_
              refine wp_seq ?_
              refine code_region ?_
              refine sw (v := .pointer (some ⟨_, 0, none⟩)) E (run_fieldAddr rfl rfl T.fld83_0) fun fr E => ?_
              refine sw (v := .int .i64 (l[i]).k) E (run_loadB rfl rfl T.one3 (M.row (i := 0) rfl) Ety.c_k) fun fr E => ?_
              refine sw (v := .bool false) E (tst rfl (decide_eq_false h2)) fun fr E => ?_
              refine seq_nil' ?_
              refine cond_false E rfl (rfl) ?_
              refine wp_skip ?_
              refine then_normal ?_
              refine wp_seq ?_
              have M := M.pull 1 rfl
              have M : Mem _ _ ([nmE Nc] ++ _) _ _ := M
              refine wp_seq (free_regR (B := T.tab40_5_b) (Vs := (.exact _ :: .exact (.int .i64 _) :: .exact (.bool false) :: .exact _ :: .exact (.pointer (some ⟨_, 2, none⟩)) :: .exact (.int .i64 (l[i]).s) :: .exact _ :: .exact (.bool false) :: .exact (.bool _) :: .exact _ :: .exact (.pointer (some ⟨_, 3, none⟩)) :: .exact (.agg (bc (l[i]).sum).toArray) :: .exact _ :: .exact _ :: .exact (cellAt cv (0 * 1)) :: .exact ((ps[j]).1) :: .exact (.func (.method "Sum") #[.iface 30 (.pointer (some ⟨Nc.gn, 0, none⟩))] #[]) :: .exact (.func (.method "Sum") #[.iface 30 (.pointer (some ⟨Nc.gn, 0, none⟩))] #[]) :: .exact _ :: CameI w.heap.size ([nmE Nc]) (fun _ : NV => .agg (bc (sumOf (textNo Nc.ts (ps[j]).2))).toArray) (fun x => [nmE x]) (fun x => x.gn = Nc.gn ∧ x.ks = Nc.ks ∧ x.ts = textKs Nc.ts (ps[j]).2) :: .exact (.bool false) :: .exact (.bool _) :: [])) (ownRoad (oneFs 19 ([nmE Nc])) w.drew) T.tab40_5_i E T.mixed T.tab40_5 rfl ?_ ⟨fr_val rfl rfl M (fun i g h => h.2) (fun x w' M' hB hk => ⟨_, _, rfl, rfl, rfl, run_move rfl rfl, Ext.refl _, rfl⟩),
      fr_val rfl rfl M (fun i g h => h.2) (fun x w' M' hB hk => ⟨_, _, rfl, rfl, rfl, run_lenR rfl rfl rfl rfl T.slice52 (hcv _ M'.fact.2.1), Ext.refl _, rfl⟩),
      fr_val rfl rfl M (fun i g h => h.2) (fun x w' M' hB hk => ⟨_, _, rfl, rfl, rfl, tst rfl (decide_eq_false (by omega)), Ext.refl _, rfl⟩),
      fr_val rfl rfl M (fun i g h => h.2) (fun x w' M' hB hk => ⟨_, _, rfl, rfl, rfl, run_move rfl rfl, Ext.refl _, rfl⟩),
      fr_val rfl rfl M (fun i g h => h.2) (fun x w' M' hB hk => ⟨_, _, rfl, rfl, rfl, run_fieldAddr rfl rfl T.fld83_2, Ext.refl _, rfl⟩),
      fr_val rfl rfl M (fun i g h => h.2) (fun x w' M' hB hk => ⟨_, _, rfl, rfl, rfl, run_loadB rfl rfl T.one3 (M'.row (i := 0) rfl) Ety.c_s, Ext.refl _, rfl⟩),
      fr_val rfl rfl M (fun i g h => h.2) (fun x w' M' hB hk => ⟨_, _, rfl, rfl, rfl, run_move rfl rfl, Ext.refl _, rfl⟩),
      fr_val rfl rfl M (fun i g h => h.2) (fun x w' M' hB hk => ⟨_, _, rfl, rfl, rfl, tst rfl (bneFB h3), Ext.refl _, rfl⟩),
      fr_val rfl rfl M (fun i g h => h.2) (fun x w' M' hB hk => ⟨_, _, rfl, rfl, rfl, rfl, Ext.refl _, rfl⟩),
      fr_val rfl rfl M (fun i g h => h.2) (fun x w' M' hB hk => ⟨_, _, rfl, rfl, rfl, run_move rfl rfl, Ext.refl _, rfl⟩),
      fr_val rfl rfl M (fun i g h => h.2) (fun x w' M' hB hk => ⟨_, _, rfl, rfl, rfl, run_fieldAddr rfl rfl T.fld83_3, Ext.refl _, rfl⟩),
      fr_val rfl rfl M (fun i g h => h.2) (fun x w' M' hB hk => ⟨_, _, rfl, rfl, rfl, run_loadN' (vs := (bc (l[i]).sum).toArray) rfl rfl T.agg28 (M'.row (i := 0) rfl) (by rw [Ety.size he]; rfl) (congrArg List.toArray (Ety.m_sum he)), Ext.refl _, rfl⟩),
      fr_val rfl rfl M (fun i g h => h.2) (fun x w' M' hB hk => ⟨_, _, rfl, rfl, rfl, run_move rfl rfl, Ext.refl _, rfl⟩),
      fr_val rfl rfl M (fun i g h => h.2) (fun x w' M' hB hk => ⟨_, _, rfl, rfl, rfl, run_move rfl rfl, Ext.refl _, rfl⟩),
      fr_val rfl rfl M (fun i g h => h.2) (fun x w' M' hB hk => ⟨_, _, rfl, rfl, rfl, run_indexR (i := 0) rfl (hcv _ M'.fact.2.1) rfl rfl (rfl) (by omega) T.slice52 T.size54, Ext.refl _, rfl⟩),
      fr_val rfl rfl M (fun i g h => h.2) (fun x w' M' hB hk => ⟨_, _, rfl, rfl, rfl, run_loadR rfl (hcv _ M'.fact.2.1) rfl T.one54 (by rw [List.drop_eq_getElem_cons hjl]; rfl), Ext.refl _, rfl⟩),
      fr_val rfl rfl M (fun i g h => h.2) (fun x w' M' hB hk => ⟨_, _, rfl, rfl, rfl, run_makeMeth rfl rfl, Ext.refl _, rfl⟩),
      fr_val rfl rfl M (fun i g h => h.2) (fun x w' M' hB hk => ⟨_, _, rfl, rfl, rfl, run_nilCheckM rfl rfl T.meth30_Sum, Ext.refl _, rfl⟩),
      fr_val rfl rfl M (fun i g h => h.2) (fun x w' M' hB hk => ⟨_, _, rfl, rfl, rfl, run_move rfl rfl, Ext.refl _, rfl⟩),
      fr_call (J := [nmE Nc]) rfl rfl M (fun i g h => h.2) M.front (fun j hj g hjg => absurd hjg.1 hj) (fun x w' M' H' hB hk => ⟨_, _, rfl, rfl, rfl, run_invoke rfl rfl T.meth30_Sum T.fn46, (Sum_p (N := Nc) H' (M'.fact.2.2 _ (List.getElem_mem hjl)) (fun q hq c => (M.own (nmE Nc) (by simp) q c).elim (fun h => Nat.not_le_of_lt (f3 _ (List.getElem_mem hjl) q hq).2 h) (f3 _ (List.getElem_mem hjl) q hq).1) (by omega)).own (Fs := oneFs 19 ([nmE Nc])) (i := 19) hB (fun g hg => ⟨rfl, hg⟩)⟩),
      fr_of (j := 19) rfl rfl rfl rfl (fun x w' y hy => ⟨rfl, rfl, rfl, run_neF (b := true) (xs := bc (l[i]).sum) (ys := (bc (sumOf (textNo Nc.ts (ps[j]).2)))) rfl rfl hy T.flat28 (fit_sum he) (fit_sum (sumOf_len _)) (by rw [h4]; simp)⟩),
      fr_val rfl rfl M (fun i g h => h.2) (fun x w' M' hB hk => ⟨_, _, rfl, rfl, rfl, rfl, Ext.refl _, rfl⟩), trivial⟩ ?_)
              · exact one_okW rfl ((allY_ex (allY_ex (allY_ex (allY_ex (allY_ex (allY_ex (allY_ex (allY_ex (allY_ex (allY_ex (allY_ex (allY_ex (allY_ex (allY_ex (allY_ex (allY_ex (allY_ex (allY_ex (allY_ex (allY_in rfl LastsR.came1 (allY_ex (allY_ex allY_nil)))))))))))))))))))))))
              intro x fr w ⟨b, hb, hI⟩ hk E
              obtain ⟨N2, hy, ⟨hg2, hk2, ht2⟩, M⟩ := M.behind (val := fun _ : NV => .agg (bc (sumOf (textNo Nc.ts (ps[j]).2))).toArray) (outs := fun x => [nmE x]) (p := fun x => x.gn = Nc.gn ∧ x.ks = Nc.ks ∧ x.ts = textKs Nc.ts (ps[j]).2) hI (hk 19 (by decide))
              refine then_normal ?_
              refine cond_false E rfl (rfl) ?_
              refine wp_skip ?_
              refine then_normal ?_
              refine (free_reg (B := T.tab40_7_b) (Vs := (.exact _ :: .exact (.int _ (fr1 + 1)) :: .exact _ :: .exact (cutV 1 cv 1 (ps.length - j)) :: .exact _ :: .exact _ :: [])) T.tab40_7_i E T.mixed T.tab40_7 rfl (AllS.lasts ⟨trivial, trivial, trivial, trivial, trivial, trivial, trivial⟩) ⟨fv rfl rfl (fun x w hx hk => run_move rfl rfl),
      fv rfl rfl (fun x w hx hk => num rfl (i64_id (by omega) (by omega))),
      fv rfl rfl (fun x w hx hk => run_move rfl rfl),
      fv rfl rfl (fun x w hx hk => run_sliceR (lo := 1) (hi := (ps.length - j)) rfl (hcv _ (M.ext ((Ext.drew _).trans hx)).fact.2.1) rfl T.slice52 T.size54 (⟨_, _, rfl, rfl⟩) (rfl) (by omega) (Nat.le_refl _)),
      fv rfl rfl (fun x w hx hk => run_assign rfl rfl),
      fv rfl rfl (fun x w hx hk => run_assign rfl rfl), trivial⟩ ?_)
              intro x fr w hx hk E
              have M := M.ext hx
              refine block_normal ?_
              refine then_normal ?_
              refine code_last ?_
              refine sw (v := .int _ (((i + 1 : Nat) : Int))) E (num rfl ((i64_id (by omega) (by omega)).trans (by omega))) fun fr E => ?_
              refine mv E fun fr E => ?_
              refine seq_nil ?_
              refine then_any ?_
              have ht3 := textKs_len1 Nc.ts (ps[j]).2
              exact ⟨l.length - (i + 1), by omega, i + 1, j + 1, fr1 + 1, _, N2, rfl, by omega, by omega, by omega, hg2, hk2.trans hks, by rw [ht2]; omega, by omega, by rw [htf, hdr, hdp, told_go h2 h3 h4, ht2], fun w' h => told_cut (hcv w' h) hjl, ((((((Env.nil E).add E (t := 0) rfl).add E (t := 2) rfl).add E (t := 3) rfl).add E (t := 11) rfl).add E (t := 12) rfl).add E (t := 13) rfl, Mem.take (L := [nmE N2]) M⟩
            · refine code_region ?_
              refine sw (v := .bool true) E (tst rfl (decide_eq_true (by omega))) fun fr E => ?_
              refine seq_nil' ?_
              refine wp_seq ?_
              refine cond_true E rfl (rfl) ?_
              refine wp_skip ?_
              refine then_normal ?_
              refine wp_seq ?_
              refine wp_block ?_
              refine code_region ?_
              refine sw (v := cellAt ev (i * 35)) E (run_indexR (i := i) rfl (M.fact.1) rfl rfl (rfl) (hi) T.slice37 T.size83) fun fr E => ?_
              refine sw (v := .agg (l[i]).cells.toArray) E (run_loadRN (k := i * 35) rfl (M.fact.1) rfl T.agg83 (by omega) (by decide) (ecs_get hol hi)) fun fr E => ?_
              refine snew (ob := .cells _ 83) (fun g => .pointer (some ⟨g, 0, none⟩)) E M rfl rfl rfl rfl rfl (run_allocN rfl T.zero83) fun g0 fr w M E => ?_
              refine sset (i := 0) (cs' := (l[i]).cells.toArray) E M rfl rfl rfl rfl rfl (run_storeAll (vs := (l[i]).cells.toArray) rfl rfl rfl T.size83 (Ety.size he) (M.row (i := 0) rfl) rfl (fun u hu => Ety.ones _ u (by simpa using hu))) rfl fun fr w M E => ?_
              refine seq_nil' ?_
              refine wp_seq ?_
              refine code_region ?_
              refine sw (v := .pointer (some ⟨_, 0, none⟩)) E (run_fieldAddr rfl rfl T.fld83_0) fun fr E => ?_
              refine sw (v := .int .i64 (l[i]).k) E (run_loadB rfl rfl T.one3 (M.row (i := 0) rfl) Ety.c_k) fun fr E => ?_
              refine sw (v := .bool false) E (tst rfl (decide_eq_false h2)) fun fr E => ?_
              refine seq_nil' ?_
              refine cond_false E rfl (rfl) ?_
              refine wp_skip ?_
              refine then_normal ?_
              refine wp_seq ?_
              have M := M.pull 1 rfl
              have M : Mem _ _ ([nmE Nc] ++ _) _ _ := M
              refine wp_seq (free_regR (B := T.tab40_5_b) (Vs := (.exact _ :: .exact (.int .i64 _) :: .exact (.bool false) :: .exact _ :: .exact (.pointer (some ⟨_, 2, none⟩)) :: .exact (.int .i64 (l[i]).s) :: .exact _ :: .exact (.bool false) :: .exact (.bool _) :: .exact _ :: .exact (.pointer (some ⟨_, 3, none⟩)) :: .exact (.agg (bc (l[i]).sum).toArray) :: .exact _ :: .exact _ :: .exact (cellAt cv (0 * 1)) :: .exact ((ps[j]).1) :: .exact (.func (.method "Sum") #[.iface 30 (.pointer (some ⟨Nc.gn, 0, none⟩))] #[]) :: .exact (.func (.method "Sum") #[.iface 30 (.pointer (some ⟨Nc.gn, 0, none⟩))] #[]) :: .exact _ :: CameI w.heap.size ([nmE Nc]) (fun _ : NV => .agg (bc (sumOf (textNo Nc.ts (ps[j]).2))).toArray) (fun x => [nmE x]) (fun x => x.gn = Nc.gn ∧ x.ks = Nc.ks ∧ x.ts = textKs Nc.ts (ps[j]).2) :: .exact (.bool true) :: .exact (.bool _) :: [])) (ownRoad (oneFs 19 ([nmE Nc])) w.drew) T.tab40_5_i E T.mixed T.tab40_5 rfl ?_ ⟨fr_val rfl rfl M (fun i g h => h.2) (fun x w' M' hB hk => ⟨_, _, rfl, rfl, rfl, run_move rfl rfl, Ext.refl _, rfl⟩),
      fr_val rfl rfl M (fun i g h => h.2) (fun x w' M' hB hk => ⟨_, _, rfl, rfl, rfl, run_lenR rfl rfl rfl rfl T.slice52 (hcv _ M'.fact.2.1), Ext.refl _, rfl⟩),
      fr_val rfl rfl M (fun i g h => h.2) (fun x w' M' hB hk => ⟨_, _, rfl, rfl, rfl, tst rfl (decide_eq_false (by omega)), Ext.refl _, rfl⟩),
      fr_val rfl rfl M (fun i g h => h.2) (fun x w' M' hB hk => ⟨_, _, rfl, rfl, rfl, run_move rfl rfl, Ext.refl _, rfl⟩),
      fr_val rfl rfl M (fun i g h => h.2) (fun x w' M' hB hk => ⟨_, _, rfl, rfl, rfl, run_fieldAddr rfl rfl T.fld83_2, Ext.refl _, rfl⟩),
      fr_val rfl rfl M (fun i g h => h.2) (fun x w' M' hB hk => ⟨_, _, rfl, rfl, rfl, run_loadB rfl rfl T.one3 (M'.row (i := 0) rfl) Ety.c_s, Ext.refl _, rfl⟩),
      fr_val rfl rfl M (fun i g h => h.2) (fun x w' M' hB hk => ⟨_, _, rfl, rfl, rfl, run_move rfl rfl, Ext.refl _, rfl⟩),
      fr_val rfl rfl M (fun i g h => h.2) (fun x w' M' hB hk => ⟨_, _, rfl, rfl, rfl, tst rfl (bneFB h3), Ext.refl _, rfl⟩),
      fr_val rfl rfl M (fun i g h => h.2) (fun x w' M' hB hk => ⟨_, _, rfl, rfl, rfl, rfl, Ext.refl _, rfl⟩),
      fr_val rfl rfl M (fun i g h => h.2) (fun x w' M' hB hk => ⟨_, _, rfl, rfl, rfl, run_move rfl rfl, Ext.refl _, rfl⟩),
      fr_val rfl rfl M (fun i g h => h.2) (fun x w' M' hB hk => ⟨_, _, rfl, rfl, rfl, run_fieldAddr rfl rfl T.fld83_3, Ext.refl _, rfl⟩),
      fr_val rfl rfl M (fun i g h => h.2) (fun x w' M' hB hk => ⟨_, _, rfl, rfl, rfl, run_loadN' (vs := (bc (l[i]).sum).toArray) rfl rfl T.agg28 (M'.row (i := 0) rfl) (by rw [Ety.size he]; rfl) (congrArg List.toArray (Ety.m_sum he)), Ext.refl _, rfl⟩),
      fr_val rfl rfl M (fun i g h => h.2) (fun x w' M' hB hk => ⟨_, _, rfl, rfl, rfl, run_move rfl rfl, Ext.refl _, rfl⟩),
      fr_val rfl rfl M (fun i g h => h.2) (fun x w' M' hB hk => ⟨_, _, rfl, rfl, rfl, run_move rfl rfl, Ext.refl _, rfl⟩),
      fr_val rfl rfl M (fun i g h => h.2) (fun x w' M' hB hk => ⟨_, _, rfl, rfl, rfl, run_indexR (i := 0) rfl (hcv _ M'.fact.2.1) rfl rfl (rfl) (by omega) T.slice52 T.size54, Ext.refl _, rfl⟩),
      fr_val rfl rfl M (fun i g h => h.2) (fun x w' M' hB hk => ⟨_, _, rfl, rfl, rfl, run_loadR rfl (hcv _ M'.fact.2.1) rfl T.one54 (by rw [List.drop_eq_getElem_cons hjl]; rfl), Ext.refl _, rfl⟩),
      fr_val rfl rfl M (fun i g h => h.2) (fun x w' M' hB hk => ⟨_, _, rfl, rfl, rfl, run_makeMeth rfl rfl, Ext.refl _, rfl⟩),
      fr_val rfl rfl M (fun i g h => h.2) (fun x w' M' hB hk => ⟨_, _, rfl, rfl, rfl, run_nilCheckM rfl rfl T.meth30_Sum, Ext.refl _, rfl⟩),
      fr_val rfl rfl M (fun i g h => h.2) (fun x w' M' hB hk => ⟨_, _, rfl, rfl, rfl, run_move rfl rfl, Ext.refl _, rfl⟩),
      fr_call (J := [nmE Nc]) rfl rfl M (fun i g h => h.2) M.front (fun j hj g hjg => absurd hjg.1 hj) (fun x w' M' H' hB hk => ⟨_, _, rfl, rfl, rfl, run_invoke rfl rfl T.meth30_Sum T.fn46, (Sum_p (N := Nc) H' (M'.fact.2.2 _ (List.getElem_mem hjl)) (fun q hq c => (M.own (nmE Nc) (by simp) q c).elim (fun h => Nat.not_le_of_lt (f3 _ (List.getElem_mem hjl) q hq).2 h) (f3 _ (List.getElem_mem hjl) q hq).1) (by omega)).own (Fs := oneFs 19 ([nmE Nc])) (i := 19) hB (fun g hg => ⟨rfl, hg⟩)⟩),
      fr_of (j := 19) rfl rfl rfl rfl (fun x w' y hy => ⟨rfl, rfl, rfl, run_neF (b := false) (xs := bc (l[i]).sum) (ys := (bc (sumOf (textNo Nc.ts (ps[j]).2)))) rfl rfl hy T.flat28 (fit_sum he) (fit_sum (sumOf_len _)) (by simp only [Bool.false_eq_true, false_iff]; exact fun c => h4 (bc_inj c))⟩),
      fr_val rfl rfl M (fun i g h => h.2) (fun x w' M' hB hk => ⟨_, _, rfl, rfl, rfl, rfl, Ext.refl _, rfl⟩), trivial⟩ ?_)
              · exact one_okW rfl ((allY_ex (allY_ex (allY_ex (allY_ex (allY_ex (allY_ex (allY_ex (allY_ex (allY_ex (allY_ex (allY_ex (allY_ex (allY_ex (allY_ex (allY_ex (allY_ex (allY_ex (allY_ex (allY_ex (allY_in rfl LastsR.came1 (allY_ex (allY_ex allY_nil)))))))))))))))))))))))
              intro x fr w ⟨b, hb, hI⟩ hk E
              obtain ⟨N2, hy, ⟨hg2, hk2, ht2⟩, M⟩ := M.behind (val := fun _ : NV => .agg (bc (sumOf (textNo Nc.ts (ps[j]).2))).toArray) (outs := fun x => [nmE x]) (p := fun x => x.gn = Nc.gn ∧ x.ks = Nc.ks ∧ x.ts = textKs Nc.ts (ps[j]).2) hI (hk 19 (by decide))
              refine then_normal ?_
              refine cond_true E rfl (rfl) ?_
              refine code_region ?_
              refine sw E (run_assignC rfl) fun fr E => ?_
              refine seq_nil' ?_
              refine wp_ret ?_
              refine then_ret ?_
              refine block_ret ?_
              refine then_ret ?_
              refine then_ret ?_
              refine block_ret ?_
              refine then_ret ?_
              refine ret1 E rfl rfl ?_
              rw [htf, hdr, hdp, told_sum h2 h3 h4]
              exact ⟨N2, rfl, Mem.fin (L := [nmE N2] ++ _) M (List.sublist_append_left _ _) ⟨hg2, hk2.trans hks, ht2⟩⟩
          · refine code_region ?_
            refine sw (v := .bool true) E (tst rfl (decide_eq_true (by omega))) fun fr E => ?_
            refine seq_nil' ?_
            refine wp_seq ?_
            refine cond_true E rfl (rfl) ?_
            refine wp_skip ?_
            refine then_normal ?_
            refine wp_seq ?_
            refine wp_block ?_
            refine code_region ?_
            refine sw (v := cellAt ev (i * 35)) E (run_indexR (i := i) rfl (M.fact.1) rfl rfl (rfl) (hi) T.slice37 T.size83) fun fr E => ?_
            refine sw (v := .agg (l[i]).cells.toArray) E (run_loadRN (k := i * 35) rfl (M.fact.1) rfl T.agg83 (by omega) (by decide) (ecs_get hol hi)) fun fr E => ?_
            refine snew (ob := .cells _ 83) (fun g => .pointer (some ⟨g, 0, none⟩)) E M rfl rfl rfl rfl rfl (run_allocN rfl T.zero83) fun g0 fr w M E => ?_
            refine sset (i := 0) (cs' := (l[i]).cells.toArray) E M rfl rfl rfl rfl rfl (run_storeAll (vs := (l[i]).cells.toArray) rfl rfl rfl T.size83 (Ety.size he) (M.row (i := 0) rfl) rfl (fun u hu => Ety.ones _ u (by simpa using hu))) rfl fun fr w M E => ?_
            refine seq_nil' ?_
            refine wp_seq ?_
            refine code_region ?_
            refine sw (v := .pointer (some ⟨_, 0, none⟩)) E (run_fieldAddr rfl rfl T.fld83_0) fun fr E => ?_
            refine sw (v := .int .i64 (l[i]).k) E (run_loadB rfl rfl T.one3 (M.row (i := 0) rfl) Ety.c_k) fun fr E => ?_
            refine sw (v := .bool false) E (tst rfl (decide_eq_false h2)) fun fr E => ?_
            refine seq_nil' ?_
            refine cond_false E rfl (rfl) ?_
            refine wp_skip ?_
            refine then_normal ?_
            refine wp_seq ?_
            refine wp_seq (free_reg (B := T.tab40_5_b) (Vs := (.exact _ :: .exact (.int .i64 _) :: .exact (.bool false) :: .exact _ :: .exact (.pointer (some ⟨_, 2, none⟩)) :: .exact (.int .i64 (l[i]).s) :: .exact _ :: .exact (.bool true) :: .exact (.bool _) :: .exact _ :: .exact undef :: .exact undef :: .exact undef :: .exact undef :: .exact undef :: .exact undef :: .exact undef :: .exact undef :: .exact undef :: .exact undef :: .exact undef :: .exact (.bool _) :: [])) T.tab40_5_i E T.mixed T.tab40_5 rfl (AllS.lasts ⟨trivial, trivial, trivial, trivial, trivial, trivial, trivial, trivial, trivial, trivial, trivial, trivial, trivial, trivial, trivial, trivial, trivial, trivial, trivial, trivial, trivial, trivial, trivial⟩) ⟨fv rfl rfl (fun x w hx hk => run_move rfl rfl),
      fv rfl rfl (fun x w hx hk => run_lenR rfl rfl rfl rfl T.slice52 (hcv _ (M.ext ((Ext.drew _).trans hx)).fact.2.1)),
      fv rfl rfl (fun x w hx hk => tst rfl (decide_eq_false (by omega))),
      fv rfl rfl (fun x w hx hk => run_move rfl rfl),
      fv rfl rfl (fun x w hx hk => run_fieldAddr rfl rfl T.fld83_2),
      fv rfl rfl (fun x w hx hk => run_loadB rfl rfl T.one3 ((M.ext ((Ext.drew _).trans hx)).row (i := 0) rfl) Ety.c_s),
      fv rfl rfl (fun x w hx hk => run_move rfl rfl),
      fv rfl rfl (fun x w hx hk => tst rfl (bneTB h3)),
      fv rfl rfl (fun x w hx hk => rfl),
      fv rfl rfl (fun x w hx hk => run_move rfl rfl),
      fs_no rfl rfl (fun x => ⟨rfl, rfl⟩),
      fs_no rfl rfl (fun x => ⟨rfl, rfl⟩),
      fs_no rfl rfl (fun x => ⟨rfl, rfl⟩),
      fs_no rfl rfl (fun x => ⟨rfl, rfl⟩),
      fs_no rfl rfl (fun x => ⟨rfl, rfl⟩),
      fs_no rfl rfl (fun x => ⟨rfl, rfl⟩),
      fs_no rfl rfl (fun x => ⟨rfl, rfl⟩),
      fs_no rfl rfl (fun x => ⟨rfl, rfl⟩),
      fs_no rfl rfl (fun x => ⟨rfl, rfl⟩),
      fs_no rfl rfl (fun x => ⟨rfl, rfl⟩),
      fs_no rfl rfl (fun x => ⟨rfl, rfl⟩),
      fv rfl rfl (fun x w hx hk => rfl), trivial⟩ ?_)
            intro x fr w hx hk E
            have M := M.ext hx
            refine then_normal ?_
            refine cond_true E rfl (rfl) ?_
            refine code_region ?_
            refine sw E (run_assignC rfl) fun fr E => ?_
            refine seq_nil' ?_
            refine wp_ret ?_
            refine then_ret ?_
            refine block_ret ?_
            refine then_ret ?_
            refine then_ret ?_
            refine block_ret ?_
            refine then_ret ?_
            refine ret1 E rfl rfl ?_
            have M := M.pull 1 rfl
            rw [htf, hdr, hdp, told_slot h2 h3]
            exact ⟨Nc, rfl, Mem.fin (L := [nmE Nc] ++ _) M (List.sublist_append_left _ _) ⟨rfl, hks, rfl⟩⟩
        · obtain rfl : j = ps.length := by omega
          refine code_region ?_
          refine sw (v := .bool true) E (tst rfl (decide_eq_true (by omega))) fun fr E => ?_
          refine seq_nil' ?_
          refine wp_seq ?_
          refine cond_true E rfl (rfl) ?_
          refine wp_skip ?_
          refine then_normal ?_
          refine wp_seq ?_
          refine wp_block ?_
          refine code_region ?_
          refine sw (v := cellAt ev (i * 35)) E (run_indexR (i := i) rfl (M.fact.1) rfl rfl (rfl) (hi) T.slice37 T.size83) fun fr E => ?_
          refine sw (v := .agg (l[i]).cells.toArray) E (run_loadRN (k := i * 35) rfl (M.fact.1) rfl T.agg83 (by omega) (by decide) (ecs_get hol hi)) fun fr E => ?_
          refine snew (ob := .cells _ 83) (fun g => .pointer (some ⟨g, 0, none⟩)) E M rfl rfl rfl rfl rfl (run_allocN rfl T.zero83) fun g0 fr w M E => ?_
          refine sset (i := 0) (cs' := (l[i]).cells.toArray) E M rfl rfl rfl rfl rfl (run_storeAll (vs := (l[i]).cells.toArray) rfl rfl rfl T.size83 (Ety.size he) (M.row (i := 0) rfl) rfl (fun u hu => Ety.ones _ u (by simpa using hu))) rfl fun fr w M E => ?_
          refine seq_nil' ?_
          refine wp_seq ?_
          refine code_region ?_
          refine sw (v := .pointer (some ⟨_, 0, none⟩)) E (run_fieldAddr rfl rfl T.fld83_0) fun fr E => ?_
          refine sw (v := .int .i64 (l[i]).k) E (run_loadB rfl rfl T.one3 (M.row (i := 0) rfl) Ety.c_k) fun fr E => ?_
          refine sw (v := .bool false) E (tst rfl (decide_eq_false h2)) fun fr E => ?_
          refine seq_nil' ?_
          refine cond_false E rfl (rfl) ?_
          refine wp_skip ?_
          refine then_normal ?_
          refine wp_seq ?_
          refine wp_seq (free_reg (B := T.tab40_5_b) (Vs := (.exact _ :: .exact (.int .i64 _) :: .exact (.bool true) :: .exact _ :: .exact undef :: .exact undef :: .exact undef :: .exact undef :: .exact (.bool _) :: .exact _ :: .exact undef :: .exact undef :: .exact undef :: .exact undef :: .exact undef :: .exact undef :: .exact undef :: .exact undef :: .exact undef :: .exact undef :: .exact undef :: .exact (.bool _) :: [])) T.tab40_5_i E T.mixed T.tab40_5 rfl (AllS.lasts ⟨trivial, trivial, trivial, trivial, trivial, trivial, trivial, trivial, trivial, trivial, trivial, trivial, trivial, trivial, trivial, trivial, trivial, trivial, trivial, trivial, trivial, trivial, trivial⟩) ⟨fv rfl rfl (fun x w hx hk => run_move rfl rfl),
      fv rfl rfl (fun x w hx hk => run_lenR rfl rfl rfl rfl T.slice52 (hcv _ (M.ext ((Ext.drew _).trans hx)).fact.2.1)),
      fv rfl rfl (fun x w hx hk => tst rfl (decide_eq_true (by omega))),
      fv rfl rfl (fun x w hx hk => run_move rfl rfl),
      fs_no rfl rfl (fun x => ⟨rfl, rfl⟩),
      fs_no rfl rfl (fun x => ⟨rfl, rfl⟩),
      fs_no rfl rfl (fun x => ⟨rfl, rfl⟩),
      fs_no rfl rfl (fun x => ⟨rfl, rfl⟩),
      fv rfl rfl (fun x w hx hk => rfl),
      fv rfl rfl (fun x w hx hk => run_move rfl rfl),
      fs_no rfl rfl (fun x => ⟨rfl, rfl⟩),
      fs_no rfl rfl (fun x => ⟨rfl, rfl⟩),
      fs_no rfl rfl (fun x => ⟨rfl, rfl⟩),
      fs_no rfl rfl (fun x => ⟨rfl, rfl⟩),
      fs_no rfl rfl (fun x => ⟨rfl, rfl⟩),
      fs_no rfl rfl (fun x => ⟨rfl, rfl⟩),
      fs_no rfl rfl (fun x => ⟨rfl, rfl⟩),
      fs_no rfl rfl (fun x => ⟨rfl, rfl⟩),
      fs_no rfl rfl (fun x => ⟨rfl, rfl⟩),
      fs_no rfl rfl (fun x => ⟨rfl, rfl⟩),
      fs_no rfl rfl (fun x => ⟨rfl, rfl⟩),
      fv rfl rfl (fun x w hx hk => rfl), trivial⟩ ?_)
          intro x fr w hx hk E
          have M := M.ext hx
          refine then_normal ?_
          refine cond_true E rfl (rfl) ?_
          refine code_region ?_
          refine sw E (run_assignC rfl) fun fr E => ?_
          refine seq_nil' ?_
          refine wp_ret ?_
          refine then_ret ?_
          refine block_ret ?_
          refine then_ret ?_
          refine then_ret ?_
          refine block_ret ?_
          refine then_ret ?_
          refine ret1 E rfl rfl ?_
          have M := M.pull 1 rfl
          rw [htf, hdr, List.drop_length, List.map_nil, told_none h2]
          exact ⟨Nc, rfl, Mem.fin (L := [nmE Nc] ++ _) M (List.sublist_append_left _ _) ⟨rfl, hks, rfl⟩⟩
    · obtain rfl : i = l.length := by omega
      rw [List.drop_length] at htf
      refine code_region ?_
      refine sw (v := .bool false) E (tst rfl (decide_eq_false (by omega))) fun fr E => ?_
      refine seq_nil' ?_
      refine wp_seq ?_
      refine cond_false E rfl (rfl) ?_
      refine wp_exit ?_
      refine then_exit ?_
      refine then_exit ?_
      refine block_exit ?_
      refine then_normal ?_
      refine code_region ?_
      refine mv E fun fr E => ?_
      refine sw (v := .int .i64 _) E (run_lenR rfl rfl rfl rfl T.slice52 (hcv _ M.fact.2.1)) fun fr E => ?_
      refine sw (v := .bool (decide ((ps.drop j).map (·.2) = []))) E (tst rfl (told_end hj)) fun fr E => ?_
      refine ma E fun fr E => ?_
      refine seq_nil' ?_
      refine wp_ret ?_
      refine ret1 E rfl rfl ?_
      rw [htf]
      exact ⟨Nc, rfl, Mem.fin (L := [nmE Nc] ++ _) M (List.sublist_append_left _ _) ⟨rfl, hks, rfl⟩⟩
end Go.Proofs.Ytnebjbgcibjohaa.K
end
section
namespace Go.Proofs.Ytnebjbgcibjohaa.K
open Go.RowKit Go.Rill Go.Proofs
set_option linter.unusedVariables false
set_option linter.unusedSimpArgs false
/-- The law's log. -/
structure Lg where
  A : AD
  ks : List NKey
  ts : List (List UInt8)
  sg : Int
  sl : Int
  prev : List UInt8
  n : Int
  froms : List (Int × Int × List UInt8)
  sums : List Smy
def Lg.new : Lg := ⟨AD.new 643, [], [], 2, 0, List.replicate 32 0, 0, [], []⟩
/-- A sector's bytes that come next. -/
def Lg.b (L : Lg) (kd : Int) (pl : List UInt8) : List UInt8 := sectB L.ks kd 7 (L.n + 1) (3 + L.sg * 32 + L.sl) pl
def Lg.sum (L : Lg) (kd : Int) (pl : List UInt8) : List UInt8 := sumOf (textNo L.ts (L.b kd pl))
def Lg.put (L : Lg) (kd : Int) (pl : List UInt8) : Lg := { L with A := (L.A.tamper (3 + L.sg * 32 + L.sl) (L.b kd pl)).2, ks := sealS L.ks 7 (L.n + 1) (hdB kd (3 + L.sg * 32 + L.sl)) pl, ts := textKs L.ts (L.b kd pl), sl := L.sl + 1, n := L.n + 1 }
def dataB (m : Int) (i : Nat) : List UInt8 := [UInt8.ofInt (i : Int), UInt8.ofInt m]
/-- A batch's data from the i-th on. -/
def Lg.data (m : Int) : Nat → Nat → Lg → List Ety → Lg × List Ety
  | 0, _, L, es => (L, es)
  | k + 1, i, L, es => if L.sl < 31 then Lg.data m k (i + 1) (L.put 4 (dataB m i)) (es ++ [⟨1, (i : Int), L.sl, L.sum 4 (dataB m i)⟩]) else (L, es)
def trimE : Ety := ⟨2, 3, 0, List.replicate 32 0⟩
def Lg.begun (L : Lg) : Lg := { L with froms := L.froms ++ [(L.sg, L.sl, L.prev)] }
def Lg.smy (p : List UInt8) (t : Bool) (R : Lg × List Ety) : Smy := ⟨0, p, if R.1.sl = 31 then R.1.sg + 1 else -1, R.2 ++ if t then [trimE] else []⟩
/-- The summary is put behind the data. -/
def Lg.close (L : Lg) (s : Smy) : Lg := { L.put 3 (smyB s) with prev := L.sum 3 (smyB s), sums := L.sums ++ [s], sg := if 0 ≤ s.next then s.next else L.sg, sl := if 0 ≤ s.next then 0 else L.sl + 1 }
def Lg.batch (L : Lg) (m : Nat) (t : Bool) : Lg := (Lg.data m m 0 L.begun []).1.close (Lg.smy L.prev t (Lg.data m m 0 L.begun []))
/-! ### The log's sectors, one behind the other -/
inductive Rc where
  | data (pl : List UInt8)
  | smy (s : Smy)
def Rc.kd : Rc → Int | .data _ => 4 | .smy _ => 3
def Rc.pl : Rc → List UInt8 | .data p => p | .smy s => smyB s
def Rc.Ok (j : Nat) : Rc → Prop
  | .data p => p.length = 2
  | .smy s => s.Ok ∧ checkS s = 0 ∧ s.next = if j % 32 = 31 then ((3 + j / 32 : Nat) : Int) else -1
def keyL (j : Nat) (r : Rc) : NKey := ⟨7, ((j : Nat) : Int) + 1, hdB r.kd ((67 + j : Nat) : Int), r.pl⟩
def secL (j : Nat) (r : Rc) : List UInt8 := [UInt8.ofInt r.kd] ++ be8 7 ++ be8 (((j : Nat) : Int) + 1) ++ (r.pl ++ tagOf (j + 1))
structure Lg.Inv (L : Lg) (rs : List Rc) : Prop where
  ks : L.ks = rs.mapIdx keyL
  ts : L.ts = rs.mapIdx secL
  n : L.n = (rs.length : Int)
  rd : ∀ j : Nat, L.A.read j = if 67 ≤ j then ((rs.mapIdx secL)[j - 67]?).getD [] else []
  an : L.A.n = 643
  al : L.A.last.length = 643
  ac : L.A.cache = []
  ar : L.A.reads.length = 643
  wr : L.A.writes = 0
  of : L.A.off = false
  pos : 3 + L.sg * 32 + L.sl = ((67 + rs.length : Nat) : Int)
  ok : ∀ (j : Nat) (r : Rc), rs[j]? = some r → r.Ok j
theorem new_inv : Lg.new.Inv [] where
  ks := rfl
  ts := rfl
  n := rfl
  rd j := by rw [show Lg.new.A = AD.new 643 from rfl, new_read]; simp
  an := rfl
  al := List.length_replicate
  ac := rfl
  ar := List.length_replicate
  wr := rfl
  of := rfl
  pos := rfl
  ok j r h := by simp at h
theorem be8_inj {a b : Int} (h : be8 a = be8 b) (a0 : -9223372036854775808 ≤ a) (a1 : a ≤ 9223372036854775807) (b0 : -9223372036854775808 ≤ b) (b1 : b ≤ 9223372036854775807) : a = b := by
  rw [← num64_be8 a a0 a1, ← num64_be8 b b0 b1, h]
theorem secL_no {j k : Nat} {r q : Rc} (h : secL j r = secL k q) (hj : j ≤ 1000) (hk : k ≤ 1000) : j = k := by
  have e : ((secL j r).drop 9).take 8 = ((secL k q).drop 9).take 8 := by rw [h]
  have g : ∀ (j : Nat) (r : Rc), ((secL j r).drop 9).take 8 = be8 ((j : Int) + 1) := fun j r => by
    have e1 : secL j r = ([UInt8.ofInt r.kd] ++ be8 7) ++ (be8 ((j : Int) + 1) ++ (r.pl ++ tagOf (j + 1))) := by simp [secL]
    rw [e1, List.drop_left' (by simp [be8_len]), List.take_left' (be8_len _)]
  rw [g, g] at e
  have := be8_inj e (by omega) (by omega) (by omega) (by omega)
  omega
theorem tamper_same {A : AD} {k : Nat} {l : List UInt8} (hc : A.cache = []) (hk : k < A.n) (hl : l.length ≤ 1024) : (A.tamper (k : Int) l) = (0, { A with last := A.last.set k l }) := by
  unfold AD.tamper
  rw [if_neg (by simp only [AD.there, Decidable.not_not]; omega), if_neg (by omega), hc]
  simp [hc]
theorem read_last {A : AD} (hc : A.cache = []) (j : Nat) : A.read j = (A.last[j]?).getD [] := by
  unfold AD.read
  rw [hc]
  rfl
theorem tamper_read {A : AD} {k : Nat} {l : List UInt8} (hc : A.cache = []) (hk : k < A.n) (hn : A.last.length = A.n) (hl : l.length ≤ 1024) (j : Nat) : (A.tamper (k : Int) l).2.read j = if j = k then l else A.read j := by
  rw [tamper_same hc hk hl, read_last (by exact hc), read_last hc]
  show ((A.last.set k l)[j]?).getD [] = _
  rw [List.getElem?_set]
  by_cases h : k = j
  · subst h; simp [hn, hk]
  · rw [if_neg h, if_neg (fun c => h c.symm)]
theorem kd_pl {r : Rc} {j : Nat} (h : r.Ok j) : (1 ≤ r.kd ∧ r.kd ≤ 5) ∧ r.pl.length ≤ 975 := by
  cases r with
  | data p => exact ⟨⟨show (1:Int) ≤ 4 by decide, show (4:Int) ≤ 5 by decide⟩, by show p.length ≤ _; rw [show p.length = 2 from h]; decide⟩
  | smy s =>
    obtain ⟨h1, h2, h3⟩ := h
    obtain ⟨h16, _⟩ := checkS_in h2
    refine ⟨⟨show (1:Int) ≤ 3 by decide, show (3:Int) ≤ 5 by decide⟩, ?_⟩
    show (smyB s).length ≤ 975
    have := entB_len h1.2
    rw [smyB_eq]
    simp [be8_len, h1.1]
    omega
section
variable {L : Lg} {rs : List Rc} {r : Rc}
theorem Lg.Inv.b (h : L.Inv rs) (hl : rs.length ≤ 600) (hr : r.Ok rs.length) : L.b r.kd r.pl = secL rs.length r ∧ sealS L.ks 7 (L.n + 1) (hdB r.kd (3 + L.sg * 32 + L.sl)) r.pl = (rs ++ [r]).mapIdx keyL := by
  have hin : inNum 7 ∧ inNum (L.n + 1) := ⟨by decide, by rw [h.n]; constructor <;> omega⟩
  have hk : (⟨7, L.n + 1, hdB r.kd (3 + L.sg * 32 + L.sl), r.pl⟩ : NKey) = keyL rs.length r := by rw [h.n, h.pos]; rfl
  have hno : keyL rs.length r ∉ L.ks := fun hm => by
    rw [h.ks, List.mem_mapIdx] at hm
    obtain ⟨i, hi, e⟩ := hm
    have e2 := congrArg NKey.n e
    have e2 : ((i : Nat) : Int) + 1 = ((rs.length : Nat) : Int) + 1 := e2
    omega
  refine ⟨?_, ?_⟩
  · unfold Lg.b sectB sealB secL
    rw [if_pos hin, hk]
    have : sealNo L.ks (keyL rs.length r) = rs.length + 1 := by unfold sealNo; rw [nat_none hno, h.ks, List.length_mapIdx]
    rw [this, h.n]
  · unfold sealS sealKs
    rw [if_pos hin, hk, if_neg hno, h.ks, List.mapIdx_concat]
theorem secL_len (j : Nat) (r : Rc) : (secL j r).length = 17 + (r.pl.length + 32) := by simp [secL, be8_len, tagOf]; omega
theorem Lg.Inv.fresh (h : L.Inv rs) (hl : rs.length ≤ 600) : secL rs.length r ∉ L.ts := fun hm => by
  rw [h.ts, List.mem_mapIdx] at hm
  obtain ⟨i, hi, e⟩ := hm
  have := secL_no e (by omega) (by omega)
  omega
theorem Lg.Inv.sum (h : L.Inv rs) (hl : rs.length ≤ 600) (hr : r.Ok rs.length) : L.sum r.kd r.pl = sumOf (rs.length + 1) := by
  unfold Lg.sum
  rw [(h.b hl hr).1]
  unfold textNo
  rw [nat_none (h.fresh hl), h.ts, List.length_mapIdx]
theorem Lg.Inv.put (h : L.Inv rs) (hl : rs.length < 570) (hr : r.Ok rs.length) : (L.put r.kd r.pl).Inv (rs ++ [r]) := by
  obtain ⟨hb, hk⟩ := h.b (by omega) hr
  have hkp := kd_pl hr
  have hbl : (secL rs.length r).length ≤ 1024 := by rw [secL_len]; omega
  have hp : (3 + L.sg * 32 + L.sl) = ((67 + rs.length : Nat) : Int) := h.pos
  refine ⟨hk, ?_, ?_, fun j => ?_, ?_, ?_, ?_, ?_, ?_, ?_, ?_, fun j q hj => ?_⟩
  · show textKs L.ts (L.b r.kd r.pl) = _
    rw [hb]
    unfold textKs
    rw [if_neg (h.fresh (by omega)), h.ts, List.mapIdx_concat]
  · show L.n + 1 = _
    rw [h.n, List.length_append]
    simp
  · show (L.A.tamper (3 + L.sg * 32 + L.sl) (L.b r.kd r.pl)).2.read j = _
    rw [hp, hb, tamper_read h.ac (by rw [h.an]; omega) (by rw [h.al, h.an]) hbl, h.rd]
    rw [List.mapIdx_concat]
    by_cases c : j = 67 + rs.length
    · subst c
      rw [if_pos rfl, if_pos (by omega), show 67 + rs.length - 67 = rs.length by omega, List.getElem?_append_right (by simp)]
      simp
    · rw [if_neg c]
      by_cases c2 : 67 ≤ j
      · rw [if_pos c2, if_pos c2]
        by_cases c3 : j - 67 < rs.length
        · rw [List.getElem?_append_left (by simpa using c3)]
        · rw [List.getElem?_eq_none (by simp; omega), List.getElem?_eq_none (by simp; omega)]
      · rw [if_neg c2, if_neg c2]
  · show (L.A.tamper (3 + L.sg * 32 + L.sl) (L.b r.kd r.pl)).2.n = _
    rw [hp, hb, tamper_same h.ac (by rw [h.an]; omega) hbl]
    exact h.an
  · show (L.A.tamper (3 + L.sg * 32 + L.sl) (L.b r.kd r.pl)).2.last.length = _
    rw [hp, hb, tamper_same h.ac (by rw [h.an]; omega) hbl]
    exact (List.length_set ..).trans h.al
  · show (L.A.tamper (3 + L.sg * 32 + L.sl) (L.b r.kd r.pl)).2.cache = _
    rw [hp, hb, tamper_same h.ac (by rw [h.an]; omega) hbl]
    exact h.ac
  · show (L.A.tamper (3 + L.sg * 32 + L.sl) (L.b r.kd r.pl)).2.reads.length = _
    rw [hp, hb, tamper_same h.ac (by rw [h.an]; omega) hbl]
    exact h.ar
  · show (L.A.tamper (3 + L.sg * 32 + L.sl) (L.b r.kd r.pl)).2.writes = _
    rw [hp, hb, tamper_same h.ac (by rw [h.an]; omega) hbl]
    exact h.wr
  · show (L.A.tamper (3 + L.sg * 32 + L.sl) (L.b r.kd r.pl)).2.off = _
    rw [hp, hb, tamper_same h.ac (by rw [h.an]; omega) hbl]
    exact h.of
  · show 3 + L.sg * 32 + (L.sl + 1) = _
    rw [List.length_append]
    simp
    omega
  · rcases Nat.lt_or_ge j rs.length with c | c
    · rw [List.getElem?_append_left c] at hj
      exact h.ok j q hj
    · rw [List.getElem?_append_right c] at hj
      obtain ⟨e1, e2⟩ := List.getElem?_eq_some_iff.1 hj
      simp at e1
      have : j = rs.length := by omega
      subst this
      simp at e2
      subst e2
      exact hr
end
end Go.Proofs.Ytnebjbgcibjohaa.K
end
section
namespace Go.Proofs.Ytnebjbgcibjohaa.K
open Go.RowKit Go.Rill Go.Proofs
set_option linter.unusedVariables false
set_option linter.unusedSimpArgs false
def GoesOk (sg sl nx : Int) : Prop := if sl < 31 then nx = -1 else 0 ≤ nx ∧ nx ≤ 19 ∧ ¬ nx = sg
def endS (sg sl nx : Int) : Int := if sl < 31 then sg else nx
def endL (sl : Int) : Int := if sl < 31 then sl + 1 else 0
/-- A batch's cells. -/
def bxC (s : Smy) (v : Value) (ep sg sl es el : Int) (sum : List UInt8) : List Value := s.cells v ++ (iv ep :: iv sg :: iv sl :: iv es :: iv el :: bc sum)
def bx0 : List Value := bxC ⟨0, List.replicate 32 0, 0, []⟩ (.slice none 0 0) 0 0 0 0 0 (List.replicate 32 0)
theorem bxC_one {s : Smy} {v : Value} {ep sg sl es el : Int} {sum : List UInt8} (hv : v.oneCell' = true) : ∀ u ∈ bxC s v ep sg sl es el sum, u.oneCell' = true := by
  intro u hu
  unfold bxC at hu
  simp only [List.mem_append, List.mem_cons] at hu
  rcases hu with hu | rfl | rfl | rfl | rfl | rfl | hu
  · exact Smy.ones hv u hu
  · rfl
  · rfl
  · rfl
  · rfl
  · rfl
  · exact bc_one u hu
theorem bx0_one : ∀ u ∈ bx0, u.oneCell' = true := bxC_one rfl
theorem toldF_len : ∀ (l : List Ety) (ts : List (List UInt8)) (fr : Int) (bs : List (List UInt8)), (toldF ts l fr bs).2.length ≤ ts.length + l.length
  | [], ts, fr, bs => by simp [toldF]
  | e :: r, ts, fr, [] => by
    by_cases h : e.k = 2
    · rw [told_trim h]; have := toldF_len r ts fr []; simp only [List.length_cons]; omega
    · rw [told_none h]; simp only [List.length_cons]; omega
  | e :: r, ts, fr, b :: k => by
    have h1 := textKs_len1 ts b
    by_cases h : e.k = 2
    · rw [told_trim h]; have := toldF_len r ts fr (b :: k); simp only [List.length_cons] at *; omega
    · by_cases h2 : e.s = fr
      · by_cases h3 : e.sum = sumOf (textNo ts b)
        · rw [told_go h h2 h3]; have := toldF_len r (textKs ts b) (fr + 1) k; simp only [List.length_cons] at *; omega
        · rw [told_sum h h2 h3]; simp only [List.length_cons]; omega
      · rw [told_slot h h2]; simp only [List.length_cons]; omega
theorem bx_map {a b c d e f : Value} (h : e = f) : [(0, a), (1, b), (2, c), (3, d), (4, e)] = ([(0, a), (1, b), (2, c), (3, d), (4, f)] : List (Nat × Value)) := by rw [h]
theorem goes_x {sg sl nx : Int} {w0 : World} (h1 : 0 ≤ sg ∧ sg ≤ 19) (h2 : 0 ≤ sl ∧ sl ≤ 31) (hn : GoesOk sg sl nx) : Gives Try.prog 41 [.agg #[.int .i64 20, .int .i64 32, .int .i64 4], .agg #[.int .i64 sg, .int .i64 sl], .int .i64 nx] w0 (.tuple #[.agg #[.int .i64 (endS sg sl nx), .int .i64 (endL sl)], .bool true]) := by
  unfold GoesOk at hn
  unfold endS endL
  by_cases h : sl < 31
  · rw [if_pos h] at hn
    rw [if_pos h, if_pos h]
    exact goes_on h1 ⟨h2.1, h⟩ hn
  · rw [if_neg h] at hn
    rw [if_neg h, if_neg h]
    exact goes_end h1 (by omega) ⟨hn.1, hn.2.1⟩ hn.2.2

theorem At_i {sg sl : Int} {i : Nat} {w0 : World} (h1 : 0 ≤ sg ∧ sg ≤ 19) (h2 : 0 ≤ sl ∧ sl ≤ 31) (hi : 3 + sg * 32 + sl = (i : Int)) : Gives Try.prog 23 [.agg #[.int .i64 20, .int .i64 32, .int .i64 4], .agg #[.int .i64 sg, .int .i64 sl]] w0 (.int .i64 (i : Int)) := by
  rw [← hi]
  exact At_x h1 h2

set_option maxRecDepth 100000 in
theorem whole_1 {N : NV} {a i : Nat} {sg sl0 sl : Int} {prev bl : List UInt8} {bv rv : Value} {ps : List (Value × List UInt8)} {w0 : World} (H : Has w0 [nmE N]) (ha : N.gn = a) (h1 : 0 ≤ sg ∧ sg ≤ 19) (h0 : 0 ≤ sl0 ∧ sl0 ≤ 31) (h2 : 0 ≤ sl ∧ sl ≤ 31) (hi : 3 + sg * 32 + sl = (i : Int)) (hp : prev.length = 32) (hb : Bytes w0 bv bl) (hv : Reads 1 w0 rv ps.length (ps.map (·.1))) (hq : ∀ q ∈ ps, Bytes w0 q.1 q.2) (hzp : ps.length ≤ 1000) (f1 : ∀ q, bv.ownBlock = some q → ¬ feet [nmE N] q ∧ q < w0.heap.size) (f2 : ∀ q, rv.ownBlock = some q → ¬ feet [nmE N] q) (f3 : ∀ p ∈ ps, ∀ q, p.1.ownBlock = some q → ¬ feet [nmE N] q ∧ q < w0.heap.size) (hkz : N.ks.length ≤ 1099511627776) (htz : N.ts.length ≤ 100000) (err : Int) (he0 : err ≠ 0) (he1 : ∀ (w : World) (c : Value), Bytes w c bl → Has w [nmE N] → Gives Try.prog 38 [.iface 30 (.pointer (some ⟨a, 0, none⟩)), .int .i64 3, .int .i64 (i : Int), c] w (.tuple #[.agg #[.int .i64 0, .int .i64 0, .int .i64 0, .int .i64 0, .slice none 0 0], .int .i64 err])) : Does Try.prog 25 [.iface 30 (.pointer (some ⟨a, 0, none⟩)), .agg #[.int .i64 20, .int .i64 32, .int .i64 4], .agg #[.int .i64 sg, .int .i64 sl0], .agg #[.int .i64 sg, .int .i64 sl], .agg (bc prev).toArray, bv, rv] w0 [nmE N] (fun _ : NV => .tuple #[.agg bx0.toArray, .int .i64 20]) (fun x => [nmE x]) (fun x => x.gn = a ∧ x.ks = N.ks ∧ x.ts = N.ts) := by
  refine enter (n := 78) Try.func25 rfl rfl rfl ?_
  intro fr E
  subst ha
  have M : Mem w0 (feet [nmE N]) [nmE N] (fun w' => Bytes w' bv bl ∧ Reads 1 w' rv ps.length (ps.map (·.1)) ∧ ∀ q ∈ ps, Bytes w' q.1 q.2) w0 := Mem.begin H (fun w' h => ⟨Reads.held hb h fun q hq' => (f1 q hq').1, Reads.held hv h f2, fun q hq' => Reads.held (hq q hq') h fun g hg => (f3 q hq' g hg).1⟩)
  refine code_region ?_
  refine snew (ob := .cells (#[.int .i64 20, .int .i64 32, .int .i64 4]) 46) (fun g => .pointer (some ⟨g, 0, none⟩)) E M rfl rfl rfl rfl rfl (run_boxN (cs := (#[.int .i64 20, .int .i64 32, .int .i64 4])) rfl rfl) fun g0 fr w M E => ?_
  refine snew (ob := .cells (#[.int .i64 sg, .int .i64 sl0]) 26) (fun g => .pointer (some ⟨g, 0, none⟩)) E M rfl rfl rfl rfl rfl (run_boxN (cs := (#[.int .i64 sg, .int .i64 sl0])) rfl rfl) fun g1 fr w M E => ?_
  refine snew (ob := .cells (#[.int .i64 sg, .int .i64 sl]) 26) (fun g => .pointer (some ⟨g, 0, none⟩)) E M rfl rfl rfl rfl rfl (run_boxN (cs := (#[.int .i64 sg, .int .i64 sl])) rfl rfl) fun g2 fr w M E => ?_
  refine snew (ob := .cells ((bc prev).toArray) 28) (fun g => .pointer (some ⟨g, 0, none⟩)) E M rfl rfl rfl rfl rfl (run_boxN (cs := ((bc prev).toArray)) rfl rfl) fun g3 fr w M E => ?_
  refine snew (ob := .cells _ 41) (fun g => .pointer (some ⟨g, 0, none⟩)) E M rfl rfl rfl rfl rfl (run_allocN rfl T.zero41) fun g4 fr w M E => ?_
  refine sw E (run_assignC rfl) fun fr E => ?_
  refine seq_nil' ?_
  refine code_region ?_
  refine mv E fun fr E => ?_
  refine sw (v := .agg #[.int .i64 20, .int .i64 32, .int .i64 4]) E (run_loadAll rfl rfl T.agg46 (M.row (i := 4) rfl) rfl) fun fr E => ?_
  refine sw (v := .agg #[_, _]) E (run_loadAll rfl rfl T.agg26 (M.row (i := 2) rfl) rfl) fun fr E => ?_
  refine sgive E M rfl rfl rfl rfl rfl (run_call rfl rfl T.fn23) (At_i h1 h2 hi) fun fr w M E => ?_
  refine mv E fun fr E => ?_
  refine sgive E M rfl rfl rfl rfl rfl (run_call rfl rfl T.fn38) (he1 _ _ (M.fact.1) (M.has1 (i := 5) rfl)) fun fr w M E => ?_
  refine mv E fun fr E => ?_
  refine sw E (run_extract rfl rfl rfl) fun fr E => ?_
  refine sw E (run_extract rfl rfl rfl) fun fr E => ?_
  refine snew (ob := .cells #[_, _, _, _, _] 98) (fun g => .pointer (some ⟨g, 0, none⟩)) E M rfl rfl rfl rfl rfl (run_allocN rfl T.zero98) fun g5 fr w M E => ?_
  refine sset (i := 0) (cs' := #[.int .i64 0, .int .i64 0, .int .i64 0, .int .i64 0, .slice none 0 0]) E M rfl rfl rfl rfl rfl (run_storeN' (vs := #[_, _, _, _, _]) rfl rfl rfl T.size98 rfl (M.row (i := 0) rfl) rfl rfl rfl) rfl fun fr w M E => ?_
  refine ma E fun fr E => ?_
  refine seq_nil' ?_
  refine wp_seq ?_
  refine code_region ?_
  refine mv E fun fr E => ?_
  refine sw (v := .bool true) E (tst rfl (bneTB he0)) fun fr E => ?_
  refine seq_nil' ?_
  refine cond_true E rfl (rfl) ?_
  refine code_region ?_
  refine sw (v := .agg (bx0).toArray) E (run_buildP (vs := []) (us := bx0) rfl rfl T.ts41 T.zeroL41 (rfl) rfl rfl (rfl)) fun fr E => ?_
  refine sset (i := 1) (cs' := bx0.toArray) E M rfl rfl rfl rfl rfl (run_storeAll (vs := bx0.toArray) rfl rfl rfl T.size41 (rfl) (M.row (i := 1) rfl) rfl (fun u hu => bx0_one u (by simpa using hu))) rfl fun fr w M E => ?_
  refine sw E (run_assignC rfl) fun fr E => ?_
  refine seq_nil' ?_
  refine wp_ret ?_
  refine then_ret ?_
  refine retC2 E rfl rfl rfl T.agg41 (M.row (i := 1) rfl) (rfl) ?_
  have M := M.pull 6 rfl
  exact ⟨N, rfl, Mem.fin (L := [nmE N] ++ _) M (List.sublist_append_left _ _) ⟨rfl, rfl, rfl⟩⟩

set_option maxRecDepth 100000 in
theorem whole_2 {N : NV} {a i : Nat} {sg sl0 sl : Int} {prev bl : List UInt8} {bv rv : Value} {ps : List (Value × List UInt8)} {w0 : World} (H : Has w0 [nmE N]) (ha : N.gn = a) (h1 : 0 ≤ sg ∧ sg ≤ 19) (h0 : 0 ≤ sl0 ∧ sl0 ≤ 31) (h2 : 0 ≤ sl ∧ sl ≤ 31) (hi : 3 + sg * 32 + sl = (i : Int)) (hp : prev.length = 32) (hb : Bytes w0 bv bl) (hv : Reads 1 w0 rv ps.length (ps.map (·.1))) (hq : ∀ q ∈ ps, Bytes w0 q.1 q.2) (hzp : ps.length ≤ 1000) (f1 : ∀ q, bv.ownBlock = some q → ¬ feet [nmE N] q ∧ q < w0.heap.size) (f2 : ∀ q, rv.ownBlock = some q → ¬ feet [nmE N] q) (f3 : ∀ p ∈ ps, ∀ q, p.1.ownBlock = some q → ¬ feet [nmE N] q ∧ q < w0.heap.size) (hkz : N.ks.length ≤ 1099511627776) (htz : N.ts.length ≤ 100000) {ep nn : Int} {s : Smy} (hg : sgetX N.ks 3 (i : Int) bl = some (ep, nn, smyB s)) (hs : s.Ok) (hc : checkS s = 0) (hpv : ¬ s.prev = prev) : Does Try.prog 25 [.iface 30 (.pointer (some ⟨a, 0, none⟩)), .agg #[.int .i64 20, .int .i64 32, .int .i64 4], .agg #[.int .i64 sg, .int .i64 sl0], .agg #[.int .i64 sg, .int .i64 sl], .agg (bc prev).toArray, bv, rv] w0 [nmE N] (fun _ : NV => .tuple #[.agg bx0.toArray, .int .i64 20]) (fun x => [nmE x]) (fun x => x.gn = a ∧ x.ks = N.ks ∧ x.ts = N.ts) := by
  refine enter (n := 78) Try.func25 rfl rfl rfl ?_
  intro fr E
  subst ha
  have M : Mem w0 (feet [nmE N]) [nmE N] (fun w' => Bytes w' bv bl ∧ Reads 1 w' rv ps.length (ps.map (·.1)) ∧ ∀ q ∈ ps, Bytes w' q.1 q.2) w0 := Mem.begin H (fun w' h => ⟨Reads.held hb h fun q hq' => (f1 q hq').1, Reads.held hv h f2, fun q hq' => Reads.held (hq q hq') h fun g hg => (f3 q hq' g hg).1⟩)
  obtain ⟨h16, -⟩ := checkS_in hc
  refine code_region ?_
  refine snew (ob := .cells (#[.int .i64 20, .int .i64 32, .int .i64 4]) 46) (fun g => .pointer (some ⟨g, 0, none⟩)) E M rfl rfl rfl rfl rfl (run_boxN (cs := (#[.int .i64 20, .int .i64 32, .int .i64 4])) rfl rfl) fun g0 fr w M E => ?_
  refine snew (ob := .cells (#[.int .i64 sg, .int .i64 sl0]) 26) (fun g => .pointer (some ⟨g, 0, none⟩)) E M rfl rfl rfl rfl rfl (run_boxN (cs := (#[.int .i64 sg, .int .i64 sl0])) rfl rfl) fun g1 fr w M E => ?_
  refine snew (ob := .cells (#[.int .i64 sg, .int .i64 sl]) 26) (fun g => .pointer (some ⟨g, 0, none⟩)) E M rfl rfl rfl rfl rfl (run_boxN (cs := (#[.int .i64 sg, .int .i64 sl])) rfl rfl) fun g2 fr w M E => ?_
  refine snew (ob := .cells ((bc prev).toArray) 28) (fun g => .pointer (some ⟨g, 0, none⟩)) E M rfl rfl rfl rfl rfl (run_boxN (cs := ((bc prev).toArray)) rfl rfl) fun g3 fr w M E => ?_
  refine snew (ob := .cells _ 41) (fun g => .pointer (some ⟨g, 0, none⟩)) E M rfl rfl rfl rfl rfl (run_allocN rfl T.zero41) fun g4 fr w M E => ?_
  refine sw E (run_assignC rfl) fun fr E => ?_
  refine seq_nil' ?_
  refine code_region ?_
  refine mv E fun fr E => ?_
  refine sw (v := .agg #[.int .i64 20, .int .i64 32, .int .i64 4]) E (run_loadAll rfl rfl T.agg46 (M.row (i := 4) rfl) rfl) fun fr E => ?_
  refine sw (v := .agg #[_, _]) E (run_loadAll rfl rfl T.agg26 (M.row (i := 2) rfl) rfl) fun fr E => ?_
  refine sgive E M rfl rfl rfl rfl rfl (run_call rfl rfl T.fn23) (At_i h1 h2 hi) fun fr w M E => ?_
  refine mv E fun fr E => ?_
  refine scall E M rfl rfl rfl rfl rfl (run_call rfl rfl T.fn38) (sGet_yes (M.fact.1) (M.has1 (i := 5) rfl) hkz hg) rfl ?_
  rintro q' fr w - M E
  refine mv E fun fr E => ?_
  refine sw E (run_extract rfl rfl rfl) fun fr E => ?_
  refine sw E (run_extract rfl rfl rfl) fun fr E => ?_
  refine snew (ob := .cells #[_, _, _, _, _] 98) (fun g => .pointer (some ⟨g, 0, none⟩)) E M rfl rfl rfl rfl rfl (run_allocN rfl T.zero98) fun g5 fr w M E => ?_
  refine sset (i := 0) (cs' := #[.int .i64 3, .int .i64 ep, .int .i64 nn, .int .i64 (i : Int), q']) E M rfl rfl rfl rfl rfl (run_storeN' (vs := #[.int .i64 3, .int .i64 ep, .int .i64 nn, .int .i64 (i : Int), q']) rfl rfl rfl T.size98 rfl (M.row (i := 0) rfl) rfl (by obtain ⟨b', c', e'⟩ := Reads.slice (M.reads 1 rfl); rw [e']; rfl) rfl) rfl fun fr w M E => ?_
  refine ma E fun fr E => ?_
  refine seq_nil' ?_
  refine wp_seq ?_
  refine code_region ?_
  refine mv E fun fr E => ?_
  refine sw (v := .bool false) E (tst rfl (rfl)) fun fr E => ?_
  refine seq_nil' ?_
  refine cond_false E rfl (rfl) ?_
  refine wp_skip ?_
  refine then_normal ?_
  refine code_region ?_
  refine sw (v := .pointer (some ⟨_, 4, none⟩)) E (run_fieldAddr rfl rfl T.fld98_4) fun fr E => ?_
  refine sw E (run_loadB rfl rfl T.one54 (M.row (i := 0) rfl) rfl) fun fr E => ?_
  refine scall E M rfl rfl rfl rfl rfl (run_call rfl rfl T.fn39) (bGet_ok (M.bytes 1 rfl) hs hc) rfl ?_
  rintro ev fr w - M E
  refine mv E fun fr E => ?_
  refine sw E (run_extract rfl rfl rfl) fun fr E => ?_
  refine sw E (run_extract rfl rfl rfl) fun fr E => ?_
  refine snew (ob := .cells _ 39) (fun g => .pointer (some ⟨g, 0, none⟩)) E M rfl rfl rfl rfl rfl (run_allocN rfl T.zero39) fun g6 fr w M E => ?_
  refine sset (i := 0) (cs' := (s.cells ev).toArray) E M rfl rfl rfl rfl rfl (run_storeAll (vs := (s.cells ev).toArray) rfl rfl rfl T.size39 (Smy.size hs) (M.row (i := 0) rfl) rfl (fun u hu => Smy.ones (v := ev) (by obtain ⟨b', c', e'⟩ := Reads.slice (M.reads 1 rfl); rw [e']; rfl) u (by simpa using hu))) rfl fun fr w M E => ?_
  refine ma E fun fr E => ?_
  refine seq_nil' ?_
  refine wp_seq ?_
  refine code_region ?_
  refine mv E fun fr E => ?_
  refine sw (v := .bool false) E (tst rfl (rfl)) fun fr E => ?_
  refine mv E fun fr E => ?_
  refine sw (v := .pointer (some ⟨_, 1, none⟩)) E (run_fieldAddr rfl rfl T.fld39_1) fun fr E => ?_
  refine sw (v := .agg (bc s.prev).toArray) E (run_loadN' (vs := (bc s.prev).toArray) rfl rfl T.agg28 (M.row (i := 0) rfl) (by rw [Smy.size hs]; rfl) (congrArg List.toArray (Smy.m_prev hs))) fun fr E => ?_
  refine sw (v := .agg (bc prev).toArray) E (run_loadAll rfl rfl T.agg28 (M.row (i := 5) rfl) (by simp [hp])) fun fr E => ?_
  refine sw (v := .bool true) E (run_neF (b := false) (xs := bc s.prev) (ys := bc prev) rfl rfl rfl T.flat28 (fit_sum hs.1) (fit_sum hp) (by simp only [Bool.false_eq_true, false_iff]; exact fun c => hpv (bc_inj c))) fun fr E => ?_
  refine sw (v := .bool _) E (rfl) fun fr E => ?_
  refine mv E fun fr E => ?_
  refine sno E rfl rfl rfl rfl fun fr E => ?_
  refine sno E rfl rfl rfl rfl fun fr E => ?_
  refine sno E rfl rfl rfl rfl fun fr E => ?_
  refine sno E rfl rfl rfl rfl fun fr E => ?_
  refine sno E rfl rfl rfl rfl fun fr E => ?_
  refine sno E rfl rfl rfl rfl fun fr E => ?_
  refine sno E rfl rfl rfl rfl fun fr E => ?_
  refine sno E rfl rfl rfl rfl fun fr E => ?_
  refine sw (v := .bool _) E (rfl) fun fr E => ?_
  refine seq_nil' ?_
  refine cond_true E rfl (rfl) ?_
  refine code_region ?_
  refine sw (v := .agg (bx0).toArray) E (run_buildP (vs := []) (us := bx0) rfl rfl T.ts41 T.zeroL41 (rfl) rfl rfl (rfl)) fun fr E => ?_
  refine sset (i := 4) (cs' := bx0.toArray) E M rfl rfl rfl rfl rfl (run_storeAll (vs := bx0.toArray) rfl rfl rfl T.size41 (rfl) (M.row (i := 4) rfl) rfl (fun u hu => bx0_one u (by simpa using hu))) rfl fun fr w M E => ?_
  refine sw E (run_assignC rfl) fun fr E => ?_
  refine seq_nil' ?_
  refine wp_ret ?_
  refine then_ret ?_
  refine retC2 E rfl rfl rfl T.agg41 (M.row (i := 4) rfl) (rfl) ?_
  have M := M.pull 9 rfl
  exact ⟨N, rfl, Mem.fin (L := [nmE N] ++ _) M (List.sublist_append_left _ _) ⟨rfl, rfl, rfl⟩⟩

set_option maxRecDepth 100000 in
theorem whole_3 {N : NV} {a i : Nat} {sg sl0 sl : Int} {prev bl : List UInt8} {bv rv : Value} {ps : List (Value × List UInt8)} {w0 : World} (H : Has w0 [nmE N]) (ha : N.gn = a) (h1 : 0 ≤ sg ∧ sg ≤ 19) (h0 : 0 ≤ sl0 ∧ sl0 ≤ 31) (h2 : 0 ≤ sl ∧ sl ≤ 31) (hi : 3 + sg * 32 + sl = (i : Int)) (hp : prev.length = 32) (hb : Bytes w0 bv bl) (hv : Reads 1 w0 rv ps.length (ps.map (·.1))) (hq : ∀ q ∈ ps, Bytes w0 q.1 q.2) (hzp : ps.length ≤ 1000) (f1 : ∀ q, bv.ownBlock = some q → ¬ feet [nmE N] q ∧ q < w0.heap.size) (f2 : ∀ q, rv.ownBlock = some q → ¬ feet [nmE N] q) (f3 : ∀ p ∈ ps, ∀ q, p.1.ownBlock = some q → ¬ feet [nmE N] q ∧ q < w0.heap.size) (hkz : N.ks.length ≤ 1099511627776) (htz : N.ts.length ≤ 100000) {ep nn : Int} {s : Smy} (hg : sgetX N.ks 3 (i : Int) bl = some (ep, nn, smyB s)) (hs : s.Ok) (hc : checkS s = 0) (hpv : s.prev = prev) (hto : (toldF N.ts s.es sl0 (ps.map (·.2))).1 = false) : Does Try.prog 25 [.iface 30 (.pointer (some ⟨a, 0, none⟩)), .agg #[.int .i64 20, .int .i64 32, .int .i64 4], .agg #[.int .i64 sg, .int .i64 sl0], .agg #[.int .i64 sg, .int .i64 sl], .agg (bc prev).toArray, bv, rv] w0 [nmE N] (fun _ : NV => .tuple #[.agg bx0.toArray, .int .i64 20]) (fun x => [nmE x]) (fun x => x.gn = a ∧ x.ks = N.ks ∧ x.ts = (toldF N.ts s.es sl0 (ps.map (·.2))).2) := by
  refine enter (n := 78) Try.func25 rfl rfl rfl ?_
  intro fr E
  subst ha
  have M : Mem w0 (feet [nmE N]) [nmE N] (fun w' => Bytes w' bv bl ∧ Reads 1 w' rv ps.length (ps.map (·.1)) ∧ ∀ q ∈ ps, Bytes w' q.1 q.2) w0 := Mem.begin H (fun w' h => ⟨Reads.held hb h fun q hq' => (f1 q hq').1, Reads.held hv h f2, fun q hq' => Reads.held (hq q hq') h fun g hg => (f3 q hq' g hg).1⟩)
  obtain ⟨h16, -⟩ := checkS_in hc
  refine code_region ?_
  refine snew (ob := .cells (#[.int .i64 20, .int .i64 32, .int .i64 4]) 46) (fun g => .pointer (some ⟨g, 0, none⟩)) E M rfl rfl rfl rfl rfl (run_boxN (cs := (#[.int .i64 20, .int .i64 32, .int .i64 4])) rfl rfl) fun g0 fr w M E => ?_
  refine snew (ob := .cells (#[.int .i64 sg, .int .i64 sl0]) 26) (fun g => .pointer (some ⟨g, 0, none⟩)) E M rfl rfl rfl rfl rfl (run_boxN (cs := (#[.int .i64 sg, .int .i64 sl0])) rfl rfl) fun g1 fr w M E => ?_
  refine snew (ob := .cells (#[.int .i64 sg, .int .i64 sl]) 26) (fun g => .pointer (some ⟨g, 0, none⟩)) E M rfl rfl rfl rfl rfl (run_boxN (cs := (#[.int .i64 sg, .int .i64 sl])) rfl rfl) fun g2 fr w M E => ?_
  refine snew (ob := .cells ((bc prev).toArray) 28) (fun g => .pointer (some ⟨g, 0, none⟩)) E M rfl rfl rfl rfl rfl (run_boxN (cs := ((bc prev).toArray)) rfl rfl) fun g3 fr w M E => ?_
  refine snew (ob := .cells _ 41) (fun g => .pointer (some ⟨g, 0, none⟩)) E M rfl rfl rfl rfl rfl (run_allocN rfl T.zero41) fun g4 fr w M E => ?_
  refine sw E (run_assignC rfl) fun fr E => ?_
  refine seq_nil' ?_
  refine code_region ?_
  refine mv E fun fr E => ?_
  refine sw (v := .agg #[.int .i64 20, .int .i64 32, .int .i64 4]) E (run_loadAll rfl rfl T.agg46 (M.row (i := 4) rfl) rfl) fun fr E => ?_
  refine sw (v := .agg #[_, _]) E (run_loadAll rfl rfl T.agg26 (M.row (i := 2) rfl) rfl) fun fr E => ?_
  refine sgive E M rfl rfl rfl rfl rfl (run_call rfl rfl T.fn23) (At_i h1 h2 hi) fun fr w M E => ?_
  refine mv E fun fr E => ?_
  refine scall E M rfl rfl rfl rfl rfl (run_call rfl rfl T.fn38) (sGet_yes (M.fact.1) (M.has1 (i := 5) rfl) hkz hg) rfl ?_
  rintro q' fr w - M E
  refine mv E fun fr E => ?_
  refine sw E (run_extract rfl rfl rfl) fun fr E => ?_
  refine sw E (run_extract rfl rfl rfl) fun fr E => ?_
  refine snew (ob := .cells #[_, _, _, _, _] 98) (fun g => .pointer (some ⟨g, 0, none⟩)) E M rfl rfl rfl rfl rfl (run_allocN rfl T.zero98) fun g5 fr w M E => ?_
  refine sset (i := 0) (cs' := #[.int .i64 3, .int .i64 ep, .int .i64 nn, .int .i64 (i : Int), q']) E M rfl rfl rfl rfl rfl (run_storeN' (vs := #[.int .i64 3, .int .i64 ep, .int .i64 nn, .int .i64 (i : Int), q']) rfl rfl rfl T.size98 rfl (M.row (i := 0) rfl) rfl (by obtain ⟨b', c', e'⟩ := Reads.slice (M.reads 1 rfl); rw [e']; rfl) rfl) rfl fun fr w M E => ?_
  refine ma E fun fr E => ?_
  refine seq_nil' ?_
  refine wp_seq ?_
  refine code_region ?_
  refine mv E fun fr E => ?_
  refine sw (v := .bool false) E (tst rfl (rfl)) fun fr E => ?_
  refine seq_nil' ?_
  refine cond_false E rfl (rfl) ?_
  refine wp_skip ?_
  refine then_normal ?_
  refine code_region ?_
  refine sw (v := .pointer (some ⟨_, 4, none⟩)) E (run_fieldAddr rfl rfl T.fld98_4) fun fr E => ?_
  refine sw E (run_loadB rfl rfl T.one54 (M.row (i := 0) rfl) rfl) fun fr E => ?_
  refine scall E M rfl rfl rfl rfl rfl (run_call rfl rfl T.fn39) (bGet_ok (M.bytes 1 rfl) hs hc) rfl ?_
  rintro ev fr w - M E
  refine mv E fun fr E => ?_
  refine sw E (run_extract rfl rfl rfl) fun fr E => ?_
  refine sw E (run_extract rfl rfl rfl) fun fr E => ?_
  refine snew (ob := .cells _ 39) (fun g => .pointer (some ⟨g, 0, none⟩)) E M rfl rfl rfl rfl rfl (run_allocN rfl T.zero39) fun g6 fr w M E => ?_
  refine sset (i := 0) (cs' := (s.cells ev).toArray) E M rfl rfl rfl rfl rfl (run_storeAll (vs := (s.cells ev).toArray) rfl rfl rfl T.size39 (Smy.size hs) (M.row (i := 0) rfl) rfl (fun u hu => Smy.ones (v := ev) (by obtain ⟨b', c', e'⟩ := Reads.slice (M.reads 1 rfl); rw [e']; rfl) u (by simpa using hu))) rfl fun fr w M E => ?_
  refine ma E fun fr E => ?_
  refine seq_nil' ?_
  refine wp_seq ?_
  refine code_region ?_
  refine mv E fun fr E => ?_
  refine sw (v := .bool false) E (tst rfl (rfl)) fun fr E => ?_
  refine mv E fun fr E => ?_
  refine sw (v := .pointer (some ⟨_, 1, none⟩)) E (run_fieldAddr rfl rfl T.fld39_1) fun fr E => ?_
  refine sw (v := .agg (bc s.prev).toArray) E (run_loadN' (vs := (bc s.prev).toArray) rfl rfl T.agg28 (M.row (i := 0) rfl) (by rw [Smy.size hs]; rfl) (congrArg List.toArray (Smy.m_prev hs))) fun fr E => ?_
  refine sw (v := .agg (bc prev).toArray) E (run_loadAll rfl rfl T.agg28 (M.row (i := 5) rfl) (by simp [hp])) fun fr E => ?_
  refine sw (v := .bool false) E (run_neF (b := true) (xs := bc s.prev) (ys := bc prev) rfl rfl rfl T.flat28 (fit_sum hs.1) (fit_sum hp) (by rw [hpv]; simp)) fun fr E => ?_
  refine sw (v := .bool _) E (rfl) fun fr E => ?_
  refine mv E fun fr E => ?_
  refine mv E fun fr E => ?_
  refine sw (v := .pointer (some ⟨_, 34, none⟩)) E (run_fieldAddr rfl rfl T.fld39_3) fun fr E => ?_
  refine sw (v := ev) E (run_loadB rfl rfl T.one37 (M.row (i := 0) rfl) (Smy.c_es hs)) fun fr E => ?_
  refine sw (v := .pointer (some ⟨_, 1, none⟩)) E (run_fieldAddr rfl rfl T.fld26_1) fun fr E => ?_
  refine sw (v := .int .i64 sl0) E (run_loadB rfl rfl T.one3 (M.row (i := 7) rfl) rfl) fun fr E => ?_
  refine mv E fun fr E => ?_
  have M := M.pull 9 rfl
  refine scallI ([nmE N]) E M rfl rfl rfl rfl rfl (run_call rfl rfl T.fn40) rfl (fun H => told_x (N := N) H rfl hs.2 (by omega) hzp (by omega) (ownsRow_reads (M.ent (e := (.row 83 35 ev s.es.length (ecs s.es) : Ent)) 2 rfl)) (M.fact.2.1) (M.fact.2.2) (fun q hq' c => M.off (i := 0) (j := 2) rfl rfl rfl q hq' (feet_one.1 c)) f2 (fun p hp' q hq' => ⟨(f3 p hp' q hq').1, Nat.lt_of_lt_of_le (f3 p hp' q hq').2 M.ch.held.size⟩) (by omega)) ?_
  rintro N2 fr w ⟨hN1, hN2, hN3⟩ M E
  refine sw (v := .bool true) E (tst rfl (by rw [hto]; rfl)) fun fr E => ?_
  refine sw (v := .bool _) E (rfl) fun fr E => ?_
  refine seq_nil' ?_
  refine cond_true E rfl (rfl) ?_
  refine code_region ?_
  refine sw (v := .agg (bx0).toArray) E (run_buildP (vs := []) (us := bx0) rfl rfl T.ts41 T.zeroL41 (rfl) rfl rfl (rfl)) fun fr E => ?_
  refine sset (i := 5) (cs' := bx0.toArray) E M rfl rfl rfl rfl rfl (run_storeAll (vs := bx0.toArray) rfl rfl rfl T.size41 (rfl) (M.row (i := 5) rfl) rfl (fun u hu => bx0_one u (by simpa using hu))) rfl fun fr w M E => ?_
  refine sw E (run_assignC rfl) fun fr E => ?_
  refine seq_nil' ?_
  refine wp_ret ?_
  refine then_ret ?_
  refine retC2 E rfl rfl rfl T.agg41 (M.row (i := 5) rfl) (rfl) ?_
  exact ⟨N2, rfl, Mem.fin (L := [nmE N2] ++ _) M (List.sublist_append_left _ _) ⟨hN1, hN2, hN3⟩⟩

set_option maxHeartbeats 1000000 in
set_option maxRecDepth 100000 in
theorem whole_4 {N : NV} {a i : Nat} {sg sl0 sl : Int} {prev bl : List UInt8} {bv rv : Value} {ps : List (Value × List UInt8)} {w0 : World} (H : Has w0 [nmE N]) (ha : N.gn = a) (h1 : 0 ≤ sg ∧ sg ≤ 19) (h0 : 0 ≤ sl0 ∧ sl0 ≤ 31) (h2 : 0 ≤ sl ∧ sl ≤ 31) (hi : 3 + sg * 32 + sl = (i : Int)) (hp : prev.length = 32) (hb : Bytes w0 bv bl) (hv : Reads 1 w0 rv ps.length (ps.map (·.1))) (hq : ∀ q ∈ ps, Bytes w0 q.1 q.2) (hzp : ps.length ≤ 1000) (f1 : ∀ q, bv.ownBlock = some q → ¬ feet [nmE N] q ∧ q < w0.heap.size) (f2 : ∀ q, rv.ownBlock = some q → ¬ feet [nmE N] q) (f3 : ∀ p ∈ ps, ∀ q, p.1.ownBlock = some q → ¬ feet [nmE N] q ∧ q < w0.heap.size) (hkz : N.ks.length ≤ 1099511627776) (htz : N.ts.length ≤ 100000) {ep nn : Int} {s : Smy} (hg : sgetX N.ks 3 (i : Int) bl = some (ep, nn, smyB s)) (hs : s.Ok) (hc : checkS s = 0) (hpv : s.prev = prev) (hto : (toldF N.ts s.es sl0 (ps.map (·.2))).1 = true) (hgo : GoesOk sg sl s.next) : Does Try.prog 25 [.iface 30 (.pointer (some ⟨a, 0, none⟩)), .agg #[.int .i64 20, .int .i64 32, .int .i64 4], .agg #[.int .i64 sg, .int .i64 sl0], .agg #[.int .i64 sg, .int .i64 sl], .agg (bc prev).toArray, bv, rv] w0 [nmE N] (fun x : Value × NV => .tuple #[.agg (bxC s x.1 ep sg sl (endS sg sl s.next) (endL sl) (sumOf (textNo (toldF N.ts s.es sl0 (ps.map (·.2))).2 bl))).toArray, .int .i64 0]) (fun x => [(.row 83 35 x.1 s.es.length (ecs s.es) : Ent), nmE x.2]) (fun x => x.2.gn = a ∧ x.2.ks = N.ks ∧ x.2.ts = textKs (toldF N.ts s.es sl0 (ps.map (·.2))).2 bl) := by
  refine enter (n := 78) Try.func25 rfl rfl rfl ?_
  intro fr E
  subst ha
  have M : Mem w0 (feet [nmE N]) [nmE N] (fun w' => Bytes w' bv bl ∧ Reads 1 w' rv ps.length (ps.map (·.1)) ∧ ∀ q ∈ ps, Bytes w' q.1 q.2) w0 := Mem.begin H (fun w' h => ⟨Reads.held hb h fun q hq' => (f1 q hq').1, Reads.held hv h f2, fun q hq' => Reads.held (hq q hq') h fun g hg => (f3 q hq' g hg).1⟩)
  obtain ⟨h16, -⟩ := checkS_in hc
  refine code_region ?_
  refine snew (ob := .cells (#[.int .i64 20, .int .i64 32, .int .i64 4]) 46) (fun g => .pointer (some ⟨g, 0, none⟩)) E M rfl rfl rfl rfl rfl (run_boxN (cs := (#[.int .i64 20, .int .i64 32, .int .i64 4])) rfl rfl) fun g0 fr w M E => ?_
  refine snew (ob := .cells (#[.int .i64 sg, .int .i64 sl0]) 26) (fun g => .pointer (some ⟨g, 0, none⟩)) E M rfl rfl rfl rfl rfl (run_boxN (cs := (#[.int .i64 sg, .int .i64 sl0])) rfl rfl) fun g1 fr w M E => ?_
  refine snew (ob := .cells (#[.int .i64 sg, .int .i64 sl]) 26) (fun g => .pointer (some ⟨g, 0, none⟩)) E M rfl rfl rfl rfl rfl (run_boxN (cs := (#[.int .i64 sg, .int .i64 sl])) rfl rfl) fun g2 fr w M E => ?_
  refine snew (ob := .cells ((bc prev).toArray) 28) (fun g => .pointer (some ⟨g, 0, none⟩)) E M rfl rfl rfl rfl rfl (run_boxN (cs := ((bc prev).toArray)) rfl rfl) fun g3 fr w M E => ?_
  refine snew (ob := .cells _ 41) (fun g => .pointer (some ⟨g, 0, none⟩)) E M rfl rfl rfl rfl rfl (run_allocN rfl T.zero41) fun g4 fr w M E => ?_
  refine sw E (run_assignC rfl) fun fr E => ?_
  refine seq_nil' ?_
  refine code_region ?_
  refine mv E fun fr E => ?_
  refine sw (v := .agg #[.int .i64 20, .int .i64 32, .int .i64 4]) E (run_loadAll rfl rfl T.agg46 (M.row (i := 4) rfl) rfl) fun fr E => ?_
  refine sw (v := .agg #[_, _]) E (run_loadAll rfl rfl T.agg26 (M.row (i := 2) rfl) rfl) fun fr E => ?_
  refine sgive E M rfl rfl rfl rfl rfl (run_call rfl rfl T.fn23) (At_i h1 h2 hi) fun fr w M E => ?_
  refine mv E fun fr E => ?_
  refine scall E M rfl rfl rfl rfl rfl (run_call rfl rfl T.fn38) (sGet_yes (M.fact.1) (M.has1 (i := 5) rfl) hkz hg) rfl ?_
  rintro q' fr w - M E
  refine mv E fun fr E => ?_
  refine sw E (run_extract rfl rfl rfl) fun fr E => ?_
  refine sw E (run_extract rfl rfl rfl) fun fr E => ?_
  refine snew (ob := .cells #[_, _, _, _, _] 98) (fun g => .pointer (some ⟨g, 0, none⟩)) E M rfl rfl rfl rfl rfl (run_allocN rfl T.zero98) fun g5 fr w M E => ?_
  refine sset (i := 0) (cs' := #[.int .i64 3, .int .i64 ep, .int .i64 nn, .int .i64 (i : Int), q']) E M rfl rfl rfl rfl rfl (run_storeN' (vs := #[.int .i64 3, .int .i64 ep, .int .i64 nn, .int .i64 (i : Int), q']) rfl rfl rfl T.size98 rfl (M.row (i := 0) rfl) rfl (by obtain ⟨b', c', e'⟩ := Reads.slice (M.reads 1 rfl); rw [e']; rfl) rfl) rfl fun fr w M E => ?_
  refine ma E fun fr E => ?_
  refine seq_nil' ?_
  refine wp_seq ?_
  refine code_region ?_
  refine mv E fun fr E => ?_
  refine sw (v := .bool false) E (tst rfl (rfl)) fun fr E => ?_
  refine seq_nil' ?_
  refine cond_false E rfl (rfl) ?_
  refine wp_skip ?_
  refine then_normal ?_
  refine code_region ?_
  refine sw (v := .pointer (some ⟨_, 4, none⟩)) E (run_fieldAddr rfl rfl T.fld98_4) fun fr E => ?_
  refine sw E (run_loadB rfl rfl T.one54 (M.row (i := 0) rfl) rfl) fun fr E => ?_
  refine scall E M rfl rfl rfl rfl rfl (run_call rfl rfl T.fn39) (bGet_ok (M.bytes 1 rfl) hs hc) rfl ?_
  rintro ev fr w - M E
  refine mv E fun fr E => ?_
  refine sw E (run_extract rfl rfl rfl) fun fr E => ?_
  refine sw E (run_extract rfl rfl rfl) fun fr E => ?_
  refine snew (ob := .cells _ 39) (fun g => .pointer (some ⟨g, 0, none⟩)) E M rfl rfl rfl rfl rfl (run_allocN rfl T.zero39) fun g6 fr w M E => ?_
  refine sset (i := 0) (cs' := (s.cells ev).toArray) E M rfl rfl rfl rfl rfl (run_storeAll (vs := (s.cells ev).toArray) rfl rfl rfl T.size39 (Smy.size hs) (M.row (i := 0) rfl) rfl (fun u hu => Smy.ones (v := ev) (by obtain ⟨b', c', e'⟩ := Reads.slice (M.reads 1 rfl); rw [e']; rfl) u (by simpa using hu))) rfl fun fr w M E => ?_
  refine ma E fun fr E => ?_
  refine seq_nil' ?_
  refine wp_seq ?_
  refine code_region ?_
  refine mv E fun fr E => ?_
  refine sw (v := .bool false) E (tst rfl (rfl)) fun fr E => ?_
  refine mv E fun fr E => ?_
  refine sw (v := .pointer (some ⟨_, 1, none⟩)) E (run_fieldAddr rfl rfl T.fld39_1) fun fr E => ?_
  refine sw (v := .agg (bc s.prev).toArray) E (run_loadN' (vs := (bc s.prev).toArray) rfl rfl T.agg28 (M.row (i := 0) rfl) (by rw [Smy.size hs]; rfl) (congrArg List.toArray (Smy.m_prev hs))) fun fr E => ?_
  refine sw (v := .agg (bc prev).toArray) E (run_loadAll rfl rfl T.agg28 (M.row (i := 5) rfl) (by simp [hp])) fun fr E => ?_
  refine sw (v := .bool false) E (run_neF (b := true) (xs := bc s.prev) (ys := bc prev) rfl rfl rfl T.flat28 (fit_sum hs.1) (fit_sum hp) (by rw [hpv]; simp)) fun fr E => ?_
  refine sw (v := .bool _) E (rfl) fun fr E => ?_
  refine mv E fun fr E => ?_
  refine mv E fun fr E => ?_
  refine sw (v := .pointer (some ⟨_, 34, none⟩)) E (run_fieldAddr rfl rfl T.fld39_3) fun fr E => ?_
  refine sw (v := ev) E (run_loadB rfl rfl T.one37 (M.row (i := 0) rfl) (Smy.c_es hs)) fun fr E => ?_
  refine sw (v := .pointer (some ⟨_, 1, none⟩)) E (run_fieldAddr rfl rfl T.fld26_1) fun fr E => ?_
  refine sw (v := .int .i64 sl0) E (run_loadB rfl rfl T.one3 (M.row (i := 7) rfl) rfl) fun fr E => ?_
  refine mv E fun fr E => ?_
  have M := M.pull 9 rfl
  refine scallI ([nmE N]) E M rfl rfl rfl rfl rfl (run_call rfl rfl T.fn40) rfl (fun H => told_x (N := N) H rfl hs.2 (by omega) hzp (by omega) (ownsRow_reads (M.ent (e := (.row 83 35 ev s.es.length (ecs s.es) : Ent)) 2 rfl)) (M.fact.2.1) (M.fact.2.2) (fun q hq' c => M.off (i := 0) (j := 2) rfl rfl rfl q hq' (feet_one.1 c)) f2 (fun p hp' q hq' => ⟨(f3 p hp' q hq').1, Nat.lt_of_lt_of_le (f3 p hp' q hq').2 M.ch.held.size⟩) (by omega)) ?_
  rintro N2 fr w ⟨hN1, hN2, hN3⟩ M E
  refine sw (v := .bool false) E (tst rfl (by rw [hto]; rfl)) fun fr E => ?_
  refine sw (v := .bool _) E (rfl) fun fr E => ?_
  refine seq_nil' ?_
  refine cond_false E rfl (rfl) ?_
  refine wp_skip ?_
  refine then_normal ?_
  refine code_region ?_
  refine sw (v := .agg #[.int .i64 20, .int .i64 32, .int .i64 4]) E (run_loadAll rfl rfl T.agg46 (M.row (i := 9) rfl) rfl) fun fr E => ?_
  refine sw (v := .agg #[.int .i64 sg, .int .i64 sl]) E (run_loadAll rfl rfl T.agg26 (M.row (i := 7) rfl) rfl) fun fr E => ?_
  refine sw (v := .pointer (some ⟨_, 33, none⟩)) E (run_fieldAddr rfl rfl T.fld39_2) fun fr E => ?_
  refine sw (v := .int .i64 s.next) E (run_loadB rfl rfl T.one3 (M.row (i := 1) rfl) (Smy.c_next hs)) fun fr E => ?_
  refine sgive E M rfl rfl rfl rfl rfl (run_call rfl rfl T.fn41) (goes_x h1 h2 hgo) fun fr w M E => ?_
  refine mv E fun fr E => ?_
  refine sw E (run_extract rfl rfl rfl) fun fr E => ?_
  refine sw E (run_extract rfl rfl rfl) fun fr E => ?_
  refine snew (ob := .cells #[_, _] 26) (fun g => .pointer (some ⟨g, 0, none⟩)) E M rfl rfl rfl rfl rfl (run_allocN rfl T.zero26) fun g7 fr w M E => ?_
  refine sset (i := 0) (cs' := #[.int .i64 (endS sg sl s.next), .int .i64 (endL sl)]) E M rfl rfl rfl rfl rfl (run_storeN' (vs := #[_, _]) rfl rfl rfl T.size26 rfl (M.row (i := 0) rfl) rfl rfl rfl) rfl fun fr w M E => ?_
  refine ma E fun fr E => ?_
  refine seq_nil' ?_
  refine wp_seq ?_
  refine code_region ?_
  refine mv E fun fr E => ?_
  refine sw (v := .bool false) E (tst rfl (rfl)) fun fr E => ?_
  refine seq_nil' ?_
  refine cond_false E rfl (rfl) ?_
  refine wp_skip ?_
  refine then_normal ?_
  have M := M.pull 6 rfl
  have M := M.pull 2 rfl
  have hoffE : ev.oneCell' = true := by obtain ⟨b', c', e'⟩ := Reads.slice (M.reads 4 rfl); rw [e']; rfl
  have M : Mem _ _ (([nmE N2] ++ ([.blk g4 (.cells bx0.toArray 41)] ++ [])) ++ _) _ _ := M
  have hown := fun q h => M.own (nmE N2) (by simp) q h
  have htl := toldF_len s.es N.ts sl0 (ps.map (·.2))
  have hSum : ∀ w', Has w' [nmE N2] → Bytes w' bv bl → Does Try.prog 46 [.pointer (some ⟨N.gn, 0, none⟩), bv] w' [nmE N2] (fun _ : NV => .agg (bc (sumOf (textNo N2.ts bl))).toArray) (fun x => [] ++ [nmE x]) (fun y : NV => y.gn = N2.gn ∧ y.ks = N2.ks ∧ y.ts = textKs N2.ts bl) := fun w' H' hb' => by rw [← hN1]; exact Sum_p (N := N2) H' hb' (fun q hq' c => (hown q c).elim (fun h => Nat.not_le_of_lt (f1 q hq').2 h) (f1 q hq').1) (by rw [hN3]; omega)
  have hp2 := List.pairwise_append.1 (List.pairwise_append.1 M.apart).1
  have h34 : ∀ q, feet [nmE N2] q → ¬ feet [.blk g4 (.cells bx0.toArray 41)] q := fun q ⟨x1, m1, q1⟩ ⟨x2, m2, q2⟩ => hp2.2.2 x1 m1 x2 (List.mem_append_left _ m2) q q1 q2
  have old : ∀ q, feet ([nmE N2] ++ ([.blk g4 (.cells bx0.toArray 41)] ++ [])) q → q < w.heap.size := fun q ⟨x1, m1, q1⟩ => M.lt x1 (List.mem_append_left _ m1) q q1
  refine wp_seq (free_regR (B := T.tab25_10_b) (Vs := (.exact (.agg (s.cells ev).toArray) :: .exact (.pointer (some ⟨g5, 1, none⟩)) :: .exact (.int .i64 ep) :: .exact (.agg #[.int .i64 sg, .int .i64 sl]) :: .exact (.agg #[.int .i64 (endS sg sl s.next), .int .i64 (endL sl)]) :: .exact (.iface 30 (.pointer (some ⟨N.gn, 0, none⟩))) :: .exact bv :: CameI w.heap.size ([nmE N2]) (fun _ : NV => .agg (bc (sumOf (textNo N2.ts bl))).toArray) (fun y => [nmE y]) (fun y : NV => y.gn = N2.gn ∧ y.ks = N2.ks ∧ y.ts = textKs N2.ts bl) :: .exact (.agg (bxC s ev ep sg sl (endS sg sl s.next) (endL sl) (sumOf (textNo N2.ts bl))).toArray) :: CameI w.heap.size ([.blk g4 (.cells bx0.toArray 41)]) (fun _ : Unit => undef) (fun _ => [.blk g4 (.cells (bxC s ev ep sg sl (endS sg sl s.next) (endL sl) (sumOf (textNo N2.ts bl))).toArray 41)]) (fun _ => True) :: .exact (.int .i64 0) :: [])) (ownRoad (thrFs 7 9 99 ([nmE N2]) ([.blk g4 (.cells bx0.toArray 41)]) []) w.drew) T.tab25_10_i E T.mixed T.tab25_10 rfl ?_ ⟨fr_val rfl rfl M (fun i g h => thrFs_in h) (fun x w' M' hB hk => ⟨_, _, rfl, rfl, rfl, run_loadAll rfl rfl T.agg39 (M'.row (i := 1) rfl) (Smy.size hs), Ext.refl _, rfl⟩),
      fr_val rfl rfl M (fun i g h => thrFs_in h) (fun x w' M' hB hk => ⟨_, _, rfl, rfl, rfl, run_fieldAddr rfl rfl T.fld98_1, Ext.refl _, rfl⟩),
      fr_val rfl rfl M (fun i g h => thrFs_in h) (fun x w' M' hB hk => ⟨_, _, rfl, rfl, rfl, run_loadB rfl rfl T.one3 (M'.row (i := 3) rfl) rfl, Ext.refl _, rfl⟩),
      fr_val rfl rfl M (fun i g h => thrFs_in h) (fun x w' M' hB hk => ⟨_, _, rfl, rfl, rfl, run_loadAll rfl rfl T.agg26 (M'.row (i := 6) rfl) rfl, Ext.refl _, rfl⟩),
      fr_val rfl rfl M (fun i g h => thrFs_in h) (fun x w' M' hB hk => ⟨_, _, rfl, rfl, rfl, run_loadAll rfl rfl T.agg26 (M'.row (i := 0) rfl) rfl, Ext.refl _, rfl⟩),
      fr_val rfl rfl M (fun i g h => thrFs_in h) (fun x w' M' hB hk => ⟨_, _, rfl, rfl, rfl, run_move rfl rfl, Ext.refl _, rfl⟩),
      fr_val rfl rfl M (fun i g h => thrFs_in h) (fun x w' M' hB hk => ⟨_, _, rfl, rfl, rfl, run_move rfl rfl, Ext.refl _, rfl⟩),
      fr_call (J := [nmE N2]) rfl rfl M (fun i g h => thrFs_in h) (M.has.sub ((List.sublist_append_left _ _).trans (List.sublist_append_left _ _))) (fun j hj q h => h.elim (fun h => absurd h.1 hj) fun h => h.elim (fun h c => h34 q c h.2) fun h c => feet_nil h.2) (fun x w' M' H' hB hk => ⟨_, _, rfl, rfl, rfl, run_invoke rfl rfl T.meth30_Sum T.fn46, (hSum w' H' M'.fact.1).own (Fs := thrFs 7 9 99 ([nmE N2]) ([.blk g4 (.cells bx0.toArray 41)]) []) (i := 7) hB (fun q hq => Or.inl ⟨rfl, hq⟩)⟩),
      fr_val rfl rfl M (fun i g h => thrFs_in h) (fun x w' M' hB hk => ⟨_, _, rfl, rfl, rfl, by obtain ⟨y, hy, _⟩ := hk 7 rfl; exact run_buildP (vs := [.agg (s.cells ev).toArray, .int .i64 ep, .agg #[.int .i64 sg, .int .i64 sl], .agg #[.int .i64 (endS sg sl s.next), .int .i64 (endL sl)], .agg (bc (sumOf (textNo N2.ts bl))).toArray]) (us := (bxC s ev ep sg sl (endS sg sl s.next) (endL sl) (sumOf (textNo N2.ts bl)))) rfl (by simp only [List.zipIdx, List.map]; exact bx_map hy) T.ts41 T.zeroL41 (by simp [Value.cells, Smy.len hs, sumOf_len]) rfl rfl (by simp [Value.cells, bxC, iv]), Ext.refl _, rfl⟩),
      fr_setG (cs := bx0.toArray) (cs' := (bxC s ev ep sg sl (endS sg sl s.next) (endL sl) (sumOf (textNo N2.ts bl))).toArray) rfl rfl M (fun i g h => thrFs_in h) (M.has.sub ((List.sublist_append_left _ _).trans ((List.sublist_append_right _ _).trans (List.sublist_append_left _ _)))) (fun j hj q h => h.elim (fun h c => h34 q h.2 c) fun h => h.elim (fun h => absurd h.1 hj) fun h c => feet_nil h.2) (fun q hq => Or.inr (Or.inl ⟨rfl, hq⟩)) (fun x w' M' H' hB hk => ⟨rfl, rfl, rfl, run_storeAll (vs := (bxC s ev ep sg sl (endS sg sl s.next) (endL sl) (sumOf (textNo N2.ts bl))).toArray) rfl rfl rfl T.size41 (by simp [bxC, Smy.cells, hs.1, sumOf_len]) (H'.ent 0 rfl) rfl (fun u hu => bxC_one hoffE u (by simpa using hu))⟩),
      fr_val rfl rfl M (fun i g h => thrFs_in h) (fun x w' M' hB hk => ⟨_, _, rfl, rfl, rfl, run_assignC rfl, Ext.refl _, rfl⟩), trivial⟩ ?_)
  · exact allG_ok rfl ⟨trivial, trivial, trivial, trivial, trivial, trivial, trivial, LastsR.came (fun q ⟨i, h0, h⟩ => old q (thrFs_in h)) (fun q ⟨i, h0, h⟩ c => h.elim (fun h => h0 h.1) fun h => h.elim (fun h => h34 q c h.2) fun h => feet_nil h.2), trivial, LastsR.came (fun q ⟨i, h0, h⟩ => old q (thrFs_in h)) (fun q ⟨i, h0, h⟩ c => h.elim (fun h => h34 q h.2 c) fun h => h.elim (fun h => h0 h.1) fun h => feet_nil h.2), trivial, trivial⟩
  intro x fr w2 ⟨bb, hb2, hI⟩ hk E
  obtain ⟨N4, hy, ⟨hN4, hN5, hN6⟩, M⟩ := M.behind3 (val := fun _ : NV => .agg (bc (sumOf (textNo N2.ts bl))).toArray) (outs := fun y => [nmE y]) (p := fun y : NV => y.gn = N2.gn ∧ y.ks = N2.ks ∧ y.ts = textKs N2.ts bl) (K' := [.blk g4 (.cells (bxC s ev ep sg sl (endS sg sl s.next) (endL sl) (sumOf (textNo N2.ts bl))).toArray 41)]) (I' := []) (u2 := undef) hI (hk 7 (by decide)) (hk 9 (by decide)) ⟨(), rfl, Has.nil _, fun q h => (feet_nil h).elim, trivial⟩ (fun q h => feet_one.2 (by have := feet_one.1 h; exact this)) (fun q h => h)
  refine then_normal ?_
  refine wp_ret ?_
  refine retC2 E rfl rfl rfl T.agg41 (M.row (i := 1) rfl) ((by simp [bxC, Smy.cells, hs.1, sumOf_len])) ?_
  have M := M.pull 4 rfl
  rw [hN3] at hN6
  rw [hN3]
  exact ⟨(ev, N4), rfl, Mem.fin (L := [(.row 83 35 ev s.es.length (ecs s.es) : Ent), nmE N4] ++ _) M (List.sublist_append_left _ _) ⟨hN4.trans hN1, hN5.trans hN2, hN6⟩⟩
end Go.Proofs.Ytnebjbgcibjohaa.K
end
section
namespace Go.Proofs.Ytnebjbgcibjohaa.K
open Go.RowKit Go.Rill Go.Proofs
set_option linter.unusedVariables false
set_option linter.unusedSimpArgs false
/-- A batch that is told: its summary, its epoch, its summary's slot, its digest. -/
structure Bx where
  s : Smy
  ep : Int
  sl : Int
  sum : List UInt8
def wholeF (ks : List NKey) (S : Nat → Smy) (ts : List (List UInt8)) (sg sl0 : Int) (i : Nat) (prev bl : List UInt8) (bs : List (List UInt8)) : Option Bx × List (List UInt8) :=
  match sgetX ks 3 (i : Int) bl with
  | none => (none, ts)
  | some x => if ¬ (S i).prev = prev then (none, ts) else if (toldF ts (S i).es sl0 bs).1 = true then (some ⟨S i, x.1, (i : Int) - (3 + sg * 32), sumOf (textNo (toldF ts (S i).es sl0 bs).2 bl)⟩, textKs (toldF ts (S i).es sl0 bs).2 bl) else (none, (toldF ts (S i).es sl0 bs).2)
def nextF (rd : Nat → List UInt8) (ks : List NKey) (S : Nat → Smy) (ts : List (List UInt8)) (sg sl0 : Int) (prev : List UInt8) : Nat → Nat → List (List UInt8) → Option Bx × List (List UInt8)
  | 0, _, _ => (none, ts)
  | k + 1, i, bs => if kindOf (rd i) = 4 ∨ kindOf (rd i) = 5 then nextF rd ks S ts sg sl0 prev k (i + 1) (bs ++ [rd i]) else if kindOf (rd i) = 3 then wholeF ks S ts sg sl0 i prev (rd i) bs else (none, ts)
section
variable {rd : Nat → List UInt8} {ks : List NKey} {S : Nat → Smy} {ts : List (List UInt8)} {sg sl0 : Int} {prev : List UInt8} {k i : Nat} {bs : List (List UInt8)}
theorem next_row (h : kindOf (rd i) = 4 ∨ kindOf (rd i) = 5) : nextF rd ks S ts sg sl0 prev (k + 1) i bs = nextF rd ks S ts sg sl0 prev k (i + 1) (bs ++ [rd i]) := by simp only [nextF, if_pos h]
theorem next_whole (h4 : ¬ kindOf (rd i) = 4) (h5 : ¬ kindOf (rd i) = 5) (h3 : kindOf (rd i) = 3) : nextF rd ks S ts sg sl0 prev (k + 1) i bs = wholeF ks S ts sg sl0 i prev (rd i) bs := by
  have h : ¬ (kindOf (rd i) = 4 ∨ kindOf (rd i) = 5) := fun c => c.elim h4 h5
  simp only [nextF, if_neg h, if_pos h3]
theorem next_else (h4 : ¬ kindOf (rd i) = 4) (h5 : ¬ kindOf (rd i) = 5) (h3 : ¬ kindOf (rd i) = 3) : nextF rd ks S ts sg sl0 prev (k + 1) i bs = (none, ts) := by
  have h : ¬ (kindOf (rd i) = 4 ∨ kindOf (rd i) = 5) := fun c => c.elim h4 h5
  simp only [nextF, if_neg h, if_neg h3]
end
/-- What is sealed as a summary of this segment is one. -/
def Good (ks : List NKey) (S : Nat → Smy) (sg : Int) : Prop := ∀ (i : Nat) (sl : Int) (l : List UInt8) (x : Int × Int × List UInt8), 0 ≤ sl ∧ sl ≤ 31 → 3 + sg * 32 + sl = (i : Int) → sgetX ks 3 (i : Int) l = some x → x.2.2 = smyB (S i) ∧ (S i).Ok ∧ checkS (S i) = 0 ∧ GoesOk sg sl (S i).next
/-- A disk that was only read. -/
def Seen (A A' : AD) : Prop := A' = { A with reads := A'.reads }
theorem Seen.refl (A : AD) : Seen A A := rfl
theorem Seen.bump {A A' : AD} (h : Seen A A') (j : Nat) : Seen A (A'.bump j) := by
  unfold Seen at h ⊢
  rw [h]
  rfl
theorem Seen.read {A A' : AD} (h : Seen A A') (j : Nat) : A'.read j = A.read j := by
  rw [h]
  rfl
theorem Seen.n {A A' : AD} (h : Seen A A') : A'.n = A.n := by
  rw [h]
theorem Seen.trans {A B C : AD} (h : Seen A B) (k : Seen B C) : Seen A C := by
  unfold Seen at h k ⊢
  rw [k, h]
theorem _root_.Go.Rill.Mem.nilPoolF {w0 w : World} {O : Nat → Prop} {L : List Ent} {Φ : World → Prop} (M : Mem w0 O L Φ w) : Mem w0 O (.pool [] :: L) Φ w :=
  M.adopt (Ext.refl w) _ (fun p hp => nomatch hp) fun g hg => nomatch hg
theorem _root_.Go.Rill.Reads.cellR {w : World} {v : Value} {n sz : Nat} {xs : List Value} (h : Reads sz w v n xs) : v.cells = #[v] := by
  obtain ⟨b, c, rfl⟩ := h.slice
  rfl
theorem _root_.Go.Rill.Reads.oneR {w : World} {v : Value} {n sz : Nat} {xs : List Value} (h : Reads sz w v n xs) : v.oneCell' = true := by
  obtain ⟨b, c, rfl⟩ := h.slice
  rfl
theorem _root_.Go.Rill.Reads.asLen {w : World} {v : Value} {n m sz : Nat} {xs : List Value} (h : Reads sz w v n xs) (e : n = m) : Reads sz w v m xs := e ▸ h
theorem _root_.Go.Rill.Mem.offE {w0 w : World} {O : Nat → Prop} {L : List Ent} {Φ : World → Prop} {e e' : Ent} {i j : Nat} (M : Mem w0 O L Φ w) (hi : L[i]? = some e) (hj : L[j]? = some e') (hij : Nat.beq i j = false) : ∀ g, g ∈ e'.foot → g ∉ e.foot := fun g hg hc => by
  have hne : i ≠ j := fun c => by subst c; rw [Nat.beq_refl] at hij; cases hij
  obtain ⟨hi1, hi2⟩ := List.getElem?_eq_some_iff.1 hi
  obtain ⟨hj1, hj2⟩ := List.getElem?_eq_some_iff.1 hj
  have hp := List.pairwise_iff_getElem.1 M.apart
  have hg' : g ∈ (L[j]).foot := by rw [hj2]; exact hg
  have hc' : g ∈ (L[i]).foot := by rw [hi2]; exact hc
  rcases Nat.lt_or_gt_of_ne hne with h | h
  · exact hp i j hi1 hj1 h g hc' hg'
  · exact hp j i hj1 hi1 h g hg' hc'
set_option maxRecDepth 100000 in
theorem LenR_d {gd gm : Nat} {lv rv : Value} {S : Dsk} {w0 : World} (H : Has w0 (dsk gd gm lv rv S)) (hS : S.Ok)  : Gives Try.prog 11 [.pointer (some ⟨gd, 0, none⟩)] w0 (.int .i64 (S.n : Int)) := by
  refine enter (n := 8) Try.func11 rfl rfl rfl ?_
  intro fr E
  have M : Mem w0 (feet []) [] (fun w' => Has w' (dsk gd gm lv rv S)) w0 := Mem.begin (Has.nil w0) (fun w' h => H.held h fun g hg c => feet_nil c)
  refine code_region ?_
  refine sw E (run_assignC rfl) fun fr E => ?_
  refine seq_nil' ?_
  refine code_region ?_
  refine mv E fun fr E => ?_
  refine sw E (run_nilCheck rfl rfl) fun fr E => ?_
  refine sw (v := .pointer (some ⟨_, 0, none⟩)) E (run_fieldAddr rfl rfl T.fld78_0) fun fr E => ?_
  refine sw E (run_loadB rfl rfl T.one52 (M.fact.ent 0 rfl) rfl) fun fr E => ?_
  refine sw (v := .int .i64 _) E (run_lenR rfl rfl rfl rfl T.slice52 (ownsRow_reads (M.fact.ent 1 rfl))) fun fr E => ?_
  refine ma E fun fr E => ?_
  refine seq_nil' ?_
  refine wp_ret ?_
  refine ret1 E rfl rfl ?_
  exact given M

theorem LenR_g {D : DV} {g : Nat} {A : AD} {w0 : World} (H : Has w0 [dkE D]) (hD : D.is g A) : Gives Try.prog 11 [.pointer (some ⟨g, 0, none⟩)] w0 (.int .i64 (A.n : Int)) := by
  obtain ⟨gd, gm, lv, rv, S⟩ := D
  obtain ⟨hg, hA⟩ := hD
  have hg : gd = g := hg
  have hA : S.Abs A := hA
  subst hg
  rw [← hA.n]
  exact LenR_d H.unpack1 hA.ok

theorem whole_no {N : NV} {a i : Nat} {sg sl0 sl : Int} {prev bl : List UInt8} {bv rv : Value} {ps : List (Value × List UInt8)} {w0 : World} (H : Has w0 [nmE N]) (ha : N.gn = a) (h1 : 0 ≤ sg ∧ sg ≤ 19) (h0 : 0 ≤ sl0 ∧ sl0 ≤ 31) (h2 : 0 ≤ sl ∧ sl ≤ 31) (hi : 3 + sg * 32 + sl = (i : Int)) (hp : prev.length = 32) (hb : Bytes w0 bv bl) (hv : Reads 1 w0 rv ps.length (ps.map (·.1))) (hq : ∀ q ∈ ps, Bytes w0 q.1 q.2) (hzp : ps.length ≤ 1000) (f1 : ∀ q, bv.ownBlock = some q → ¬ feet [nmE N] q ∧ q < w0.heap.size) (f2 : ∀ q, rv.ownBlock = some q → ¬ feet [nmE N] q) (f3 : ∀ p ∈ ps, ∀ q, p.1.ownBlock = some q → ¬ feet [nmE N] q ∧ q < w0.heap.size) (hkz : N.ks.length ≤ 1099511627776) (htz : N.ts.length ≤ 100000) {S : Nat → Smy} (hG : Good N.ks S sg) (hw : (wholeF N.ks S N.ts sg sl0 i prev bl (ps.map (·.2))).1 = none) : Does Try.prog 25 [.iface 30 (.pointer (some ⟨a, 0, none⟩)), .agg #[.int .i64 20, .int .i64 32, .int .i64 4], .agg #[.int .i64 sg, .int .i64 sl0], .agg #[.int .i64 sg, .int .i64 sl], .agg (bc prev).toArray, bv, rv] w0 [nmE N] (fun _ : NV => .tuple #[.agg bx0.toArray, .int .i64 20]) (fun x => [nmE x]) (fun x => x.gn = a ∧ x.ks = N.ks ∧ x.ts = (wholeF N.ks S N.ts sg sl0 i prev bl (ps.map (·.2))).2) := by
  unfold wholeF at hw ⊢
  cases hg : sgetX N.ks 3 (i : Int) bl with
  | none =>
    subst ha
    obtain ⟨err, he0, he1⟩ := sGet_err hkz hg
    exact whole_1 H rfl h1 h0 h2 hi hp hb hv hq hzp f1 f2 f3 hkz htz err he0 he1
  | some x =>
    obtain ⟨e, n, q⟩ := x
    obtain ⟨g1, g2, g3, g4⟩ := hG i sl bl _ h2 hi hg
    have g1 : q = smyB (S i) := g1
    subst g1
    rw [hg] at hw
    simp only at hw ⊢
    by_cases hpv : (S i).prev = prev
    · rw [if_neg (fun c => c hpv)] at hw ⊢
      by_cases ht : (toldF N.ts (S i).es sl0 (ps.map (·.2))).1 = true
      · rw [if_pos ht] at hw; cases hw
      · rw [if_neg ht]
        exact whole_3 H ha h1 h0 h2 hi hp hb hv hq hzp f1 f2 f3 hkz htz hg g2 g3 hpv (by simpa using ht)
    · rw [if_pos hpv]
      exact whole_2 H ha h1 h0 h2 hi hp hb hv hq hzp f1 f2 f3 hkz htz hg g2 g3 hpv

theorem whole_yes {N : NV} {a i : Nat} {sg sl0 sl : Int} {prev bl : List UInt8} {bv rv : Value} {ps : List (Value × List UInt8)} {w0 : World} (H : Has w0 [nmE N]) (ha : N.gn = a) (h1 : 0 ≤ sg ∧ sg ≤ 19) (h0 : 0 ≤ sl0 ∧ sl0 ≤ 31) (h2 : 0 ≤ sl ∧ sl ≤ 31) (hi : 3 + sg * 32 + sl = (i : Int)) (hp : prev.length = 32) (hb : Bytes w0 bv bl) (hv : Reads 1 w0 rv ps.length (ps.map (·.1))) (hq : ∀ q ∈ ps, Bytes w0 q.1 q.2) (hzp : ps.length ≤ 1000) (f1 : ∀ q, bv.ownBlock = some q → ¬ feet [nmE N] q ∧ q < w0.heap.size) (f2 : ∀ q, rv.ownBlock = some q → ¬ feet [nmE N] q) (f3 : ∀ p ∈ ps, ∀ q, p.1.ownBlock = some q → ¬ feet [nmE N] q ∧ q < w0.heap.size) (hkz : N.ks.length ≤ 1099511627776) (htz : N.ts.length ≤ 100000) {S : Nat → Smy} (hG : Good N.ks S sg) {B : Bx} (hw : (wholeF N.ks S N.ts sg sl0 i prev bl (ps.map (·.2))).1 = some B) : Does Try.prog 25 [.iface 30 (.pointer (some ⟨a, 0, none⟩)), .agg #[.int .i64 20, .int .i64 32, .int .i64 4], .agg #[.int .i64 sg, .int .i64 sl0], .agg #[.int .i64 sg, .int .i64 sl], .agg (bc prev).toArray, bv, rv] w0 [nmE N] (fun x : Value × NV => .tuple #[.agg (bxC B.s x.1 B.ep sg B.sl (endS sg B.sl B.s.next) (endL B.sl) B.sum).toArray, .int .i64 0]) (fun x => [(.row 83 35 x.1 B.s.es.length (ecs B.s.es) : Ent), nmE x.2]) (fun x => x.2.gn = a ∧ x.2.ks = N.ks ∧ x.2.ts = (wholeF N.ks S N.ts sg sl0 i prev bl (ps.map (·.2))).2) := by
  unfold wholeF at hw ⊢
  cases hg : sgetX N.ks 3 (i : Int) bl with
  | none => rw [hg] at hw; cases hw
  | some x =>
    obtain ⟨e, n, q⟩ := x
    obtain ⟨g1, g2, g3, g4⟩ := hG i sl bl _ h2 hi hg
    have g1 : q = smyB (S i) := g1
    subst g1
    rw [hg] at hw
    simp only at hw ⊢
    by_cases hpv : (S i).prev = prev
    · rw [if_neg (fun c => c hpv)] at hw ⊢
      by_cases ht : (toldF N.ts (S i).es sl0 (ps.map (·.2))).1 = true
      · rw [if_pos ht] at hw ⊢
        have hw := (Option.some.inj hw).symm
        subst hw
        have e1 : (i : Int) - (3 + sg * 32) = sl := by omega
        simp only [e1]
        exact whole_4 H ha h1 h0 h2 hi hp hb hv hq hzp f1 f2 f3 hkz htz hg g2 g3 hpv ht g4
      · rw [if_neg ht] at hw; cases hw
    · rw [if_pos hpv] at hw; cases hw

set_option maxHeartbeats 1000000 in
set_option maxRecDepth 100000 in
theorem next_no {D : DV} {N : NV} {a g : Nat} {A : AD} {S : Nat → Smy} {sg sl0 : Int} {prev : List UInt8} {w0 : World} (H : Has w0 [dkE D, nmE N]) (hD : D.is g A) (ha : N.gn = a) (h1 : 0 ≤ sg ∧ sg ≤ 19) (h0 : 0 ≤ sl0 ∧ sl0 ≤ 31) (hp : prev.length = 32) (hn : A.n = 643) (hkz : N.ks.length ≤ 1099511627776) (htz : N.ts.length ≤ 100000) (hG : Good N.ks S sg) {R : Option Bx × List (List UInt8)} (hR : (nextF A.read N.ks S N.ts sg sl0 prev (32 - sl0).toNat (3 + sg * 32 + sl0).toNat []) = R) (hRn : R.1 = none) : Does Try.prog 7 [.pointer (some ⟨g, 0, none⟩), .iface 30 (.pointer (some ⟨a, 0, none⟩)), .agg #[.int .i64 20, .int .i64 32, .int .i64 4], .agg #[.int .i64 sg, .int .i64 sl0], .agg (bc prev).toArray] w0 [dkE D, nmE N] (fun _ : DV × NV => .tuple #[.agg bx0.toArray, .int .i64 20]) (fun x => [dkE x.1, nmE x.2]) (fun x => (∃ A', x.1.is g A' ∧ Seen A A') ∧ x.2.gn = a ∧ x.2.ks = N.ks ∧ x.2.ts = R.2) := by
  refine enter (n := 80) Try.func7 rfl rfl rfl ?_
  intro fr E
  subst ha
  have M : Mem w0 (feet [dkE D, nmE N]) [dkE D, nmE N] (fun _ => True) w0 := Mem.begin H (fun _ _ => trivial)
  refine code_region ?_
  refine snew (ob := .cells (#[.int .i64 20, .int .i64 32, .int .i64 4]) 46) (fun g => .pointer (some ⟨g, 0, none⟩)) E M rfl rfl rfl rfl rfl (run_boxN (cs := (#[.int .i64 20, .int .i64 32, .int .i64 4])) rfl rfl) fun g0 fr w M E => ?_
  refine snew (ob := .cells (#[.int .i64 sg, .int .i64 sl0]) 26) (fun g => .pointer (some ⟨g, 0, none⟩)) E M rfl rfl rfl rfl rfl (run_boxN (cs := (#[.int .i64 sg, .int .i64 sl0])) rfl rfl) fun g1 fr w M E => ?_
  refine snew (ob := .cells ((bc prev).toArray) 28) (fun g => .pointer (some ⟨g, 0, none⟩)) E M rfl rfl rfl rfl rfl (run_boxN (cs := ((bc prev).toArray)) rfl rfl) fun g2 fr w M E => ?_
  refine snew (ob := .cells _ 41) (fun g => .pointer (some ⟨g, 0, none⟩)) E M rfl rfl rfl rfl rfl (run_allocN rfl T.zero41) fun g3 fr w M E => ?_
  refine sw E (run_assignC rfl) fun fr E => ?_
  refine seq_nil' ?_
  refine wp_scope_straight ?_
  refine wp_seq (free_reg (B := T.tab7_1_b) (Vs := (.exact (.agg #[.int .i64 20, .int .i64 32, .int .i64 4]) :: .exact (.agg #[.int .i64 sg, .int .i64 sl0]) :: .exact (.int .i64 (3 + sg * 32 + sl0)) :: .exact (.agg #[.int .i64 20, .int .i64 32, .int .i64 4]) :: .exact (.pointer (some ⟨_, 0, none⟩)) :: .exact (.int .i64 sg) :: .exact (.pointer (some ⟨_, 1, none⟩)) :: .exact (.int .i64 32) :: .exact (.int _ (31)) :: .exact (.agg ([_, _]).toArray) :: .exact (.int .i64 (3 + sg * 32 + 31)) :: .exact _ :: .exact _ :: [])) T.tab7_1_i E T.mixed T.tab7_1 rfl (AllS.lasts ⟨trivial, trivial, trivial, trivial, trivial, trivial, trivial, trivial, trivial, trivial, trivial, trivial, trivial, trivial⟩) ⟨fv rfl rfl (fun x w hx hk => run_loadAll rfl rfl T.agg46 ((M.ext ((Ext.drew _).trans hx)).row (i := 3) rfl) rfl),
      fv rfl rfl (fun x w hx hk => run_loadAll rfl rfl T.agg26 ((M.ext ((Ext.drew _).trans hx)).row (i := 2) rfl) rfl),
      fs_ext rfl rfl (fun x w hx hk => ⟨_, _, rfl, rfl, rfl, run_call rfl rfl T.fn23, (At_x h1 h0).ext⟩),
      fv rfl rfl (fun x w hx hk => run_loadAll rfl rfl T.agg46 ((M.ext ((Ext.drew _).trans hx)).row (i := 3) rfl) rfl),
      fv rfl rfl (fun x w hx hk => run_fieldAddr rfl rfl T.fld26_0),
      fv rfl rfl (fun x w hx hk => run_loadB rfl rfl T.one3 ((M.ext ((Ext.drew _).trans hx)).row (i := 2) rfl) rfl),
      fv rfl rfl (fun x w hx hk => run_fieldAddr rfl rfl T.fld46_1),
      fv rfl rfl (fun x w hx hk => run_loadB rfl rfl T.one3 ((M.ext ((Ext.drew _).trans hx)).row (i := 3) rfl) rfl),
      fv rfl rfl (fun x w hx hk => num rfl (rfl)),
      fv rfl rfl (fun x w hx hk => run_buildP (vs := [_, _]) (us := [_, _]) rfl rfl T.ts26 T.zeroL26 rfl rfl rfl rfl),
      fs_ext rfl rfl (fun x w hx hk => ⟨_, _, rfl, rfl, rfl, run_call rfl rfl T.fn23, (At_x h1 (show (0 : Int) ≤ 31 ∧ (31 : Int) ≤ 31 by decide)).ext⟩),
      fv rfl rfl (fun x w hx hk => run_assign rfl rfl),
      fv rfl rfl (fun x w hx hk => run_assign rfl rfl), trivial⟩ ?_)
  intro x fr w hx hk E
  have M := M.ext hx
  refine then_normal ?_
  refine wp_seq ?_
  refine code_region ?_
  refine mv E fun fr E => ?_
  refine sw (v := .bool false) E (tst rfl (decide_eq_false (by omega))) fun fr E => ?_
  refine mv E fun fr E => ?_
  refine mv E fun fr E => ?_
  refine mv E fun fr E => ?_
  refine sgive E M rfl rfl rfl rfl rfl (run_call rfl rfl T.fn11) (LenR_g (M.has1 (i := 4) rfl) hD) fun fr w M E => ?_
  rw [hn] at E
  refine sw (v := .bool false) E (tst rfl (decide_eq_false (by omega))) fun fr E => ?_
  refine sw (v := .bool _) E (rfl) fun fr E => ?_
  refine seq_nil' ?_
  refine cond_false E rfl (rfl) ?_
  refine wp_skip ?_
  refine then_normal ?_
  refine code_region ?_
  refine sw E (run_assignC rfl) fun fr E => ?_
  refine seq_nil' ?_
  refine wp_seq ?_
  refine wp_label ?_
  refine then_normal ?_
  refine wp_seq ?_
  refine code_region ?_
  refine mv E fun fr E => ?_
  refine ma E fun fr E => ?_
  refine seq_nil' ?_
  refine wp_block ?_
  refine loop_dec (fun d fr w => ∃ (i : Nat) (rv : Value) (ps : List (Value × List UInt8)) (D' : DV) (A' : AD), d = 35 + (sg * 32).toNat - i ∧ (3 + sg * 32 + sl0) ≤ (i : Int) ∧ (i : Int) ≤ 35 + sg * 32 ∧ ps.length ≤ 32 ∧ (ps.length : Int) = (i : Int) - (3 + sg * 32 + sl0) ∧ D'.is g A' ∧ Seen A A' ∧ nextF A.read N.ks S N.ts sg sl0 prev (35 + sg * 32 - (i : Int)).toNat i (ps.map (·.2)) = R ∧ Env [(15, .int .i64 (i : Int)), (14, rv), (13, .int .i64 (3 + sg * 32 + 31)), (12, .int .i64 (3 + sg * 32 + sl0)), (10, .pointer (some ⟨g3, 0, none⟩)), (9, .pointer (some ⟨g2, 0, none⟩)), (8, .pointer (some ⟨g1, 0, none⟩)), (7, .pointer (some ⟨g0, 0, none⟩)), (1, .iface 30 (.pointer (some ⟨N.gn, 0, none⟩))), (0, .pointer (some ⟨g, 0, none⟩))] 80 fr ∧ Mem w0 (feet [dkE D, nmE N]) [.row 54 1 rv ps.length (ps.map (·.1)), .pool ps.reverse, dkE D', nmE N, .blk g0 (.cells #[.int .i64 20, .int .i64 32, .int .i64 4] 46), .blk g1 (.cells #[.int .i64 sg, .int .i64 sl0] 26), .blk g2 (.cells (bc prev).toArray 28), .blk g3 (.cells bx0.toArray 41)] (fun _ => True) w) (32 - sl0.toNat) ?_ ?_
  · have M := M.pull 1 rfl
    have M := M.pull 2 rfl
    have M := M.pull 3 rfl
    have M := M.pull 5 rfl
    have M := M.pull 5 rfl
    have M := (M.nilPoolF).nilRowF 54 1
    obtain ⟨i, hi⟩ : ∃ i : Nat, (i : Int) = (3 + sg * 32 + sl0) := ⟨(3 + sg * 32 + sl0).toNat, by omega⟩
    have e1 : (3 + sg * 32 + sl0).toNat = i := by omega
    have e2 : (35 + sg * 32 - (i : Int)).toNat = (32 - sl0).toNat := by omega
    rw [e1] at hR
    rw [← hi] at E
    exact ⟨i, _, [], D, A, by omega, by omega, by omega, by simp, by simp; omega, hD, Seen.refl A, by rw [e2]; exact hR, by rw [← hi]; exact ((((((((((Env.nil E).add E (t := 0) rfl).add E (t := 1) rfl).add E (t := 7) rfl).add E (t := 8) rfl).add E (t := 9) rfl).add E (t := 10) rfl).add E (t := 12) rfl).add E (t := 13) rfl).add E (t := 14) rfl).add E (t := 15) rfl, M⟩
  · clear E M
    rintro d fr w ⟨i, rv, ps, D', A', rfl, hi0, hi1, hps, hpl, hD', hS, hR, E, M⟩
    by_cases hi : (i : Int) ≤ (3 + sg * 32 + 31)
    · have hfu : (35 + sg * 32 - (i : Int)).toNat = (35 + sg * 32 - ((i + 1 : Nat) : Int)).toNat + 1 := by omega
      rw [hfu] at hR
      have hrd : A'.read i = A.read i := hS.read i
      have hln := hD'.2.read_len i
      have hSn := hS.bump i
      by_cases h4 : kindOf (A.read i) = 4
      · refine wp_seq ?_
        refine code_region ?_
        refine mv E fun fr E => ?_
        refine mv E fun fr E => ?_
        refine sw (v := .bool true) E (tst rfl (decide_eq_true hi)) fun fr E => ?_
        refine seq_nil' ?_
        refine cond_true E rfl (rfl) ?_
        refine wp_skip ?_
        refine then_normal ?_
        refine wp_seq ?_
        refine wp_block ?_
        refine code_region ?_
        refine mv E fun fr E => ?_
        refine mv E fun fr E => ?_
        have M := M.pull 2 rfl
        refine scallI ([dkE D']) E M rfl rfl rfl rfl rfl (run_call rfl rfl T.fn12) rfl (fun H => Read_a (j := i) H hD' (by rw [hS.n, hn]; omega)) ?_
        rintro ⟨c, D2⟩ fr w hD2 M E
        refine mv E fun fr E => ?_
        refine sw E (run_extract rfl rfl rfl) fun fr E => ?_
        refine sw E (run_extract rfl rfl rfl) fun fr E => ?_
        refine ma E fun fr E => ?_
        refine ma E fun fr E => ?_
        refine seq_nil' ?_
        refine code_region ?_
        refine mv E fun fr E => ?_
        refine sgive E M rfl rfl rfl rfl rfl (run_call rfl rfl T.fn24) (Kind_x (M.bytes 0 rfl) (by omega)) fun fr w M E => ?_
        rw [hrd] at E
        refine seq_nil' ?_
        refine wp_block ?_
        refine wp_seq ?_
        refine code_region ?_
        refine sw (v := .bool true) E (tst rfl (decide_eq_true h4)) fun fr E => ?_
        refine ma E fun fr E => ?_
        refine seq_nil' ?_
        refine cond_true E rfl (rfl) ?_
        refine wp_skip ?_
        refine then_normal ?_
        refine cond_true E rfl (rfl) ?_
        refine code_last ?_
        refine mv E fun fr E => ?_
        refine mv E fun fr E => ?_
        refine srow (sz := 1) (xs := _) E M rfl rfl rfl rfl rfl (run_buildSliceA (us := [c]) (vs := [c]) rfl rfl rfl T.slice52 T.size54 T.zl54 rfl (by simp [show c.cells = #[c] from Reads.cellR (M.bytes 0 rfl)]) rfl rfl (by simp [show c.cells = #[c] from Reads.cellR (M.bytes 0 rfl)])) (rfl) (Nat.le_refl _) (by decide) (rfl) fun nr fr w M E => ?_
        refine sapp (i := 3) E M rfl rfl rfl rfl rfl rfl rfl rfl rfl rfl rfl T.slice52 T.slice52 T.zt54 T.by54 (by decide) (M.reads 0 rfl) (fun u hu => (List.mem_singleton.1 hu) ▸ Reads.oneR (M.bytes 1 rfl)) (by omega) fun rows fr w M E => ?_
        refine ma E fun fr E => ?_
        refine seq_nil ?_
        refine block_normal ?_
        refine block_normal ?_
        refine then_normal ?_
        refine code_last ?_
        refine mv E fun fr E => ?_
        refine sw (v := .int _ (((i + 1 : Nat) : Int))) E (num rfl ((i64_id (by omega) (by omega)).trans (by omega))) fun fr E => ?_
        refine ma E fun fr E => ?_
        refine seq_nil ?_
        refine then_any ?_
        have M := M.pull 9 rfl
        have M := M.pull 9 rfl
        have M := M.pull 9 rfl
        have M := M.pull 9 rfl
        have M := M.pull 9 rfl
        have M := M.pull 7 rfl
        have M := M.pull 8 rfl
        have M := M.pull 9 rfl
        have M := M.pull 9 rfl
        have M := (M.pour).pull 1 rfl
        exact ⟨35 + (sg * 32).toNat - (i + 1), by omega, i + 1, _, (ps ++ [(c, A'.read i)]), D2, _, rfl, by omega, by omega, by simp; omega, by simp; omega, hD2, hSn, by rw [← hR, next_row (.inl h4)]; simp [hrd], ((((((((((Env.nil E).add E (t := 0) rfl).add E (t := 1) rfl).add E (t := 7) rfl).add E (t := 8) rfl).add E (t := 9) rfl).add E (t := 10) rfl).add E (t := 12) rfl).add E (t := 13) rfl).add E (t := 14) rfl).add E (t := 15) rfl, (Mem.take (L := [.row 54 1 _ (ps.length + 1) (ps.map (·.1) ++ [c]), .pool ((c, A'.read i) :: ps.reverse), dkE D2, nmE N, .blk g0 (.cells #[.int .i64 20, .int .i64 32, .int .i64 4] 46), .blk g1 (.cells #[.int .i64 sg, .int .i64 sl0] 26), .blk g2 (.cells (bc prev).toArray 28), .blk g3 (.cells bx0.toArray 41)]) M).as (by simp)⟩
      · by_cases h5 : kindOf (A.read i) = 5
        · refine wp_seq ?_
          refine code_region ?_
          refine mv E fun fr E => ?_
          refine mv E fun fr E => ?_
          refine sw (v := .bool true) E (tst rfl (decide_eq_true hi)) fun fr E => ?_
          refine seq_nil' ?_
          refine cond_true E rfl (rfl) ?_
          refine wp_skip ?_
          refine then_normal ?_
          refine wp_seq ?_
          refine wp_block ?_
          refine code_region ?_
          refine mv E fun fr E => ?_
          refine mv E fun fr E => ?_
          have M := M.pull 2 rfl
          refine scallI ([dkE D']) E M rfl rfl rfl rfl rfl (run_call rfl rfl T.fn12) rfl (fun H => Read_a (j := i) H hD' (by rw [hS.n, hn]; omega)) ?_
          rintro ⟨c, D2⟩ fr w hD2 M E
          refine mv E fun fr E => ?_
          refine sw E (run_extract rfl rfl rfl) fun fr E => ?_
          refine sw E (run_extract rfl rfl rfl) fun fr E => ?_
          refine ma E fun fr E => ?_
          refine ma E fun fr E => ?_
          refine seq_nil' ?_
          refine code_region ?_
          refine mv E fun fr E => ?_
          refine sgive E M rfl rfl rfl rfl rfl (run_call rfl rfl T.fn24) (Kind_x (M.bytes 0 rfl) (by omega)) fun fr w M E => ?_
          rw [hrd] at E
          refine seq_nil' ?_
          refine wp_block ?_
          refine wp_seq ?_
          refine code_region ?_
          refine sw (v := .bool false) E (tst rfl (decide_eq_false h4)) fun fr E => ?_
          refine ma E fun fr E => ?_
          refine seq_nil' ?_
          refine cond_false E rfl (rfl) ?_
          refine code_last ?_
          refine sw (v := .bool true) E (tst rfl (decide_eq_true h5)) fun fr E => ?_
          refine ma E fun fr E => ?_
          refine seq_nil ?_
          refine then_normal ?_
          refine cond_true E rfl (rfl) ?_
          refine code_last ?_
          refine mv E fun fr E => ?_
          refine mv E fun fr E => ?_
          refine srow (sz := 1) (xs := _) E M rfl rfl rfl rfl rfl (run_buildSliceA (us := [c]) (vs := [c]) rfl rfl rfl T.slice52 T.size54 T.zl54 rfl (by simp [show c.cells = #[c] from Reads.cellR (M.bytes 0 rfl)]) rfl rfl (by simp [show c.cells = #[c] from Reads.cellR (M.bytes 0 rfl)])) (rfl) (Nat.le_refl _) (by decide) (rfl) fun nr fr w M E => ?_
          refine sapp (i := 3) E M rfl rfl rfl rfl rfl rfl rfl rfl rfl rfl rfl T.slice52 T.slice52 T.zt54 T.by54 (by decide) (M.reads 0 rfl) (fun u hu => (List.mem_singleton.1 hu) ▸ Reads.oneR (M.bytes 1 rfl)) (by omega) fun rows fr w M E => ?_
          refine ma E fun fr E => ?_
          refine seq_nil ?_
          refine block_normal ?_
          refine block_normal ?_
          refine then_normal ?_
          refine code_last ?_
          refine mv E fun fr E => ?_
          refine sw (v := .int _ (((i + 1 : Nat) : Int))) E (num rfl ((i64_id (by omega) (by omega)).trans (by omega))) fun fr E => ?_
          refine ma E fun fr E => ?_
          refine seq_nil ?_
          refine then_any ?_
          have M := M.pull 9 rfl
          have M := M.pull 9 rfl
          have M := M.pull 9 rfl
          have M := M.pull 9 rfl
          have M := M.pull 9 rfl
          have M := M.pull 7 rfl
          have M := M.pull 8 rfl
          have M := M.pull 9 rfl
          have M := M.pull 9 rfl
          have M := (M.pour).pull 1 rfl
          exact ⟨35 + (sg * 32).toNat - (i + 1), by omega, i + 1, _, (ps ++ [(c, A'.read i)]), D2, _, rfl, by omega, by omega, by simp; omega, by simp; omega, hD2, hSn, by rw [← hR, next_row (.inr h5)]; simp [hrd], ((((((((((Env.nil E).add E (t := 0) rfl).add E (t := 1) rfl).add E (t := 7) rfl).add E (t := 8) rfl).add E (t := 9) rfl).add E (t := 10) rfl).add E (t := 12) rfl).add E (t := 13) rfl).add E (t := 14) rfl).add E (t := 15) rfl, (Mem.take (L := [.row 54 1 _ (ps.length + 1) (ps.map (·.1) ++ [c]), .pool ((c, A'.read i) :: ps.reverse), dkE D2, nmE N, .blk g0 (.cells #[.int .i64 20, .int .i64 32, .int .i64 4] 46), .blk g1 (.cells #[.int .i64 sg, .int .i64 sl0] 26), .blk g2 (.cells (bc prev).toArray 28), .blk g3 (.cells bx0.toArray 41)]) M).as (by simp)⟩
        · by_cases h3 : kindOf (A.read i) = 3
          · rw [next_whole h4 h5 h3] at hR
            obtain ⟨sl, hsl, hi2⟩ : ∃ sl : Int, (0 ≤ sl ∧ sl ≤ 31) ∧ 3 + sg * 32 + sl = (i : Int) := ⟨(i : Int) - (3 + sg * 32), by omega, by omega⟩
            refine wp_seq ?_
            refine code_region ?_
            refine mv E fun fr E => ?_
            refine mv E fun fr E => ?_
            refine sw (v := .bool true) E (tst rfl (decide_eq_true hi)) fun fr E => ?_
            refine seq_nil' ?_
            refine cond_true E rfl (rfl) ?_
            refine wp_skip ?_
            refine then_normal ?_
            refine wp_seq ?_
            refine wp_block ?_
            refine code_region ?_
            refine mv E fun fr E => ?_
            refine mv E fun fr E => ?_
            have M := M.pull 2 rfl
            refine scallI ([dkE D']) E M rfl rfl rfl rfl rfl (run_call rfl rfl T.fn12) rfl (fun H => Read_a (j := i) H hD' (by rw [hS.n, hn]; omega)) ?_
            rintro ⟨c, D2⟩ fr w hD2 M E
            refine mv E fun fr E => ?_
            refine sw E (run_extract rfl rfl rfl) fun fr E => ?_
            refine sw E (run_extract rfl rfl rfl) fun fr E => ?_
            refine ma E fun fr E => ?_
            refine ma E fun fr E => ?_
            refine seq_nil' ?_
            refine code_region ?_
            refine mv E fun fr E => ?_
            refine sgive E M rfl rfl rfl rfl rfl (run_call rfl rfl T.fn24) (Kind_x (M.bytes 0 rfl) (by omega)) fun fr w M E => ?_
            rw [hrd] at E
            refine seq_nil' ?_
            refine wp_block ?_
            refine wp_seq ?_
            refine code_region ?_
            refine sw (v := .bool false) E (tst rfl (decide_eq_false h4)) fun fr E => ?_
            refine ma E fun fr E => ?_
            refine seq_nil' ?_
            refine cond_false E rfl (rfl) ?_
            refine code_last ?_
            refine sw (v := .bool false) E (tst rfl (decide_eq_false h5)) fun fr E => ?_
            refine ma E fun fr E => ?_
            refine seq_nil ?_
            refine then_normal ?_
            refine cond_false E rfl (rfl) ?_
            refine code_region ?_
            refine sw (v := .bool true) E (tst rfl (decide_eq_true h3)) fun fr E => ?_
            refine ma E fun fr E => ?_
            refine seq_nil' ?_
            refine cond_true E rfl (rfl) ?_
            refine code_region ?_
            refine mv E fun fr E => ?_
            refine sw (v := .agg #[.int .i64 20, .int .i64 32, .int .i64 4]) E (run_loadAll rfl rfl T.agg46 (M.row (i := 5) rfl) rfl) fun fr E => ?_
            refine sw (v := .agg #[.int .i64 sg, .int .i64 sl0]) E (run_loadAll rfl rfl T.agg26 (M.row (i := 6) rfl) rfl) fun fr E => ?_
            refine sw (v := .pointer (some ⟨_, 0, none⟩)) E (run_fieldAddr rfl rfl T.fld26_0) fun fr E => ?_
            refine sw (v := .int .i64 sg) E (run_loadB rfl rfl T.one3 (M.row (i := 6) rfl) rfl) fun fr E => ?_
            refine sw (v := .pointer (some ⟨_, 1, none⟩)) E (run_fieldAddr rfl rfl T.fld26_1) fun fr E => ?_
            refine sw (v := .int .i64 sl0) E (run_loadB rfl rfl T.one3 (M.row (i := 6) rfl) rfl) fun fr E => ?_
            refine mv E fun fr E => ?_
            refine sw (v := .int _ (sl0 + (i : Int))) E (num rfl (i64_id (by omega) (by omega))) fun fr E => ?_
            refine mv E fun fr E => ?_
            refine sw (v := .int _ (sl)) E (num rfl ((i64_id (by omega) (by omega)).trans (by omega))) fun fr E => ?_
            refine sw (v := .agg ([_, _]).toArray) E (run_buildP (vs := [_, _]) (us := [_, _]) rfl rfl T.ts26 T.zeroL26 rfl rfl rfl rfl) fun fr E => ?_
            refine sw (v := .agg (bc prev).toArray) E (run_loadAll rfl rfl T.agg28 (M.row (i := 7) rfl) (by simp [hp])) fun fr E => ?_
            refine mv E fun fr E => ?_
            refine mv E fun fr E => ?_
            have M := M.pull 4 rfl
            refine scallI ([nmE N]) E M rfl rfl rfl rfl rfl (run_call rfl rfl T.fn25) rfl (fun H => whole_no (S := S) (i := i) (sl := sl) (ps := ps) (bl := A'.read i) H rfl h1 h0 hsl hi2 hp (M.bytes 1 rfl) ((M.reads 3 rfl).asLen (by simp)) (fun q hq' => M.pooled (i := 4) rfl (List.mem_reverse.2 hq')) (by omega) (fun q hq' => ⟨fun c2 => M.off (i := 0) (j := 1) rfl rfl rfl q hq' (feet_one.1 c2), M.lt _ (List.mem_of_getElem? (i := 1) rfl) q (by simp [Ent.row, hq'])⟩) (fun q hq' c2 => M.off (i := 0) (j := 3) rfl rfl rfl q hq' (feet_one.1 c2)) (fun p hp' q hq' => ⟨fun c2 => M.offE (i := 0) (j := 4) rfl rfl rfl q (List.mem_filterMap.2 ⟨p, List.mem_reverse.2 hp', hq'⟩) (feet_one.1 c2), M.lt _ (List.mem_of_getElem? (i := 4) rfl) q (List.mem_filterMap.2 ⟨p, List.mem_reverse.2 hp', hq'⟩)⟩) hkz htz hG (by rw [hrd, hR]; exact hRn)) ?_
            rintro N2 fr w ⟨hN1, hN2, hN3⟩ M E
            refine sw E (run_extract rfl rfl rfl) fun fr E => ?_
            refine sw E (run_extract rfl rfl rfl) fun fr E => ?_
            refine sset (i := 8) (cs' := bx0.toArray) E M rfl rfl rfl rfl rfl (run_storeAll (vs := bx0.toArray) rfl rfl rfl T.size41 (rfl) (M.row (i := 8) rfl) rfl (fun u hu => bx0_one u (by simpa using hu))) rfl fun fr w M E => ?_
            refine ma E fun fr E => ?_
            refine seq_nil' ?_
            refine wp_ret ?_
            refine block_ret ?_
            refine block_ret ?_
            refine then_ret ?_
            refine then_ret ?_
            refine block_ret ?_
            refine then_ret ?_
            refine scope_ret ?_
            refine retC2 E rfl rfl rfl T.agg41 (M.row (i := 8) rfl) (rfl) ?_
            have M := M.pull 2 rfl
            rw [hrd, hR] at hN3
            exact ⟨(D2, N2), rfl, Mem.fin (L := [dkE D2, nmE N2] ++ _) M (List.sublist_append_left _ _) ⟨⟨_, hD2, hSn⟩, hN1, hN2, hN3⟩⟩
          · rw [next_else h4 h5 h3] at hR
            refine wp_seq ?_
            refine code_region ?_
            refine mv E fun fr E => ?_
            refine mv E fun fr E => ?_
            refine sw (v := .bool true) E (tst rfl (decide_eq_true hi)) fun fr E => ?_
            refine seq_nil' ?_
            refine cond_true E rfl (rfl) ?_
            refine wp_skip ?_
            refine then_normal ?_
            refine wp_seq ?_
            refine wp_block ?_
            refine code_region ?_
            refine mv E fun fr E => ?_
            refine mv E fun fr E => ?_
            have M := M.pull 2 rfl
            refine scallI ([dkE D']) E M rfl rfl rfl rfl rfl (run_call rfl rfl T.fn12) rfl (fun H => Read_a (j := i) H hD' (by rw [hS.n, hn]; omega)) ?_
            rintro ⟨c, D2⟩ fr w hD2 M E
            refine mv E fun fr E => ?_
            refine sw E (run_extract rfl rfl rfl) fun fr E => ?_
            refine sw E (run_extract rfl rfl rfl) fun fr E => ?_
            refine ma E fun fr E => ?_
            refine ma E fun fr E => ?_
            refine seq_nil' ?_
            refine code_region ?_
            refine mv E fun fr E => ?_
            refine sgive E M rfl rfl rfl rfl rfl (run_call rfl rfl T.fn24) (Kind_x (M.bytes 0 rfl) (by omega)) fun fr w M E => ?_
            rw [hrd] at E
            refine seq_nil' ?_
            refine wp_block ?_
            refine wp_seq ?_
            refine code_region ?_
            refine sw (v := .bool false) E (tst rfl (decide_eq_false h4)) fun fr E => ?_
            refine ma E fun fr E => ?_
            refine seq_nil' ?_
            refine cond_false E rfl (rfl) ?_
            refine code_last ?_
            refine sw (v := .bool false) E (tst rfl (decide_eq_false h5)) fun fr E => ?_
            refine ma E fun fr E => ?_
            refine seq_nil ?_
            refine then_normal ?_
            refine cond_false E rfl (rfl) ?_
            refine code_region ?_
            refine sw (v := .bool false) E (tst rfl (decide_eq_false h3)) fun fr E => ?_
            refine ma E fun fr E => ?_
            refine seq_nil' ?_
            refine cond_false E rfl (rfl) ?_
            refine wp_exit ?_
            refine block_other rfl ?_
            refine block_other rfl ?_
            refine then_exit ?_
            refine then_exit ?_
            refine block_exit ?_
            refine then_normal ?_
            refine code_region ?_
            refine sw (v := .agg (bx0).toArray) E (run_buildP (vs := []) (us := bx0) rfl rfl T.ts41 T.zeroL41 (rfl) rfl rfl (rfl)) fun fr E => ?_
            refine sset (i := 8) (cs' := bx0.toArray) E M rfl rfl rfl rfl rfl (run_storeAll (vs := bx0.toArray) rfl rfl rfl T.size41 (rfl) (M.row (i := 8) rfl) rfl (fun u hu => bx0_one u (by simpa using hu))) rfl fun fr w M E => ?_
            refine sw E (run_assignC rfl) fun fr E => ?_
            refine seq_nil' ?_
            refine wp_ret ?_
            refine scope_ret ?_
            refine retC2 E rfl rfl rfl T.agg41 (M.row (i := 8) rfl) (rfl) ?_
            have M := M.pull 4 rfl
            have M := M.pull 2 rfl
            exact ⟨(D2, N), rfl, Mem.fin (L := [dkE D2, nmE N] ++ _) M (List.sublist_append_left _ _) ⟨⟨_, hD2, hSn⟩, rfl, rfl, by rw [← hR]⟩⟩
    · have hfu : (35 + sg * 32 - (i : Int)).toNat = 0 := by omega
      rw [hfu] at hR
      have hSn := hS
      refine wp_seq ?_
      refine code_region ?_
      refine mv E fun fr E => ?_
      refine mv E fun fr E => ?_
      refine sw (v := .bool false) E (tst rfl (decide_eq_false hi)) fun fr E => ?_
      refine seq_nil' ?_
      refine cond_false E rfl (rfl) ?_
      refine wp_exit ?_
      refine then_exit ?_
      refine then_exit ?_
      refine block_exit ?_
      refine then_normal ?_
      refine code_region ?_
      refine sw (v := .agg (bx0).toArray) E (run_buildP (vs := []) (us := bx0) rfl rfl T.ts41 T.zeroL41 (rfl) rfl rfl (rfl)) fun fr E => ?_
      refine sset (i := 7) (cs' := bx0.toArray) E M rfl rfl rfl rfl rfl (run_storeAll (vs := bx0.toArray) rfl rfl rfl T.size41 (rfl) (M.row (i := 7) rfl) rfl (fun u hu => bx0_one u (by simpa using hu))) rfl fun fr w M E => ?_
      refine sw E (run_assignC rfl) fun fr E => ?_
      refine seq_nil' ?_
      refine wp_ret ?_
      refine scope_ret ?_
      refine retC2 E rfl rfl rfl T.agg41 (M.row (i := 7) rfl) (rfl) ?_
      have M := M.pull 3 rfl
      have M := M.pull 3 rfl
      exact ⟨(D', N), rfl, Mem.fin (L := [dkE D', nmE N] ++ _) M (List.sublist_append_left _ _) ⟨⟨_, hD', hS⟩, rfl, rfl, by rw [← hR]; rfl⟩⟩

set_option maxHeartbeats 1000000 in
set_option maxRecDepth 100000 in
theorem next_yes {D : DV} {N : NV} {a g : Nat} {A : AD} {S : Nat → Smy} {sg sl0 : Int} {prev : List UInt8} {w0 : World} (H : Has w0 [dkE D, nmE N]) (hD : D.is g A) (ha : N.gn = a) (h1 : 0 ≤ sg ∧ sg ≤ 19) (h0 : 0 ≤ sl0 ∧ sl0 ≤ 31) (hp : prev.length = 32) (hn : A.n = 643) (hkz : N.ks.length ≤ 1099511627776) (htz : N.ts.length ≤ 100000) (hG : Good N.ks S sg) {R : Option Bx × List (List UInt8)} {B : Bx} (hR : (nextF A.read N.ks S N.ts sg sl0 prev (32 - sl0).toNat (3 + sg * 32 + sl0).toNat []) = R) (hRn : R.1 = some B) (hBz : ∀ v : Value, (bxC B.s v B.ep sg B.sl (endS sg B.sl B.s.next) (endL B.sl) B.sum).toArray.size = 72) : Does Try.prog 7 [.pointer (some ⟨g, 0, none⟩), .iface 30 (.pointer (some ⟨a, 0, none⟩)), .agg #[.int .i64 20, .int .i64 32, .int .i64 4], .agg #[.int .i64 sg, .int .i64 sl0], .agg (bc prev).toArray] w0 [dkE D, nmE N] (fun x : Value × DV × NV => .tuple #[.agg (bxC B.s x.1 B.ep sg B.sl (endS sg B.sl B.s.next) (endL B.sl) B.sum).toArray, .int .i64 0]) (fun x => [(.row 83 35 x.1 B.s.es.length (ecs B.s.es) : Ent), dkE x.2.1, nmE x.2.2]) (fun x => (∃ A', x.2.1.is g A' ∧ Seen A A') ∧ x.2.2.gn = a ∧ x.2.2.ks = N.ks ∧ x.2.2.ts = R.2) := by
  refine enter (n := 80) Try.func7 rfl rfl rfl ?_
  intro fr E
  subst ha
  have M : Mem w0 (feet [dkE D, nmE N]) [dkE D, nmE N] (fun _ => True) w0 := Mem.begin H (fun _ _ => trivial)
  refine code_region ?_
  refine snew (ob := .cells (#[.int .i64 20, .int .i64 32, .int .i64 4]) 46) (fun g => .pointer (some ⟨g, 0, none⟩)) E M rfl rfl rfl rfl rfl (run_boxN (cs := (#[.int .i64 20, .int .i64 32, .int .i64 4])) rfl rfl) fun g0 fr w M E => ?_
  refine snew (ob := .cells (#[.int .i64 sg, .int .i64 sl0]) 26) (fun g => .pointer (some ⟨g, 0, none⟩)) E M rfl rfl rfl rfl rfl (run_boxN (cs := (#[.int .i64 sg, .int .i64 sl0])) rfl rfl) fun g1 fr w M E => ?_
  refine snew (ob := .cells ((bc prev).toArray) 28) (fun g => .pointer (some ⟨g, 0, none⟩)) E M rfl rfl rfl rfl rfl (run_boxN (cs := ((bc prev).toArray)) rfl rfl) fun g2 fr w M E => ?_
  refine snew (ob := .cells _ 41) (fun g => .pointer (some ⟨g, 0, none⟩)) E M rfl rfl rfl rfl rfl (run_allocN rfl T.zero41) fun g3 fr w M E => ?_
  refine sw E (run_assignC rfl) fun fr E => ?_
  refine seq_nil' ?_
  refine wp_scope_straight ?_
  refine wp_seq (free_reg (B := T.tab7_1_b) (Vs := (.exact (.agg #[.int .i64 20, .int .i64 32, .int .i64 4]) :: .exact (.agg #[.int .i64 sg, .int .i64 sl0]) :: .exact (.int .i64 (3 + sg * 32 + sl0)) :: .exact (.agg #[.int .i64 20, .int .i64 32, .int .i64 4]) :: .exact (.pointer (some ⟨_, 0, none⟩)) :: .exact (.int .i64 sg) :: .exact (.pointer (some ⟨_, 1, none⟩)) :: .exact (.int .i64 32) :: .exact (.int _ (31)) :: .exact (.agg ([_, _]).toArray) :: .exact (.int .i64 (3 + sg * 32 + 31)) :: .exact _ :: .exact _ :: [])) T.tab7_1_i E T.mixed T.tab7_1 rfl (AllS.lasts ⟨trivial, trivial, trivial, trivial, trivial, trivial, trivial, trivial, trivial, trivial, trivial, trivial, trivial, trivial⟩) ⟨fv rfl rfl (fun x w hx hk => run_loadAll rfl rfl T.agg46 ((M.ext ((Ext.drew _).trans hx)).row (i := 3) rfl) rfl),
      fv rfl rfl (fun x w hx hk => run_loadAll rfl rfl T.agg26 ((M.ext ((Ext.drew _).trans hx)).row (i := 2) rfl) rfl),
      fs_ext rfl rfl (fun x w hx hk => ⟨_, _, rfl, rfl, rfl, run_call rfl rfl T.fn23, (At_x h1 h0).ext⟩),
      fv rfl rfl (fun x w hx hk => run_loadAll rfl rfl T.agg46 ((M.ext ((Ext.drew _).trans hx)).row (i := 3) rfl) rfl),
      fv rfl rfl (fun x w hx hk => run_fieldAddr rfl rfl T.fld26_0),
      fv rfl rfl (fun x w hx hk => run_loadB rfl rfl T.one3 ((M.ext ((Ext.drew _).trans hx)).row (i := 2) rfl) rfl),
      fv rfl rfl (fun x w hx hk => run_fieldAddr rfl rfl T.fld46_1),
      fv rfl rfl (fun x w hx hk => run_loadB rfl rfl T.one3 ((M.ext ((Ext.drew _).trans hx)).row (i := 3) rfl) rfl),
      fv rfl rfl (fun x w hx hk => num rfl (rfl)),
      fv rfl rfl (fun x w hx hk => run_buildP (vs := [_, _]) (us := [_, _]) rfl rfl T.ts26 T.zeroL26 rfl rfl rfl rfl),
      fs_ext rfl rfl (fun x w hx hk => ⟨_, _, rfl, rfl, rfl, run_call rfl rfl T.fn23, (At_x h1 (show (0 : Int) ≤ 31 ∧ (31 : Int) ≤ 31 by decide)).ext⟩),
      fv rfl rfl (fun x w hx hk => run_assign rfl rfl),
      fv rfl rfl (fun x w hx hk => run_assign rfl rfl), trivial⟩ ?_)
  intro x fr w hx hk E
  have M := M.ext hx
  refine then_normal ?_
  refine wp_seq ?_
  refine code_region ?_
  refine mv E fun fr E => ?_
  refine sw (v := .bool false) E (tst rfl (decide_eq_false (by omega))) fun fr E => ?_
  refine mv E fun fr E => ?_
  refine mv E fun fr E => ?_
  refine mv E fun fr E => ?_
  refine sgive E M rfl rfl rfl rfl rfl (run_call rfl rfl T.fn11) (LenR_g (M.has1 (i := 4) rfl) hD) fun fr w M E => ?_
  rw [hn] at E
  refine sw (v := .bool false) E (tst rfl (decide_eq_false (by omega))) fun fr E => ?_
  refine sw (v := .bool _) E (rfl) fun fr E => ?_
  refine seq_nil' ?_
  refine cond_false E rfl (rfl) ?_
  refine wp_skip ?_
  refine then_normal ?_
  refine code_region ?_
  refine sw E (run_assignC rfl) fun fr E => ?_
  refine seq_nil' ?_
  refine wp_seq ?_
  refine wp_label ?_
  refine then_normal ?_
  refine wp_seq ?_
  refine code_region ?_
  refine mv E fun fr E => ?_
  refine ma E fun fr E => ?_
  refine seq_nil' ?_
  refine wp_block ?_
  refine loop_dec (fun d fr w => ∃ (i : Nat) (rv : Value) (ps : List (Value × List UInt8)) (D' : DV) (A' : AD), d = 35 + (sg * 32).toNat - i ∧ (3 + sg * 32 + sl0) ≤ (i : Int) ∧ (i : Int) ≤ 35 + sg * 32 ∧ ps.length ≤ 32 ∧ (ps.length : Int) = (i : Int) - (3 + sg * 32 + sl0) ∧ D'.is g A' ∧ Seen A A' ∧ nextF A.read N.ks S N.ts sg sl0 prev (35 + sg * 32 - (i : Int)).toNat i (ps.map (·.2)) = R ∧ Env [(15, .int .i64 (i : Int)), (14, rv), (13, .int .i64 (3 + sg * 32 + 31)), (12, .int .i64 (3 + sg * 32 + sl0)), (10, .pointer (some ⟨g3, 0, none⟩)), (9, .pointer (some ⟨g2, 0, none⟩)), (8, .pointer (some ⟨g1, 0, none⟩)), (7, .pointer (some ⟨g0, 0, none⟩)), (1, .iface 30 (.pointer (some ⟨N.gn, 0, none⟩))), (0, .pointer (some ⟨g, 0, none⟩))] 80 fr ∧ Mem w0 (feet [dkE D, nmE N]) [.row 54 1 rv ps.length (ps.map (·.1)), .pool ps.reverse, dkE D', nmE N, .blk g0 (.cells #[.int .i64 20, .int .i64 32, .int .i64 4] 46), .blk g1 (.cells #[.int .i64 sg, .int .i64 sl0] 26), .blk g2 (.cells (bc prev).toArray 28), .blk g3 (.cells bx0.toArray 41)] (fun _ => True) w) (32 - sl0.toNat) ?_ ?_
  · have M := M.pull 1 rfl
    have M := M.pull 2 rfl
    have M := M.pull 3 rfl
    have M := M.pull 5 rfl
    have M := M.pull 5 rfl
    have M := (M.nilPoolF).nilRowF 54 1
    obtain ⟨i, hi⟩ : ∃ i : Nat, (i : Int) = (3 + sg * 32 + sl0) := ⟨(3 + sg * 32 + sl0).toNat, by omega⟩
    have e1 : (3 + sg * 32 + sl0).toNat = i := by omega
    have e2 : (35 + sg * 32 - (i : Int)).toNat = (32 - sl0).toNat := by omega
    rw [e1] at hR
    rw [← hi] at E
    exact ⟨i, _, [], D, A, by omega, by omega, by omega, by simp, by simp; omega, hD, Seen.refl A, by rw [e2]; exact hR, by rw [← hi]; exact ((((((((((Env.nil E).add E (t := 0) rfl).add E (t := 1) rfl).add E (t := 7) rfl).add E (t := 8) rfl).add E (t := 9) rfl).add E (t := 10) rfl).add E (t := 12) rfl).add E (t := 13) rfl).add E (t := 14) rfl).add E (t := 15) rfl, M⟩
  · clear E M
    rintro d fr w ⟨i, rv, ps, D', A', rfl, hi0, hi1, hps, hpl, hD', hS, hR, E, M⟩
    by_cases hi : (i : Int) ≤ (3 + sg * 32 + 31)
    · have hfu : (35 + sg * 32 - (i : Int)).toNat = (35 + sg * 32 - ((i + 1 : Nat) : Int)).toNat + 1 := by omega
      rw [hfu] at hR
      have hrd : A'.read i = A.read i := hS.read i
      have hln := hD'.2.read_len i
      have hSn := hS.bump i
      by_cases h4 : kindOf (A.read i) = 4
      · refine wp_seq ?_
        refine code_region ?_
        refine mv E fun fr E => ?_
        refine mv E fun fr E => ?_
        refine sw (v := .bool true) E (tst rfl (decide_eq_true hi)) fun fr E => ?_
        refine seq_nil' ?_
        refine cond_true E rfl (rfl) ?_
        refine wp_skip ?_
        refine then_normal ?_
        refine wp_seq ?_
        refine wp_block ?_
        refine code_region ?_
        refine mv E fun fr E => ?_
        refine mv E fun fr E => ?_
        have M := M.pull 2 rfl
        refine scallI ([dkE D']) E M rfl rfl rfl rfl rfl (run_call rfl rfl T.fn12) rfl (fun H => Read_a (j := i) H hD' (by rw [hS.n, hn]; omega)) ?_
        rintro ⟨c, D2⟩ fr w hD2 M E
        refine mv E fun fr E => ?_
        refine sw E (run_extract rfl rfl rfl) fun fr E => ?_
        refine sw E (run_extract rfl rfl rfl) fun fr E => ?_
        refine ma E fun fr E => ?_
        refine ma E fun fr E => ?_
        refine seq_nil' ?_
        refine code_region ?_
        refine mv E fun fr E => ?_
        refine sgive E M rfl rfl rfl rfl rfl (run_call rfl rfl T.fn24) (Kind_x (M.bytes 0 rfl) (by omega)) fun fr w M E => ?_
        rw [hrd] at E
        refine seq_nil' ?_
        refine wp_block ?_
        refine wp_seq ?_
        refine code_region ?_
        refine sw (v := .bool true) E (tst rfl (decide_eq_true h4)) fun fr E => ?_
        refine ma E fun fr E => ?_
        refine seq_nil' ?_
        refine cond_true E rfl (rfl) ?_
        refine wp_skip ?_
        refine then_normal ?_
        refine cond_true E rfl (rfl) ?_
        refine code_last ?_
        refine mv E fun fr E => ?_
        refine mv E fun fr E => ?_
        refine srow (sz := 1) (xs := _) E M rfl rfl rfl rfl rfl (run_buildSliceA (us := [c]) (vs := [c]) rfl rfl rfl T.slice52 T.size54 T.zl54 rfl (by simp [show c.cells = #[c] from Reads.cellR (M.bytes 0 rfl)]) rfl rfl (by simp [show c.cells = #[c] from Reads.cellR (M.bytes 0 rfl)])) (rfl) (Nat.le_refl _) (by decide) (rfl) fun nr fr w M E => ?_
        refine sapp (i := 3) E M rfl rfl rfl rfl rfl rfl rfl rfl rfl rfl rfl T.slice52 T.slice52 T.zt54 T.by54 (by decide) (M.reads 0 rfl) (fun u hu => (List.mem_singleton.1 hu) ▸ Reads.oneR (M.bytes 1 rfl)) (by omega) fun rows fr w M E => ?_
        refine ma E fun fr E => ?_
        refine seq_nil ?_
        refine block_normal ?_
        refine block_normal ?_
        refine then_normal ?_
        refine code_last ?_
        refine mv E fun fr E => ?_
        refine sw (v := .int _ (((i + 1 : Nat) : Int))) E (num rfl ((i64_id (by omega) (by omega)).trans (by omega))) fun fr E => ?_
        refine ma E fun fr E => ?_
        refine seq_nil ?_
        refine then_any ?_
        have M := M.pull 9 rfl
        have M := M.pull 9 rfl
        have M := M.pull 9 rfl
        have M := M.pull 9 rfl
        have M := M.pull 9 rfl
        have M := M.pull 7 rfl
        have M := M.pull 8 rfl
        have M := M.pull 9 rfl
        have M := M.pull 9 rfl
        have M := (M.pour).pull 1 rfl
        exact ⟨35 + (sg * 32).toNat - (i + 1), by omega, i + 1, _, (ps ++ [(c, A'.read i)]), D2, _, rfl, by omega, by omega, by simp; omega, by simp; omega, hD2, hSn, by rw [← hR, next_row (.inl h4)]; simp [hrd], ((((((((((Env.nil E).add E (t := 0) rfl).add E (t := 1) rfl).add E (t := 7) rfl).add E (t := 8) rfl).add E (t := 9) rfl).add E (t := 10) rfl).add E (t := 12) rfl).add E (t := 13) rfl).add E (t := 14) rfl).add E (t := 15) rfl, (Mem.take (L := [.row 54 1 _ (ps.length + 1) (ps.map (·.1) ++ [c]), .pool ((c, A'.read i) :: ps.reverse), dkE D2, nmE N, .blk g0 (.cells #[.int .i64 20, .int .i64 32, .int .i64 4] 46), .blk g1 (.cells #[.int .i64 sg, .int .i64 sl0] 26), .blk g2 (.cells (bc prev).toArray 28), .blk g3 (.cells bx0.toArray 41)]) M).as (by simp)⟩
      · by_cases h5 : kindOf (A.read i) = 5
        · refine wp_seq ?_
          refine code_region ?_
          refine mv E fun fr E => ?_
          refine mv E fun fr E => ?_
          refine sw (v := .bool true) E (tst rfl (decide_eq_true hi)) fun fr E => ?_
          refine seq_nil' ?_
          refine cond_true E rfl (rfl) ?_
          refine wp_skip ?_
          refine then_normal ?_
          refine wp_seq ?_
          refine wp_block ?_
          refine code_region ?_
          refine mv E fun fr E => ?_
          refine mv E fun fr E => ?_
          have M := M.pull 2 rfl
          refine scallI ([dkE D']) E M rfl rfl rfl rfl rfl (run_call rfl rfl T.fn12) rfl (fun H => Read_a (j := i) H hD' (by rw [hS.n, hn]; omega)) ?_
          rintro ⟨c, D2⟩ fr w hD2 M E
          refine mv E fun fr E => ?_
          refine sw E (run_extract rfl rfl rfl) fun fr E => ?_
          refine sw E (run_extract rfl rfl rfl) fun fr E => ?_
          refine ma E fun fr E => ?_
          refine ma E fun fr E => ?_
          refine seq_nil' ?_
          refine code_region ?_
          refine mv E fun fr E => ?_
          refine sgive E M rfl rfl rfl rfl rfl (run_call rfl rfl T.fn24) (Kind_x (M.bytes 0 rfl) (by omega)) fun fr w M E => ?_
          rw [hrd] at E
          refine seq_nil' ?_
          refine wp_block ?_
          refine wp_seq ?_
          refine code_region ?_
          refine sw (v := .bool false) E (tst rfl (decide_eq_false h4)) fun fr E => ?_
          refine ma E fun fr E => ?_
          refine seq_nil' ?_
          refine cond_false E rfl (rfl) ?_
          refine code_last ?_
          refine sw (v := .bool true) E (tst rfl (decide_eq_true h5)) fun fr E => ?_
          refine ma E fun fr E => ?_
          refine seq_nil ?_
          refine then_normal ?_
          refine cond_true E rfl (rfl) ?_
          refine code_last ?_
          refine mv E fun fr E => ?_
          refine mv E fun fr E => ?_
          refine srow (sz := 1) (xs := _) E M rfl rfl rfl rfl rfl (run_buildSliceA (us := [c]) (vs := [c]) rfl rfl rfl T.slice52 T.size54 T.zl54 rfl (by simp [show c.cells = #[c] from Reads.cellR (M.bytes 0 rfl)]) rfl rfl (by simp [show c.cells = #[c] from Reads.cellR (M.bytes 0 rfl)])) (rfl) (Nat.le_refl _) (by decide) (rfl) fun nr fr w M E => ?_
          refine sapp (i := 3) E M rfl rfl rfl rfl rfl rfl rfl rfl rfl rfl rfl T.slice52 T.slice52 T.zt54 T.by54 (by decide) (M.reads 0 rfl) (fun u hu => (List.mem_singleton.1 hu) ▸ Reads.oneR (M.bytes 1 rfl)) (by omega) fun rows fr w M E => ?_
          refine ma E fun fr E => ?_
          refine seq_nil ?_
          refine block_normal ?_
          refine block_normal ?_
          refine then_normal ?_
          refine code_last ?_
          refine mv E fun fr E => ?_
          refine sw (v := .int _ (((i + 1 : Nat) : Int))) E (num rfl ((i64_id (by omega) (by omega)).trans (by omega))) fun fr E => ?_
          refine ma E fun fr E => ?_
          refine seq_nil ?_
          refine then_any ?_
          have M := M.pull 9 rfl
          have M := M.pull 9 rfl
          have M := M.pull 9 rfl
          have M := M.pull 9 rfl
          have M := M.pull 9 rfl
          have M := M.pull 7 rfl
          have M := M.pull 8 rfl
          have M := M.pull 9 rfl
          have M := M.pull 9 rfl
          have M := (M.pour).pull 1 rfl
          exact ⟨35 + (sg * 32).toNat - (i + 1), by omega, i + 1, _, (ps ++ [(c, A'.read i)]), D2, _, rfl, by omega, by omega, by simp; omega, by simp; omega, hD2, hSn, by rw [← hR, next_row (.inr h5)]; simp [hrd], ((((((((((Env.nil E).add E (t := 0) rfl).add E (t := 1) rfl).add E (t := 7) rfl).add E (t := 8) rfl).add E (t := 9) rfl).add E (t := 10) rfl).add E (t := 12) rfl).add E (t := 13) rfl).add E (t := 14) rfl).add E (t := 15) rfl, (Mem.take (L := [.row 54 1 _ (ps.length + 1) (ps.map (·.1) ++ [c]), .pool ((c, A'.read i) :: ps.reverse), dkE D2, nmE N, .blk g0 (.cells #[.int .i64 20, .int .i64 32, .int .i64 4] 46), .blk g1 (.cells #[.int .i64 sg, .int .i64 sl0] 26), .blk g2 (.cells (bc prev).toArray 28), .blk g3 (.cells bx0.toArray 41)]) M).as (by simp)⟩
        · by_cases h3 : kindOf (A.read i) = 3
          · rw [next_whole h4 h5 h3] at hR
            obtain ⟨sl, hsl, hi2⟩ : ∃ sl : Int, (0 ≤ sl ∧ sl ≤ 31) ∧ 3 + sg * 32 + sl = (i : Int) := ⟨(i : Int) - (3 + sg * 32), by omega, by omega⟩
            refine wp_seq ?_
            refine code_region ?_
            refine mv E fun fr E => ?_
            refine mv E fun fr E => ?_
            refine sw (v := .bool true) E (tst rfl (decide_eq_true hi)) fun fr E => ?_
            refine seq_nil' ?_
            refine cond_true E rfl (rfl) ?_
            refine wp_skip ?_
            refine then_normal ?_
            refine wp_seq ?_
            refine wp_block ?_
            refine code_region ?_
            refine mv E fun fr E => ?_
            refine mv E fun fr E => ?_
            have M := M.pull 2 rfl
            refine scallI ([dkE D']) E M rfl rfl rfl rfl rfl (run_call rfl rfl T.fn12) rfl (fun H => Read_a (j := i) H hD' (by rw [hS.n, hn]; omega)) ?_
            rintro ⟨c, D2⟩ fr w hD2 M E
            refine mv E fun fr E => ?_
            refine sw E (run_extract rfl rfl rfl) fun fr E => ?_
            refine sw E (run_extract rfl rfl rfl) fun fr E => ?_
            refine ma E fun fr E => ?_
            refine ma E fun fr E => ?_
            refine seq_nil' ?_
            refine code_region ?_
            refine mv E fun fr E => ?_
            refine sgive E M rfl rfl rfl rfl rfl (run_call rfl rfl T.fn24) (Kind_x (M.bytes 0 rfl) (by omega)) fun fr w M E => ?_
            rw [hrd] at E
            refine seq_nil' ?_
            refine wp_block ?_
            refine wp_seq ?_
            refine code_region ?_
            refine sw (v := .bool false) E (tst rfl (decide_eq_false h4)) fun fr E => ?_
            refine ma E fun fr E => ?_
            refine seq_nil' ?_
            refine cond_false E rfl (rfl) ?_
            refine code_last ?_
            refine sw (v := .bool false) E (tst rfl (decide_eq_false h5)) fun fr E => ?_
            refine ma E fun fr E => ?_
            refine seq_nil ?_
            refine then_normal ?_
            refine cond_false E rfl (rfl) ?_
            refine code_region ?_
            refine sw (v := .bool true) E (tst rfl (decide_eq_true h3)) fun fr E => ?_
            refine ma E fun fr E => ?_
            refine seq_nil' ?_
            refine cond_true E rfl (rfl) ?_
            refine code_region ?_
            refine mv E fun fr E => ?_
            refine sw (v := .agg #[.int .i64 20, .int .i64 32, .int .i64 4]) E (run_loadAll rfl rfl T.agg46 (M.row (i := 5) rfl) rfl) fun fr E => ?_
            refine sw (v := .agg #[.int .i64 sg, .int .i64 sl0]) E (run_loadAll rfl rfl T.agg26 (M.row (i := 6) rfl) rfl) fun fr E => ?_
            refine sw (v := .pointer (some ⟨_, 0, none⟩)) E (run_fieldAddr rfl rfl T.fld26_0) fun fr E => ?_
            refine sw (v := .int .i64 sg) E (run_loadB rfl rfl T.one3 (M.row (i := 6) rfl) rfl) fun fr E => ?_
            refine sw (v := .pointer (some ⟨_, 1, none⟩)) E (run_fieldAddr rfl rfl T.fld26_1) fun fr E => ?_
            refine sw (v := .int .i64 sl0) E (run_loadB rfl rfl T.one3 (M.row (i := 6) rfl) rfl) fun fr E => ?_
            refine mv E fun fr E => ?_
            refine sw (v := .int _ (sl0 + (i : Int))) E (num rfl (i64_id (by omega) (by omega))) fun fr E => ?_
            refine mv E fun fr E => ?_
            refine sw (v := .int _ (sl)) E (num rfl ((i64_id (by omega) (by omega)).trans (by omega))) fun fr E => ?_
            refine sw (v := .agg ([_, _]).toArray) E (run_buildP (vs := [_, _]) (us := [_, _]) rfl rfl T.ts26 T.zeroL26 rfl rfl rfl rfl) fun fr E => ?_
            refine sw (v := .agg (bc prev).toArray) E (run_loadAll rfl rfl T.agg28 (M.row (i := 7) rfl) (by simp [hp])) fun fr E => ?_
            refine mv E fun fr E => ?_
            refine mv E fun fr E => ?_
            have M := M.pull 4 rfl
            refine scallI ([nmE N]) E M rfl rfl rfl rfl rfl (run_call rfl rfl T.fn25) rfl (fun H => whole_yes (B := B) (S := S) (i := i) (sl := sl) (ps := ps) (bl := A'.read i) H rfl h1 h0 hsl hi2 hp (M.bytes 1 rfl) ((M.reads 3 rfl).asLen (by simp)) (fun q hq' => M.pooled (i := 4) rfl (List.mem_reverse.2 hq')) (by omega) (fun q hq' => ⟨fun c2 => M.off (i := 0) (j := 1) rfl rfl rfl q hq' (feet_one.1 c2), M.lt _ (List.mem_of_getElem? (i := 1) rfl) q (by simp [Ent.row, hq'])⟩) (fun q hq' c2 => M.off (i := 0) (j := 3) rfl rfl rfl q hq' (feet_one.1 c2)) (fun p hp' q hq' => ⟨fun c2 => M.offE (i := 0) (j := 4) rfl rfl rfl q (List.mem_filterMap.2 ⟨p, List.mem_reverse.2 hp', hq'⟩) (feet_one.1 c2), M.lt _ (List.mem_of_getElem? (i := 4) rfl) q (List.mem_filterMap.2 ⟨p, List.mem_reverse.2 hp', hq'⟩)⟩) hkz htz hG (by rw [hrd, hR]; exact hRn)) ?_
            rintro ⟨ev, N2⟩ fr w ⟨hN1, hN2, hN3⟩ M E
            refine sw E (run_extract rfl rfl rfl) fun fr E => ?_
            refine sw E (run_extract rfl rfl rfl) fun fr E => ?_
            refine sset (i := 9) (cs' := (bxC B.s ev B.ep sg B.sl (endS sg B.sl B.s.next) (endL B.sl) B.sum).toArray) E M rfl rfl rfl rfl rfl (run_storeAll (vs := (bxC B.s ev B.ep sg B.sl (endS sg B.sl B.s.next) (endL B.sl) B.sum).toArray) rfl rfl rfl T.size41 (hBz ev) (M.row (i := 9) rfl) rfl (fun u hu => bxC_one (v := ev) (Reads.oneR (M.reads 0 rfl)) u (by simpa using hu))) rfl fun fr w M E => ?_
            refine ma E fun fr E => ?_
            refine seq_nil' ?_
            refine wp_ret ?_
            refine block_ret ?_
            refine block_ret ?_
            refine then_ret ?_
            refine then_ret ?_
            refine block_ret ?_
            refine then_ret ?_
            refine scope_ret ?_
            refine retC2 E rfl rfl rfl T.agg41 (M.row (i := 9) rfl) (hBz ev) ?_
            have M := M.pull 1 rfl
            have M := M.pull 3 rfl
            have M := M.pull 2 rfl
            rw [hrd, hR] at hN3
            exact ⟨(ev, D2, N2), rfl, Mem.fin (L := [(.row 83 35 ev B.s.es.length (ecs B.s.es) : Ent), dkE D2, nmE N2] ++ _) M (List.sublist_append_left _ _) ⟨⟨_, hD2, hSn⟩, hN1, hN2, hN3⟩⟩
          · rw [next_else h4 h5 h3] at hR
            rw [← hR] at hRn
            cases hRn
    · have hfu : (35 + sg * 32 - (i : Int)).toNat = 0 := by omega
      rw [hfu] at hR
      rw [← hR] at hRn
      cases hRn
end Go.Proofs.Ytnebjbgcibjohaa.K
end
